/- Rules of a calculus of walks: no condition of its own. -/
import Derived.Test.YtlamdhcfojligaaGreatCore24
namespace Aw
open Go
section
variable {P : Program} {ops : Array Oper} {K : St → Prop} {σ σ1 : St} {i : Nat} {o : Oper} {rest : List Nat} {ob ob' ob1 ob1' : Prop} {f : FuncId} {ys xs ys1 : List AV}
def stepX (P : Program) (ds : List (Option Tmp)) (σ : St) (o : Oper) : Option (Prop × AV) :=
 match o.guard with
 | none=>match pureOp P σ true o.op with
  | some r=>if dstOk σ.n o.dst = true then some r else none
  | none=>none
 | some p=>match gAt ds σ p.1 p.2 with
  | none=>none
  | some g=>match pureOp P σ g o.op with
   | some r=>if dstOk σ.n o.dst = true then some ((g = true → r.1),.opt g r.2) else none
   | none=>none
attribute [go_sem] stepX
theorem stepX_take {ds : List (Option Tmp)} {X : AV} (h : stepX P ds σ o = some (ob,X)) (hob : ob) : TakeAt P ds o false σ X:=by
 unfold stepX at h
 unfold TakeAt
 split at h
 ·rename_i hg
  rw [hg]
  split at h
  ·rename_i r hr
   split at h
   ·rename_i hd
    simp only [Option.some.injEq] at h
    subst h
    exact ⟨hd,_,hr,hob,rfl⟩
   ·cases h
  ·cases h
 ·rename_i p hg
  rw [hg]
  split at h
  ·cases h
  rename_i g hgv
  split at h
  ·rename_i r hr
   split at h
   ·rename_i hd
    simp only [Option.some.injEq,Prod.mk.injEq] at h
    obtain ⟨rfl,rfl⟩:=h
    exact ⟨hd,g,hgv,r,hr,hob,rfl⟩
   ·cases h
  ·cases h
theorem awFunE.p {x : AV} (hK : awFunE P ops K rest (σ.put o.dst x) (σ1.put o.dst x)) (ho : nth ops.toList i = some o:=by exact rfl) (h : stepX P (ops.toList.map (·.dst)) σ o = some (ob,x):=by (simp only [go_sem,seval]; iterate 2 try (simp (disch:=omega) only [zq]; try simp only [go_sem,seval])); exact rfl) (h1 : stepX P (ops.toList.map (·.dst)) σ1 o = some (ob1,x):=by (simp only [go_sem,seval]; iterate 2 try (simp (disch:=omega) only [zq]; try simp only [go_sem,seval])); exact rfl)
  (hob : ob:=by ((try (simp only [go_sem,seval]; iterate 2 try (simp (disch:=omega) only [zq]; try simp only [go_sem,seval]))); try (first | exact True.intro | omega | (simp only [zb]; omega) | (simp; done) | (simp; omega) | (and_intros <;> first | assumption | omega | (simp; done) | (simp; omega))))) (hob1 : ob1:=by ((try (simp only [go_sem,seval]; iterate 2 try (simp (disch:=omega) only [zq]; try simp only [go_sem,seval]))); try (first | exact True.intro | omega | (simp only [zb]; omega) | (simp; done) | (simp; omega) | (and_intros <;> first | assumption | omega | (simp; done) | (simp; omega))))) : awFunE P ops K (i :: rest) σ σ1 :=
 ⟨o,x,nth_ops ho,FnAt.take (nth_ops ho) (stepX_take h hob),FnAt.take (nth_ops ho) (stepX_take h1 hob1),hK⟩
theorem awFunE_nil : awFunE P ops K [] σ σ1 = K σ1:=rfl
variable {id : Nat} {y : Code} {Q : AX → St → Prop}
end
end Aw
