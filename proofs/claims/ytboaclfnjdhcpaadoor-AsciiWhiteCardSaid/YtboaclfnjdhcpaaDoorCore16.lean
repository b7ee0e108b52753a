/- Rules of a calculus of walks: no condition of its own. -/
import Derived.Test.YtboaclfnjdhcpaaDoorCore15
namespace Aw
open Go
theorem get_keepE_mem {L : List Nat} {env : List (Nat × AV)} {t : Nat} (h : t ∈ L) : get (keepE L env) t = get env t:=by
 induction L with
 | nil=>cases h
 | cons u r ih =>
  simp only [keepE]
  by_cases e : u = t
  ·subst e
   cases hu : get env u with
   | some x=>simp [get]
   | none =>
    simp only
    by_cases hr : u ∈ r
    ·rw [ih hr,hu]
    ·cases hk : get (keepE r env) u with
     | none=>rfl
     | some x=>exact absurd (get_keepE r env u x hk).1 hr
  ·have hr : t ∈ r:=by
    rcases List.mem_cons.1 h with h | h
    ·exact absurd h.symm e
    ·exact h
   split
   ·simp only [get,if_neg e]
    exact ih hr
   ·exact ih hr
section
variable {P : Program} {ops : Array Oper} {K : St → Prop} {σ σ' : St} {i : Nat} {o : Oper} {rest rest' : List Nat} {ob ob' : Prop} {f : FuncId} {ys xs : List AV}
theorem FnAt.take {X : AV} (ho : ops[i]? = some o) (hT : TakeAt P (ops.toList.map (·.dst)) o false σ X) : FnAt P ops i o σ X :=
 ⟨⟨σ.n,keepE (o.looksAt ops) σ.env,σ.hp,σ.nx,σ.gl,σ.np,σ.df⟩,⟨rfl,rfl,rfl,rfl,rfl,rfl⟩,fun t x h=>get_keepE _ _ t x h,
  awGuard_sound ho (TakeAt.guard (hT.congr (σ':=⟨σ.n,keepE (o.looksAt ops) σ.env,σ.hp,σ.nx,σ.gl,σ.np,σ.df⟩) rfl rfl (fun _=>.inl rfl) (fun t ht=>get_keepE_mem ht))
   (K:=fun σ'=>σ'.hp = σ.hp ∧ σ'.nx = σ.nx ∧ ∀ d,o.dst = some d → get σ'.env d = some X) ⟨by cases o.dst <;> rfl,by cases o.dst <;> rfl,fun d hd=>by rw [hd]; simp [St.put,get_set]⟩)⟩
def runFun (P : Program) (l : List Oper) (ds : List (Option Tmp)) : List Nat → St → Prop × List Nat × St
 | [],σ=>(True,[],σ)
 | i :: r,σ=>match nth l i with
  | none=>(True,i :: r,σ)
  | some o=>match stepTake P ds σ o false with
   | none=>(True,i :: r,σ)
   | some q=>match runFun P l ds r q.2 with
    | z=>(q.1 ∧ z.1,z.2)
theorem awFun.run : ∀ {S S' : List Nat} {σ σ' : St} {ob : Prop},runFun P ops.toList (ops.toList.map (·.dst)) S σ = (ob,S',σ') → ob → awFun P ops K S' σ' → awFun P ops K S σ
 | [],S',σ,σ',ob,h,_,hk=>by
  simp only [runFun,Prod.mk.injEq] at h
  obtain ⟨_,rfl,rfl⟩:=h
  exact hk
 | i :: r,S',σ,σ',ob,h,hob,hk=>by
  simp only [runFun] at h
  split at h
  ·simp only [Prod.mk.injEq] at h
   obtain ⟨_,rfl,rfl⟩:=h
   exact hk
  rename_i o ho
  split at h
  ·simp only [Prod.mk.injEq] at h
   obtain ⟨_,rfl,rfl⟩:=h
   exact hk
  rename_i q hq
  generalize hz : runFun P ops.toList (ops.toList.map (·.dst)) r q.2 = z at h
  obtain ⟨z1,z2,z3⟩:=z
  simp only [Prod.mk.injEq] at h
  obtain ⟨rfl,rfl,rfl⟩:=h
  have hrest:=awFun.run hz hob.2 hk
  obtain ⟨x,hT,hx⟩:=stepTake_sound (ob:=q.1) (σ':=q.2) hq hob.1
  exact ⟨o,x,nth_ops ho,FnAt.take (nth_ops ho) hT,by rw [← hx]; exact hrest⟩
theorem awFun.rn (hk : awFun P ops K rest' σ') (h : runFun P ops.toList (ops.toList.map (·.dst)) rest σ = (ob,rest',σ'):=by (simp only [go_sem,seval]; iterate 2 try (simp (disch:=omega) only [zq]; try simp only [go_sem,seval])); exact rfl) (hob : ob:=by ((try (simp only [go_sem,seval]; iterate 2 try (simp (disch:=omega) only [zq]; try simp only [go_sem,seval]))); try (first | exact True.intro | omega | (simp only [zb]; omega) | (simp; done) | (simp; omega) | (and_intros <;> first | assumption | omega | (simp; done) | (simp; omega))))) : awFun P ops K rest σ:=awFun.run h hob hk
def ebuildF (P : Program) (σ : St) (t : TypeId) (n : Nat) (ps : List (Nat × Operand)) : Option (Prop × AV) :=
 match tinfo P t with
 | none=>none
 | some ti=>match ti.k with
  | .slice e=>match tinfo P e,parts σ ps with
   | some ei,some q=>match ei.zero,closeParts σ.hp q.2 with
    | some z,some r=>if 1 ≤ ei.sz ∧ z.length = ei.sz ∧ n * ei.sz ≤ 65536 ∧ partsOk n ei.sz r.2 = true ∧ 0 < n then
      some (q.1 ∧ r.1,.sl (putAll (rep n z) r.2))
     else none
    | _,_=>none
   | _,_=>none
  | _=>none
variable {Q : AX → St → Prop} {id : Nat} {y : Code}
theorem awFun_nil : awFun P ops K [] σ = K σ:=rfl
end
attribute [go_sem] runFun ebuildF awFun_nil
end Aw
