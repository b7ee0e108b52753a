/- Rules of a calculus of walks: no condition of its own. -/
import Derived.Test.YtboaclfnjdhcpaaDoorCore36
namespace Aw
open Go
section
variable {P : Program} {σ : St} {Q : AX → St → Prop} {y : Code} {ops : Array Oper} {id : Nat}
theorem EffAt.of {e : Nat} {oe : Oper} {σ : St} {hp1 : List (Nat × ABlk)} {ob : Prop} {v : AV} (L : List Nat) (hoe : nth ops.toList e = some oe:=by exact rfl) (hg : oe.guard = none:=by exact rfl) (hL : L.all (fun t=>(oe.looksAt ops).contains t) = true:=by kernel_rfl)
  (hn : pureOp P ⟨σ.n,keepE L σ.env,σ.hp,σ.nx,σ.gl,σ.np,σ.df⟩ true oe.op = none:=by exact rfl) (h : effOp P ⟨σ.n,keepE L σ.env,σ.hp,σ.nx,σ.gl,σ.np,σ.df⟩ oe.op = some ⟨ob,v,hp1,σ.nx⟩:=by (simp only [go_sem,seval]; iterate 2 try (simp (disch:=omega) only [zq]; try simp only [go_sem,seval])); exact rfl) (hd : dstOk σ.n oe.dst = true:=by exact rfl) (hob : ob:=by ((try (simp only [go_sem,seval]; iterate 2 try (simp (disch:=omega) only [zq]; try simp only [go_sem,seval]))); try (first | exact True.intro | omega | (simp only [zb]; omega) | (simp; done) | (simp; omega) | (and_intros <;> first | assumption | omega | (simp; done) | (simp; omega))))) : EffAt P ops e oe σ hp1:=by
 refine ⟨⟨σ.n,keepE L σ.env,σ.hp,σ.nx,σ.gl,σ.np,σ.df⟩,⟨rfl,rfl,rfl,rfl,rfl,rfl⟩,fun t x ht=>?_,?_⟩
 ·obtain ⟨h1,h2⟩:=get_keepE _ _ t x ht
  have:=List.all_eq_true.1 hL t h1
  exact ⟨by simpa using this,h2⟩
 ·refine awGuard_sound (nth_ops hoe) ?_
  unfold awGuard
  rw [hg]
  simp only
  unfold awStep
  rw [hn,h]
  exact ⟨hd,hob,by cases oe.dst <;> exact ⟨rfl,rfl⟩⟩
end
section
variable {B : Bs} {r : Option Nat} {Θ : Mem → Prop} {P : Program} {σ : St} {Q : AX → St → Prop} {y : Code} {ops : Array Oper} {id : Nat}
end
end Aw
