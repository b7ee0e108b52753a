/- Rules of a calculus of walks: no condition of its own. -/
import Derived.Test.YtboaclfnjdhcpaaDoorCore37
namespace Aw
open Go
section
variable {B : Bs} {r : Option Nat} {Θ : Mem → Prop} {P : Program} {σ σ' : St} {Q : AX → St → Prop} {x y : Code} {c : Code} {id : Nat} {o : Oper} {rest : List Oper} {ops : Array Oper} {K : St → Prop} {Kp : AV → St → Prop} {ob ob' : Prop} {f : FuncId} {ys zs xs : List AV} {l : List Oper} {hp0 hp1 : List (Nat × ABlk)} {n1 : Nat}
theorem AWT.post {Q : AX → St → Prop} {c : Code} (h : AWT B r Θ P c σ (fun ax σ'=>ax = .normal ∧ ∃ σ'',St.le σ'' σ' ∧ Q .normal σ'')) : AWT B r Θ P c σ Q:=fun m a hS ht=>by
 refine wpB_mono (h m a hS ht) ?_
 rintro e a' w' ⟨m',σ',ax,rfl,hle,hS',hex,rfl,σ'',h2,hq⟩
 simp only [exOk] at hex
 subst hex
 obtain ⟨m2,e2,l2,s2⟩:=hS'.le h2
 exact ⟨m2,σ'',.normal,e2,hle.trans l2,s2,rfl,hq⟩
end
section
variable {B : Bs} {r : Option Nat} {Θ : Mem → Prop} {P : Program} {σ : St} {Q : AX → St → Prop} {y : Code} {ops : Array Oper} {id : Nat}
end
section
variable {P : Program} {ds : List (Option Tmp)} {σ : St} {o : Oper} {K : St → Prop} {Kp : AV → St → Prop} {ob : Prop} {ops : Array Oper} {i : Nat} {t r : PT}
end
end Aw
