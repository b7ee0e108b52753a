/- Rules of a calculus of walks: no condition of its own. -/
import Derived.Test.YtldekaaiippfkaaCore33
namespace Aw
open Go
/-- slots that a round sees -/
def renE (π : Nat → Nat) : List (Nat × AV) → List (Nat × AV) → Prop
 | [], _ => True
 | p :: r, env => get env p.1 = some (ren π p.2) ∧ renE π r env
theorem renHp_cons (π : Nat → Nat) (i : Nat) (x : ABlk) (r : List (Nat × ABlk)) : renHp π ((i, x) :: r) = (π i, renB π x) :: renHp π r := rfl
theorem noTHm_cons (i : Nat) (x : ABlk) (r : List (Nat × ABlk)) : noTHm ((i, x) :: r) = (noTBm x && noTHm r) := rfl
theorem viewHp_cons (π : Nat → Nat) (nx : Nat) (hp : List (Nat × ABlk)) (i : Nat) (x : ABlk) (r : List (Nat × ABlk)) : viewHp π nx hp ((i, x) :: r) = ((i < nx ∧ get hp (π i) = some (renB π x)) ∧ viewHp π nx hp r) := rfl
attribute [go_sem ↓ high] renB_setOf renHp_cons noTHm_cons viewHp_cons
section
variable {B : Nat} {r : Option Nat} {Θ : Mem → Prop} {P : Program} {σ σ' : St} {Q : AX → St → Prop} {x y : Code} {c : Code} {id : Nat} {o : Oper} {rest : List Oper} {ops : Array Oper} {K : St → Prop} {Kp : AV → St → Prop} {ob ob' : Prop} {f : FuncId} {ys zs xs : List AV} {l : List Oper} {hp0 hp1 : List (Nat × ABlk)} {n1 : Nat}
end
attribute [go_sem] ayield renE
end Aw
