/- Rules of a calculus of walks: no condition of its own. -/
import Derived.Test.YtboaclfnjdhcpaaDoorCore25
namespace Aw
open Go
section
variable {P : Program} {ops : Array Oper}
structure DoneE (ops : Array Oper) (S : List Nat) (e : Nat) (X : Nat → AV) (σ0 : St) (be : Bool) (l : Array Bool) (σ : St) : Prop where
 size : l.size = ops.size
 sub : ∀ i,l.getD i false = true → i ∈ S ∨ (i = e ∧ be = true)
 isE : l.getD e false = be
 down : ∀ i,l.getD i false = true → ∀ k ∈ bindsAt ops i,l.getD k false = true
 base : Base σ0 σ
 env : ∀ t,(∃ i ∈ S,l.getD i false = true ∧ dstAt ops i = some t ∧ get σ.env t = some (X i)) ∨ ((∀ i ∈ S,l.getD i false = true → dstAt ops i ≠ some t) ∧ get σ.env t = get σ0.env t)
structure FactsE (P : Program) (ops : Array Oper) (S : List Nat) (e : Nat) (X : Nat → AV) (σ0 : St) : Prop where
 nodup : S.Nodup
 dist : ∀ i ∈ S,∀ j ∈ S,dstAt ops i = dstAt ops j → i = j
 isop : ∀ i ∈ S,∃ o d,ops[i]? = some o ∧ o.dst = some d
 early : ∀ (A : List Nat) (i : Nat) (B : List Nat),S = A ++ i :: B → ∀ k ∈ bindsAt ops i,k ∈ A
 tail : ∀ j,j < ops.size → j ∉ S → j ≠ e → (∀ i ∈ S,i ∈ reach ops 9 j) ∧ e ∈ reach ops 9 j
 step : ∀ i ∈ S,∃ o σi,ops[i]? = some o ∧ Base σ0 σi ∧ FnAt P ops i o σi (X i) ∧ ∀ t ∈ o.looksAt ops,∀ x,get σi.env t = some x →
  (∃ k ∈ S,dstAt ops k = some t ∧ k ∈ binds o ∧ X k = x) ∨ ((∀ k ∈ S,dstAt ops k ≠ some t) ∧ get σ0.env t = some x)
end
end Aw
