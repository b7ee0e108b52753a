/- Rules of a calculus of walks: no condition of its own. -/
import Derived.Test.YtldekaaiippfkaaCore28
namespace Aw
open Go
section
variable {m : Mem} {hp : List (Nat × ABlk)} {nx : Nat}
end
section
variable {B : Nat} {r : Option Nat} {Θ : Mem → Prop} [Lasts Θ] {P : Program} {σ : St} {Q : AX → St → Prop} {g : Operand} {ps : List Tmp} {assign body : Code} {it : FuncId} {caps zs xs : List AV} {ob' : Prop} {L : List Nat}
 {hp0 : List (Nat × ABlk)} {E : List (Nat × AV)} {R : Option Code → List (Nat × ABlk) → Nat → Prop}
end
end Aw
