/- Rules of a calculus of walks: no condition of its own. -/
import Derived.Test.YthpbpnfgenhhdaaGreatCore20
namespace Aw
open Go
variable {P : Program} {ops : Array Oper} {y : Code} {id : Nat} {σ : St} {Q : AX → St → Prop}
end Aw
