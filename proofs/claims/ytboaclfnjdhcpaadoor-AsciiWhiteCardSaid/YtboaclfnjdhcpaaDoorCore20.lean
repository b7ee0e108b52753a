/- Rules of a calculus of walks: no condition of its own. -/
import Derived.Test.YtboaclfnjdhcpaaDoorCore19
namespace Aw
open Go
section
variable {P : Program} {ops : Array Oper} {σ : St} {Q : AX → St → Prop} {id : Nat}
end
end Aw
