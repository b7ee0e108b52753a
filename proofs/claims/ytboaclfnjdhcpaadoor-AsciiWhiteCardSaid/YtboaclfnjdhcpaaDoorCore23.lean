/- Rules of a calculus of walks: no condition of its own. -/
import Derived.Test.YtboaclfnjdhcpaaDoorCore22
namespace Aw
open Go
section
variable {P : Program} {ds : List (Option Tmp)} {σ : St} {o : Oper} {K : St → Prop} {Kp : AV → St → Prop}
end
end Aw
