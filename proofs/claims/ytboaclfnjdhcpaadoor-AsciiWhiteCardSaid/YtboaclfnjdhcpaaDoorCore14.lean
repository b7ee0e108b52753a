/- Rules of a calculus of walks: no condition of its own. -/
import Derived.Test.YtboaclfnjdhcpaaDoorCore13
namespace Aw
open Go
section
variable {κ : Type} [DecidableEq κ] {kind : TypeDesc} {V : κ → Value} {K : κ → AV} {P : Program} {ds : List (Option Tmp)} {σ : St} {o : Oper} {KK : St → Prop} {Kp : AV → St → Prop} {ob ob' ob'' : Prop}
end
end Aw
