/- Rules of a calculus of walks: no condition of its own. -/
import Derived.Test.YthpbpnfgenhhdaaGreatCore31
import Derived.LoopN
namespace Aw
open Go
end Aw

namespace Aw
open Go
section
variable {P : Program} {c : Code} {Q : AX → St → Prop} {σ : St}
def AWR (P : Program) (c : Code) (Q : AX → St → Prop) : Nat → St → Prop
 | 0,_=>False
 | n + 1,σ=>AW P c σ (andThen (fun σ'=>AWR P c Q n σ') Q)
theorem AWR.s {n : Nat} (h : AW P c σ (andThen (fun σ'=>AWR P c Q n σ') Q)) : AWR P c Q (n + 1) σ:=h
end
end Aw
