/- A part of the proof of a law of the seat: no condition of its own. -/
import Derived.Test.YtahflphnoncnfaaTaBase
import Derived.Test.YtahflphnoncnfaaAwRow
import Derived.Test.YtahflphnoncnfaaRows
namespace Go.Proofs.Ytahflphnoncnfaa
open Go
theorem own : ownKnob Try.prog.godebug = none := by kernel_rfl
theorem laidOut : laidOutB Try.prog = true := by kernel_rfl
end Go.Proofs.Ytahflphnoncnfaa
