/- Rules of a calculus of walks: no condition of its own. -/
import Derived.Test.YtboaclfnjdhcpaaDoorCore28
namespace Aw
open Go
section
variable {κ ν : Type} [DecidableEq κ] {kind : TypeDesc} {VK : κ → Value} {K : κ → AV} {V : ν → AV} {P : Program} {ds : List (Option Tmp)} {σ : St} {o : Oper} {KK : St → Prop} {Kp : AV → St → Prop} {ob : Prop}
end
/-! a function value in a cell that it takes along -/
section
variable {P : Program} {ds : List (Option Tmp)} {σ : St} {o : Oper} {K : St → Prop} {Kp : AV → St → Prop} {ob ob' ob1 : Prop} {f : FuncId} {ys xs : List AV}
end
section
variable {P : Program} {ds : List (Option Tmp)} {σ : St} {o : Oper} {K : St → Prop} {Kp : AV → St → Prop} {ob ob' : Prop} {f : FuncId} {ys xs zs : List AV} {hp0 hp1 : List (Nat × ABlk)} {n1 : Nat}
end
end Aw
