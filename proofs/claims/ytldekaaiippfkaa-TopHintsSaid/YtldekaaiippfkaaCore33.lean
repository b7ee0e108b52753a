/- Rules of a calculus of walks: no condition of its own. -/
import Derived.Test.YtldekaaiippfkaaCore32
import Derived.OrdersIn
import Derived.Laws.IdiomRangeMap
namespace Aw
open Go
section
variable {B : Nat} {r : Option Nat} {Θ : Mem → Prop} {P : Program} {ops : Array Oper} {K : St → Prop} {Kp : AV → St → Prop}
end
end Aw

namespace Aw
open Go
section
variable {κ ν : Type} [DecidableEq κ] {kind : TypeDesc} {VK : κ → Value} {K : κ → AV} {V : ν → AV}
end
section
variable {κ ν : Type} {K : κ → AV} {V : ν → AV}
def mapOf (K : κ → AV) (V : ν → AV) (l : List (κ × ν)) : ABlk := .amap (l.map fun p => K p.1) (l.map fun p => V p.2)
def cmapOf (K : κ → AV) (V : ν → AV) (l : List (κ × ν)) : AV := .cmap (l.map fun p => K p.1) (l.map fun p => V p.2)
theorem renB_mapOf (π : Nat → Nat) (l : List (κ × ν)) : renB π (mapOf K V l) = mapOf K V l := rfl
theorem ren_cmapOf (π : Nat → Nat) (l : List (κ × ν)) : ren π (cmapOf K V l) = cmapOf K V l := rfl
end
section
variable {κ ν : Type} [DecidableEq κ] {kind : TypeDesc} {VK : κ → Value} {K : κ → AV} {V : ν → AV}
variable {P : Program} {ds : List (Option Tmp)} {σ : St} {o : Oper} {KK : St → Prop} {Kp : AV → St → Prop} {ob ob' : Prop}
end
attribute [go_sem high] renB_mapOf ren_cmapOf
end Aw

namespace Aw
open Go
section
variable {κ ν : Type} {K : κ → AV} {V : ν → AV}
def itOf (K : κ → AV) (V : ν → AV) (l : List (κ × ν)) (cur : Option (κ × ν)) : ABlk := .it (l.map fun p => (K p.1, V p.2)) (cur.map fun p => (K p.1, V p.2))
theorem renB_itOf (π : Nat → Nat) (l : List (κ × ν)) (c : Option (κ × ν)) : renB π (itOf K V l c) = itOf K V l c := rfl
end
section
variable {κ ν : Type} {K : κ → AV} {V : ν → AV} {P : Program} {ds : List (Option Tmp)} {σ : St} {o : Oper} {KK : St → Prop} {Kp : AV → St → Prop} {ob : Prop}
end
attribute [go_sem high] renB_itOf
end Aw
