/- Rules of a calculus of walks: no condition of its own. -/
import Derived.Test.YtldekaaiippfkaaCore36
namespace Aw
open Go
/-! regions without an order -/
section
variable {B : Nat} {r : Option Nat} {Θ : Mem → Prop} {P : Program} {σ σ' : St} {Q : AX → St → Prop} {y : Code} {ops : Array Oper} {id : Nat} {ob : Prop} {pl' : List (Nat × Nat)}
/-- what is less -/
theorem AWT.pre [Lasts Θ] {c : Code} (h : St.le σ' σ) (k : AWT B r Θ P c σ' Q) : AWT B r Θ P c σ Q := by
 intro m a hS ht
 obtain ⟨m', h1, h2, h3⟩ := hS.le h
 rw [← h1]
 exact wpIn_mono (k m' a h3 (Lasts.le h2 ht)) fun _ _ _ hp => hp.trans h2
end
/-! loops over functions that may be left -/
section
variable {B : Nat} {r : Option Nat} {Θ : Mem → Prop} [Lasts Θ] {P : Program} {σ : St} {Q : AX → St → Prop} {ob' : Prop} {zs xs : List AV}
end
/-! maps -/
section
variable {κ ν : Type} [DecidableEq κ] {kind : TypeDesc} {VK : κ → Value} {K : κ → AV} {V : ν → AV} {P : Program} {ds : List (Option Tmp)} {σ : St} {o : Oper} {KK : St → Prop} {Kp : AV → St → Prop} {ob ob' : Prop}
end
section
variable {κ ν : Type} {K : κ → AV} {V : ν → AV} {P : Program} {ds : List (Option Tmp)} {σ : St} {o : Oper} {KK : St → Prop} {Kp : AV → St → Prop} {ob : Prop}
end
section
variable {κ : Type} [DecidableEq κ] {kind : TypeDesc} {V : κ → Value} {K : κ → AV} {P : Program} {ds : List (Option Tmp)} {σ : St} {o : Oper} {KK : St → Prop} {Kp : AV → St → Prop} {ob ob' : Prop}
end
end Aw
