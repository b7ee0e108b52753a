/- Rules of a calculus of walks: no condition of its own. -/
import Derived.Test.YtboaclfnjdhcpaaDoorCore12
namespace Aw
open Go
section
variable {P : Program} {ds : List (Option Tmp)} {σ : St} {o : Oper} {K : St → Prop} {Kp : AV → St → Prop} {ob ob' ob'' b1 b2 b3 : Prop} {Q : AX → St → Prop} {c : Code}
theorem AW.drop (id : Nat) (h : AW P c ⟨σ.n,σ.env,del σ.hp id,σ.nx,σ.gl,σ.np,σ.df⟩ Q) : AW P c σ Q :=
 fun m a hS=>h m a ⟨hS.h.del id,hS.n,hS.defers,hS.env,hS.gl,hS.np⟩
end
attribute [go_sem] fsrc Int.sub_zero
end Aw

namespace Aw
open Go
structure KeyOk {κ : Type} [DecidableEq κ] (kind : TypeDesc) (V : κ → Value) (K : κ → AV) : Prop where
 rep : ∀ (m : Mem) (k : Nat) (a : κ) (v : Value),Rep m k (K a) v ↔ v = V a
 same : ∀ a b,Instr.sameNow kind (V a) (V b) = some (decide (a = b))
 bits : ∀ a,Instr.sameBits 10000 (V a) (V a) = true
 plain : ∀ (P : Program) (t : TypeId) (w : World) (e : Bool) (a : κ),P.underlying t = some kind → (Instr.checkKey e 10000 t (V a)).run P w = .ok () w
section
variable {κ : Type} [DecidableEq κ] {kind : TypeDesc} {V : κ → Value} {K : κ → AV}
theorem KeyOk.inj (hK : KeyOk kind V K) {a b : κ} (h : V a = V b) : a = b:=by
 have h1:=hK.same a a
 have h2:=hK.same a b
 rw [← h,h1] at h2
 simpa using h2
variable {P : Program} {ds : List (Option Tmp)} {σ : St} {o : Oper} {KK : St → Prop} {Kp : AV → St → Prop} {ob ob' : Prop}
def setOf (K : κ → AV) (l : List κ) : ABlk:=.amap (l.map K) (l.map fun _=>.bool true)
theorem renB_setOf {κ : Type} (π : Nat → Nat) (K : κ → AV) (l : List κ) : renB π (setOf K l) = setOf K l:=rfl
attribute [go_sem high] renB_setOf
end
end Aw
