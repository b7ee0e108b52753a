/- Rules of a calculus of walks: no condition of its own. -/
import Derived.Test.YtboaclfnjdhcpaaDoorCore27
namespace Aw
open Go
/-! regions without an order -/
section
variable {B : Bs} {r : Option Nat} {Θ : Mem → Prop} {P : Program} {σ σ' : St} {Q : AX → St → Prop} {y : Code} {ops : Array Oper} {id : Nat} {ob : Prop} {pl' : List (Nat × Nat)}
theorem AWT.fS [Lasts Θ] (S : List Nat) (pl : List (Nat × Nat)) (h : awFun P ops (awPlan P ops (fun σ'=>AWT B r Θ P y σ' Q) (fun x σ'=>Q (.panic x) σ') pl) S σ) (hm : P.follows .mixedOrders = true:=by kernel_rfl) (hsel : Region.noSelect ops = true:=by kernel_rfl) (hok : funOk ops [] S = true:=by kernel_rfl)
  (hp : (planOk ops pl (listAll (Array.replicate ops.size false) S) && pl.length + S.length == ops.size) = true:=by kernel_rfl) (hQ : PI Q:=by repeat (first | exact Aw.PI.fin | exact Aw.PI.finH | exact Aw.PI.round | refine Aw.PI.unblock ?_ | refine Aw.PI.andThen ?_)) (hnd : noDefers ops.toList = true:=by rfl) : AWT B r Θ P (.seq (.region id ops true) y) σ Q :=
 AWT.seq (AWT.ofG hm hnd (AWG.fun S pl hsel hok hp (PI.andThen hQ) h))
theorem AWT.pre [Lasts Θ] {c : Code} (h : St.le σ' σ) (k : AWT B r Θ P c σ' Q) : AWT B r Θ P c σ Q:=by
 intro m a hS ht
 obtain ⟨m',h1,h2,h3⟩:=hS.le h
 rw [← h1]
 exact wpB_mono (k m' a h3 (Lasts.le h2 ht)) fun _ _ _ hp=>hp.trans h2
end
/-! loops over functions that may be left -/
section
variable {B : Bs} {r : Option Nat} {Θ : Mem → Prop} [Lasts Θ] {P : Program} {σ : St} {Q : AX → St → Prop} {ob' : Prop} {zs xs : List AV}
end
/-! maps -/
section
variable {κ ν : Type} [DecidableEq κ] {kind : TypeDesc} {VK : κ → Value} {K : κ → AV} {V : ν → AV} {P : Program} {ds : List (Option Tmp)} {σ : St} {o : Oper} {KK : St → Prop} {Kp : AV → St → Prop} {ob ob' : Prop}
end
section
variable {κ ν : Type} {K : κ → AV} {V : ν → AV} {P : Program} {ds : List (Option Tmp)} {σ : St} {o : Oper} {KK : St → Prop} {Kp : AV → St → Prop} {ob : Prop}
end
section
variable {κ : Type} [DecidableEq κ] {kind : TypeDesc} {V : κ → Value} {K : κ → AV} {P : Program} {ds : List (Option Tmp)} {σ : St} {o : Oper} {KK : St → Prop} {Kp : AV → St → Prop} {ob ob' : Prop}
end
end Aw
