/- Rules of a calculus of walks: no condition of its own. -/
import Derived.Test.YtboaclfnjdhcpaaDoorCore18
namespace Aw
open Go
variable {P : Program} {ops : Array Oper} {y : Code} {id : Nat} {σ : St} {Q : AX → St → Prop}
theorem AW.tGL {σf : St} (T : PT) (h : awTree P ops (fun σ=>σ.norm = σf) (fun x σ'=>Q (.panic x) σ') T σ) (hk : Q .normal σf) (hm : P.follows .mixedOrders = true:=by kernel_rfl) (hsel : Region.noSelect ops = true:=by kernel_rfl)
  (hp : treeOk ops false ops.size T (Array.replicate ops.size false) = true:=by kernel_rfl) (hQ : PI Q:=by repeat (first | exact Aw.PI.fin | exact Aw.PI.finH | refine Aw.PI.unblock ?_ | refine Aw.PI.andThen ?_)) : AW P (.region id ops true) σ Q :=
 AW.drawTreeG T hm hsel hp hQ h hk
end Aw
