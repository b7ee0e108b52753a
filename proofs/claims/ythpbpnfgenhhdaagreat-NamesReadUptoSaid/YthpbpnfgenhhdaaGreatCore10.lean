/- Rules of a calculus of walks: no condition of its own. -/
import Derived.Test.YthpbpnfgenhhdaaGreatCore9
namespace Aw
open Go
section
variable {P : Program} {σ σ' : St} {Q : AX → St → Prop} {y : Code} {id : Nat} {ops : Array Oper} {ob : Prop}
theorem AW.seqReg (h : runOps P (ops.toList.map (·.dst)) ops.toList σ = (ob,[],σ')) (hob : ob) (hk : AW P y σ' Q) : AW P (.seq (.region id ops false) y) σ Q :=
 AW.seq (AW.regAll h hob hk)
theorem AW.seqRegN {l : List Oper} (h : runOps P (ops.toList.map (·.dst)) ops.toList σ = (ob,l,σ')) (hob : ob)
  (hk : awOps P (ops.toList.map (·.dst)) l σ' (fun σ'=>AW P y σ' Q) (fun x σ'=>Q (.panic x) σ')) : AW P (.seq (.region id ops false) y) σ Q :=
 AW.seq (AW.reg h hob hk)
theorem AW.seqDraw (pl : List (Nat × Nat)) (hm : P.follows .mixedOrders = true) (hsel : Region.noSelect ops = true)
  (hp : (planOk ops pl (Array.replicate ops.size false) && pl.length == ops.size) = true) (hQ : PI Q)
  (h : runPlan P ops.toList (ops.toList.map (·.dst)) pl σ = (ob,[],σ')) (hob : ob) (hk : AW P y σ' Q) : AW P (.seq (.region id ops true) y) σ Q :=
 AW.seq (AW.drawAll pl hm hsel hp hQ h hob hk)
theorem insens_fin {R : AE → Prop} : insens (finPanic R):=by
 intro y σ1 σ2 _ h2 _ _ _ h6 h
 unfold finPanic closeR at *
 rw [h2,h6]
 exact h
theorem PI.unblock {id : Nat} {Q : AX → St → Prop} (h : PI Q) : PI (Aw.unblock id Q):=h
theorem PI.andThen {N : St → Prop} {Q : AX → St → Prop} (h : PI Q) : PI (Aw.andThen N Q):=h
theorem PI.fin {P : Program} {rs : List ResultVar} {R : AE → Prop} : PI (Aw.fin P rs R):=insens_fin
end
end Aw
