/- Rules of a calculus of walks: no condition of its own. -/
import Derived.Test.YtboaclfnjdhcpaaDoorCore18
namespace Aw
open Go
variable {P : Program} {ops : Array Oper} {y : Code} {id : Nat} {σ : St} {Q : AX → St → Prop}
theorem AW.tV (T : PT) (σf : St) {ob : Prop} {L : List St} (hv : ∀ σ' ∈ L.map St.norm,St.le σf σ') (hk : AW P y σf Q) (hm : P.follows .mixedOrders = true:=by kernel_rfl) (hsel : Region.noSelect ops = true:=by kernel_rfl)
  (hp : treeOk ops false ops.size T (Array.replicate ops.size false) = true:=by kernel_rfl) (hQ : PI Q:=by repeat (first | exact Aw.PI.fin | exact Aw.PI.finH | refine Aw.PI.unblock ?_ | refine Aw.PI.andThen ?_))
  (h : runTree P ops.toList (ops.toList.map (·.dst)) T σ = some (ob,L):=by (simp only [go_sem,seval]; iterate 2 try (simp (disch:=omega) only [zq]; try simp only [go_sem,seval])); exact rfl) (hob : ob:=by ((try (simp only [go_sem,seval]; iterate 2 try (simp (disch:=omega) only [zq]; try simp only [go_sem,seval]))); try (first | exact True.intro | omega | (simp only [zb]; omega) | (simp; done) | (simp; omega) | (and_intros <;> first | assumption | omega | (simp; done) | (simp; omega))))) : AW P (.seq (.region id ops true) y) σ Q :=
 AW.seqTree T hm hsel hp hQ h hob fun σ' h'=>AW.pre (hv σ' h') hk
theorem AW.tGL {σf : St} (T : PT) (h : awTree P ops (fun σ=>σ.norm = σf) (fun x σ'=>Q (.panic x) σ') T σ) (hk : Q .normal σf) (hm : P.follows .mixedOrders = true:=by kernel_rfl) (hsel : Region.noSelect ops = true:=by kernel_rfl)
  (hp : treeOk ops false ops.size T (Array.replicate ops.size false) = true:=by kernel_rfl) (hQ : PI Q:=by repeat (first | exact Aw.PI.fin | exact Aw.PI.finH | refine Aw.PI.unblock ?_ | refine Aw.PI.andThen ?_)) : AW P (.region id ops true) σ Q :=
 AW.drawTreeG T hm hsel hp hQ h hk
end Aw
