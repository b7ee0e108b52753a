/- Rules of a calculus of walks: no condition of its own. -/
import Derived.Test.YthpbpnfgenhhdaaGreatCore32
namespace Aw
open Go
variable {P : Program} {ops : Array Oper} {y : Code} {id : Nat} {σ : St} {Q : AX → St → Prop}
theorem AWG.drawTreeC {σf : St} (C : Prop) (T : PT) (hsel : Region.noSelect ops = true)
  (hp : treeOk ops false ops.size T (Array.replicate ops.size false) = true) (hQ : PI Q)
  (h : awTree P ops (fun σ=>C ∧ σ.norm = σf) (fun x σ'=>Q (.panic x) σ') T σ) (hk : C → Q .normal σf) : AWG P ops σ Q:=by
 have hT:=(awTree_sound (P:=P) hsel hQ T false ops.size _ σ hp h).1 rfl
 exact GAny.mono (fun σ' ⟨σ2,he,hc,hq⟩=>⟨σ2.norm,he.trans σ2.norm_eqv,by rw [hq]; exact hk hc⟩) hT
theorem awTree.dnC {C : Prop} {Kp : AV → St → Prop} {σf : St} (hc : C) (h : σ.norm = σf:=by first | ((simp only [go_sem,seval]; iterate 2 try (simp (disch:=omega) only [zq]; try simp only [go_sem,seval])); done) | ((simp only [go_sem,seval]; iterate 2 try (simp (disch:=omega) only [zq]; try simp only [go_sem,seval])); exact rfl)) : awTree P ops (fun σ=>C ∧ σ.norm = σf) Kp .done σ:=⟨hc,h⟩
end Aw
