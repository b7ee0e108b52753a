/- Rules of a calculus of walks: no condition of its own. -/
import Derived.Test.YtboaclfnjdhcpaaDoorCore17
namespace Aw
open Go
variable {P : Program} {ops : Array Oper} {y : Code} {id : Nat} {σ : St} {Q : AX → St → Prop}
theorem GAny.mono {K K' : St → Prop} {Kp : AV → St → Prop} (hK : ∀ σ,K σ → K' σ) : ∀ {f : Nat} {l : Array Bool} {σ : St},GAny P ops K Kp f l σ → GAny P ops K' Kp f l σ
 | 0,_,_,h=>⟨h.1,hK _ h.2⟩
 | _ + 1,_,_,h=>⟨fun h0=>hK _ (h.1 h0),fun i hi=>(h.2 i hi).mono fun _ h=>GAny.mono hK h⟩
theorem AWG.drawTreeG {σf : St} (T : PT) (hsel : Region.noSelect ops = true)
  (hp : treeOk ops false ops.size T (Array.replicate ops.size false) = true) (hQ : PI Q)
  (h : awTree P ops (fun σ=>σ.norm = σf) (fun x σ'=>Q (.panic x) σ') T σ) (hk : Q .normal σf) : AWG P ops σ Q:=by
 have hT:=(awTree_sound (P:=P) hsel hQ T false ops.size _ σ hp h).1 rfl
 exact GAny.mono (fun σ' ⟨σ2,he,hq⟩=>⟨σ2.norm,he.trans σ2.norm_eqv,by rw [hq]; exact hk⟩) hT
theorem AW.drawTreeG {σf : St} (T : PT) (hm : P.follows .mixedOrders = true) (hsel : Region.noSelect ops = true)
  (hp : treeOk ops false ops.size T (Array.replicate ops.size false) = true) (hQ : PI Q)
  (h : awTree P ops (fun σ=>σ.norm = σf) (fun x σ'=>Q (.panic x) σ') T σ) (hk : Q .normal σf) : AW P (.region id ops true) σ Q:=AW.ofG hm (AWG.drawTreeG T hsel hp hQ h hk)
section
variable {K : St → Prop} {Kp : AV → St → Prop} {o : Oper} {i k : Nat} {t r : PT} {ob ob' : Prop} {σ' σf : St} {f : FuncId} {xs ys : List AV}
theorem awTree.dn (h : σ.norm = σf:=by first | ((simp only [go_sem,seval]; iterate 2 try (simp (disch:=omega) only [zq]; try simp only [go_sem,seval])); done) | ((simp only [go_sem,seval]; iterate 2 try (simp (disch:=omega) only [zq]; try simp only [go_sem,seval])); exact rfl)) : awTree P ops (fun σ=>σ.norm = σf) Kp .done σ:=h
theorem awTree.tk (hk : awTree P ops K Kp t σ') (ho : nth ops.toList i = some o:=by exact rfl) (h : stepTake P (ops.toList.map (·.dst)) σ o (k == 0) = some (ob,σ'):=by (simp only [go_sem,seval]; iterate 2 try (simp (disch:=omega) only [zq]; try simp only [go_sem,seval])); exact rfl) (hob : ob:=by ((try (simp only [go_sem,seval]; iterate 2 try (simp (disch:=omega) only [zq]; try simp only [go_sem,seval]))); try (first | exact True.intro | omega | (simp only [zb]; omega) | (simp; done) | (simp; omega) | (and_intros <;> first | assumption | omega | (simp; done) | (simp; omega))))) : awTree P ops K Kp (.take i k t) σ:=by
 obtain ⟨x,hT,hx⟩:=stepTake_sound h hob
 exact ⟨o,nth_ops ho,x,hT,by rw [← hx]; exact hk⟩
theorem awTree.fA (hk : awTree P ops K Kp t σ') (hr : awTree P ops K Kp r σ) (ho : nth ops.toList i = some o:=by exact rfl) (h : stepOp P (ops.toList.map (·.dst)) σ o = some (ob,σ'):=by (simp only [go_sem,seval]; iterate 2 try (simp (disch:=omega) only [zq]; try simp only [go_sem,seval])); exact rfl) (hob : ob:=by ((try (simp only [go_sem,seval]; iterate 2 try (simp (disch:=omega) only [zq]; try simp only [go_sem,seval]))); try (first | exact True.intro | omega | (simp only [zb]; omega) | (simp; done) | (simp; omega) | (and_intros <;> first | assumption | omega | (simp; done) | (simp; omega))))) : awTree P ops K Kp (.fork i t r) σ :=
 ⟨⟨o,nth_ops ho,stepOp_sound h hob hk⟩,hr⟩
end
end Aw
