/- Rules of a calculus of walks: no condition of its own. -/
import Derived.Test.YtldekaaiippfkaaCore29
namespace Aw
open Go
variable {P : Program} {ops : Array Oper} {y : Code} {id : Nat} {σ : St} {Q : AX → St → Prop}
theorem GAny.mono {K K' : St → Prop} {Kp : AV → St → Prop} (hK : ∀ σ, K σ → K' σ) : ∀ {f : Nat} {l : Array Bool} {σ : St}, GAny P ops K Kp f l σ → GAny P ops K' Kp f l σ
 | 0, _, _, h => ⟨h.1, hK _ h.2⟩
 | _ + 1, _, _, h => ⟨fun h0 => hK _ (h.1 h0), fun i hi => (h.2 i hi).mono fun _ h => GAny.mono hK h⟩
section
variable {K : St → Prop} {Kp : AV → St → Prop} {o : Oper} {i k : Nat} {t r : PT} {ob ob' : Prop} {σ' σf : St} {f : FuncId} {xs ys : List AV}
theorem awTree.fA (hk : awTree P ops K Kp t σ') (hr : awTree P ops K Kp r σ) (ho : nth ops.toList i = some o := by exact rfl) (h : stepOp P (ops.toList.map (·.dst)) σ o = some (ob, σ') := by (simp only [go_sem, seval]; try (simp (disch := omega) only [zq]; try (simp only [go_sem, seval]; try (simp (disch := omega) only [zq]; try simp only [go_sem, seval])))); exact rfl) (hob : ob := by ((try (simp only [go_sem, seval]; try (simp (disch := omega) only [zq]; try (simp only [go_sem, seval]; try (simp (disch := omega) only [zq]; try simp only [go_sem, seval]))))); try (first | exact True.intro | omega | (simp only [zb]; omega) | (simp; done) | (simp; omega) | (and_intros <;> first | assumption | omega | (simp; done) | (simp; omega))))) : awTree P ops K Kp (.fork i t r) σ :=
 ⟨⟨o, nth_ops ho, stepOp_sound h hob hk⟩, hr⟩
end
end Aw
