/- Rules of a calculus of walks: no condition of its own. -/
import Derived.Test.YtlamdhcfojligaaGreatCore45
namespace Aw
open Go
theorem awOps.s1 {P : Program} {ds : List (Option Tmp)} {o : Oper} {rest : List Oper} {σ σ' : St} {K : St → Prop} {Kp : AV → St → Prop} {ob : Prop} (hk : awOps P ds rest σ' K Kp) (h : stepOp P ds σ o = some (ob,σ'):=by (simp only [go_sem,seval]; iterate 2 try (simp (disch:=omega) only [zq]; try simp only [go_sem,seval])); exact rfl) (hob : ob:=by ((try (simp only [go_sem,seval]; iterate 2 try (simp (disch:=omega) only [zq]; try simp only [go_sem,seval]))); try (first | exact True.intro | omega | (simp only [zb]; omega) | (simp; done) | (simp; omega) | (and_intros <;> first | assumption | omega | (simp; done) | (simp; omega))))) : awOps P ds (o :: rest) σ K Kp :=
 awOps.cons (stepOp_sound h hob hk)
end Aw
