/- Rules of a calculus of walks: no condition of its own. -/
import Derived.Test.YthpbpnfgenhhdaaGreatCore47
namespace Aw
open Go
theorem awOps.s1 {P : Program} {ds : List (Option Tmp)} {o : Oper} {rest : List Oper} {σ σ' : St} {K : St → Prop} {Kp : AV → St → Prop} {ob : Prop} (hk : awOps P ds rest σ' K Kp) (h : stepOp P ds σ o = some (ob, σ') := by (simp only [go_sem, seval]; try (simp (disch := omega) only [zq]; try (simp only [go_sem, seval]; try (simp (disch := omega) only [zq]; try simp only [go_sem, seval])))); exact rfl) (hob : ob := by ((try (simp only [go_sem, seval]; try (simp (disch := omega) only [zq]; try (simp only [go_sem, seval]; try (simp (disch := omega) only [zq]; try simp only [go_sem, seval]))))); try (first | exact True.intro | omega | (simp only [zb]; omega) | (simp; done) | (simp; omega) | (and_intros <;> first | assumption | omega | (simp; done) | (simp; omega))))) : awOps P ds (o :: rest) σ K Kp :=
 awOps.cons (stepOp_sound h hob hk)
end Aw

namespace Aw
open Go Go.RowKit Go.WideShapes Go.ChangeShapes
def En.tot (e : En) : Nat := e.key.length + e.val.tot + 2
def etots (l : List En) : Nat := (l.map En.tot).sum
def En.wf (e : En) : Prop := e.val.wf
theorem esum_tot (l : List En) : esum l ≤ etots l := by
 induction l with
 | nil => exact Nat.le_refl _
 | cons e l ih =>
  have := Pob.bulk_tot e.val
  simp only [esum, etots, List.map_cons, List.sum_cons, En.tot] at ih ⊢
  omega
theorem esize_tot (l : List En) : esize l ≤ etots l := by
 induction l with
 | nil => exact Nat.le_refl _
 | cons e l ih =>
  have := Pob.psize_tot e.val
  simp only [esize, etots, List.map_cons, List.sum_cons, En.tot] at ih ⊢
  omega
section
variable {H : Type} {enc : TypeId × Value → H} {P : Program} {W : World} {tO tI tL tS tKs tOs tE tEs : TypeId}
theorem Opn.ent {fs : Array Field} (T : ObjT P tO tI tL tS tKs tOs) (h1 : P.underlying tE = some (.struct fs)) (h2 : fs.toList.map (fun f => (f.offset, f.type)) = [(0, tS), (1, tO)]) (c0 : P.cellsOf tE = 7) (N : Nat) : Opn enc P W N tE En.cells En.tot En.wf := by
 cases N with
 | zero => exact Opn.zero
 | succ N =>
  obtain ⟨d0, d1, d2, d3, d4, d5⟩ := T.c
  refine Opn.as (fun p : List UInt8 × Pob × Unit => En.mk p.1 p.2.1)
   (Opn.struct h1 h2 c0 (OpnF.cons (Opn.str T.s) d3 (OpnF.cons (Opn.obj T N) d0 OpnF.nil))) ?_ ?_ ?_
  ·intro a; simp [En.cells, Pob.cells_eq]
  ·intro a; simp only [En.tot]; omega
  ·intro a ⟨_, hc, _⟩
   exact hc
theorem Opn.ents {fs : Array Field} (T : ObjT P tO tI tL tS tKs tOs) (ht : P.underlying tEs = some (.slice tE)) (h1 : P.underlying tE = some (.struct fs)) (h2 : fs.toList.map (fun f => (f.offset, f.type)) = [(0, tS), (1, tO)]) (c0 : P.cellsOf tE = 7) (N : Nat) :
  Opn enc P W N tEs (fun l : List En => [.sl (entsAV l)]) (fun l => etots l + 1) (fun l => ∀ e ∈ l, e.wf) := by
 cases N with
 | zero => exact Opn.zero
 | succ N => exact Opn.slice ht (by rw [c0]; decide) (Opn.ent T h1 h2 c0 N)
end
end Aw
