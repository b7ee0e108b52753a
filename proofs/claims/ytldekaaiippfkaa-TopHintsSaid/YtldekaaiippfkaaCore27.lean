/- Rules of a calculus of walks: no condition of its own. -/
import Derived.Test.YtldekaaiippfkaaCore26
import Derived.RangeFuncNested
namespace Aw
open Go

def setAll : List (Nat × AV) → List Nat → List AV → List (Nat × AV)
 | E, p :: ps, x :: xs => setAll (set E p x) ps xs
 | E, _, _ => E
section
variable {m : Mem} {hp : List (Nat × ABlk)} {nx l k : Nat} {rc rc' : Loop}
/-- a record that is one's own, read and turned -/
theorem SimH.lp (hH : SimH m hp nx) (hg : get hp k = some (.lp l rc)) :
  m.w.heap[l]? = some (.loop rc) ∧ ¬ m.Pr l ∧ ∃ ri, m.ρ k = some ri ∧ ri.isNil = false ∧ ri.b = l ∧ ∀ rc', m.le (m.turn l (.loop rc')) ∧ m.keeps (m.turn l (.loop rc')) ∧ SimH (m.turn l (.loop rc')) (set hp k (.lp l rc')) nx := by
 obtain ⟨ri, hr, h1, h2, h3, h4, h5⟩ := hH.blk k _ hg
 subst h4
 refine ⟨h5, h2, ri, hr, h1, rfl, fun rc' => ?_⟩
 have hU : Upd m (m.turn ri.b (.loop rc')) ri.b := Upd.set hH h2 (fun o h => (h3 o h).elim)
 refine ⟨hU.le hH, hU.keeps hH, ?_⟩
 refine hH.upd hU (k := k) (ri := ri) (blk := .lp ri.b rc') hr ⟨h1, h2, h3, rfl, World.putObj_heap_same (Array.getElem?_eq_some_iff.1 h5).1⟩ (fun _ => rfl) (by rw [get_set, if_pos rfl]) ?_ hH.fresh
 intro j hj z hz
 rw [get_set, if_neg (Ne.symm hj)] at hz
 exact ⟨hz, hH.sole hg hr h1 j hj z hz⟩
end

end Aw
