/- Rules of a calculus of walks: no condition of its own. -/
import Derived.Test.YtldekaaiippfkaaGreatCore26
import Derived.RangeFuncNested
namespace Aw
open Go

/-- what the machine does behind the loop when a round ends so -/
def jumpOf : AX → Option (Option Code)
 | .normal => some none
 | .ret => some (some .ret)
 | .exit id => some (some (.exit id))
 | .panic _ => none

def setAll : List (Nat × AV) → List Nat → List AV → List (Nat × AV)
 | E, p :: ps, x :: xs => setAll (set E p x) ps xs
 | E, _, _ => E
def setTmps : Array Value → List Nat → List Value → Array Value
 | t, p :: ps, v :: vs => setTmps (t.setIfInBounds p v) ps vs
 | t, _, _ => t
theorem foldl_zip : ∀ (ps : List Nat) (vs : List Value) (t : Array Value), (ps.zip vs).foldl (fun tmps x => tmps.setIfInBounds x.1 x.2) t = setTmps t ps vs
 | [], _, _ => by simp [setTmps]
 | _ :: _, [], _ => by simp [setTmps]
 | p :: ps, v :: vs, t => by
  simp only [List.zip_cons_cons, List.foldl_cons, setTmps]
  exact foldl_zip ps vs _
theorem setTmps_eq (ps : List Nat) (vs : List Value) (t : Array Value) :
  (ps.toArray.zip vs.toArray).foldl (fun tmps (x : Tmp × Value) => tmps.setIfInBounds x.1 x.2) t = setTmps t ps vs := by
 rw [← foldl_zip, ← Array.foldl_toList]
 simp
theorem setTmps_size : ∀ (ps : List Nat) (vs : List Value) (t : Array Value), (setTmps t ps vs).size = t.size
 | [], _, _ => by simp [setTmps]
 | _ :: _, [], _ => by simp [setTmps]
 | p :: ps, v :: vs, t => by
  rw [setTmps, setTmps_size ps vs]
  simp
theorem setTmps_env {m : Mem} {n : Nat} : ∀ {ps : List Nat} {xs : List AV} {vs : List Value} {t : Array Value} {E : List (Nat × AV)}, t.size = n → (∀ p ∈ ps, p < n) → RepL m 0 xs vs →
  (∀ i y, get E i = some y → i < n ∧ Rep m 0 y (t.getD i undef)) → ∀ i y, get (setAll E ps xs) i = some y → i < n ∧ Rep m 0 y ((setTmps t ps vs).getD i undef)
 | [], xs, vs, t, E, _, _, _, h => by simpa [setAll, setTmps] using h
 | p :: ps, [], vs, t, E, _, _, hx, h => by
  simp only [RepL] at hx
  subst hx
  simpa [setAll, setTmps] using h
 | p :: ps, x :: xs, vs, t, E, hn, hp, hx, h => by
  simp only [RepL] at hx
  obtain ⟨v, rest, rfl, hv, hr⟩ := hx
  simp only [setAll, setTmps]
  refine setTmps_env (by simpa using hn) (fun q hq => hp q (List.mem_cons_of_mem _ hq)) hr ?_
  intro i y hy
  rw [get_set] at hy
  split at hy
  ·rename_i e
   subst e
   injection hy with hy
   subst hy
   have hlt := hp p List.mem_cons_self
   refine ⟨hlt, ?_⟩
   have : (t.setIfInBounds p v).getD p undef = v := by simp [show p < t.size by omega]
   rw [this]
   exact hv
  ·rename_i hne
   obtain ⟨h1, h2⟩ := h i y hy
   refine ⟨h1, ?_⟩
   have : (t.setIfInBounds p v).getD i undef = t.getD i undef := by simp [Array.getElem?_setIfInBounds_ne hne]
   rw [this]
   exact h2

section
variable {m : Mem} {hp : List (Nat × ABlk)} {nx l k : Nat} {rc rc' : Loop}
/-- a record that is one's own, read and turned -/
theorem SimH.lp (hH : SimH m hp nx) (hg : get hp k = some (.lp l rc)) :
  m.w.heap[l]? = some (.loop rc) ∧ ¬ m.Pr l ∧ ∃ ri, m.ρ k = some ri ∧ ri.isNil = false ∧ ri.b = l ∧ ∀ rc', m.le (m.turn l (.loop rc')) ∧ m.keeps (m.turn l (.loop rc')) ∧ SimH (m.turn l (.loop rc')) (set hp k (.lp l rc')) nx := by
 obtain ⟨ri, hr, h1, h2, h3, h4, h5⟩ := hH.blk k _ hg
 subst h4
 refine ⟨h5, h2, ri, hr, h1, rfl, fun rc' => ?_⟩
 have hU : Upd m (m.turn ri.b (.loop rc')) ri.b := Upd.set hH h2 (fun o h => (h3 o h).elim)
 refine ⟨hU.le hH, hU.keeps hH, ?_⟩
 refine hH.upd hU (k := k) (ri := ri) (blk := .lp ri.b rc') hr ⟨h1, h2, h3, rfl, World.putObj_heap_same (Array.getElem?_eq_some_iff.1 h5).1⟩ (fun _ => rfl) (by rw [get_set, if_pos rfl]) ?_ hH.fresh
 intro j hj z hz
 rw [get_set, if_neg (Ne.symm hj)] at hz
 exact ⟨hz, hH.sole hg hr h1 j hj z hz⟩
end

end Aw
