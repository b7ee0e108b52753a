/- A part of the proof: no condition of its own. -/
import Derived.Test.YtkngkpofninhkaaPart6
namespace Aw
open Go
theorem setAdd_nd {l : List Int} (h : l.Nodup) (x : Int) : (setAdd l x).Nodup := by
  unfold setAdd
  split
  · exact h
  · rename_i hx
    rw [List.nodup_append]
    refine ⟨h, by simp, fun a ha b hb => ?_⟩
    simp only [List.mem_singleton] at hb
    subst hb
    intro e
    subst e
    exact hx ha
theorem foldI_nd {S : Type} {g : S → Int → Pob → S} {I : S → Prop} (hI : ∀ s n o, I s → I (g s n o)) : ∀ (l : List Itm) (s : S), I s → I (foldI g s l)
  | [], s, h => h
  | i :: l, s, h => by
    have := foldI_nd hI l (g s i.num i.obj) (hI _ _ _ h)
    simpa [foldI] using this
theorem usersS_nd (d : Dc) (num : Int) : (usersS d num).Nodup := by
  have hw : ∀ (s : List Int) (n : Int) (o : Pob), s.Nodup → (usersAll d num s n o).Nodup := fun s n o h => walkR_inv (I := fun s : List Int => s.Nodup) (fun s x h => by
    simp only [usesStp]
    split
    · exact setAdd_nd h _
    · exact h) _ _ h
  exact foldI_nd hw _ _ (hw _ _ _ List.nodup_nil)
theorem usesR_eq {d : Dc} (h : docE d = 0) (num : Int) {o : Pob} {k : Int} (hk : chk o k = 0) : usesR d num o = o.pre.any fun p => decide (p.kind = 8) && usesB d.items num p := by
  have hl := items_incr (docE_items h)
  unfold usesR
  rw [chk_rr _ k hk, List.any_filter]
  congr 1
  funext p
  cases hb : leadB d.items p
  · rw [leadR_no hl hb]
    simp [usesB, hb]
  · rw [leadR_yes hl hb]
    simp [usesB, hb]
end Aw
namespace Aw
open Go
theorem sortI_len (s : List Int) : (sortI s).length = s.length := (List.mergeSort_perm s _).length_eq
theorem fromP_len (d : Dc) (o : Pob) : (fromP d o).length ≤ 8192 := by
  unfold fromP
  split
  · rename_i h
    rw [sortI_len]
    exact Nat.le_trans (reachS_len _ _) (items_len h.1)
  · simp
theorem lostP_len (d : Dc) : (lostP d).length ≤ 8192 := by
  unfold lostP
  split
  · rename_i h
    rw [sortI_len]
    unfold lostL
    refine Nat.le_trans (List.length_filter_le _ _) ?_
    rw [List.length_map]
    exact items_len h
  · simp
theorem danglingP_len (d : Dc) : (danglingP d).length ≤ d.bulk := by
  unfold danglingP
  split
  · rw [sortI_len]
    exact dangS_len d
  · simp
theorem usersP_len (d : Dc) (num : Int) : (usersP d num).length ≤ d.bulk := by
  unfold usersP
  split
  · split
    · rw [sortI_len]
      exact usersS_len d num
    · simp
  · simp
end Aw

namespace Aw
open Go
def gRef (n g : Int) : Pob := .mk 8 n g [] [] []
def gDict : Pob := .mk 7 0 0 [] [[65], [66]] [gRef 2 0, gRef 9 0]
def gArr : Pob := .mk 6 0 0 [] [] [gRef 2 0]
def gTrail : Pob := .mk 7 0 0 [] [[82, 111, 111, 116]] [gRef 1 0]
def threeD : Dc := ⟨[⟨1, 0, gDict⟩, ⟨2, 0, Pob.null⟩, ⟨3, 0, gArr⟩], gTrail⟩
theorem sortI_id {s t : List Int} (ht : t.Pairwise (· < ·)) (hp : s.Perm t) : sortI s = t := by
  have hn : s.Nodup := hp.nodup_iff.2 (ht.imp fun h => Int.ne_of_lt h)
  exact lt_ext (sortI_lt hn) ht (fun n => by rw [sortI_mem]; exact hp.mem_iff)
theorem lg0 : docE threeD = 0 := by decide +kernel
theorem lg1 : chk gTrail 1 = 0 := by decide +kernel
theorem lg2 : chk (gRef 3 0) 1 = 0 := by decide +kernel
theorem lg3 : chk (gRef 3 1) 1 = 0 := by decide +kernel
theorem lg4 : reachS threeD.items gTrail = [1, 2] := by decide +kernel
theorem lg5 : reachS threeD.items (gRef 3 0) = [3, 2] := by decide +kernel
theorem lg6 : reachS threeD.items (gRef 3 1) = [] := by decide +kernel
theorem lg7 : lostL threeD.items [1, 2] = [3] := by decide +kernel
theorem lg8 : dangS threeD = [9] := by decide +kernel
theorem lg9 : usersS threeD 2 = [1, 3] := by decide +kernel
theorem lg10 : usersS threeD 1 = [0] := by decide +kernel
theorem lg11 : thereB threeD 2 = true := by decide +kernel
theorem lg12 : thereB threeD 1 = true := by decide +kernel
theorem lg13 : thereB threeD 9 = false := by decide +kernel
theorem lg14 : ¬ docE Dc.zero = 0 := by decide +kernel
theorem lh1 : fromP threeD gTrail = [1, 2] := by rw [fromP, if_pos ⟨lg0, lg1⟩, lg4]; exact sortI_id (by decide) (.refl _)
theorem lh2 : fromP threeD (gRef 3 0) = [2, 3] := by rw [fromP, if_pos ⟨lg0, lg2⟩, lg5]; exact sortI_id (by decide) (by decide)
theorem lh3 : fromP threeD (gRef 3 1) = [] := by rw [fromP, if_pos ⟨lg0, lg3⟩, lg6]; exact sortI_id (by decide) (.refl _)
theorem lh4 : lostP threeD = [3] := by rw [lostP, if_pos lg0, show threeD.trailer = gTrail from rfl, lg4, lg7]; exact sortI_id (by decide) (.refl _)
theorem lh5 : danglingP threeD = [9] := by rw [danglingP, if_pos lg0, lg8]; exact sortI_id (by decide) (.refl _)
theorem lh6 : usersP threeD 2 = [1, 3] := by rw [usersP, if_pos lg0, if_pos lg11, lg9]; exact sortI_id (by decide) (.refl _)
theorem lh7 : usersP threeD 1 = [0] := by rw [usersP, if_pos lg0, if_pos lg12, lg10]; exact sortI_id (by decide) (.refl _)
theorem lh8 : usersP threeD 9 = [] := by rw [usersP, if_pos lg0, if_neg (by rw [lg13]; decide)]
theorem lh9 : fromP Dc.zero Dc.zero.trailer = [] := by rw [fromP, if_neg (fun h => lg14 h.1)]
end Aw

namespace Go.Proofs
open Go Aw
set_option linter.unusedSimpArgs false
set_option linter.unusedVariables false
set_option maxRecDepth 100000
set_option maxHeartbeats 4000000

attribute [local go_sem] List.getD_cons_zero List.length_cons List.length_nil
end Go.Proofs

namespace Go.Proofs
open Go Aw
set_option linter.unusedSimpArgs false
set_option linter.unusedVariables false
set_option maxRecDepth 100000
set_option maxHeartbeats 2000000
theorem takeInt_succ {a b : List Int} {i : Nat} (h : i < a.length) (hl : a.length = b.length) (he : a.take i = b.take i) (hg : a.getD i 0 = b.getD i 0) : a.take (i + 1) = b.take (i + 1) := by
  rw [List.take_add_one, List.take_add_one, he]
  rw [List.getD, List.getD] at hg
  rw [List.getElem?_eq_getElem h, List.getElem?_eq_getElem (show i < b.length by omega)] at hg ⊢
  simp only [Option.getD_some] at hg
  rw [hg]
theorem c_foliantref05_Ints (gl : List (Nat × AV)) (a b : List Int) (ha : a.length ≤ 16777216 := by first | omega | exact u8_le _ | assumption | (simp; done) | (simp; omega)) : FnP Try.prog (gl) 17 [.sl (intsAV a), .sl (intsAV b)] fun r => r = .ret (.bool (decide (a = b))) := by
  refine FnP.intro Try.func17 rfl rfl (by simp [Try.ntmps17]) ?_
  simp only [argEnv, Try.ntmps17, Try.results17]
  refine AW.rS ?_
  refine AW.seq ?_
  refine AW.rS ?_
  refine AW.c2 ?_ ?_
  · intro h4
    refine AW.rS ?_
    refine AW.rt ?_
    rw [decide_eq_false (fun e => h4 (by rw [e]))]
  · intro h4
    refine AW.skip ?_
    refine AW.seq ?_
    refine AW.rS ?_
    refine AW.block ?_
    refine AW.lk (S := { i : Nat // i ≤ a.length ∧ a.take i = b.take i }) [0, 1, 12] (fun s_ => [(13, .int .i64 s_.1)]) (fun s_ => []) 0 (fun s_ => a.length - s_.1) ⟨0, Nat.zero_le _, rfl⟩ ?_ ?_
    · refine St.le.vw []
    rintro ⟨i, hi, hs⟩
    try dsimp only at hi
    try dsimp only at hs
    refine AW.rS ?_
    refine AW.seq ?_
    refine AW.c2 ?_ ?_
    · intro h15
      refine AW.skip ?_
      refine AW.seq ?_
      refine AW.block ?_
      refine AW.rS ?_
      refine AW.dS [(0, 0), (1, 0), (2, 1), (3, 1), (4, 0), (5, 0), (6, 1), (7, 1), (8, 0)] ?_
      refine AW.c2 ?_ ?_
      · intro h21
        refine AW.rS ?_
        refine AW.rt ?_
        rw [decide_eq_false (fun e => h21 (by rw [e]))]
      · intro h21
        refine AW.skip ?_
        refine AW.rL ?_
        refine ⟨⟨i + 1, by omega, takeInt_succ h15 (by omega) hs h21⟩, ?_, ?_⟩
        · refine St.le.vw []
        · simp only []; omega
    · intro h15
      refine AW.exit ?_
      refine AW.rS ?_
      refine AW.rt ?_
      rw [List.take_of_length_le (by omega), List.take_of_length_le (by omega)] at hs
      simp [hs]
end Go.Proofs

namespace Go.Proofs
open Go Aw
set_option linter.unusedSimpArgs false
set_option linter.unusedVariables false
set_option maxRecDepth 100000
set_option maxHeartbeats 4000000
theorem c_foliantlaw29_Three (gl : List (Nat × AV))  : FnP Try.prog (gl) 20 [] fun r => r = .ret (.agg threeD.cells) := by
  refine FnP.intro Try.func20 rfl rfl (by simp [Try.ntmps20]) ?_
  simp only [argEnv, Try.ntmps20, Try.results20]
  refine AW.rS ?_
  refine AW.rS ?_
  refine AW.rt ?_
  all_goals first | contradiction | rfl | (simp; done) | (simp; omega)
theorem lk1 : threeD.bulk ≤ 16777216 := by decide +kernel
theorem lk2 : (gRef 3 0).bulk ≤ 16777216 := by decide +kernel
theorem lk3 : (gRef 3 1).bulk ≤ 16777216 := by decide +kernel
theorem lk4 : Dc.zero.bulk ≤ 16777216 := by decide +kernel
theorem lk5 : fromP threeD threeD.trailer = [1, 2] := lh1
theorem cg1 (gl : List (Nat × AV)) : FnP Try.prog gl 9 [.agg threeD.cells] fun r => r = .ret (.sl (intsAV [1, 2])) := by
  have h := c_graph_Reach gl threeD lk1
  rw [lk5] at h
  exact h
theorem cg2 (gl : List (Nat × AV)) : FnP Try.prog gl 10 [.agg threeD.cells] fun r => r = .ret (.sl (intsAV [3])) := by
  have h := c_graph_Lost gl threeD lk1
  rw [lh4] at h
  exact h
theorem cg3 (gl : List (Nat × AV)) : FnP Try.prog gl 16 [.agg threeD.cells] fun r => r = .ret (.sl (intsAV [9])) := by
  have h := c_graph_Dangling gl threeD lk1
  rw [lh5] at h
  exact h
theorem cg4 (gl : List (Nat × AV)) : FnP Try.prog gl 11 [.agg threeD.cells, .int .i64 2] fun r => r = .ret (.sl (intsAV [1, 3])) := by
  have h := c_graph_Users gl threeD 2 lk1
  rw [lh6] at h
  exact h
theorem cg5 (gl : List (Nat × AV)) : FnP Try.prog gl 11 [.agg threeD.cells, .int .i64 1] fun r => r = .ret (.sl (intsAV [0])) := by
  have h := c_graph_Users gl threeD 1 lk1
  rw [lh7] at h
  exact h
theorem cg6 (gl : List (Nat × AV)) : FnP Try.prog gl 11 [.agg threeD.cells, .int .i64 9] fun r => r = .ret (.sl (intsAV [])) := by
  have h := c_graph_Users gl threeD 9 lk1
  rw [lh8] at h
  exact h
theorem cg7 (gl : List (Nat × AV)) : FnP Try.prog gl 13 [.agg threeD.cells, .agg (gRef 3 0).cells] fun r => r = .ret (.sl (intsAV [2, 3])) := by
  have h := c_graph_From gl threeD (gRef 3 0) lk1 lk2
  rw [lh2] at h
  exact h
theorem cg8 (gl : List (Nat × AV)) : FnP Try.prog gl 13 [.agg threeD.cells, .agg (gRef 3 1).cells] fun r => r = .ret (.sl (intsAV [])) := by
  have h := c_graph_From gl threeD (gRef 3 1) lk1 lk3
  rw [lh3] at h
  exact h
theorem cg9 (gl : List (Nat × AV)) : FnP Try.prog gl 9 [.agg Dc.zero.cells] fun r => r = .ret (.sl (intsAV [])) := by
  have h := c_graph_Reach gl Dc.zero lk4
  rw [lh9] at h
  exact h
theorem c_law29_lives (gl : List (Nat × AV))  : FnP Try.prog (gl) 6 [] fun r => r = .ret (.bool true) := by
  refine FnP.intro Try.func6 rfl rfl (by simp [Try.ntmps6]) ?_
  simp only [argEnv, Try.ntmps6, Try.results6]
  refine AW.rS ?_
  refine AW.trim [] ?_
  refine AW.rSC ?_
  refine awOps.cons (awGuard.c1 (c_foliantlaw29_Three _) ?_)
  refine awOps.rn ?_
  refine AW.trim [1] ?_
  refine AW.rSC ?_
  refine awOps.cons (awGuard.c1 (cg1 _) ?_)
  refine awOps.rn ?_
  refine awOps.cons (awGuard.c1 (c_foliantref05_Ints _ [1, 2] [1, 2] (by decide)) ?_)
  refine awOps.rn ?_
  refine awOps.cons (awGuard.cG (fun hg => cg2 _) ?_)
  refine awOps.rn ?_
  refine awOps.cons (awGuard.gT ?_)
  refine awOps.cons (awGuard.cT (c_foliantref05_Ints _ [3] [3] (by decide)) ?_)
  refine awOps.rn ?_
  refine awOps.cons (awGuard.cG (fun hg => cg3 _) ?_)
  refine awOps.rn ?_
  refine awOps.cons (awGuard.gT ?_)
  refine awOps.cons (awGuard.cT (c_foliantref05_Ints _ [9] [9] (by decide)) ?_)
  refine awOps.rn ?_
  refine awOps.cons (awGuard.cG (fun hg => cg4 _) ?_)
  refine awOps.rn ?_
  refine awOps.cons (awGuard.gT ?_)
  refine awOps.cons (awGuard.cT (c_foliantref05_Ints _ [1, 3] [1, 3] (by decide)) ?_)
  refine awOps.rn ?_
  refine awOps.cons (awGuard.cG (fun hg => cg5 _) ?_)
  refine awOps.rn ?_
  refine awOps.cons (awGuard.gT ?_)
  refine awOps.cons (awGuard.cT (c_foliantref05_Ints _ [0] [0] (by decide)) ?_)
  refine awOps.rn ?_
  refine awOps.cons (awGuard.cG (fun hg => cg6 _) ?_)
  refine awOps.rn ?_
  refine awOps.cons (awGuard.gT ?_)
  refine awOps.rn ?_
  refine awOps.cons (awGuard.cG (fun hg => cg7 _) ?_)
  refine awOps.rn ?_
  refine awOps.cons (awGuard.gT ?_)
  refine awOps.cons (awGuard.cT (c_foliantref05_Ints _ [2, 3] [2, 3] (by decide)) ?_)
  refine awOps.rn ?_
  refine awOps.cons (awGuard.gT ?_)
  refine awOps.rn ?_
  refine awOps.cons (awGuard.cG (fun hg => cg8 _) ?_)
  refine awOps.rn ?_
  refine awOps.cons (awGuard.gT ?_)
  refine awOps.rn ?_
  refine awOps.cons (awGuard.cG (fun hg => cg9 _) ?_)
  refine awOps.rn ?_
  refine AW.trim [0] ?_
  refine AW.rt ?_
  all_goals first | contradiction | rfl | (simp; done) | (simp; omega)
end Go.Proofs

namespace Aw
open Go
theorem chk_top {d : Dc} (h : docE d = 0) : chk d.trailer 1 = 0 := by
  have h1 := docE_trail h
  by_cases hc : chk d.trailer 1 = 0
  · exact hc
  · rw [trail_bad hc] at h1
    exact absurd h1 hc
theorem fromP_top {d : Dc} (h : docE d = 0) : fromP d d.trailer = sortI (reachS d.items d.trailer) := by rw [fromP, if_pos ⟨h, chk_top h⟩]
theorem lost_mem {d : Dc} (h : docE d = 0) (n : Int) : n ∈ lostP d ↔ n ∈ d.items.map (·.num) ∧ ¬ n ∈ reachS d.items d.trailer := by
  rw [lostP, if_pos h, sortI_mem, lostL, List.mem_filter]
  simp
theorem use_iff {d : Dc} (h : docE d = 0) {num : Int} {o : Pob} {k : Int} (hk : chk o k = 0) : (o.pre.any fun p => decide (p.kind = 8) && usesB d.items num p) = true ↔ ∃ r ∈ o.rr, ∃ i, leadR d.items r = some i ∧ i.num = num := by
  have hl := items_incr (docE_items h)
  rw [← usesR_eq h num hk, usesR, List.any_eq_true]
  constructor
  · rintro ⟨r, hr, hu⟩
    simp only [Bool.and_eq_true, decide_eq_true_eq] at hu
    obtain ⟨i, hi⟩ := Option.isSome_iff_exists.1 hu.1
    rw [hi] at hu
    exact ⟨r, hr, i, hi, hu.2⟩
  · rintro ⟨r, hr, i, hi, hn⟩
    exact ⟨r, hr, by simp [hi, hn]⟩
end Aw

namespace Go.Proofs
open Go Aw
set_option linter.unusedSimpArgs false
set_option linter.unusedVariables false
set_option maxRecDepth 100000
set_option maxHeartbeats 4000000

theorem c_law29_in (gl : List (Nat × AV)) (l : List Int) (n : Int) (hl : l.length ≤ 16777216 := by first | omega | exact u8_le _ | assumption | (simp; done) | (simp; omega)) : FnP Try.prog (gl) 12 [.sl (intsAV l), .int .i64 n] fun r => r = .ret (.bool (decide (n ∈ l))) := by
  refine FnP.intro Try.func12 rfl rfl (by simp [Try.ntmps12]) ?_
  simp only [argEnv, Try.ntmps12, Try.results12]
  refine AW.rS ?_
  refine AW.seq ?_
  refine AW.rS ?_
  refine AW.block ?_
  refine AW.lk (S := { i : Nat // i ≤ l.length ∧ ∀ j, j < i → l.getD j 0 ≠ n }) [1, 7, 8] (fun s_ => [(9, .int .i64 s_.1)]) (fun s_ => []) 0 (fun s_ => l.length - s_.1) ⟨0, Nat.zero_le _, fun j h => absurd h (by omega)⟩ ?_ ?_
  · refine St.le.vw []
  rintro ⟨i, hi, hs⟩
  try dsimp only at hi
  try dsimp only at hs
  refine AW.rS ?_
  refine AW.seq ?_
  refine AW.c2 ?_ ?_
  · intro h8
    refine AW.skip ?_
    refine AW.seq ?_
    refine AW.block ?_
    refine AW.rS ?_
    refine AW.rS ?_
    refine AW.c2 ?_ ?_
    · intro h14
      refine AW.rS ?_
      refine AW.rt ?_
      rw [any_hit h8 h14]
    · intro h14
      refine AW.skip ?_
      refine AW.rL ?_
      refine ⟨⟨i + 1, by omega, fun j hj => (Nat.lt_or_ge j i).elim (hs j) (fun h => (show j = i by omega) ▸ h14)⟩, ?_, ?_⟩
      · refine St.le.vw []
      · simp only []; omega
  · intro h8
    refine AW.exit ?_
    refine AW.rS ?_
    refine AW.rt ?_
    rw [any_miss (fun j hj => hs j (by omega))]
end Go.Proofs

namespace Aw
open Go
/-- the items but for one number -/
def outI (l : List Itm) (n : Int) : List Itm := l.filter fun i => decide (i.num ≠ n)
theorem outI_mem {l : List Itm} {n : Int} {i : Itm} : i ∈ outI l n ↔ i ∈ l ∧ i.num ≠ n := by simp [outI]
theorem outI_incr {l : List Itm} (h : incrN l) (n : Int) : incrN (outI l n) := incrN_iff.2 ((incrN_iff.1 h).sublist List.filter_sublist)
theorem leadR_some {l : List Itm} (h : incrN l) {r : Pob} {i : Itm} (hi : i ∈ l) (hn : i.num = r.num) (hg : i.gen = r.gen) : leadR l r = some i := by
  cases e : leadR l r with
  | none =>
    exfalso
    unfold leadR at e
    rw [List.find?_eq_none] at e
    have := e i hi
    simp [hn, hg] at this
  | some x =>
    obtain ⟨g1, g2, _⟩ := leadR_mem e
    rw [incr_one h g1 hi (by rw [g2, hn])]
theorem leadR_out {l : List Itm} (h : incrN l) {n : Int} {r : Pob} {i : Itm} : leadR (outI l n) r = some i ↔ leadR l r = some i ∧ i.num ≠ n := by
  constructor
  · intro e
    obtain ⟨g1, g2, g3⟩ := leadR_mem e
    obtain ⟨g4, g5⟩ := outI_mem.1 g1
    exact ⟨leadR_some h g4 g2 g3, g5⟩
  · rintro ⟨e, hn⟩
    obtain ⟨g1, g2, g3⟩ := leadR_mem e
    exact leadR_some (outI_incr h n) (outI_mem.2 ⟨g1, hn⟩) g2 g3
/-- what is reached does not change when an item that is not reached goes -/
theorem least_out {l : List Itm} (h : incrN l) {start : List Pob} {R : List Int} {n : Int} (hR : leastR l start R) (hn : ¬ n ∈ R) : leastR (outI l n) start R := by
  refine ⟨⟨fun r hr i hi => hR.1.1 r hr i ((leadR_out h).1 hi).1, fun i hi hm r hr x hx => hR.1.2 i (outI_mem.1 hi).1 hm r hr x ((leadR_out h).1 hx).1⟩, fun s' hs k hk => ?_⟩
  have hT : closedR l start (R.filter fun k => decide (k ∈ s')) := by
    refine ⟨fun r hr i hi => ?_, fun i hi hm r hr x hx => ?_⟩
    · have h1 := hR.1.1 r hr i hi
      exact List.mem_filter.2 ⟨h1, by
        have := hs.1 r hr i ((leadR_out h).2 ⟨hi, fun e => hn (e ▸ h1)⟩)
        simpa using this⟩
    · obtain ⟨h2, h3⟩ := List.mem_filter.1 hm
      have h1 := hR.1.2 i hi h2 r hr x hx
      refine List.mem_filter.2 ⟨h1, ?_⟩
      have := hs.2 i (outI_mem.2 ⟨hi, fun e => hn (e ▸ h2)⟩) (by simpa using h3) r hr x ((leadR_out h).2 ⟨hx, fun e => hn (e ▸ h1)⟩)
      simpa using this
  simpa using (List.mem_filter.1 (hR.2 _ hT k hk)).2
theorem dang_mem {d : Dc} (h : docE d = 0) (n : Int) : n ∈ danglingP d ↔ ∃ q ∈ allL d, ∃ r ∈ q.2.rr, leadR d.items r = none ∧ r.num = n := by
  have hl := items_incr (docE_items h)
  rw [danglingP, if_pos h, sortI_mem, dangS_mem]
  constructor
  · rintro ⟨q, hq, p, hp, h8, hb, rfl⟩
    obtain ⟨k, hk⟩ := doc_chk h q hq
    exact ⟨q, hq, p, by rw [chk_rr _ k hk, List.mem_filter]; exact ⟨hp, by simpa using h8⟩, leadR_no hl hb, rfl⟩
  · rintro ⟨q, hq, p, hp, hb, rfl⟩
    obtain ⟨k, hk⟩ := doc_chk h q hq
    rw [chk_rr _ k hk, List.mem_filter] at hp
    refine ⟨q, hq, p, hp.1, by simpa using hp.2, ?_, rfl⟩
    have := leadR_isSome hl p
    rw [hb] at this
    exact this.symm
/-- dropping a lost item does not change what is reached -/
theorem drop_reach {d x : Dc} {num : Int} (h : docE d = 0) (hx : docE x = 0) (hi : x.items = outI d.items num) (ht : x.trailer = d.trailer) (hs : d.trailer.rr.length + ibulk d.items ≤ 33554432) (hsx : d.trailer.rr.length + ibulk x.items ≤ 33554432) (hl : num ∈ lostP d) : fromP x x.trailer = fromP d d.trailer := by
  have hn := ((lost_mem h num).1 hl).2
  have h1 := least_out (items_incr (docE_items h)) (reachS_least (o := d.trailer) h (chk_top h) hs) hn
  have h2 := reachS_least (o := x.trailer) hx (chk_top hx) (by rw [ht]; exact hsx)
  rw [ht, hi] at h2
  rw [fromP_top hx, fromP_top h]
  refine lt_ext (sortI_lt (reachS_inv _ _).1) (sortI_lt (reachS_inv _ _).1) (fun n => ?_)
  rw [sortI_mem, sortI_mem, ht, hi]
  exact leastR_one h2 h1 n
end Aw

namespace Aw
open Go
structure AddF (d x : Dc) (o : Pob) (n : Int) : Prop where
  d0 : docE d = 0
  x0 : docE x = 0
  tr : x.trailer = d.trailer
  mem : ∀ i, i ∈ x.items ↔ i = ⟨n, 0, o⟩ ∨ i ∈ d.items
  lt : ∀ i ∈ d.items, i.num < n
  pos : 0 < n
theorem add_eqs {d : Dc} {o : Pob} (h : addE d o = 0) : freeE d = 0 ∧ putE d ⟨freeN d, 0, o⟩ = 0 := by
  rw [addE] at h
  split at h
  · contradiction
  · rename_i h1
    exact ⟨by omega, h⟩
theorem add_parts {d : Dc} {o : Pob} (h : addE d o = 0) : AddF d (addO d o) o (addN d o) := by
  obtain ⟨h1, h2⟩ := add_eqs h
  obtain ⟨_, h4, h5⟩ := add_ok h1 h2
  have hp := free_parts h1
  have hq := put_parts h2
  have hl := doc_incr hp.1
  have hlt : ∀ i ∈ d.items, i.num < freeN d := fun i hi => by
    have := last_max hl i hi
    omega
  have hpos := last_pos (docE_items hp.1)
  rw [h4, h5]
  refine ⟨hp.1, put_doc0 h2, put_trailer h2, fun i => ?_, hlt, by omega⟩
  rw [hq.2.2.2]
  simp only [layI_mem hl]
  constructor
  · rintro (g | g)
    · exact .inl g
    · exact .inr g.1
  · rintro (g | g)
    · exact .inl g
    · exact .inr ⟨g, by have := hlt i g; omega⟩
variable {d x : Dc} {o : Pob} {n : Int}
theorem AddF.out (h : AddF d x o n) : d.items = outI x.items n := by
  refine incr_ext (doc_incr h.d0) (outI_incr (doc_incr h.x0) n) (fun y => ?_)
  rw [outI_mem, h.mem]
  constructor
  · intro g
    exact ⟨.inr g, by have := h.lt y g; omega⟩
  · rintro ⟨g | g, hn⟩
    · subst g
      exact absurd rfl hn
    · exact g
theorem AddF.lead (h : AddF d x o n) {r : Pob} (hr : r.num ≠ n) : leadR x.items r = leadR d.items r := by
  rw [h.out]
  cases e : leadR (outI x.items n) r with
  | some i => exact ((leadR_out (doc_incr h.x0)).1 e).1
  | none =>
    cases e2 : leadR x.items r with
    | none => rfl
    | some i =>
      have := (leadR_out (n := n) (doc_incr h.x0)).2 ⟨e2, by rw [(leadR_mem e2).2.1]; exact hr⟩
      rw [e] at this
      cases this
/-- nothing refers to the new number -/
structure AddN (d x : Dc) (o : Pob) (n : Int) : Prop extends AddF d x o n where
  hd : ∀ q ∈ allL d, ∀ r ∈ q.2.rr, r.num ≠ n
  ho : ∀ r ∈ o.rr, r.num ≠ n
theorem AddF.no (h : AddF d x o n) (hd : ¬ n ∈ danglingP d) (ho : ∀ r ∈ o.rr, r.num ≠ n) : AddN d x o n := by
  refine ⟨h, fun q hq r hr e => hd ((dang_mem h.d0 n).2 ⟨q, hq, r, hr, ?_, e⟩), ho⟩
  cases e2 : leadR d.items r with
  | none => rfl
  | some i =>
    obtain ⟨g1, g2, _⟩ := leadR_mem e2
    have := h.lt i g1
    omega
theorem AddN.all (h : AddN d x o n) : ∀ q ∈ allL x, ∀ r ∈ q.2.rr, r.num ≠ n := by
  intro q hq r hr
  rcases List.mem_cons.1 hq with rfl | hq
  · rw [h.tr] at hr
    exact h.hd _ List.mem_cons_self r hr
  · obtain ⟨i, hi, rfl⟩ := List.mem_map.1 hq
    rcases (h.mem i).1 hi with rfl | hi
    · exact h.ho r hr
    · exact h.hd _ (List.mem_cons_of_mem _ (List.mem_map.2 ⟨i, hi, rfl⟩)) r hr
theorem AddN.lost (h : AddN d x o n) (hs : x.trailer.rr.length + ibulk x.items ≤ 33554432) : n ∈ lostP x := by
  rw [lost_mem h.x0]
  refine ⟨List.mem_map.2 ⟨⟨n, 0, o⟩, (h.mem _).2 (.inl rfl), rfl⟩, fun hn => ?_⟩
  have hl := reachS_least (o := x.trailer) h.x0 (chk_top h.x0) hs
  have hcl : closedR x.items x.trailer.rr ((reachS x.items x.trailer).filter fun k => decide (k ≠ n)) := by
    refine ⟨fun r hr i hi => List.mem_filter.2 ⟨hl.1.1 r hr i hi, ?_⟩, fun j hj hjm r hr i hi => List.mem_filter.2 ⟨hl.1.2 j hj (List.mem_filter.1 hjm).1 r hr i hi, ?_⟩⟩
    · have := h.all _ List.mem_cons_self r hr
      rw [← (leadR_mem hi).2.1] at this
      simpa using this
    · have := h.all _ (List.mem_cons_of_mem _ (List.mem_map.2 ⟨j, hj, rfl⟩)) r hr
      rw [← (leadR_mem hi).2.1] at this
      simpa using this
  have := (List.mem_filter.1 (hl.2 _ hcl n hn)).2
  simp at this
theorem AddN.reach (h : AddN d x o n) (hs : x.trailer.rr.length + ibulk x.items ≤ 33554432) (hs2 : x.trailer.rr.length + ibulk d.items ≤ 33554432) : fromP x x.trailer = fromP d d.trailer :=
  (drop_reach h.x0 h.d0 h.out h.tr.symm hs hs2 (h.lost hs)).symm
theorem users_iff {d : Dc} (h : docE d = 0) {num u : Int} : u ∈ usersS d num ↔ ∃ q ∈ allL d, (∃ r ∈ q.2.rr, ∃ i, leadR d.items r = some i ∧ i.num = num) ∧ u = q.1 := by
  rw [usersS_mem]
  constructor
  · rintro ⟨q, hq, ha, e⟩
    obtain ⟨k, hk⟩ := doc_chk h q hq
    exact ⟨q, hq, (use_iff h hk).1 ha, e⟩
  · rintro ⟨q, hq, ha, e⟩
    obtain ⟨k, hk⟩ := doc_chk h q hq
    exact ⟨q, hq, (use_iff h hk).2 ha, e⟩
theorem usersP_lt (d : Dc) (num : Int) : (usersP d num).Pairwise (· < ·) := by
  unfold usersP
  split
  · split
    · exact sortI_lt (usersS_nd d num)
    · exact List.Pairwise.nil
  · exact List.Pairwise.nil
theorem there_item {d : Dc} {i : Itm} (hi : i ∈ d.items) : thereB d i.num = true := by
  unfold thereB
  cases hmf : mfind (netL d.items) i.num with
  | some v => rfl
  | none =>
    exfalso
    rw [mfind_none] at hmf
    refine hmf ?_
    simp only [netL, List.map_map, List.mem_map]
    exact ⟨i, hi, rfl⟩
theorem usersP_mem {d : Dc} (h : docE d = 0) {i : Itm} (hi : i ∈ d.items) {u : Int} : u ∈ usersP d i.num ↔ u ∈ usersS d i.num := by rw [usersP, if_pos h, if_pos (there_item hi), sortI_mem]
theorem AddN.none (h : AddN d x o n) : usersP x n = [] := by
  refine List.eq_nil_iff_forall_not_mem.2 fun u hu => ?_
  have hu' := (usersP_mem (i := ⟨n, 0, o⟩) h.x0 ((h.mem _).2 (.inl rfl))).1 hu
  obtain ⟨q, hq, ⟨r, hr, i, hi, e⟩, _⟩ := (users_iff h.x0).1 hu'
  exact h.all q hq r hr ((leadR_mem hi).2.1.symm.trans e)
theorem AddN.users (h : AddN d x o n) {i : Itm} (hi : i ∈ d.items) :
    (n ∈ usersP x i.num → usersP x i.num = usersP d i.num ++ [n]) ∧ (¬ n ∈ usersP x i.num → usersP x i.num = usersP d i.num) := by
  have hix : i ∈ x.items := (h.mem i).2 (.inr hi)
  have hlt : ∀ u ∈ usersP d i.num, u < n := by
    intro u hu
    obtain ⟨q, hq, _, rfl⟩ := (users_iff h.d0).1 ((usersP_mem h.d0 hi).1 hu)
    rcases List.mem_cons.1 hq with rfl | hq
    · exact h.pos
    · obtain ⟨j, hj, rfl⟩ := List.mem_map.1 hq
      exact h.lt j hj
  have hold : ∀ u, u ≠ n → (u ∈ usersP x i.num ↔ u ∈ usersP d i.num) := by
    intro u hu
    rw [usersP_mem h.x0 hix, usersP_mem h.d0 hi, users_iff h.x0, users_iff h.d0]
    constructor
    · rintro ⟨q, hq, ⟨r, hr, j, hj, e⟩, rfl⟩
      rw [h.toAddF.lead (h.all q hq r hr)] at hj
      refine ⟨q, ?_, ⟨r, hr, j, hj, e⟩, rfl⟩
      rcases List.mem_cons.1 hq with rfl | hq
      · rw [h.tr]
        exact List.mem_cons_self
      · obtain ⟨k, hk, rfl⟩ := List.mem_map.1 hq
        rcases (h.mem k).1 hk with rfl | hk
        · exact absurd rfl hu
        · exact List.mem_cons_of_mem _ (List.mem_map.2 ⟨k, hk, rfl⟩)
    · rintro ⟨q, hq, ⟨r, hr, j, hj, e⟩, rfl⟩
      rw [← h.toAddF.lead (h.hd q hq r hr)] at hj
      refine ⟨q, ?_, ⟨r, hr, j, hj, e⟩, rfl⟩
      rcases List.mem_cons.1 hq with rfl | hq
      · rw [← h.tr]
        exact List.mem_cons_self
      · obtain ⟨k, hk, rfl⟩ := List.mem_map.1 hq
        exact List.mem_cons_of_mem _ (List.mem_map.2 ⟨k, (h.mem k).2 (.inr hk), rfl⟩)
  constructor
  · intro hn
    refine lt_ext (usersP_lt _ _) (List.pairwise_append.2 ⟨usersP_lt _ _, List.pairwise_singleton _ _, fun a ha b hb => ?_⟩) (fun u => ?_)
    · rw [List.mem_singleton.1 hb]
      exact hlt a ha
    · by_cases hu : u = n
      · subst hu
        simp [hn]
      · simp [hold u hu, hu]
  · intro hn
    refine lt_ext (usersP_lt _ _) (usersP_lt _ _) (fun u => ?_)
    by_cases hu : u = n
    · subst hu
      exact ⟨fun g => absurd g hn, fun g => absurd (hlt u g) (by omega)⟩
    · exact hold u hu
end Aw

namespace Go.Proofs
open Go Aw
set_option linter.unusedSimpArgs false
set_option linter.unusedVariables false
set_option maxRecDepth 100000
set_option maxHeartbeats 4000000
theorem takeLen {l : List Int} {k : Nat} (h : l.length ≤ 16777216) : (l.take k).length ≤ 16777216 := Nat.le_trans (List.length_take_le' _ _) h
theorem c_Ints_take (gl : List (Nat × AV)) (a b : List Int) (k : Nat) (ha : a.length ≤ 16777216) : FnP Try.prog gl 17 [.sl (List.take k (intsAV a)), .sl (intsAV b)] fun r => r = .ret (.bool (decide (a.take k = b))) := by
  rw [take_intsAV]
  exact c_foliantref05_Ints gl (a.take k) b (takeLen ha)
theorem c_law_GraphAdds (gl : List (Nat × AV)) (d : Dc) (o : Pob) (hd : d.tot + o.tot ≤ 1048576) : FnP Try.prog (gl) 5 [.agg d.cells, .agg o.cells] fun r => r = .ret (.bool true) := by
  refine FnP.intro Try.func5 rfl rfl (by simp [Try.ntmps5]) ?_
  simp only [argEnv, Try.ntmps5, Try.results5]
  have h1 := Dc.bulk_tot d
  have h2 := Dc.size_tot d
  have h3 := Pob.bulk_tot o
  have h4 := Pob.psize_tot o
  have hb8 : d.bulk = ibulk d.items + d.trailer.bulk := rfl
  have hb9 := ibulk_len d.items
  have hr2 := rr_len d.trailer
  have hr3 := rr_len o
  have hxb := addO_bulk d o
  have hxd := danglingP_len (addO d o)
  have hdd := danglingP_len d
  have hll := lostP_len (addO d o)
  have hf1 := fromP_len d d.trailer
  have hf2 := fromP_len (addO d o) (addO d o).trailer
  have hun := usersP_len (addO d o) (addN d o)
  refine AW.rS ?_
  refine AW.trim [2, 3] ?_
  refine AW.seq ?_
  refine AW.rSC ?_
  refine awOps.cons (awGuard.c1 (c_law29_lives _) ?_)
  refine awOps.rn ?_
  refine AW.trim [2, 3, 16] ?_
  refine AW.c2 ?_ ?_
  · intro h6
    refine AW.rS ?_
    refine AW.trim [4] ?_
    refine AW.rt ?_
    all_goals first | contradiction | rfl | (simp; done) | (simp; omega)
  · intro h6
    refine AW.skip ?_
    refine AW.seq ?_
    refine AW.rSC ?_
    refine awOps.cons (awGuard.c1 (c_foliantref19_Size _ d (by omega) (by omega)) ?_)
    refine awOps.rn ?_
    refine awOps.cons (awGuard.cG (fun hg => c_foliantref05_Size _ o (by omega) (by omega)) ?_)
    refine awOps.rn ?_
    refine AW.trim [2, 3, 24] ?_
    refine AW.c2 ?_ ?_
    · intro h17
      refine AW.rS ?_
      refine AW.trim [4] ?_
      refine AW.rt ?_
      all_goals first | contradiction | rfl | (simp; done) | (simp; omega)
    · intro h17
      refine AW.skip ?_
      refine AW.rSC ?_
      refine awOps.cons (awGuard.c1 (c_docs_Add _ d o (by omega)) ?_)
      refine awOps.rn ?_
      refine AW.trim [2, 3, 5, 6, 7] ?_
      refine AW.seq ?_
      refine AW.rSC ?_
      refine awOps.cons (awGuard.cG (fun hg => c_graph_Dangling _ d (by omega)) ?_)
      refine awOps.rn ?_
      refine awOps.cons (awGuard.cG (fun hg => c_law29_in _ (danglingP d) (addN d o) (by omega)) ?_)
      refine awOps.rn ?_
      refine awOps.cons (awGuard.cG (fun hg => c_graph_Dangling _ (addO d o) (by omega)) ?_)
      refine awOps.rn ?_
      refine awOps.cons (awGuard.cG (fun hg => c_law29_in _ (danglingP (addO d o)) (addN d o) (by omega)) ?_)
      refine awOps.rn ?_
      refine AW.trim [2, 3, 5, 6, 45] ?_
      refine AW.c2 ?_ ?_
      · intro h35
        refine AW.rS ?_
        refine AW.trim [4] ?_
        refine AW.rt ?_
        all_goals first | contradiction | rfl | (simp; done) | (simp; omega)
      · intro h35
        refine AW.skip ?_
        refine AW.seq ?_
        refine AW.rSC ?_
        refine awOps.cons (awGuard.cH [] (h_foliantref29_Refs _ o (by omega)) ?_)
        refine awOps.rn ?_
        refine AW.trim [2, 5, 6, 47, 48, 49] ?_
        refine AW.block ?_
        refine AW.clo 47 ?_
        refine wk ?_
        refine AW.lk (S := { k : Nat // k ≤ o.rr.length ∧ ∀ j, j < k → (o.rr.getD j Pob.null).num ≠ addN d o }) [2, 5, 6, 47, 48] (fun s_ => [(49, .int .i64 s_.1)]) (fun s_ => [(0, .cells d.cells), (1, .cells o.cells), (2, .cells (addO d o).cells)]) 3 (fun s_ => o.rr.length - s_.1) ⟨0, Nat.zero_le _, fun j h => absurd h (by omega)⟩ ?_ ?_
        · refine St.le.vw [0, 1, 2]
        rintro ⟨k, hk, hs⟩
        try dsimp only at hk
        try dsimp only at hs
        refine AW.rS ?_
        refine AW.trim [2, 5, 6, 47, 48, 49, 50] ?_
        refine AW.seq ?_
        refine AW.c2 ?_ ?_
        · intro h48
          refine AW.skip ?_
          refine AW.seq ?_
          refine AW.block ?_
          refine AW.rS ?_
          refine AW.trim [2, 5, 6, 9, 47, 48, 49] ?_
          refine AW.rS ?_
          refine AW.trim [2, 5, 6, 47, 48, 49, 56] ?_
          refine AW.c2 ?_ ?_
          · intro h54
            refine AW.rS ?_
            refine AW.trim [4] ?_
            refine AW.rt ?_
            all_goals first | contradiction | rfl | (simp; done) | (simp; omega)
          · intro h54
            refine AW.skip ?_
            refine AW.rL ?_
            refine ⟨⟨k + 1, by omega, fun j hj => (Nat.lt_or_ge j k).elim (hs j) (fun h => (show j = k by omega) ▸ h54)⟩, ?_, ?_⟩
            · refine St.le.vw [0, 1, 2]
            · simp only []; omega
        · intro h48
          refine AW.exit ?_
          refine AW.seq ?_
          refine AW.fS [0, 2, 1, 3, 4, 5, 6, 8, 7, 9, 10, 11, 12, 13, 14, 15, 16, 17, 18, 19] [] ?_
          refine awFun.rn ?_
          refine awFun.c1 [58] (c_graph_Lost _ (addO d o) (by omega)) ?_
          refine awFun.rn ?_
          refine awFun.c1 [59, 60] (c_law29_in _ (lostP (addO d o)) (addN d o) (by omega)) ?_
          refine awFun.rn ?_
          refine awFun.cG [63, 64] (fun hg => c_graph_Reach _ (addO d o) (by omega)) ?_
          refine awFun.rn ?_
          refine awFun.cG [63, 66] (fun hg => c_graph_Reach _ d (by omega)) ?_
          refine awFun.rn ?_
          refine awFun.cG [63, 65, 67] (fun hg => c_foliantref05_Ints _ (fromP (addO d o) (addO d o).trailer) (fromP d d.trailer) (by omega)) ?_
          refine awFun.rn ?_
          refine awFun.cG [71, 72, 73] (fun hg => c_graph_Users _ (addO d o) (addN d o) (by omega)) ?_
          refine awFun.rn ?_
          rw [Aw.awFun_nil, Aw.awPlan_nil]
          have hN := (add_parts h35.1.1).no h35.1.2 (fun r hr => by
            obtain ⟨j, hj, rfl⟩ := List.mem_iff_getElem.1 hr
            have := hs j (by omega)
            rwa [List.getD_eq_getElem?_getD, List.getElem?_eq_getElem hj] at this)
          have hbx : ibulk (addO d o).items + (addO d o).trailer.bulk = (addO d o).bulk := rfl
          have hrx := rr_len (addO d o).trailer
          have hxr := hN.reach (by omega) (by rw [hN.tr]; omega)
          have hxl := hN.lost (by omega)
          have hxn := hN.none
          refine AW.trim [2, 5, 6, 77] ?_
          refine AW.c2 ?_ ?_
          · intro h78
            exfalso
            rcases h78 with (h | h) | h
            · exact h hxl
            · exact h hxr
            · exact h (by rw [hxn]; rfl)
          · intro h78
            refine AW.skip ?_
            refine AW.seq ?_
            refine AW.rS ?_
            refine AW.trim [2, 5, 6, 79, 80, 81] ?_
            refine AW.block ?_
            refine AW.lk (S := { i : Nat // i ≤ d.items.length }) [2, 5, 6, 79, 80] (fun s_ => [(81, .int .i64 s_.1)]) (fun s_ => [(0, .cells d.cells), (1, .cells o.cells), (2, .cells (addO d o).cells)]) 3 (fun s_ => d.items.length - s_.1) ⟨0, Nat.zero_le _⟩ ?_ ?_
            · refine St.le.vw [0, 1, 2]
            rintro ⟨i, hi⟩
            try dsimp only at hi
            refine AW.rS ?_
            refine AW.trim [2, 5, 6, 79, 80, 81, 82] ?_
            refine AW.seq ?_
            refine AW.c2 ?_ ?_
            · intro h89
              have him : d.items.getD i Itm.zero ∈ d.items := by
                rw [List.getD_eq_getElem?_getD, List.getElem?_eq_getElem h89]
                exact List.getElem_mem _
              have hus := hN.users him
              have hu1 := usersP_len d (d.items.getD i Itm.zero).num
              have hu2 := usersP_len (addO d o) (d.items.getD i Itm.zero).num
              refine AW.skip ?_
              refine AW.seq ?_
              refine AW.block ?_
              refine AW.rS ?_
              refine AW.trim [2, 5, 6, 11, 79, 80, 81] ?_
              refine AW.fS [0, 1, 2, 4, 5, 6, 3, 7, 8, 9] [] ?_
              refine awFun.rn ?_
              refine awFun.c1 [85, 87] (c_graph_Users _ d (d.items.getD i Itm.zero).num (by omega)) ?_
              refine awFun.rn ?_
              refine awFun.c1 [89, 91] (c_graph_Users _ (addO d o) (d.items.getD i Itm.zero).num (by omega)) ?_
              refine awFun.rn ?_
              rw [Aw.awFun_nil, Aw.awPlan_nil]
              refine AW.trim [2, 5, 6, 12, 13, 79, 80, 81] ?_
              refine AW.rSC ?_
              refine awOps.cons (awGuard.c1 (c_law29_in _ (usersP (addO d o) (d.items.getD i Itm.zero).num) (addN d o) (by omega)) ?_)
              refine awOps.rn ?_
              refine AW.trim [2, 5, 6, 12, 13, 14, 79, 80, 81] ?_
              refine AW.rSC ?_
              refine awOps.cons (awGuard.cG (fun hg => c_Ints_take _ (usersP (addO d o) (d.items.getD i Itm.zero).num) (usersP d (d.items.getD i Itm.zero).num) (usersP d (d.items.getD i Itm.zero).num).length (by omega)) ?_)
              refine awOps.rn ?_
              refine awOps.cons (awGuard.cG (fun hg => c_foliantref05_Ints _ (usersP (addO d o) (d.items.getD i Itm.zero).num) (usersP d (d.items.getD i Itm.zero).num) (by omega)) ?_)
              refine awOps.rn ?_
              refine AW.trim [2, 5, 6, 79, 80, 81, 123] ?_
              refine AW.c2 ?_ ?_
              · intro h109
                exfalso
                rcases h109 with ⟨hm, h⟩ | ⟨hm, h⟩
                · have hq := hus.1 hm
                  rcases h with h | h
                  · rw [hq] at h
                    exact h (by simp)
                  · rw [hq] at h
                    exact h (by simp)
                · exact h (hus.2 hm)
              · intro h109
                refine AW.skip ?_
                refine AW.rL ?_
                refine ⟨⟨i + 1, by omega⟩, ?_, ?_⟩
                · refine St.le.vw [0, 1, 2]
                · simp only []; omega
            · intro h89
              refine AW.exit ?_
              refine AW.rS ?_
              refine AW.trim [4] ?_
              refine AW.rt ?_
              all_goals first | contradiction | rfl | (simp; done) | (simp; omega)
end Go.Proofs
