/- A part of the proof of a law of the seat: no condition of its own. -/
import Derived.Test.YtkngkpofninhkaaGreatPart6
namespace Aw
open Go
theorem setAdd_nd {l : List Int} (h : l.Nodup) (x : Int) : (setAdd l x).Nodup := by
  unfold setAdd
  split
  · exact h
  · rename_i hx
    rw [List.nodup_append]
    refine ⟨h, by simp, fun a ha b hb => ?_⟩
    simp only [List.mem_singleton] at hb
    subst hb
    intro e
    subst e
    exact hx ha
theorem foldI_nd {S : Type} {g : S → Int → Pob → S} {I : S → Prop} (hI : ∀ s n o, I s → I (g s n o)) : ∀ (l : List Itm) (s : S), I s → I (foldI g s l)
  | [], s, h => h
  | i :: l, s, h => by
    have := foldI_nd hI l (g s i.num i.obj) (hI _ _ _ h)
    simpa [foldI] using this
theorem dangS_nd (d : Dc) : (dangS d).Nodup := by
  have hw : ∀ (s : List Int) (n : Int) (o : Pob), s.Nodup → (dangAll d s n o).Nodup := fun s n o h => walkR_inv (I := fun s : List Int => s.Nodup) (fun s x h => by
    simp only [dangStp]
    split
    · exact h
    · exact setAdd_nd h _) _ _ h
  exact foldI_nd hw _ _ (hw _ _ _ List.nodup_nil)
theorem usersS_nd (d : Dc) (num : Int) : (usersS d num).Nodup := by
  have hw : ∀ (s : List Int) (n : Int) (o : Pob), s.Nodup → (usersAll d num s n o).Nodup := fun s n o h => walkR_inv (I := fun s : List Int => s.Nodup) (fun s x h => by
    simp only [usesStp]
    split
    · exact setAdd_nd h _
    · exact h) _ _ h
  exact foldI_nd hw _ _ (hw _ _ _ List.nodup_nil)
theorem rrs_mem {l : List Pob} {x : Pob} : x ∈ rrs l ↔ ∃ o ∈ l, x ∈ o.rr := by
  induction l with
  | nil => simp [rrs]
  | cons o l ih => simp [rrs, ih]
theorem dang_one (d : Dc) : dangR d = danglingP d := by
  unfold dangR danglingP
  by_cases h : docE d = 0
  · rw [if_pos h, if_pos h]
    obtain ⟨h1, h2⟩ := numIns_fold (dangI d (d.trailer.rr ++ itemsRR d.items)) [] List.Pairwise.nil
    refine lt_ext h1 (sortI_lt (dangS_nd d)) (fun n => ?_)
    have hl := items_incr (docE_items h)
    rw [h2, sortI_mem, dangS_mem]
    simp only [List.not_mem_nil, false_or, dangI, List.mem_map, List.mem_filter, leadR_isSome hl, Bool.not_eq_true']
    constructor
    · rintro ⟨x, ⟨hx, hb⟩, rfl⟩
      rcases List.mem_append.1 hx with hx | hx
      · obtain ⟨k, hk⟩ := doc_chk h (0, d.trailer) List.mem_cons_self
        rw [chk_rr _ k hk, List.mem_filter] at hx
        exact ⟨(0, d.trailer), List.mem_cons_self, x, hx.1, by simpa using hx.2, hb, rfl⟩
      · unfold itemsRR at hx
        obtain ⟨o, ho, hx⟩ := rrs_mem.1 hx
        obtain ⟨i, hi, rfl⟩ := List.mem_map.1 ho
        obtain ⟨k, hk⟩ := items_chk h i hi
        rw [chk_rr _ k hk, List.mem_filter] at hx
        exact ⟨(i.num, i.obj), List.mem_cons_of_mem _ (List.mem_map.2 ⟨i, hi, rfl⟩), x, hx.1, by simpa using hx.2, hb, rfl⟩
    · rintro ⟨q, hq, p, hp, h8, hb, rfl⟩
      obtain ⟨k, hk⟩ := doc_chk h q hq
      have hpr : p ∈ q.2.rr := by rw [chk_rr _ k hk, List.mem_filter]; exact ⟨hp, by simpa using h8⟩
      refine ⟨p, ⟨?_, hb⟩, rfl⟩
      rcases List.mem_cons.1 hq with rfl | hq
      · exact List.mem_append_left _ hpr
      · obtain ⟨i, hi, rfl⟩ := List.mem_map.1 hq
        exact List.mem_append_right _ (rrs_mem.2 ⟨i.obj, List.mem_map.2 ⟨i, hi, rfl⟩, hpr⟩)
  · rw [if_neg h, if_neg h]
theorem usesR_eq {d : Dc} (h : docE d = 0) (num : Int) {o : Pob} {k : Int} (hk : chk o k = 0) : usesR d num o = o.pre.any fun p => decide (p.kind = 8) && usesB d.items num p := by
  have hl := items_incr (docE_items h)
  unfold usesR
  rw [chk_rr _ k hk, List.any_filter]
  congr 1
  funext p
  cases hb : leadB d.items p
  · rw [leadR_no hl hb]
    simp [usesB, hb]
  · rw [leadR_yes hl hb]
    simp [usesB, hb]
theorem nums_lt {l : List Itm} (h : incrN l) (p : Itm → Bool) : ((l.filter p).map (·.num)).Pairwise (· < ·) := by
  rw [List.pairwise_map]
  exact (incrN_iff.1 h).sublist List.filter_sublist
theorem users_one (d : Dc) (num : Int) : usersR d num = usersP d num := by
  unfold usersR usersP
  by_cases h : docE d = 0
  · rw [if_pos h, if_pos h]
    have hl := items_incr (docE_items h)
    have hsub : ∀ n, (n ∈ (if usesR d num d.trailer then [0] else []) ++ userL d num d.items) ↔ n ∈ usersS d num := by
      intro n
      rw [usersS_mem]
      simp only [List.mem_append, userL, List.mem_map, List.mem_filter]
      obtain ⟨k, hk⟩ := doc_chk h (0, d.trailer) List.mem_cons_self
      constructor
      · rintro (hn | ⟨i, ⟨hi, hu⟩, rfl⟩)
        · split at hn
          · rename_i hu
            simp only [List.mem_singleton] at hn
            subst hn
            exact ⟨(0, d.trailer), List.mem_cons_self, by rw [← usesR_eq h num hk]; exact hu, rfl⟩
          · cases hn
        · obtain ⟨k', hk'⟩ := items_chk h i hi
          exact ⟨(i.num, i.obj), List.mem_cons_of_mem _ (List.mem_map.2 ⟨i, hi, rfl⟩), by rw [← usesR_eq h num hk']; exact hu, rfl⟩
      · rintro ⟨q, hq, hu, rfl⟩
        rcases List.mem_cons.1 hq with rfl | hq
        · refine .inl ?_
          rw [if_pos (by rw [usesR_eq h num hk]; exact hu)]
          simp
        · obtain ⟨i, hi, rfl⟩ := List.mem_map.1 hq
          obtain ⟨k', hk'⟩ := items_chk h i hi
          exact .inr ⟨i, ⟨hi, by rw [usesR_eq h num hk']; exact hu⟩, rfl⟩
    have hlt : ((if usesR d num d.trailer then [(0 : Int)] else []) ++ userL d num d.items).Pairwise (· < ·) := by
      have h2 := nums_lt hl (fun i => usesR d num i.obj)
      split
      · rw [List.singleton_append, List.pairwise_cons]
        refine ⟨fun x hx => ?_, h2⟩
        obtain ⟨i, hi, rfl⟩ := List.mem_map.1 hx
        have := items_num h i (List.mem_filter.1 hi).1
        omega
      · exact h2
    have e := lt_ext hlt (sortI_lt (usersS_nd d num)) (fun n => by rw [hsub, sortI_mem])
    rw [e]
    split
    · rfl
    · rename_i hn
      have h0 : usersS d num = [] := by
        refine List.eq_nil_iff_forall_not_mem.2 (fun n hm => ?_)
        obtain ⟨q, _, hu, _⟩ := (usersS_mem d num n).1 hm
        rw [List.any_eq_true] at hu
        obtain ⟨p, _, hp⟩ := hu
        simp only [usesB, Bool.and_eq_true, decide_eq_true_eq] at hp
        refine hn ?_
        have hm := (lead_mem hp.2.1).1
        unfold thereB
        cases hmf : mfind (netL d.items) num with
        | some v => rfl
        | none =>
          exfalso
          rw [mfind_none] at hmf
          refine hmf ?_
          rw [← hp.2.2]
          simp only [netL, List.map_map, List.mem_map]
          exact ⟨_, hm, rfl⟩
      rw [h0]
      simp [sortI]
  · rw [if_neg h, if_neg h]
theorem lost_one (d : Dc) : lostR d = lostP d := by
  unfold lostR lostP
  by_cases h : docE d = 0
  · rw [if_pos h, if_pos h]
    have hl := items_incr (docE_items h)
    refine lt_ext (nums_lt hl _) (sortI_lt (lostL_nodup hl _)) (fun n => ?_)
    have hc : chk d.trailer 1 = 0 := by
      have h1 := docE_trail h
      by_cases hc : chk d.trailer 1 = 0
      · exact hc
      · rw [trail_bad hc] at h1
        exact absurd h1 hc
    rw [sortI_mem, fromP, if_pos ⟨h, hc⟩]
    simp only [lostI, lostL, List.mem_map, List.mem_filter, sortI_mem]
    constructor
    · rintro ⟨i, ⟨hi, hu⟩, rfl⟩
      exact ⟨⟨i, hi, rfl⟩, hu⟩
    · rintro ⟨⟨i, hi, rfl⟩, hu⟩
      exact ⟨i, ⟨hi, hu⟩, rfl⟩
  · rw [if_neg h, if_neg h]
end Aw
namespace Aw
open Go
theorem sortI_len (s : List Int) : (sortI s).length = s.length := (List.mergeSort_perm s _).length_eq
theorem fromP_len (d : Dc) (o : Pob) : (fromP d o).length ≤ 8192 := by
  unfold fromP
  split
  · rename_i h
    rw [sortI_len]
    exact Nat.le_trans (reachS_len _ _) (items_len h.1)
  · simp
theorem lostP_len (d : Dc) : (lostP d).length ≤ 8192 := by
  unfold lostP
  split
  · rename_i h
    rw [sortI_len]
    unfold lostL
    refine Nat.le_trans (List.length_filter_le _ _) ?_
    rw [List.length_map]
    exact items_len h
  · simp
theorem danglingP_len (d : Dc) : (danglingP d).length ≤ d.bulk := by
  unfold danglingP
  split
  · rw [sortI_len]
    exact dangS_len d
  · simp
theorem usersP_len (d : Dc) (num : Int) : (usersP d num).length ≤ d.bulk := by
  unfold usersP
  split
  · split
    · rw [sortI_len]
      exact usersS_len d num
    · simp
  · simp
end Aw

namespace Aw
open Go
def gRef (n g : Int) : Pob := .mk 8 n g [] [] []
def gDict : Pob := .mk 7 0 0 [] [[65], [66]] [gRef 2 0, gRef 9 0]
def gArr : Pob := .mk 6 0 0 [] [] [gRef 2 0]
def gTrail : Pob := .mk 7 0 0 [] [[82, 111, 111, 116]] [gRef 1 0]
def threeD : Dc := ⟨[⟨1, 0, gDict⟩, ⟨2, 0, Pob.null⟩, ⟨3, 0, gArr⟩], gTrail⟩
theorem sortI_id {s t : List Int} (ht : t.Pairwise (· < ·)) (hp : s.Perm t) : sortI s = t := by
  have hn : s.Nodup := hp.nodup_iff.2 (ht.imp fun h => Int.ne_of_lt h)
  exact lt_ext (sortI_lt hn) ht (fun n => by rw [sortI_mem]; exact hp.mem_iff)
theorem lg0 : docE threeD = 0 := by decide +kernel
theorem lg1 : chk gTrail 1 = 0 := by decide +kernel
theorem lg2 : chk (gRef 3 0) 1 = 0 := by decide +kernel
theorem lg3 : chk (gRef 3 1) 1 = 0 := by decide +kernel
theorem lg4 : reachS threeD.items gTrail = [1, 2] := by decide +kernel
theorem lg5 : reachS threeD.items (gRef 3 0) = [3, 2] := by decide +kernel
theorem lg6 : reachS threeD.items (gRef 3 1) = [] := by decide +kernel
theorem lg7 : lostL threeD.items [1, 2] = [3] := by decide +kernel
theorem lg8 : dangS threeD = [9] := by decide +kernel
theorem lg9 : usersS threeD 2 = [1, 3] := by decide +kernel
theorem lg10 : usersS threeD 1 = [0] := by decide +kernel
theorem lg11 : thereB threeD 2 = true := by decide +kernel
theorem lg12 : thereB threeD 1 = true := by decide +kernel
theorem lg13 : thereB threeD 9 = false := by decide +kernel
theorem lg14 : ¬ docE Dc.zero = 0 := by decide +kernel
theorem lh1 : fromP threeD gTrail = [1, 2] := by rw [fromP, if_pos ⟨lg0, lg1⟩, lg4]; exact sortI_id (by decide) (.refl _)
theorem lh2 : fromP threeD (gRef 3 0) = [2, 3] := by rw [fromP, if_pos ⟨lg0, lg2⟩, lg5]; exact sortI_id (by decide) (by decide)
theorem lh3 : fromP threeD (gRef 3 1) = [] := by rw [fromP, if_pos ⟨lg0, lg3⟩, lg6]; exact sortI_id (by decide) (.refl _)
theorem lh4 : lostP threeD = [3] := by rw [lostP, if_pos lg0, show threeD.trailer = gTrail from rfl, lg4, lg7]; exact sortI_id (by decide) (.refl _)
theorem lh5 : danglingP threeD = [9] := by rw [danglingP, if_pos lg0, lg8]; exact sortI_id (by decide) (.refl _)
theorem lh6 : usersP threeD 2 = [1, 3] := by rw [usersP, if_pos lg0, if_pos lg11, lg9]; exact sortI_id (by decide) (.refl _)
theorem lh7 : usersP threeD 1 = [0] := by rw [usersP, if_pos lg0, if_pos lg12, lg10]; exact sortI_id (by decide) (.refl _)
theorem lh8 : usersP threeD 9 = [] := by rw [usersP, if_pos lg0, if_neg (by rw [lg13]; decide)]
theorem lh9 : fromP Dc.zero Dc.zero.trailer = [] := by rw [fromP, if_neg (fun h => lg14 h.1)]
end Aw

namespace Go.Proofs
open Go Aw
set_option linter.unusedSimpArgs false
set_option linter.unusedVariables false
set_option maxRecDepth 100000
set_option maxHeartbeats 4000000

attribute [local go_sem] List.getD_cons_zero List.length_cons List.length_nil
end Go.Proofs

namespace Go.Proofs
open Go Aw
set_option linter.unusedSimpArgs false
set_option linter.unusedVariables false
set_option maxRecDepth 100000
set_option maxHeartbeats 2000000
theorem takeInt_succ {a b : List Int} {i : Nat} (h : i < a.length) (hl : a.length = b.length) (he : a.take i = b.take i) (hg : a.getD i 0 = b.getD i 0) : a.take (i + 1) = b.take (i + 1) := by
  rw [List.take_add_one, List.take_add_one, he]
  rw [List.getD, List.getD] at hg
  rw [List.getElem?_eq_getElem h, List.getElem?_eq_getElem (show i < b.length by omega)] at hg ⊢
  simp only [Option.getD_some] at hg
  rw [hg]
theorem c_foliantref05_Ints (gl : List (Nat × AV)) (a b : List Int) (ha : a.length ≤ 16777216 := by first | omega | exact u8_le _ | assumption | (simp; done) | (simp; omega)) : FnP Tryz.prog (gl) 7 [.sl (intsAV a), .sl (intsAV b)] fun r => r = .ret (.bool (decide (a = b))) := by
  refine FnP.intro Tryz.func7 rfl rfl (by simp [Tryz.ntmps7]) ?_
  simp only [argEnv, Tryz.ntmps7, Tryz.results7]
  refine AW.rS ?_
  refine AW.seq ?_
  refine AW.rS ?_
  refine AW.c2 ?_ ?_
  · intro h4
    refine AW.rS ?_
    refine AW.rt ?_
    rw [decide_eq_false (fun e => h4 (by rw [e]))]
  · intro h4
    refine AW.skip ?_
    refine AW.seq ?_
    refine AW.rS ?_
    refine AW.block ?_
    refine AW.lk (S := { i : Nat // i ≤ a.length ∧ a.take i = b.take i }) [0, 1, 12] (fun s_ => [(13, .int .i64 s_.1)]) (fun s_ => []) 0 (fun s_ => a.length - s_.1) ⟨0, Nat.zero_le _, rfl⟩ ?_ ?_
    · refine St.le.vw []
    rintro ⟨i, hi, hs⟩
    try dsimp only at hi
    try dsimp only at hs
    refine AW.rS ?_
    refine AW.seq ?_
    refine AW.c2 ?_ ?_
    · intro h15
      refine AW.skip ?_
      refine AW.seq ?_
      refine AW.block ?_
      refine AW.rS ?_
      refine AW.dS [(0, 0), (1, 0), (2, 1), (3, 1), (4, 0), (5, 0), (6, 1), (7, 1), (8, 0)] ?_
      refine AW.c2 ?_ ?_
      · intro h21
        refine AW.rS ?_
        refine AW.rt ?_
        rw [decide_eq_false (fun e => h21 (by rw [e]))]
      · intro h21
        refine AW.skip ?_
        refine AW.rL ?_
        refine ⟨⟨i + 1, by omega, takeInt_succ h15 (by omega) hs h21⟩, ?_, ?_⟩
        · refine St.le.vw []
        · simp only []; omega
    · intro h15
      refine AW.exit ?_
      refine AW.rS ?_
      refine AW.rt ?_
      rw [List.take_of_length_le (by omega), List.take_of_length_le (by omega)] at hs
      simp [hs]
end Go.Proofs

namespace Go.Proofs
open Go Aw
set_option linter.unusedSimpArgs false
set_option linter.unusedVariables false
set_option maxRecDepth 100000
set_option maxHeartbeats 4000000
theorem c_foliantlaw29_Three (gl : List (Nat × AV))  : FnP Tryz.prog (gl) 18 [] fun r => r = .ret (.agg threeD.cells) := by
  refine FnP.intro Tryz.func18 rfl rfl (by simp [Tryz.ntmps18]) ?_
  simp only [argEnv, Tryz.ntmps18, Tryz.results18]
  refine AW.rS ?_
  refine AW.rS ?_
  refine AW.rt ?_
  all_goals first | contradiction | rfl | (simp; done) | (simp; omega)
theorem lk1 : threeD.bulk ≤ 16777216 := by decide +kernel
theorem lk2 : (gRef 3 0).bulk ≤ 16777216 := by decide +kernel
theorem lk3 : (gRef 3 1).bulk ≤ 16777216 := by decide +kernel
theorem lk4 : Dc.zero.bulk ≤ 16777216 := by decide +kernel
theorem lk5 : fromP threeD threeD.trailer = [1, 2] := lh1
theorem cg1 (gl : List (Nat × AV)) : FnP Tryz.prog gl 8 [.agg threeD.cells] fun r => r = .ret (.sl (intsAV [1, 2])) := by
  have h := c_graph_Reach gl threeD lk1
  rw [lk5] at h
  exact h
theorem cg2 (gl : List (Nat × AV)) : FnP Tryz.prog gl 12 [.agg threeD.cells] fun r => r = .ret (.sl (intsAV [3])) := by
  have h := c_graph_Lost gl threeD lk1
  rw [lh4] at h
  exact h
theorem cg3 (gl : List (Nat × AV)) : FnP Tryz.prog gl 14 [.agg threeD.cells] fun r => r = .ret (.sl (intsAV [9])) := by
  have h := c_graph_Dangling gl threeD lk1
  rw [lh5] at h
  exact h
theorem cg4 (gl : List (Nat × AV)) : FnP Tryz.prog gl 16 [.agg threeD.cells, .int .i64 2] fun r => r = .ret (.sl (intsAV [1, 3])) := by
  have h := c_graph_Users gl threeD 2 lk1
  rw [lh6] at h
  exact h
theorem cg5 (gl : List (Nat × AV)) : FnP Tryz.prog gl 16 [.agg threeD.cells, .int .i64 1] fun r => r = .ret (.sl (intsAV [0])) := by
  have h := c_graph_Users gl threeD 1 lk1
  rw [lh7] at h
  exact h
theorem cg6 (gl : List (Nat × AV)) : FnP Tryz.prog gl 16 [.agg threeD.cells, .int .i64 9] fun r => r = .ret (.sl (intsAV [])) := by
  have h := c_graph_Users gl threeD 9 lk1
  rw [lh8] at h
  exact h
theorem cg7 (gl : List (Nat × AV)) : FnP Tryz.prog gl 10 [.agg threeD.cells, .agg (gRef 3 0).cells] fun r => r = .ret (.sl (intsAV [2, 3])) := by
  have h := c_graph_From gl threeD (gRef 3 0) lk1 lk2
  rw [lh2] at h
  exact h
theorem cg8 (gl : List (Nat × AV)) : FnP Tryz.prog gl 10 [.agg threeD.cells, .agg (gRef 3 1).cells] fun r => r = .ret (.sl (intsAV [])) := by
  have h := c_graph_From gl threeD (gRef 3 1) lk1 lk3
  rw [lh3] at h
  exact h
theorem cg9 (gl : List (Nat × AV)) : FnP Tryz.prog gl 8 [.agg Dc.zero.cells] fun r => r = .ret (.sl (intsAV [])) := by
  have h := c_graph_Reach gl Dc.zero lk4
  rw [lh9] at h
  exact h
theorem c_law29_lives (gl : List (Nat × AV))  : FnP Tryz.prog (gl) 6 [] fun r => r = .ret (.bool true) := by
  refine FnP.intro Tryz.func6 rfl rfl (by simp [Tryz.ntmps6]) ?_
  simp only [argEnv, Tryz.ntmps6, Tryz.results6]
  refine AW.rS ?_
  refine AW.trim [] ?_
  refine AW.rSC ?_
  refine awOps.cons (awGuard.c1 (c_foliantlaw29_Three _) ?_)
  refine awOps.rn ?_
  refine AW.trim [1] ?_
  refine AW.rSC ?_
  refine awOps.cons (awGuard.c1 (cg1 _) ?_)
  refine awOps.rn ?_
  refine awOps.cons (awGuard.c1 (c_foliantref05_Ints _ [1, 2] [1, 2] (by decide)) ?_)
  refine awOps.rn ?_
  refine awOps.cons (awGuard.cG (fun hg => cg2 _) ?_)
  refine awOps.rn ?_
  refine awOps.cons (awGuard.gT ?_)
  refine awOps.cons (awGuard.cT (c_foliantref05_Ints _ [3] [3] (by decide)) ?_)
  refine awOps.rn ?_
  refine awOps.cons (awGuard.cG (fun hg => cg3 _) ?_)
  refine awOps.rn ?_
  refine awOps.cons (awGuard.gT ?_)
  refine awOps.cons (awGuard.cT (c_foliantref05_Ints _ [9] [9] (by decide)) ?_)
  refine awOps.rn ?_
  refine awOps.cons (awGuard.cG (fun hg => cg4 _) ?_)
  refine awOps.rn ?_
  refine awOps.cons (awGuard.gT ?_)
  refine awOps.cons (awGuard.cT (c_foliantref05_Ints _ [1, 3] [1, 3] (by decide)) ?_)
  refine awOps.rn ?_
  refine awOps.cons (awGuard.cG (fun hg => cg5 _) ?_)
  refine awOps.rn ?_
  refine awOps.cons (awGuard.gT ?_)
  refine awOps.cons (awGuard.cT (c_foliantref05_Ints _ [0] [0] (by decide)) ?_)
  refine awOps.rn ?_
  refine awOps.cons (awGuard.cG (fun hg => cg6 _) ?_)
  refine awOps.rn ?_
  refine awOps.cons (awGuard.gT ?_)
  refine awOps.rn ?_
  refine awOps.cons (awGuard.cG (fun hg => cg7 _) ?_)
  refine awOps.rn ?_
  refine awOps.cons (awGuard.gT ?_)
  refine awOps.cons (awGuard.cT (c_foliantref05_Ints _ [2, 3] [2, 3] (by decide)) ?_)
  refine awOps.rn ?_
  refine awOps.cons (awGuard.gT ?_)
  refine awOps.rn ?_
  refine awOps.cons (awGuard.cG (fun hg => cg8 _) ?_)
  refine awOps.rn ?_
  refine awOps.cons (awGuard.gT ?_)
  refine awOps.rn ?_
  refine awOps.cons (awGuard.cG (fun hg => cg9 _) ?_)
  refine awOps.rn ?_
  refine AW.trim [0] ?_
  refine AW.rt ?_
  all_goals first | contradiction | rfl | (simp; done) | (simp; omega)
end Go.Proofs

namespace Go.Proofs
open Go Aw
set_option linter.unusedSimpArgs false
set_option linter.unusedVariables false
set_option maxRecDepth 100000
set_option maxHeartbeats 4000000
theorem c_law_GraphTells (gl : List (Nat × AV)) (d : Dc) (o : Pob) (num : Int) (hd : d.tot ≤ 1048576) (ho : o.tot ≤ 1048576) : FnP Tryz.prog (gl) 3 [.agg d.cells, .agg o.cells, .int .i64 num] fun r => r = .ret (.bool true) := by
  refine FnP.intro Tryz.func3 rfl rfl (by simp [Tryz.ntmps3]) ?_
  simp only [argEnv, Tryz.ntmps3, Tryz.results3]
  have h1 := Dc.bulk_tot d
  have h2 := Dc.size_tot d
  have h3 := Pob.bulk_tot o
  have h4 := Pob.psize_tot o
  have hb8 : d.bulk = ibulk d.items + d.trailer.bulk := rfl
  have hr1 := rr_len o
  have hr2 := rr_len d.trailer
  have ho1 := from_one (d := d) (o := o) (by omega)
  have ho2 := from_one (d := d) (o := d.trailer) (by omega)
  have hfl := fromP_len d d.trailer
  have hfo := fromP_len d o
  have hdl := dang_one d
  have hul := users_one d num
  have hll := lost_one d
  have hd1 := danglingP_len d
  have hu1 := usersP_len d num
  have hl1 := lostP_len d
  refine AW.rS ?_
  refine AW.trim [2, 3, 4] ?_
  refine AW.seq ?_
  refine AW.rSC ?_
  refine awOps.cons (awGuard.c1 (c_foliantref19_Size _ d (by omega) (by omega)) ?_)
  refine awOps.rn ?_
  refine awOps.cons (awGuard.cG (fun hg => c_foliantref05_Size _ o (by omega) (by omega)) ?_)
  refine awOps.rn ?_
  refine AW.trim [2, 3, 4, 14] ?_
  refine AW.c2 ?_ ?_
  · intro h8
    refine AW.rSC ?_
    refine awOps.cons (awGuard.c1 (c_law29_lives _) ?_)
    refine awOps.rn ?_
    refine AW.trim [6] ?_
    refine AW.rt ?_
    all_goals first | contradiction | rfl | (simp; done) | (simp; omega)
  · intro h8
    refine AW.skip ?_
    refine AW.fS [0, 2, 1, 3, 4, 5, 6, 7, 9, 10, 8, 11, 12, 13, 14, 15, 17, 16, 18, 19, 20, 21, 22, 24, 23, 25, 26, 27, 28, 29, 30, 32, 33, 31, 34, 35, 36, 37, 38, 39, 40] [] ?_
    refine awFun.rn ?_
    refine awFun.c1 [16] (c_graph_Reach _ d (by omega)) ?_
    refine awFun.rn ?_
    refine awFun.c1 [18] (c_foliantref29_Reach _ d (by omega) ho2) ?_
    refine awFun.rn ?_
    refine awFun.c1 [17, 19] (c_foliantref05_Ints _ (fromP d d.trailer) (fromP d d.trailer) (by omega)) ?_
    refine awFun.rn ?_
    refine awFun.cG [21, 22, 23] (fun hg => c_graph_From _ d o (by omega) (by omega)) ?_
    refine awFun.rn ?_
    refine awFun.cG [21, 25, 26] (fun hg => c_foliantref29_From _ d o (by omega) (by omega) ho1) ?_
    refine awFun.rn ?_
    refine awFun.cG [21, 24, 27] (fun hg => c_foliantref05_Ints _ (fromP d o) (fromP d o) (by omega)) ?_
    refine awFun.rn ?_
    refine awFun.cG [30, 31] (fun hg => c_graph_Lost _ d (by omega)) ?_
    refine awFun.rn ?_
    refine awFun.cG [30, 33] (fun hg => c_foliantref29_Lost _ d (by omega) ho2 (by omega)) ?_
    refine awFun.rn ?_
    refine awFun.cG [30, 32, 34] (fun hg => c_foliantref05_Ints _ (lostP d) (lostR d) (by omega)) ?_
    refine awFun.rn ?_
    refine awFun.cG [37, 38] (fun hg => c_graph_Dangling _ d (by omega)) ?_
    refine awFun.rn ?_
    refine awFun.cG [37, 40] (fun hg => c_foliantref29_Dangling _ d (by omega)) ?_
    refine awFun.rn ?_
    refine awFun.cG [37, 39, 41] (fun hg => c_foliantref05_Ints _ (danglingP d) (dangR d) (by omega)) ?_
    refine awFun.rn ?_
    refine awFun.cG [44, 45, 46] (fun hg => c_graph_Users _ d num (by omega)) ?_
    refine awFun.rn ?_
    refine awFun.cG [44, 48, 49] (fun hg => c_foliantref29_Users _ d num (by omega)) ?_
    refine awFun.rn ?_
    refine awFun.cG [44, 47, 50] (fun hg => c_foliantref05_Ints _ (usersP d num) (usersR d num) (by omega)) ?_
    refine awFun.rn ?_
    refine awFun.cG [53] (fun hg => c_law29_lives _) ?_
    refine awFun.rn ?_
    rw [Aw.awFun_nil, Aw.awPlan_nil]
    refine AW.trim [6] ?_
    refine AW.rt ?_
    simp [hdl, hul, hll]
end Go.Proofs
