/- A part of the proof: no condition of its own. -/
import Derived.Test.YtkngkpofninhkaaPart6
namespace Aw
open Go
theorem chk_ref {o : Pob} {k : Int} (h : chk o k = 0) (h8 : o.kind = 8) : o.kids = [] := by
  have hu := (ownE_iff.1 (chk_iff.1 h).1).2.1
  have h2 : uKids o.kind = false := by rw [h8]; decide
  rcases hl : o.kids with _ | ⟨x, l⟩
  · rfl
  · exfalso
    simp [useB, h2, hl] at hu
    omega
mutual
theorem chk_rr : ∀ (o : Pob) (d : Int), chk o d = 0 → o.rr = o.pre.filter fun p => decide (p.kind = 8)
  | .mk k n g s ks l, d, h => by
    rw [Pob.pre_eq, rr_eq]
    by_cases h8 : (Pob.mk k n g s ks l).kind = 8
    · have hk := chk_ref h h8
      rw [if_pos h8, List.filter_cons, if_pos (by rw [h8]; decide), hk, pres_nil]
      rfl
    · rw [if_neg h8, List.filter_cons, if_neg (by simpa using h8)]
      exact chks_rr l (d + 1) (fun x hx => (chk_iff.1 h).2 x hx)
theorem chks_rr : ∀ (l : List Pob) (d : Int), (∀ x ∈ l, chk x d = 0) → rrs l = (pres l).filter fun p => decide (p.kind = 8)
  | [], _, _ => by simp [rrs, pres_nil]
  | o :: l, d, h => by
    rw [rrs, pres, List.filter_append, ← chk_rr o d (h o List.mem_cons_self), ← chks_rr l d (fun x hx => h x (List.mem_cons_of_mem _ hx))]
end
theorem leadR_yes {l : List Itm} (hl : incrN l) {r : Pob} (h : leadB l r = true) : leadR l r = some (leadI l r) := by
  obtain ⟨h1, h2, h3⟩ := lead_mem h
  cases e : leadR l r with
  | none =>
    unfold leadR at e
    rw [List.find?_eq_none] at e
    have := e _ h1
    simp [h2, h3] at this
  | some x =>
    obtain ⟨g1, g2, _⟩ := leadR_mem e
    rw [incr_one hl g1 h1 (by rw [g2, h2])]
theorem leadR_no {l : List Itm} (hl : incrN l) {r : Pob} (h : leadB l r = false) : leadR l r = none := by
  cases e : leadR l r with
  | none => rfl
  | some x =>
    exfalso
    obtain ⟨g1, g2, g3⟩ := leadR_mem e
    cases hm : mfind (netL l) r.num with
    | none =>
      rw [mfind_none] at hm
      refine hm ?_
      rw [← g2]
      simp only [netL, List.map_map, List.mem_map]
      exact ⟨x, g1, rfl⟩
    | some v =>
      have hv := mfind_mem hm
      simp only [netL, List.mem_map, Prod.mk.injEq] at hv
      obtain ⟨y, hy, e1, rfl⟩ := hv
      have : y = x := incr_one hl hy g1 (by rw [e1, g2])
      subst this
      simp [leadB, leadI, hm, g3] at h
theorem leadR_isSome {l : List Itm} (hl : incrN l) (r : Pob) : (leadR l r).isSome = leadB l r := by
  cases h : leadB l r
  · rw [leadR_no hl h]; rfl
  · rw [leadR_yes hl h]; rfl
theorem sortI_mem {s : List Int} {n : Int} : n ∈ sortI s ↔ n ∈ s := (List.mergeSort_perm s _).mem_iff
theorem sortI_lt {s : List Int} (h : s.Nodup) : (sortI s).Pairwise (· < ·) := by
  have h2 : (sortI s).Nodup := (List.mergeSort_perm _ _).nodup_iff.2 h
  exact (List.Pairwise.and (sortI_pairwise s) h2).imp fun ⟨a, b⟩ => by omega
theorem FromJ.perm {l : List Itm} {start : List Pob} {met : List Int} {a b : List Pob} (h : FromJ l start met a) (hp : a.Perm b) : FromJ l start met b :=
  ⟨h.nd, h.sub, fun r hr => (h.st r hr).imp id (fun g => hp.mem_iff.1 g), fun i hi hm r hr => (h.it i hi hm r hr).imp id (fun g => hp.mem_iff.1 g), fun s' hs => ⟨(h.least s' hs).1, fun r hr => (h.least s' hs).2 r (hp.mem_iff.2 hr)⟩, by rw [← hp.length_eq]; exact h.small⟩
theorem walk_fold (l : List Itm) : ∀ (L : List Pob) (s : List Int × List Pob), (walkR (reachStp l) s L).1 = (L.filter fun p => decide (p.kind = 8)).foldl (fun s r => (reachStp l s r).1) s
  | [], s => rfl
  | o :: L, s => by
    rw [walkR_cons, List.filter_cons]
    by_cases hk : o.kind = 8
    · rw [if_pos hk, if_neg (by rw [reach_last]; simp), if_pos (by simpa using hk), List.foldl_cons]
      exact walk_fold l L _
    · rw [if_neg hk, if_neg (by simpa using hk)]
      exact walk_fold l L s
theorem rrs_one (o : Pob) : rrs [o] = o.rr := by simp [rrs]
theorem fold_J {l : List Itm} {start : List Pob} (hl : incrN l) : ∀ (L : List Pob) (s : List Int × List Pob), FromJ l start s.1 (L ++ rrs s.2) →
    FromJ l start (L.foldl (fun s r => (reachStp l s r).1) s).1 (rrs (L.foldl (fun s r => (reachStp l s r).1) s).2)
  | [], s, h => h
  | r :: L, s, h => by
    rw [List.foldl_cons]
    refine fold_J hl L _ ?_
    simp only [reachStp]
    cases hb : reachB l s.1 r
    · simp only [Bool.false_eq_true, if_false]
      refine h.skip (fun i hi => ?_)
      simp only [reachB, Bool.and_eq_false_iff, Bool.not_eq_false', decide_eq_true_eq] at hb
      rcases hb with hb | hb
      · rw [leadR_no hl hb] at hi
        cases hi
      · cases hlb : leadB l r
        · rw [leadR_no hl hlb] at hi
          cases hi
        · rw [leadR_yes hl hlb] at hi
          injection hi with hi
          rw [← hi]
          exact hb
    · simp only [if_true]
      simp only [reachB, Bool.and_eq_true, Bool.not_eq_true', decide_eq_false_iff_not] at hb
      have := h.add hl (leadR_yes hl hb.1) hb.2
      rw [setAdd, if_neg hb.2, rrs_append, rrs_one, ← List.append_assoc]
      exact this
theorem pop_J {l : List Itm} {start : List Pob} (hl : incrN l) {s : List Int × List Pob} (h : FromJ l start s.1 (rrs s.2)) (hn : 0 < s.2.length) (hv : ∀ p ∈ s.2, ∃ k, chk p k = 0) :
    FromJ l start (popS l s).1 (rrs (popS l s).2) := by
  unfold popS
  rw [walk_fold]
  have hm : s.2.getD (s.2.length - 1) Pob.null ∈ s.2 := by
    rw [List.getD_eq_getElem?_getD, List.getElem?_eq_getElem (by omega)]
    exact List.getElem_mem _
  obtain ⟨k, hk⟩ := hv _ hm
  rw [← chk_rr _ k hk]
  refine fold_J hl _ _ ?_
  have e : rrs s.2 = rrs (s.2.take (s.2.length - 1)) ++ (s.2.getD (s.2.length - 1) Pob.null).rr := by
    rw [← rrs_take (l := s.2) (i := s.2.length - 1) (by omega), List.take_of_length_le (by omega)]
  rw [e] at h
  exact h.perm List.perm_append_comm
theorem fold_V {l : List Itm} (hv : ∀ i ∈ l, ∃ k, chk i.obj k = 0) : ∀ (L : List Pob) (s : List Int × List Pob), (∀ p ∈ s.2, ∃ k, chk p k = 0) → ∀ p ∈ (L.foldl (fun s r => (reachStp l s r).1) s).2, ∃ k, chk p k = 0
  | [], s, h => h
  | r :: L, s, h => by
    rw [List.foldl_cons]
    refine fold_V hv L _ ?_
    simp only [reachStp]
    split
    · rename_i hb
      simp only [reachB, Bool.and_eq_true] at hb
      intro p hp
      rcases List.mem_append.1 hp with hp | hp
      · exact h p hp
      · simp only [List.mem_singleton] at hp
        subst hp
        exact hv _ (lead_mem hb.1).1
    · exact h
theorem reachF_least {l : List Itm} {start : List Pob} (hl : incrN l) (hv : ∀ i ∈ l, ∃ k, chk i.obj k = 0) : ∀ (f : Nat) (s : List Int × List Pob), reachI l s → reachM l s ≤ f → FromJ l start s.1 (rrs s.2) → (∀ p ∈ s.2, ∃ k, chk p k = 0) → leastR l start (reachF l f s)
  | 0, s, hi, hf, h, _ => by
    have h0 : s.2 = [] := by
      simp only [reachM] at hf
      exact List.eq_nil_of_length_eq_zero (by omega)
    rw [h0] at h
    exact FromJ.end h
  | f + 1, s, hi, hf, h, hs => by
    simp only [reachF]
    by_cases hn : 0 < s.2.length
    · rw [if_pos hn]
      refine reachF_least hl hv f _ (popS_inv hi) (by have := popS_M hi hn; omega) (pop_J hl h hn hs) ?_
      unfold popS
      rw [walk_fold]
      exact fold_V hv _ _ (fun p hp => hs p (List.mem_of_mem_take hp))
    · rw [if_neg hn]
      have h0 : s.2 = [] := List.eq_nil_of_length_eq_zero (by omega)
      rw [h0] at h
      exact FromJ.end h
theorem items_chk {d : Dc} (h : docE d = 0) : ∀ i ∈ d.items, ∃ k, chk i.obj k = 0 := fun i hi => doc_chk h (i.num, i.obj) (List.mem_cons_of_mem _ (List.mem_map.2 ⟨i, hi, rfl⟩))
theorem reachS_least {d : Dc} {o : Pob} (h : docE d = 0) {k : Int} (hc : chk o k = 0) (hs : o.rr.length + ibulk d.items ≤ 33554432) : leastR d.items o.rr (reachS d.items o) := by
  unfold reachS
  refine reachF_least (items_incr (docE_items h)) (items_chk h) _ _ (reachI_top _ _) (by simp [reachM]) ?_ (fun p hp => ⟨k, by simp only [List.mem_singleton] at hp; rw [hp]; exact hc⟩)
  rw [rrs_one]
  exact FromJ.top _ _ hs
end Aw

namespace Aw
open Go
theorem usesR_eq {d : Dc} (h : docE d = 0) (num : Int) {o : Pob} {k : Int} (hk : chk o k = 0) : usesR d num o = o.pre.any fun p => decide (p.kind = 8) && usesB d.items num p := by
  have hl := items_incr (docE_items h)
  unfold usesR
  rw [chk_rr _ k hk, List.any_filter]
  congr 1
  funext p
  cases hb : leadB d.items p
  · rw [leadR_no hl hb]
    simp [usesB, hb]
  · rw [leadR_yes hl hb]
    simp [usesB, hb]
end Aw
namespace Aw
open Go
theorem sortI_len (s : List Int) : (sortI s).length = s.length := (List.mergeSort_perm s _).length_eq
theorem fromP_len (d : Dc) (o : Pob) : (fromP d o).length ≤ 8192 := by
  unfold fromP
  split
  · rename_i h
    rw [sortI_len]
    exact Nat.le_trans (reachS_len _ _) (items_len h.1)
  · simp
theorem lostP_len (d : Dc) : (lostP d).length ≤ 8192 := by
  unfold lostP
  split
  · rename_i h
    rw [sortI_len]
    unfold lostL
    refine Nat.le_trans (List.length_filter_le _ _) ?_
    rw [List.length_map]
    exact items_len h
  · simp
theorem danglingP_len (d : Dc) : (danglingP d).length ≤ d.bulk := by
  unfold danglingP
  split
  · rw [sortI_len]
    exact dangS_len d
  · simp
theorem usersP_len (d : Dc) (num : Int) : (usersP d num).length ≤ d.bulk := by
  unfold usersP
  split
  · split
    · rw [sortI_len]
      exact usersS_len d num
    · simp
  · simp
end Aw

namespace Aw
open Go
def gRef (n g : Int) : Pob := .mk 8 n g [] [] []
def gDict : Pob := .mk 7 0 0 [] [[65], [66]] [gRef 2 0, gRef 9 0]
def gArr : Pob := .mk 6 0 0 [] [] [gRef 2 0]
def gTrail : Pob := .mk 7 0 0 [] [[82, 111, 111, 116]] [gRef 1 0]
def threeD : Dc := ⟨[⟨1, 0, gDict⟩, ⟨2, 0, Pob.null⟩, ⟨3, 0, gArr⟩], gTrail⟩
theorem sortI_id {s t : List Int} (ht : t.Pairwise (· < ·)) (hp : s.Perm t) : sortI s = t := by
  have hn : s.Nodup := hp.nodup_iff.2 (ht.imp fun h => Int.ne_of_lt h)
  exact lt_ext (sortI_lt hn) ht (fun n => by rw [sortI_mem]; exact hp.mem_iff)
theorem lg0 : docE threeD = 0 := by decide +kernel
theorem lg1 : chk gTrail 1 = 0 := by decide +kernel
theorem lg2 : chk (gRef 3 0) 1 = 0 := by decide +kernel
theorem lg3 : chk (gRef 3 1) 1 = 0 := by decide +kernel
theorem lg4 : reachS threeD.items gTrail = [1, 2] := by decide +kernel
theorem lg5 : reachS threeD.items (gRef 3 0) = [3, 2] := by decide +kernel
theorem lg6 : reachS threeD.items (gRef 3 1) = [] := by decide +kernel
theorem lg7 : lostL threeD.items [1, 2] = [3] := by decide +kernel
theorem lg8 : dangS threeD = [9] := by decide +kernel
theorem lg9 : usersS threeD 2 = [1, 3] := by decide +kernel
theorem lg10 : usersS threeD 1 = [0] := by decide +kernel
theorem lg11 : thereB threeD 2 = true := by decide +kernel
theorem lg12 : thereB threeD 1 = true := by decide +kernel
theorem lg13 : thereB threeD 9 = false := by decide +kernel
theorem lg14 : ¬ docE Dc.zero = 0 := by decide +kernel
theorem lh1 : fromP threeD gTrail = [1, 2] := by rw [fromP, if_pos ⟨lg0, lg1⟩, lg4]; exact sortI_id (by decide) (.refl _)
theorem lh2 : fromP threeD (gRef 3 0) = [2, 3] := by rw [fromP, if_pos ⟨lg0, lg2⟩, lg5]; exact sortI_id (by decide) (by decide)
theorem lh3 : fromP threeD (gRef 3 1) = [] := by rw [fromP, if_pos ⟨lg0, lg3⟩, lg6]; exact sortI_id (by decide) (.refl _)
theorem lh4 : lostP threeD = [3] := by rw [lostP, if_pos lg0, show threeD.trailer = gTrail from rfl, lg4, lg7]; exact sortI_id (by decide) (.refl _)
theorem lh5 : danglingP threeD = [9] := by rw [danglingP, if_pos lg0, lg8]; exact sortI_id (by decide) (.refl _)
theorem lh6 : usersP threeD 2 = [1, 3] := by rw [usersP, if_pos lg0, if_pos lg11, lg9]; exact sortI_id (by decide) (.refl _)
theorem lh7 : usersP threeD 1 = [0] := by rw [usersP, if_pos lg0, if_pos lg12, lg10]; exact sortI_id (by decide) (.refl _)
theorem lh8 : usersP threeD 9 = [] := by rw [usersP, if_pos lg0, if_neg (by rw [lg13]; decide)]
theorem lh9 : fromP Dc.zero Dc.zero.trailer = [] := by rw [fromP, if_neg (fun h => lg14 h.1)]
end Aw

namespace Go.Proofs
open Go Aw
set_option linter.unusedSimpArgs false
set_option linter.unusedVariables false
set_option maxRecDepth 100000
set_option maxHeartbeats 4000000

attribute [local go_sem] List.getD_cons_zero List.length_cons List.length_nil
end Go.Proofs

namespace Go.Proofs
open Go Aw
set_option linter.unusedSimpArgs false
set_option linter.unusedVariables false
set_option maxRecDepth 100000
set_option maxHeartbeats 2000000
theorem takeInt_succ {a b : List Int} {i : Nat} (h : i < a.length) (hl : a.length = b.length) (he : a.take i = b.take i) (hg : a.getD i 0 = b.getD i 0) : a.take (i + 1) = b.take (i + 1) := by
  rw [List.take_add_one, List.take_add_one, he]
  rw [List.getD, List.getD] at hg
  rw [List.getElem?_eq_getElem h, List.getElem?_eq_getElem (show i < b.length by omega)] at hg ⊢
  simp only [Option.getD_some] at hg
  rw [hg]
theorem c_foliantref05_Ints (gl : List (Nat × AV)) (a b : List Int) (ha : a.length ≤ 16777216 := by first | omega | exact u8_le _ | assumption | (simp; done) | (simp; omega)) : FnP Try.prog (gl) 17 [.sl (intsAV a), .sl (intsAV b)] fun r => r = .ret (.bool (decide (a = b))) := by
  refine FnP.intro Try.func17 rfl rfl (by simp [Try.ntmps17]) ?_
  simp only [argEnv, Try.ntmps17, Try.results17]
  refine AW.rS ?_
  refine AW.seq ?_
  refine AW.rS ?_
  refine AW.c2 ?_ ?_
  · intro h4
    refine AW.rS ?_
    refine AW.rt ?_
    rw [decide_eq_false (fun e => h4 (by rw [e]))]
  · intro h4
    refine AW.skip ?_
    refine AW.seq ?_
    refine AW.rS ?_
    refine AW.block ?_
    refine AW.lk (S := { i : Nat // i ≤ a.length ∧ a.take i = b.take i }) [0, 1, 12] (fun s_ => [(13, .int .i64 s_.1)]) (fun s_ => []) 0 (fun s_ => a.length - s_.1) ⟨0, Nat.zero_le _, rfl⟩ ?_ ?_
    · refine St.le.vw []
    rintro ⟨i, hi, hs⟩
    try dsimp only at hi
    try dsimp only at hs
    refine AW.rS ?_
    refine AW.seq ?_
    refine AW.c2 ?_ ?_
    · intro h15
      refine AW.skip ?_
      refine AW.seq ?_
      refine AW.block ?_
      refine AW.rS ?_
      refine AW.dS [(0, 0), (1, 0), (2, 1), (3, 1), (4, 0), (5, 0), (6, 1), (7, 1), (8, 0)] ?_
      refine AW.c2 ?_ ?_
      · intro h21
        refine AW.rS ?_
        refine AW.rt ?_
        rw [decide_eq_false (fun e => h21 (by rw [e]))]
      · intro h21
        refine AW.skip ?_
        refine AW.rL ?_
        refine ⟨⟨i + 1, by omega, takeInt_succ h15 (by omega) hs h21⟩, ?_, ?_⟩
        · refine St.le.vw []
        · simp only []; omega
    · intro h15
      refine AW.exit ?_
      refine AW.rS ?_
      refine AW.rt ?_
      rw [List.take_of_length_le (by omega), List.take_of_length_le (by omega)] at hs
      simp [hs]
end Go.Proofs

namespace Go.Proofs
open Go Aw
set_option linter.unusedSimpArgs false
set_option linter.unusedVariables false
set_option maxRecDepth 100000
set_option maxHeartbeats 4000000
theorem c_foliantlaw29_Three (gl : List (Nat × AV))  : FnP Try.prog (gl) 20 [] fun r => r = .ret (.agg threeD.cells) := by
  refine FnP.intro Try.func20 rfl rfl (by simp [Try.ntmps20]) ?_
  simp only [argEnv, Try.ntmps20, Try.results20]
  refine AW.rS ?_
  refine AW.rS ?_
  refine AW.rt ?_
  all_goals first | contradiction | rfl | (simp; done) | (simp; omega)
theorem lk1 : threeD.bulk ≤ 16777216 := by decide +kernel
theorem lk2 : (gRef 3 0).bulk ≤ 16777216 := by decide +kernel
theorem lk3 : (gRef 3 1).bulk ≤ 16777216 := by decide +kernel
theorem lk4 : Dc.zero.bulk ≤ 16777216 := by decide +kernel
theorem lk5 : fromP threeD threeD.trailer = [1, 2] := lh1
theorem cg1 (gl : List (Nat × AV)) : FnP Try.prog gl 9 [.agg threeD.cells] fun r => r = .ret (.sl (intsAV [1, 2])) := by
  have h := c_graph_Reach gl threeD lk1
  rw [lk5] at h
  exact h
theorem cg2 (gl : List (Nat × AV)) : FnP Try.prog gl 10 [.agg threeD.cells] fun r => r = .ret (.sl (intsAV [3])) := by
  have h := c_graph_Lost gl threeD lk1
  rw [lh4] at h
  exact h
theorem cg3 (gl : List (Nat × AV)) : FnP Try.prog gl 16 [.agg threeD.cells] fun r => r = .ret (.sl (intsAV [9])) := by
  have h := c_graph_Dangling gl threeD lk1
  rw [lh5] at h
  exact h
theorem cg4 (gl : List (Nat × AV)) : FnP Try.prog gl 11 [.agg threeD.cells, .int .i64 2] fun r => r = .ret (.sl (intsAV [1, 3])) := by
  have h := c_graph_Users gl threeD 2 lk1
  rw [lh6] at h
  exact h
theorem cg5 (gl : List (Nat × AV)) : FnP Try.prog gl 11 [.agg threeD.cells, .int .i64 1] fun r => r = .ret (.sl (intsAV [0])) := by
  have h := c_graph_Users gl threeD 1 lk1
  rw [lh7] at h
  exact h
theorem cg6 (gl : List (Nat × AV)) : FnP Try.prog gl 11 [.agg threeD.cells, .int .i64 9] fun r => r = .ret (.sl (intsAV [])) := by
  have h := c_graph_Users gl threeD 9 lk1
  rw [lh8] at h
  exact h
theorem cg7 (gl : List (Nat × AV)) : FnP Try.prog gl 13 [.agg threeD.cells, .agg (gRef 3 0).cells] fun r => r = .ret (.sl (intsAV [2, 3])) := by
  have h := c_graph_From gl threeD (gRef 3 0) lk1 lk2
  rw [lh2] at h
  exact h
theorem cg8 (gl : List (Nat × AV)) : FnP Try.prog gl 13 [.agg threeD.cells, .agg (gRef 3 1).cells] fun r => r = .ret (.sl (intsAV [])) := by
  have h := c_graph_From gl threeD (gRef 3 1) lk1 lk3
  rw [lh3] at h
  exact h
theorem cg9 (gl : List (Nat × AV)) : FnP Try.prog gl 9 [.agg Dc.zero.cells] fun r => r = .ret (.sl (intsAV [])) := by
  have h := c_graph_Reach gl Dc.zero lk4
  rw [lh9] at h
  exact h
theorem c_law29_lives (gl : List (Nat × AV))  : FnP Try.prog (gl) 6 [] fun r => r = .ret (.bool true) := by
  refine FnP.intro Try.func6 rfl rfl (by simp [Try.ntmps6]) ?_
  simp only [argEnv, Try.ntmps6, Try.results6]
  refine AW.rS ?_
  refine AW.trim [] ?_
  refine AW.rSC ?_
  refine awOps.cons (awGuard.c1 (c_foliantlaw29_Three _) ?_)
  refine awOps.rn ?_
  refine AW.trim [1] ?_
  refine AW.rSC ?_
  refine awOps.cons (awGuard.c1 (cg1 _) ?_)
  refine awOps.rn ?_
  refine awOps.cons (awGuard.c1 (c_foliantref05_Ints _ [1, 2] [1, 2] (by decide)) ?_)
  refine awOps.rn ?_
  refine awOps.cons (awGuard.cG (fun hg => cg2 _) ?_)
  refine awOps.rn ?_
  refine awOps.cons (awGuard.gT ?_)
  refine awOps.cons (awGuard.cT (c_foliantref05_Ints _ [3] [3] (by decide)) ?_)
  refine awOps.rn ?_
  refine awOps.cons (awGuard.cG (fun hg => cg3 _) ?_)
  refine awOps.rn ?_
  refine awOps.cons (awGuard.gT ?_)
  refine awOps.cons (awGuard.cT (c_foliantref05_Ints _ [9] [9] (by decide)) ?_)
  refine awOps.rn ?_
  refine awOps.cons (awGuard.cG (fun hg => cg4 _) ?_)
  refine awOps.rn ?_
  refine awOps.cons (awGuard.gT ?_)
  refine awOps.cons (awGuard.cT (c_foliantref05_Ints _ [1, 3] [1, 3] (by decide)) ?_)
  refine awOps.rn ?_
  refine awOps.cons (awGuard.cG (fun hg => cg5 _) ?_)
  refine awOps.rn ?_
  refine awOps.cons (awGuard.gT ?_)
  refine awOps.cons (awGuard.cT (c_foliantref05_Ints _ [0] [0] (by decide)) ?_)
  refine awOps.rn ?_
  refine awOps.cons (awGuard.cG (fun hg => cg6 _) ?_)
  refine awOps.rn ?_
  refine awOps.cons (awGuard.gT ?_)
  refine awOps.rn ?_
  refine awOps.cons (awGuard.cG (fun hg => cg7 _) ?_)
  refine awOps.rn ?_
  refine awOps.cons (awGuard.gT ?_)
  refine awOps.cons (awGuard.cT (c_foliantref05_Ints _ [2, 3] [2, 3] (by decide)) ?_)
  refine awOps.rn ?_
  refine awOps.cons (awGuard.gT ?_)
  refine awOps.rn ?_
  refine awOps.cons (awGuard.cG (fun hg => cg8 _) ?_)
  refine awOps.rn ?_
  refine awOps.cons (awGuard.gT ?_)
  refine awOps.rn ?_
  refine awOps.cons (awGuard.cG (fun hg => cg9 _) ?_)
  refine awOps.rn ?_
  refine AW.trim [0] ?_
  refine AW.rt ?_
  all_goals first | contradiction | rfl | (simp; done) | (simp; omega)
end Go.Proofs

namespace Aw
open Go
theorem chk_top {d : Dc} (h : docE d = 0) : chk d.trailer 1 = 0 := by
  have h1 := docE_trail h
  by_cases hc : chk d.trailer 1 = 0
  · exact hc
  · rw [trail_bad hc] at h1
    exact absurd h1 hc
theorem fromP_top {d : Dc} (h : docE d = 0) : fromP d d.trailer = sortI (reachS d.items d.trailer) := by rw [fromP, if_pos ⟨h, chk_top h⟩]
theorem lost_mem {d : Dc} (h : docE d = 0) (n : Int) : n ∈ lostP d ↔ n ∈ d.items.map (·.num) ∧ ¬ n ∈ reachS d.items d.trailer := by
  rw [lostP, if_pos h, sortI_mem, lostL, List.mem_filter]
  simp
theorem use_iff {d : Dc} (h : docE d = 0) {num : Int} {o : Pob} {k : Int} (hk : chk o k = 0) : (o.pre.any fun p => decide (p.kind = 8) && usesB d.items num p) = true ↔ ∃ r ∈ o.rr, ∃ i, leadR d.items r = some i ∧ i.num = num := by
  have hl := items_incr (docE_items h)
  rw [← usesR_eq h num hk, usesR, List.any_eq_true]
  constructor
  · rintro ⟨r, hr, hu⟩
    simp only [Bool.and_eq_true, decide_eq_true_eq] at hu
    obtain ⟨i, hi⟩ := Option.isSome_iff_exists.1 hu.1
    rw [hi] at hu
    exact ⟨r, hr, i, hi, hu.2⟩
  · rintro ⟨r, hr, i, hi, hn⟩
    exact ⟨r, hr, by simp [hi, hn]⟩
end Aw

namespace Go.Proofs
open Go Aw
set_option linter.unusedSimpArgs false
set_option linter.unusedVariables false
set_option maxRecDepth 100000
set_option maxHeartbeats 4000000

theorem c_law29_in (gl : List (Nat × AV)) (l : List Int) (n : Int) (hl : l.length ≤ 16777216 := by first | omega | exact u8_le _ | assumption | (simp; done) | (simp; omega)) : FnP Try.prog (gl) 12 [.sl (intsAV l), .int .i64 n] fun r => r = .ret (.bool (decide (n ∈ l))) := by
  refine FnP.intro Try.func12 rfl rfl (by simp [Try.ntmps12]) ?_
  simp only [argEnv, Try.ntmps12, Try.results12]
  refine AW.rS ?_
  refine AW.seq ?_
  refine AW.rS ?_
  refine AW.block ?_
  refine AW.lk (S := { i : Nat // i ≤ l.length ∧ ∀ j, j < i → l.getD j 0 ≠ n }) [1, 7, 8] (fun s_ => [(9, .int .i64 s_.1)]) (fun s_ => []) 0 (fun s_ => l.length - s_.1) ⟨0, Nat.zero_le _, fun j h => absurd h (by omega)⟩ ?_ ?_
  · refine St.le.vw []
  rintro ⟨i, hi, hs⟩
  try dsimp only at hi
  try dsimp only at hs
  refine AW.rS ?_
  refine AW.seq ?_
  refine AW.c2 ?_ ?_
  · intro h8
    refine AW.skip ?_
    refine AW.seq ?_
    refine AW.block ?_
    refine AW.rS ?_
    refine AW.rS ?_
    refine AW.c2 ?_ ?_
    · intro h14
      refine AW.rS ?_
      refine AW.rt ?_
      rw [any_hit h8 h14]
    · intro h14
      refine AW.skip ?_
      refine AW.rL ?_
      refine ⟨⟨i + 1, by omega, fun j hj => (Nat.lt_or_ge j i).elim (hs j) (fun h => (show j = i by omega) ▸ h14)⟩, ?_, ?_⟩
      · refine St.le.vw []
      · simp only []; omega
  · intro h8
    refine AW.exit ?_
    refine AW.rS ?_
    refine AW.rt ?_
    rw [any_miss (fun j hj => hs j (by omega))]
end Go.Proofs

namespace Aw
open Go
/-- the items but for one number -/
def outI (l : List Itm) (n : Int) : List Itm := l.filter fun i => decide (i.num ≠ n)
theorem outI_mem {l : List Itm} {n : Int} {i : Itm} : i ∈ outI l n ↔ i ∈ l ∧ i.num ≠ n := by simp [outI]
theorem outI_incr {l : List Itm} (h : incrN l) (n : Int) : incrN (outI l n) := incrN_iff.2 ((incrN_iff.1 h).sublist List.filter_sublist)
theorem leadR_some {l : List Itm} (h : incrN l) {r : Pob} {i : Itm} (hi : i ∈ l) (hn : i.num = r.num) (hg : i.gen = r.gen) : leadR l r = some i := by
  cases e : leadR l r with
  | none =>
    exfalso
    unfold leadR at e
    rw [List.find?_eq_none] at e
    have := e i hi
    simp [hn, hg] at this
  | some x =>
    obtain ⟨g1, g2, _⟩ := leadR_mem e
    rw [incr_one h g1 hi (by rw [g2, hn])]
theorem leadR_out {l : List Itm} (h : incrN l) {n : Int} {r : Pob} {i : Itm} : leadR (outI l n) r = some i ↔ leadR l r = some i ∧ i.num ≠ n := by
  constructor
  · intro e
    obtain ⟨g1, g2, g3⟩ := leadR_mem e
    obtain ⟨g4, g5⟩ := outI_mem.1 g1
    exact ⟨leadR_some h g4 g2 g3, g5⟩
  · rintro ⟨e, hn⟩
    obtain ⟨g1, g2, g3⟩ := leadR_mem e
    exact leadR_some (outI_incr h n) (outI_mem.2 ⟨g1, hn⟩) g2 g3
/-- what is reached does not change when an item that is not reached goes -/
theorem least_out {l : List Itm} (h : incrN l) {start : List Pob} {R : List Int} {n : Int} (hR : leastR l start R) (hn : ¬ n ∈ R) : leastR (outI l n) start R := by
  refine ⟨⟨fun r hr i hi => hR.1.1 r hr i ((leadR_out h).1 hi).1, fun i hi hm r hr x hx => hR.1.2 i (outI_mem.1 hi).1 hm r hr x ((leadR_out h).1 hx).1⟩, fun s' hs k hk => ?_⟩
  have hT : closedR l start (R.filter fun k => decide (k ∈ s')) := by
    refine ⟨fun r hr i hi => ?_, fun i hi hm r hr x hx => ?_⟩
    · have h1 := hR.1.1 r hr i hi
      exact List.mem_filter.2 ⟨h1, by
        have := hs.1 r hr i ((leadR_out h).2 ⟨hi, fun e => hn (e ▸ h1)⟩)
        simpa using this⟩
    · obtain ⟨h2, h3⟩ := List.mem_filter.1 hm
      have h1 := hR.1.2 i hi h2 r hr x hx
      refine List.mem_filter.2 ⟨h1, ?_⟩
      have := hs.2 i (outI_mem.2 ⟨hi, fun e => hn (e ▸ h2)⟩) (by simpa using h3) r hr x ((leadR_out h).2 ⟨hx, fun e => hn (e ▸ h1)⟩)
      simpa using this
  simpa using (List.mem_filter.1 (hR.2 _ hT k hk)).2
/-- who refers to a number, but for the item itself -/
def elderB (d : Dc) (num : Int) : Bool := (d.items.any fun i => !decide (i.num = num) && i.obj.rr.any fun r => decide (r.num = num)) || d.trailer.rr.any fun r => decide (r.num = num)
theorem elder_iff {d : Dc} {num : Int} : elderB d num = true ↔ (∃ i ∈ d.items, i.num ≠ num ∧ ∃ r ∈ i.obj.rr, r.num = num) ∨ ∃ r ∈ d.trailer.rr, r.num = num := by
  simp [elderB]
theorem dang_mem {d : Dc} (h : docE d = 0) (n : Int) : n ∈ danglingP d ↔ ∃ q ∈ allL d, ∃ r ∈ q.2.rr, leadR d.items r = none ∧ r.num = n := by
  have hl := items_incr (docE_items h)
  rw [danglingP, if_pos h, sortI_mem, dangS_mem]
  constructor
  · rintro ⟨q, hq, p, hp, h8, hb, rfl⟩
    obtain ⟨k, hk⟩ := doc_chk h q hq
    exact ⟨q, hq, p, by rw [chk_rr _ k hk, List.mem_filter]; exact ⟨hp, by simpa using h8⟩, leadR_no hl hb, rfl⟩
  · rintro ⟨q, hq, p, hp, hb, rfl⟩
    obtain ⟨k, hk⟩ := doc_chk h q hq
    rw [chk_rr _ k hk, List.mem_filter] at hp
    refine ⟨q, hq, p, hp.1, by simpa using hp.2, ?_, rfl⟩
    have := leadR_isSome hl p
    rw [hb] at this
    exact this.symm
/-- after dropping an item its number dangles where something else refers to it -/
theorem drop_dang {d x : Dc} {num : Int} (hx : docE x = 0) (hi : x.items = outI d.items num) (ht : x.trailer = d.trailer) : num ∈ danglingP x ↔ elderB d num = true := by
  rw [dang_mem hx, elder_iff]
  have hnone : ∀ r : Pob, r.num = num → leadR x.items r = none := by
    intro r hr
    cases e : leadR x.items r with
    | none => rfl
    | some i =>
      obtain ⟨g1, g2, _⟩ := leadR_mem e
      rw [hi] at g1
      exact absurd (g2.trans hr) (outI_mem.1 g1).2
  constructor
  · rintro ⟨q, hq, r, hr, _, e⟩
    rcases List.mem_cons.1 hq with rfl | hq
    · exact .inr ⟨r, by rw [← ht]; exact hr, e⟩
    · obtain ⟨i, hi', rfl⟩ := List.mem_map.1 hq
      rw [hi] at hi'
      exact .inl ⟨i, (outI_mem.1 hi').1, (outI_mem.1 hi').2, r, hr, e⟩
  · rintro (⟨i, hi', hn, r, hr, e⟩ | ⟨r, hr, e⟩)
    · exact ⟨(i.num, i.obj), List.mem_cons_of_mem _ (List.mem_map.2 ⟨i, by rw [hi]; exact outI_mem.2 ⟨hi', hn⟩, rfl⟩), r, hr, hnone r e, e⟩
    · exact ⟨(0, x.trailer), List.mem_cons_self, r, by rw [ht]; exact hr, hnone r e, e⟩
/-- a user other than the item is such a one -/
theorem by_elder {d : Dc} (h : docE d = 0) {num u : Int} (hu : u ∈ usersP d num) (hn : u ≠ num) : elderB d num = true := by
  rw [elder_iff]
  have hu' : u ∈ usersS d num := by
    rw [usersP, if_pos h] at hu
    split at hu
    · exact sortI_mem.1 hu
    · cases hu
  obtain ⟨q, hq, ha, rfl⟩ := (usersS_mem d num u).1 hu'
  obtain ⟨k, hk⟩ := doc_chk h q hq
  obtain ⟨r, hr, i, hi, e⟩ := (use_iff h hk).1 ha
  have e2 := (leadR_mem hi).2.1
  rcases List.mem_cons.1 hq with rfl | hq
  · exact .inr ⟨r, hr, by rw [← e2, e]⟩
  · obtain ⟨j, hj, rfl⟩ := List.mem_map.1 hq
    exact .inl ⟨j, hj, hn, r, hr, by rw [← e2, e]⟩
/-- dropping a lost item does not change what is reached -/
theorem drop_reach {d x : Dc} {num : Int} (h : docE d = 0) (hx : docE x = 0) (hi : x.items = outI d.items num) (ht : x.trailer = d.trailer) (hs : d.trailer.rr.length + ibulk d.items ≤ 33554432) (hsx : d.trailer.rr.length + ibulk x.items ≤ 33554432) (hl : num ∈ lostP d) : fromP x x.trailer = fromP d d.trailer := by
  have hn := ((lost_mem h num).1 hl).2
  have h1 := least_out (items_incr (docE_items h)) (reachS_least (o := d.trailer) h (chk_top h) hs) hn
  have h2 := reachS_least (o := x.trailer) hx (chk_top hx) (by rw [ht]; exact hsx)
  rw [ht, hi] at h2
  rw [fromP_top hx, fromP_top h]
  refine lt_ext (sortI_lt (reachS_inv _ _).1) (sortI_lt (reachS_inv _ _).1) (fun n => ?_)
  rw [sortI_mem, sortI_mem, ht, hi]
  exact leastR_one h2 h1 n
end Aw

namespace Go.Proofs
open Go Aw
set_option linter.unusedSimpArgs false
set_option linter.unusedVariables false
set_option maxRecDepth 100000
set_option maxHeartbeats 4000000
def elG (num : Int) (it : Itm) (r : Pob) : Bool := !decide (it.num = num) && decide (r.num = num)
def elF (num : Int) (it : Itm) : Bool := it.obj.rr.any (elG num it)
theorem elF_eq (num : Int) (it : Itm) : elF num it = (!decide (it.num = num) && it.obj.rr.any fun r => decide (r.num = num)) := by
  unfold elF elG
  cases decide (it.num = num) <;> simp
theorem elder_eq (d : Dc) (num : Int) : ((d.items.any (elF num)) || d.trailer.rr.any fun r => decide (r.num = num)) = elderB d num := by
  unfold elderB
  congr 2
  funext it
  exact elF_eq num it
theorem bif2 (a b : Bool) : (bif a then true else b) = (a || b) := by cases a <;> rfl
theorem bif3 (a b c e : Bool) : (bif a || b then true else bif !c then e else false) = (a || (b || (!c && e))) := by cases a <;> cases b <;> cases c <;> cases e <;> rfl
theorem bif5 (a b c : Bool) : (bif a || b then true else c) = (a || (b || c)) := by cases a <;> cases b <;> cases c <;> rfl
theorem drop_by {d : Dc} {num : Int} {j : Nat} (h : dropE d num = 0) (hu : ((List.take j (usersP d num)).any fun u => !decide (u = num)) = true) : elderB d num = true := by
  obtain ⟨u, hu1, hu2⟩ := List.any_eq_true.1 hu
  exact by_elder (drop_parts h).1 (List.mem_of_mem_take hu1) (by simpa using hu2)
theorem drop_in {d : Dc} {num : Int} (h : dropE d num = 0) : decide (num ∈ danglingP (dropD d num)) = elderB d num := by
  obtain ⟨h1, _, h3, h4⟩ := drop_parts h
  rw [Bool.eq_iff_iff, decide_eq_true_iff, h4]
  exact drop_dang h3 (take_filter (items_incr (docE_items h1)) num).symm rfl
theorem drop_same {d : Dc} {num : Int} (h : dropE d num = 0) (hs : d.trailer.rr.length + ibulk d.items ≤ 16777216) : (bif !decide (num ∈ lostP d) then true else decide (fromP (dropD d num) (dropD d num).trailer = fromP d d.trailer)) = true := by
  obtain ⟨h1, _, h3, h4⟩ := drop_parts h
  have hb := takeI_bulk d.items num
  by_cases hl : num ∈ lostP d
  · rw [decide_eq_true hl, h4, decide_eq_true (drop_reach (x := ⟨takeI d.items num, d.trailer⟩) h1 h3 (take_filter (items_incr (docE_items h1)) num).symm rfl (by omega) (by simp only []; omega) hl)]
    rfl
  · rw [decide_eq_false hl]
    rfl
theorem c_law_GraphDrops (gl : List (Nat × AV)) (d : Dc) (num : Int) (hd : d.tot ≤ 1048576) : FnP Try.prog (gl) 4 [.agg d.cells, .int .i64 num] fun r => r = .ret (.bool true) := by
  refine FnP.intro Try.func4 rfl rfl (by simp [Try.ntmps4]) ?_
  simp only [argEnv, Try.ntmps4, Try.results4]
  have h1 := Dc.bulk_tot d
  have h2 := Dc.size_tot d
  have hb8 : d.bulk = ibulk d.items + d.trailer.bulk := rfl
  have hb9 := ibulk_len d.items
  have hr2 := rr_len d.trailer
  have hxb := dropD_bulk d num
  have hul := usersP_len d num
  have hdl := danglingP_len (dropD d num)
  have hll := lostP_len d
  have hf1 := fromP_len d d.trailer
  have hf2 := fromP_len (dropD d num) (dropD d num).trailer
  refine AW.rS ?_
  refine AW.trim [1, 2] ?_
  refine AW.seq ?_
  refine AW.rSC ?_
  refine awOps.cons (awGuard.c1 (c_law29_lives _) ?_)
  refine awOps.rn ?_
  refine AW.trim [1, 2, 18] ?_
  refine AW.c2 ?_ ?_
  · intro h6
    refine AW.rS ?_
    refine AW.trim [4] ?_
    refine AW.rt ?_
    all_goals first | contradiction | rfl | (simp; done) | (simp; omega)
  · intro h6
    refine AW.skip ?_
    refine AW.seq ?_
    refine AW.rSC ?_
    refine awOps.cons (awGuard.c1 (c_foliantref19_Size _ d (by omega) (by omega)) ?_)
    refine awOps.rn ?_
    refine AW.trim [1, 2, 21] ?_
    refine AW.c2 ?_ ?_
    · intro h15
      refine AW.rS ?_
      refine AW.trim [4] ?_
      refine AW.rt ?_
      all_goals first | contradiction | rfl | (simp; done) | (simp; omega)
    · intro h15
      refine AW.skip ?_
      refine AW.rSC ?_
      refine awOps.cons (awGuard.c1 (c_docs_Drop _ d num (by omega)) ?_)
      refine awOps.rn ?_
      refine AW.trim [1, 2, 5, 6] ?_
      refine AW.seq ?_
      refine AW.rS ?_
      refine AW.trim [1, 2, 5, 29] ?_
      refine AW.c2 ?_ ?_
      · intro h25
        refine AW.rS ?_
        refine AW.trim [4] ?_
        refine AW.rt ?_
        all_goals first | contradiction | rfl | (simp; done) | (simp; omega)
      · intro h25
        refine AW.skip ?_
        refine AW.rS ?_
        refine AW.trim [1, 2, 5, 7] ?_
        refine AW.seq ?_
        refine AW.rSC ?_
        refine awOps.cons (awGuard.c1 (c_graph_Users _ d num (by omega)) ?_)
        refine awOps.rn ?_
        refine AW.trim [1, 2, 5, 7, 32, 33, 34] ?_
        refine AW.block ?_
        refine AW.lk (S := { j : Nat // j ≤ (usersP d num).length }) [1, 2, 5, 32, 33] (fun s_ => [(7, .bool (((usersP d num).take s_.1).any fun u => !decide (u = num))), (34, .int .i64 s_.1)]) (fun s_ => [(0, .cells d.cells), (1, .cells (dropD d num).cells)]) 2 (fun s_ => (usersP d num).length - s_.1) ⟨0, Nat.zero_le _⟩ ?_ ?_
        · refine St.le.vw [0, 1]
        rintro ⟨j, hj⟩
        try dsimp only at hj
        refine AW.rS ?_
        refine AW.trim [1, 2, 5, 7, 32, 33, 34, 35] ?_
        refine AW.seq ?_
        refine AW.c2 ?_ ?_
        · intro h39
          have hu1 : (bif ((usersP d num).take j).any (fun u => !decide (u = num)) then true else !decide ((usersP d num).getD j 0 = num)) = ((usersP d num).take (j + 1)).any fun u => !decide (u = num) := by rw [any_take (d := 0) h39]; exact bif2 _ _
          refine AW.skip ?_
          refine AW.seq ?_
          refine AW.block ?_
          refine AW.rS ?_
          refine AW.trim [1, 2, 5, 7, 9, 32, 33, 34] ?_
          refine AW.rL ?_
          refine AW.rL ?_
          rw [hu1]
          refine ⟨⟨j + 1, by omega⟩, ?_, ?_⟩
          · refine St.le.vw [0, 1]
          · simp only []; omega
        · intro h39
          refine AW.exit ?_
          refine AW.rS ?_
          refine AW.trim [1, 2, 5, 7, 10] ?_
          refine AW.seq ?_
          refine AW.rS ?_
          refine AW.trim [1, 2, 5, 7, 10, 46, 47, 48] ?_
          refine AW.block ?_
          refine AW.lk (S := { i : Nat // i ≤ d.items.length }) [1, 2, 5, 7, 46, 47] (fun s_ => [(10, .bool ((d.items.take s_.1).any (elF num))), (48, .int .i64 s_.1)]) (fun s_ => [(0, .cells d.cells), (1, .cells (dropD d num).cells)]) 2 (fun s_ => d.items.length - s_.1) ⟨0, Nat.zero_le _⟩ ?_ ?_
          · refine St.le.vw [0, 1]
          rintro ⟨i, hi⟩
          try dsimp only at hi
          refine AW.rS ?_
          refine AW.trim [1, 2, 5, 7, 10, 46, 47, 48, 49] ?_
          refine AW.seq ?_
          refine AW.c2 ?_ ?_
          · intro h55
            have hib := ibulk_get (l := d.items) (i := i) h55
            have hir := rr_len (d.items.getD i Itm.zero).obj
            refine AW.skip ?_
            refine AW.seq ?_
            refine AW.block ?_
            refine AW.rS ?_
            refine AW.trim [1, 2, 5, 7, 10, 12, 46, 47, 48] ?_
            refine AW.rSC ?_
            refine awOps.cons (awGuard.cH [] (h_foliantref29_Refs _ (d.items.getD i Itm.zero).obj (by omega)) ?_)
            refine awOps.rn ?_
            refine AW.trim [1, 2, 5, 7, 10, 12, 46, 47, 48, 54, 55, 56] ?_
            refine AW.block ?_
            refine AW.clo 54 ?_
            refine wk ?_
            refine AW.lk (S := { j : Nat // j ≤ (d.items.getD i Itm.zero).obj.rr.length }) [1, 2, 5, 7, 12, 46, 47, 48, 54, 55] (fun s_ => [(10, .bool ((d.items.take i).any (elF num) || ((d.items.getD i Itm.zero).obj.rr.take s_.1).any (elG num (d.items.getD i Itm.zero)))), (56, .int .i64 s_.1)]) (fun s_ => [(0, .cells d.cells), (1, .cells (dropD d num).cells), (2, .cells (d.items.getD i Itm.zero).cells)]) 3 (fun s_ => (d.items.getD i Itm.zero).obj.rr.length - s_.1) ⟨0, Nat.zero_le _⟩ ?_ ?_
            · refine St.le.vw [0, 1, 2]
            rintro ⟨k, hk⟩
            try dsimp only at hk
            refine AW.rS ?_
            refine AW.trim [1, 2, 5, 7, 10, 12, 46, 47, 48, 54, 55, 56, 57] ?_
            refine AW.seq ?_
            refine AW.c2 ?_ ?_
            · intro h67
              have hu2 : (bif (d.items.take i).any (elF num) || ((d.items.getD i Itm.zero).obj.rr.take k).any (elG num (d.items.getD i Itm.zero)) then true else bif !decide ((d.items.getD i Itm.zero).num = num) then decide (((d.items.getD i Itm.zero).obj.rr.getD k Pob.null).num = num) else false) = ((d.items.take i).any (elF num) || ((d.items.getD i Itm.zero).obj.rr.take (k + 1)).any (elG num (d.items.getD i Itm.zero))) := by rw [any_take (d := Pob.null) h67]; exact bif3 _ _ _ _
              refine AW.skip ?_
              refine AW.seq ?_
              refine AW.block ?_
              refine AW.rS ?_
              refine AW.trim [1, 2, 5, 7, 10, 12, 14, 46, 47, 48, 54, 55, 56] ?_
              refine AW.rL ?_
              refine AW.rL ?_
              rw [hu2]
              refine ⟨⟨k + 1, by omega⟩, ?_, ?_⟩
              · refine St.le.vw [0, 1, 2]
              · simp only []; omega
            · intro h67
              refine AW.exit ?_
              obtain rfl : k = (d.items.getD i Itm.zero).obj.rr.length := by omega
              have hu3 : ((d.items.take i).any (elF num) || (d.items.getD i Itm.zero).obj.rr.any (elG num (d.items.getD i Itm.zero))) = (d.items.take (i + 1)).any (elF num) := by rw [any_take (d := Itm.zero) h55]; rfl
              rw [List.take_length, hu3]
              refine AW.rL ?_
              refine ⟨⟨i + 1, by omega⟩, ?_, ?_⟩
              · refine St.le.vw [0, 1]
              · simp only []; omega
          · intro h55
            refine AW.exit ?_
            obtain rfl : i = d.items.length := by omega
            rw [List.take_length]
            refine AW.seq ?_
            refine AW.rSC ?_
            refine awOps.cons (awGuard.cH [] (h_foliantref29_Refs _ d.trailer (by omega)) ?_)
            refine awOps.rn ?_
            refine AW.trim [1, 2, 5, 7, 10, 77, 78, 79] ?_
            refine AW.block ?_
            refine AW.clo 77 ?_
            refine wk ?_
            rw [show d.items.any (elF num) = (d.items.any (elF num) || ([] : List Pob).any fun r => decide (r.num = num)) from by simp]
            refine AW.lk (S := { j : Nat // j ≤ d.trailer.rr.length }) [1, 2, 5, 7, 77, 78] (fun s_ => [(10, .bool (d.items.any (elF num) || (d.trailer.rr.take s_.1).any fun r => decide (r.num = num))), (79, .int .i64 s_.1)]) (fun s_ => [(0, .cells d.cells), (1, .cells (dropD d num).cells)]) 2 (fun s_ => d.trailer.rr.length - s_.1) ⟨0, Nat.zero_le _⟩ ?_ ?_
            · refine St.le.vw [0, 1]
            rintro ⟨k, hk⟩
            try dsimp only at hk
            refine AW.rS ?_
            refine AW.trim [1, 2, 5, 7, 10, 77, 78, 79, 80] ?_
            refine AW.seq ?_
            refine AW.c2 ?_ ?_
            · intro h87
              have hu4 : (bif d.items.any (elF num) || (d.trailer.rr.take k).any (fun r => decide (r.num = num)) then true else decide ((d.trailer.rr.getD k Pob.null).num = num)) = (d.items.any (elF num) || (d.trailer.rr.take (k + 1)).any fun r => decide (r.num = num)) := by rw [any_take (d := Pob.null) h87]; exact bif5 _ _ _
              refine AW.skip ?_
              refine AW.seq ?_
              refine AW.block ?_
              refine AW.rS ?_
              refine AW.trim [1, 2, 5, 7, 10, 16, 77, 78, 79] ?_
              refine AW.rL ?_
              refine AW.rL ?_
              rw [hu4]
              refine ⟨⟨k + 1, by omega⟩, ?_, ?_⟩
              · refine St.le.vw [0, 1]
              · simp only []; omega
            · intro h87
              refine AW.exit ?_
              obtain rfl : k = d.trailer.rr.length := by omega
              rw [List.take_length, elder_eq]
              refine AW.seq ?_
              refine AW.rSC ?_
              refine awOps.cons (awGuard.cG (fun hg => c_graph_Dangling _ (dropD d num) (by omega)) ?_)
              refine awOps.rn ?_
              refine awOps.cons (awGuard.cG (fun hg => c_law29_in _ (danglingP (dropD d num)) num (by omega)) ?_)
              refine awOps.rn ?_
              refine AW.trim [1, 2, 5, 103] ?_
              refine AW.c2 ?_ ?_
              · intro h102
                exfalso
                rcases h102 with h | h
                · rw [drop_by h25 h.1] at h
                  cases h.2
                · exact h (drop_in h25)
              · intro h102
                refine AW.skip ?_
                refine AW.fS [0, 2, 1, 3, 4, 5, 6, 8, 7, 9, 10, 11, 12] [] ?_
                refine awFun.rn ?_
                refine awFun.c1 [104] (c_graph_Lost _ d (by omega)) ?_
                refine awFun.rn ?_
                refine awFun.c1 [105, 106] (c_law29_in _ (lostP d) num (by omega)) ?_
                refine awFun.rn ?_
                refine awFun.cG [109, 110] (fun hg => c_graph_Reach _ (dropD d num) (by omega)) ?_
                refine awFun.rn ?_
                refine awFun.cG [109, 112] (fun hg => c_graph_Reach _ d (by omega)) ?_
                refine awFun.rn ?_
                refine awFun.cG [109, 111, 113] (fun hg => c_foliantref05_Ints _ (fromP (dropD d num) (dropD d num).trailer) (fromP d d.trailer) (by omega)) ?_
                refine awFun.rn ?_
                rw [Aw.awFun_nil, Aw.awPlan_nil]
                refine AW.trim [4] ?_
                refine AW.rt ?_
                rw [drop_same h25 (by omega)]
end Go.Proofs
