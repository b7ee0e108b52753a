/- A part of the proof: no condition of its own. -/
import Derived.Test.YtldekaaiippfkaaGreatPart2
import Derived.Shelf.SlIterI.Sorted
import Derived.Shelf.Sort.Plain
import Derived.Shelf.Slices.In.SortNone
import Derived.Test.YtldekaaiippfkaaGreatProg
namespace Aw
open Go
def inS (l : List Itm) (s : List Int) (r : Pob) : Prop := ∀ i, leadR l r = some i → i.num ∈ s
/-- a set that holds all that is led to -/
def closedR (l : List Itm) (start : List Pob) (s : List Int) : Prop := (∀ r ∈ start, inS l s r) ∧ ∀ i ∈ l, i.num ∈ s → ∀ r ∈ i.obj.rr, inS l s r
def leastR (l : List Itm) (start : List Pob) (s : List Int) : Prop := closedR l start s ∧ ∀ s', closedR l start s' → ∀ n ∈ s, n ∈ s'
def restR (l : List Itm) (met : List Int) : Nat := ((l.filter fun i => !decide (i.num ∈ met)).map fun i => i.obj.rr.length).sum
theorem restR_cons (x : Itm) (l : List Itm) (met : List Int) : restR (x :: l) met = (if x.num ∈ met then 0 else x.obj.rr.length) + restR l met := by
 unfold restR
 rw [List.filter_cons]
 by_cases h : x.num ∈ met <;> simp [h]
theorem restR_more (l : List Itm) (met : List Int) (n : Int) : restR l (met ++ [n]) ≤ restR l met := by
 induction l with
 | nil => simp [restR]
 | cons x l ih =>
  rw [restR_cons, restR_cons]
  by_cases h : x.num ∈ met
  ·rw [if_pos (List.mem_append_left _ h), if_pos h]
   omega
  ·rw [if_neg h]
   split <;> omega
theorem restR_add {l : List Itm} {met : List Int} {i : Itm} (hi : i ∈ l) (hn : ¬ i.num ∈ met) : restR l (met ++ [i.num]) + i.obj.rr.length ≤ restR l met := by
 induction l with
 | nil => cases hi
 | cons x l ih =>
  rw [restR_cons, restR_cons]
  rcases List.mem_cons.1 hi with rfl | hi
  ·have := restR_more l met i.num
   rw [if_pos (by simp), if_neg hn]
   omega
  ·have := ih hi
   by_cases h : x.num ∈ met
   ·rw [if_pos (List.mem_append_left _ h), if_pos h]
    omega
   ·rw [if_neg h]
    split <;> omega
theorem restR_le (l : List Itm) (met : List Int) : restR l met ≤ ibulk l := by
 induction l with
 | nil => simp [restR]
 | cons x l ih =>
  have := rr_len x.obj
  rw [restR_cons, ibulk_cons]
  split <;> omega
/-- in the midst of the search -/
structure FromJ (l : List Itm) (start : List Pob) (met : List Int) (todo : List Pob) : Prop where
 nd : met.Nodup
 sub : ∀ n ∈ met, n ∈ l.map (·.num)
 st : ∀ r ∈ start, inS l met r ∨ r ∈ todo
 it : ∀ i ∈ l, i.num ∈ met → ∀ r ∈ i.obj.rr, inS l met r ∨ r ∈ todo
 least : ∀ s', closedR l start s' → (∀ n ∈ met, n ∈ s') ∧ ∀ r ∈ todo, inS l s' r
 small : todo.length + restR l met ≤ 33554432
theorem leadR_mem {l : List Itm} {r : Pob} {i : Itm} (h : leadR l r = some i) : i ∈ l ∧ i.num = r.num ∧ i.gen = r.gen := by
 have h1 := List.mem_of_find?_eq_some h
 have h2 := List.find?_some h
 simp only [Bool.and_eq_true, decide_eq_true_eq] at h2
 exact ⟨h1, h2⟩
theorem FromJ.top (l : List Itm) (o : Pob) (h : o.rr.length + ibulk l ≤ 33554432) : FromJ l o.rr [] o.rr :=
 ⟨List.nodup_nil, fun _ h => absurd h List.not_mem_nil, fun _ h => .inr h, fun _ _ h => absurd h List.not_mem_nil, fun _ hs => ⟨fun _ h => absurd h List.not_mem_nil, hs.1⟩, by
  have := restR_le l []
  omega⟩
theorem FromJ.skip {l : List Itm} {start : List Pob} {met : List Int} {x : Pob} {todo : List Pob} (h : FromJ l start met (x :: todo)) (hx : inS l met x) : FromJ l start met todo := by
 refine ⟨h.nd, h.sub, fun r hr => ?_, fun i hi hm r hr => ?_, fun s' hs => ⟨(h.least s' hs).1, fun r hr => (h.least s' hs).2 r (List.mem_cons_of_mem _ hr)⟩, by have := h.small; simp only [List.length_cons] at this; omega⟩
 ·rcases h.st r hr with g | g
  ·exact .inl g
  ·rcases List.mem_cons.1 g with rfl | g
   ·exact .inl hx
   ·exact .inr g
 ·rcases h.it i hi hm r hr with g | g
  ·exact .inl g
  ·rcases List.mem_cons.1 g with rfl | g
   ·exact .inl hx
   ·exact .inr g
theorem inS_more {l : List Itm} {s : List Int} {r : Pob} (h : inS l s r) (n : Int) : inS l (s ++ [n]) r := fun i hi => List.mem_append_left _ (h i hi)
theorem FromJ.add {l : List Itm} {start : List Pob} {met : List Int} {x : Pob} {todo : List Pob} {i : Itm} (hl : incrN l) (h : FromJ l start met (x :: todo)) (hx : leadR l x = some i) (hn : ¬ i.num ∈ met) : FromJ l start (met ++ [i.num]) (todo ++ i.obj.rr) := by
 have hm := (leadR_mem hx).1
 have hin : inS l (met ++ [i.num]) x := fun j hj => by
  rw [hx] at hj
  injection hj with hj
  subst hj
  simp
 refine ⟨?_, fun n hn' => ?_, fun r hr => ?_, fun j hj hm' r hr => ?_, fun s' hs => ?_, ?_⟩
 ·rw [List.nodup_append]
  refine ⟨h.nd, by simp, fun a ha b hb => ?_⟩
  simp only [List.mem_singleton] at hb
  subst hb
  intro e
  subst e
  exact hn ha
 ·rcases List.mem_append.1 hn' with g | g
  ·exact h.sub n g
  ·simp only [List.mem_singleton] at g
   subst g
   exact List.mem_map.2 ⟨i, hm, rfl⟩
 ·rcases h.st r hr with g | g
  ·exact .inl (inS_more g _)
  ·rcases List.mem_cons.1 g with rfl | g
   ·exact .inl hin
   ·exact .inr (List.mem_append_left _ g)
 ·rcases List.mem_append.1 hm' with g | g
  ·rcases h.it j hj g r hr with g | g
   ·exact .inl (inS_more g _)
   ·rcases List.mem_cons.1 g with rfl | g
    ·exact .inl hin
    ·exact .inr (List.mem_append_left _ g)
  ·simp only [List.mem_singleton] at g
   have e : j = i := incr_one hl hj hm g
   subst e
   exact .inr (List.mem_append_right _ hr)
 ·obtain ⟨h1, h2⟩ := h.least s' hs
  have hi : i.num ∈ s' := h2 x List.mem_cons_self i hx
  refine ⟨fun n hn' => ?_, fun r hr => ?_⟩
  ·rcases List.mem_append.1 hn' with g | g
   ·exact h1 n g
   ·simp only [List.mem_singleton] at g
    subst g
    exact hi
  ·rcases List.mem_append.1 hr with g | g
   ·exact h2 r (List.mem_cons_of_mem _ g)
   ·exact hs.2 i hm hi r g
 ·have h1 := h.small
  have h2 := restR_add hm hn
  simp only [List.length_cons, List.length_append] at h1 ⊢
  omega
theorem FromJ.end {l : List Itm} {start : List Pob} {met : List Int} (h : FromJ l start met []) : leastR l start met :=
 ⟨⟨fun r hr => (h.st r hr).elim id (fun g => absurd g List.not_mem_nil), fun i hi hm r hr => (h.it i hi hm r hr).elim id (fun g => absurd g List.not_mem_nil)⟩, fun s' hs => (h.least s' hs).1⟩
theorem FromJ.len {l : List Itm} {start : List Pob} {met : List Int} {todo : List Pob} (h : FromJ l start met todo) : met.length ≤ l.length := by
 have := nodup_le h.nd h.sub
 simpa using this
end Aw

namespace Aw
open Go
theorem chk_ref {o : Pob} {k : Int} (h : chk o k = 0) (h8 : o.kind = 8) : o.kids = [] := by
 have hu := (ownE_iff.1 (chk_iff.1 h).1).2.1
 have h2 : uKids o.kind = false := by rw [h8]; decide
 rcases hl : o.kids with _ | ⟨x, l⟩
 ·rfl
 ·exfalso
  simp [useB, h2, hl] at hu
  omega
mutual
theorem chk_rr : ∀ (o : Pob) (d : Int), chk o d = 0 → o.rr = o.pre.filter fun p => decide (p.kind = 8)
 | .mk k n g s ks l, d, h => by
  rw [Pob.pre_eq, rr_eq]
  by_cases h8 : (Pob.mk k n g s ks l).kind = 8
  ·have hk := chk_ref h h8
   rw [if_pos h8, List.filter_cons, if_pos (by rw [h8]; decide), hk, pres_nil]
   rfl
  ·rw [if_neg h8, List.filter_cons, if_neg (by simpa using h8)]
   exact chks_rr l (d + 1) (fun x hx => (chk_iff.1 h).2 x hx)
theorem chks_rr : ∀ (l : List Pob) (d : Int), (∀ x ∈ l, chk x d = 0) → rrs l = (pres l).filter fun p => decide (p.kind = 8)
 | [], _, _ => by simp [rrs, pres_nil]
 | o :: l, d, h => by
  rw [rrs, pres, List.filter_append, ← chk_rr o d (h o List.mem_cons_self), ← chks_rr l d (fun x hx => h x (List.mem_cons_of_mem _ hx))]
end
theorem leadR_yes {l : List Itm} (hl : incrN l) {r : Pob} (h : leadB l r = true) : leadR l r = some (leadI l r) := by
 obtain ⟨h1, h2, h3⟩ := lead_mem h
 cases e : leadR l r with
 | none =>
  unfold leadR at e
  rw [List.find?_eq_none] at e
  have := e _ h1
  simp [h2, h3] at this
 | some x =>
  obtain ⟨g1, g2, _⟩ := leadR_mem e
  rw [incr_one hl g1 h1 (by rw [g2, h2])]
theorem leadR_no {l : List Itm} (hl : incrN l) {r : Pob} (h : leadB l r = false) : leadR l r = none := by
 cases e : leadR l r with
 | none => rfl
 | some x =>
  exfalso
  obtain ⟨g1, g2, g3⟩ := leadR_mem e
  cases hm : mfind (netL l) r.num with
  | none =>
   rw [mfind_none] at hm
   refine hm ?_
   rw [← g2]
   simp only [netL, List.map_map, List.mem_map]
   exact ⟨x, g1, rfl⟩
  | some v =>
   have hv := mfind_mem hm
   simp only [netL, List.mem_map, Prod.mk.injEq] at hv
   obtain ⟨y, hy, e1, rfl⟩ := hv
   have : y = x := incr_one hl hy g1 (by rw [e1, g2])
   subst this
   simp [leadB, leadI, hm, g3] at h
theorem sortI_mem {s : List Int} {n : Int} : n ∈ sortI s ↔ n ∈ s := (List.mergeSort_perm s _).mem_iff
theorem sortI_lt {s : List Int} (h : s.Nodup) : (sortI s).Pairwise (· < ·) := by
 have h2 : (sortI s).Nodup := (List.mergeSort_perm _ _).nodup_iff.2 h
 exact (List.Pairwise.and (sortI_pairwise s) h2).imp fun ⟨a, b⟩ => by omega
theorem FromJ.perm {l : List Itm} {start : List Pob} {met : List Int} {a b : List Pob} (h : FromJ l start met a) (hp : a.Perm b) : FromJ l start met b :=
 ⟨h.nd, h.sub, fun r hr => (h.st r hr).imp id (fun g => hp.mem_iff.1 g), fun i hi hm r hr => (h.it i hi hm r hr).imp id (fun g => hp.mem_iff.1 g), fun s' hs => ⟨(h.least s' hs).1, fun r hr => (h.least s' hs).2 r (hp.mem_iff.2 hr)⟩, by rw [← hp.length_eq]; exact h.small⟩
theorem walk_fold (l : List Itm) : ∀ (L : List Pob) (s : List Int × List Pob), (walkR (reachStp l) s L).1 = (L.filter fun p => decide (p.kind = 8)).foldl (fun s r => (reachStp l s r).1) s
 | [], s => rfl
 | o :: L, s => by
  rw [walkR_cons, List.filter_cons]
  by_cases hk : o.kind = 8
  ·rw [if_pos hk, if_neg (by rw [reach_last]; simp), if_pos (by simpa using hk), List.foldl_cons]
   exact walk_fold l L _
  ·rw [if_neg hk, if_neg (by simpa using hk)]
   exact walk_fold l L s
theorem rrs_one (o : Pob) : rrs [o] = o.rr := by simp [rrs]
theorem fold_J {l : List Itm} {start : List Pob} (hl : incrN l) : ∀ (L : List Pob) (s : List Int × List Pob), FromJ l start s.1 (L ++ rrs s.2) →
  FromJ l start (L.foldl (fun s r => (reachStp l s r).1) s).1 (rrs (L.foldl (fun s r => (reachStp l s r).1) s).2)
 | [], s, h => h
 | r :: L, s, h => by
  rw [List.foldl_cons]
  refine fold_J hl L _ ?_
  simp only [reachStp]
  cases hb : reachB l s.1 r
  ·simp only [Bool.false_eq_true, if_false]
   refine h.skip (fun i hi => ?_)
   simp only [reachB, Bool.and_eq_false_iff, Bool.not_eq_false', decide_eq_true_eq] at hb
   rcases hb with hb | hb
   ·rw [leadR_no hl hb] at hi
    cases hi
   ·cases hlb : leadB l r
    ·rw [leadR_no hl hlb] at hi
     cases hi
    ·rw [leadR_yes hl hlb] at hi
     injection hi with hi
     rw [← hi]
     exact hb
  ·simp only [if_true]
   simp only [reachB, Bool.and_eq_true, Bool.not_eq_true', decide_eq_false_iff_not] at hb
   have := h.add hl (leadR_yes hl hb.1) hb.2
   rw [setAdd, if_neg hb.2, rrs_append, rrs_one, ← List.append_assoc]
   exact this
theorem pop_J {l : List Itm} {start : List Pob} (hl : incrN l) {s : List Int × List Pob} (h : FromJ l start s.1 (rrs s.2)) (hn : 0 < s.2.length) (hv : ∀ p ∈ s.2, ∃ k, chk p k = 0) :
  FromJ l start (popS l s).1 (rrs (popS l s).2) := by
 unfold popS
 rw [walk_fold]
 have hm : s.2.getD (s.2.length - 1) Pob.null ∈ s.2 := by
  rw [List.getD_eq_getElem?_getD, List.getElem?_eq_getElem (by omega)]
  exact List.getElem_mem _
 obtain ⟨k, hk⟩ := hv _ hm
 rw [← chk_rr _ k hk]
 refine fold_J hl _ _ ?_
 have e : rrs s.2 = rrs (s.2.take (s.2.length - 1)) ++ (s.2.getD (s.2.length - 1) Pob.null).rr := by
  rw [← rrs_take (l := s.2) (i := s.2.length - 1) (by omega), List.take_of_length_le (by omega)]
 rw [e] at h
 exact h.perm List.perm_append_comm
theorem fold_V {l : List Itm} (hv : ∀ i ∈ l, ∃ k, chk i.obj k = 0) : ∀ (L : List Pob) (s : List Int × List Pob), (∀ p ∈ s.2, ∃ k, chk p k = 0) → ∀ p ∈ (L.foldl (fun s r => (reachStp l s r).1) s).2, ∃ k, chk p k = 0
 | [], s, h => h
 | r :: L, s, h => by
  rw [List.foldl_cons]
  refine fold_V hv L _ ?_
  simp only [reachStp]
  split
  ·rename_i hb
   simp only [reachB, Bool.and_eq_true] at hb
   intro p hp
   rcases List.mem_append.1 hp with hp | hp
   ·exact h p hp
   ·simp only [List.mem_singleton] at hp
    subst hp
    exact hv _ (lead_mem hb.1).1
  ·exact h
theorem reachF_least {l : List Itm} {start : List Pob} (hl : incrN l) (hv : ∀ i ∈ l, ∃ k, chk i.obj k = 0) : ∀ (f : Nat) (s : List Int × List Pob), reachI l s → reachM l s ≤ f → FromJ l start s.1 (rrs s.2) → (∀ p ∈ s.2, ∃ k, chk p k = 0) → leastR l start (reachF l f s)
 | 0, s, hi, hf, h, _ => by
  have h0 : s.2 = [] := by
   simp only [reachM] at hf
   exact List.eq_nil_of_length_eq_zero (by omega)
  rw [h0] at h
  exact FromJ.end h
 | f + 1, s, hi, hf, h, hs => by
  simp only [reachF]
  by_cases hn : 0 < s.2.length
  ·rw [if_pos hn]
   refine reachF_least hl hv f _ (popS_inv hi) (by have := popS_M hi hn; omega) (pop_J hl h hn hs) ?_
   unfold popS
   rw [walk_fold]
   exact fold_V hv _ _ (fun p hp => hs p (List.mem_of_mem_take hp))
  ·rw [if_neg hn]
   have h0 : s.2 = [] := List.eq_nil_of_length_eq_zero (by omega)
   rw [h0] at h
   exact FromJ.end h
theorem items_chk {d : Dc} (h : docE d = 0) : ∀ i ∈ d.items, ∃ k, chk i.obj k = 0 := fun i hi => doc_chk h (i.num, i.obj) (List.mem_cons_of_mem _ (List.mem_map.2 ⟨i, hi, rfl⟩))
theorem reachS_least {d : Dc} {o : Pob} (h : docE d = 0) {k : Int} (hc : chk o k = 0) (hs : o.rr.length + ibulk d.items ≤ 33554432) : leastR d.items o.rr (reachS d.items o) := by
 unfold reachS
 refine reachF_least (items_incr (docE_items h)) (items_chk h) _ _ (reachI_top _ _) (by simp [reachM]) ?_ (fun p hp => ⟨k, by simp only [List.mem_singleton] at hp; rw [hp]; exact hc⟩)
 rw [rrs_one]
 exact FromJ.top _ _ hs
end Aw

namespace Aw
open Go
theorem rrs_mem {l : List Pob} {x : Pob} : x ∈ rrs l ↔ ∃ o ∈ l, x ∈ o.rr := by
 induction l with
 | nil => simp [rrs]
 | cons o l ih => simp [rrs, ih]
end Aw
namespace Aw
open Go
theorem sortI_len (s : List Int) : (sortI s).length = s.length := (List.mergeSort_perm s _).length_eq
theorem fromP_len (d : Dc) (o : Pob) : (fromP d o).length ≤ 8192 := by
 unfold fromP
 split
 ·rename_i h
  rw [sortI_len]
  exact Nat.le_trans (reachS_len _ _) (items_len h.1)
 ·simp
end Aw

namespace Aw
open Go
theorem chk_top {d : Dc} (h : docE d = 0) : chk d.trailer 1 = 0 := by
 have h1 := docE_trail h
 by_cases hc : chk d.trailer 1 = 0
 ·exact hc
 ·rw [trail_bad hc] at h1
  exact absurd h1 hc
theorem fromP_top {d : Dc} (h : docE d = 0) : fromP d d.trailer = sortI (reachS d.items d.trailer) := by rw [fromP, if_pos ⟨h, chk_top h⟩]
end Aw

namespace Aw
open Go
theorem leadR_some {l : List Itm} (h : incrN l) {r : Pob} {i : Itm} (hi : i ∈ l) (hn : i.num = r.num) (hg : i.gen = r.gen) : leadR l r = some i := by
 cases e : leadR l r with
 | none =>
  exfalso
  unfold leadR at e
  rw [List.find?_eq_none] at e
  have := e i hi
  simp [hn, hg] at this
 | some x =>
  obtain ⟨g1, g2, _⟩ := leadR_mem e
  rw [incr_one h g1 hi (by rw [g2, hn])]
end Aw

namespace Aw
open Go
structure AddF (d x : Dc) (o : Pob) (n : Int) : Prop where
 d0 : docE d = 0
 x0 : docE x = 0
 tr : x.trailer = d.trailer
 mem : ∀ i, i ∈ x.items ↔ i = ⟨n, 0, o⟩ ∨ i ∈ d.items
 lt : ∀ i ∈ d.items, i.num < n
 pos : 0 < n
variable {d x : Dc} {o : Pob} {n : Int}
/-- nothing refers to the new number -/
structure AddN (d x : Dc) (o : Pob) (n : Int) : Prop extends AddF d x o n where
 hd : ∀ q ∈ allL d, ∀ r ∈ q.2.rr, r.num ≠ n
 ho : ∀ r ∈ o.rr, r.num ≠ n
theorem AddN.all (h : AddN d x o n) : ∀ q ∈ allL x, ∀ r ∈ q.2.rr, r.num ≠ n := by
 intro q hq r hr
 rcases List.mem_cons.1 hq with rfl | hq
 ·rw [h.tr] at hr
  exact h.hd _ List.mem_cons_self r hr
 ·obtain ⟨i, hi, rfl⟩ := List.mem_map.1 hq
  rcases (h.mem i).1 hi with rfl | hi
  ·exact h.ho r hr
  ·exact h.hd _ (List.mem_cons_of_mem _ (List.mem_map.2 ⟨i, hi, rfl⟩)) r hr
end Aw

set_option linter.unusedVariables false
set_option linter.unusedSimpArgs false
namespace Aw
open Go
/-! sizes -/
end Aw

namespace Aw
open Go
theorem ibulk_filter (l : List Itm) (p : Itm → Bool) : ibulk (l.filter p) ≤ ibulk l := by
 induction l with
 | nil => simp [ibulk]
 | cons x l ih =>
  rw [List.filter_cons]
  split
  ·rw [ibulk_cons, ibulk_cons]; omega
  ·rw [ibulk_cons]; omega
end Aw

namespace Aw
open Go
end Aw

set_option linter.unusedVariables false
set_option linter.unusedSimpArgs false
namespace Aw
open Go
theorem hold_ref (o : Pob) : holdsB o = (decide (o.kind = 9) && (decide ((getO o typeK).kind = 5) && (decide ((getO o typeK).str = [79, 98, 106, 83, 116, 109]) || decide ((getO o typeK).str = [88, 82, 101, 102])))) := by
 unfold holdsB docKind
 by_cases h5 : (getO o typeK).kind = 5
 ·have hb : ∀ a b c : Bool, (bif a then (bif b then true else c) else false) = (a && (true && (b || c))) := by decide
  simp only [if_pos h5, h5, decide_true]
  exact hb _ _ _
 ·simp [h5]
theorem content_knd {i : Itm} (h : chk i.obj 1 = 0) (h' : i.obj.kind = 8 ∨ holdsB i.obj = true) : contentE i = 10 := by unfold contentE; rw [if_neg (by simpa using h), if_pos h']
theorem content_fine {i : Itm} (h : chk i.obj 1 = 0) (h' : ¬ (i.obj.kind = 8 ∨ holdsB i.obj = true)) : contentE i = 0 := by unfold contentE; rw [if_neg (by simpa using h), if_neg h']
end Aw

set_option linter.unusedVariables false
set_option linter.unusedSimpArgs false
namespace Aw
open Go
theorem incr_iff {ks : List (List UInt8)} : incr ks ↔ ks.Pairwise fun a b => Op.bytesLess a b = true := by
 rw [List.pairwise_iff_getElem]
 constructor
 ·intro h i j hi hj hij
  have := h i j hij hj
  simpa [List.getD, hi, hj] using this
 ·intro h a b hab hb
  have := h a b (by omega) hb hab
  simpa [List.getD, hb, show a < ks.length by omega] using this
end Aw

namespace Aw
open Go
def keepK (u ks : List (List UInt8)) : List (List UInt8) := ks.filter fun k => !decide (k ∈ u)
def keep1 (u ks : List (List UInt8)) : Bool := match ks with
 | [] => true
 | k :: _ => !decide (k ∈ u)
mutual
def stripO (u : List (List UInt8)) : Pob → Pob
 | .mk k n g s ks l => .mk k n g s (keepK u (ks.take l.length)) (stripL u l ks)
def stripL (u : List (List UInt8)) : List Pob → List (List UInt8) → List Pob
 | [], _ => []
 | o :: l, ks => if keep1 u ks = true then stripO u o :: stripL u l ks.tail else stripL u l ks.tail
end
variable {u : List (List UInt8)}
theorem stripO_eq (o : Pob) : stripO u o = .mk o.kind o.num o.gen o.str (keepK u (o.keys.take o.kids.length)) (stripL u o.kids o.keys) := by cases o; simp only [stripO, Pob.kind, Pob.num, Pob.gen, Pob.str, Pob.keys, Pob.kids]
theorem strip_kind (o : Pob) : (stripO u o).kind = o.kind := by rw [stripO_eq] <;> rfl
theorem strip_num (o : Pob) : (stripO u o).num = o.num := by rw [stripO_eq] <;> rfl
theorem strip_gen (o : Pob) : (stripO u o).gen = o.gen := by rw [stripO_eq] <;> rfl
theorem strip_str (o : Pob) : (stripO u o).str = o.str := by rw [stripO_eq] <;> rfl
theorem strip_keys (o : Pob) : (stripO u o).keys = keepK u (o.keys.take o.kids.length) := by rw [stripO_eq] <;> rfl
theorem strip_kids (o : Pob) : (stripO u o).kids = stripL u o.kids o.keys := by rw [stripO_eq] <;> rfl
theorem stripL_nil (ks : List (List UInt8)) : stripL u [] ks = [] := by simp only [stripL]
theorem stripL_cons (o : Pob) (l : List Pob) (ks : List (List UInt8)) : stripL u (o :: l) ks = if keep1 u ks = true then stripO u o :: stripL u l ks.tail else stripL u l ks.tail := by simp only [stripL]
theorem stripL_append : ∀ (a b : List Pob) (ks : List (List UInt8)), stripL u (a ++ b) ks = stripL u a ks ++ stripL u b (ks.drop a.length)
 | [], b, ks => by simp [stripL_nil]
 | o :: a, b, ks => by
  have ih := stripL_append a b ks.tail
  rw [List.cons_append, stripL_cons, stripL_cons, ih]
  have e : ks.tail.drop a.length = ks.drop (o :: a).length := by cases ks <;> simp
  split <;> simp [e]
theorem stripL_take {l : List Pob} {i : Nat} (h : i < l.length) (ks : List (List UInt8)) : stripL u (l.take (i + 1)) ks = stripL u (l.take i) ks ++ if keep1 u (ks.drop i) = true then [stripO u (l.getD i Pob.null)] else [] := by
 have e : l.getD i Pob.null = l[i] := by simp [List.getD, h]
 rw [List.take_succ_eq_append_getElem h, stripL_append, e, stripL_cons, stripL_nil]
 simp only [List.length_take, Nat.min_eq_left (Nat.le_of_lt h)]
theorem keepK_take {ks : List (List UInt8)} {i : Nat} (h : i < ks.length) : keepK u (ks.take (i + 1)) = keepK u (ks.take i) ++ if ks.getD i [] ∈ u then [] else [ks.getD i []] := by
 have e : ks.getD i [] = ks[i] := by simp [List.getD, h]
 rw [List.take_succ_eq_append_getElem h, e]
 unfold keepK
 rw [List.filter_append]
 by_cases hm : ks[i] ∈ u <;> simp [hm]
theorem keep1_in {ks : List (List UInt8)} {i : Nat} (h : i < ks.length) : keep1 u (ks.drop i) = !decide (ks.getD i [] ∈ u) := by
 rw [List.drop_eq_getElem_cons h]
 simp [keep1, List.getD, h]
theorem keep1_out {ks : List (List UInt8)} {i : Nat} (h : ks.length ≤ i) : keep1 u (ks.drop i) = true := by
 rw [List.drop_eq_nil_of_le h] <;> rfl
theorem stripL_len : ∀ (l : List Pob) (ks : List (List UInt8)), (stripL u l ks).length ≤ l.length
 | [], ks => by simp [stripL_nil]
 | o :: l, ks => by
  have ih := stripL_len l ks.tail
  rw [stripL_cons]
  split
  ·simp; omega
  ·simp; omega
mutual
theorem strip_bulk : ∀ o : Pob, (stripO u o).bulk ≤ o.bulk
 | .mk k n g s ks l => by
  have h1 := stripL_bulk l ks
  have h2 := stripL_len (u := u) l ks
  have h3 : (keepK u (ks.take l.length)).length ≤ ks.length := Nat.le_trans (List.length_filter_le _ _) (List.length_take_le' _ _)
  simp only [stripO, Pob.bulk]
  omega
theorem stripL_bulk : ∀ (l : List Pob) (ks : List (List UInt8)), bulks (stripL u l ks) ≤ bulks l
 | [], ks => by simp [stripL_nil]
 | o :: l, ks => by
  have h1 := strip_bulk o
  have h2 := stripL_bulk l ks.tail
  rw [stripL_cons]
  split
  ·simp only [bulks]; omega
  ·simp only [bulks]; omega
end
theorem stripL_map (l : List Pob) : stripL u l [] = l.map (stripO u) := by
 induction l with
 | nil => simp [stripL_nil]
 | cons o l ih => rw [stripL_cons, if_pos (by rfl)]; simpa using ih
/-- the pairs that stay -/
theorem strip_zip : ∀ (l : List Pob) (ks : List (List UInt8)), ks.length = l.length →
  (keepK u ks).zip (stripL u l ks) = ((ks.zip l).filter fun p => !decide (p.1 ∈ u)).map (fun p => (p.1, stripO u p.2)) ∧ (keepK u ks).length = (stripL u l ks).length
 | [], ks, h => by
  obtain rfl : ks = [] := List.eq_nil_of_length_eq_zero (by simpa using h)
  simp [stripL_nil, keepK]
 | o :: l, [], h => by simp at h
 | o :: l, k :: ks, h => by
  obtain ⟨h1, h2⟩ := strip_zip l ks (by simpa using h)
  rw [stripL_cons]
  by_cases hm : k ∈ u
  ·have e : keepK u (k :: ks) = keepK u ks := by simp [keepK, hm]
   rw [if_neg (by simp [keep1, hm]), e]
   simp only [List.tail_cons, h1, h2, List.zip_cons_cons]
   simp [hm]
  ·have e : keepK u (k :: ks) = k :: keepK u ks := by simp [keepK, hm]
   rw [if_pos (by simp [keep1, hm]), e]
   simp only [List.tail_cons, h1, List.zip_cons_cons]
   simp [hm, h2]
theorem has_zip {o : Pob} (h : o.keys.length = o.kids.length) {k : List UInt8} {v : Pob} : o.has k v ↔ (k, v) ∈ o.keys.zip o.kids := by
 unfold Pob.has
 rw [List.mem_iff_getElem]
 constructor
 ·rintro ⟨i, hi, rfl, rfl⟩
  refine ⟨i, by simp; omega, ?_⟩
  simp [List.getD, hi, show i < o.kids.length by omega]
 ·rintro ⟨i, hi, e⟩
  simp only [List.length_zip] at hi
  rw [List.getElem_zip] at e
  injection e with e1 e2
  exact ⟨i, by omega, by simp [List.getD, show i < o.keys.length by omega, e1], by simp [List.getD, show i < o.kids.length by omega, e2]⟩
theorem strip_kv {o : Pob} (hs : o.kvOk) : (stripO u o).kvOk ∧ ∀ k v, (stripO u o).has k v ↔ ¬ k ∈ u ∧ ∃ w, o.has k w ∧ v = stripO u w := by
 have hz := strip_zip (u := u) o.kids o.keys hs.2
 have hk : (stripO u o).keys = keepK u o.keys := by rw [strip_keys, ← hs.2, List.take_length]
 have hl : (stripO u o).keys.length = (stripO u o).kids.length := by rw [hk, strip_kids]; exact hz.2
 refine ⟨⟨?_, hl⟩, fun k v => ?_⟩
 ·rw [hk]
  exact incr_iff.2 ((incr_iff.1 hs.1).sublist List.filter_sublist)
 ·rw [has_zip hl, hk, strip_kids, hz.1]
  simp only [List.mem_map, List.mem_filter, has_zip hs.2]
  constructor
  ·rintro ⟨p, ⟨hp, hn⟩, e⟩
   injection e with e1 e2
   subst e1
   exact ⟨by simpa using hn, p.2, hp, e2.symm⟩
  ·rintro ⟨hn, w, hw, rfl⟩
   exact ⟨(k, w), ⟨hw, by simpa using hn⟩, rfl⟩
theorem ownE_plain {a b : Pob} {d : Int} (h1 : a.kind = b.kind) (h2 : a.num = b.num) (h3 : a.gen = b.gen) (h4 : a.str = b.str) (h5 : a.keys = b.keys) (h6 : a.kids.length = b.kids.length) (hk : keyedB a.kind = false) : ownE a d = ownE b d := by
 have hu : uKeys b.kind = false := by rw [← h1]; exact hk
 have e1 : useB a d = useB b d := by unfold useB; rw [h1, h2, h3, h4, h5, h6]
 have e2 : fitsB a = fitsB b := by unfold fitsB; rw [h1, h2, h3]
 have e3 : shortB a = shortB b := by unfold shortB; rw [h1, h4]
 have e4 : formB a = formB b := by unfold formB; rw [h1, h4, hu] <;> rfl
 unfold ownE
 rw [e1, e2, e3, e4, h6]
theorem unkeyed_keys {o : Pob} {d : Int} (h : chk o d = 0) (hk : keyedB o.kind = false) : o.keys = [] := by
 have h1 := (ownE_spec (chk_own h)).2.1
 have hu : uKeys o.kind = false := hk
 unfold useB at h1
 rw [hu] at h1
 by_cases e : o.keys = []
 ·exact e
 ·exfalso
  have : decide ((o.keys.length : Int) = 0) = false := by
   have : o.keys.length ≠ 0 := fun h => e (List.eq_nil_of_length_eq_zero h)
   simp
   exact e
  simp only [this, cond_false, Bool.cond_false_right, Bool.and_false] at h1
  cases h1
theorem strip_plain {o : Pob} {d : Int} (h : chk o d = 0) (hk : keyedB o.kind = false) : (stripO u o).keys = [] ∧ (stripO u o).kids = o.kids.map (stripO u) := by
 have e := unkeyed_keys h hk
 rw [strip_keys, strip_kids, e]
 exact ⟨by simp [keepK], stripL_map _⟩
theorem kid_bulk {o x : Pob} (h : x ∈ o.kids) : x.bulk < o.bulk := by
 obtain ⟨i, hi, rfl⟩ := List.getElem_of_mem h
 have h1 := bulks_get hi
 rw [show o.kids.getD i Pob.null = o.kids[i] from by simp [List.getD, hi]] at h1
 rw [Pob.bulk_eq o]
 omega
/-- a valid object without keys is valid -/
theorem chk_strip : ∀ (N : Nat) (o : Pob) (d : Int), o.bulk < N → chk o d = 0 → chk (stripO u o) d = 0
 | 0, o, d, hN, _ => by omega
 | N + 1, o, d, hN, h => by
  have ih : ∀ x ∈ o.kids, ∀ d, chk x d = 0 → chk (stripO u x) d = 0 := fun x hx d hc => chk_strip N x d (by have := kid_bulk hx; omega) hc
  cases hk : keyedB o.kind with
  | true =>
   have hs := kvOk_of_chk h hk
   obtain ⟨k1, k2⟩ := strip_kv (u := u) hs
   obtain ⟨⟨h1, h2, h3, h4, h5, h6, h7⟩, _, h8⟩ := (chk_keyed hk).1 h
   rw [chk_keyed (by rw [strip_kind]; exact hk), strip_kind, strip_num, strip_gen, strip_str]
   refine ⟨⟨h1, h2, h3, h4, h5, h6, ?_⟩, k1, fun k v hv => ?_⟩
   ·have := stripL_len (u := u) o.kids o.keys
    rw [strip_kids]
    omega
   ·obtain ⟨_, w, hw, rfl⟩ := (k2 k v).1 hv
    obtain ⟨g1, g2, g3, g4⟩ := h8 k w hw
    rw [strip_kind]
    exact ⟨g1, g2, g3, ih w ((has_kid hs).2 ⟨k, hw⟩) _ g4⟩
  | false =>
   obtain ⟨p1, p2⟩ := strip_plain (u := u) h hk
   rw [chk_iff] at h ⊢
   refine ⟨?_, ?_⟩
   ·rw [ownE_plain (strip_kind o) (strip_num o) (strip_gen o) (strip_str o) (by rw [p1, unkeyed_keys (chk_iff.2 h) hk]) (by rw [p2]; simp) (by rw [strip_kind]; exact hk)]
    exact h.1
   ·rw [p2]
    intro x hx
    obtain ⟨y, hy, rfl⟩ := List.mem_map.1 hx
    exact ih y hy _ (h.2 y hy)
theorem strip_chk {o : Pob} {d : Int} (h : chk o d = 0) : chk (stripO u o) d = 0 := chk_strip (o.bulk + 1) o d (by omega) h
attribute [irreducible] stripO stripL
end Aw

namespace Aw
open Go
set_option linter.unusedVariables false
def cInfoK : List UInt8 := [73, 110, 102, 111]
def cIdK : List UInt8 := [73, 68]
def cut1 (u : List (List UInt8)) (t : Pob) (k : List UInt8) : Pob := if k ∈ u then dropO t k else t
def cleanT (u : List (List UInt8)) (t : Pob) : Pob := cut1 u (cut1 u t cInfoK) cIdK
def stripI (u : List (List UInt8)) (i : Itm) : Itm := ⟨i.num, i.gen, stripO u i.obj⟩
def cleanX (u : List (List UInt8)) (d : Dc) : Dc := ⟨d.items.map (stripI u), cleanT u d.trailer⟩
def cleanR (u : List (List UInt8)) (d : Dc) : List Int := fromP (cleanX u d) (cleanX u d).trailer
def cleanC (u : List (List UInt8)) (d : Dc) : Dc := ⟨(cleanX u d).items.filter fun i => decide (i.num ∈ cleanR u d), (cleanX u d).trailer⟩
def cleanD (u : List (List UInt8)) (d : Dc) : Dc := if docE d ≠ 0 then Dc.zero else cleanC u d
def leftI (u : List (List UInt8)) (d : Dc) (i : Itm) : Bool := !(lookI (cleanD u d).items i.num).isSome
def leftP (u : List (List UInt8)) (d : Dc) : List Int := if docE d ≠ 0 then [] else (d.items.filter (leftI u d)).map (·.num)
variable {u : List (List UInt8)} {d : Dc}
/-- a trailer that is valid -/
structure TrOk (t : Pob) : Prop where
 c : chk t 1 = 0
 k : t.kind = 7
theorem TrOk.key {t : Pob} (h : TrOk t) : keyedB t.kind = true := by simp [keyedB, h.k]
theorem TrOk.kv {t : Pob} (h : TrOk t) : t.kvOk := kvOk_of_chk h.c h.key
theorem cut1_ok {t : Pob} (h : TrOk t) (k : List UInt8) : TrOk (cut1 u t k) := by
 unfold cut1
 split
 ·exact ⟨dropO_chk h.c h.key, by rw [(dropO_frame t k).1]; exact h.k⟩
 ·exact h
theorem cut1_has {t : Pob} (h : TrOk t) {k x : List UInt8} {v : Pob} : (cut1 u t k).has x v ↔ ¬ (x = k ∧ k ∈ u) ∧ t.has x v := by
 unfold cut1
 split
 ·rename_i hm
  rw [(dropO_has h.c h.key).2]
  simp [hm]
 ·rename_i hm
  simp [hm]
theorem cleanT_ok {t : Pob} (h : TrOk t) : TrOk (cleanT u t) := cut1_ok (cut1_ok h _) _
theorem cleanT_has {t : Pob} (h : TrOk t) {x : List UInt8} {v : Pob} : (cleanT u t).has x v ↔ ¬ ((x = cInfoK ∨ x = cIdK) ∧ x ∈ u) ∧ t.has x v := by
 unfold cleanT
 rw [cut1_has (cut1_ok h _), cut1_has h]
 constructor
 ·rintro ⟨h1, h2, h3⟩
  refine ⟨?_, h3⟩
  rintro ⟨e | e, hm⟩
  ·exact h2 ⟨e, e ▸ hm⟩
  ·exact h1 ⟨e, e ▸ hm⟩
 ·rintro ⟨h1, h3⟩
  refine ⟨?_, ?_, h3⟩
  ·rintro ⟨e, hm⟩
   exact h1 ⟨.inr e, e ▸ hm⟩
  ·rintro ⟨e, hm⟩
   exact h1 ⟨.inl e, e ▸ hm⟩
theorem cleanT_bulk (t : Pob) : (cleanT u t).bulk ≤ t.bulk := by
 have h1 := dropO_bulk t cInfoK
 have h2 := dropO_bulk (cut1 u t cInfoK) cIdK
 have h3 : (cut1 u t cInfoK).bulk ≤ t.bulk := by
  rw [cut1]
  split <;> omega
 rw [cleanT, cut1]
 split <;> omega
theorem doc_tr (h : docE d = 0) : TrOk d.trailer := ⟨(trail_parts (docE_trail h)).1, (trail_parts (docE_trail h)).2.1⟩
theorem stripI_incr {l : List Itm} (h : incrN l) : incrN (l.map (stripI u)) := by
 rw [incrN_iff] at h ⊢
 exact List.pairwise_map.2 h
theorem stripI_bulk (l : List Itm) : ibulk (l.map (stripI u)) ≤ ibulk l := by
 induction l with
 | nil => simp
 | cons i l ih =>
  have := strip_bulk (u := u) i.obj
  rw [List.map_cons, ibulk_cons, ibulk_cons]
  simp only [stripI]
  omega
theorem lead_look {l : List Itm} (h : incrN l) {r : Pob} {i : Itm} : leadR l r = some i ↔ lookI l r.num = some i ∧ i.gen = r.gen := by
 constructor
 ·intro e
  obtain ⟨g1, g2, g3⟩ := leadR_mem e
  exact ⟨(look_some h).2 ⟨g1, g2⟩, g3⟩
 ·rintro ⟨e, g⟩
  obtain ⟨g1, g2⟩ := (look_some h).1 e
  exact leadR_some h g1 g2 g
theorem follow_lead (h : incrN d.items) {r : Pob} (hk : r.kind = 8) : followO d r = ((leadR d.items r).map (·.obj)).getD Pob.null := by
 rw [follow_look, if_neg (by simpa using hk)]
 cases e : leadR d.items r with
 | some i =>
  obtain ⟨g1, g2⟩ := (lead_look h).1 e
  rw [g1]
  simp [g2]
 | none =>
  cases e2 : lookI d.items r.num with
  | none => rfl
  | some i =>
   simp only []
   rw [if_pos]
   ·rfl
   ·intro g
    have := (lead_look h).2 ⟨e2, g⟩
    rw [e] at this
    cases this
theorem lead_strip {l : List Itm} (h : incrN l) (r : Pob) : leadR (l.map (stripI u)) r = (leadR l r).map (stripI u) := by
 cases e : leadR l r with
 | some i =>
  obtain ⟨g1, g2, g3⟩ := leadR_mem e
  exact leadR_some (stripI_incr h) (List.mem_map.2 ⟨i, g1, rfl⟩) g2 g3
 | none =>
  cases e2 : leadR (l.map (stripI u)) r with
  | none => rfl
  | some x =>
   obtain ⟨g1, g2, g3⟩ := leadR_mem e2
   obtain ⟨i, hi, rfl⟩ := List.mem_map.1 g1
   have := leadR_some h hi g2 g3
   rw [e] at this
   cases this
theorem strip_null : stripO u Pob.null = Pob.null := by rw [stripO_eq]; simp [Pob.null, Pob.kids, Pob.keys, keepK, stripL_nil, Pob.kind, Pob.num, Pob.gen, Pob.str]
theorem content_parts {i : Itm} (h : contentE i = 0) : chk i.obj 1 = 0 ∧ ¬ (i.obj.kind = 8 ∨ holdsB i.obj = true) := by
 by_cases h1 : chk i.obj 1 = 0
 ·refine ⟨h1, fun h2 => ?_⟩
  rw [content_knd h1 h2] at h
  cases h
 ·rw [content_bad h1] at h
  exact absurd h h1
theorem strip_get {o : Pob} (h : chk o 1 = 0) (hk : keyedB o.kind = true) (k : List UInt8) : getO (stripO u o) k = if k ∈ u then Pob.null else stripO u (getO o k) := by
 have hs := kvOk_of_chk h hk
 obtain ⟨k1, k2⟩ := strip_kv (u := u) hs
 have hk' : keyedB (stripO u o).kind = true := by rw [strip_kind]; exact hk
 by_cases hm : k ∈ u
 ·rw [if_pos hm]
  exact (get_no k1 hk' fun v hv => ((k2 k v).1 hv).1 hm).2
 ·rw [if_neg hm]
  by_cases hb : getB o k = true
  ·have hh := (get_has hs hk).1 ⟨hb, rfl⟩
   exact ((get_has k1 hk').2 ((k2 k _).2 ⟨hm, _, hh, rfl⟩)).2
  ·have hb' : getB o k = false := by simpa using hb
   have hn : getO o k = Pob.null := by simp [getO, hb']
   rw [hn, strip_null]
   refine (get_no k1 hk' fun v hv => ?_).2
   obtain ⟨_, w, hw, _⟩ := (k2 k v).1 hv
   exact hb ((get_has hs hk).2 hw).1
theorem strip_holds {o : Pob} (h : chk o 1 = 0) (hh : holdsB (stripO u o) = true) : holdsB o = true := by
 rw [hold_ref] at hh ⊢
 simp only [Bool.and_eq_true, decide_eq_true_eq, Bool.or_eq_true, strip_kind] at hh ⊢
 obtain ⟨h9, h5, hs⟩ := hh
 have hg := strip_get (u := u) h (by simp [keyedB, h9]) typeK
 by_cases hm : typeK ∈ u
 ·rw [if_pos hm] at hg
  rw [hg] at h5
  cases h5
 ·rw [if_neg hm] at hg
  rw [hg, strip_kind] at h5
  rw [hg, strip_str] at hs
  exact ⟨h9, h5, hs⟩
theorem strip_content {i : Itm} (h : contentE i = 0) : contentE (stripI u i) = 0 := by
 obtain ⟨h1, h2⟩ := content_parts h
 refine content_fine (strip_chk h1) ?_
 rintro (g | g)
 ·rw [show (stripI u i).obj = stripO u i.obj from rfl, strip_kind] at g
  exact h2 (.inl g)
 ·exact h2 (.inr (strip_holds h1 g))
theorem strip_items {l : List Itm} (h : itemsE l = 0) : itemsE (l.map (stripI u)) = 0 := by
 rw [items_iff] at h ⊢
 refine ⟨stripI_incr h.1, fun x hx => ?_⟩
 obtain ⟨i, hi, rfl⟩ := List.mem_map.1 hx
 exact ⟨(h.2 i hi).1, strip_content (h.2 i hi).2⟩
theorem trailOk_iff {ks : List (List UInt8)} : trailOk ks ↔ ∀ k ∈ ks, 0 ≤ kidxI trailK k := by
 unfold trailOk
 constructor
 ·intro h k hk
  obtain ⟨i, hi, rfl⟩ := List.getElem_of_mem hk
  have := h i hi
  simpa [List.getD, hi] using this
 ·intro h i hi
  have := h ks[i] (List.getElem_mem hi)
  simpa [List.getD, hi] using this
theorem key_has {o : Pob} (hs : o.kvOk) {k : List UInt8} : k ∈ o.keys ↔ ∃ v, o.has k v := by
 constructor
 ·intro h
  obtain ⟨i, hi, rfl⟩ := List.getElem_of_mem h
  exact ⟨_, i, hi, by simp [List.getD, hi], rfl⟩
 ·rintro ⟨v, i, hi, rfl, _⟩
  simp only [List.getD, List.getElem?_eq_getElem hi, Option.getD_some]
  exact List.getElem_mem hi
theorem cleanT_root {t : Pob} (h : TrOk t) : getO (cleanT u t) rootK = getO t rootK :=
 (get_congr (cleanT_ok h).kv h.kv (cleanT_ok h).key h.key fun v => by
  rw [cleanT_has h]
  refine ⟨fun g => g.2, fun g => ⟨?_, g⟩⟩
  rintro ⟨e | e, _⟩ <;> cases e).2
/-- what makes a trailer valid in a document -/
theorem trail_of {x : Dc} (h : TrOk x.trailer) (hk : ∀ k ∈ x.trailer.keys, 0 ≤ kidxI trailK k) (h8 : (getO x.trailer rootK).kind = 8) (h7 : (followO x (getO x.trailer rootK)).kind = 7) : trailE x = 0 := by
 rw [trail_root h.c h.k (trailOk_iff.2 hk), if_neg]
 rintro (g | g)
 ·exact g h8
 ·exact g h7
theorem doc_of {x : Dc} (h : itemsE x.items = 0) (ht : trailE x = 0) : docE x = 0 := by rw [doc_trail h]; exact ht
theorem cleanT_keys {t : Pob} (h : TrOk t) : ∀ k ∈ (cleanT u t).keys, k ∈ t.keys := fun k hk => by
 obtain ⟨v, hv⟩ := (key_has (cleanT_ok h).kv).1 hk
 exact (key_has h.kv).2 ⟨v, ((cleanT_has h).1 hv).2⟩
/-- the stripped document is valid -/
theorem cleanX_ok (h : docE d = 0) : docE (cleanX u d) = 0 := by
 have hi := docE_items h
 have ht := doc_tr h
 obtain ⟨_, _, h3, h4, h5⟩ := trail_parts (docE_trail h)
 refine doc_of (strip_items hi) (trail_of (cleanT_ok ht) (fun k hk => trailOk_iff.1 h3 k (cleanT_keys ht k hk)) ?_ ?_)
 ·rw [show (cleanX u d).trailer = cleanT u d.trailer from rfl, cleanT_root ht]
  exact h4
 ·rw [show (cleanX u d).trailer = cleanT u d.trailer from rfl, cleanT_root ht, follow_lead (stripI_incr (items_incr hi)) h4, show (cleanX u d).items = d.items.map (stripI u) from rfl, lead_strip (items_incr hi)]
  rw [follow_lead (items_incr hi) h4] at h5
  cases e : leadR d.items (getO d.trailer rootK) with
  | none => rw [e] at h5; cases h5
  | some i =>
   rw [e] at h5
   simp only [Option.map_some, Option.getD_some] at h5 ⊢
   rw [show (stripI u i).obj = stripO u i.obj from rfl, strip_kind]
   exact h5
theorem root_rr {t : Pob} (h : TrOk t) (h8 : (getO t rootK).kind = 8) : getO t rootK ∈ t.rr := by
 have hb : getB t rootK = true := by
  cases e : getB t rootK with
  | true => rfl
  | false =>
   have hn : getO t rootK = Pob.null := by simp [getO, e]
   rw [hn] at h8
   cases h8
 have hh := (get_has h.kv h.key).1 ⟨hb, rfl⟩
 rw [rr_eq, if_neg (by rw [h.k]; decide), rrs_mem]
 exact ⟨_, (has_kid h.kv).2 ⟨_, hh⟩, by rw [rr_eq, if_pos h8]; exact List.mem_singleton.2 rfl⟩
theorem lead_filter {l : List Itm} (h : incrN l) {R : List Int} {r : Pob} {i : Itm} : leadR (l.filter fun i => decide (i.num ∈ R)) r = some i ↔ leadR l r = some i ∧ i.num ∈ R := by
 have hf : incrN (l.filter fun i => decide (i.num ∈ R)) := incrN_iff.2 ((incrN_iff.1 h).sublist List.filter_sublist)
 constructor
 ·intro e
  obtain ⟨g1, g2, g3⟩ := leadR_mem e
  obtain ⟨g4, g5⟩ := List.mem_filter.1 g1
  exact ⟨leadR_some h g4 g2 g3, by simpa using g5⟩
 ·rintro ⟨e, hm⟩
  obtain ⟨g1, g2, g3⟩ := leadR_mem e
  exact leadR_some hf (List.mem_filter.2 ⟨g1, by simpa using hm⟩) g2 g3
theorem least_filter {l : List Itm} (h : incrN l) {start : List Pob} {R : List Int} (hR : leastR l start R) : leastR (l.filter fun i => decide (i.num ∈ R)) start R := by
 refine ⟨⟨fun r hr i hi => hR.1.1 r hr i ((lead_filter h).1 hi).1, fun i hi hm r hr x hx => hR.1.2 i (List.mem_filter.1 hi).1 hm r hr x ((lead_filter h).1 hx).1⟩, fun s' hs k hk => ?_⟩
 have hT : closedR l start (R.filter fun k => decide (k ∈ s')) := by
  refine ⟨fun r hr i hi => ?_, fun i hi hm r hr x hx => ?_⟩
  ·have h1 := hR.1.1 r hr i hi
   exact List.mem_filter.2 ⟨h1, by simpa using hs.1 r hr i ((lead_filter h).2 ⟨hi, h1⟩)⟩
  ·obtain ⟨h2, h3⟩ := List.mem_filter.1 hm
   have h1 := hR.1.2 i hi h2 r hr x hx
   refine List.mem_filter.2 ⟨h1, ?_⟩
   have := hs.2 i (List.mem_filter.2 ⟨hi, by simpa using h2⟩) (by simpa using h3) r hr x ((lead_filter h).2 ⟨hx, h1⟩)
   simpa using this
 simpa using (List.mem_filter.1 (hR.2 _ hT k hk)).2
/-- what is known of a cleaned document -/
structure CleanF (u : List (List UInt8)) (d : Dc) : Prop where
 x0 : docE (cleanX u d) = 0
 R : leastR (cleanX u d).items (cleanX u d).trailer.rr (cleanR u d)
 c0 : docE (cleanC u d) = 0
 e : cleanD u d = cleanC u d
theorem least_sort {l : List Itm} {start : List Pob} {a : List Int} (h : leastR l start a) : leastR l start (sortI a) :=
 ⟨⟨fun r hr i hi => sortI_mem.2 (h.1.1 r hr i hi), fun i hi hm r hr x hx => sortI_mem.2 (h.1.2 i hi (sortI_mem.1 hm) r hr x hx)⟩, fun s hs n hn => h.2 s hs n (sortI_mem.1 hn)⟩
theorem fromP_least {x : Dc} (h : docE x = 0) (hs : x.trailer.rr.length + ibulk x.items ≤ 33554432) : leastR x.items x.trailer.rr (fromP x x.trailer) := by
 rw [fromP_top h]
 exact least_sort (reachS_least (o := x.trailer) h (chk_top h) hs)
theorem cleanX_size (hs : d.bulk ≤ 16777216) : (cleanX u d).trailer.rr.length + ibulk (cleanX u d).items ≤ 33554432 := by
 have h1 := rr_len (cleanX u d).trailer
 have h2 := cleanT_bulk (u := u) d.trailer
 have h3 := stripI_bulk (u := u) d.items
 have h4 : d.bulk = ibulk d.items + d.trailer.bulk := rfl
 have h5 : (cleanX u d).trailer.bulk = (cleanT u d.trailer).bulk := rfl
 have h6 : ibulk (cleanX u d).items = ibulk (d.items.map (stripI u)) := rfl
 omega
theorem cleanC_incr (h : docE d = 0) : incrN (cleanC u d).items := incrN_iff.2 ((incrN_iff.1 (items_incr (docE_items (cleanX_ok h)))).sublist List.filter_sublist)
theorem clean_facts (h : docE d = 0) (hs : d.bulk ≤ 16777216) : CleanF u d := by
 have hx := cleanX_ok (u := u) h
 have hR := fromP_least hx (cleanX_size hs)
 have hxl := items_incr (docE_items hx)
 refine ⟨hx, hR, ?_, by rw [cleanD, if_neg (by simpa using h)]⟩
 have hi := docE_items hx
 obtain ⟨h1, h2, h3, h4, h5⟩ := trail_parts (docE_trail hx)
 have ht : TrOk (cleanX u d).trailer := ⟨h1, h2⟩
 have hcl := cleanC_incr (u := u) h
 refine doc_of ?_ (trail_of (x := cleanC u d) ht (trailOk_iff.1 h3) h4 ?_)
 ·rw [items_iff] at hi ⊢
  exact ⟨hcl, fun x hx => hi.2 x (List.mem_filter.1 hx).1⟩
 ·show (followO (cleanC u d) (getO (cleanX u d).trailer rootK)).kind = 7
  rw [follow_lead hxl h4] at h5
  rw [follow_lead hcl h4]
  cases e : leadR (cleanX u d).items (getO (cleanX u d).trailer rootK) with
  | none => rw [e] at h5; cases h5
  | some i =>
   have hm := hR.1.1 _ (root_rr ht h4) i e
   have this : leadR (cleanC u d).items (getO (cleanX u d).trailer rootK) = some i := (lead_filter hxl).2 ⟨e, hm⟩
   rw [e] at h5
   rw [this]
   exact h5
theorem CleanF.least (h : CleanF u d) (hd : docE d = 0) : leastR (cleanC u d).items (cleanC u d).trailer.rr (cleanR u d) := least_filter (items_incr (docE_items h.x0)) h.R
theorem clean_obj (h : docE d = 0) : ∀ i ∈ (cleanC u d).items, ∃ j ∈ d.items, i = stripI u j ∧ chk j.obj 1 = 0 := by
 intro i hi
 obtain ⟨j, hj, rfl⟩ := List.mem_map.1 (List.mem_filter.1 hi).1
 exact ⟨j, hj, rfl, (content_parts ((items_iff.1 (docE_items h)).2 j hj).2).1⟩
mutual
/-- foliantlaw31.keyed -/
def keyedIn (u : List (List UInt8)) : Pob → Bool
 | .mk _ _ _ _ ks l => (ks.any fun k => decide (k ∈ u)) || keyedInL u l
def keyedInL (u : List (List UInt8)) : List Pob → Bool
 | [] => false
 | o :: l => keyedIn u o || keyedInL u l
end
theorem keyedIn_eq (o : Pob) : keyedIn u o = ((o.keys.any fun k => decide (k ∈ u)) || keyedInL u o.kids) := by cases o; simp only [keyedIn, Pob.keys, Pob.kids]
theorem keyedInL_any (l : List Pob) : keyedInL u l = l.any (keyedIn u) := by
 induction l with
 | nil => simp [keyedInL]
 | cons o l ih => simp [keyedInL, ih]
theorem strip_keyed : ∀ (N : Nat) (o : Pob) (d : Int), o.bulk < N → chk o d = 0 → keyedIn u (stripO u o) = false
 | 0, o, d, hN, _ => by omega
 | N + 1, o, d, hN, h => by
  have ih : ∀ x ∈ o.kids, keyedIn u (stripO u x) = false := fun x hx => strip_keyed N x (d + 1) (by have := kid_bulk hx; omega) ((chk_iff.1 h).2 x hx)
  rw [keyedIn_eq, keyedInL_any, Bool.or_eq_false_iff]
  cases hk : keyedB o.kind with
  | true =>
   have hs := kvOk_of_chk h hk
   obtain ⟨k1, k2⟩ := strip_kv (u := u) hs
   refine ⟨List.any_eq_false.2 fun k hk' => ?_, List.any_eq_false.2 fun x hx => ?_⟩
   ·obtain ⟨v, hv⟩ := (key_has k1).1 hk'
    simpa using ((k2 k v).1 hv).1
   ·obtain ⟨k, hv⟩ := (has_kid k1).1 hx
    obtain ⟨_, w, hw, rfl⟩ := (k2 k x).1 hv
    simpa using ih w ((has_kid hs).2 ⟨k, hw⟩)
  | false =>
   obtain ⟨p1, p2⟩ := strip_plain (u := u) h hk
   rw [p1, p2]
   refine ⟨rfl, List.any_eq_false.2 fun x hx => ?_⟩
   obtain ⟨y, hy, rfl⟩ := List.mem_map.1 hx
   simpa using ih y hy
theorem clean_keyed (h : docE d = 0) {i : Itm} (hi : i ∈ (cleanC u d).items) : keyedIn u i.obj = false := by
 obtain ⟨j, _, rfl, hc⟩ := clean_obj h i hi
 exact strip_keyed _ j.obj 1 (Nat.lt_succ_self _) hc
theorem clean_trail (h : docE d = 0) {k : List UInt8} (hk : k ∈ (cleanC u d).trailer.keys) (hu : k ∈ u) : k = rootK := by
 have ht := doc_tr h
 obtain ⟨_, _, h3, _, _⟩ := trail_parts (docE_trail h)
 have hk' : k ∈ (cleanT u d.trailer).keys := hk
 have h1 := trailOk_iff.1 h3 k (cleanT_keys ht k hk')
 obtain ⟨v, hv⟩ := (key_has (cleanT_ok ht).kv).1 hk'
 have h2 := ((cleanT_has ht).1 hv).1
 rcases kidxI_cases trailK k with ⟨i, hi, _, e⟩ | ⟨e, _⟩
 ·have hi3 : i < 3 := hi
  match i, hi3 with
  | 0, _ => exact absurd ⟨.inr e.symm, hu⟩ h2
  | 1, _ => exact absurd ⟨.inl e.symm, hu⟩ h2
  | 2, _ => exact e.symm
 ·omega
attribute [irreducible] keyedIn keyedInL
end Aw

namespace Aw
open Go
def VB (b : Bool) : AV := .bool b
theorem zero_vb (m : Mem) : Rep m 1 (VB false) (.bool false) := by simp only [VB, Rep]
theorem mfind_mset {κ ν : Type} [DecidableEq κ] (l : List (κ × ν)) (k j : κ) (v : ν) : mfind (mset l k v) j = if k = j then some v else mfind l j := by
 induction l with
 | nil =>
  simp only [mset, mfind]
 | cons p l ih =>
  by_cases h : p.1 = k
  ·simp only [mset, if_pos h, mfind]
   by_cases hj : k = j
   ·rw [if_pos hj, if_pos hj]
   ·rw [if_neg hj, if_neg hj, if_neg (by rw [h]; exact hj)]
  ·simp only [mset, if_neg h, mfind, ih]
   by_cases hp : p.1 = j
   ·rw [if_pos hp, if_pos hp, if_neg (fun e => h (hp.trans e.symm))]
   ·rw [if_neg hp, if_neg hp]
def keySet {κ : Type} [DecidableEq κ] (ks : List κ) : List (κ × Bool) := ks.foldl (fun s k => mset s k true) []
theorem keySet_take {κ : Type} [DecidableEq κ] {ks : List κ} {i : Nat} {d : κ} (h : i < ks.length) : keySet (ks.take (i + 1)) = mset (keySet (ks.take i)) (ks.getD i d) true := by
 unfold keySet
 rw [List.take_succ_eq_append_getElem h, List.foldl_append]
 simp [List.getD, h]
theorem keySet_find {κ : Type} [DecidableEq κ] (ks : List κ) (k : κ) : (mfind (keySet ks) k).getD false = decide (k ∈ ks) := by
 have h : ∀ (ks : List κ) (s : List (κ × Bool)), (mfind (ks.foldl (fun s k => mset s k true) s) k).getD false = (decide (k ∈ ks) || (mfind s k).getD false) := by
  intro ks
  induction ks with
  | nil => intro s; simp
  | cons x ks ih =>
   intro s
   rw [List.foldl_cons, ih, mfind_mset]
   by_cases hx : x = k
   ·subst hx; simp
   ·rw [if_neg hx]
    have : decide (k ∈ x :: ks) = decide (k ∈ ks) := by simp [Ne.symm hx]
    rw [this]
 rw [keySet, h]
 simp [mfind]
theorem mres_key {κ : Type} [DecidableEq κ] (ks : List κ) (k : κ) : mres VB false false (keySet ks) k = .bool (decide (k ∈ ks)) := by
 unfold mres
 rw [if_neg (by decide), keySet_find]
 rfl
/-- what a valid object's keys and values may be -/
def kvLen (o : Pob) : Prop := o.keys = [] ∨ o.keys.length = o.kids.length
theorem kvLen_chk {o : Pob} {d : Int} (h : chk o d = 0) : kvLen o := by
 cases hk : keyedB o.kind with
 | true => exact .inr (kvOk_of_chk h hk).2
 | false => exact .inl (unkeyed_keys h hk)
variable {u : List (List UInt8)}
/-- the keys and values up to 'i' -/
def spK (u : List (List UInt8)) (o : Pob) (i : Nat) : List (List UInt8) := keepK u (o.keys.take i)
def spL (u : List (List UInt8)) (o : Pob) (i : Nat) : List Pob := stripL u (o.kids.take i) o.keys
theorem sp_zero (o : Pob) : spK u o 0 = [] ∧ spL u o 0 = [] := by simp [spK, spL, keepK, stripL_nil]
theorem sp_skip {o : Pob} {i : Nat} (h : i < o.kids.length) (hk : kvLen o) (hn : o.keys ≠ []) (hm : o.keys.getD i [] ∈ u) : spK u o (i + 1) = spK u o i ∧ spL u o (i + 1) = spL u o i := by
 have hl : i < o.keys.length := by rcases hk with e | e; exact absurd e hn; omega
 unfold spK spL
 rw [keepK_take hl, stripL_take h, keep1_in hl, if_pos hm, decide_eq_true hm]
 simp
theorem sp_keep {o : Pob} {i : Nat} (h : i < o.kids.length) (hk : kvLen o) (hn : o.keys ≠ []) (hm : ¬ o.keys.getD i [] ∈ u) : spK u o (i + 1) = spK u o i ++ [o.keys.getD i []] ∧ spL u o (i + 1) = spL u o i ++ [stripO u (o.kids.getD i Pob.null)] := by
 have hl : i < o.keys.length := by rcases hk with e | e; exact absurd e hn; omega
 unfold spK spL
 rw [keepK_take hl, stripL_take h, keep1_in hl, if_neg hm, decide_eq_false hm]
 simp
theorem sp_plain {o : Pob} {i : Nat} (h : i < o.kids.length) (hn : o.keys = []) : spK u o (i + 1) = spK u o i ∧ spL u o (i + 1) = spL u o i ++ [stripO u (o.kids.getD i Pob.null)] := by
 unfold spK spL
 rw [hn, stripL_take h, keep1_out (by simp)]
 simp
theorem sp_end (o : Pob) : stripO u o = .mk o.kind o.num o.gen o.str (spK u o o.kids.length) (spL u o o.kids.length) := by
 rw [stripO_eq, spK, spL, List.take_length]
theorem sp_len (o : Pob) (i : Nat) : (spK u o i).length ≤ o.keys.length ∧ (spL u o i).length ≤ o.kids.length :=
 ⟨Nat.le_trans (List.length_filter_le _ _) (List.length_take_le' _ _), Nat.le_trans (stripL_len _ _) (List.length_take_le' _ _)⟩
theorem noTL_VB : ∀ l : List (List UInt8 × Bool), noTL (l.map fun p => VB p.2) = true
 | [] => rfl
 | p :: l => by simp only [List.map_cons, noTL, VB, noT, Bool.true_and]; exact noTL_VB l
theorem noTL_KS : ∀ l : List (List UInt8 × Bool), noTL (l.map fun p => AV.str p.1) = true
 | [] => rfl
 | p :: l => by simp only [List.map_cons, noTL, noT, Bool.true_and]; exact noTL_KS l
theorem noTBm_keys (l : List (List UInt8 × Bool)) : noTBm (mapOf AV.str VB l) = true := by simp only [mapOf, noTBm, noTL_VB, noTL_KS, Bool.and_self]
theorem noTL_VBi : ∀ l : List (Int × Bool), noTL (l.map fun p => VB p.2) = true
 | [] => rfl
 | p :: l => by simp only [List.map_cons, noTL, VB, noT, Bool.true_and]; exact noTL_VBi l
theorem noTL_KSi : ∀ l : List (Int × Bool), noTL (l.map fun p => AV.int .i64 p.1) = true
 | [] => rfl
 | p :: l => by simp only [List.map_cons, noTL, noT, Bool.true_and]; exact noTL_KSi l
theorem noTBm_nums (l : List (Int × Bool)) : noTBm (mapOf (AV.int .i64) VB l) = true := by simp only [mapOf, noTBm, noTL_VBi, noTL_KSi, Bool.and_self]
end Aw

namespace Go.Proofs
open Go Aw
set_option linter.unusedSimpArgs false
set_option linter.unusedVariables false
set_option maxRecDepth 100000
set_option maxHeartbeats 2000000
attribute [local go_sem] take_strsAV app1_strsAV take_intsAV app1_intsAV take_objsAV app1_objsAV
attribute [local go_sem ↓ high] noTBm_keys renHp_cons noTHm_cons
theorem h_clean_set (gl : List (Nat × AV)) (ks : List (List UInt8)) (hl : ks.length ≤ 16777216 := by first | omega | exact u8_le _ | assumption | (simp; done) | (simp; omega)) : FnH Tryz.prog (gl) 36 [.sl (strsAV ks)] ([]) 0 (fun r h n => r = .ret (.map 0) ∧ h = [(0, mapOf AV.str VB (keySet ks))] ∧ n = 1) := by
 refine FnH.intro Tryz.func36 rfl rfl (by simp [Tryz.ntmps36]) ?_
 simp only [argEnv, Tryz.ntmps36, Tryz.results36]
 refine AW.rS ?_
 refine AW.rSC ?_
 refine awOps.cons ?_
 refine awGuard.mkM0 VB keyOk_str ?_
 refine awOps.rn ?_
 refine AW.rSC ?_
 refine awOps.cons ?_
 refine awGuard.clM keyOk_str (V := VB) ?_
 refine awOps.rn ?_
 refine AW.seq ?_
 refine AW.rS ?_
 refine AW.block ?_
 refine AW.lk (S := { i : Nat // i ≤ ks.length }) [3, 8, 9] (fun s_ => [(10, .int .i64 s_.1)]) (fun s_ => [(0, mapOf AV.str VB (keySet (ks.take s_.1)))]) 1 (fun s_ => ks.length - s_.1) ⟨0, Nat.zero_le _⟩ ?_ ?_
 ·refine St.le.vw [0]
 rintro ⟨i, hi⟩
 try dsimp only at hi
 refine AW.rS ?_
 refine AW.seq ?_
 refine AW.c2 ?_ ?_
 ·intro h14
  have hkt := keySet_take (d := []) h14
  refine AW.skip ?_
  refine AW.seq ?_
  refine AW.block ?_
  refine AW.rS ?_
  refine AW.rLC ?_
  refine awOps.cons ?_
  refine awGuard.upM keyOk_str true ?_
  refine awOps.rn ?_
  refine AW.rL ?_
  refine ⟨⟨i + 1, by omega⟩, ?_, ?_⟩
  ·refine St.le.vx [0] ?_
   rw [hkt] <;> rfl
  ·simp only []; omega
 ·intro h14
  refine AW.exit ?_
  obtain rfl : i = ks.length := by omega
  rw [List.take_length]
  refine AW.rS ?_
  refine AW.rt ?_
  trivial
theorem strip1_step (gl : List (Nat × AV)) (ks : List (List UInt8)) (n : Nat) (hN : n ≤ 16777000) (ih : ∀ (o' : Pob) (d : Int), o'.bulk ≤ n → chk o' d = 0 → FnP Tryz.prog gl 62 [.agg o'.cells, .tptr [cmapOf AV.str VB (keySet ks)], .tptr [recC 62 [.tptr [cmapOf AV.str VB (keySet ks)]] n]] fun r => r = .ret (.agg (stripO ks o').cells)) (o : Pob) (d : Int) (ho : o.bulk ≤ n + 1) (hc : chk o d = 0) : FnP Tryz.prog (gl) 62 [.agg o.cells, .tptr [cmapOf AV.str VB (keySet ks)], .tptr [.clos 62 [.tptr [cmapOf AV.str VB (keySet ks)], .tptr [recC 62 [.tptr [cmapOf AV.str VB (keySet ks)]] n]]]] fun r => r = .ret (.agg (stripO ks o).cells) := by
 refine FnP.intro Tryz.func62 rfl rfl (by simp [Tryz.ntmps62]) ?_
 simp only [argEnv, Tryz.ntmps62, Tryz.results62]
 have hb := Pob.bulk_eq o
 have hkv := kvLen_chk hc
 have hkk := fun x hx => (chk_iff.1 hc).2 x hx
 refine AW.rS ?_
 refine AW.rS ?_
 refine AW.seq ?_
 refine AW.rS ?_
 refine AW.block ?_
 refine AW.pre (St.le.nilcell 2 4 1 (by (simp only [go_sem, seval]; try (simp (disch := omega) only [zq]; try (simp only [go_sem, seval]; try (simp (disch := omega) only [zq]; try simp only [go_sem, seval])))); exact rfl) (by exact rfl)) ?_
 refine wk ?_
 refine AW.pre (St.le.nilcell 2 5 6 (by (simp only [go_sem, seval]; try (simp (disch := omega) only [zq]; try (simp only [go_sem, seval]; try (simp (disch := omega) only [zq]; try simp only [go_sem, seval])))); exact rfl) (by exact rfl)) ?_
 refine wk ?_
 refine AW.lk (S := { i : Nat // i ≤ o.kids.length }) [1, 2, 3, 4, 5, 18, 19] (fun s_ => [(20, .int .i64 s_.1)]) (fun s_ => [(0, .cells o.cells), (1, .cells [.int .i64 0, .int .i64 0, .int .i64 0, .str [], .raw (.slice none 0 0), .raw (.slice none 0 0)]), (2, .cells [.int .i64 o.kind, .int .i64 o.num, .int .i64 o.gen, .str o.str, .row 3 0 (spK ks o s_.1).length, .row 4 0 (spL ks o s_.1).length]), (3, .row 1 (strsAV (spK ks o s_.1)) true), (4, .row 6 (objsAV (spL ks o s_.1)) true)]) 5 (fun s_ => o.kids.length - s_.1) ⟨0, Nat.zero_le _⟩ ?_ ?_
 ·refine St.le.vx [0, 1, 2, 3, 4] ?_; rw [(sp_zero o).1, (sp_zero o).2] <;> exact ⟨rfl, rfl, rfl⟩
 rintro ⟨i, hi⟩
 try dsimp only at hi
 refine AW.rS ?_
 refine AW.seq ?_
 refine AW.c2 ?_ ?_
 ·intro h9
  have hkb := Pob.bulk_kid (o := o) (i := i) (by omega)
  have hsl := sp_len (u := ks) o i
  have hkc : chk (o.kids.getD i Pob.null) (d + 1) = 0 := hkk _ (by rw [List.getD_eq_getElem?_getD, List.getElem?_eq_getElem h9]; exact List.getElem_mem _)
  refine AW.skip ?_
  refine AW.seq ?_
  refine AW.block ?_
  refine AW.rS ?_
  refine AW.seq ?_
  refine AW.rS ?_
  refine AW.c2 ?_ ?_
  ·intro h16
   have hkl : o.keys.length = o.kids.length := hkv.resolve_left (fun e => by rw [e] at h16; simp at h16)
   have hkn : o.keys ≠ [] := fun e => by rw [e] at h16; simp at h16
   refine AW.seq ?_
   refine AW.fS [0, 1, 2, 3, 4, 5] [(6, 2)] ?_
   refine awFun.rn ?_
   rw [Aw.awFun_nil]
   refine awPlan.rn ?_
   refine awPlan.only rfl ?_
   refine awGuard.lkC keyOk_str false zero_vb (mres_key _ _) ?_
   refine awPlan.rn ?_
   refine AW.c2 ?_ ?_
   ·intro h24
    have hsk := sp_skip h9 hkv hkn h24
    refine AW.exit ?_
    refine AW.rL ?_
    refine ⟨⟨i + 1, by omega⟩, ?_, ?_⟩
    ·refine St.le.vx [0, 1, 2, 3, 4] ?_
     rw [hsk.1, hsk.2] <;> exact ⟨rfl, rfl, rfl⟩
    ·simp only []; omega
   ·intro h24
    have hsk := sp_keep h9 hkv hkn h24
    refine AW.skip ?_
    refine AW.fL [0, 1, 2, 3, 4, 5, 6, 7] [(8, 2), (9, 2), (10, 2)] ?_
    refine awFun.rn ?_
    refine awFun.bs [42] ?_
    refine awFun.rn ?_
    rw [Aw.awFun_nil]
    refine awPlan.rn ?_
    refine AW.fL [0, 1, 2, 3, 4, 5] [(6, 2), (7, 2), (8, 2)] ?_
    refine awFun.rn ?_
    refine awFun.c1 [48, 49] (ih (o.kids.getD i Pob.null) (d + 1) (by omega) hkc) ?_
    refine awFun.rn ?_
    refine awFun.bs [50] ?_
    refine awFun.rn ?_
    rw [Aw.awFun_nil]
    refine awPlan.rn ?_
    refine AW.rL ?_
    refine ⟨⟨i + 1, by omega⟩, ?_, ?_⟩
    ·refine St.le.vx [0, 1, 2, 6, 7] ?_
     rw [hsk.1, hsk.2]; exact ⟨by rw [List.length_append, List.length_append]; rfl, rfl, rfl⟩
    ·simp only []; omega
  ·intro h16
   have hkn : o.keys = [] := List.eq_nil_of_length_eq_zero (by omega)
   have hsk := sp_plain (u := ks) h9 hkn
   refine AW.skip ?_
   refine AW.fL [0, 1, 2, 3, 4, 5] [(6, 2), (7, 2), (8, 2)] ?_
   refine awFun.rn ?_
   refine awFun.c1 [48, 49] (ih (o.kids.getD i Pob.null) (d + 1) (by omega) hkc) ?_
   refine awFun.rn ?_
   refine awFun.bs [50] ?_
   refine awFun.rn ?_
   rw [Aw.awFun_nil]
   refine awPlan.rn ?_
   refine AW.rL ?_
   refine ⟨⟨i + 1, by omega⟩, ?_, ?_⟩
   ·refine St.le.vx [0, 1, 2, 3, 6] ?_
    rw [hsk.1, hsk.2]; exact ⟨by rw [List.length_append]; rfl, rfl, rfl⟩
   ·simp only []; omega
 ·intro h9
  refine AW.exit ?_
  obtain rfl : i = o.kids.length := by omega
  refine AW.rS ?_
  refine AW.rt ?_
  rw [sp_end o] <;> rfl
theorem strip1_all (gl : List (Nat × AV)) (ks : List (List UInt8)) : ∀ (n : Nat), n ≤ 16777000 → ∀ (o : Pob) (d : Int), o.bulk ≤ n → chk o d = 0 → FnP Tryz.prog gl 62 [.agg o.cells, .tptr [cmapOf AV.str VB (keySet ks)], .tptr [recC 62 [.tptr [cmapOf AV.str VB (keySet ks)]] n]] fun r => r = .ret (.agg (stripO ks o).cells)
 | 0, _, o, d, ho, _ => by have := Pob.bulk_pos o; omega
 | n + 1, hn, o, d, ho, hc => strip1_step gl ks n (by omega) (fun o' d' h1 h2 => strip1_all gl ks n (by omega) o' d' h1 h2) o d ho hc
theorem c_clean_strip (gl : List (Nat × AV)) (ks : List (List UInt8)) (o : Pob) (d : Int) (ho : o.bulk ≤ 16777000) (hc : chk o d = 0) : FnP Tryz.prog (gl) 37 [cmapOf AV.str VB (keySet ks), .agg o.cells] fun r => r = .ret (.agg (stripO ks o).cells) := by
 refine FnP.intro Tryz.func37 rfl rfl (by simp [Tryz.ntmps37]) ?_
 simp only [argEnv, Tryz.ntmps37, Tryz.results37]
 refine AW.rS ?_
 refine AW.rS ?_
 refine AW.rS ?_
 refine AW.rSC ?_
 refine awOps.cons (awGuard.cR 16777000 (strip1_all _ ks 16777000 (Nat.le_refl _) o d ho hc) ?_)
 refine awOps.rn ?_
 refine AW.rt ?_
 all_goals first | contradiction | rfl | (simp; done) | (simp; omega)
theorem c_clean_Strip (gl : List (Nat × AV)) (ks : List (List UInt8)) (o : Pob) (ho : o.bulk ≤ 16777000 := by first | omega | exact u8_le _ | assumption | (simp; done) | (simp; omega)) (hl : ks.length ≤ 16777216 := by first | omega | exact u8_le _ | assumption | (simp; done) | (simp; omega)) : FnP Tryz.prog (gl) 11 [.agg o.cells, .sl (strsAV ks)] fun r => r = .ret (.agg (if chk o 1 = 0 then stripO ks o else o).cells) := by
 refine FnP.intro Tryz.func11 rfl rfl (by simp [Tryz.ntmps11]) ?_
 simp only [argEnv, Tryz.ntmps11, Tryz.results11]
 refine AW.rS ?_
 refine AW.seq ?_
 refine AW.rSC ?_
 refine awOps.cons (awGuard.c1 (c_value_Check _ o (by omega)) ?_)
 refine awOps.rn ?_
 refine AW.c2 ?_ ?_
 ·intro h6
  refine AW.rSC ?_
  refine awOps.cons (awGuard.c1 (c_value_Clone _ o (by omega)) ?_)
  refine awOps.rn ?_
  refine AW.rt ?_
  rw [if_neg h6]
 ·intro h6
  refine AW.skip ?_
  refine AW.tG (σf := ?sf3) (.take 0 0 (.fork 1 (.fork 2 (.fork 3 (.fork 4 .done .stop) .stop) .stop) (.fork 2 (.fork 1 (.fork 3 (.fork 4 .done .stop) .stop) .stop) .stop))) ?tree3 ?rest3
  case tree3 =>
   refine awTree.tk ?_
   refine awTree.fH rfl (awGuard.cHm [] (h_clean_set _ ks) ?_) ?_
   ·refine awTree.fA ?_ ?_
    ·refine awTree.fC (c_clean_strip _ ks o 1 (by omega) h6) ?_ ?_
     ·refine awTree.fA ?_ ?_
      ·exact awTree.dn
      ·exact trivial
     ·exact trivial
    ·exact trivial
   ·refine awTree.fA ?_ ?_
    ·refine awTree.fH rfl (awGuard.cHm [] (h_clean_set _ ks) ?_) ?_
     ·refine awTree.fC (c_clean_strip _ ks o 1 (by omega) h6) ?_ ?_
      ·refine awTree.fA ?_ ?_
       ·exact awTree.dn
       ·exact trivial
      ·exact trivial
     ·exact trivial
    ·exact trivial
  case rest3 =>
  skip
  skip
  skip
  skip
  refine AW.rt ?_
  rw [if_pos h6]
  all_goals first | contradiction | rfl | (simp; done) | (simp; omega)
end Go.Proofs

namespace Aw
open Go
set_option linter.unusedVariables false
def firstI (p : Itm → Bool) (l : List Itm) : Int := if l.findIdx p < l.length then (l.findIdx p : Int) else -1
theorem getD_zero {l : List Itm} {i : Nat} (h : i < l.length) : l.getD i Itm.zero = l[i] := by simp [List.getD, h]
theorem firstI_hit {p : Itm → Bool} {l : List Itm} {i : Nat} (h : i < l.length) (hs : ∀ j, j < i → p (l.getD j Itm.zero) = false) (hp : p (l.getD i Itm.zero) = true) : firstI p l = i := by
 have : l.findIdx p = i := by
  rw [List.findIdx_eq h]
  refine ⟨by rw [← getD_zero h]; exact hp, fun j hj => ?_⟩
  have := hs j hj
  rw [getD_zero (Nat.lt_trans hj h)] at this
  simpa using this
 simp [firstI, this, h]
theorem firstI_miss {p : Itm → Bool} {l : List Itm} (hs : ∀ j, j < l.length → p (l.getD j Itm.zero) = false) : firstI p l = -1 := by
 have : ¬ l.findIdx p < l.length := by
  intro h
  have h2 : p l[l.findIdx p] = true := List.findIdx_getElem (w := h)
  have := hs _ h
  rw [getD_zero h, h2] at this
  cases this
 simp [firstI, this]
theorem firstI_cases (p : Itm → Bool) (l : List Itm) : (firstI p l = -1 ∧ ∀ x ∈ l, p x = false) ∨ ∃ i : Nat, firstI p l = i ∧ i < l.length ∧ (∀ j, j < i → p (l.getD j Itm.zero) = false) ∧ p (l.getD i Itm.zero) = true := by
 by_cases h : l.findIdx p < l.length
 ·refine .inr ⟨l.findIdx p, by simp [firstI, h], h, fun j hj => ?_, ?_⟩
  ·rw [getD_zero (Nat.lt_trans hj h)]
   simpa using List.not_of_lt_findIdx hj
  ·rw [getD_zero h]
   exact List.findIdx_getElem (w := h)
 ·refine .inl ⟨by simp [firstI, h], fun x hx => ?_⟩
  have h2 : l.findIdx p = l.length := by have := List.findIdx_le_length (xs := l) (p := p); omega
  exact (List.findIdx_eq_length.1 h2) x hx
/-- the list while it is worked upon: 'i' are kept, up to 'j' it is done -/
def delJ (p : Itm → Bool) (l cur : List Itm) (i j : Nat) : Prop := cur.length = l.length ∧ i ≤ j ∧ j ≤ l.length ∧ cur.take i = (l.take j).filter (fun x => !p x) ∧ cur.drop j = l.drop j
theorem delJ_top {p : Itm → Bool} {l : List Itm} {i : Nat} (h : i < l.length) (hs : ∀ j, j < i → p (l.getD j Itm.zero) = false) (hp : p (l.getD i Itm.zero) = true) : delJ p l l i (i + 1) := by
 refine ⟨rfl, by omega, by omega, ?_, rfl⟩
 rw [List.take_succ_eq_append_getElem h, List.filter_append, List.filter_cons, ← getD_zero h]
 have e : (l.take i).filter (fun x => !p x) = l.take i := List.filter_eq_self.2 fun x hx => by
  obtain ⟨k, hk, rfl⟩ := List.getElem_of_mem hx
  simp only [List.length_take] at hk
  have := hs k (by omega)
  rw [getD_zero (by omega)] at this
  simpa using this
 rw [e, hp]
 simp
theorem delJ_at {p : Itm → Bool} {l cur : List Itm} {i j : Nat} (h : delJ p l cur i j) (hj : j < l.length) : cur.getD j Itm.zero = l.getD j Itm.zero := by
 obtain ⟨h1, h2, h3, h4, h5⟩ := h
 have := congrArg List.head? h5
 rw [List.head?_drop, List.head?_drop] at this
 rw [List.getD_eq_getElem?_getD, List.getD_eq_getElem?_getD, this]
theorem delJ_skip {p : Itm → Bool} {l cur : List Itm} {i j : Nat} (h : delJ p l cur i j) (hj : j < l.length) (hp : p (l.getD j Itm.zero) = true) : delJ p l cur i (j + 1) := by
 obtain ⟨h1, h2, h3, h4, h5⟩ := h
 refine ⟨h1, by omega, by omega, ?_, ?_⟩
 ·rw [h4, List.take_succ_eq_append_getElem hj, List.filter_append, List.filter_cons, ← getD_zero hj, hp]
  simp
 ·rw [← List.drop_drop, h5, List.drop_drop]
theorem delJ_keep {p : Itm → Bool} {l cur : List Itm} {i j : Nat} (h : delJ p l cur i j) (hj : j < l.length) (hi : i < j) (hp : p (l.getD j Itm.zero) = false) : delJ p l (cur.set i (l.getD j Itm.zero)) (i + 1) (j + 1) := by
 obtain ⟨h1, h2, h3, h4, h5⟩ := h
 refine ⟨by rw [List.length_set]; exact h1, by omega, by omega, ?_, ?_⟩
 ·have hic : i < (cur.set i (l.getD j Itm.zero)).length := by rw [List.length_set]; omega
  rw [List.take_succ_eq_append_getElem hic, List.take_succ_eq_append_getElem hj, List.filter_append, ← h4, List.filter_cons, ← getD_zero hj, List.take_set_of_le (Nat.le_refl i), hp]
  simp
 ·rw [List.drop_set_of_lt (by omega), ← List.drop_drop, h5, List.drop_drop]
theorem delJ_end {p : Itm → Bool} {l cur : List Itm} {i j : Nat} (h : delJ p l cur i j) (hj : ¬ j < l.length) : cur.take i = l.filter (fun x => !p x) := by
 obtain ⟨h1, h2, h3, h4, h5⟩ := h
 rw [h4, List.take_of_length_le (by omega)]
def goneP (R : List Int) (x : Itm) : Bool := !decide (x.num ∈ R)
theorem goneP_filter (R : List Int) (l : List Itm) : l.filter (fun x => !goneP R x) = l.filter fun i => decide (i.num ∈ R) := by
 simp [goneP]
end Aw

namespace Go.Proofs
open Go Aw
set_option linter.unusedSimpArgs false
set_option linter.unusedVariables false
set_option maxRecDepth 100000
set_option maxHeartbeats 2000000
attribute [local go_sem] take_itemsAV app_itemsAV itemsAV_length
attribute [local go_sem ↓ high] noTBm_nums renHp_cons noTHm_cons
theorem take_splice {α : Type} {sp zs : List α} {i : Nat} (h : i ≤ sp.length) : List.take i (splice sp i zs) = sp.take i := by
 simp only [splice, List.append_assoc]
 rw [List.take_append_of_le_length (by rw [List.length_take]; omega), List.take_take, Nat.min_self]
theorem c_clean_Doc_1 (gl : List (Nat × AV)) (R : List Int) (i : Itm) : FnP Tryz.prog (gl) 45 [.agg i.cells, .tptr [cmapOf (AV.int .i64) VB (keySet R)]] fun r => r = .ret (.bool (goneP R i)) := by
 refine FnP.intro Tryz.func45 rfl rfl (by simp [Tryz.ntmps45]) ?_
 simp only [argEnv, Tryz.ntmps45, Tryz.results45]
 refine AW.rS ?_
 refine AW.rSC ?_
 refine awOps.cons ?_
 refine awGuard.lkC (keyOk_int .i64) false zero_vb (mres_key _ _) ?_
 refine awOps.rn ?_
 refine AW.rt ?_
 all_goals first | contradiction | rfl | (simp; done) | (simp; omega)
theorem h_IndexFunc_gone (gl : List (Nat × AV)) (R : List Int) (l : List Itm) (hl : l.length ≤ 16777216 := by first | omega | exact u8_le _ | assumption | (simp; done) | (simp; omega)) : FnH Tryz.prog (gl) 70 [.row 0 0 l.length, .clos 45 [.ptr 1 0]] ([(0, .row 8 (itemsAV l) true), (1, .cells [.map 2]), (2, mapOf (AV.int .i64) VB (keySet R))]) 3 (fun r h n => r = .ret (.int .i64 (firstI (goneP R) l)) ∧ h = [(0, .row 8 (itemsAV l) true), (1, .cells [.map 2]), (2, mapOf (AV.int .i64) VB (keySet R))] ∧ n = 3) := by
 refine FnH.intro Tryz.func70 rfl rfl (by simp [Tryz.ntmps70]) ?_
 simp only [argEnv, Tryz.ntmps70, Tryz.results70]
 refine AW.rS ?_
 refine AW.seq ?_
 refine AW.rS ?_
 refine AW.block ?_
 refine AW.lk (S := { i : Nat // i ≤ l.length ∧ ∀ j, j < i → goneP R (l.getD j Itm.zero) = false }) [0, 1, 7] (fun s_ => [(8, .int .i64 s_.1)]) (fun s_ => [(0, .row 8 (itemsAV l) true), (1, .cells [.map 2]), (2, mapOf (AV.int .i64) VB (keySet R))]) 3 (fun s_ => l.length - s_.1) ⟨0, Nat.zero_le _, fun j h => absurd h (by omega)⟩ ?_ ?_
 ·refine St.le.vw [0, 1, 2] (hpre := lt3)
 rintro ⟨i, hi, hs⟩
 try dsimp only at hi
 try dsimp only at hs
 refine AW.rS ?_
 refine AW.seq ?_
 refine AW.c2 ?_ ?_
 ·intro h8
  refine AW.skip ?_
  refine AW.seq ?_
  refine AW.block ?_
  refine AW.rS ?_
  refine AW.rSC ?_
  refine awOps.cons (awGuard.c1 (c_clean_Doc_1 _ R (l.getD i Itm.zero)) ?_)
  refine awOps.rn ?_
  refine AW.c2 ?_ ?_
  ·intro h16
   refine AW.rS ?_
   refine AW.rt ?_
   rw [firstI_hit h8 hs h16]
  ·intro h16
   refine AW.skip ?_
   refine AW.rL ?_
   refine ⟨⟨i + 1, by omega, fun j hj => (Nat.lt_or_ge j i).elim (hs j) (fun h => (show j = i by omega) ▸ (by simpa using h16))⟩, ?_, ?_⟩
   ·refine St.le.vw [0, 1, 2] (hpre := lt3)
   ·simp only []; omega
 ·intro h8
  refine AW.exit ?_
  refine AW.rS ?_
  refine AW.rt ?_
  rw [firstI_miss (fun j hj => hs j (by omega))]
theorem h_DeleteFunc_gone (gl : List (Nat × AV)) (R : List Int) (l : List Itm) (hl : l.length ≤ 16777216 := by first | omega | exact u8_le _ | assumption | (simp; done) | (simp; omega)) : FnH Tryz.prog (gl) 44 [.row 0 0 l.length, .clos 45 [.ptr 1 0]] ([(0, .row 8 (itemsAV l) true), (1, .cells [.map 2]), (2, mapOf (AV.int .i64) VB (keySet R))]) 3 (fun r h n => r = .ret (.row 0 0 (l.filter fun x => !goneP R x).length) ∧ h = [(0, .row 8 (itemsAV (l.filter fun x => !goneP R x)) true), (1, .cells [.map 2]), (2, mapOf (AV.int .i64) VB (keySet R))] ∧ n = 3) := by
 refine FnH.intro Tryz.func44 rfl rfl (by simp [Tryz.ntmps44]) ?_
 simp only [argEnv, Tryz.ntmps44, Tryz.results44]
 refine AW.rS ?_
 refine AW.rSC ?_
 refine awOps.cons (awGuard.cHm [0, 1, 2] (h_IndexFunc_gone _ R l) ?_)
 refine awOps.rn ?_
 refine AW.seq ?_
 refine AW.rS ?_
 refine AW.c2 ?_ ?_
 ·intro h7
  have hall : ∀ x ∈ l, goneP R x = false := ((firstI_cases (goneP R) l).resolve_right (by rintro ⟨i, e, _⟩; omega)).2
  have hfl : l.filter (fun x => !goneP R x) = l := List.filter_eq_self.2 fun x hx => by rw [hall x hx] <;> rfl
  refine AW.rS ?_
  refine AW.rt ?_
  rw [hfl]
  exact ⟨rfl, rfl⟩
 ·intro h7
  rcases firstI_cases (goneP R) l with ⟨e, _⟩ | ⟨i0, e, hi0, hs0, hp0⟩
  ·exact absurd e h7
  rw [e]
  refine AW.skip ?_
  refine AW.seq ?_
  refine AW.rS ?_
  refine AW.block ?_
  refine AW.lk (S := { p : List Itm × Nat × Nat // delJ (goneP R) l p.1 p.2.1 p.2.2 ∧ p.2.1 < p.2.2 }) [0, 1] (fun s_ => [(5, .int .i64 s_.1.2.1), (6, .int .i64 s_.1.2.2)]) (fun s_ => [(0, .row 8 (itemsAV s_.1.1) true), (1, .cells [.map 2]), (2, mapOf (AV.int .i64) VB (keySet R))]) 3 (fun s_ => l.length - s_.1.2.2) ⟨(l, i0, i0 + 1), delJ_top hi0 hs0 hp0, Nat.lt_succ_self _⟩ ?_ ?_
  ·refine St.le.vw [0, 1, 2] (hpre := lt3)
  rintro ⟨⟨cur, i, j⟩, hd, hij⟩
  try dsimp only at hd
  try dsimp only at hij
  have hcl := hd.1
  have hjb := hd.2.2.1
  refine AW.seq ?_
  refine AW.rS ?_
  refine AW.c2 ?_ ?_
  ·intro h18
   have hjl : j < l.length := by omega
   have hat := delJ_at hd hjl
   refine AW.skip ?_
   refine AW.seq ?_
   refine AW.block ?_
   refine AW.rS ?_
   refine AW.rSC ?_
   refine awOps.cons (awGuard.c1 (c_clean_Doc_1 _ R (cur.getD j Itm.zero)) ?_)
   refine awOps.rn ?_
   refine AW.c2 ?_ ?_
   ·intro h26
    have hk := delJ_keep hd hjl hij (by rw [← hat]; simpa using h26)
    refine AW.rS ?_
    refine AW.rL ?_
    refine AW.rL ?_
    refine ⟨⟨(cur.set i (l.getD j Itm.zero), i + 1, j + 1), hk, by dsimp only; omega⟩, ?_, ?_⟩
    ·refine St.le.vx [0, 1, 2] (hpre := lt3) ?_; rw [itemsAV_set', hat] <;> exact ⟨rfl, rfl⟩
    ·simp only []; omega
   ·intro h26
    have hk := delJ_skip hd hjl (by rw [← hat]; simpa using h26)
    refine AW.skip ?_
    refine AW.rL ?_
    refine ⟨⟨(cur, i, j + 1), hk, by dsimp only; omega⟩, ?_, ?_⟩
    ·refine St.le.vw [0, 1, 2] (hpre := lt3)
    ·simp only []; omega
  ·intro h18
   refine AW.exit ?_
   have hend := delJ_end hd (by omega)
   refine AW.tf 0 (fun sp hsp hse => ?_)
   rw [itemsAV_length, hcl] at hsp hse
   have hij2 : i ≤ l.length := by omega
   refine AW.rSC ?_
   refine awOps.cons ?_
   refine awGuard.fcr ?_ ?_
   ·first | omega | (simp; done) | (simp; omega)
   refine awOps.rn ?_
   refine AW.uf 0 i ?_
   refine AW.rS ?_
   refine AW.rt ?_
   have hi2 : (l.filter fun x => !goneP R x).length = i := by
    rw [← hend, List.length_take]
    omega
   have ht : ∀ zs : List (List AV), List.take i (splice sp i zs) = itemsAV (l.filter fun x => !goneP R x) := fun zs => by
    rw [take_splice (by omega), ← hend, ← take_itemsAV, ← hse, List.take_take, Nat.min_eq_left hij2]
   rw [ht, hi2]
   exact ⟨rfl, rfl⟩
end Go.Proofs

namespace Go.Proofs
open Go Aw
set_option linter.unusedSimpArgs false
set_option linter.unusedVariables false
set_option maxRecDepth 100000
set_option maxHeartbeats 4000000

theorem noTL_cells (z : Pob) : noTL z.cells = true := by cases z; rfl
theorem h_maps_Keys (gl : List (Nat × AV)) (s : List Int) : FnH Tryz.prog (gl) 116 [.map 0] ([(0, setOf (fun n => AV.int .i64 n) s)]) 1 (fun r h n => r = .ret (.clos 123 [.ptr 1 0]) ∧ h = [(0, setOf (fun n => AV.int .i64 n) s), (1, .cells [.map 0])] ∧ n = 2) := by
 refine FnH.intro Tryz.func116 rfl rfl (by simp [Tryz.ntmps116]) ?_
 simp only [argEnv, Tryz.ntmps116, Tryz.results116]
 refine AW.rS ?_
 refine AW.rS ?_
 refine AW.rt ?_
 all_goals first | contradiction | rfl | (simp; done) | (simp; omega)
end Go.Proofs

namespace Go.Proofs
open Go.RowKit Go.Maps Go.Sort Go.Shelf
def Tryz.lays189_ren : Go.Shelf.Ren := ⟨fun | 189 => 122 | 125 => 129 | 257 => 128 | 128 => 139 | 129 => 140 | 294 => 130 | 295 => 131 | 296 => 132 | 297 => 133 | 298 => 134 | 299 => 135 | 216 => 136 | 300 => 137 | 301 => 138 | 328 => 141 | 329 => 142 | 330 => 143 | 331 => 144 | 332 => 145 | 215 => 146 | 343 => 147 | n => n, fun | 28 => 41 | 3 => 3 | 46 => 101 | 0 => 0 | 51 => 141 | 53 => 143 | 4 => 4 | 183 => 134 | 182 => 133 | 131 => 80 | 5 => 5 | 9 => 9 | 218 => 144 | 222 => 148 | 228 => 150 | 229 => 151 | n => n, fun | n => n⟩
theorem Tryz.lays189 : Go.Proofs.Lays.n189 Tryz.prog Tryz.lays189_ren := {
 mixed := by kernel_rfl
 f125 := Tryz.func129.trans (congrArg some (by kernel_rfl))
 f128 := Tryz.func139.trans (congrArg some (by kernel_rfl))
 f129 := Tryz.func140.trans (congrArg some (by kernel_rfl))
 f189 := Tryz.func122.trans (congrArg some (by kernel_rfl))
 f215 := Tryz.func146.trans (congrArg some (by kernel_rfl))
 f216 := Tryz.func136.trans (congrArg some (by kernel_rfl))
 f257 := Tryz.func128.trans (congrArg some (by kernel_rfl))
 f294 := Tryz.func130.trans (congrArg some (by kernel_rfl))
 f295 := Tryz.func131.trans (congrArg some (by kernel_rfl))
 f296 := Tryz.func132.trans (congrArg some (by kernel_rfl))
 f297 := Tryz.func133.trans (congrArg some (by kernel_rfl))
 f298 := Tryz.func134.trans (congrArg some (by kernel_rfl))
 f299 := Tryz.func135.trans (congrArg some (by kernel_rfl))
 f300 := Tryz.func137.trans (congrArg some (by kernel_rfl))
 f301 := Tryz.func138.trans (congrArg some (by kernel_rfl))
 f328 := Tryz.func141.trans (congrArg some (by kernel_rfl))
 f329 := Tryz.func142.trans (congrArg some (by kernel_rfl))
 f330 := Tryz.func143.trans (congrArg some (by kernel_rfl))
 f331 := Tryz.func144.trans (congrArg some (by kernel_rfl))
 f332 := Tryz.func145.trans (congrArg some (by kernel_rfl))
 f343 := Tryz.func147.trans (congrArg some (by kernel_rfl))
 t0 := Tryz.underlying0
 a0 := Tryz.isAgg0
 z0 := Tryz.sizeOf0
 v0 := Tryz.zeroValue0
 t3 := Tryz.underlying3
 a3 := Tryz.isAgg3
 z3 := Tryz.sizeOf3
 v3 := Tryz.zeroValue3
 t4 := Tryz.underlying4
 a4 := Tryz.isAgg4
 z4 := Tryz.sizeOf4
 v4 := Tryz.zeroValue4
 t5 := Tryz.underlying5
 a5 := Tryz.isAgg5
 z5 := Tryz.sizeOf5
 v5 := Tryz.zeroValue5
 t9 := Tryz.underlying9
 a9 := Tryz.isAgg9
 z9 := Tryz.sizeOf9
 v9 := Tryz.zeroValue9
 t28 := Tryz.underlying41
 a28 := Tryz.isAgg41
 z28 := Tryz.sizeOf41
 v28 := Tryz.zeroValue41
 t46 := Tryz.underlying101
 a46 := Tryz.isAgg101
 z46 := Tryz.sizeOf101
 v46 := Tryz.zeroValue101
 t51 := Tryz.underlying141
 a51 := Tryz.isAgg141
 z51 := Tryz.sizeOf141
 v51 := Tryz.zeroValue141
 t53 := Tryz.underlying143
 a53 := Tryz.isAgg143
 z53 := Tryz.sizeOf143
 v53 := Tryz.zeroValue143
 t131 := Tryz.underlying80
 a131 := Tryz.isAgg80
 z131 := Tryz.sizeOf80
 v131 := Tryz.zeroValue80
 t182 := Tryz.underlying133
 a182 := Tryz.isAgg133
 z182 := Tryz.sizeOf133
 v182 := Tryz.zeroValue133
 t183 := Tryz.underlying134
 a183 := Tryz.isAgg134
 z183 := Tryz.sizeOf134
 v183 := Tryz.zeroValue134
 t218 := Tryz.underlying144
 a218 := Tryz.isAgg144
 z218 := Tryz.sizeOf144
 v218 := Tryz.zeroValue144
 t222 := Tryz.underlying148
 a222 := Tryz.isAgg148
 z222 := Tryz.sizeOf148
 v222 := Tryz.zeroValue148
 t228 := Tryz.underlying150
 a228 := Tryz.isAgg150
 z228 := Tryz.sizeOf150
 v228 := Tryz.zeroValue150
 t229 := Tryz.underlying151
 a229 := Tryz.isAgg151
 z229 := Tryz.sizeOf151
 v229 := Tryz.zeroValue151 }
open Go.Sort Go.RowKit in
theorem Tryz.slices_Sort_int (blk off cap : Nat) (zs : List Int) (w : World) (hH : Holds (Value.int .i64) w blk off zs.toArray) (hblk : blk < w.heap.size) (hsz : zs.length < 4611686018427387904) :
  Calls Tryz.prog 122 #[.slice (some ⟨blk, off, none⟩) zs.length cap] w fun e w' =>
   e = .returned (.tuple #[]) ∧ ∃ n os, w' = grow (putRow (Value.int .i64) (Sort.ahead w n) blk off (zs.mergeSort fun x y => decide (x ≤ y)).toArray) os := Any.slices_Sort_int Tryz.lays189 blk off cap zs w hH hblk hsz
theorem Tryz.slices_Sort_int_none (p : Option Addr) (cap : Nat) (w : World) :
  Calls Tryz.prog 122 #[.slice p 0 cap] w fun e w' => e = .returned (.tuple #[]) ∧ w' = w := Any.slices_Sort_int_none Tryz.lays189 p cap w
def Tryz.keysA_ren : Go.Shelf.Ren := ⟨fun | 7 => 116 | 10 => 123 | n => n, fun | 23 => 65 | 26 => 3 | 3 => 4 | 28 => 119 | 0 => 0 | 27 => 118 | 33 => 127 | 4 => 4 | n => n, fun n => n⟩
def Tryz.sortedA_ren : Go.Shelf.Ren := ⟨fun | 6 => 115 | 8 => 121 | 9 => 122 | 11 => 127 | 13 => 129 | 12 => 128 | 23 => 139 | 24 => 140 | 14 => 130 | 15 => 131 | 16 => 132 | 17 => 133 | 18 => 134 | 19 => 135 | 20 => 136 | 21 => 137 | 22 => 138 | 25 => 141 | 26 => 142 | 27 => 143 | 28 => 144 | 29 => 145 | 30 => 146 | 31 => 147 | n => n, fun | 26 => 3 | 28 => 119 | 24 => 41 | 0 => 0 | 3 => 3 | 37 => 101 | 48 => 141 | 50 => 143 | 4 => 4 | 40 => 134 | 39 => 133 | 45 => 80 | 5 => 5 | 9 => 9 | 51 => 144 | 55 => 148 | 57 => 150 | 58 => 151 | 33 => 127 | n => n, fun n => n⟩
theorem Tryz.keysA : SlLaysZI.n7 Tryz.prog Tryz.keysA_ren := {
 mixed := by kernel_rfl
 f7 := ⟨"maps.Keys[map[int]bool,int,bool]", by decide, Tryz.func116.trans (congrArg some (by kernel_rfl))⟩
 f10 := ⟨"maps.Keys[map[int]bool,int,bool]$1", by decide, Tryz.func123.trans (congrArg some (by kernel_rfl))⟩
 t0 := Tryz.underlying0
 a0 := Tryz.isAgg0
 z0 := Tryz.sizeOf0
 v0 := Tryz.zeroValue0
 t4 := Tryz.underlying4
 a4 := Tryz.isAgg4
 z4 := Tryz.sizeOf4
 v4 := Tryz.zeroValue4
 t23 := Tryz.underlying65
 a23 := Tryz.isAgg65
 z23 := Tryz.sizeOf65
 v23 := Tryz.zeroValue65
 t26 := Tryz.underlying3
 a26 := Tryz.isAgg3
 z26 := Tryz.sizeOf3
 v26 := Tryz.zeroValue3
 t27 := Tryz.underlying118
 a27 := Tryz.isAgg118
 z27 := Tryz.sizeOf118
 v27 := Tryz.zeroValue118
 t28 := Tryz.underlying119
 a28 := Tryz.isAgg119
 z28 := Tryz.sizeOf119
 v28 := Tryz.zeroValue119
 t33 := Tryz.underlying127
 a33 := Tryz.isAgg127
 z33 := Tryz.sizeOf127
 v33 := Tryz.zeroValue127 }
theorem Tryz.sortedA : SlLaysZI.n6 Tryz.prog Tryz.sortedA_ren := {
 mixed := by kernel_rfl
 f6 := ⟨"slices.Sorted[int]", by decide, Tryz.func115.trans (congrArg some (by kernel_rfl))⟩
 f8 := ⟨"slices.Collect[int]", by decide, Tryz.func121.trans (congrArg some (by kernel_rfl))⟩
 f11 := ⟨"slices.AppendSeq[[]int,int]", by decide, Tryz.func127.trans (congrArg some (by kernel_rfl))⟩
 t0 := Tryz.underlying0
 a0 := Tryz.isAgg0
 z0 := Tryz.sizeOf0
 v0 := Tryz.zeroValue0
 t24 := Tryz.underlying41
 a24 := Tryz.isAgg41
 z24 := Tryz.sizeOf41
 v24 := Tryz.zeroValue41
 t26 := Tryz.underlying3
 a26 := Tryz.isAgg3
 z26 := Tryz.sizeOf3
 v26 := Tryz.zeroValue3
 t28 := Tryz.underlying119
 a28 := Tryz.isAgg119
 z28 := Tryz.sizeOf119
 v28 := Tryz.zeroValue119
 i26 := by kernel_rfl }

/-- slices.Sort at int: what slices.Sorted asks for -/
theorem Tryz.sortsA (m : Nat) : AnyZI.SortsIn Tryz.prog Tryz.sortedA_ren Fence.wide m :=
 ⟨fun blk off cap ss W hH hblk hsz => callsIn_wide.2 (Tryz.slices_Sort_int blk off cap ss W hH hblk hsz),
  fun p cap W => callsIn_wide.2 (Tryz.slices_Sort_int_none p cap W)⟩
/-- slices.Sorted(maps.Keys(m)): the second call -/
theorem Tryz.sortedKeys {H : Type} (bm b nn : Nat) (D0 : DataW H) (R : Value → Option (DataW H × List MemPlace)) (w : World) (hbm : bm < w.heap.size) (hm : w.cell? ⟨bm, 0, none⟩ = some (.map (some b))) (hown : w.ownsMap Tryz.prog 3 R b nn D0) (hmax : Maps.size D0 ≤ maxLen) (hbytes : Maps.size D0 * 8 ≤ 140737488355328) :
  Calls Tryz.prog 115 #[.func (.func 123) #[] #[.pointer (some ⟨bm, 0, none⟩)]] w fun e w' => ∃ (v : Value) (ss : List Int), e = .returned v ∧ ss.Perm (intKeys D0) ∧
   w'.ownsRow w.heap.size 3 1 v ss.length ((ss.mergeSort (fun x y => decide (x ≤ y))).map encZ) ∧ (v = .slice none 0 0 ↔ ss = []) ∧ Below w.heap.size w w' := by
 have hseq : SeqGives Fence.wide 2 Tryz.prog 123 #[.pointer (some ⟨bm, 0, none⟩)] encZ (fun ss => ss.Perm (intKeys D0)) (Maps.size D0) w :=
  AnyZI.keys_gives (ρ := Tryz.keysA_ren) { Tryz.keysA with } Fence.wide _ trivial rfl (by omega) bm b nn D0 _ hbm hm hown
 have cS := AnyZI.sorted_in Tryz.sortedA Fence.wide 5 trivial trivial trivial trivial rfl (by omega) (Tryz.sortsA _) (enters_of Tryz.func122 (by kernel_rfl) rfl) 123 #[.pointer (some ⟨bm, 0, none⟩)] trivial (enters_of Tryz.func123 (by kernel_rfl) rfl) _ _ hmax hbytes _ hseq
 exact callsIn_wide.1 cS
end Go.Proofs

namespace Go.Proofs
open Go Aw Go.WideElems Go.Maps Go.RowKit
set_option linter.unusedSimpArgs false
set_option linter.unusedVariables false
set_option maxRecDepth 100000
set_option maxHeartbeats 4000000

def intV : Value → Int
 | .int _ n => n
 | _ => 0
theorem set_owns {m : Mem} {ri : RI} {s : List Int} (hb : BlkRep m ri (setOf (fun n => AV.int .i64 n) s)) (hwf : ∀ x ∈ s, (Lit.int .i64 x).wf = true) (hl : s.length ≤ 16777216) :
  ∃ D0 : DataW Unit, m.w.ownsMap Tryz.prog 3 (plainElem Tryz.prog 4) ri.b s.length D0 ∧ (intKeys D0).Perm s ∧ Maps.size D0 = s.length := by
 obtain ⟨h1, h2, h3, es, clock, h4, h5, h6, h7⟩ := set_blk (keyOk_int .i64) hb
 have hlen : es.size = s.length := by
  have := congrArg List.length h5
  simpa using this
 have hkey : ∀ x ∈ es.toList, x.key = .int .i64 (intV x.key) ∧ (Lit.int .i64 (intV x.key)).wf = true := by
  intro x hx
  have : x.key ∈ s.map (fun n : Int => Value.int .i64 n) := by rw [← h5]; exact List.mem_map_of_mem hx
  obtain ⟨n, hn, e⟩ := List.mem_map.1 this
  rw [← e]
  exact ⟨rfl, hwf n hn⟩
 have hval : ∀ x ∈ es.toList, x.val = .bool true := by
  intro x hx
  have : x.val ∈ s.map (fun _ : Int => Value.bool true) := by rw [← h6]; exact List.mem_map_of_mem hx
  obtain ⟨n, hn, e⟩ := List.mem_map.1 this
  exact e.symm
 have hrd : ∀ x ∈ es.toList, rd Tryz.prog 3 (plainElem (H := Unit) Tryz.prog 4) x = some (.int .i64 (intV x.key), .lit (.bool true)) := by
  intro x hx
  obtain ⟨k1, k2⟩ := hkey x hx
  have hk : keyOf Tryz.prog 3 x.key = some (.int .i64 (intV x.key)) := by
   generalize intV x.key = n at k1 k2
   rw [k1]
   simp [keyOf, Tryz.underlying3, mapKey, k2]
  have hv : plainElem (H := Unit) Tryz.prog 4 x.val = some (.lit (.bool true), []) := by rw [hval x hx]; exact plainElem_bool Tryz.underlying4 true
  exact rd_mk (born := x.born) hk hv
 refine ⟨.map ((es.toList.map (rg Tryz.prog 3 (plainElem Tryz.prog 4))).foldr DataW.insert []), ⟨es, clock, h4, ⟨by rw [hlen]; simp only [maxLen]; omega, h7, fun x hx => ⟨_, hrd x hx⟩⟩, by rw [hlen]; exact Nat.le_refl _, rfl⟩, ?_, ?_⟩
 ·simp only [intKeys]
  refine ((Go.WideShapes.sorted_perm _).map _).trans ?_
  rw [List.map_map]
  have : es.toList.map ((fun p : Lit × DataW Unit => Go.intOf p.1) ∘ rg Tryz.prog 3 (plainElem Tryz.prog 4)) = s := by
   have e1 : es.toList.map ((fun p : Lit × DataW Unit => Go.intOf p.1) ∘ rg Tryz.prog 3 (plainElem Tryz.prog 4)) = (es.toList.map (·.key)).map intV := by
    rw [List.map_map]
    refine List.map_congr_left fun x hx => ?_
    simp only [Function.comp, rg_of (hrd x hx), Go.intOf]
   rw [e1, h5, List.map_map]
   have : (intV ∘ fun n : Int => Value.int .i64 n) = id := rfl
   rw [this, List.map_id]
  rw [this]
 ·simp only [Maps.size, length_sorted, List.length_map]
  simpa using hlen
end Go.Proofs

namespace Go.Proofs
open Go Aw
set_option linter.unusedSimpArgs false
set_option linter.unusedVariables false
set_option maxRecDepth 100000
set_option maxHeartbeats 2000000
theorem noTL_VI : ∀ l : List (Int × Itm), noTL (l.map fun p => VI p.2) = true
 | [] => rfl
 | p :: l => by simp only [List.map_cons, noTL, VI, noT, Itm.cells, Bool.and_self, Bool.true_and]; exact noTL_VI l
theorem noTL_KI : ∀ l : List (Int × Itm), noTL (l.map fun p => KI p.1) = true
 | [] => rfl
 | p :: l => by simp only [List.map_cons, noTL, noT, Bool.true_and]; exact noTL_KI l
theorem noTBm_net (l : List (Int × Itm)) : noTBm (mapOf KI VI l) = true := by simp only [mapOf, noTBm, noTL_VI, noTL_KI, Bool.and_self]
attribute [local go_sem ↓ high] noTBm_net
attribute [local go_sem] mres netL_nil VI leadI leadB
theorem c_graph_leads (gl : List (Nat × AV)) (l : List Itm) (o : Pob) : FnP Tryz.prog (gl) 118 [cmapOf KI VI (netL l), .agg o.cells] fun r => r = .ret (.tup [.agg (leadI l o).cells, .bool (leadB l o)]) := by
 refine FnP.intro Tryz.func118 rfl rfl (by simp [Tryz.ntmps118]) ?_
 simp only [argEnv, Tryz.ntmps118, Tryz.results118]
 refine AW.rS ?_
 refine AW.rSC ?_
 refine awOps.cons ?_
 refine awGuard.lkC (keyOk_int .i64) Itm.zero zero_itm rfl ?_
 refine awOps.rn ?_
 refine AW.sS [0, 1, 2, 3, 4, 5, 6, 7, 8] 9 [(10, 2)] [(0, .cells o.cells), (1, .cells (leadI l o).cells), (2, .cells (leadI l o).cells)] ?_
 refine awFunE.p ?_
 refine awFunE.p ?_
 refine awFunE.p ?_
 refine awFunE.p ?_
 refine awFunE.p ?_
 refine awFunE.p ?_
 refine awFunE.p ?_
 refine awFunE.p ?_
 refine awFunE.p ?_
 rw [Aw.awFunE_nil]
 refine ⟨EffAt.of [4, 15], ?_⟩
 refine awPlan.rn ?_
 refine AW.rt ?_
 simp only [Bool.cond_false_right]; rfl
theorem h_graph_refs (gl : List (Nat × AV)) (o : Pob) : FnH Tryz.prog (gl) 117 [.agg o.cells] ([]) 0 (fun r h n => r = .ret (.clos 124 [.ptr 0 0]) ∧ h = [(0, .cells o.cells)] ∧ n = 1) := by
 refine FnH.intro Tryz.func117 rfl rfl (by simp [Tryz.ntmps117]) ?_
 simp only [argEnv, Tryz.ntmps117, Tryz.results117]
 refine AW.rS ?_
 refine AW.rS ?_
 refine AW.rt ?_
 all_goals first | contradiction | rfl | (simp; done) | (simp; omega)
theorem h_graph_of (gl : List (Nat × AV)) (d : Dc) (hv : docE d = 0) (h : d.bulk ≤ 16777216) : FnH Tryz.prog (gl) 102 [.agg d.cells] ([]) 0 (fun r h n => r = .ret (.tup [.map 0, .bool true]) ∧ h = [(0, mapOf KI VI (netL d.items))] ∧ n = 1) := by
 refine FnH.intro Tryz.func102 rfl rfl (by simp [Tryz.ntmps102]) ?_
 simp only [argEnv, Tryz.ntmps102, Tryz.results102]
 have hs := items_incr (docE_items hv)
 have hb : d.bulk = ibulk d.items + d.trailer.bulk := rfl
 have hl := ibulk_len d.items
 refine AW.rS ?_
 refine AW.seq ?_
 refine AW.rSC ?_
 refine awOps.cons (awGuard.c1 (c_docs_Check _ d h) ?_)
 refine awOps.rn ?_
 refine AW.c2 ?_ ?_
 ·intro h6
  exact absurd hv h6
 ·intro h6
  refine AW.skip ?_
  refine AW.rSC ?_
  refine awOps.cons ?_
  refine awGuard.mkM VI (keyOk_int .i64) ?_
  refine awOps.rn ?_
  refine AW.seq ?_
  refine AW.rS ?_
  refine AW.block ?_
  refine AW.lk (S := { k : Nat // k ≤ d.items.length }) [4, 15, 16] (fun s_ => [(17, .int .i64 s_.1)]) (fun s_ => [(0, .cells d.cells), (1, mapOf KI VI (netL (d.items.take s_.1)))]) 2 (fun s_ => d.items.length - s_.1) ⟨0, Nat.zero_le _⟩ ?_ ?_
  ·refine St.le.vw [0, 1]
  rintro ⟨k, hk⟩
  try dsimp only at hk
  refine AW.rS ?_
  refine AW.seq ?_
  refine AW.c2 ?_ ?_
  ·intro h20
   refine AW.skip ?_
   refine AW.seq ?_
   refine AW.block ?_
   refine AW.rS ?_
   refine AW.rLC ?_
   refine awOps.cons ?_
   refine awGuard.upM (keyOk_int .i64) (d.items.getD k Itm.zero) ?_
   refine awOps.rn ?_
   refine AW.rL ?_
   refine ⟨⟨k + 1, by omega⟩, ?_, ?_⟩
   ·refine St.le.vx [0, 1] ?_
    rw [netL_new hs (by omega)]
   ·simp only []; omega
  ·intro h20
   refine AW.exit ?_
   obtain rfl : k = d.items.length := by omega
   rw [List.take_length]
   refine AW.rS ?_
   refine AW.pre (σ' := ⟨27, [(2, .map 0), (3, .bool true)], [(0, mapOf KI VI (netL d.items))], 1, gl, 0, []⟩) (St.le.vw [1]) ?_
   refine AW.rt ?_
   all_goals first | contradiction | rfl | (simp; done) | (simp; omega)
end Go.Proofs

namespace Go.Proofs
open Go Aw
theorem noTL_dcells (z : Dc) : noTL z.cells = true := by cases z; rfl
end Go.Proofs

namespace Go.Proofs
open Go Aw
set_option linter.unusedSimpArgs false
set_option linter.unusedVariables false
set_option maxRecDepth 100000
set_option maxHeartbeats 1000000
attribute [local go_sem ↓ high] noTBm_net
end Go.Proofs

namespace Go.Proofs
open Go Aw
set_option linter.unusedSimpArgs false
set_option linter.unusedVariables false
set_option maxRecDepth 100000
set_option maxHeartbeats 1000000
attribute [local go_sem ↓ high] noTBm_net
end Go.Proofs

namespace Go.Proofs
open Go Aw
set_option linter.unusedSimpArgs false
set_option linter.unusedVariables false
set_option maxRecDepth 100000
set_option maxHeartbeats 1000000
attribute [local go_sem ↓ high] noTBm_net
theorem wr_step (gl : List (Nat × AV)) (l : List Itm) (o0 : Pob) (stp : (List Int × List Pob) → Pob → (List Int × List Pob) × Bool) (c0 : Code) (I : (List Int × List Pob) → Prop) (hI : ∀ s o, I s → I (stp s o).1) (lq : Nat) (rc : Option Code → Loop) {Ω : Mem → Prop} [LastsU Ω]
  (hY : ∀ s o, I s → RoundU Ω Tryz.prog gl lq [.agg (Pob.cells o)] ([(0, .cells [.map 1]), (1, mapOf KI VI (netL l)), (2, .cells [.map 3]), (3, setOf (fun n => AV.int .i64 n) (s).1), (4, .cells [.row 7 0 (s).2.length]), (5, .cells (Pob.cells o0)), (7, .row 6 (objsAV (s).2) true), (6, .lp lq (rc none))]) 8 7 fun r h n => r = .ret (.bool (!(stp s o).2)) ∧ h = [(0, .cells [.map 1]), (1, mapOf KI VI (netL l)), (2, .cells [.map 3]), (3, setOf (fun n => AV.int .i64 n) ((stp s o).1).1), (4, .cells [.row 7 0 ((stp s o).1).2.length]), (5, .cells (Pob.cells o0)), (7, .row 6 (objsAV ((stp s o).1).2) true), (6, .lp lq (rc (if (stp s o).2 then some c0 else none)))] ∧ n = 8)
  (N : Nat) (hN : N ≤ 16777216) (ih : ∀ s (o' : Pob), I s → o'.bulk < N → FnU Ω Tryz.prog gl 125 [.agg (Pob.cells o'), .raw (.func (.yield lq) #[] #[])] ([(0, .cells [.map 1]), (1, mapOf KI VI (netL l)), (2, .cells [.map 3]), (3, setOf (fun n => AV.int .i64 n) (s).1), (4, .cells [.row 7 0 (s).2.length]), (5, .cells (Pob.cells o0)), (7, .row 6 (objsAV (s).2) true), (6, .lp lq (rc none))]) 8 7 (fun r h n => r = .ret (.bool (!(walkR stp s (Pob.pre o')).2)) ∧ h = [(0, .cells [.map 1]), (1, mapOf KI VI (netL l)), (2, .cells [.map 3]), (3, setOf (fun n => AV.int .i64 n) ((walkR stp s (Pob.pre o')).1).1), (4, .cells [.row 7 0 ((walkR stp s (Pob.pre o')).1).2.length]), (5, .cells (Pob.cells o0)), (7, .row 6 (objsAV ((walkR stp s (Pob.pre o')).1).2) true), (6, .lp lq (rc (if (walkR stp s (Pob.pre o')).2 then some c0 else none)))] ∧ n = 8))
  (s : (List Int × List Pob)) (hs : I s) (o : Pob) (hl : o.kids.length ≤ 16777216) (hb : ∀ i, i < o.kids.length → (o.kids.getD i Pob.null).bulk < N) :
  FnU Ω Tryz.prog gl 125 [.agg (Pob.cells o), .raw (.func (.yield lq) #[] #[])] ([(0, .cells [.map 1]), (1, mapOf KI VI (netL l)), (2, .cells [.map 3]), (3, setOf (fun n => AV.int .i64 n) (s).1), (4, .cells [.row 7 0 (s).2.length]), (5, .cells (Pob.cells o0)), (7, .row 6 (objsAV (s).2) true), (6, .lp lq (rc none))]) 8 7 (fun r h n => r = .ret (.bool (!(walkR stp s (Pob.pre o)).2)) ∧ h = [(0, .cells [.map 1]), (1, mapOf KI VI (netL l)), (2, .cells [.map 3]), (3, setOf (fun n => AV.int .i64 n) ((walkR stp s (Pob.pre o)).1).1), (4, .cells [.row 7 0 ((walkR stp s (Pob.pre o)).1).2.length]), (5, .cells (Pob.cells o0)), (7, .row 6 (objsAV ((walkR stp s (Pob.pre o)).1).2) true), (6, .lp lq (rc (if (walkR stp s (Pob.pre o)).2 then some c0 else none)))] ∧ n = 8) := by
 have hpre := Pob.pre_eq o
 refine FnU.intro Tryz.func125 rfl rfl (by simp [Tryz.ntmps125]) ?_ ?_
 ·rintro q hp' nx' ⟨rfl, rfl, rfl⟩
  exact ⟨by simp only [↓noTHm_cons, noTHm, ↓noTBm_ints, ↓noTBm_net, noTBm, noTL, noT, noTL_cells, Bool.and_self], _, rfl, rfl⟩
 intro B_
 simp only [argEnv, Tryz.ntmps125, Tryz.results125]
 refine AWT.rS ?_
 refine AWT.seq ?_
 refine AWT.rSC ?_
 by_cases hk : o.kind = 8
 ·have hy := hY s o hs
  cases hst : (stp s o).2
  ·simp only [hst, Bool.not_false, Bool.false_eq_true, if_false] at hy
   have hw_stop : ∀ i, i < o.kids.length → (walkR stp (stp s o).1 (pres (o.kids.take i))).2 = false → (walkR stp (walkR stp (stp s o).1 (pres (o.kids.take i))).1 (o.kids.getD i Pob.null).pre).2 = true → walkR stp s (o :: pres o.kids) = ((walkR stp (walkR stp (stp s o).1 (pres (o.kids.take i))).1 (o.kids.getD i Pob.null).pre).1, true) := fun i hi hg hh => by rw [walkR_go hk hst]; exact walkR_kid hi hg hh
   have hw_end : ∀ i, ¬ i < o.kids.length → (walkR stp (stp s o).1 (pres (o.kids.take i))).2 = false → walkR stp s (o :: pres o.kids) = ((walkR stp (stp s o).1 (pres (o.kids.take i))).1, false) := fun i hi hg => by rw [walkR_go hk hst, ← hg]; rw [List.take_of_length_le (by omega)]
   refine OpsT.cYG [0, 1, 2, 3, 4, 5, 6, 7] hy (hgv := by simp only [go_sem, seval]; simp [hk]) ?_
   refine OpsT.rn ?_
   refine OpsT.nil ?_
   refine AWT.c2 ?_ ?_
   ·intro h
    simp at h
   ·intro _
    refine AWT.skip ?_
    refine AWT.seq ?_
    refine AWT.rS ?_
    refine AWT.block ?_
    refine AWT.lk (S := { i : Nat // i ≤ o.kids.length ∧ (walkR stp (stp s o).1 (pres (o.kids.take i))).2 = false }) [1, 17, 18] (fun s_ => [(19, .int .i64 s_.1)]) (fun s_ => [(0, .cells [.map 1]), (1, mapOf KI VI (netL l)), (2, .cells [.map 3]), (3, setOf (fun n => AV.int .i64 n) ((walkR stp (stp s o).1 (pres (o.kids.take s_.1))).1).1), (4, .cells [.row 7 0 ((walkR stp (stp s o).1 (pres (o.kids.take s_.1))).1).2.length]), (5, .cells (Pob.cells o0)), (7, .row 6 (objsAV ((walkR stp (stp s o).1 (pres (o.kids.take s_.1))).1).2) true), (6, .lp lq (rc none))]) 8 (fun s_ => o.kids.length - s_.1) ⟨0, Nat.zero_le _, by simp [pres_nil, walkR_nil]⟩ ?_ ?_
    ·refine St.le.vx [0, 1, 2, 3, 4, 5, 6, 9] (hpre := (by decide : ∀ i, i < 7 → nth [0, 1, 2, 3, 4, 5, 6, 9] i = some i)) ?_
     simp [pres_nil, walkR_nil]
    rintro ⟨i, hi, hgo⟩
    try dsimp only at hi
    try dsimp only at hgo
    have hsi : I (walkR stp (stp s o).1 (pres (o.kids.take i))).1 := walkR_inv hI _ _ (hI _ _ hs)
    refine AWT.rS ?_
    refine AWT.seq ?_
    refine AWT.c2 ?_ ?_
    ·intro h17
     refine AWT.skip ?_
     refine AWT.seq ?_
     refine AWT.block ?_
     refine AWT.rS ?_
     refine AWT.rSC ?_
     have hc := ih _ (o.kids.getD i Pob.null) hsi (hb i (by omega))
     have htk := pres_take (l := o.kids) (i := i) (by omega)
     cases hst : (walkR stp (walkR stp (stp s o).1 (pres (o.kids.take i))).1 (o.kids.getD i Pob.null).pre).2
     ·simp only [hst, Bool.not_false, Bool.false_eq_true, if_false] at hc
      refine OpsT.cTU [0, 1, 2, 3, 4, 5, 6, 7] hc ?_
      refine OpsT.rn ?_
      refine OpsT.nil ?_
      refine AWT.c2 ?_ ?_
      ·intro h
       simp at h
      ·intro _
       refine AWT.skip ?_
       refine AWT.rL ?_
       have e1 : walkR stp (stp s o).1 (pres (o.kids.take (i + 1))) = ((walkR stp (walkR stp (stp s o).1 (pres (o.kids.take i))).1 (o.kids.getD i Pob.null).pre).1, false) := walkR_more (by omega) hgo hst
       refine ⟨⟨i + 1, by omega, by rw [e1]⟩, ?_, ?_⟩
       ·refine St.le.vx [0, 1, 2, 3, 4, 5, 6, 9] (hpre := (by decide : ∀ i, i < 7 → nth [0, 1, 2, 3, 4, 5, 6, 9] i = some i)) ?_
        rw [e1]
        all_goals simp
       ·simp only []; omega
     ·simp only [hst, Bool.not_true, if_true] at hc
      refine OpsT.cTU [0, 1, 2, 3, 4, 5, 6, 7] hc ?_
      refine OpsT.rn ?_
      refine OpsT.nil ?_
      refine AWT.c2 ?_ ?_
      ·intro h
       refine AWT.rS ?_
       refine AWT.pre (σ' := ⟨28, [(4, .bool false)], [(0, .cells [.map 1]), (1, mapOf KI VI (netL l)), (2, .cells [.map 3]), (3, setOf (fun n => AV.int .i64 n) ((walkR stp (walkR stp (stp s o).1 (pres (o.kids.take i))).1 (o.kids.getD i Pob.null).pre).1).1), (4, .cells [.row 7 0 ((walkR stp (walkR stp (stp s o).1 (pres (o.kids.take i))).1 (o.kids.getD i Pob.null).pre).1).2.length]), (5, .cells (Pob.cells o0)), (7, .row 6 (objsAV ((walkR stp (walkR stp (stp s o).1 (pres (o.kids.take i))).1 (o.kids.getD i Pob.null).pre).1).2) true), (6, .lp lq (rc (some c0)))], 8, gl, 7, []⟩) (St.le.vw [0, 1, 2, 3, 4, 5, 6, 9] (hpre := (by decide : ∀ i, i < 7 → nth [0, 1, 2, 3, 4, 5, 6, 9] i = some i))) ?_
       refine AWT.rt ?_
       have e := hw_stop  i (by omega) hgo hst
       rw [hpre, e]
       simp
      ·intro h
       simp at h
    ·intro h17
     refine AWT.exit ?_
     refine AWT.rS ?_
     refine AWT.pre (σ' := ⟨28, [(4, .bool true)], [(0, .cells [.map 1]), (1, mapOf KI VI (netL l)), (2, .cells [.map 3]), (3, setOf (fun n => AV.int .i64 n) ((walkR stp (stp s o).1 (pres (o.kids.take i))).1).1), (4, .cells [.row 7 0 ((walkR stp (stp s o).1 (pres (o.kids.take i))).1).2.length]), (5, .cells (Pob.cells o0)), (7, .row 6 (objsAV ((walkR stp (stp s o).1 (pres (o.kids.take i))).1).2) true), (6, .lp lq (rc none))], 8, gl, 7, []⟩) (St.le.vw [0, 1, 2, 3, 4, 5, 6, 7] (hpre := (by decide : ∀ i, i < 7 → nth [0, 1, 2, 3, 4, 5, 6, 7] i = some i))) ?_
     refine AWT.rt ?_
     have e := hw_end i (by omega) hgo
     rw [hpre, e]
     simp
  ·simp only [hst, Bool.not_true, if_true] at hy
   refine OpsT.cYG [0, 1, 2, 3, 4, 5, 6, 7] hy (hgv := by simp only [go_sem, seval]; simp [hk]) ?_
   refine OpsT.rn ?_
   refine OpsT.nil ?_
   refine AWT.c2 ?_ ?_
   ·intro h
    refine AWT.rS ?_
    refine AWT.pre (σ' := ⟨28, [(4, .bool false)], [(0, .cells [.map 1]), (1, mapOf KI VI (netL l)), (2, .cells [.map 3]), (3, setOf (fun n => AV.int .i64 n) ((stp s o).1).1), (4, .cells [.row 7 0 ((stp s o).1).2.length]), (5, .cells (Pob.cells o0)), (7, .row 6 (objsAV ((stp s o).1).2) true), (6, .lp lq (rc (some c0)))], 8, gl, 7, []⟩) (St.le.vw [0, 1, 2, 3, 4, 5, 6, 9] (hpre := (by decide : ∀ i, i < 7 → nth [0, 1, 2, 3, 4, 5, 6, 9] i = some i))) ?_
    refine AWT.rt ?_
    rw [hpre, walkR_stop hk hst]
    simp
   ·intro h
    simp [hk] at h
 ·skip
  have hw_stop : ∀ i, i < o.kids.length → (walkR stp s (pres (o.kids.take i))).2 = false → (walkR stp (walkR stp s (pres (o.kids.take i))).1 (o.kids.getD i Pob.null).pre).2 = true → walkR stp s (o :: pres o.kids) = ((walkR stp (walkR stp s (pres (o.kids.take i))).1 (o.kids.getD i Pob.null).pre).1, true) := fun i hi hg hh => by rw [walkR_no hk]; exact walkR_kid hi hg hh
  have hw_end : ∀ i, ¬ i < o.kids.length → (walkR stp s (pres (o.kids.take i))).2 = false → walkR stp s (o :: pres o.kids) = ((walkR stp s (pres (o.kids.take i))).1, false) := fun i hi hg => by rw [walkR_no hk, ← hg]; rw [List.take_of_length_le (by omega)]
  refine OpsT.gN (.bool true) ?_ (hgv := by simp only [go_sem, seval]; simp [hk])
  refine OpsT.rn ?_
  refine OpsT.nil ?_
  refine AWT.c2 ?_ ?_
  ·intro h
   simp [hk] at h
  ·intro _
   refine AWT.skip ?_
   refine AWT.seq ?_
   refine AWT.rS ?_
   refine AWT.block ?_
   refine AWT.lk (S := { i : Nat // i ≤ o.kids.length ∧ (walkR stp s (pres (o.kids.take i))).2 = false }) [1, 17, 18] (fun s_ => [(19, .int .i64 s_.1)]) (fun s_ => [(0, .cells [.map 1]), (1, mapOf KI VI (netL l)), (2, .cells [.map 3]), (3, setOf (fun n => AV.int .i64 n) ((walkR stp s (pres (o.kids.take s_.1))).1).1), (4, .cells [.row 7 0 ((walkR stp s (pres (o.kids.take s_.1))).1).2.length]), (5, .cells (Pob.cells o0)), (7, .row 6 (objsAV ((walkR stp s (pres (o.kids.take s_.1))).1).2) true), (6, .lp lq (rc none))]) 8 (fun s_ => o.kids.length - s_.1) ⟨0, Nat.zero_le _, by simp [pres_nil, walkR_nil]⟩ ?_ ?_
   ·refine St.le.vx [0, 1, 2, 3, 4, 5, 6, 7] (hpre := (by decide : ∀ i, i < 7 → nth [0, 1, 2, 3, 4, 5, 6, 7] i = some i)) ?_
    simp [pres_nil, walkR_nil]
   rintro ⟨i, hi, hgo⟩
   try dsimp only at hi
   try dsimp only at hgo
   have hsi : I (walkR stp s (pres (o.kids.take i))).1 := walkR_inv hI _ _ hs
   refine AWT.rS ?_
   refine AWT.seq ?_
   refine AWT.c2 ?_ ?_
   ·intro h17
    refine AWT.skip ?_
    refine AWT.seq ?_
    refine AWT.block ?_
    refine AWT.rS ?_
    refine AWT.rSC ?_
    have hc := ih _ (o.kids.getD i Pob.null) hsi (hb i (by omega))
    have htk := pres_take (l := o.kids) (i := i) (by omega)
    cases hst : (walkR stp (walkR stp s (pres (o.kids.take i))).1 (o.kids.getD i Pob.null).pre).2
    ·simp only [hst, Bool.not_false, Bool.false_eq_true, if_false] at hc
     refine OpsT.cTU [0, 1, 2, 3, 4, 5, 6, 7] hc ?_
     refine OpsT.rn ?_
     refine OpsT.nil ?_
     refine AWT.c2 ?_ ?_
     ·intro h
      simp at h
     ·intro _
      refine AWT.skip ?_
      refine AWT.rL ?_
      have e1 : walkR stp s (pres (o.kids.take (i + 1))) = ((walkR stp (walkR stp s (pres (o.kids.take i))).1 (o.kids.getD i Pob.null).pre).1, false) := walkR_more (by omega) hgo hst
      refine ⟨⟨i + 1, by omega, by rw [e1]⟩, ?_, ?_⟩
      ·refine St.le.vx [0, 1, 2, 3, 4, 5, 6, 9] (hpre := (by decide : ∀ i, i < 7 → nth [0, 1, 2, 3, 4, 5, 6, 9] i = some i)) ?_
       rw [e1]
       all_goals simp
      ·simp only []; omega
    ·simp only [hst, Bool.not_true, if_true] at hc
     refine OpsT.cTU [0, 1, 2, 3, 4, 5, 6, 7] hc ?_
     refine OpsT.rn ?_
     refine OpsT.nil ?_
     refine AWT.c2 ?_ ?_
     ·intro h
      refine AWT.rS ?_
      refine AWT.pre (σ' := ⟨28, [(4, .bool false)], [(0, .cells [.map 1]), (1, mapOf KI VI (netL l)), (2, .cells [.map 3]), (3, setOf (fun n => AV.int .i64 n) ((walkR stp (walkR stp s (pres (o.kids.take i))).1 (o.kids.getD i Pob.null).pre).1).1), (4, .cells [.row 7 0 ((walkR stp (walkR stp s (pres (o.kids.take i))).1 (o.kids.getD i Pob.null).pre).1).2.length]), (5, .cells (Pob.cells o0)), (7, .row 6 (objsAV ((walkR stp (walkR stp s (pres (o.kids.take i))).1 (o.kids.getD i Pob.null).pre).1).2) true), (6, .lp lq (rc (some c0)))], 8, gl, 7, []⟩) (St.le.vw [0, 1, 2, 3, 4, 5, 6, 9] (hpre := (by decide : ∀ i, i < 7 → nth [0, 1, 2, 3, 4, 5, 6, 9] i = some i))) ?_
      refine AWT.rt ?_
      have e := hw_stop  i (by omega) hgo hst
      rw [hpre, e]
      simp
     ·intro h
      simp at h
   ·intro h17
    refine AWT.exit ?_
    refine AWT.rS ?_
    refine AWT.pre (σ' := ⟨28, [(4, .bool true)], [(0, .cells [.map 1]), (1, mapOf KI VI (netL l)), (2, .cells [.map 3]), (3, setOf (fun n => AV.int .i64 n) ((walkR stp s (pres (o.kids.take i))).1).1), (4, .cells [.row 7 0 ((walkR stp s (pres (o.kids.take i))).1).2.length]), (5, .cells (Pob.cells o0)), (7, .row 6 (objsAV ((walkR stp s (pres (o.kids.take i))).1).2) true), (6, .lp lq (rc none))], 8, gl, 7, []⟩) (St.le.vw [0, 1, 2, 3, 4, 5, 6, 7] (hpre := (by decide : ∀ i, i < 7 → nth [0, 1, 2, 3, 4, 5, 6, 7] i = some i))) ?_
    refine AWT.rt ?_
    have e := hw_end i (by omega) hgo
    rw [hpre, e]
    simp
theorem wr_all (gl : List (Nat × AV)) (l : List Itm) (o0 : Pob) (stp : (List Int × List Pob) → Pob → (List Int × List Pob) × Bool) (c0 : Code) (I : (List Int × List Pob) → Prop) (hI : ∀ s o, I s → I (stp s o).1) (lq : Nat) (rc : Option Code → Loop) {Ω : Mem → Prop} [LastsU Ω]
  (hY : ∀ s o, I s → RoundU Ω Tryz.prog gl lq [.agg (Pob.cells o)] ([(0, .cells [.map 1]), (1, mapOf KI VI (netL l)), (2, .cells [.map 3]), (3, setOf (fun n => AV.int .i64 n) (s).1), (4, .cells [.row 7 0 (s).2.length]), (5, .cells (Pob.cells o0)), (7, .row 6 (objsAV (s).2) true), (6, .lp lq (rc none))]) 8 7 fun r h n => r = .ret (.bool (!(stp s o).2)) ∧ h = [(0, .cells [.map 1]), (1, mapOf KI VI (netL l)), (2, .cells [.map 3]), (3, setOf (fun n => AV.int .i64 n) ((stp s o).1).1), (4, .cells [.row 7 0 ((stp s o).1).2.length]), (5, .cells (Pob.cells o0)), (7, .row 6 (objsAV ((stp s o).1).2) true), (6, .lp lq (rc (if (stp s o).2 then some c0 else none)))] ∧ n = 8) (N : Nat) :
  N ≤ 16777216 → ∀ s (o : Pob), I s → o.bulk ≤ N → FnU Ω Tryz.prog gl 125 [.agg (Pob.cells o), .raw (.func (.yield lq) #[] #[])] ([(0, .cells [.map 1]), (1, mapOf KI VI (netL l)), (2, .cells [.map 3]), (3, setOf (fun n => AV.int .i64 n) (s).1), (4, .cells [.row 7 0 (s).2.length]), (5, .cells (Pob.cells o0)), (7, .row 6 (objsAV (s).2) true), (6, .lp lq (rc none))]) 8 7 (fun r h n => r = .ret (.bool (!(walkR stp s (Pob.pre o)).2)) ∧ h = [(0, .cells [.map 1]), (1, mapOf KI VI (netL l)), (2, .cells [.map 3]), (3, setOf (fun n => AV.int .i64 n) ((walkR stp s (Pob.pre o)).1).1), (4, .cells [.row 7 0 ((walkR stp s (Pob.pre o)).1).2.length]), (5, .cells (Pob.cells o0)), (7, .row 6 (objsAV ((walkR stp s (Pob.pre o)).1).2) true), (6, .lp lq (rc (if (walkR stp s (Pob.pre o)).2 then some c0 else none)))] ∧ n = 8) := by
 induction N using Nat.strongRecOn with
 | ind N IH =>
  intro hN s o hs ho
  have hb := Pob.bulk_eq o
  exact wr_step gl l o0 stp c0 I hI lq rc hY N hN (fun s o' hs h => IH o'.bulk h (by omega) s o' hs (Nat.le_refl _)) s hs o (by omega) (fun i hi => Nat.lt_of_lt_of_le (Pob.bulk_kid hi) ho)

theorem wr_refs (gl : List (Nat × AV)) (l : List Itm) (o0 : Pob) (stp : (List Int × List Pob) → Pob → (List Int × List Pob) × Bool) (c0 : Code) (I : (List Int × List Pob) → Prop) (hI : ∀ s o, I s → I (stp s o).1) (lq : Nat) (rc : Option Code → Loop) {Ω : Mem → Prop} [LastsU Ω]
  (hY : ∀ s o, I s → RoundU Ω Tryz.prog gl lq [.agg (Pob.cells o)] ([(0, .cells [.map 1]), (1, mapOf KI VI (netL l)), (2, .cells [.map 3]), (3, setOf (fun n => AV.int .i64 n) (s).1), (4, .cells [.row 7 0 (s).2.length]), (5, .cells (Pob.cells o0)), (7, .row 6 (objsAV (s).2) true), (6, .lp lq (rc none))]) 8 7 fun r h n => r = .ret (.bool (!(stp s o).2)) ∧ h = [(0, .cells [.map 1]), (1, mapOf KI VI (netL l)), (2, .cells [.map 3]), (3, setOf (fun n => AV.int .i64 n) ((stp s o).1).1), (4, .cells [.row 7 0 ((stp s o).1).2.length]), (5, .cells (Pob.cells o0)), (7, .row 6 (objsAV ((stp s o).1).2) true), (6, .lp lq (rc (if (stp s o).2 then some c0 else none)))] ∧ n = 8)
  (s : (List Int × List Pob)) (hs : I s) (h : (Pob.bulk o0) ≤ 16777216) : FnU Ω Tryz.prog gl 124 [.raw (.func (.yield lq) #[] #[]), .ptr 5 0] ([(0, .cells [.map 1]), (1, mapOf KI VI (netL l)), (2, .cells [.map 3]), (3, setOf (fun n => AV.int .i64 n) (s).1), (4, .cells [.row 7 0 (s).2.length]), (5, .cells (Pob.cells o0)), (7, .row 6 (objsAV (s).2) true), (6, .lp lq (rc none))]) 8 7 (fun r h n => r = .ret (.tup []) ∧ h = [(0, .cells [.map 1]), (1, mapOf KI VI (netL l)), (2, .cells [.map 3]), (3, setOf (fun n => AV.int .i64 n) ((walkR stp s (Pob.pre o0)).1).1), (4, .cells [.row 7 0 ((walkR stp s (Pob.pre o0)).1).2.length]), (5, .cells (Pob.cells o0)), (7, .row 6 (objsAV ((walkR stp s (Pob.pre o0)).1).2) true), (6, .lp lq (rc (if (walkR stp s (Pob.pre o0)).2 then some c0 else none)))] ∧ n = 8) := by
 refine FnU.intro Tryz.func124 rfl rfl (by simp [Tryz.ntmps124]) ?_ ?_
 ·rintro q hp' nx' ⟨rfl, rfl, rfl⟩
  exact ⟨by simp only [↓noTHm_cons, noTHm, ↓noTBm_ints, ↓noTBm_net, noTBm, noTL, noT, noTL_cells, noTL_dcells, Bool.and_self], _, rfl, rfl⟩
 intro B_
 simp only [argEnv, Tryz.ntmps124, Tryz.results124]
 refine AWT.post ?_
 refine AWT.rLC ?_
 refine OpsT.cTU [0, 1, 2, 3, 4, 5, 6, 7] (wr_all gl l o0 stp c0 I hI lq rc hY 16777216 (Nat.le_refl _) s o0 hs h) ?_
 refine OpsT.rn ?_
 refine OpsT.nil ?_
 refine ⟨rfl, ⟨6, [], [(0, .cells [.map 1]), (1, mapOf KI VI (netL l)), (2, .cells [.map 3]), (3, setOf (fun n => AV.int .i64 n) ((walkR stp s (Pob.pre o0)).1).1), (4, .cells [.row 7 0 ((walkR stp s (Pob.pre o0)).1).2.length]), (5, .cells (Pob.cells o0)), (7, .row 6 (objsAV ((walkR stp s (Pob.pre o0)).1).2) true), (6, .lp lq (rc (if (walkR stp s (Pob.pre o0)).2 then some c0 else none)))], 8, gl, 7, []⟩, (St.le.vw [0, 1, 2, 3, 4, 5, 6, 8] (hpre := (by decide : ∀ i, i < 7 → nth [0, 1, 2, 3, 4, 5, 6, 8] i = some i))), ?_⟩
 refine wk ?_
 all_goals first | contradiction | rfl | (simp; done) | (simp; omega)

end Go.Proofs

namespace Go.Proofs
open Go Aw
set_option linter.unusedSimpArgs false
set_option linter.unusedVariables false
set_option maxRecDepth 100000
set_option maxHeartbeats 1000000
attribute [local go_sem ↓ high] noTBm_net
attribute [local go_sem] mres netL_nil
end Go.Proofs
