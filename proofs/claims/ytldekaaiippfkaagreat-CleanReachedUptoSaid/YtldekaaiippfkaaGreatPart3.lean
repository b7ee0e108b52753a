/- A part of the proof: no condition of its own. -/
import Derived.Test.YtldekaaiippfkaaGreatPart2
namespace Aw
open Go
def reachB (l : List Itm) (m : List Int) (r : Pob) : Bool := leadB l r && !decide ((leadI l r).num ∈ m)
def reachStp (l : List Itm) (s : List Int × List Pob) (r : Pob) : (List Int × List Pob) × Bool :=
 (if reachB l s.1 r then (setAdd s.1 (leadI l r).num, s.2 ++ [(leadI l r).obj]) else s, false)
theorem reach_last (l : List Itm) (s : List Int × List Pob) (o : Pob) : (reachStp l s o).2 = false := rfl
/-- the numbers met so far are numbers of items -/
def reachI (l : List Itm) (s : List Int × List Pob) : Prop := s.1.Nodup ∧ (∀ n ∈ s.1, n ∈ l.map (·.num)) ∧ s.2.length ≤ 1 + s.1.length
theorem nodup_le {α : Type} [DecidableEq α] : ∀ {a b : List α}, a.Nodup → (∀ x ∈ a, x ∈ b) → a.length ≤ b.length
 | [], b, _, _ => by simp
 | x :: a, b, hn, hs => by
  have hx := hs x List.mem_cons_self
  obtain ⟨b1, b2, rfl⟩ := List.append_of_mem hx
  rw [List.nodup_cons] at hn
  have := nodup_le (a := a) (b := b1 ++ b2) hn.2 (fun y hy => by
   have := hs y (List.mem_cons_of_mem _ hy)
   simp only [List.mem_append, List.mem_cons] at this ⊢
   rcases this with h | rfl | h
   ·exact .inl h
   ·exact absurd hy hn.1
   ·exact .inr h)
  simp only [List.length_append, List.length_cons] at this ⊢
  omega
theorem mfind_mem {κ ν : Type} [DecidableEq κ] {l : List (κ × ν)} {k : κ} {v : ν} (h : mfind l k = some v) : (k, v) ∈ l := by
 induction l with
 | nil => simp [mfind] at h
 | cons p l ih =>
  simp only [mfind] at h
  split at h
  ·rename_i e
   injection h with h
   rw [← e, ← h]
   exact List.mem_cons_self
  ·exact List.mem_cons_of_mem _ (ih h)
theorem lead_mem {l : List Itm} {r : Pob} (h : leadB l r = true) : leadI l r ∈ l ∧ (leadI l r).num = r.num ∧ (leadI l r).gen = r.gen := by
 unfold leadB at h
 simp only [Bool.and_eq_true, decide_eq_true_eq] at h
 obtain ⟨v, hv⟩ := Option.isSome_iff_exists.1 h.1
 have hi : leadI l r = v := by unfold leadI; rw [hv] <;> rfl
 have hm := mfind_mem hv
 simp only [netL, List.mem_map, Prod.mk.injEq] at hm
 obtain ⟨i, hi1, e1, rfl⟩ := hm
 rw [hi]
 exact ⟨hi1, e1, by rw [← hi]; exact h.2⟩
theorem reachI_stp {l : List Itm} (s : List Int × List Pob) (o : Pob) (h : reachI l s) : reachI l (reachStp l s o).1 := by
 simp only [reachStp]
 split
 ·rename_i hb
  simp only [reachB, Bool.and_eq_true, Bool.not_eq_true', decide_eq_false_iff_not] at hb
  obtain ⟨h1, h2, h3⟩ := h
  have e : setAdd s.1 (leadI l o).num = s.1 ++ [(leadI l o).num] := by rw [setAdd, if_neg hb.2]
  rw [e]
  refine ⟨?_, ?_, ?_⟩
  ·rw [List.nodup_append]
   refine ⟨h1, by simp, fun x hx y hy => ?_⟩
   simp only [List.mem_singleton] at hy
   subst hy
   intro e
   subst e
   exact hb.2 hx
  ·intro n hn
   rcases List.mem_append.1 hn with hn | hn
   ·exact h2 n hn
   ·simp only [List.mem_singleton] at hn
    subst hn
    exact List.mem_map.2 ⟨_, (lead_mem hb.1).1, rfl⟩
  ·simp only [List.length_append, List.length_cons, List.length_nil]
   omega
 ·exact h
theorem reachI_len {l : List Itm} {s : List Int × List Pob} (h : reachI l s) : s.1.length ≤ l.length ∧ s.2.length ≤ 1 + l.length := by
 have := nodup_le h.1 h.2.1
 simp only [List.length_map] at this
 have := h.2.2
 omega
def reachM (l : List Itm) (s : List Int × List Pob) : Nat := 2 * (l.length - s.1.length) + s.2.length
/-- one more object is looked through -/
def popS (l : List Itm) (s : List Int × List Pob) : List Int × List Pob := (walkR (reachStp l) (s.1, s.2.take (s.2.length - 1)) (s.2.getD (s.2.length - 1) Pob.null).pre).1
theorem pop_inv {l : List Itm} {s : List Int × List Pob} (h : reachI l s) : reachI l (s.1, s.2.take (s.2.length - 1)) :=
 ⟨h.1, h.2.1, by have := h.2.2; simp only [List.length_take]; omega⟩
theorem popS_inv {l : List Itm} {s : List Int × List Pob} (h : reachI l s) : reachI l (popS l s) := walkR_inv (fun s o => reachI_stp s o) _ _ (pop_inv h)
theorem walk_M {l : List Itm} (L : List Pob) (s : List Int × List Pob) (h : reachI l s) : reachM l (walkR (reachStp l) s L).1 ≤ reachM l s := by
 induction L generalizing s with
 | nil => simp [walkR_nil]
 | cons o L ih =>
  rw [walkR_cons]
  split
  ·rw [if_neg (by rw [reach_last]; simp)]
   refine Nat.le_trans (ih _ (reachI_stp s o h)) ?_
   have hl := reachI_len (reachI_stp s o h)
   simp only [reachStp] at hl ⊢
   split
   ·rename_i hb
    rw [if_pos hb] at hl
    simp only [reachB, Bool.and_eq_true, Bool.not_eq_true', decide_eq_false_iff_not] at hb
    have e : setAdd s.1 (leadI l o).num = s.1 ++ [(leadI l o).num] := by rw [setAdd, if_neg hb.2]
    rw [e] at hl ⊢
    simp only [reachM, List.length_append, List.length_cons, List.length_nil] at hl ⊢
    omega
   ·exact Nat.le_refl _
  ·exact ih s h
theorem popS_M {l : List Itm} {s : List Int × List Pob} (h : reachI l s) (hn : 0 < s.2.length) : reachM l (popS l s) < reachM l s := by
 have := walk_M (s.2.getD (s.2.length - 1) Pob.null).pre _ (pop_inv h)
 unfold popS
 refine Nat.lt_of_le_of_lt this ?_
 simp only [reachM, List.length_take]
 omega
def reachF (l : List Itm) : Nat → List Int × List Pob → List Int
 | 0, s => s.1
 | f + 1, s => if 0 < s.2.length then reachF l f (popS l s) else s.1
theorem reachF_more {l : List Itm} : ∀ (f g : Nat) (s : List Int × List Pob), reachI l s → reachM l s ≤ f → reachM l s ≤ g → reachF l f s = reachF l g s
 | f, g, s, hi, hf, hg => by
  by_cases hn : 0 < s.2.length
  ·have hm := popS_M hi hn
   obtain ⟨f', rfl⟩ : ∃ f', f = f' + 1 := ⟨f - 1, by omega⟩
   obtain ⟨g', rfl⟩ : ∃ g', g = g' + 1 := ⟨g - 1, by omega⟩
   simp only [reachF, if_pos hn]
   exact reachF_more f' g' _ (popS_inv hi) (by omega) (by omega)
  ·have e : ∀ h, reachF l h s = s.1 := fun h => by cases h <;> simp [reachF, hn]
   rw [e, e]
/-- the numbers reached from an object, as they are met -/
def reachS (l : List Itm) (o : Pob) : List Int := reachF l (2 * l.length + 1) ([], [o])
theorem reachI_top (l : List Itm) (o : Pob) : reachI l ([], [o]) := ⟨List.nodup_nil, by simp, by simp⟩
def reachJ (l : List Itm) (o : Pob) (s : List Int × List Pob) : Prop := reachI l s ∧ reachF l (reachM l s) s = reachS l o
theorem reachJ_top (l : List Itm) (o : Pob) : reachJ l o ([], [o]) := ⟨reachI_top l o, by
 unfold reachS
 exact reachF_more _ _ _ (reachI_top l o) (Nat.le_refl _) (by simp [reachM])⟩
theorem reachJ_pop {l : List Itm} {o : Pob} {s : List Int × List Pob} (h : reachJ l o s) (hn : 0 < s.2.length) : reachJ l o (popS l s) := by
 refine ⟨popS_inv h.1, ?_⟩
 rw [← h.2]
 have hm := popS_M h.1 hn
 obtain ⟨f, hf⟩ : ∃ f, reachM l s = f + 1 := ⟨reachM l s - 1, by omega⟩
 rw [hf]
 simp only [reachF, if_pos hn]
 exact reachF_more _ _ _ (popS_inv h.1) (Nat.le_refl _) (by omega)
theorem reachJ_end {l : List Itm} {o : Pob} {s : List Int × List Pob} (h : reachJ l o s) (hn : ¬ 0 < s.2.length) : s.1 = reachS l o := by
 rw [← h.2]
 cases reachM l s <;> simp [reachF, hn]
/-- what is still to be looked through is of some size -/
def reachK (k : Nat) (s : List Int × List Pob) : Prop := ∀ p ∈ s.2, p.bulk ≤ k
theorem reachK_stp {l : List Itm} {k : Nat} (hb : ∀ i ∈ l, i.obj.bulk ≤ k) (s : List Int × List Pob) (o : Pob) (h : reachK k s) : reachK k (reachStp l s o).1 := by
 simp only [reachStp]
 split
 ·rename_i hr
  simp only [reachB, Bool.and_eq_true] at hr
  intro p hp
  rcases List.mem_append.1 hp with hp | hp
  ·exact h p hp
  ·simp only [List.mem_singleton] at hp
   subst hp
   exact hb _ (lead_mem hr.1).1
 ·exact h
theorem popK {k : Nat} {s : List Int × List Pob} (h : reachK k s) : reachK k (s.1, s.2.take (s.2.length - 1)) := fun p hp => h p (List.mem_of_mem_take hp)
theorem popS_K {l : List Itm} {k : Nat} (hb : ∀ i ∈ l, i.obj.bulk ≤ k) {s : List Int × List Pob} (h : reachK k s) : reachK k (popS l s) := walkR_inv (fun s o => reachK_stp hb s o) _ _ (popK h)
theorem reachK_at {k : Nat} {s : List Int × List Pob} (h : reachK k s) (hn : 0 < s.2.length) : (s.2.getD (s.2.length - 1) Pob.null).bulk ≤ k := by
 rw [List.getD_eq_getElem?_getD, List.getElem?_eq_getElem (by omega)]
 exact h _ (List.getElem_mem _)
end Aw

namespace Aw
open Go
theorem nums_nodup {l : List Itm} (h : incrN l) : (l.map (·.num)).Nodup := by
 rw [incrN_iff] at h
 unfold List.Nodup
 rw [List.pairwise_map]
 exact h.imp fun h => Int.ne_of_lt h
theorem items_len {d : Dc} (h : docE d = 0) : d.items.length ≤ 8192 := by
 have h1 := nodup_le (nums_nodup (items_incr (docE_items h))) (b := (List.range 8192).map Int.ofNat) (fun x hx => by
  obtain ⟨i, hi, rfl⟩ := List.mem_map.1 hx
  have := items_num h i hi
  exact List.mem_map.2 ⟨i.num.toNat, by rw [List.mem_range]; omega, by show (i.num.toNat : Int) = i.num; omega⟩)
 simpa using h1
theorem items_bulk {d : Dc} {k : Nat} (h : d.bulk ≤ k) : ∀ i ∈ d.items, i.obj.bulk ≤ k := fun i hi =>
 allL_bulk (n := i.num) (List.mem_cons_of_mem _ (List.mem_map.2 ⟨i, hi, rfl⟩)) h
theorem reachF_inv {l : List Itm} : ∀ (f : Nat) (s : List Int × List Pob), reachI l s → (reachF l f s).Nodup ∧ ∀ n ∈ reachF l f s, n ∈ l.map (·.num)
 | 0, s, h => ⟨h.1, h.2.1⟩
 | f + 1, s, h => by
  simp only [reachF]
  split
  ·exact reachF_inv f _ (popS_inv h)
  ·exact ⟨h.1, h.2.1⟩
theorem reachS_inv (l : List Itm) (o : Pob) : (reachS l o).Nodup ∧ ∀ n ∈ reachS l o, n ∈ l.map (·.num) := reachF_inv _ _ (reachI_top l o)
theorem reachS_len (l : List Itm) (o : Pob) : (reachS l o).length ≤ l.length := by
 have := nodup_le (reachS_inv l o).1 (reachS_inv l o).2
 simpa using this
theorem nums_wf {d : Dc} (h : docE d = 0) : ∀ x ∈ d.items.map (·.num), 1 ≤ x ∧ x ≤ 8191 := by
 intro x hx
 obtain ⟨i, hi, rfl⟩ := List.mem_map.1 hx
 exact items_num h i hi
theorem reachS_wf {d : Dc} (h : docE d = 0) (o : Pob) : ∀ x ∈ reachS d.items o, 1 ≤ x ∧ x ≤ 8191 := fun x hx => nums_wf h x ((reachS_inv d.items o).2 x hx)
def fromP (d : Dc) (o : Pob) : List Int := if docE d = 0 ∧ chk o 1 = 0 then sortI (reachS d.items o) else []
/-- the numbers that are not met -/
def lostL (l : List Itm) (met : List Int) : List Int := (l.map (·.num)).filter fun n => !decide (n ∈ met)
def lostP (d : Dc) : List Int := if docE d = 0 then sortI (lostL d.items (reachS d.items d.trailer)) else []
theorem lostL_nodup {l : List Itm} (h : incrN l) (met : List Int) : (lostL l met).Nodup := (nums_nodup h).filter _
end Aw

namespace Aw
open Go
end Aw

set_option linter.unusedVariables false
namespace Aw
open Go
end Aw

set_option linter.unusedVariables false
set_option linter.unusedSimpArgs false
namespace Aw
open Go
theorem idxb_neg : ∀ {s : List UInt8} {c : UInt8}, Lib.indexByte s c < 0 ↔ ∀ i, i < s.length → s.getD i 0 ≠ c
 | [], c => by simp [Lib.indexByte]
 | b :: l, c => by
  have ih := idxb_neg (s := l) (c := c)
  have hg := Lib.indexByte_ge l c
  rw [Lib.indexByte]
  by_cases hb : b = c
  ·rw [if_pos (by simpa using hb)]
   refine ⟨fun h => absurd h (by omega), fun h => absurd (h 0 (by simp)) (by simpa using hb)⟩
  ·rw [if_neg (by simpa using hb)]
   constructor
   ·intro h i hi
    cases i with
    | zero => simpa using hb
    | succ i =>
     have h' : Lib.indexByte l c < 0 := by
      split at h <;> rename_i h1
      ·have h1 : Lib.indexByte l c = -1 := by simpa using h1
       omega
      ·omega
     simpa using ih.1 h' i (by simpa using hi)
   ·intro h
    have h' := ih.2 fun i hi => by simpa using h (i + 1) (by simpa using hi)
    have h2 : Lib.indexByte l c = -1 := by omega
    simp [h2]
theorem nameB_no {s : List UInt8} {i : Nat} (hi : i < s.length) (h : s.getD i 0 = 0) : nameB s = false := by
 have : ¬ Lib.indexByte s 0 < 0 := fun h' => idxb_neg.1 h' i hi h
 simp [nameB, this]
theorem nameB_all {s : List UInt8} (h : ∀ i, i < s.length → s.getD i 0 ≠ 0) : nameB s = decide ((s.length : Int) ≤ 127) := by
 have : Lib.indexByte s 0 < 0 := idxb_neg.2 h
 simp [nameB, this]
/-! a key less -/
/-! a key put -/
/-! numbers in order -/
def nplace (l : List Int) (n : Int) : Nat := l.findIdx (fun x => !decide (x < n))
theorem nplace_eq {l : List Int} {n : Int} {i : Nat} (hi : i ≤ l.length) (h1 : ∀ a, a < i → l.getD a 0 < n) (h2 : i < l.length → ¬ l.getD i 0 < n) : nplace l n = i := by
 unfold nplace
 by_cases h : i < l.length
 ·rw [List.findIdx_eq h]
  have h3 := h2 h
  simp only [List.getD, List.getElem?_eq_getElem h, Option.getD_some] at h3
  refine ⟨by simpa using h3, fun j hj => ?_⟩
  have := h1 j hj
  simp only [List.getD, List.getElem?_eq_getElem (Nat.lt_trans hj h), Option.getD_some] at this
  simp [this]
 ·obtain rfl : i = l.length := by omega
  refine List.findIdx_eq_length.2 ?_
  intro x hx
  obtain ⟨j, hj, rfl⟩ := List.getElem_of_mem hx
  have := h1 j hj
  simp only [List.getD, List.getElem?_eq_getElem hj, Option.getD_some] at this
  simp [this]
def numIns (l : List Int) (n : Int) : List Int := if nplace l n < l.length ∧ l.getD (nplace l n) 0 = n then l else l.take (nplace l n) ++ [n] ++ l.drop (nplace l n)
theorem numIns_spec : ∀ {l : List Int} {n : Int}, l.Pairwise (· < ·) → (numIns l n).Pairwise (· < ·) ∧ ∀ x, x ∈ numIns l n ↔ x ∈ l ∨ x = n
 | [], n, _ => by simp [numIns, nplace]
 | a :: l, n, h => by
  rw [List.pairwise_cons] at h
  by_cases h1 : a < n
  ·have hp : nplace (a :: l) n = nplace l n + 1 := by simp [nplace, List.findIdx_cons, h1]
   have ih := numIns_spec (n := n) h.2
   have he : numIns (a :: l) n = a :: numIns l n := by
    unfold numIns
    rw [hp]
    simp only [List.length_cons, Nat.add_lt_add_iff_right, List.getD_cons_succ, List.take_succ_cons, List.drop_succ_cons, List.cons_append]
    split <;> rfl
   rw [he, List.pairwise_cons]
   refine ⟨⟨fun x hx => ?_, ih.1⟩, fun x => ?_⟩
   ·rcases (ih.2 x).1 hx with h' | rfl
    ·exact h.1 x h'
    ·exact h1
   ·rw [List.mem_cons, ih.2, List.mem_cons, or_assoc]
  ·have hp : nplace (a :: l) n = 0 := by simp [nplace, List.findIdx_cons, h1]
   by_cases h2 : a = n
   ·have he : numIns (a :: l) n = a :: l := by
     unfold numIns
     rw [hp, if_pos ⟨by simp, by simpa using h2⟩]
    rw [he, List.pairwise_cons]
    refine ⟨h, fun x => ⟨fun h' => .inl h', fun h' => h'.elim id fun e => ?_⟩⟩
    rw [e, ← h2]; exact List.mem_cons_self
   ·have he : numIns (a :: l) n = n :: a :: l := by
     unfold numIns
     rw [hp, if_neg (fun h' => h2 (by simpa using h'.2))]
     rfl
    rw [he, List.pairwise_cons, List.pairwise_cons]
    refine ⟨⟨fun x hx => ?_, h⟩, fun x => ?_⟩
    ·rcases List.mem_cons.1 hx with rfl | hx
     ·omega
     ·have := h.1 x hx; omega
    ·rw [List.mem_cons]
     constructor
     ·rintro (rfl | h'); exact .inr rfl; exact .inl h'
     ·rintro (h' | rfl); exact .inr h'; exact .inl rfl
theorem numIns_len (l : List Int) (n : Int) : (numIns l n).length ≤ l.length + 1 := by
 unfold numIns
 split
 ·omega
 ·simp; omega
theorem numIns_fold : ∀ (m l : List Int), l.Pairwise (· < ·) → (m.foldl numIns l).Pairwise (· < ·) ∧ ∀ x, x ∈ m.foldl numIns l ↔ x ∈ l ∨ x ∈ m
 | [], l, h => ⟨h, fun x => by simp⟩
 | n :: m, l, h => by
  obtain ⟨h1, h2⟩ := numIns_spec (n := n) h
  obtain ⟨h3, h4⟩ := numIns_fold m (numIns l n) h1
  refine ⟨h3, fun x => ?_⟩
  rw [List.foldl_cons, h4, h2, List.mem_cons, or_assoc]
def kidR (ks : List Pob) (s : List Int) : List Int := ks.foldl (fun s k => (refsO k).foldl numIns s) s
theorem foldN_succ {l : List Int} {i : Nat} (h : i < l.length) (s : List Int) : (l.take (i + 1)).foldl numIns s = numIns ((l.take i).foldl numIns s) (l.getD i 0) := by
 rw [List.take_add_one, List.foldl_append, List.getElem?_eq_getElem h]
 simp [List.getD, List.getElem?_eq_getElem h]
theorem foldN_len : ∀ (m l : List Int), (m.foldl numIns l).length ≤ l.length + m.length
 | [], l => by simp
 | n :: m, l => by
  have h1 := numIns_len l n
  have h2 := foldN_len m (numIns l n)
  rw [List.foldl_cons, List.length_cons]
  omega
theorem bulks_takele (l : List Pob) (i : Nat) : bulks (l.take i) ≤ bulks l := by
 have := bulks_append (l.take i) (l.drop i)
 rw [List.take_append_drop] at this
 omega
end Aw

namespace Aw
open Go
mutual
/-- foliantref29.Refs -/
def Pob.rr : Pob → List Pob
 | .mk k n g s ks l => if k = 8 then [.mk k n g s ks l] else rrs l
def rrs : List Pob → List Pob
 | [] => []
 | o :: l => o.rr ++ rrs l
end
theorem rr_eq (o : Pob) : o.rr = if o.kind = 8 then [o] else rrs o.kids := by cases o; simp only [Pob.rr, Pob.kind, Pob.kids]; rfl
theorem rrs_append (a b : List Pob) : rrs (a ++ b) = rrs a ++ rrs b := by
 induction a with
 | nil => simp [rrs]
 | cons o a ih => simp [rrs, ih]
theorem rrs_take {l : List Pob} {i : Nat} (h : i < l.length) : rrs (l.take (i + 1)) = rrs (l.take i) ++ (l.getD i Pob.null).rr := by
 rw [List.take_add_one, rrs_append, List.getElem?_eq_getElem h]
 simp [rrs, List.getD, List.getElem?_eq_getElem h]
mutual
theorem rr_len : ∀ o : Pob, o.rr.length ≤ o.bulk
 | .mk k n g s ks l => by
  have := rrs_len l
  simp only [Pob.rr, Pob.bulk]
  split <;> simp <;> omega
theorem rrs_len : ∀ l : List Pob, (rrs l).length ≤ bulks l
 | [] => by simp [rrs]
 | o :: l => by
  have h1 := rr_len o
  have h2 := rrs_len l
  simp only [rrs, List.length_append, bulks]
  omega
end
theorem rrs_take_len (l : List Pob) (i : Nat) : (rrs (l.take i)).length ≤ bulks l := Nat.le_trans (rrs_len _) (bulks_takele l i)
/-- foliantref29.Leads: the first item of the number and generation -/
def leadR (l : List Itm) (r : Pob) : Option Itm := l.find? fun i => decide (i.num = r.num) && decide (i.gen = r.gen)
theorem leadR_hit {l : List Itm} {r : Pob} {i : Nat} (h : i < l.length) (hs : ∀ j, j < i → ¬ ((l.getD j Itm.zero).num = r.num ∧ (l.getD j Itm.zero).gen = r.gen)) (hk : (l.getD i Itm.zero).num = r.num ∧ (l.getD i Itm.zero).gen = r.gen) : leadR l r = some (l.getD i Itm.zero) := by
 unfold leadR
 rw [List.find?_eq_some_iff_getElem]
 have e : ∀ j (hj : j < l.length), l.getD j Itm.zero = l[j] := fun j hj => by simp [List.getD, hj]
 refine ⟨by simpa using hk, i, h, (e i h).symm, fun j hj => ?_⟩
 have := hs j hj
 rw [e j (by omega)] at this
 by_cases h1 : l[j].num = r.num
 ·have h2 : ¬ l[j].gen = r.gen := fun h2 => this ⟨h1, h2⟩
  simp [h1, h2]
 ·simp [h1]
theorem leadR_miss {l : List Itm} {r : Pob} (hs : ∀ j, j < l.length → ¬ ((l.getD j Itm.zero).num = r.num ∧ (l.getD j Itm.zero).gen = r.gen)) : leadR l r = none := by
 unfold leadR
 rw [List.find?_eq_none]
 intro x hx
 obtain ⟨j, hj, rfl⟩ := List.mem_iff_getElem.1 hx
 have := hs j hj
 simp only [List.getD, List.getElem?_eq_getElem hj, Option.getD_some] at this
 simpa using this
theorem any_hit {l : List Int} {n : Int} {i : Nat} (h : i < l.length) (hk : l.getD i 0 = n) : decide (n ∈ l) = true := by
 rw [decide_eq_true_iff]
 rw [← hk]
 simp [List.getD, List.getElem?_eq_getElem h]
theorem any_miss {l : List Int} {n : Int} (hs : ∀ j, j < l.length → l.getD j 0 ≠ n) : decide (n ∈ l) = false := by
 rw [decide_eq_false_iff_not]
 intro hm
 obtain ⟨j, hj, e⟩ := List.mem_iff_getElem.1 hm
 exact hs j hj (by simp [List.getD, List.getElem?_eq_getElem hj, e])
end Aw

namespace Aw
open Go
def usesR (d : Dc) (num : Int) (o : Pob) : Bool := o.rr.any fun x => (leadR d.items x).isSome && decide (((leadR d.items x).getD Itm.zero).num = num)
def userL (d : Dc) (num : Int) (l : List Itm) : List Int := (l.filter fun i => usesR d num i.obj).map (·.num)
def lostI (met : List Int) (l : List Itm) : List Int := (l.filter fun i => !decide (i.num ∈ met)).map (·.num)
def lostR (d : Dc) : List Int := if docE d = 0 then lostI (fromP d d.trailer) d.items else []
def itemsRR (l : List Itm) : List Pob := rrs (l.map (·.obj))
def dangI (d : Dc) (l : List Pob) : List Int := (l.filter fun x => !(leadR d.items x).isSome).map (·.num)
def dangR (d : Dc) : List Int := if docE d = 0 then (dangI d (d.trailer.rr ++ itemsRR d.items)).foldl numIns [] else []
theorem any_take {α : Type} {l : List α} {i : Nat} {d : α} {p : α → Bool} (h : i < l.length) : (l.take (i + 1)).any p = ((l.take i).any p || p (l.getD i d)) := by
 rw [List.take_add_one, List.getElem?_eq_getElem h, List.any_append]
 simp [List.getD, List.getElem?_eq_getElem h]
theorem fm_yes {α β : Type} {l : List α} {i : Nat} {d : α} {p : α → Bool} {f : α → β} (h : i < l.length) (hp : p (l.getD i d) = true) : ((l.take (i + 1)).filter p).map f = ((l.take i).filter p).map f ++ [f (l.getD i d)] := by
 rw [filter_take_yes (d := d) h hp]
 simp
theorem fm_no {α β : Type} {l : List α} {i : Nat} {d : α} {p : α → Bool} {f : α → β} (h : i < l.length) (hp : ¬ p (l.getD i d) = true) : ((l.take (i + 1)).filter p).map f = ((l.take i).filter p).map f := by
 rw [filter_take_no (d := d) h (by simpa using hp)]
theorem fm_len {α β : Type} (l : List α) (i : Nat) (p : α → Bool) (f : α → β) : (((l.take i).filter p).map f).length ≤ i := by
 have h1 := List.length_filter_le p (l.take i)
 simp only [List.length_map, List.length_take] at h1 ⊢
 omega
end Aw

namespace Aw
open Go
def inS (l : List Itm) (s : List Int) (r : Pob) : Prop := ∀ i, leadR l r = some i → i.num ∈ s
/-- a set that holds all that is led to -/
def closedR (l : List Itm) (start : List Pob) (s : List Int) : Prop := (∀ r ∈ start, inS l s r) ∧ ∀ i ∈ l, i.num ∈ s → ∀ r ∈ i.obj.rr, inS l s r
def leastR (l : List Itm) (start : List Pob) (s : List Int) : Prop := closedR l start s ∧ ∀ s', closedR l start s' → ∀ n ∈ s, n ∈ s'
theorem leastR_one {l : List Itm} {start : List Pob} {a b : List Int} (ha : leastR l start a) (hb : leastR l start b) (n : Int) : n ∈ a ↔ n ∈ b := ⟨ha.2 b hb.1 n, hb.2 a ha.1 n⟩
def restR (l : List Itm) (met : List Int) : Nat := ((l.filter fun i => !decide (i.num ∈ met)).map fun i => i.obj.rr.length).sum
theorem restR_cons (x : Itm) (l : List Itm) (met : List Int) : restR (x :: l) met = (if x.num ∈ met then 0 else x.obj.rr.length) + restR l met := by
 unfold restR
 rw [List.filter_cons]
 by_cases h : x.num ∈ met <;> simp [h]
theorem restR_more (l : List Itm) (met : List Int) (n : Int) : restR l (met ++ [n]) ≤ restR l met := by
 induction l with
 | nil => simp [restR]
 | cons x l ih =>
  rw [restR_cons, restR_cons]
  by_cases h : x.num ∈ met
  ·rw [if_pos (List.mem_append_left _ h), if_pos h]
   omega
  ·rw [if_neg h]
   split <;> omega
theorem restR_add {l : List Itm} {met : List Int} {i : Itm} (hi : i ∈ l) (hn : ¬ i.num ∈ met) : restR l (met ++ [i.num]) + i.obj.rr.length ≤ restR l met := by
 induction l with
 | nil => cases hi
 | cons x l ih =>
  rw [restR_cons, restR_cons]
  rcases List.mem_cons.1 hi with rfl | hi
  ·have := restR_more l met i.num
   rw [if_pos (by simp), if_neg hn]
   omega
  ·have := ih hi
   by_cases h : x.num ∈ met
   ·rw [if_pos (List.mem_append_left _ h), if_pos h]
    omega
   ·rw [if_neg h]
    split <;> omega
theorem restR_le (l : List Itm) (met : List Int) : restR l met ≤ ibulk l := by
 induction l with
 | nil => simp [restR]
 | cons x l ih =>
  have := rr_len x.obj
  rw [restR_cons, ibulk_cons]
  split <;> omega
/-- in the midst of the search -/
structure FromJ (l : List Itm) (start : List Pob) (met : List Int) (todo : List Pob) : Prop where
 nd : met.Nodup
 sub : ∀ n ∈ met, n ∈ l.map (·.num)
 st : ∀ r ∈ start, inS l met r ∨ r ∈ todo
 it : ∀ i ∈ l, i.num ∈ met → ∀ r ∈ i.obj.rr, inS l met r ∨ r ∈ todo
 least : ∀ s', closedR l start s' → (∀ n ∈ met, n ∈ s') ∧ ∀ r ∈ todo, inS l s' r
 small : todo.length + restR l met ≤ 33554432
theorem leadR_mem {l : List Itm} {r : Pob} {i : Itm} (h : leadR l r = some i) : i ∈ l ∧ i.num = r.num ∧ i.gen = r.gen := by
 have h1 := List.mem_of_find?_eq_some h
 have h2 := List.find?_some h
 simp only [Bool.and_eq_true, decide_eq_true_eq] at h2
 exact ⟨h1, h2⟩
theorem FromJ.top (l : List Itm) (o : Pob) (h : o.rr.length + ibulk l ≤ 33554432) : FromJ l o.rr [] o.rr :=
 ⟨List.nodup_nil, fun _ h => absurd h List.not_mem_nil, fun _ h => .inr h, fun _ _ h => absurd h List.not_mem_nil, fun _ hs => ⟨fun _ h => absurd h List.not_mem_nil, hs.1⟩, by
  have := restR_le l []
  omega⟩
theorem FromJ.skip {l : List Itm} {start : List Pob} {met : List Int} {x : Pob} {todo : List Pob} (h : FromJ l start met (x :: todo)) (hx : inS l met x) : FromJ l start met todo := by
 refine ⟨h.nd, h.sub, fun r hr => ?_, fun i hi hm r hr => ?_, fun s' hs => ⟨(h.least s' hs).1, fun r hr => (h.least s' hs).2 r (List.mem_cons_of_mem _ hr)⟩, by have := h.small; simp only [List.length_cons] at this; omega⟩
 ·rcases h.st r hr with g | g
  ·exact .inl g
  ·rcases List.mem_cons.1 g with rfl | g
   ·exact .inl hx
   ·exact .inr g
 ·rcases h.it i hi hm r hr with g | g
  ·exact .inl g
  ·rcases List.mem_cons.1 g with rfl | g
   ·exact .inl hx
   ·exact .inr g
theorem inS_more {l : List Itm} {s : List Int} {r : Pob} (h : inS l s r) (n : Int) : inS l (s ++ [n]) r := fun i hi => List.mem_append_left _ (h i hi)
theorem FromJ.add {l : List Itm} {start : List Pob} {met : List Int} {x : Pob} {todo : List Pob} {i : Itm} (hl : incrN l) (h : FromJ l start met (x :: todo)) (hx : leadR l x = some i) (hn : ¬ i.num ∈ met) : FromJ l start (met ++ [i.num]) (todo ++ i.obj.rr) := by
 have hm := (leadR_mem hx).1
 have hin : inS l (met ++ [i.num]) x := fun j hj => by
  rw [hx] at hj
  injection hj with hj
  subst hj
  simp
 refine ⟨?_, fun n hn' => ?_, fun r hr => ?_, fun j hj hm' r hr => ?_, fun s' hs => ?_, ?_⟩
 ·rw [List.nodup_append]
  refine ⟨h.nd, by simp, fun a ha b hb => ?_⟩
  simp only [List.mem_singleton] at hb
  subst hb
  intro e
  subst e
  exact hn ha
 ·rcases List.mem_append.1 hn' with g | g
  ·exact h.sub n g
  ·simp only [List.mem_singleton] at g
   subst g
   exact List.mem_map.2 ⟨i, hm, rfl⟩
 ·rcases h.st r hr with g | g
  ·exact .inl (inS_more g _)
  ·rcases List.mem_cons.1 g with rfl | g
   ·exact .inl hin
   ·exact .inr (List.mem_append_left _ g)
 ·rcases List.mem_append.1 hm' with g | g
  ·rcases h.it j hj g r hr with g | g
   ·exact .inl (inS_more g _)
   ·rcases List.mem_cons.1 g with rfl | g
    ·exact .inl hin
    ·exact .inr (List.mem_append_left _ g)
  ·simp only [List.mem_singleton] at g
   have e : j = i := incr_one hl hj hm g
   subst e
   exact .inr (List.mem_append_right _ hr)
 ·obtain ⟨h1, h2⟩ := h.least s' hs
  have hi : i.num ∈ s' := h2 x List.mem_cons_self i hx
  refine ⟨fun n hn' => ?_, fun r hr => ?_⟩
  ·rcases List.mem_append.1 hn' with g | g
   ·exact h1 n g
   ·simp only [List.mem_singleton] at g
    subst g
    exact hi
  ·rcases List.mem_append.1 hr with g | g
   ·exact h2 r (List.mem_cons_of_mem _ g)
   ·exact hs.2 i hm hi r g
 ·have h1 := h.small
  have h2 := restR_add hm hn
  simp only [List.length_cons, List.length_append] at h1 ⊢
  omega
theorem FromJ.end {l : List Itm} {start : List Pob} {met : List Int} (h : FromJ l start met []) : leastR l start met :=
 ⟨⟨fun r hr => (h.st r hr).elim id (fun g => absurd g List.not_mem_nil), fun i hi hm r hr => (h.it i hi hm r hr).elim id (fun g => absurd g List.not_mem_nil)⟩, fun s' hs => (h.least s' hs).1⟩
theorem FromJ.len {l : List Itm} {start : List Pob} {met : List Int} {todo : List Pob} (h : FromJ l start met todo) : met.length ≤ l.length := by
 have := nodup_le h.nd h.sub
 simpa using this
end Aw

namespace Aw
open Go
theorem chk_ref {o : Pob} {k : Int} (h : chk o k = 0) (h8 : o.kind = 8) : o.kids = [] := by
 have hu := (ownE_iff.1 (chk_iff.1 h).1).2.1
 have h2 : uKids o.kind = false := by rw [h8]; decide
 rcases hl : o.kids with _ | ⟨x, l⟩
 ·rfl
 ·exfalso
  simp [useB, h2, hl] at hu
  omega
mutual
theorem chk_rr : ∀ (o : Pob) (d : Int), chk o d = 0 → o.rr = o.pre.filter fun p => decide (p.kind = 8)
 | .mk k n g s ks l, d, h => by
  rw [Pob.pre_eq, rr_eq]
  by_cases h8 : (Pob.mk k n g s ks l).kind = 8
  ·have hk := chk_ref h h8
   rw [if_pos h8, List.filter_cons, if_pos (by rw [h8]; decide), hk, pres_nil]
   rfl
  ·rw [if_neg h8, List.filter_cons, if_neg (by simpa using h8)]
   exact chks_rr l (d + 1) (fun x hx => (chk_iff.1 h).2 x hx)
theorem chks_rr : ∀ (l : List Pob) (d : Int), (∀ x ∈ l, chk x d = 0) → rrs l = (pres l).filter fun p => decide (p.kind = 8)
 | [], _, _ => by simp [rrs, pres_nil]
 | o :: l, d, h => by
  rw [rrs, pres, List.filter_append, ← chk_rr o d (h o List.mem_cons_self), ← chks_rr l d (fun x hx => h x (List.mem_cons_of_mem _ hx))]
end
theorem leadR_yes {l : List Itm} (hl : incrN l) {r : Pob} (h : leadB l r = true) : leadR l r = some (leadI l r) := by
 obtain ⟨h1, h2, h3⟩ := lead_mem h
 cases e : leadR l r with
 | none =>
  unfold leadR at e
  rw [List.find?_eq_none] at e
  have := e _ h1
  simp [h2, h3] at this
 | some x =>
  obtain ⟨g1, g2, _⟩ := leadR_mem e
  rw [incr_one hl g1 h1 (by rw [g2, h2])]
theorem leadR_no {l : List Itm} (hl : incrN l) {r : Pob} (h : leadB l r = false) : leadR l r = none := by
 cases e : leadR l r with
 | none => rfl
 | some x =>
  exfalso
  obtain ⟨g1, g2, g3⟩ := leadR_mem e
  cases hm : mfind (netL l) r.num with
  | none =>
   rw [mfind_none] at hm
   refine hm ?_
   rw [← g2]
   simp only [netL, List.map_map, List.mem_map]
   exact ⟨x, g1, rfl⟩
  | some v =>
   have hv := mfind_mem hm
   simp only [netL, List.mem_map, Prod.mk.injEq] at hv
   obtain ⟨y, hy, e1, rfl⟩ := hv
   have : y = x := incr_one hl hy g1 (by rw [e1, g2])
   subst this
   simp [leadB, leadI, hm, g3] at h
theorem leadR_isSome {l : List Itm} (hl : incrN l) (r : Pob) : (leadR l r).isSome = leadB l r := by
 cases h : leadB l r
 ·rw [leadR_no hl h] <;> rfl
 ·rw [leadR_yes hl h] <;> rfl
theorem sortI_mem {s : List Int} {n : Int} : n ∈ sortI s ↔ n ∈ s := (List.mergeSort_perm s _).mem_iff
theorem sortI_lt {s : List Int} (h : s.Nodup) : (sortI s).Pairwise (· < ·) := by
 have h2 : (sortI s).Nodup := (List.mergeSort_perm _ _).nodup_iff.2 h
 exact (List.Pairwise.and (sortI_pairwise s) h2).imp fun ⟨a, b⟩ => by omega
theorem FromJ.perm {l : List Itm} {start : List Pob} {met : List Int} {a b : List Pob} (h : FromJ l start met a) (hp : a.Perm b) : FromJ l start met b :=
 ⟨h.nd, h.sub, fun r hr => (h.st r hr).imp id (fun g => hp.mem_iff.1 g), fun i hi hm r hr => (h.it i hi hm r hr).imp id (fun g => hp.mem_iff.1 g), fun s' hs => ⟨(h.least s' hs).1, fun r hr => (h.least s' hs).2 r (hp.mem_iff.2 hr)⟩, by rw [← hp.length_eq]; exact h.small⟩
theorem walk_fold (l : List Itm) : ∀ (L : List Pob) (s : List Int × List Pob), (walkR (reachStp l) s L).1 = (L.filter fun p => decide (p.kind = 8)).foldl (fun s r => (reachStp l s r).1) s
 | [], s => rfl
 | o :: L, s => by
  rw [walkR_cons, List.filter_cons]
  by_cases hk : o.kind = 8
  ·rw [if_pos hk, if_neg (by rw [reach_last]; simp), if_pos (by simpa using hk), List.foldl_cons]
   exact walk_fold l L _
  ·rw [if_neg hk, if_neg (by simpa using hk)]
   exact walk_fold l L s
theorem rrs_one (o : Pob) : rrs [o] = o.rr := by simp [rrs]
theorem fold_J {l : List Itm} {start : List Pob} (hl : incrN l) : ∀ (L : List Pob) (s : List Int × List Pob), FromJ l start s.1 (L ++ rrs s.2) →
  FromJ l start (L.foldl (fun s r => (reachStp l s r).1) s).1 (rrs (L.foldl (fun s r => (reachStp l s r).1) s).2)
 | [], s, h => h
 | r :: L, s, h => by
  rw [List.foldl_cons]
  refine fold_J hl L _ ?_
  simp only [reachStp]
  cases hb : reachB l s.1 r
  ·simp only [Bool.false_eq_true, if_false]
   refine h.skip (fun i hi => ?_)
   simp only [reachB, Bool.and_eq_false_iff, Bool.not_eq_false', decide_eq_true_eq] at hb
   rcases hb with hb | hb
   ·rw [leadR_no hl hb] at hi
    cases hi
   ·cases hlb : leadB l r
    ·rw [leadR_no hl hlb] at hi
     cases hi
    ·rw [leadR_yes hl hlb] at hi
     injection hi with hi
     rw [← hi]
     exact hb
  ·simp only [if_true]
   simp only [reachB, Bool.and_eq_true, Bool.not_eq_true', decide_eq_false_iff_not] at hb
   have := h.add hl (leadR_yes hl hb.1) hb.2
   rw [setAdd, if_neg hb.2, rrs_append, rrs_one, ← List.append_assoc]
   exact this
theorem pop_J {l : List Itm} {start : List Pob} (hl : incrN l) {s : List Int × List Pob} (h : FromJ l start s.1 (rrs s.2)) (hn : 0 < s.2.length) (hv : ∀ p ∈ s.2, ∃ k, chk p k = 0) :
  FromJ l start (popS l s).1 (rrs (popS l s).2) := by
 unfold popS
 rw [walk_fold]
 have hm : s.2.getD (s.2.length - 1) Pob.null ∈ s.2 := by
  rw [List.getD_eq_getElem?_getD, List.getElem?_eq_getElem (by omega)]
  exact List.getElem_mem _
 obtain ⟨k, hk⟩ := hv _ hm
 rw [← chk_rr _ k hk]
 refine fold_J hl _ _ ?_
 have e : rrs s.2 = rrs (s.2.take (s.2.length - 1)) ++ (s.2.getD (s.2.length - 1) Pob.null).rr := by
  rw [← rrs_take (l := s.2) (i := s.2.length - 1) (by omega), List.take_of_length_le (by omega)]
 rw [e] at h
 exact h.perm List.perm_append_comm
theorem fold_V {l : List Itm} (hv : ∀ i ∈ l, ∃ k, chk i.obj k = 0) : ∀ (L : List Pob) (s : List Int × List Pob), (∀ p ∈ s.2, ∃ k, chk p k = 0) → ∀ p ∈ (L.foldl (fun s r => (reachStp l s r).1) s).2, ∃ k, chk p k = 0
 | [], s, h => h
 | r :: L, s, h => by
  rw [List.foldl_cons]
  refine fold_V hv L _ ?_
  simp only [reachStp]
  split
  ·rename_i hb
   simp only [reachB, Bool.and_eq_true] at hb
   intro p hp
   rcases List.mem_append.1 hp with hp | hp
   ·exact h p hp
   ·simp only [List.mem_singleton] at hp
    subst hp
    exact hv _ (lead_mem hb.1).1
  ·exact h
theorem reachF_least {l : List Itm} {start : List Pob} (hl : incrN l) (hv : ∀ i ∈ l, ∃ k, chk i.obj k = 0) : ∀ (f : Nat) (s : List Int × List Pob), reachI l s → reachM l s ≤ f → FromJ l start s.1 (rrs s.2) → (∀ p ∈ s.2, ∃ k, chk p k = 0) → leastR l start (reachF l f s)
 | 0, s, hi, hf, h, _ => by
  have h0 : s.2 = [] := by
   simp only [reachM] at hf
   exact List.eq_nil_of_length_eq_zero (by omega)
  rw [h0] at h
  exact FromJ.end h
 | f + 1, s, hi, hf, h, hs => by
  simp only [reachF]
  by_cases hn : 0 < s.2.length
  ·rw [if_pos hn]
   refine reachF_least hl hv f _ (popS_inv hi) (by have := popS_M hi hn; omega) (pop_J hl h hn hs) ?_
   unfold popS
   rw [walk_fold]
   exact fold_V hv _ _ (fun p hp => hs p (List.mem_of_mem_take hp))
  ·rw [if_neg hn]
   have h0 : s.2 = [] := List.eq_nil_of_length_eq_zero (by omega)
   rw [h0] at h
   exact FromJ.end h
theorem items_chk {d : Dc} (h : docE d = 0) : ∀ i ∈ d.items, ∃ k, chk i.obj k = 0 := fun i hi => doc_chk h (i.num, i.obj) (List.mem_cons_of_mem _ (List.mem_map.2 ⟨i, hi, rfl⟩))
theorem reachS_least {d : Dc} {o : Pob} (h : docE d = 0) {k : Int} (hc : chk o k = 0) (hs : o.rr.length + ibulk d.items ≤ 33554432) : leastR d.items o.rr (reachS d.items o) := by
 unfold reachS
 refine reachF_least (items_incr (docE_items h)) (items_chk h) _ _ (reachI_top _ _) (by simp [reachM]) ?_ (fun p hp => ⟨k, by simp only [List.mem_singleton] at hp; rw [hp]; exact hc⟩)
 rw [rrs_one]
 exact FromJ.top _ _ hs
theorem from_one {d : Dc} {o : Pob} (hs : o.rr.length + ibulk d.items ≤ 33554432) (h : docE d = 0) (hc : chk o 1 = 0) (met : List Int) (hm : leastR d.items o.rr met) : met.foldl numIns [] = fromP d o := by
 rw [fromP, if_pos ⟨h, hc⟩]
 obtain ⟨h1, h2⟩ := numIns_fold met [] List.Pairwise.nil
 refine lt_ext h1 (sortI_lt (reachS_inv d.items o).1) (fun n => ?_)
 rw [h2, sortI_mem, leastR_one hm (reachS_least h hc hs)]
 simp
end Aw

namespace Aw
open Go
theorem setAdd_nd {l : List Int} (h : l.Nodup) (x : Int) : (setAdd l x).Nodup := by
 unfold setAdd
 split
 ·exact h
 ·rename_i hx
  rw [List.nodup_append]
  refine ⟨h, by simp, fun a ha b hb => ?_⟩
  simp only [List.mem_singleton] at hb
  subst hb
  intro e
  subst e
  exact hx ha
theorem foldI_nd {S : Type} {g : S → Int → Pob → S} {I : S → Prop} (hI : ∀ s n o, I s → I (g s n o)) : ∀ (l : List Itm) (s : S), I s → I (foldI g s l)
 | [], s, h => h
 | i :: l, s, h => by
  have := foldI_nd hI l (g s i.num i.obj) (hI _ _ _ h)
  simpa [foldI] using this
theorem dangS_nd (d : Dc) : (dangS d).Nodup := by
 have hw : ∀ (s : List Int) (n : Int) (o : Pob), s.Nodup → (dangAll d s n o).Nodup := fun s n o h => walkR_inv (I := fun s : List Int => s.Nodup) (fun s x h => by
  simp only [dangStp]
  split
  ·exact h
  ·exact setAdd_nd h _) _ _ h
 exact foldI_nd hw _ _ (hw _ _ _ List.nodup_nil)
theorem rrs_mem {l : List Pob} {x : Pob} : x ∈ rrs l ↔ ∃ o ∈ l, x ∈ o.rr := by
 induction l with
 | nil => simp [rrs]
 | cons o l ih => simp [rrs, ih]
theorem dang_one (d : Dc) : dangR d = danglingP d := by
 unfold dangR danglingP
 by_cases h : docE d = 0
 ·rw [if_pos h, if_pos h]
  obtain ⟨h1, h2⟩ := numIns_fold (dangI d (d.trailer.rr ++ itemsRR d.items)) [] List.Pairwise.nil
  refine lt_ext h1 (sortI_lt (dangS_nd d)) (fun n => ?_)
  have hl := items_incr (docE_items h)
  rw [h2, sortI_mem, dangS_mem]
  simp only [List.not_mem_nil, false_or, dangI, List.mem_map, List.mem_filter, leadR_isSome hl, Bool.not_eq_true']
  constructor
  ·rintro ⟨x, ⟨hx, hb⟩, rfl⟩
   rcases List.mem_append.1 hx with hx | hx
   ·obtain ⟨k, hk⟩ := doc_chk h (0, d.trailer) List.mem_cons_self
    rw [chk_rr _ k hk, List.mem_filter] at hx
    exact ⟨(0, d.trailer), List.mem_cons_self, x, hx.1, by simpa using hx.2, hb, rfl⟩
   ·unfold itemsRR at hx
    obtain ⟨o, ho, hx⟩ := rrs_mem.1 hx
    obtain ⟨i, hi, rfl⟩ := List.mem_map.1 ho
    obtain ⟨k, hk⟩ := items_chk h i hi
    rw [chk_rr _ k hk, List.mem_filter] at hx
    exact ⟨(i.num, i.obj), List.mem_cons_of_mem _ (List.mem_map.2 ⟨i, hi, rfl⟩), x, hx.1, by simpa using hx.2, hb, rfl⟩
  ·rintro ⟨q, hq, p, hp, h8, hb, rfl⟩
   obtain ⟨k, hk⟩ := doc_chk h q hq
   have hpr : p ∈ q.2.rr := by rw [chk_rr _ k hk, List.mem_filter]; exact ⟨hp, by simpa using h8⟩
   refine ⟨p, ⟨?_, hb⟩, rfl⟩
   rcases List.mem_cons.1 hq with rfl | hq
   ·exact List.mem_append_left _ hpr
   ·obtain ⟨i, hi, rfl⟩ := List.mem_map.1 hq
    exact List.mem_append_right _ (rrs_mem.2 ⟨i.obj, List.mem_map.2 ⟨i, hi, rfl⟩, hpr⟩)
 ·rw [if_neg h, if_neg h]
theorem nums_lt {l : List Itm} (h : incrN l) (p : Itm → Bool) : ((l.filter p).map (·.num)).Pairwise (· < ·) := by
 rw [List.pairwise_map]
 exact (incrN_iff.1 h).sublist List.filter_sublist
theorem lost_one (d : Dc) : lostR d = lostP d := by
 unfold lostR lostP
 by_cases h : docE d = 0
 ·rw [if_pos h, if_pos h]
  have hl := items_incr (docE_items h)
  refine lt_ext (nums_lt hl _) (sortI_lt (lostL_nodup hl _)) (fun n => ?_)
  have hc : chk d.trailer 1 = 0 := by
   have h1 := docE_trail h
   by_cases hc : chk d.trailer 1 = 0
   ·exact hc
   ·rw [trail_bad hc] at h1
    exact absurd h1 hc
  rw [sortI_mem, fromP, if_pos ⟨h, hc⟩]
  simp only [lostI, lostL, List.mem_map, List.mem_filter, sortI_mem]
  constructor
  ·rintro ⟨i, ⟨hi, hu⟩, rfl⟩
   exact ⟨⟨i, hi, rfl⟩, hu⟩
  ·rintro ⟨⟨i, hi, rfl⟩, hu⟩
   exact ⟨i, ⟨hi, hu⟩, rfl⟩
 ·rw [if_neg h, if_neg h]
end Aw
namespace Aw
open Go
theorem sortI_len (s : List Int) : (sortI s).length = s.length := (List.mergeSort_perm s _).length_eq
theorem fromP_len (d : Dc) (o : Pob) : (fromP d o).length ≤ 8192 := by
 unfold fromP
 split
 ·rename_i h
  rw [sortI_len]
  exact Nat.le_trans (reachS_len _ _) (items_len h.1)
 ·simp
theorem danglingP_len (d : Dc) : (danglingP d).length ≤ d.bulk := by
 unfold danglingP
 split
 ·rw [sortI_len]
  exact dangS_len d
 ·simp
end Aw

namespace Aw
open Go
theorem filt_len {α : Type} (p : α → Bool) : ∀ l : List α, l.length = (l.filter p).length + (l.filter fun x => !p x).length
 | [] => rfl
 | x :: l => by
  have := filt_len p l
  cases h : p x <;> simp [h] <;> omega
theorem chk_top {d : Dc} (h : docE d = 0) : chk d.trailer 1 = 0 := by
 have h1 := docE_trail h
 by_cases hc : chk d.trailer 1 = 0
 ·exact hc
 ·rw [trail_bad hc] at h1
  exact absurd h1 hc
theorem fromP_top {d : Dc} (h : docE d = 0) : fromP d d.trailer = sortI (reachS d.items d.trailer) := by rw [fromP, if_pos ⟨h, chk_top h⟩]
theorem from_mem {d : Dc} (h : docE d = 0) (n : Int) : n ∈ fromP d d.trailer ↔ n ∈ reachS d.items d.trailer := by rw [fromP_top h, sortI_mem]
theorem lost_mem {d : Dc} (h : docE d = 0) (n : Int) : n ∈ lostP d ↔ n ∈ d.items.map (·.num) ∧ ¬ n ∈ reachS d.items d.trailer := by
 rw [lostP, if_pos h, sortI_mem, lostL, List.mem_filter]
 simp
end Aw

namespace Aw
open Go
theorem leadR_some {l : List Itm} (h : incrN l) {r : Pob} {i : Itm} (hi : i ∈ l) (hn : i.num = r.num) (hg : i.gen = r.gen) : leadR l r = some i := by
 cases e : leadR l r with
 | none =>
  exfalso
  unfold leadR at e
  rw [List.find?_eq_none] at e
  have := e i hi
  simp [hn, hg] at this
 | some x =>
  obtain ⟨g1, g2, _⟩ := leadR_mem e
  rw [incr_one h g1 hi (by rw [g2, hn])]
theorem dang_mem {d : Dc} (h : docE d = 0) (n : Int) : n ∈ danglingP d ↔ ∃ q ∈ allL d, ∃ r ∈ q.2.rr, leadR d.items r = none ∧ r.num = n := by
 have hl := items_incr (docE_items h)
 rw [danglingP, if_pos h, sortI_mem, dangS_mem]
 constructor
 ·rintro ⟨q, hq, p, hp, h8, hb, rfl⟩
  obtain ⟨k, hk⟩ := doc_chk h q hq
  exact ⟨q, hq, p, by rw [chk_rr _ k hk, List.mem_filter]; exact ⟨hp, by simpa using h8⟩, leadR_no hl hb, rfl⟩
 ·rintro ⟨q, hq, p, hp, hb, rfl⟩
  obtain ⟨k, hk⟩ := doc_chk h q hq
  rw [chk_rr _ k hk, List.mem_filter] at hp
  refine ⟨q, hq, p, hp.1, by simpa using hp.2, ?_, rfl⟩
  have := leadR_isSome hl p
  rw [hb] at this
  exact this.symm
end Aw

namespace Aw
open Go
structure AddF (d x : Dc) (o : Pob) (n : Int) : Prop where
 d0 : docE d = 0
 x0 : docE x = 0
 tr : x.trailer = d.trailer
 mem : ∀ i, i ∈ x.items ↔ i = ⟨n, 0, o⟩ ∨ i ∈ d.items
 lt : ∀ i ∈ d.items, i.num < n
 pos : 0 < n
variable {d x : Dc} {o : Pob} {n : Int}
/-- nothing refers to the new number -/
structure AddN (d x : Dc) (o : Pob) (n : Int) : Prop extends AddF d x o n where
 hd : ∀ q ∈ allL d, ∀ r ∈ q.2.rr, r.num ≠ n
 ho : ∀ r ∈ o.rr, r.num ≠ n
theorem AddN.all (h : AddN d x o n) : ∀ q ∈ allL x, ∀ r ∈ q.2.rr, r.num ≠ n := by
 intro q hq r hr
 rcases List.mem_cons.1 hq with rfl | hq
 ·rw [h.tr] at hr
  exact h.hd _ List.mem_cons_self r hr
 ·obtain ⟨i, hi, rfl⟩ := List.mem_map.1 hq
  rcases (h.mem i).1 hi with rfl | hi
  ·exact h.ho r hr
  ·exact h.hd _ (List.mem_cons_of_mem _ (List.mem_map.2 ⟨i, hi, rfl⟩)) r hr
theorem AddN.lost (h : AddN d x o n) (hs : x.trailer.rr.length + ibulk x.items ≤ 33554432) : n ∈ lostP x := by
 rw [lost_mem h.x0]
 refine ⟨List.mem_map.2 ⟨⟨n, 0, o⟩, (h.mem _).2 (.inl rfl), rfl⟩, fun hn => ?_⟩
 have hl := reachS_least (o := x.trailer) h.x0 (chk_top h.x0) hs
 have hcl : closedR x.items x.trailer.rr ((reachS x.items x.trailer).filter fun k => decide (k ≠ n)) := by
  refine ⟨fun r hr i hi => List.mem_filter.2 ⟨hl.1.1 r hr i hi, ?_⟩, fun j hj hjm r hr i hi => List.mem_filter.2 ⟨hl.1.2 j hj (List.mem_filter.1 hjm).1 r hr i hi, ?_⟩⟩
  ·have := h.all _ List.mem_cons_self r hr
   rw [← (leadR_mem hi).2.1] at this
   simpa using this
  ·have := h.all _ (List.mem_cons_of_mem _ (List.mem_map.2 ⟨j, hj, rfl⟩)) r hr
   rw [← (leadR_mem hi).2.1] at this
   simpa using this
 have := (List.mem_filter.1 (hl.2 _ hcl n hn)).2
 simp at this
end Aw

set_option linter.unusedVariables false
set_option linter.unusedSimpArgs false
namespace Aw
open Go
theorem use_split (o : Pob) (d : Int) : useB o d = (useB o 1 && (decide (d = 1) || !decide (o.kind = 9))) := by
 unfold useB
 cases (bif bif bif bif bif uOk o.kind then bif uN o.kind then true else decide (o.num = 0) else false then bif uG o.kind then true else decide (o.gen = 0) else false then bif uS o.kind then true else decide (o.str = []) else false
  then bif uKeys o.kind then true else decide ((o.keys.length : Int) = 0) else false then bif uKids o.kind then true else decide ((o.kids.length : Int) = 0) else false) <;> simp
theorem own_deep {o : Pob} {d : Int} (h : 24 < d) : chk o d = 7 := chk_bad (by unfold ownE; rw [if_pos (by omega)]) (by decide)
theorem own_use {o : Pob} {d : Int} (h : ¬ 24 < d) (h' : useB o d = false) : chk o d = 10 := chk_bad (by unfold ownE; rw [if_neg (by omega), if_pos h']) (by decide)
theorem own_fits {o : Pob} {d : Int} (h : ¬ 24 < d) (h1 : useB o d = true) (h' : fitsB o = false) : chk o d = 2 := chk_bad (by unfold ownE; rw [if_neg (by omega), if_neg (by simp [h1]), if_pos h']) (by decide)
theorem own_long {o : Pob} {d : Int} (h : ¬ 24 < d) (h1 : useB o d = true) (h2 : fitsB o = true) (h' : shortB o = false) : chk o d = 5 := chk_bad (by unfold ownE; rw [if_neg (by omega), if_neg (by simp [h1]), if_neg (by simp [h2]), if_pos h']) (by decide)
theorem own_many {o : Pob} {d : Int} (h : ¬ 24 < d) (h1 : useB o d = true) (h2 : fitsB o = true) (h3 : shortB o = true) (h' : 8191 < (o.kids.length : Int)) : chk o d = 6 := chk_bad (by unfold ownE; rw [if_neg (by omega), if_neg (by simp [h1]), if_neg (by simp [h2]), if_neg (by simp [h3]), if_pos (by omega)]) (by decide)
theorem own_form {o : Pob} {d : Int} (h : ¬ 24 < d) (h1 : useB o d = true) (h2 : fitsB o = true) (h3 : shortB o = true) (h4 : ¬ 8191 < (o.kids.length : Int)) (h' : formB o = false) : chk o d = 3 := chk_bad (by unfold ownE; rw [if_neg (by omega), if_neg (by simp [h1]), if_neg (by simp [h2]), if_neg (by simp [h3]), if_neg (by omega), if_pos h']) (by decide)
theorem own_ok {o : Pob} {d : Int} (h : ¬ 24 < d) (h1 : useB o d = true) (h2 : fitsB o = true) (h3 : shortB o = true) (h4 : ¬ 8191 < (o.kids.length : Int)) (h' : formB o = true) : chk o d = chkL o.kids (d + 1) := by
 rw [chk_eq, if_pos]
 unfold ownE
 rw [if_neg (by omega), if_neg (by simp [h1]), if_neg (by simp [h2]), if_neg (by simp [h3]), if_neg (by omega), if_neg (by simp [h'])]
def longN (k : Int) : Int := if k = 5 then 127 else if k = 9 then 1048576 else 32767
theorem short_ref {o : Pob} (hu : useB o 1 = true) : shortB o = decide ((o.str.length : Int) ≤ longN o.kind) := by
 by_cases h4 : o.kind = 4
 ·simp [shortB, longN, h4]
 by_cases h5 : o.kind = 5
 ·simp [shortB, longN, h5]
 by_cases h9 : o.kind = 9
 ·simp [shortB, longN, h9]
 have hs : o.str = [] := by
  have hb : uS o.kind = false := by simp [uS, h4, h5, h9]
  unfold useB at hu
  rw [hb] at hu
  cases hc : decide (o.str = []) with
  | true => simpa using hc
  | false => rw [hc] at hu; revert hu; cases (bif bif bif uOk o.kind then bif uN o.kind then true else decide (o.num = 0) else false then bif uG o.kind then true else decide (o.gen = 0) else false then true else false) <;> simp
 simp only [shortB, longN, if_neg h4, if_neg h5, if_neg h9, hs]
 simp
theorem form_name {o : Pob} (h : o.kind = 5) : formB o = nameB o.str := by
 have : uKeys 5 = false := rfl
 simp [formB, h, this]
theorem form_none {o : Pob} (h : ¬ o.kind = 5) (h7 : ¬ o.kind = 7) (h9 : ¬ o.kind = 9) : formB o = true := by
 have : uKeys o.kind = false := by simp [uKeys, h7, h9]
 simp [formB, h, this]
theorem form_keys {o : Pob} (h7 : o.kind = 7 ∨ o.kind = 9) : formB o = risingB o := by
 have : uKeys o.kind = true := by simpa [uKeys] using h7
 have h5 : ¬ o.kind = 5 := by omega
 simp [formB, h5, this]
/-! sizes -/
theorem Pob.tot_eq (o : Pob) : o.tot = o.str.length + (o.keys.map fun k => k.length + 1).sum + tots o.kids + 7 := by cases o; simp only [Pob.tot, Pob.str, Pob.keys, Pob.kids]
theorem tots_get : ∀ {l : List Pob} {i : Nat}, i < l.length → (l.getD i Pob.null).tot ≤ tots l
 | o :: l, 0, _ => by simp [tots]
 | o :: l, i + 1, h => by
  have := tots_get (l := l) (i := i) (by simpa using h)
  simp only [List.getD_cons_succ, tots]
  omega
theorem Pob.tot_kid {o : Pob} {i : Nat} (h : i < o.kids.length) : (o.kids.getD i Pob.null).tot + 7 ≤ o.tot := by
 have := Pob.tot_eq o
 have := tots_get h
 omega
theorem ktot_get : ∀ {l : List (List UInt8)} {i : Nat}, i < l.length → (l.getD i []).length + 1 ≤ (l.map fun k => k.length + 1).sum
 | k :: l, 0, _ => by simp
 | k :: l, i + 1, h => by
  have := ktot_get (l := l) (i := i) (by simpa using h)
  simp only [List.getD_cons_succ, List.map_cons, List.sum_cons]
  omega
theorem Pob.tot_key {o : Pob} {i : Nat} (h : i < o.keys.length) : (o.keys.getD i []).length + 8 ≤ o.tot := by
 have := Pob.tot_eq o
 have := ktot_get h
 omega
theorem Pob.tot_str (o : Pob) : o.str.length + 7 ≤ o.tot := by
 have := Pob.tot_eq o
 omega
theorem tots_append (a b : List Pob) : tots (a ++ b) = tots a + tots b := by
 induction a with
 | nil => simp [tots]
 | cons o l ih => simp only [List.cons_append, tots, ih]; omega
theorem ksum_append (a b : List (List UInt8)) : ((a ++ b).map fun k => k.length + 1).sum = (a.map fun k => k.length + 1).sum + (b.map fun k => k.length + 1).sum := by simp
theorem dropO_tot (o : Pob) (key : List UInt8) : (dropO o key).tot ≤ o.tot := by
 unfold dropO
 split
 ·have h0 := Pob.tot_eq o
  unfold Pob.lessK delAt
  simp only [Pob.tot]
  have e1 := tots_append (o.kids.take (kplace o.keys key)) (o.kids.drop (kplace o.keys key))
  have e2 := ksum_append (o.keys.take (kplace o.keys key)) (o.keys.drop (kplace o.keys key))
  rw [List.take_append_drop] at e1 e2
  have e3 := tots_append ((o.kids.drop (kplace o.keys key)).take 1) ((o.kids.drop (kplace o.keys key)).drop 1)
  have e4 := ksum_append ((o.keys.drop (kplace o.keys key)).take 1) ((o.keys.drop (kplace o.keys key)).drop 1)
  rw [List.take_append_drop, List.drop_drop] at e3 e4
  rw [tots_append, ksum_append]
  omega
 ·exact Nat.le_refl _
end Aw

namespace Aw
open Go
theorem ibulk_filter (l : List Itm) (p : Itm → Bool) : ibulk (l.filter p) ≤ ibulk l := by
 induction l with
 | nil => simp [ibulk]
 | cons x l ih =>
  rw [List.filter_cons]
  split
  ·rw [ibulk_cons, ibulk_cons]; omega
  ·rw [ibulk_cons]; omega
end Aw

namespace Aw
open Go
theorem look_bulk (l : List Itm) (n : Int) : ((lookI l n).getD Itm.zero).obj.bulk ≤ ibulk l + 1 := by
 have hz : Itm.zero.obj.bulk = 1 := by simp [Itm.zero, Pob.null, Pob.bulk, bulks]
 unfold lookI
 split
 ·rw [Option.getD_none, hz]; omega
 ·rw [Option.getD_some]
  by_cases h : (iidxI l n).toNat < l.length
  ·have := ibulk_get h; omega
  ·have : l.getD (iidxI l n).toNat Itm.zero = Itm.zero := by simp [List.getD, h]
   rw [this, hz]; omega
end Aw

set_option linter.unusedVariables false
set_option linter.unusedSimpArgs false
namespace Aw
open Go
theorem hold_ref (o : Pob) : holdsB o = (decide (o.kind = 9) && (decide ((getO o typeK).kind = 5) && (decide ((getO o typeK).str = [79, 98, 106, 83, 116, 109]) || decide ((getO o typeK).str = [88, 82, 101, 102])))) := by
 unfold holdsB docKind
 by_cases h5 : (getO o typeK).kind = 5
 ·have hb : ∀ a b c : Bool, (bif a then (bif b then true else c) else false) = (a && (true && (b || c))) := by decide
  simp only [if_pos h5, h5, decide_true]
  exact hb _ _ _
 ·simp [h5]
theorem content_knd {i : Itm} (h : chk i.obj 1 = 0) (h' : i.obj.kind = 8 ∨ holdsB i.obj = true) : contentE i = 10 := by unfold contentE; rw [if_neg (by simpa using h), if_pos h']
theorem content_fine {i : Itm} (h : chk i.obj 1 = 0) (h' : ¬ (i.obj.kind = 8 ∨ holdsB i.obj = true)) : contentE i = 0 := by unfold contentE; rw [if_neg (by simpa using h), if_neg h']
theorem trail_idx (k : List UInt8) : 0 ≤ kidxI trailK k ↔ k = [73, 68] ∨ k = [73, 110, 102, 111] ∨ k = [82, 111, 111, 116] := by
 rcases kidxI_cases trailK k with ⟨i, hi, he, hk⟩ | ⟨he, hn⟩
 ·have hi3 : i < 3 := hi
  rw [he]
  refine ⟨fun _ => ?_, fun _ => by omega⟩
  obtain rfl | rfl | rfl : i = 0 ∨ i = 1 ∨ i = 2 := by omega
  ·exact .inl hk.symm
  ·exact .inr (.inl hk.symm)
  ·exact .inr (.inr hk.symm)
 ·rw [he]
  refine ⟨fun h => absurd h (by omega), fun h => ?_⟩
  rcases h with rfl | rfl | rfl
  ·exact absurd rfl (hn 0 (by decide))
  ·exact absurd rfl (hn 1 (by decide))
  ·exact absurd rfl (hn 2 (by decide))
theorem itots_get {l : List Itm} {i : Nat} (h : i < l.length) : (l.getD i Itm.zero).obj.tot + 3 ≤ itots l := by
 induction l generalizing i with
 | nil => simp at h
 | cons x l ih =>
  simp only [itots, List.map_cons, List.sum_cons, Itm.tot]
  cases i with
  | zero => simp only [List.getD_cons_zero]; omega
  | succ i =>
   have := ih (i := i) (by simpa using h)
   simp only [List.getD_cons_succ, itots, Itm.tot] at this ⊢
   omega
theorem itots_len (l : List Itm) : 3 * l.length ≤ itots l := by
 induction l with
 | nil => simp [itots]
 | cons x l ih => simp only [itots, List.map_cons, List.sum_cons, List.length_cons, Itm.tot] at ih ⊢; omega
end Aw

set_option linter.unusedVariables false
set_option linter.unusedSimpArgs false
namespace Aw
open Go
theorem incr_iff {ks : List (List UInt8)} : incr ks ↔ ks.Pairwise fun a b => Op.bytesLess a b = true := by
 rw [List.pairwise_iff_getElem]
 constructor
 ·intro h i j hi hj hij
  have := h i j hij hj
  simpa [List.getD, hi, hj] using this
 ·intro h a b hab hb
  have := h a b (by omega) hb hab
  simpa [List.getD, hb, show a < ks.length by omega] using this
end Aw

namespace Aw
open Go
def keepK (u ks : List (List UInt8)) : List (List UInt8) := ks.filter fun k => !decide (k ∈ u)
def keep1 (u ks : List (List UInt8)) : Bool := match ks with
 | [] => true
 | k :: _ => !decide (k ∈ u)
mutual
def stripO (u : List (List UInt8)) : Pob → Pob
 | .mk k n g s ks l => .mk k n g s (keepK u (ks.take l.length)) (stripL u l ks)
def stripL (u : List (List UInt8)) : List Pob → List (List UInt8) → List Pob
 | [], _ => []
 | o :: l, ks => if keep1 u ks = true then stripO u o :: stripL u l ks.tail else stripL u l ks.tail
end
variable {u : List (List UInt8)}
theorem stripO_eq (o : Pob) : stripO u o = .mk o.kind o.num o.gen o.str (keepK u (o.keys.take o.kids.length)) (stripL u o.kids o.keys) := by cases o; simp only [stripO, Pob.kind, Pob.num, Pob.gen, Pob.str, Pob.keys, Pob.kids]
theorem strip_kind (o : Pob) : (stripO u o).kind = o.kind := by rw [stripO_eq] <;> rfl
theorem strip_num (o : Pob) : (stripO u o).num = o.num := by rw [stripO_eq] <;> rfl
theorem strip_gen (o : Pob) : (stripO u o).gen = o.gen := by rw [stripO_eq] <;> rfl
theorem strip_str (o : Pob) : (stripO u o).str = o.str := by rw [stripO_eq] <;> rfl
theorem strip_keys (o : Pob) : (stripO u o).keys = keepK u (o.keys.take o.kids.length) := by rw [stripO_eq] <;> rfl
theorem strip_kids (o : Pob) : (stripO u o).kids = stripL u o.kids o.keys := by rw [stripO_eq] <;> rfl
theorem stripL_nil (ks : List (List UInt8)) : stripL u [] ks = [] := by simp only [stripL]
theorem stripL_cons (o : Pob) (l : List Pob) (ks : List (List UInt8)) : stripL u (o :: l) ks = if keep1 u ks = true then stripO u o :: stripL u l ks.tail else stripL u l ks.tail := by simp only [stripL]
theorem stripL_append : ∀ (a b : List Pob) (ks : List (List UInt8)), stripL u (a ++ b) ks = stripL u a ks ++ stripL u b (ks.drop a.length)
 | [], b, ks => by simp [stripL_nil]
 | o :: a, b, ks => by
  have ih := stripL_append a b ks.tail
  rw [List.cons_append, stripL_cons, stripL_cons, ih]
  have e : ks.tail.drop a.length = ks.drop (o :: a).length := by cases ks <;> simp
  split <;> simp [e]
theorem stripL_take {l : List Pob} {i : Nat} (h : i < l.length) (ks : List (List UInt8)) : stripL u (l.take (i + 1)) ks = stripL u (l.take i) ks ++ if keep1 u (ks.drop i) = true then [stripO u (l.getD i Pob.null)] else [] := by
 have e : l.getD i Pob.null = l[i] := by simp [List.getD, h]
 rw [List.take_succ_eq_append_getElem h, stripL_append, e, stripL_cons, stripL_nil]
 simp only [List.length_take, Nat.min_eq_left (Nat.le_of_lt h)]
theorem keepK_take {ks : List (List UInt8)} {i : Nat} (h : i < ks.length) : keepK u (ks.take (i + 1)) = keepK u (ks.take i) ++ if ks.getD i [] ∈ u then [] else [ks.getD i []] := by
 have e : ks.getD i [] = ks[i] := by simp [List.getD, h]
 rw [List.take_succ_eq_append_getElem h, e]
 unfold keepK
 rw [List.filter_append]
 by_cases hm : ks[i] ∈ u <;> simp [hm]
theorem keep1_in {ks : List (List UInt8)} {i : Nat} (h : i < ks.length) : keep1 u (ks.drop i) = !decide (ks.getD i [] ∈ u) := by
 rw [List.drop_eq_getElem_cons h]
 simp [keep1, List.getD, h]
theorem keep1_out {ks : List (List UInt8)} {i : Nat} (h : ks.length ≤ i) : keep1 u (ks.drop i) = true := by
 rw [List.drop_eq_nil_of_le h] <;> rfl
theorem stripL_len : ∀ (l : List Pob) (ks : List (List UInt8)), (stripL u l ks).length ≤ l.length
 | [], ks => by simp [stripL_nil]
 | o :: l, ks => by
  have ih := stripL_len l ks.tail
  rw [stripL_cons]
  split
  ·simp; omega
  ·simp; omega
mutual
theorem strip_bulk : ∀ o : Pob, (stripO u o).bulk ≤ o.bulk
 | .mk k n g s ks l => by
  have h1 := stripL_bulk l ks
  have h2 := stripL_len (u := u) l ks
  have h3 : (keepK u (ks.take l.length)).length ≤ ks.length := Nat.le_trans (List.length_filter_le _ _) (List.length_take_le' _ _)
  simp only [stripO, Pob.bulk]
  omega
theorem stripL_bulk : ∀ (l : List Pob) (ks : List (List UInt8)), bulks (stripL u l ks) ≤ bulks l
 | [], ks => by simp [stripL_nil]
 | o :: l, ks => by
  have h1 := strip_bulk o
  have h2 := stripL_bulk l ks.tail
  rw [stripL_cons]
  split
  ·simp only [bulks]; omega
  ·simp only [bulks]; omega
end
theorem sub_tot {a b : List (List UInt8)} (h : List.Sublist a b) : (a.map fun k => k.length + 1).sum ≤ (b.map fun k => k.length + 1).sum := by
 induction h with
 | slnil => simp
 | cons a h ih => simp only [List.map_cons, List.sum_cons]; omega
 | cons_cons a h ih => simp only [List.map_cons, List.sum_cons]; omega
theorem keepK_tot (ks : List (List UInt8)) (n : Nat) : ((keepK u (ks.take n)).map fun k => k.length + 1).sum ≤ (ks.map fun k => k.length + 1).sum :=
 sub_tot (List.Sublist.trans List.filter_sublist (List.take_sublist _ _))
mutual
theorem strip_tot : ∀ o : Pob, (stripO u o).tot ≤ o.tot
 | .mk k n g s ks l => by
  have h1 := stripL_tot l ks
  have h3 := keepK_tot (u := u) ks l.length
  simp only [stripO, Pob.tot]
  omega
theorem stripL_tot : ∀ (l : List Pob) (ks : List (List UInt8)), tots (stripL u l ks) ≤ tots l
 | [], ks => by simp [stripL_nil]
 | o :: l, ks => by
  have h1 := strip_tot o
  have h2 := stripL_tot l ks.tail
  rw [stripL_cons]
  split
  ·simp only [tots]; omega
  ·simp only [tots]; omega
end
theorem stripL_map (l : List Pob) : stripL u l [] = l.map (stripO u) := by
 induction l with
 | nil => simp [stripL_nil]
 | cons o l ih => rw [stripL_cons, if_pos (by rfl)]; simpa using ih
/-- the pairs that stay -/
theorem strip_zip : ∀ (l : List Pob) (ks : List (List UInt8)), ks.length = l.length →
  (keepK u ks).zip (stripL u l ks) = ((ks.zip l).filter fun p => !decide (p.1 ∈ u)).map (fun p => (p.1, stripO u p.2)) ∧ (keepK u ks).length = (stripL u l ks).length
 | [], ks, h => by
  obtain rfl : ks = [] := List.eq_nil_of_length_eq_zero (by simpa using h)
  simp [stripL_nil, keepK]
 | o :: l, [], h => by simp at h
 | o :: l, k :: ks, h => by
  obtain ⟨h1, h2⟩ := strip_zip l ks (by simpa using h)
  rw [stripL_cons]
  by_cases hm : k ∈ u
  ·have e : keepK u (k :: ks) = keepK u ks := by simp [keepK, hm]
   rw [if_neg (by simp [keep1, hm]), e]
   simp only [List.tail_cons, h1, h2, List.zip_cons_cons]
   simp [hm]
  ·have e : keepK u (k :: ks) = k :: keepK u ks := by simp [keepK, hm]
   rw [if_pos (by simp [keep1, hm]), e]
   simp only [List.tail_cons, h1, List.zip_cons_cons]
   simp [hm, h2]
theorem has_zip {o : Pob} (h : o.keys.length = o.kids.length) {k : List UInt8} {v : Pob} : o.has k v ↔ (k, v) ∈ o.keys.zip o.kids := by
 unfold Pob.has
 rw [List.mem_iff_getElem]
 constructor
 ·rintro ⟨i, hi, rfl, rfl⟩
  refine ⟨i, by simp; omega, ?_⟩
  simp [List.getD, hi, show i < o.kids.length by omega]
 ·rintro ⟨i, hi, e⟩
  simp only [List.length_zip] at hi
  rw [List.getElem_zip] at e
  injection e with e1 e2
  exact ⟨i, by omega, by simp [List.getD, show i < o.keys.length by omega, e1], by simp [List.getD, show i < o.kids.length by omega, e2]⟩
theorem strip_kv {o : Pob} (hs : o.kvOk) : (stripO u o).kvOk ∧ ∀ k v, (stripO u o).has k v ↔ ¬ k ∈ u ∧ ∃ w, o.has k w ∧ v = stripO u w := by
 have hz := strip_zip (u := u) o.kids o.keys hs.2
 have hk : (stripO u o).keys = keepK u o.keys := by rw [strip_keys, ← hs.2, List.take_length]
 have hl : (stripO u o).keys.length = (stripO u o).kids.length := by rw [hk, strip_kids]; exact hz.2
 refine ⟨⟨?_, hl⟩, fun k v => ?_⟩
 ·rw [hk]
  exact incr_iff.2 ((incr_iff.1 hs.1).sublist List.filter_sublist)
 ·rw [has_zip hl, hk, strip_kids, hz.1]
  simp only [List.mem_map, List.mem_filter, has_zip hs.2]
  constructor
  ·rintro ⟨p, ⟨hp, hn⟩, e⟩
   injection e with e1 e2
   subst e1
   exact ⟨by simpa using hn, p.2, hp, e2.symm⟩
  ·rintro ⟨hn, w, hw, rfl⟩
   exact ⟨(k, w), ⟨hw, by simpa using hn⟩, rfl⟩
theorem ownE_plain {a b : Pob} {d : Int} (h1 : a.kind = b.kind) (h2 : a.num = b.num) (h3 : a.gen = b.gen) (h4 : a.str = b.str) (h5 : a.keys = b.keys) (h6 : a.kids.length = b.kids.length) (hk : keyedB a.kind = false) : ownE a d = ownE b d := by
 have hu : uKeys b.kind = false := by rw [← h1]; exact hk
 have e1 : useB a d = useB b d := by unfold useB; rw [h1, h2, h3, h4, h5, h6]
 have e2 : fitsB a = fitsB b := by unfold fitsB; rw [h1, h2, h3]
 have e3 : shortB a = shortB b := by unfold shortB; rw [h1, h4]
 have e4 : formB a = formB b := by unfold formB; rw [h1, h4, hu] <;> rfl
 unfold ownE
 rw [e1, e2, e3, e4, h6]
theorem unkeyed_keys {o : Pob} {d : Int} (h : chk o d = 0) (hk : keyedB o.kind = false) : o.keys = [] := by
 have h1 := (ownE_spec (chk_own h)).2.1
 have hu : uKeys o.kind = false := hk
 unfold useB at h1
 rw [hu] at h1
 by_cases e : o.keys = []
 ·exact e
 ·exfalso
  have : decide ((o.keys.length : Int) = 0) = false := by
   have : o.keys.length ≠ 0 := fun h => e (List.eq_nil_of_length_eq_zero h)
   simp
   exact e
  simp only [this, cond_false, Bool.cond_false_right, Bool.and_false] at h1
  cases h1
theorem strip_plain {o : Pob} {d : Int} (h : chk o d = 0) (hk : keyedB o.kind = false) : (stripO u o).keys = [] ∧ (stripO u o).kids = o.kids.map (stripO u) := by
 have e := unkeyed_keys h hk
 rw [strip_keys, strip_kids, e]
 exact ⟨by simp [keepK], stripL_map _⟩
theorem kid_bulk {o x : Pob} (h : x ∈ o.kids) : x.bulk < o.bulk := by
 obtain ⟨i, hi, rfl⟩ := List.getElem_of_mem h
 have h1 := bulks_get hi
 rw [show o.kids.getD i Pob.null = o.kids[i] from by simp [List.getD, hi]] at h1
 rw [Pob.bulk_eq o]
 omega
/-- a valid object without keys is valid -/
theorem chk_strip : ∀ (N : Nat) (o : Pob) (d : Int), o.bulk < N → chk o d = 0 → chk (stripO u o) d = 0
 | 0, o, d, hN, _ => by omega
 | N + 1, o, d, hN, h => by
  have ih : ∀ x ∈ o.kids, ∀ d, chk x d = 0 → chk (stripO u x) d = 0 := fun x hx d hc => chk_strip N x d (by have := kid_bulk hx; omega) hc
  cases hk : keyedB o.kind with
  | true =>
   have hs := kvOk_of_chk h hk
   obtain ⟨k1, k2⟩ := strip_kv (u := u) hs
   obtain ⟨⟨h1, h2, h3, h4, h5, h6, h7⟩, _, h8⟩ := (chk_keyed hk).1 h
   rw [chk_keyed (by rw [strip_kind]; exact hk), strip_kind, strip_num, strip_gen, strip_str]
   refine ⟨⟨h1, h2, h3, h4, h5, h6, ?_⟩, k1, fun k v hv => ?_⟩
   ·have := stripL_len (u := u) o.kids o.keys
    rw [strip_kids]
    omega
   ·obtain ⟨_, w, hw, rfl⟩ := (k2 k v).1 hv
    obtain ⟨g1, g2, g3, g4⟩ := h8 k w hw
    rw [strip_kind]
    exact ⟨g1, g2, g3, ih w ((has_kid hs).2 ⟨k, hw⟩) _ g4⟩
  | false =>
   obtain ⟨p1, p2⟩ := strip_plain (u := u) h hk
   rw [chk_iff] at h ⊢
   refine ⟨?_, ?_⟩
   ·rw [ownE_plain (strip_kind o) (strip_num o) (strip_gen o) (strip_str o) (by rw [p1, unkeyed_keys (chk_iff.2 h) hk]) (by rw [p2]; simp) (by rw [strip_kind]; exact hk)]
    exact h.1
   ·rw [p2]
    intro x hx
    obtain ⟨y, hy, rfl⟩ := List.mem_map.1 hx
    exact ih y hy _ (h.2 y hy)
theorem strip_chk {o : Pob} {d : Int} (h : chk o d = 0) : chk (stripO u o) d = 0 := chk_strip (o.bulk + 1) o d (by omega) h
/-- no key of the list, nothing to be done -/
theorem strip_none : ∀ (N : Nat) (o : Pob) (d : Int), o.bulk < N → chk o d = 0 → stripO [] o = o
 | 0, o, d, hN, _ => by omega
 | N + 1, o, d, hN, h => by
  have ih : ∀ x ∈ o.kids, stripO [] x = x := fun x hx => strip_none N x (d + 1) (by have := kid_bulk hx; omega) ((chk_iff.1 h).2 x hx)
  cases hk : keyedB o.kind with
  | true =>
   have hs := kvOk_of_chk h hk
   obtain ⟨k1, k2⟩ := strip_kv (u := []) hs
   refine kv_ext k1 hs (strip_kind o) (strip_num o) (strip_gen o) (strip_str o) (fun k v => ?_)
   rw [k2]
   constructor
   ·rintro ⟨_, w, hw, rfl⟩
    rw [ih w ((has_kid hs).2 ⟨k, hw⟩)]
    exact hw
   ·intro hv
    exact ⟨by simp, v, hv, (ih v ((has_kid hs).2 ⟨k, hv⟩)).symm⟩
  | false =>
   obtain ⟨p1, p2⟩ := strip_plain (u := []) h hk
   rw [Pob_eq]
   refine ⟨strip_kind o, strip_num o, strip_gen o, strip_str o, by rw [p1, unkeyed_keys h hk], ?_⟩
   rw [p2]
   exact (List.map_congr_left ih).trans (List.map_id _)
/-- twice is once -/
theorem strip_again : ∀ (N : Nat) (o : Pob) (d : Int), o.bulk < N → chk o d = 0 → stripO u (stripO u o) = stripO u o
 | 0, o, d, hN, _ => by omega
 | N + 1, o, d, hN, h => by
  have ih : ∀ x ∈ o.kids, stripO u (stripO u x) = stripO u x := fun x hx => strip_again N x (d + 1) (by have := kid_bulk hx; omega) ((chk_iff.1 h).2 x hx)
  have hc := strip_chk (u := u) h
  cases hk : keyedB o.kind with
  | true =>
   have hs := kvOk_of_chk h hk
   obtain ⟨k1, k2⟩ := strip_kv (u := u) hs
   obtain ⟨m1, m2⟩ := strip_kv (u := u) k1
   refine kv_ext m1 k1 (strip_kind _) (strip_num _) (strip_gen _) (strip_str _) (fun k v => ?_)
   rw [m2, k2]
   constructor
   ·rintro ⟨hn, w, hw, rfl⟩
    obtain ⟨_, x, hx, rfl⟩ := (k2 k w).1 hw
    exact ⟨hn, x, hx, ih x ((has_kid hs).2 ⟨k, hx⟩)⟩
   ·rintro ⟨hn, x, hx, rfl⟩
    exact ⟨hn, stripO u x, (k2 k _).2 ⟨hn, x, hx, rfl⟩, (ih x ((has_kid hs).2 ⟨k, hx⟩)).symm⟩
  | false =>
   obtain ⟨p1, p2⟩ := strip_plain (u := u) h hk
   obtain ⟨q1, q2⟩ := strip_plain (u := u) hc (by rw [strip_kind]; exact hk)
   rw [Pob_eq]
   refine ⟨strip_kind _, strip_num _, strip_gen _, strip_str _, by rw [q1, p1], ?_⟩
   rw [q2, p2, List.map_map]
   exact List.map_congr_left fun x hx => ih x hx
/-- the references that are left -/
theorem strip_rr : ∀ (N : Nat) (o : Pob) (d : Int), o.bulk < N → chk o d = 0 → ∀ r ∈ (stripO u o).rr, r ∈ o.rr
 | 0, o, d, hN, _ => by omega
 | N + 1, o, d, hN, h => by
  have ih : ∀ x ∈ o.kids, ∀ r ∈ (stripO u x).rr, r ∈ x.rr := fun x hx => strip_rr N x (d + 1) (by have := kid_bulk hx; omega) ((chk_iff.1 h).2 x hx)
  intro r hr
  have hkid : ∀ y ∈ (stripO u o).kids, ∃ x ∈ o.kids, y = stripO u x := by
   intro y hy
   cases hk : keyedB o.kind with
   | true =>
    have hs := kvOk_of_chk h hk
    obtain ⟨k1, k2⟩ := strip_kv (u := u) hs
    obtain ⟨k, hv⟩ := (has_kid k1).1 hy
    obtain ⟨_, w, hw, rfl⟩ := (k2 k y).1 hv
    exact ⟨w, (has_kid hs).2 ⟨k, hw⟩, rfl⟩
   | false =>
    obtain ⟨p1, p2⟩ := strip_plain (u := u) h hk
    rw [p2] at hy
    obtain ⟨x, hx, rfl⟩ := List.mem_map.1 hy
    exact ⟨x, hx, rfl⟩
  rw [rr_eq, strip_kind] at hr
  by_cases h8 : o.kind = 8
  ·rw [if_pos h8] at hr
   have hnk : keyedB o.kind = false := by simp [keyedB, h8]
   obtain ⟨p1, p2⟩ := strip_plain (u := u) h hnk
   have hkd : o.kids = [] := chk_ref h h8
   have : stripO u o = o := by
    rw [Pob_eq]
    exact ⟨strip_kind o, strip_num o, strip_gen o, strip_str o, by rw [p1, unkeyed_keys h hnk], by rw [p2, hkd]; rfl⟩
   rw [this] at hr
   rw [rr_eq, if_pos h8]
   exact hr
  ·rw [if_neg h8] at hr
   rw [rr_eq, if_neg h8]
   rw [rrs_mem] at hr ⊢
   obtain ⟨y, hy, hr⟩ := hr
   obtain ⟨x, hx, rfl⟩ := hkid y hy
   exact ⟨x, hx, ih x hx r hr⟩
attribute [irreducible] stripO stripL
end Aw

namespace Aw
open Go
set_option linter.unusedVariables false
def cInfoK : List UInt8 := [73, 110, 102, 111]
def cIdK : List UInt8 := [73, 68]
def cut1 (u : List (List UInt8)) (t : Pob) (k : List UInt8) : Pob := if k ∈ u then dropO t k else t
def cleanT (u : List (List UInt8)) (t : Pob) : Pob := cut1 u (cut1 u t cInfoK) cIdK
def stripI (u : List (List UInt8)) (i : Itm) : Itm := ⟨i.num, i.gen, stripO u i.obj⟩
def cleanX (u : List (List UInt8)) (d : Dc) : Dc := ⟨d.items.map (stripI u), cleanT u d.trailer⟩
def cleanR (u : List (List UInt8)) (d : Dc) : List Int := fromP (cleanX u d) (cleanX u d).trailer
def cleanC (u : List (List UInt8)) (d : Dc) : Dc := ⟨(cleanX u d).items.filter fun i => decide (i.num ∈ cleanR u d), (cleanX u d).trailer⟩
def cleanD (u : List (List UInt8)) (d : Dc) : Dc := if docE d ≠ 0 then Dc.zero else cleanC u d
def leftI (u : List (List UInt8)) (d : Dc) (i : Itm) : Bool := !(lookI (cleanD u d).items i.num).isSome
def leftP (u : List (List UInt8)) (d : Dc) : List Int := if docE d ≠ 0 then [] else (d.items.filter (leftI u d)).map (·.num)
variable {u : List (List UInt8)} {d : Dc}
/-- a trailer that is valid -/
structure TrOk (t : Pob) : Prop where
 c : chk t 1 = 0
 k : t.kind = 7
theorem TrOk.key {t : Pob} (h : TrOk t) : keyedB t.kind = true := by simp [keyedB, h.k]
theorem TrOk.kv {t : Pob} (h : TrOk t) : t.kvOk := kvOk_of_chk h.c h.key
theorem cut1_ok {t : Pob} (h : TrOk t) (k : List UInt8) : TrOk (cut1 u t k) := by
 unfold cut1
 split
 ·exact ⟨dropO_chk h.c h.key, by rw [(dropO_frame t k).1]; exact h.k⟩
 ·exact h
theorem cut1_has {t : Pob} (h : TrOk t) {k x : List UInt8} {v : Pob} : (cut1 u t k).has x v ↔ ¬ (x = k ∧ k ∈ u) ∧ t.has x v := by
 unfold cut1
 split
 ·rename_i hm
  rw [(dropO_has h.c h.key).2]
  simp [hm]
 ·rename_i hm
  simp [hm]
theorem cleanT_ok {t : Pob} (h : TrOk t) : TrOk (cleanT u t) := cut1_ok (cut1_ok h _) _
theorem cleanT_has {t : Pob} (h : TrOk t) {x : List UInt8} {v : Pob} : (cleanT u t).has x v ↔ ¬ ((x = cInfoK ∨ x = cIdK) ∧ x ∈ u) ∧ t.has x v := by
 unfold cleanT
 rw [cut1_has (cut1_ok h _), cut1_has h]
 constructor
 ·rintro ⟨h1, h2, h3⟩
  refine ⟨?_, h3⟩
  rintro ⟨e | e, hm⟩
  ·exact h2 ⟨e, e ▸ hm⟩
  ·exact h1 ⟨e, e ▸ hm⟩
 ·rintro ⟨h1, h3⟩
  refine ⟨?_, ?_, h3⟩
  ·rintro ⟨e, hm⟩
   exact h1 ⟨.inr e, e ▸ hm⟩
  ·rintro ⟨e, hm⟩
   exact h1 ⟨.inl e, e ▸ hm⟩
theorem dropO_same {t : Pob} (h : TrOk t) {k : List UInt8} (hn : ∀ v, ¬ t.has k v) : dropO t k = t := by
 refine dropO_no ?_
 unfold dropB
 have : kthere t.keys k = false := by
  cases e : kthere t.keys k with
  | false => rfl
  | true =>
   obtain ⟨i, hi, hk⟩ := (kthere_iff h.kv.1).1 e
   exact absurd ⟨i, hi, hk, rfl⟩ (hn _)
 rw [this, Bool.and_false]
theorem cleanT_again {t : Pob} (h : TrOk t) : cleanT u (cleanT u t) = cleanT u t := by
 have h1 := cleanT_ok (u := u) h
 have e : ∀ k, (k = cInfoK ∨ k = cIdK) → cut1 u (cleanT u t) k = cleanT u t := by
  intro k hk
  rw [cut1]
  split
  ·rename_i hm
   exact dropO_same h1 fun v hv => ((cleanT_has h).1 hv).1 ⟨hk, hm⟩
  ·rfl
 rw [cleanT, e _ (.inl rfl), e _ (.inr rfl)]
theorem cleanT_bulk (t : Pob) : (cleanT u t).bulk ≤ t.bulk := by
 have h1 := dropO_bulk t cInfoK
 have h2 := dropO_bulk (cut1 u t cInfoK) cIdK
 have h3 : (cut1 u t cInfoK).bulk ≤ t.bulk := by
  rw [cut1]
  split <;> omega
 rw [cleanT, cut1]
 split <;> omega
theorem doc_tr (h : docE d = 0) : TrOk d.trailer := ⟨(trail_parts (docE_trail h)).1, (trail_parts (docE_trail h)).2.1⟩
theorem stripI_incr {l : List Itm} (h : incrN l) : incrN (l.map (stripI u)) := by
 rw [incrN_iff] at h ⊢
 exact List.pairwise_map.2 h
theorem stripI_bulk (l : List Itm) : ibulk (l.map (stripI u)) ≤ ibulk l := by
 induction l with
 | nil => simp
 | cons i l ih =>
  have := strip_bulk (u := u) i.obj
  rw [List.map_cons, ibulk_cons, ibulk_cons]
  simp only [stripI]
  omega
theorem lead_look {l : List Itm} (h : incrN l) {r : Pob} {i : Itm} : leadR l r = some i ↔ lookI l r.num = some i ∧ i.gen = r.gen := by
 constructor
 ·intro e
  obtain ⟨g1, g2, g3⟩ := leadR_mem e
  exact ⟨(look_some h).2 ⟨g1, g2⟩, g3⟩
 ·rintro ⟨e, g⟩
  obtain ⟨g1, g2⟩ := (look_some h).1 e
  exact leadR_some h g1 g2 g
theorem follow_lead (h : incrN d.items) {r : Pob} (hk : r.kind = 8) : followO d r = ((leadR d.items r).map (·.obj)).getD Pob.null := by
 rw [follow_look, if_neg (by simpa using hk)]
 cases e : leadR d.items r with
 | some i =>
  obtain ⟨g1, g2⟩ := (lead_look h).1 e
  rw [g1]
  simp [g2]
 | none =>
  cases e2 : lookI d.items r.num with
  | none => rfl
  | some i =>
   simp only []
   rw [if_pos]
   ·rfl
   ·intro g
    have := (lead_look h).2 ⟨e2, g⟩
    rw [e] at this
    cases this
theorem lead_strip {l : List Itm} (h : incrN l) (r : Pob) : leadR (l.map (stripI u)) r = (leadR l r).map (stripI u) := by
 cases e : leadR l r with
 | some i =>
  obtain ⟨g1, g2, g3⟩ := leadR_mem e
  exact leadR_some (stripI_incr h) (List.mem_map.2 ⟨i, g1, rfl⟩) g2 g3
 | none =>
  cases e2 : leadR (l.map (stripI u)) r with
  | none => rfl
  | some x =>
   obtain ⟨g1, g2, g3⟩ := leadR_mem e2
   obtain ⟨i, hi, rfl⟩ := List.mem_map.1 g1
   have := leadR_some h hi g2 g3
   rw [e] at this
   cases this
theorem strip_null : stripO u Pob.null = Pob.null := by rw [stripO_eq]; simp [Pob.null, Pob.kids, Pob.keys, keepK, stripL_nil, Pob.kind, Pob.num, Pob.gen, Pob.str]
theorem content_parts {i : Itm} (h : contentE i = 0) : chk i.obj 1 = 0 ∧ ¬ (i.obj.kind = 8 ∨ holdsB i.obj = true) := by
 by_cases h1 : chk i.obj 1 = 0
 ·refine ⟨h1, fun h2 => ?_⟩
  rw [content_knd h1 h2] at h
  cases h
 ·rw [content_bad h1] at h
  exact absurd h h1
theorem strip_get {o : Pob} (h : chk o 1 = 0) (hk : keyedB o.kind = true) (k : List UInt8) : getO (stripO u o) k = if k ∈ u then Pob.null else stripO u (getO o k) := by
 have hs := kvOk_of_chk h hk
 obtain ⟨k1, k2⟩ := strip_kv (u := u) hs
 have hk' : keyedB (stripO u o).kind = true := by rw [strip_kind]; exact hk
 by_cases hm : k ∈ u
 ·rw [if_pos hm]
  exact (get_no k1 hk' fun v hv => ((k2 k v).1 hv).1 hm).2
 ·rw [if_neg hm]
  by_cases hb : getB o k = true
  ·have hh := (get_has hs hk).1 ⟨hb, rfl⟩
   exact ((get_has k1 hk').2 ((k2 k _).2 ⟨hm, _, hh, rfl⟩)).2
  ·have hb' : getB o k = false := by simpa using hb
   have hn : getO o k = Pob.null := by simp [getO, hb']
   rw [hn, strip_null]
   refine (get_no k1 hk' fun v hv => ?_).2
   obtain ⟨_, w, hw, _⟩ := (k2 k v).1 hv
   exact hb ((get_has hs hk).2 hw).1
theorem strip_holds {o : Pob} (h : chk o 1 = 0) (hh : holdsB (stripO u o) = true) : holdsB o = true := by
 rw [hold_ref] at hh ⊢
 simp only [Bool.and_eq_true, decide_eq_true_eq, Bool.or_eq_true, strip_kind] at hh ⊢
 obtain ⟨h9, h5, hs⟩ := hh
 have hg := strip_get (u := u) h (by simp [keyedB, h9]) typeK
 by_cases hm : typeK ∈ u
 ·rw [if_pos hm] at hg
  rw [hg] at h5
  cases h5
 ·rw [if_neg hm] at hg
  rw [hg, strip_kind] at h5
  rw [hg, strip_str] at hs
  exact ⟨h9, h5, hs⟩
theorem strip_content {i : Itm} (h : contentE i = 0) : contentE (stripI u i) = 0 := by
 obtain ⟨h1, h2⟩ := content_parts h
 refine content_fine (strip_chk h1) ?_
 rintro (g | g)
 ·rw [show (stripI u i).obj = stripO u i.obj from rfl, strip_kind] at g
  exact h2 (.inl g)
 ·exact h2 (.inr (strip_holds h1 g))
theorem strip_items {l : List Itm} (h : itemsE l = 0) : itemsE (l.map (stripI u)) = 0 := by
 rw [items_iff] at h ⊢
 refine ⟨stripI_incr h.1, fun x hx => ?_⟩
 obtain ⟨i, hi, rfl⟩ := List.mem_map.1 hx
 exact ⟨(h.2 i hi).1, strip_content (h.2 i hi).2⟩
theorem trailOk_iff {ks : List (List UInt8)} : trailOk ks ↔ ∀ k ∈ ks, 0 ≤ kidxI trailK k := by
 unfold trailOk
 constructor
 ·intro h k hk
  obtain ⟨i, hi, rfl⟩ := List.getElem_of_mem hk
  have := h i hi
  simpa [List.getD, hi] using this
 ·intro h i hi
  have := h ks[i] (List.getElem_mem hi)
  simpa [List.getD, hi] using this
theorem key_has {o : Pob} (hs : o.kvOk) {k : List UInt8} : k ∈ o.keys ↔ ∃ v, o.has k v := by
 constructor
 ·intro h
  obtain ⟨i, hi, rfl⟩ := List.getElem_of_mem h
  exact ⟨_, i, hi, by simp [List.getD, hi], rfl⟩
 ·rintro ⟨v, i, hi, rfl, _⟩
  simp only [List.getD, List.getElem?_eq_getElem hi, Option.getD_some]
  exact List.getElem_mem hi
theorem cleanT_root {t : Pob} (h : TrOk t) : getO (cleanT u t) rootK = getO t rootK :=
 (get_congr (cleanT_ok h).kv h.kv (cleanT_ok h).key h.key fun v => by
  rw [cleanT_has h]
  refine ⟨fun g => g.2, fun g => ⟨?_, g⟩⟩
  rintro ⟨e | e, _⟩ <;> cases e).2
/-- what makes a trailer valid in a document -/
theorem trail_of {x : Dc} (h : TrOk x.trailer) (hk : ∀ k ∈ x.trailer.keys, 0 ≤ kidxI trailK k) (h8 : (getO x.trailer rootK).kind = 8) (h7 : (followO x (getO x.trailer rootK)).kind = 7) : trailE x = 0 := by
 rw [trail_root h.c h.k (trailOk_iff.2 hk), if_neg]
 rintro (g | g)
 ·exact g h8
 ·exact g h7
theorem doc_of {x : Dc} (h : itemsE x.items = 0) (ht : trailE x = 0) : docE x = 0 := by rw [doc_trail h]; exact ht
theorem cleanT_keys {t : Pob} (h : TrOk t) : ∀ k ∈ (cleanT u t).keys, k ∈ t.keys := fun k hk => by
 obtain ⟨v, hv⟩ := (key_has (cleanT_ok h).kv).1 hk
 exact (key_has h.kv).2 ⟨v, ((cleanT_has h).1 hv).2⟩
/-- the stripped document is valid -/
theorem cleanX_ok (h : docE d = 0) : docE (cleanX u d) = 0 := by
 have hi := docE_items h
 have ht := doc_tr h
 obtain ⟨_, _, h3, h4, h5⟩ := trail_parts (docE_trail h)
 refine doc_of (strip_items hi) (trail_of (cleanT_ok ht) (fun k hk => trailOk_iff.1 h3 k (cleanT_keys ht k hk)) ?_ ?_)
 ·rw [show (cleanX u d).trailer = cleanT u d.trailer from rfl, cleanT_root ht]
  exact h4
 ·rw [show (cleanX u d).trailer = cleanT u d.trailer from rfl, cleanT_root ht, follow_lead (stripI_incr (items_incr hi)) h4, show (cleanX u d).items = d.items.map (stripI u) from rfl, lead_strip (items_incr hi)]
  rw [follow_lead (items_incr hi) h4] at h5
  cases e : leadR d.items (getO d.trailer rootK) with
  | none => rw [e] at h5; cases h5
  | some i =>
   rw [e] at h5
   simp only [Option.map_some, Option.getD_some] at h5 ⊢
   rw [show (stripI u i).obj = stripO u i.obj from rfl, strip_kind]
   exact h5
theorem root_rr {t : Pob} (h : TrOk t) (h8 : (getO t rootK).kind = 8) : getO t rootK ∈ t.rr := by
 have hb : getB t rootK = true := by
  cases e : getB t rootK with
  | true => rfl
  | false =>
   have hn : getO t rootK = Pob.null := by simp [getO, e]
   rw [hn] at h8
   cases h8
 have hh := (get_has h.kv h.key).1 ⟨hb, rfl⟩
 rw [rr_eq, if_neg (by rw [h.k]; decide), rrs_mem]
 exact ⟨_, (has_kid h.kv).2 ⟨_, hh⟩, by rw [rr_eq, if_pos h8]; exact List.mem_singleton.2 rfl⟩
theorem lead_filter {l : List Itm} (h : incrN l) {R : List Int} {r : Pob} {i : Itm} : leadR (l.filter fun i => decide (i.num ∈ R)) r = some i ↔ leadR l r = some i ∧ i.num ∈ R := by
 have hf : incrN (l.filter fun i => decide (i.num ∈ R)) := incrN_iff.2 ((incrN_iff.1 h).sublist List.filter_sublist)
 constructor
 ·intro e
  obtain ⟨g1, g2, g3⟩ := leadR_mem e
  obtain ⟨g4, g5⟩ := List.mem_filter.1 g1
  exact ⟨leadR_some h g4 g2 g3, by simpa using g5⟩
 ·rintro ⟨e, hm⟩
  obtain ⟨g1, g2, g3⟩ := leadR_mem e
  exact leadR_some hf (List.mem_filter.2 ⟨g1, by simpa using hm⟩) g2 g3
theorem least_filter {l : List Itm} (h : incrN l) {start : List Pob} {R : List Int} (hR : leastR l start R) : leastR (l.filter fun i => decide (i.num ∈ R)) start R := by
 refine ⟨⟨fun r hr i hi => hR.1.1 r hr i ((lead_filter h).1 hi).1, fun i hi hm r hr x hx => hR.1.2 i (List.mem_filter.1 hi).1 hm r hr x ((lead_filter h).1 hx).1⟩, fun s' hs k hk => ?_⟩
 have hT : closedR l start (R.filter fun k => decide (k ∈ s')) := by
  refine ⟨fun r hr i hi => ?_, fun i hi hm r hr x hx => ?_⟩
  ·have h1 := hR.1.1 r hr i hi
   exact List.mem_filter.2 ⟨h1, by simpa using hs.1 r hr i ((lead_filter h).2 ⟨hi, h1⟩)⟩
  ·obtain ⟨h2, h3⟩ := List.mem_filter.1 hm
   have h1 := hR.1.2 i hi h2 r hr x hx
   refine List.mem_filter.2 ⟨h1, ?_⟩
   have := hs.2 i (List.mem_filter.2 ⟨hi, by simpa using h2⟩) (by simpa using h3) r hr x ((lead_filter h).2 ⟨hx, h1⟩)
   simpa using this
 simpa using (List.mem_filter.1 (hR.2 _ hT k hk)).2
/-- what is known of a cleaned document -/
structure CleanF (u : List (List UInt8)) (d : Dc) : Prop where
 x0 : docE (cleanX u d) = 0
 R : leastR (cleanX u d).items (cleanX u d).trailer.rr (cleanR u d)
 c0 : docE (cleanC u d) = 0
 e : cleanD u d = cleanC u d
theorem least_sort {l : List Itm} {start : List Pob} {a : List Int} (h : leastR l start a) : leastR l start (sortI a) :=
 ⟨⟨fun r hr i hi => sortI_mem.2 (h.1.1 r hr i hi), fun i hi hm r hr x hx => sortI_mem.2 (h.1.2 i hi (sortI_mem.1 hm) r hr x hx)⟩, fun s hs n hn => h.2 s hs n (sortI_mem.1 hn)⟩
theorem fromP_least {x : Dc} (h : docE x = 0) (hs : x.trailer.rr.length + ibulk x.items ≤ 33554432) : leastR x.items x.trailer.rr (fromP x x.trailer) := by
 rw [fromP_top h]
 exact least_sort (reachS_least (o := x.trailer) h (chk_top h) hs)
theorem fromP_one {x : Dc} (h : docE x = 0) (hs : x.trailer.rr.length + ibulk x.items ≤ 33554432) {a : List Int} (ha : leastR x.items x.trailer.rr a) (hl : a.Pairwise (· < ·)) : fromP x x.trailer = a := by
 refine lt_ext ?_ hl (leastR_one (fromP_least h hs) ha)
 rw [fromP_top h]
 exact sortI_lt (reachS_inv _ _).1
theorem fromP_lt (x : Dc) (o : Pob) : (fromP x o).Pairwise (· < ·) := by
 unfold fromP
 split
 ·exact sortI_lt (reachS_inv _ _).1
 ·exact List.Pairwise.nil
theorem cleanX_size (hs : d.bulk ≤ 16777216) : (cleanX u d).trailer.rr.length + ibulk (cleanX u d).items ≤ 33554432 := by
 have h1 := rr_len (cleanX u d).trailer
 have h2 := cleanT_bulk (u := u) d.trailer
 have h3 := stripI_bulk (u := u) d.items
 have h4 : d.bulk = ibulk d.items + d.trailer.bulk := rfl
 have h5 : (cleanX u d).trailer.bulk = (cleanT u d.trailer).bulk := rfl
 have h6 : ibulk (cleanX u d).items = ibulk (d.items.map (stripI u)) := rfl
 omega
theorem cleanC_size (hs : d.bulk ≤ 16777216) : (cleanC u d).trailer.rr.length + ibulk (cleanC u d).items ≤ 33554432 := by
 have h1 := cleanX_size (u := u) hs
 have h2 := ibulk_filter (cleanX u d).items fun i => decide (i.num ∈ cleanR u d)
 have h3 : (cleanC u d).trailer = (cleanX u d).trailer := rfl
 have h4 : ibulk (cleanC u d).items = ibulk ((cleanX u d).items.filter fun i => decide (i.num ∈ cleanR u d)) := rfl
 rw [h3]
 omega
theorem cleanC_incr (h : docE d = 0) : incrN (cleanC u d).items := incrN_iff.2 ((incrN_iff.1 (items_incr (docE_items (cleanX_ok h)))).sublist List.filter_sublist)
theorem clean_facts (h : docE d = 0) (hs : d.bulk ≤ 16777216) : CleanF u d := by
 have hx := cleanX_ok (u := u) h
 have hR := fromP_least hx (cleanX_size hs)
 have hxl := items_incr (docE_items hx)
 refine ⟨hx, hR, ?_, by rw [cleanD, if_neg (by simpa using h)]⟩
 have hi := docE_items hx
 obtain ⟨h1, h2, h3, h4, h5⟩ := trail_parts (docE_trail hx)
 have ht : TrOk (cleanX u d).trailer := ⟨h1, h2⟩
 have hcl := cleanC_incr (u := u) h
 refine doc_of ?_ (trail_of (x := cleanC u d) ht (trailOk_iff.1 h3) h4 ?_)
 ·rw [items_iff] at hi ⊢
  exact ⟨hcl, fun x hx => hi.2 x (List.mem_filter.1 hx).1⟩
 ·show (followO (cleanC u d) (getO (cleanX u d).trailer rootK)).kind = 7
  rw [follow_lead hxl h4] at h5
  rw [follow_lead hcl h4]
  cases e : leadR (cleanX u d).items (getO (cleanX u d).trailer rootK) with
  | none => rw [e] at h5; cases h5
  | some i =>
   have hm := hR.1.1 _ (root_rr ht h4) i e
   have this : leadR (cleanC u d).items (getO (cleanX u d).trailer rootK) = some i := (lead_filter hxl).2 ⟨e, hm⟩
   rw [e] at h5
   rw [this]
   exact h5
theorem CleanF.least (h : CleanF u d) (hd : docE d = 0) : leastR (cleanC u d).items (cleanC u d).trailer.rr (cleanR u d) := least_filter (items_incr (docE_items h.x0)) h.R
theorem CleanF.from (h : CleanF u d) (hd : docE d = 0) (hs : d.bulk ≤ 16777216) : fromP (cleanC u d) (cleanC u d).trailer = cleanR u d :=
 fromP_one h.c0 (cleanC_size hs) (h.least hd) (fromP_lt _ _)
theorem CleanF.lost (h : CleanF u d) (hd : docE d = 0) (hs : d.bulk ≤ 16777216) : lostP (cleanC u d) = [] := by
 refine List.eq_nil_iff_forall_not_mem.2 fun n hn => ?_
 obtain ⟨g1, g2⟩ := (lost_mem h.c0 n).1 hn
 refine g2 ?_
 rw [← from_mem h.c0, h.from hd hs]
 obtain ⟨i, hi, rfl⟩ := List.mem_map.1 g1
 simpa using (List.mem_filter.1 hi).2
theorem clean_obj (h : docE d = 0) : ∀ i ∈ (cleanC u d).items, ∃ j ∈ d.items, i = stripI u j ∧ chk j.obj 1 = 0 := by
 intro i hi
 obtain ⟨j, hj, rfl⟩ := List.mem_map.1 (List.mem_filter.1 hi).1
 exact ⟨j, hj, rfl, (content_parts ((items_iff.1 (docE_items h)).2 j hj).2).1⟩
/-- cleaning twice is cleaning once -/
theorem CleanF.again (h : CleanF u d) (hd : docE d = 0) (hs : d.bulk ≤ 16777216) : cleanC u (cleanC u d) = cleanC u d := by
 have e1 : (cleanC u d).items.map (stripI u) = (cleanC u d).items := by
  refine (List.map_congr_left fun i hi => ?_).trans (List.map_id _)
  obtain ⟨j, _, rfl, hc⟩ := clean_obj hd i hi
  unfold stripI
  rw [strip_again _ j.obj 1 (Nat.lt_succ_self _) hc]
  rfl
 have e2 : cleanT u (cleanC u d).trailer = (cleanC u d).trailer := cleanT_again (doc_tr hd)
 have e3 : cleanX u (cleanC u d) = cleanC u d := by rw [cleanX, e1, e2]
 have e4 : cleanR u (cleanC u d) = cleanR u d := by rw [cleanR, e3, h.from hd hs]
 have e5 : (cleanC u d).items.filter (fun i => decide (i.num ∈ cleanR u d)) = (cleanC u d).items := List.filter_eq_self.2 fun i hi => (List.mem_filter.1 hi).2
 rw [cleanC, e3, e4, e5]
/-- no reference becomes dangling -/
theorem CleanF.dang (h : CleanF u d) (hd : docE d = 0) : ∀ n ∈ danglingP (cleanC u d), n ∈ danglingP d := by
 intro n hn
 have hxl := items_incr (docE_items h.x0)
 have hl := items_incr (docE_items hd)
 obtain ⟨q, hq, r, hr, he, rfl⟩ := (dang_mem h.c0 n).1 hn
 have hnone : ∀ r, inS (cleanX u d).items (cleanR u d) r → leadR (cleanC u d).items r = none → leadR d.items r = none := by
  intro r hin hno
  cases e : leadR d.items r with
  | none => rfl
  | some i =>
   have e2 : leadR (cleanX u d).items r = some (stripI u i) := by
    rw [show (cleanX u d).items = d.items.map (stripI u) from rfl, lead_strip hl, e] <;> rfl
   have := (lead_filter hxl).2 ⟨e2, hin _ e2⟩
   rw [show (cleanX u d).items.filter (fun i => decide (i.num ∈ cleanR u d)) = (cleanC u d).items from rfl, hno] at this
   cases this
 rw [dang_mem hd]
 rcases List.mem_cons.1 hq with rfl | hq
 ·refine ⟨(0, d.trailer), List.mem_cons_self, r, ?_, hnone r (h.R.1.1 r hr) he, rfl⟩
  have ht := doc_tr hd
  have hT := cleanT_ok (u := u) ht
  have hr' : r ∈ (cleanT u d.trailer).rr := hr
  rw [rr_eq, if_neg (by rw [hT.k]; decide), rrs_mem] at hr'
  rw [rr_eq, if_neg (by rw [ht.k]; decide), rrs_mem]
  obtain ⟨y, hy, hr'⟩ := hr'
  obtain ⟨k, hv⟩ := (has_kid hT.kv).1 hy
  exact ⟨y, (has_kid ht.kv).2 ⟨k, ((cleanT_has ht).1 hv).2⟩, hr'⟩
 ·obtain ⟨i, hi, rfl⟩ := List.mem_map.1 hq
  obtain ⟨j, hj, rfl, hc⟩ := clean_obj hd i hi
  have hiR : (stripI u j).num ∈ cleanR u d := by simpa using (List.mem_filter.1 hi).2
  exact ⟨(j.num, j.obj), List.mem_cons_of_mem _ (List.mem_map.2 ⟨j, hj, rfl⟩), r, strip_rr _ j.obj 1 (Nat.lt_succ_self _) hc r hr, hnone r (h.R.1.2 _ (List.mem_filter.1 hi).1 hiR r hr) he, rfl⟩
theorem clean_look (h : docE d = 0) (i : Itm) (hi : i ∈ d.items) : (lookI (cleanC u d).items i.num).isSome = decide (i.num ∈ cleanR u d) := by
 by_cases hm : i.num ∈ cleanR u d
 ·have : lookI (cleanC u d).items i.num = some (stripI u i) := (look_some (cleanC_incr h)).2 ⟨List.mem_filter.2 ⟨List.mem_map.2 ⟨i, hi, rfl⟩, decide_eq_true hm⟩, rfl⟩
  rw [this]
  simp [hm]
 ·have : lookI (cleanC u d).items i.num = none := by
   rw [look_none]
   intro x hx e
   exact hm (e ▸ (by simpa using (List.mem_filter.1 hx).2))
  rw [this]
  simp [hm]
theorem CleanF.left (h : CleanF u d) (hd : docE d = 0) : (leftP u d).length + (cleanC u d).items.length = d.items.length := by
 have e : d.items.filter (leftI u d) = d.items.filter fun i => !decide (i.num ∈ cleanR u d) := by
  refine List.filter_congr fun i hi => ?_
  rw [leftI, h.e, clean_look hd i hi]
 have e2 : (cleanC u d).items.length = (d.items.filter fun i => decide (i.num ∈ cleanR u d)).length := by
  rw [show (cleanC u d).items = (d.items.map (stripI u)).filter (fun i => decide (i.num ∈ cleanR u d)) from rfl, List.filter_map, List.length_map]
  rfl
 have := filt_len (fun i : Itm => decide (i.num ∈ cleanR u d)) d.items
 rw [leftP, if_neg (by simpa using hd), List.length_map, e, e2]
 omega
theorem clean_get (h : docE d = 0) {i : Itm} (hi : i ∈ (cleanC u d).items) : ∃ j, lookI d.items i.num = some j ∧ j.gen = i.gen ∧ stripO u j.obj = i.obj ∧ chk j.obj 1 = 0 := by
 obtain ⟨j, hj, rfl, hc⟩ := clean_obj h i hi
 exact ⟨j, (look_some (items_incr (docE_items h))).2 ⟨hj, rfl⟩, rfl, rfl, hc⟩
mutual
/-- foliantlaw31.keyed -/
def keyedIn (u : List (List UInt8)) : Pob → Bool
 | .mk _ _ _ _ ks l => (ks.any fun k => decide (k ∈ u)) || keyedInL u l
def keyedInL (u : List (List UInt8)) : List Pob → Bool
 | [] => false
 | o :: l => keyedIn u o || keyedInL u l
end
attribute [irreducible] keyedIn keyedInL
end Aw

namespace Aw
open Go
def VB (b : Bool) : AV := .bool b
theorem zero_vb (m : Mem) : Rep m 1 (VB false) (.bool false) := by simp only [VB, Rep]
theorem mfind_mset {κ ν : Type} [DecidableEq κ] (l : List (κ × ν)) (k j : κ) (v : ν) : mfind (mset l k v) j = if k = j then some v else mfind l j := by
 induction l with
 | nil =>
  simp only [mset, mfind]
 | cons p l ih =>
  by_cases h : p.1 = k
  ·simp only [mset, if_pos h, mfind]
   by_cases hj : k = j
   ·rw [if_pos hj, if_pos hj]
   ·rw [if_neg hj, if_neg hj, if_neg (by rw [h]; exact hj)]
  ·simp only [mset, if_neg h, mfind, ih]
   by_cases hp : p.1 = j
   ·rw [if_pos hp, if_pos hp, if_neg (fun e => h (hp.trans e.symm))]
   ·rw [if_neg hp, if_neg hp]
def keySet {κ : Type} [DecidableEq κ] (ks : List κ) : List (κ × Bool) := ks.foldl (fun s k => mset s k true) []
theorem keySet_take {κ : Type} [DecidableEq κ] {ks : List κ} {i : Nat} {d : κ} (h : i < ks.length) : keySet (ks.take (i + 1)) = mset (keySet (ks.take i)) (ks.getD i d) true := by
 unfold keySet
 rw [List.take_succ_eq_append_getElem h, List.foldl_append]
 simp [List.getD, h]
theorem keySet_find {κ : Type} [DecidableEq κ] (ks : List κ) (k : κ) : (mfind (keySet ks) k).getD false = decide (k ∈ ks) := by
 have h : ∀ (ks : List κ) (s : List (κ × Bool)), (mfind (ks.foldl (fun s k => mset s k true) s) k).getD false = (decide (k ∈ ks) || (mfind s k).getD false) := by
  intro ks
  induction ks with
  | nil => intro s; simp
  | cons x ks ih =>
   intro s
   rw [List.foldl_cons, ih, mfind_mset]
   by_cases hx : x = k
   ·subst hx; simp
   ·rw [if_neg hx]
    have : decide (k ∈ x :: ks) = decide (k ∈ ks) := by simp [Ne.symm hx]
    rw [this]
 rw [keySet, h]
 simp [mfind]
theorem mres_key {κ : Type} [DecidableEq κ] (ks : List κ) (k : κ) : mres VB false false (keySet ks) k = .bool (decide (k ∈ ks)) := by
 unfold mres
 rw [if_neg (by decide), keySet_find]
 rfl
/-- what a valid object's keys and values may be -/
def kvLen (o : Pob) : Prop := o.keys = [] ∨ o.keys.length = o.kids.length
theorem kvLen_chk {o : Pob} {d : Int} (h : chk o d = 0) : kvLen o := by
 cases hk : keyedB o.kind with
 | true => exact .inr (kvOk_of_chk h hk).2
 | false => exact .inl (unkeyed_keys h hk)
variable {u : List (List UInt8)}
/-- the keys and values up to 'i' -/
def spK (u : List (List UInt8)) (o : Pob) (i : Nat) : List (List UInt8) := keepK u (o.keys.take i)
def spL (u : List (List UInt8)) (o : Pob) (i : Nat) : List Pob := stripL u (o.kids.take i) o.keys
theorem sp_zero (o : Pob) : spK u o 0 = [] ∧ spL u o 0 = [] := by simp [spK, spL, keepK, stripL_nil]
theorem sp_skip {o : Pob} {i : Nat} (h : i < o.kids.length) (hk : kvLen o) (hn : o.keys ≠ []) (hm : o.keys.getD i [] ∈ u) : spK u o (i + 1) = spK u o i ∧ spL u o (i + 1) = spL u o i := by
 have hl : i < o.keys.length := by rcases hk with e | e; exact absurd e hn; omega
 unfold spK spL
 rw [keepK_take hl, stripL_take h, keep1_in hl, if_pos hm, decide_eq_true hm]
 simp
theorem sp_keep {o : Pob} {i : Nat} (h : i < o.kids.length) (hk : kvLen o) (hn : o.keys ≠ []) (hm : ¬ o.keys.getD i [] ∈ u) : spK u o (i + 1) = spK u o i ++ [o.keys.getD i []] ∧ spL u o (i + 1) = spL u o i ++ [stripO u (o.kids.getD i Pob.null)] := by
 have hl : i < o.keys.length := by rcases hk with e | e; exact absurd e hn; omega
 unfold spK spL
 rw [keepK_take hl, stripL_take h, keep1_in hl, if_neg hm, decide_eq_false hm]
 simp
theorem sp_plain {o : Pob} {i : Nat} (h : i < o.kids.length) (hn : o.keys = []) : spK u o (i + 1) = spK u o i ∧ spL u o (i + 1) = spL u o i ++ [stripO u (o.kids.getD i Pob.null)] := by
 unfold spK spL
 rw [hn, stripL_take h, keep1_out (by simp)]
 simp
theorem sp_end (o : Pob) : stripO u o = .mk o.kind o.num o.gen o.str (spK u o o.kids.length) (spL u o o.kids.length) := by
 rw [stripO_eq, spK, spL, List.take_length]
theorem sp_len (o : Pob) (i : Nat) : (spK u o i).length ≤ o.keys.length ∧ (spL u o i).length ≤ o.kids.length :=
 ⟨Nat.le_trans (List.length_filter_le _ _) (List.length_take_le' _ _), Nat.le_trans (stripL_len _ _) (List.length_take_le' _ _)⟩
theorem noTL_VB : ∀ l : List (List UInt8 × Bool), noTL (l.map fun p => VB p.2) = true
 | [] => rfl
 | p :: l => by simp only [List.map_cons, noTL, VB, noT, Bool.true_and]; exact noTL_VB l
theorem noTL_KS : ∀ l : List (List UInt8 × Bool), noTL (l.map fun p => AV.str p.1) = true
 | [] => rfl
 | p :: l => by simp only [List.map_cons, noTL, noT, Bool.true_and]; exact noTL_KS l
theorem noTBm_keys (l : List (List UInt8 × Bool)) : noTBm (mapOf AV.str VB l) = true := by simp only [mapOf, noTBm, noTL_VB, noTL_KS, Bool.and_self]
theorem noTL_VBi : ∀ l : List (Int × Bool), noTL (l.map fun p => VB p.2) = true
 | [] => rfl
 | p :: l => by simp only [List.map_cons, noTL, VB, noT, Bool.true_and]; exact noTL_VBi l
theorem noTL_KSi : ∀ l : List (Int × Bool), noTL (l.map fun p => AV.int .i64 p.1) = true
 | [] => rfl
 | p :: l => by simp only [List.map_cons, noTL, noT, Bool.true_and]; exact noTL_KSi l
theorem noTBm_nums (l : List (Int × Bool)) : noTBm (mapOf (AV.int .i64) VB l) = true := by simp only [mapOf, noTBm, noTL_VBi, noTL_KSi, Bool.and_self]
end Aw

namespace Go.Proofs
open Go Aw
set_option linter.unusedSimpArgs false
set_option linter.unusedVariables false
set_option maxRecDepth 100000
set_option maxHeartbeats 2000000
attribute [local go_sem] take_strsAV app1_strsAV take_intsAV drop_intsAV app_intsAV app1_intsAV take_objsAV drop_objsAV app_objsAV app1_objsAV
attribute [local go_sem ↓ high] noTBm_keys renHp_cons noTHm_cons
theorem h_clean_set (gl : List (Nat × AV)) (ks : List (List UInt8)) (hl : ks.length ≤ 16777216 := by first | omega | exact u8_le _ | assumption | (simp; done) | (simp; omega)) : FnH Tryz.prog (gl) 36 [.sl (strsAV ks)] ([]) 0 (fun r h n => r = .ret (.map 0) ∧ h = [(0, mapOf AV.str VB (keySet ks))] ∧ n = 1) := by
 refine FnH.intro Tryz.func36 rfl rfl (by simp [Tryz.ntmps36]) ?_
 simp only [argEnv, Tryz.ntmps36, Tryz.results36]
 refine AW.rS ?_
 refine AW.rSC ?_
 refine awOps.cons ?_
 refine awGuard.mkM0 VB keyOk_str ?_
 refine awOps.rn ?_
 refine AW.rSC ?_
 refine awOps.cons ?_
 refine awGuard.clM keyOk_str (V := VB) ?_
 refine awOps.rn ?_
 refine AW.seq ?_
 refine AW.rS ?_
 refine AW.block ?_
 refine AW.lk (S := { i : Nat // i ≤ ks.length }) [3, 8, 9] (fun s_ => [(10, .int .i64 s_.1)]) (fun s_ => [(0, mapOf AV.str VB (keySet (ks.take s_.1)))]) 1 (fun s_ => ks.length - s_.1) ⟨0, Nat.zero_le _⟩ ?_ ?_
 ·refine St.le.vw [0]
 rintro ⟨i, hi⟩
 try dsimp only at hi
 refine AW.rS ?_
 refine AW.seq ?_
 refine AW.c2 ?_ ?_
 ·intro h14
  have hkt := keySet_take (d := []) h14
  refine AW.skip ?_
  refine AW.seq ?_
  refine AW.block ?_
  refine AW.rS ?_
  refine AW.rLC ?_
  refine awOps.cons ?_
  refine awGuard.upM keyOk_str true ?_
  refine awOps.rn ?_
  refine AW.rL ?_
  refine ⟨⟨i + 1, by omega⟩, ?_, ?_⟩
  ·refine St.le.vx [0] ?_
   rw [hkt] <;> rfl
  ·simp only []; omega
 ·intro h14
  refine AW.exit ?_
  obtain rfl : i = ks.length := by omega
  rw [List.take_length]
  refine AW.rS ?_
  refine AW.rt ?_
  trivial
theorem strip1_step (gl : List (Nat × AV)) (ks : List (List UInt8)) (n : Nat) (hN : n ≤ 16777000) (ih : ∀ (o' : Pob) (d : Int), o'.bulk ≤ n → chk o' d = 0 → FnP Tryz.prog gl 62 [.agg o'.cells, .tptr [cmapOf AV.str VB (keySet ks)], .tptr [recC 62 [.tptr [cmapOf AV.str VB (keySet ks)]] n]] fun r => r = .ret (.agg (stripO ks o').cells)) (o : Pob) (d : Int) (ho : o.bulk ≤ n + 1) (hc : chk o d = 0) : FnP Tryz.prog (gl) 62 [.agg o.cells, .tptr [cmapOf AV.str VB (keySet ks)], .tptr [.clos 62 [.tptr [cmapOf AV.str VB (keySet ks)], .tptr [recC 62 [.tptr [cmapOf AV.str VB (keySet ks)]] n]]]] fun r => r = .ret (.agg (stripO ks o).cells) := by
 refine FnP.intro Tryz.func62 rfl rfl (by simp [Tryz.ntmps62]) ?_
 simp only [argEnv, Tryz.ntmps62, Tryz.results62]
 have hb := Pob.bulk_eq o
 have hkv := kvLen_chk hc
 have hkk := fun x hx => (chk_iff.1 hc).2 x hx
 refine AW.rS ?_
 refine AW.rS ?_
 refine AW.seq ?_
 refine AW.rS ?_
 refine AW.block ?_
 refine AW.pre (St.le.nilcell 2 4 1 (by (simp only [go_sem, seval]; try (simp (disch := omega) only [zq]; try (simp only [go_sem, seval]; try (simp (disch := omega) only [zq]; try simp only [go_sem, seval])))); exact rfl) (by exact rfl)) ?_
 refine wk ?_
 refine AW.pre (St.le.nilcell 2 5 6 (by (simp only [go_sem, seval]; try (simp (disch := omega) only [zq]; try (simp only [go_sem, seval]; try (simp (disch := omega) only [zq]; try simp only [go_sem, seval])))); exact rfl) (by exact rfl)) ?_
 refine wk ?_
 refine AW.lk (S := { i : Nat // i ≤ o.kids.length }) [1, 2, 3, 4, 5, 18, 19] (fun s_ => [(20, .int .i64 s_.1)]) (fun s_ => [(0, .cells o.cells), (1, .cells [.int .i64 0, .int .i64 0, .int .i64 0, .str [], .raw (.slice none 0 0), .raw (.slice none 0 0)]), (2, .cells [.int .i64 o.kind, .int .i64 o.num, .int .i64 o.gen, .str o.str, .row 3 0 (spK ks o s_.1).length, .row 4 0 (spL ks o s_.1).length]), (3, .row 1 (strsAV (spK ks o s_.1)) true), (4, .row 6 (objsAV (spL ks o s_.1)) true)]) 5 (fun s_ => o.kids.length - s_.1) ⟨0, Nat.zero_le _⟩ ?_ ?_
 ·refine St.le.vx [0, 1, 2, 3, 4] ?_; rw [(sp_zero o).1, (sp_zero o).2] <;> exact ⟨rfl, rfl, rfl⟩
 rintro ⟨i, hi⟩
 try dsimp only at hi
 refine AW.rS ?_
 refine AW.seq ?_
 refine AW.c2 ?_ ?_
 ·intro h9
  have hkb := Pob.bulk_kid (o := o) (i := i) (by omega)
  have hsl := sp_len (u := ks) o i
  have hkc : chk (o.kids.getD i Pob.null) (d + 1) = 0 := hkk _ (by rw [List.getD_eq_getElem?_getD, List.getElem?_eq_getElem h9]; exact List.getElem_mem _)
  refine AW.skip ?_
  refine AW.seq ?_
  refine AW.block ?_
  refine AW.rS ?_
  refine AW.seq ?_
  refine AW.rS ?_
  refine AW.c2 ?_ ?_
  ·intro h16
   have hkl : o.keys.length = o.kids.length := hkv.resolve_left (fun e => by rw [e] at h16; simp at h16)
   have hkn : o.keys ≠ [] := fun e => by rw [e] at h16; simp at h16
   refine AW.seq ?_
   refine AW.fS [0, 1, 2, 3, 4, 5] [(6, 2)] ?_
   refine awFun.rn ?_
   rw [Aw.awFun_nil]
   refine awPlan.rn ?_
   refine awPlan.only rfl ?_
   refine awGuard.lkC keyOk_str false zero_vb (mres_key _ _) ?_
   refine awPlan.rn ?_
   refine AW.c2 ?_ ?_
   ·intro h24
    have hsk := sp_skip h9 hkv hkn h24
    refine AW.exit ?_
    refine AW.rL ?_
    refine ⟨⟨i + 1, by omega⟩, ?_, ?_⟩
    ·refine St.le.vx [0, 1, 2, 3, 4] ?_
     rw [hsk.1, hsk.2] <;> exact ⟨rfl, rfl, rfl⟩
    ·simp only []; omega
   ·intro h24
    have hsk := sp_keep h9 hkv hkn h24
    refine AW.skip ?_
    refine AW.fL [0, 1, 2, 3, 4, 5, 6, 7] [(8, 2), (9, 2), (10, 2)] ?_
    refine awFun.rn ?_
    refine awFun.bs [42] ?_
    refine awFun.rn ?_
    rw [Aw.awFun_nil]
    refine awPlan.rn ?_
    refine AW.fL [0, 1, 2, 3, 4, 5] [(6, 2), (7, 2), (8, 2)] ?_
    refine awFun.rn ?_
    refine awFun.c1 [48, 49] (ih (o.kids.getD i Pob.null) (d + 1) (by omega) hkc) ?_
    refine awFun.rn ?_
    refine awFun.bs [50] ?_
    refine awFun.rn ?_
    rw [Aw.awFun_nil]
    refine awPlan.rn ?_
    refine AW.rL ?_
    refine ⟨⟨i + 1, by omega⟩, ?_, ?_⟩
    ·refine St.le.vx [0, 1, 2, 6, 7] ?_
     rw [hsk.1, hsk.2]; exact ⟨by rw [List.length_append, List.length_append]; rfl, rfl, rfl⟩
    ·simp only []; omega
  ·intro h16
   have hkn : o.keys = [] := List.eq_nil_of_length_eq_zero (by omega)
   have hsk := sp_plain (u := ks) h9 hkn
   refine AW.skip ?_
   refine AW.fL [0, 1, 2, 3, 4, 5] [(6, 2), (7, 2), (8, 2)] ?_
   refine awFun.rn ?_
   refine awFun.c1 [48, 49] (ih (o.kids.getD i Pob.null) (d + 1) (by omega) hkc) ?_
   refine awFun.rn ?_
   refine awFun.bs [50] ?_
   refine awFun.rn ?_
   rw [Aw.awFun_nil]
   refine awPlan.rn ?_
   refine AW.rL ?_
   refine ⟨⟨i + 1, by omega⟩, ?_, ?_⟩
   ·refine St.le.vx [0, 1, 2, 3, 6] ?_
    rw [hsk.1, hsk.2]; exact ⟨by rw [List.length_append]; rfl, rfl, rfl⟩
   ·simp only []; omega
 ·intro h9
  refine AW.exit ?_
  obtain rfl : i = o.kids.length := by omega
  refine AW.rS ?_
  refine AW.rt ?_
  rw [sp_end o] <;> rfl
theorem strip1_all (gl : List (Nat × AV)) (ks : List (List UInt8)) : ∀ (n : Nat), n ≤ 16777000 → ∀ (o : Pob) (d : Int), o.bulk ≤ n → chk o d = 0 → FnP Tryz.prog gl 62 [.agg o.cells, .tptr [cmapOf AV.str VB (keySet ks)], .tptr [recC 62 [.tptr [cmapOf AV.str VB (keySet ks)]] n]] fun r => r = .ret (.agg (stripO ks o).cells)
 | 0, _, o, d, ho, _ => by have := Pob.bulk_pos o; omega
 | n + 1, hn, o, d, ho, hc => strip1_step gl ks n (by omega) (fun o' d' h1 h2 => strip1_all gl ks n (by omega) o' d' h1 h2) o d ho hc
theorem c_clean_strip (gl : List (Nat × AV)) (ks : List (List UInt8)) (o : Pob) (d : Int) (ho : o.bulk ≤ 16777000) (hc : chk o d = 0) : FnP Tryz.prog (gl) 37 [cmapOf AV.str VB (keySet ks), .agg o.cells] fun r => r = .ret (.agg (stripO ks o).cells) := by
 refine FnP.intro Tryz.func37 rfl rfl (by simp [Tryz.ntmps37]) ?_
 simp only [argEnv, Tryz.ntmps37, Tryz.results37]
 refine AW.rS ?_
 refine AW.rS ?_
 refine AW.rS ?_
 refine AW.rSC ?_
 refine awOps.cons (awGuard.cR 16777000 (strip1_all _ ks 16777000 (Nat.le_refl _) o d ho hc) ?_)
 refine awOps.rn ?_
 refine AW.rt ?_
 all_goals first | contradiction | rfl | (simp; done) | (simp; omega)
theorem c_clean_Strip (gl : List (Nat × AV)) (ks : List (List UInt8)) (o : Pob) (ho : o.bulk ≤ 16777000 := by first | omega | exact u8_le _ | assumption | (simp; done) | (simp; omega)) (hl : ks.length ≤ 16777216 := by first | omega | exact u8_le _ | assumption | (simp; done) | (simp; omega)) : FnP Tryz.prog (gl) 11 [.agg o.cells, .sl (strsAV ks)] fun r => r = .ret (.agg (if chk o 1 = 0 then stripO ks o else o).cells) := by
 refine FnP.intro Tryz.func11 rfl rfl (by simp [Tryz.ntmps11]) ?_
 simp only [argEnv, Tryz.ntmps11, Tryz.results11]
 refine AW.rS ?_
 refine AW.seq ?_
 refine AW.rSC ?_
 refine awOps.cons (awGuard.c1 (c_value_Check _ o (by omega)) ?_)
 refine awOps.rn ?_
 refine AW.c2 ?_ ?_
 ·intro h6
  refine AW.rSC ?_
  refine awOps.cons (awGuard.c1 (c_value_Clone _ o (by omega)) ?_)
  refine awOps.rn ?_
  refine AW.rt ?_
  rw [if_neg h6]
 ·intro h6
  refine AW.skip ?_
  refine AW.tG (σf := ?sf3) (.take 0 0 (.fork 1 (.fork 2 (.fork 3 (.fork 4 .done .stop) .stop) .stop) (.fork 2 (.fork 1 (.fork 3 (.fork 4 .done .stop) .stop) .stop) .stop))) ?tree3 ?rest3
  case tree3 =>
   refine awTree.tk ?_
   refine awTree.fH rfl (awGuard.cHm [] (h_clean_set _ ks) ?_) ?_
   ·refine awTree.fA ?_ ?_
    ·refine awTree.fC (c_clean_strip _ ks o 1 (by omega) h6) ?_ ?_
     ·refine awTree.fA ?_ ?_
      ·exact awTree.dn
      ·exact trivial
     ·exact trivial
    ·exact trivial
   ·refine awTree.fA ?_ ?_
    ·refine awTree.fH rfl (awGuard.cHm [] (h_clean_set _ ks) ?_) ?_
     ·refine awTree.fC (c_clean_strip _ ks o 1 (by omega) h6) ?_ ?_
      ·refine awTree.fA ?_ ?_
       ·exact awTree.dn
       ·exact trivial
      ·exact trivial
     ·exact trivial
    ·exact trivial
  case rest3 =>
  skip
  skip
  skip
  skip
  refine AW.rt ?_
  rw [if_pos h6]
  all_goals first | contradiction | rfl | (simp; done) | (simp; omega)
end Go.Proofs

namespace Aw
open Go
set_option linter.unusedVariables false
def firstI (p : Itm → Bool) (l : List Itm) : Int := if l.findIdx p < l.length then (l.findIdx p : Int) else -1
theorem getD_zero {l : List Itm} {i : Nat} (h : i < l.length) : l.getD i Itm.zero = l[i] := by simp [List.getD, h]
theorem firstI_hit {p : Itm → Bool} {l : List Itm} {i : Nat} (h : i < l.length) (hs : ∀ j, j < i → p (l.getD j Itm.zero) = false) (hp : p (l.getD i Itm.zero) = true) : firstI p l = i := by
 have : l.findIdx p = i := by
  rw [List.findIdx_eq h]
  refine ⟨by rw [← getD_zero h]; exact hp, fun j hj => ?_⟩
  have := hs j hj
  rw [getD_zero (Nat.lt_trans hj h)] at this
  simpa using this
 simp [firstI, this, h]
theorem firstI_miss {p : Itm → Bool} {l : List Itm} (hs : ∀ j, j < l.length → p (l.getD j Itm.zero) = false) : firstI p l = -1 := by
 have : ¬ l.findIdx p < l.length := by
  intro h
  have h2 : p l[l.findIdx p] = true := List.findIdx_getElem (w := h)
  have := hs _ h
  rw [getD_zero h, h2] at this
  cases this
 simp [firstI, this]
theorem firstI_cases (p : Itm → Bool) (l : List Itm) : (firstI p l = -1 ∧ ∀ x ∈ l, p x = false) ∨ ∃ i : Nat, firstI p l = i ∧ i < l.length ∧ (∀ j, j < i → p (l.getD j Itm.zero) = false) ∧ p (l.getD i Itm.zero) = true := by
 by_cases h : l.findIdx p < l.length
 ·refine .inr ⟨l.findIdx p, by simp [firstI, h], h, fun j hj => ?_, ?_⟩
  ·rw [getD_zero (Nat.lt_trans hj h)]
   simpa using List.not_of_lt_findIdx hj
  ·rw [getD_zero h]
   exact List.findIdx_getElem (w := h)
 ·refine .inl ⟨by simp [firstI, h], fun x hx => ?_⟩
  have h2 : l.findIdx p = l.length := by have := List.findIdx_le_length (xs := l) (p := p); omega
  exact (List.findIdx_eq_length.1 h2) x hx
/-- the list while it is worked upon: 'i' are kept, up to 'j' it is done -/
def delJ (p : Itm → Bool) (l cur : List Itm) (i j : Nat) : Prop := cur.length = l.length ∧ i ≤ j ∧ j ≤ l.length ∧ cur.take i = (l.take j).filter (fun x => !p x) ∧ cur.drop j = l.drop j
theorem delJ_top {p : Itm → Bool} {l : List Itm} {i : Nat} (h : i < l.length) (hs : ∀ j, j < i → p (l.getD j Itm.zero) = false) (hp : p (l.getD i Itm.zero) = true) : delJ p l l i (i + 1) := by
 refine ⟨rfl, by omega, by omega, ?_, rfl⟩
 rw [List.take_succ_eq_append_getElem h, List.filter_append, List.filter_cons, ← getD_zero h]
 have e : (l.take i).filter (fun x => !p x) = l.take i := List.filter_eq_self.2 fun x hx => by
  obtain ⟨k, hk, rfl⟩ := List.getElem_of_mem hx
  simp only [List.length_take] at hk
  have := hs k (by omega)
  rw [getD_zero (by omega)] at this
  simpa using this
 rw [e, hp]
 simp
theorem delJ_at {p : Itm → Bool} {l cur : List Itm} {i j : Nat} (h : delJ p l cur i j) (hj : j < l.length) : cur.getD j Itm.zero = l.getD j Itm.zero := by
 obtain ⟨h1, h2, h3, h4, h5⟩ := h
 have := congrArg List.head? h5
 rw [List.head?_drop, List.head?_drop] at this
 rw [List.getD_eq_getElem?_getD, List.getD_eq_getElem?_getD, this]
theorem delJ_skip {p : Itm → Bool} {l cur : List Itm} {i j : Nat} (h : delJ p l cur i j) (hj : j < l.length) (hp : p (l.getD j Itm.zero) = true) : delJ p l cur i (j + 1) := by
 obtain ⟨h1, h2, h3, h4, h5⟩ := h
 refine ⟨h1, by omega, by omega, ?_, ?_⟩
 ·rw [h4, List.take_succ_eq_append_getElem hj, List.filter_append, List.filter_cons, ← getD_zero hj, hp]
  simp
 ·rw [← List.drop_drop, h5, List.drop_drop]
theorem delJ_keep {p : Itm → Bool} {l cur : List Itm} {i j : Nat} (h : delJ p l cur i j) (hj : j < l.length) (hi : i < j) (hp : p (l.getD j Itm.zero) = false) : delJ p l (cur.set i (l.getD j Itm.zero)) (i + 1) (j + 1) := by
 obtain ⟨h1, h2, h3, h4, h5⟩ := h
 refine ⟨by rw [List.length_set]; exact h1, by omega, by omega, ?_, ?_⟩
 ·have hic : i < (cur.set i (l.getD j Itm.zero)).length := by rw [List.length_set]; omega
  rw [List.take_succ_eq_append_getElem hic, List.take_succ_eq_append_getElem hj, List.filter_append, ← h4, List.filter_cons, ← getD_zero hj, List.take_set_of_le (Nat.le_refl i), hp]
  simp
 ·rw [List.drop_set_of_lt (by omega), ← List.drop_drop, h5, List.drop_drop]
theorem delJ_end {p : Itm → Bool} {l cur : List Itm} {i j : Nat} (h : delJ p l cur i j) (hj : ¬ j < l.length) : cur.take i = l.filter (fun x => !p x) := by
 obtain ⟨h1, h2, h3, h4, h5⟩ := h
 rw [h4, List.take_of_length_le (by omega)]
def goneP (R : List Int) (x : Itm) : Bool := !decide (x.num ∈ R)
theorem goneP_filter (R : List Int) (l : List Itm) : l.filter (fun x => !goneP R x) = l.filter fun i => decide (i.num ∈ R) := by
 simp [goneP]
end Aw

namespace Go.Proofs
open Go Aw
set_option linter.unusedSimpArgs false
set_option linter.unusedVariables false
set_option maxRecDepth 100000
set_option maxHeartbeats 2000000
attribute [local go_sem] take_itemsAV app_itemsAV itemsAV_length
attribute [local go_sem ↓ high] noTBm_nums renHp_cons noTHm_cons
theorem take_splice {α : Type} {sp zs : List α} {i : Nat} (h : i ≤ sp.length) : List.take i (splice sp i zs) = sp.take i := by
 simp only [splice, List.append_assoc]
 rw [List.take_append_of_le_length (by rw [List.length_take]; omega), List.take_take, Nat.min_self]
theorem c_clean_Doc_1 (gl : List (Nat × AV)) (R : List Int) (i : Itm) : FnP Tryz.prog (gl) 45 [.agg i.cells, .tptr [cmapOf (AV.int .i64) VB (keySet R)]] fun r => r = .ret (.bool (goneP R i)) := by
 refine FnP.intro Tryz.func45 rfl rfl (by simp [Tryz.ntmps45]) ?_
 simp only [argEnv, Tryz.ntmps45, Tryz.results45]
 refine AW.rS ?_
 refine AW.rSC ?_
 refine awOps.cons ?_
 refine awGuard.lkC (keyOk_int .i64) false zero_vb (mres_key _ _) ?_
 refine awOps.rn ?_
 refine AW.rt ?_
 all_goals first | contradiction | rfl | (simp; done) | (simp; omega)
theorem h_IndexFunc_gone (gl : List (Nat × AV)) (R : List Int) (l : List Itm) (hl : l.length ≤ 16777216 := by first | omega | exact u8_le _ | assumption | (simp; done) | (simp; omega)) : FnH Tryz.prog (gl) 70 [.row 0 0 l.length, .clos 45 [.ptr 1 0]] ([(0, .row 8 (itemsAV l) true), (1, .cells [.map 2]), (2, mapOf (AV.int .i64) VB (keySet R))]) 3 (fun r h n => r = .ret (.int .i64 (firstI (goneP R) l)) ∧ h = [(0, .row 8 (itemsAV l) true), (1, .cells [.map 2]), (2, mapOf (AV.int .i64) VB (keySet R))] ∧ n = 3) := by
 refine FnH.intro Tryz.func70 rfl rfl (by simp [Tryz.ntmps70]) ?_
 simp only [argEnv, Tryz.ntmps70, Tryz.results70]
 refine AW.rS ?_
 refine AW.seq ?_
 refine AW.rS ?_
 refine AW.block ?_
 refine AW.lk (S := { i : Nat // i ≤ l.length ∧ ∀ j, j < i → goneP R (l.getD j Itm.zero) = false }) [0, 1, 7] (fun s_ => [(8, .int .i64 s_.1)]) (fun s_ => [(0, .row 8 (itemsAV l) true), (1, .cells [.map 2]), (2, mapOf (AV.int .i64) VB (keySet R))]) 3 (fun s_ => l.length - s_.1) ⟨0, Nat.zero_le _, fun j h => absurd h (by omega)⟩ ?_ ?_
 ·refine St.le.vw [0, 1, 2] (hpre := lt3)
 rintro ⟨i, hi, hs⟩
 try dsimp only at hi
 try dsimp only at hs
 refine AW.rS ?_
 refine AW.seq ?_
 refine AW.c2 ?_ ?_
 ·intro h8
  refine AW.skip ?_
  refine AW.seq ?_
  refine AW.block ?_
  refine AW.rS ?_
  refine AW.rSC ?_
  refine awOps.cons (awGuard.c1 (c_clean_Doc_1 _ R (l.getD i Itm.zero)) ?_)
  refine awOps.rn ?_
  refine AW.c2 ?_ ?_
  ·intro h16
   refine AW.rS ?_
   refine AW.rt ?_
   rw [firstI_hit h8 hs h16]
  ·intro h16
   refine AW.skip ?_
   refine AW.rL ?_
   refine ⟨⟨i + 1, by omega, fun j hj => (Nat.lt_or_ge j i).elim (hs j) (fun h => (show j = i by omega) ▸ (by simpa using h16))⟩, ?_, ?_⟩
   ·refine St.le.vw [0, 1, 2] (hpre := lt3)
   ·simp only []; omega
 ·intro h8
  refine AW.exit ?_
  refine AW.rS ?_
  refine AW.rt ?_
  rw [firstI_miss (fun j hj => hs j (by omega))]
theorem h_DeleteFunc_gone (gl : List (Nat × AV)) (R : List Int) (l : List Itm) (hl : l.length ≤ 16777216 := by first | omega | exact u8_le _ | assumption | (simp; done) | (simp; omega)) : FnH Tryz.prog (gl) 44 [.row 0 0 l.length, .clos 45 [.ptr 1 0]] ([(0, .row 8 (itemsAV l) true), (1, .cells [.map 2]), (2, mapOf (AV.int .i64) VB (keySet R))]) 3 (fun r h n => r = .ret (.row 0 0 (l.filter fun x => !goneP R x).length) ∧ h = [(0, .row 8 (itemsAV (l.filter fun x => !goneP R x)) true), (1, .cells [.map 2]), (2, mapOf (AV.int .i64) VB (keySet R))] ∧ n = 3) := by
 refine FnH.intro Tryz.func44 rfl rfl (by simp [Tryz.ntmps44]) ?_
 simp only [argEnv, Tryz.ntmps44, Tryz.results44]
 refine AW.rS ?_
 refine AW.rSC ?_
 refine awOps.cons (awGuard.cHm [0, 1, 2] (h_IndexFunc_gone _ R l) ?_)
 refine awOps.rn ?_
 refine AW.seq ?_
 refine AW.rS ?_
 refine AW.c2 ?_ ?_
 ·intro h7
  have hall : ∀ x ∈ l, goneP R x = false := ((firstI_cases (goneP R) l).resolve_right (by rintro ⟨i, e, _⟩; omega)).2
  have hfl : l.filter (fun x => !goneP R x) = l := List.filter_eq_self.2 fun x hx => by rw [hall x hx] <;> rfl
  refine AW.rS ?_
  refine AW.rt ?_
  rw [hfl]
  exact ⟨rfl, rfl⟩
 ·intro h7
  rcases firstI_cases (goneP R) l with ⟨e, _⟩ | ⟨i0, e, hi0, hs0, hp0⟩
  ·exact absurd e h7
  rw [e]
  refine AW.skip ?_
  refine AW.seq ?_
  refine AW.rS ?_
  refine AW.block ?_
  refine AW.lk (S := { p : List Itm × Nat × Nat // delJ (goneP R) l p.1 p.2.1 p.2.2 ∧ p.2.1 < p.2.2 }) [0, 1] (fun s_ => [(5, .int .i64 s_.1.2.1), (6, .int .i64 s_.1.2.2)]) (fun s_ => [(0, .row 8 (itemsAV s_.1.1) true), (1, .cells [.map 2]), (2, mapOf (AV.int .i64) VB (keySet R))]) 3 (fun s_ => l.length - s_.1.2.2) ⟨(l, i0, i0 + 1), delJ_top hi0 hs0 hp0, Nat.lt_succ_self _⟩ ?_ ?_
  ·refine St.le.vw [0, 1, 2] (hpre := lt3)
  rintro ⟨⟨cur, i, j⟩, hd, hij⟩
  try dsimp only at hd
  try dsimp only at hij
  have hcl := hd.1
  have hjb := hd.2.2.1
  refine AW.seq ?_
  refine AW.rS ?_
  refine AW.c2 ?_ ?_
  ·intro h18
   have hjl : j < l.length := by omega
   have hat := delJ_at hd hjl
   refine AW.skip ?_
   refine AW.seq ?_
   refine AW.block ?_
   refine AW.rS ?_
   refine AW.rSC ?_
   refine awOps.cons (awGuard.c1 (c_clean_Doc_1 _ R (cur.getD j Itm.zero)) ?_)
   refine awOps.rn ?_
   refine AW.c2 ?_ ?_
   ·intro h26
    have hk := delJ_keep hd hjl hij (by rw [← hat]; simpa using h26)
    refine AW.rS ?_
    refine AW.rL ?_
    refine AW.rL ?_
    refine ⟨⟨(cur.set i (l.getD j Itm.zero), i + 1, j + 1), hk, by dsimp only; omega⟩, ?_, ?_⟩
    ·refine St.le.vx [0, 1, 2] (hpre := lt3) ?_; rw [itemsAV_set', hat] <;> exact ⟨rfl, rfl⟩
    ·simp only []; omega
   ·intro h26
    have hk := delJ_skip hd hjl (by rw [← hat]; simpa using h26)
    refine AW.skip ?_
    refine AW.rL ?_
    refine ⟨⟨(cur, i, j + 1), hk, by dsimp only; omega⟩, ?_, ?_⟩
    ·refine St.le.vw [0, 1, 2] (hpre := lt3)
    ·simp only []; omega
  ·intro h18
   refine AW.exit ?_
   have hend := delJ_end hd (by omega)
   refine AW.tf 0 (fun sp hsp hse => ?_)
   rw [itemsAV_length, hcl] at hsp hse
   have hij2 : i ≤ l.length := by omega
   refine AW.rSC ?_
   refine awOps.cons ?_
   refine awGuard.fcr ?_ ?_
   ·first | omega | (simp; done) | (simp; omega)
   refine awOps.rn ?_
   refine AW.uf 0 i ?_
   refine AW.rS ?_
   refine AW.rt ?_
   have hi2 : (l.filter fun x => !goneP R x).length = i := by
    rw [← hend, List.length_take]
    omega
   have ht : ∀ zs : List (List AV), List.take i (splice sp i zs) = itemsAV (l.filter fun x => !goneP R x) := fun zs => by
    rw [take_splice (by omega), ← hend, ← take_itemsAV, ← hse, List.take_take, Nat.min_eq_left hij2]
   rw [ht, hi2]
   exact ⟨rfl, rfl⟩
end Go.Proofs

namespace Go.Proofs
open Go Aw
set_option linter.unusedSimpArgs false
set_option linter.unusedVariables false
set_option maxRecDepth 100000
set_option maxHeartbeats 4000000

theorem noTL_cells (z : Pob) : noTL z.cells = true := by cases z; rfl
theorem h_maps_Keys (gl : List (Nat × AV)) (s : List Int) : FnH Tryz.prog (gl) 116 [.map 0] ([(0, setOf (fun n => AV.int .i64 n) s)]) 1 (fun r h n => r = .ret (.clos 123 [.ptr 1 0]) ∧ h = [(0, setOf (fun n => AV.int .i64 n) s), (1, .cells [.map 0])] ∧ n = 2) := by
 refine FnH.intro Tryz.func116 rfl rfl (by simp [Tryz.ntmps116]) ?_
 simp only [argEnv, Tryz.ntmps116, Tryz.results116]
 refine AW.rS ?_
 refine AW.rS ?_
 refine AW.rt ?_
 all_goals first | contradiction | rfl | (simp; done) | (simp; omega)
end Go.Proofs
