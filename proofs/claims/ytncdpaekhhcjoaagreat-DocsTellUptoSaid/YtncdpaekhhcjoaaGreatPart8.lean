/- A part of the proof of a law of the seat: no condition of its own. -/
import Derived.Test.YtncdpaekhhcjoaaGreatPart7
namespace Aw
open Go
/-- the key 'k' lies in the object with the value 'v' -/
def Pob.has (o : Pob) (k : List UInt8) (v : Pob) : Prop := ∃ i, i < o.keys.length ∧ o.keys.getD i [] = k ∧ o.kids.getD i Pob.null = v
/-- keys that increase, each with its value -/
def Pob.kvOk (o : Pob) : Prop := incr o.keys ∧ o.keys.length = o.kids.length
theorem incr_inj {ks : List (List UInt8)} (hs : incr ks) {i j : Nat} (hi : i < ks.length) (hj : j < ks.length) (h : ks.getD i [] = ks.getD j []) : i = j := by
  rcases Nat.lt_trichotomy i j with g | g | g
  · have := hs i j g hj; rw [h, bl_irrefl] at this; cases this
  · exact g
  · have := hs j i g hi; rw [h, bl_irrefl] at this; cases this
theorem kthere_at {ks : List (List UInt8)} {key : List UInt8} (h : kthere ks key = true) : ks.getD (kplace ks key) [] = key := by
  simp only [kthere, Bool.and_eq_true, decide_eq_true_eq] at h; exact h.2
theorem kthere_iff {ks : List (List UInt8)} {key : List UInt8} (hs : incr ks) : kthere ks key = true ↔ ∃ i, i < ks.length ∧ ks.getD i [] = key := by
  constructor
  · intro h; exact ⟨_, kthere_lt h, kthere_at h⟩
  · rintro ⟨i, hi, rfl⟩
    have e : kplace ks (ks.getD i []) = i := kplace_eq (Nat.le_of_lt hi) (fun a ha => hs a i ha hi) (fun _ => bl_irrefl _)
    rw [kthere_eq e]
    simp [hi]
theorem kvOk_of_chk {o : Pob} {d : Int} (h : chk o d = 0) (hk : keyedB o.kind = true) : o.kvOk := ⟨rising_incr (chk_rising h hk), (chk_rising h hk).1⟩
theorem getD_delAt' {α : Type} {l : List α} {i j : Nat} {d : α} : (delAt l i).getD j d = if j < i then l.getD j d else l.getD (j + 1) d := by
  simp only [delAt, List.getD, List.getElem?_append, List.getElem?_take, List.length_take, List.getElem?_drop]
  grind
theorem getD_set' {α : Type} {l : List α} {i j : Nat} {x d : α} (hi : i < l.length) : (l.set i x).getD j d = if j = i then x else l.getD j d := by
  simp only [List.getD, List.getElem?_set]
  grind
theorem has_one {o : Pob} (hs : o.kvOk) {k : List UInt8} {v w : Pob} (hv : o.has k v) (hw : o.has k w) : v = w := by
  obtain ⟨i, hi, e1, rfl⟩ := hv
  obtain ⟨j, hj, e2, rfl⟩ := hw
  rw [incr_inj hs.1 hi hj (e1.trans e2.symm)]
theorem has_withK {o : Pob} (hs : o.kvOk) {key : List UInt8} {v : Pob} {k : List UInt8} {w : Pob} : (o.withK key v).has k w ↔ (k = key ∧ w = v) ∨ (k ≠ key ∧ o.has k w) := by
  have hle := kplace_le o.keys key
  cases h : kthere o.keys key with
  | true =>
    have hl := kthere_lt h
    have hat := kthere_at h
    have hl' : kplace o.keys key < o.kids.length := by have := hs.2; omega
    rw [withK_there h]
    simp only [Pob.has, Pob.keys_mk, Pob.kids_mk]
    constructor
    · rintro ⟨i, hi, rfl, rfl⟩
      rw [getD_set' hl']
      by_cases e : i = kplace o.keys key
      · left; rw [if_pos e, e]; exact ⟨hat, rfl⟩
      · right
        refine ⟨fun e2 => e (incr_inj hs.1 hi hl (e2.trans hat.symm)), i, hi, rfl, ?_⟩
        rw [if_neg e]
    · rintro (⟨rfl, rfl⟩ | ⟨hne, i, hi, rfl, rfl⟩)
      · exact ⟨_, hl, hat, by rw [getD_set' hl', if_pos rfl]⟩
      · refine ⟨i, hi, rfl, ?_⟩
        rw [getD_set' hl', if_neg]
        rintro rfl
        exact hne hat
  | false =>
    rw [withK_new h]
    have hle' : kplace o.keys key ≤ o.kids.length := by have := hs.2; omega
    have hno : ∀ i, i < o.keys.length → o.keys.getD i [] ≠ key := by
      intro i hi e
      have := (kthere_iff hs.1).2 ⟨i, hi, e⟩
      rw [h] at this; cases this
    simp only [Pob.has, Pob.keys_mk, Pob.kids_mk, insAt_length]
    constructor
    · rintro ⟨i, hi, rfl, rfl⟩
      rw [getD_insAt hle, getD_insAt hle']
      by_cases e1 : i < kplace o.keys key
      · rw [if_pos e1, if_pos e1]
        exact .inr ⟨hno i (by omega), i, by omega, rfl, rfl⟩
      · rw [if_neg e1, if_neg e1]
        by_cases e2 : i = kplace o.keys key
        · rw [if_pos e2, if_pos e2]; exact .inl ⟨rfl, rfl⟩
        · rw [if_neg e2, if_neg e2]
          exact .inr ⟨hno (i - 1) (by omega), i - 1, by omega, rfl, rfl⟩
    · rintro (⟨rfl, rfl⟩ | ⟨hne, i, hi, rfl, rfl⟩)
      · refine ⟨kplace o.keys k, by omega, ?_, ?_⟩
        · rw [getD_insAt hle, if_neg (by omega), if_pos rfl]
        · rw [getD_insAt hle', if_neg (by omega), if_pos rfl]
      · by_cases e : i < kplace o.keys key
        · refine ⟨i, by omega, ?_, ?_⟩
          · rw [getD_insAt hle, if_pos e]
          · rw [getD_insAt hle', if_pos e]
        · refine ⟨i + 1, by omega, ?_, ?_⟩
          · rw [getD_insAt hle, if_neg (by omega), if_neg (by omega), Nat.add_sub_cancel]
          · rw [getD_insAt hle', if_neg (by omega), if_neg (by omega), Nat.add_sub_cancel]
theorem withK_kvOk {o : Pob} (hs : o.kvOk) (key : List UInt8) (v : Pob) : (o.withK key v).kvOk := withK_incr hs.1 hs.2
theorem has_lessK {o : Pob} (hs : o.kvOk) {key : List UInt8} (h : kthere o.keys key = true) {k : List UInt8} {w : Pob} : (o.lessK (kplace o.keys key)).has k w ↔ k ≠ key ∧ o.has k w := by
  have hl := kthere_lt h
  have hat := kthere_at h
  simp only [Pob.has, Pob.lessK, Pob.keys_mk, Pob.kids_mk, delAt_length hl]
  constructor
  · rintro ⟨i, hi, rfl, rfl⟩
    rw [getD_delAt', getD_delAt']
    by_cases e : i < kplace o.keys key
    · rw [if_pos e, if_pos e]
      refine ⟨fun e2 => ?_, i, by omega, rfl, rfl⟩
      have := incr_inj hs.1 (by omega) hl (e2.trans hat.symm)
      omega
    · rw [if_neg e, if_neg e]
      refine ⟨fun e2 => ?_, i + 1, by omega, rfl, rfl⟩
      have := incr_inj hs.1 (by omega) hl (e2.trans hat.symm)
      omega
  · rintro ⟨hne, i, hi, rfl, rfl⟩
    have hne' : i ≠ kplace o.keys key := by rintro rfl; exact hne hat
    by_cases e : i < kplace o.keys key
    · refine ⟨i, by omega, ?_, ?_⟩
      · rw [getD_delAt', if_pos e]
      · rw [getD_delAt', if_pos e]
    · refine ⟨i - 1, by omega, ?_, ?_⟩
      · rw [getD_delAt', if_neg (by omega), show i - 1 + 1 = i from by omega]
      · rw [getD_delAt', if_neg (by omega), show i - 1 + 1 = i from by omega]
theorem lessK_kvOk {o : Pob} (hs : o.kvOk) {i : Nat} (h : i < o.keys.length) : (o.lessK i).kvOk := by
  constructor
  · intro a b hab hb
    simp only [Pob.lessK, Pob.keys_mk] at hb ⊢
    rw [delAt_length h] at hb
    rw [getD_delAt', getD_delAt']
    split <;> split
    · exact hs.1 a b hab (by omega)
    · exact hs.1 a (b + 1) (by omega) (by omega)
    · omega
    · exact hs.1 (a + 1) (b + 1) (by omega) (by omega)
  · simp only [Pob.lessK, Pob.keys_mk, Pob.kids_mk]
    rw [delAt_length h, delAt_length (by have := hs.2; omega), hs.2]
/-- lists of keys that increase and have the same members are the same -/
theorem incr_keys_ext : ∀ {a b : List (List UInt8)}, incr a → incr b → (∀ k, (∃ i, i < a.length ∧ a.getD i [] = k) ↔ ∃ i, i < b.length ∧ b.getD i [] = k) → a = b
  | [], [], _, _, _ => rfl
  | [], y :: b, _, _, h => by
    obtain ⟨i, hi, _⟩ := (h y).2 ⟨0, by simp, rfl⟩
    simp at hi
  | x :: a, [], _, _, h => by
    obtain ⟨i, hi, _⟩ := (h x).1 ⟨0, by simp, rfl⟩
    simp at hi
  | x :: a, y :: b, ha, hb, h => by
    have hxy : x = y := by
      obtain ⟨i, hi, e1⟩ := (h x).1 ⟨0, by simp, rfl⟩
      obtain ⟨j, hj, e2⟩ := (h y).2 ⟨0, by simp, rfl⟩
      rcases Nat.eq_zero_or_pos i with rfl | g1
      · simpa using e1.symm
      · rcases Nat.eq_zero_or_pos j with rfl | g2
        · simpa using e2
        · have l1 := hb 0 i g1 hi
          have l2 := ha 0 j g2 hj
          rw [e1] at l1
          rw [e2] at l2
          simp only [List.getD_cons_zero] at l1 l2
          rw [bl_asymm l1] at l2
          cases l2
    subst hxy
    have tl : ∀ {l : List (List UInt8)}, incr (x :: l) → incr l := fun hl a b hab hb => by
      have := hl (a + 1) (b + 1) (by omega) (by simpa using hb)
      simpa using this
    congr 1
    refine incr_keys_ext (tl ha) (tl hb) fun k => ?_
    have half : ∀ {l m : List (List UInt8)}, incr (x :: l) → incr (x :: m) → ((∃ i, i < (x :: l).length ∧ (x :: l).getD i [] = k) → ∃ i, i < (x :: m).length ∧ (x :: m).getD i [] = k) → (∃ i, i < l.length ∧ l.getD i [] = k) → ∃ i, i < m.length ∧ m.getD i [] = k := by
      rintro l m hl hm hh ⟨i, hi, e⟩
      obtain ⟨j, hj, e2⟩ := hh ⟨i + 1, by simpa using hi, by simpa using e⟩
      cases j with
      | zero =>
        have := hl 0 (i + 1) (by omega) (by simpa using hi)
        simp only [List.getD_cons_zero, List.getD_cons_succ] at this e2
        rw [e, ← e2, bl_irrefl] at this
        cases this
      | succ j => exact ⟨j, by simpa using hj, by simpa using e2⟩
    exact ⟨half ha hb (h k).1, half hb ha (h k).2⟩
theorem has_key {o : Pob} {k : List UInt8} : (∃ v, o.has k v) ↔ ∃ i, i < o.keys.length ∧ o.keys.getD i [] = k :=
  ⟨fun ⟨_, i, hi, e, _⟩ => ⟨i, hi, e⟩, fun ⟨i, hi, e⟩ => ⟨_, i, hi, e, rfl⟩⟩
/-- objects with the same pairs are the same -/
theorem kv_ext {a b : Pob} (ha : a.kvOk) (hb : b.kvOk) (h1 : a.kind = b.kind) (h2 : a.num = b.num) (h3 : a.gen = b.gen) (h4 : a.str = b.str) (h : ∀ k v, a.has k v ↔ b.has k v) : a = b := by
  have hk : a.keys = b.keys := incr_keys_ext ha.1 hb.1 fun k => by
    rw [← has_key, ← has_key]
    exact ⟨fun ⟨v, hv⟩ => ⟨v, (h k v).1 hv⟩, fun ⟨v, hv⟩ => ⟨v, (h k v).2 hv⟩⟩
  have hl : a.kids.length = b.kids.length := by rw [← ha.2, ← hb.2, hk]
  refine (Pob_eq a b).2 ⟨h1, h2, h3, h4, hk, ?_⟩
  apply List.ext_getElem hl
  intro i hi hi'
  obtain ⟨j, hj, e1, e2⟩ := (h (a.keys.getD i []) (a.kids.getD i Pob.null)).1 ⟨i, by have := ha.2; omega, rfl, rfl⟩
  rw [hk] at e1
  have := incr_inj hb.1 hj (by have := hb.2; omega) e1
  subst this
  simp only [List.getD, List.getElem?_eq_getElem hi', List.getElem?_eq_getElem hi, Option.getD_some] at e2
  exact e2.symm
theorem kidxI_cases (ks : List (List UInt8)) (k : List UInt8) : (∃ i : Nat, i < ks.length ∧ kidxI ks k = i ∧ ks.getD i [] = k) ∨ (kidxI ks k = -1 ∧ ∀ j, j < ks.length → ks.getD j [] ≠ k) := by
  by_cases h : kidx ks k < ks.length
  · left
    refine ⟨kidx ks k, h, by simp [kidxI, h], ?_⟩
    have h2 : decide (ks[kidx ks k] = k) = true := List.findIdx_getElem (p := fun x => decide (x = k)) (w := h)
    simpa [List.getD, h] using h2
  · right
    refine ⟨by simp [kidxI, h], fun j hj e => h ?_⟩
    unfold kidx
    rw [List.findIdx_lt_length]
    refine ⟨ks[j], List.getElem_mem hj, ?_⟩
    simpa [List.getD, hj] using e
theorem get_has {o : Pob} (hs : o.kvOk) (hk : keyedB o.kind = true) {k : List UInt8} {v : Pob} : (getB o k = true ∧ getO o k = v) ↔ o.has k v := by
  rcases kidxI_cases o.keys k with ⟨i, hi, e, e2⟩ | ⟨e, h⟩
  · have hg := get_hit (o := o) (key := k) hk (by rw [e]; have := hs.2; omega)
    rw [hg.1, hg.2, e]
    simp only [true_and, Int.toNat_natCast]
    constructor
    · intro h; exact ⟨i, hi, e2, h⟩
    · rintro ⟨j, hj, e3, rfl⟩
      rw [incr_inj hs.1 hi hj (e2.trans e3.symm)]
  · have hg := get_miss (o := o) (key := k) (.inl (by omega))
    rw [hg.1]
    simp only [Bool.false_eq_true, false_and, false_iff]
    rintro ⟨j, hj, e3, _⟩
    exact h j hj e3
theorem get_no {o : Pob} (hs : o.kvOk) (hk : keyedB o.kind = true) {k : List UInt8} (h : ∀ v, ¬ o.has k v) : getB o k = false ∧ getO o k = Pob.null := by
  cases hb : getB o k with
  | true => exact absurd ((get_has hs hk).1 ⟨hb, rfl⟩) (h _)
  | false => exact ⟨rfl, by simp [getO, hb]⟩
theorem get_congr {a b : Pob} (ha : a.kvOk) (hb : b.kvOk) (ka : keyedB a.kind = true) (kb : keyedB b.kind = true) {k : List UInt8} (h : ∀ v, a.has k v ↔ b.has k v) : getB a k = getB b k ∧ getO a k = getO b k := by
  cases hg : getB b k with
  | true =>
    have := (get_has ha ka).2 ((h _).2 ((get_has hb kb).1 ⟨hg, rfl⟩))
    exact this
  | false =>
    have hn : getO b k = Pob.null := by simp [getO, hg]
    rw [hn]
    refine get_no ha ka fun v hv => ?_
    have := (get_has hb kb).2 ((h v).1 hv)
    rw [hg] at this
    cases this.1
theorem withK_frame (o : Pob) (key : List UInt8) (v : Pob) : (o.withK key v).kind = o.kind ∧ (o.withK key v).num = o.num ∧ (o.withK key v).gen = o.gen ∧ (o.withK key v).str = o.str := by
  unfold Pob.withK
  split <;> exact ⟨rfl, rfl, rfl, rfl⟩
theorem dropO_frame (o : Pob) (key : List UInt8) : (dropO o key).kind = o.kind ∧ (dropO o key).num = o.num ∧ (dropO o key).gen = o.gen ∧ (dropO o key).str = o.str := by
  unfold dropO
  split <;> exact ⟨rfl, rfl, rfl, rfl⟩
theorem dropO_has {o : Pob} {key : List UInt8} (h : chk o 1 = 0) (hk : keyedB o.kind = true) : (dropO o key).kvOk ∧ ∀ k v, (dropO o key).has k v ↔ k ≠ key ∧ o.has k v := by
  have hs := kvOk_of_chk h hk
  cases ht : kthere o.keys key with
  | true =>
    rw [dropO_yes (by simp [dropB, h, hk, ht])]
    exact ⟨lessK_kvOk hs (kthere_lt ht), fun k v => has_lessK hs ht⟩
  | false =>
    rw [dropO_no (by simp [dropB, ht])]
    refine ⟨hs, fun k v => ⟨fun hv => ⟨?_, hv⟩, fun hv => hv.2⟩⟩
    rintro rfl
    obtain ⟨i, hi, e, _⟩ := hv
    have := (kthere_iff hs.1).2 ⟨i, hi, e⟩
    rw [ht] at this; cases this
theorem chkL_iff {l : List Pob} {d : Int} : chkL l d = 0 ↔ ∀ x ∈ l, chk x d = 0 := by
  induction l with
  | nil => simp [chkL]
  | cons o l ih =>
    simp only [chkL, List.mem_cons]
    constructor
    · intro h
      split at h
      · rename_i h1
        rintro x (rfl | hx)
        · exact h1
        · exact ih.1 h x hx
      · rename_i h1; exact absurd h h1
    · intro h
      rw [if_pos (h o (.inl rfl))]
      exact ih.2 fun x hx => h x (.inr hx)
theorem chk_iff {o : Pob} {d : Int} : chk o d = 0 ↔ ownE o d = 0 ∧ ∀ x ∈ o.kids, chk x (d + 1) = 0 := by
  rw [chk_eq]
  constructor
  · intro h
    split at h
    · rename_i h1; exact ⟨h1, chkL_iff.1 h⟩
    · rename_i h1; exact absurd h h1
  · rintro ⟨h1, h2⟩
    rw [if_pos h1, chkL_iff.2 h2]
theorem ownE_iff {o : Pob} {d : Int} : ownE o d = 0 ↔ d ≤ 24 ∧ useB o d = true ∧ fitsB o = true ∧ shortB o = true ∧ (o.kids.length : Int) ≤ 8191 ∧ formB o = true := by
  refine ⟨ownE_spec, fun ⟨h1, h2, h3, h4, h5, h6⟩ => ?_⟩
  unfold ownE
  simp [h1, h2, h3, h4, h5, h6]
end Aw

namespace Aw
open Go
theorem rising_iff {o : Pob} : risingP o ↔ o.kvOk ∧ ∀ k v, o.has k v → nameB k = true ∧ ¬ (o.kind = 9 ∧ k = lengthK) ∧ v.kind ≠ 0 := by
  constructor
  · intro h
    refine ⟨⟨rising_incr h, h.1⟩, ?_⟩
    rintro k v ⟨i, hi, rfl, rfl⟩
    have := h.2 i hi
    exact ⟨this.1, this.2.2.1, this.2.2.2⟩
  · rintro ⟨h1, h2⟩
    refine ⟨h1.2, fun i hi => ?_⟩
    have := h2 _ _ ⟨i, hi, rfl, rfl⟩
    exact ⟨this.1, fun h0 => h1.1 (i - 1) i (by omega) hi, this.2.1, this.2.2⟩
theorem has_kid {o : Pob} (hs : o.kvOk) {x : Pob} : x ∈ o.kids ↔ ∃ k, o.has k x := by
  constructor
  · intro h
    obtain ⟨i, hi, rfl⟩ := List.getElem_of_mem h
    exact ⟨o.keys.getD i [], i, by have := hs.2; omega, rfl, by simp [List.getD, hi]⟩
  · rintro ⟨k, i, hi, _, rfl⟩
    have hi' : i < o.kids.length := by have := hs.2; omega
    simp only [List.getD, List.getElem?_eq_getElem hi', Option.getD_some]
    exact List.getElem_mem hi'
theorem keyed_cases {k : Int} (h : keyedB k = true) : k = 7 ∨ k = 9 := by simpa [keyedB] using h
theorem useB_keyed {o : Pob} (hk : keyedB o.kind = true) {d : Int} : useB o d = true ↔ o.num = 0 ∧ o.gen = 0 ∧ (o.kind = 9 ∨ o.str = []) ∧ (d = 1 ∨ o.kind = 7) := by
  rcases keyed_cases hk with h | h <;> simp [useB, uOk, uN, uG, uS, uKeys, uKids, h] <;> grind
theorem formB_keyed {o : Pob} (hk : keyedB o.kind = true) : formB o = true ↔ risingP o := by
  rcases keyed_cases hk with h | h <;> simp [formB, uKeys, h, risingB]
theorem fitsB_keyed {o : Pob} (hk : keyedB o.kind = true) : fitsB o = true := by
  rcases keyed_cases hk with h | h <;> simp [fitsB, h]
theorem shortB_keyed {o : Pob} (hk : keyedB o.kind = true) : shortB o = true ↔ (o.str.length : Int) ≤ 1048576 := by
  rcases keyed_cases hk with h | h <;> simp [shortB, h]
theorem chk_keyed {o : Pob} (hk : keyedB o.kind = true) {d : Int} : chk o d = 0 ↔ (d ≤ 24 ∧ o.num = 0 ∧ o.gen = 0 ∧ (o.kind = 9 ∨ o.str = []) ∧ (d = 1 ∨ o.kind = 7) ∧ (o.str.length : Int) ≤ 1048576 ∧ (o.kids.length : Int) ≤ 8191) ∧ o.kvOk ∧
    ∀ k v, o.has k v → nameB k = true ∧ ¬ (o.kind = 9 ∧ k = lengthK) ∧ v.kind ≠ 0 ∧ chk v (d + 1) = 0 := by
  rw [chk_iff, ownE_iff, useB_keyed hk, formB_keyed hk, shortB_keyed hk, rising_iff]
  constructor
  · rintro ⟨⟨h1, ⟨h2, h3, h4, h5⟩, _, h6, h7, hs, h8⟩, h9⟩
    refine ⟨⟨h1, h2, h3, h4, h5, h6, h7⟩, hs, fun k v hv => ?_⟩
    obtain ⟨g1, g2, g3⟩ := h8 k v hv
    exact ⟨g1, g2, g3, h9 v ((has_kid hs).2 ⟨k, hv⟩)⟩
  · rintro ⟨⟨h1, h2, h3, h4, h5, h6, h7⟩, hs, h8⟩
    refine ⟨⟨h1, ⟨h2, h3, h4, h5⟩, fitsB_keyed hk, h6, h7, hs, fun k v hv => ?_⟩, fun v hv => ?_⟩
    · obtain ⟨g1, g2, g3, _⟩ := h8 k v hv
      exact ⟨g1, g2, g3⟩
    · obtain ⟨k, hk'⟩ := (has_kid hs).1 hv
      exact (h8 k v hk').2.2.2
theorem dropO_len (o : Pob) (key : List UInt8) : (dropO o key).kids.length ≤ o.kids.length := by
  unfold dropO
  split
  · simp only [Pob.lessK, Pob.kids_mk, delAt, List.length_append, List.length_take, List.length_drop]; omega
  · exact Nat.le_refl _
theorem dropO_chk {o : Pob} {key : List UInt8} (h : chk o 1 = 0) (hk : keyedB o.kind = true) : chk (dropO o key) 1 = 0 := by
  obtain ⟨f1, f2, f3, f4⟩ := dropO_frame o key
  obtain ⟨hs, hh⟩ := dropO_has (key := key) h hk
  have hk' : keyedB (dropO o key).kind = true := by rw [f1]; exact hk
  have hl := dropO_len o key
  obtain ⟨⟨h1, h2, h3, h4, h5, h6, h7⟩, _, h8⟩ := (chk_keyed hk).1 h
  rw [chk_keyed hk', f1, f2, f3, f4]
  refine ⟨⟨h1, h2, h3, h4, h5, h6, by omega⟩, hs, fun k v hv => ?_⟩
  exact h8 k v ((hh k v).1 hv).2
/-- what a successful Set gives -/
theorem set_parts {o v : Pob} {key : List UInt8} (h : setE o key v = 0) : keyedB o.kind = true ∧ chk o 1 = 0 ∧ (setO o key v).kvOk ∧ chk (setO o key v) 1 = 0 ∧ (setO o key v).kind = o.kind ∧ (setO o key v).num = o.num ∧ (setO o key v).gen = o.gen ∧ (setO o key v).str = o.str ∧
    ∀ k w, (setO o key v).has k w ↔ (k = key ∧ w = v ∧ v.kind ≠ 0) ∨ (k ≠ key ∧ o.has k w) := by
  cases hk : keyedB o.kind with
  | false => have := (set_unkeyed (v := v) (key := key) hk).1; omega
  | true =>
    by_cases hc : chk o 1 = 0
    · by_cases hv : v.kind = 0
      · obtain ⟨_, e⟩ := set_null (key := key) hk hc hv
        obtain ⟨hs, hh⟩ := dropO_has (key := key) hc hk
        obtain ⟨f1, f2, f3, f4⟩ := dropO_frame o key
        rw [e]
        refine ⟨rfl, hc, hs, dropO_chk hc hk, f1, f2, f3, f4, fun k w => ?_⟩
        rw [hh]
        constructor
        · exact .inr
        · rintro (⟨_, _, h3⟩ | h3)
          · exact absurd hv h3
          · exact h3
      · obtain ⟨e1, e2⟩ := set_val (key := key) hk hc hv
        rw [h] at e1
        rw [if_pos e1.symm] at e2
        have hs := kvOk_of_chk hc hk
        obtain ⟨f1, f2, f3, f4⟩ := withK_frame o key v
        rw [e2]
        refine ⟨rfl, hc, withK_kvOk hs key v, e1.symm, f1, f2, f3, f4, fun k w => ?_⟩
        rw [has_withK hs]
        constructor
        · rintro (⟨h1, h2⟩ | h1)
          · exact .inl ⟨h1, h2, hv⟩
          · exact .inr h1
        · rintro (⟨h1, h2, _⟩ | h1)
          · exact .inl ⟨h1, h2⟩
          · exact .inr h1
    · have := (set_bad (v := v) (key := key) hk hc).1; omega
theorem set_err {o v : Pob} {key : List UInt8} (h : setE o key v ≠ 0) : setO o key v = Pob.null := by unfold setO; rw [if_pos h]
theorem set_get {o v : Pob} {key : List UInt8} (h : setE o key v = 0) : getB (setO o key v) key = decide (v.kind ≠ 0) ∧ (v.kind ≠ 0 → getO (setO o key v) key = v) ∧ ∀ other, other ≠ key → getB (setO o key v) other = getB o other ∧ getO (setO o key v) other = getO o other := by
  obtain ⟨hk, hc, hs, _, f1, _, _, _, hh⟩ := set_parts h
  have hk' : keyedB (setO o key v).kind = true := by rw [f1]; exact hk
  refine ⟨?_, ?_, fun other ho => ?_⟩
  · by_cases hv : v.kind = 0
    · rw [(get_no hs hk' fun w hw => ?_).1]
      · simp [hv]
      · rcases (hh _ _).1 hw with ⟨_, _, h3⟩ | ⟨h3, _⟩
        · exact h3 hv
        · exact h3 rfl
    · rw [((get_has hs hk').2 ((hh _ _).2 (.inl ⟨rfl, rfl, hv⟩))).1]
      simp [hv]
  · intro hv
    exact ((get_has hs hk').2 ((hh _ _).2 (.inl ⟨rfl, rfl, hv⟩))).2
  · refine get_congr hs (kvOk_of_chk hc hk) hk' hk fun w => ?_
    rw [hh]
    constructor
    · rintro (⟨h1, _⟩ | ⟨_, h1⟩)
      · exact absurd h1 ho
      · exact h1
    · exact fun h1 => .inr ⟨ho, h1⟩
/-- a value set, dropped, set again; set twice -/
theorem set_drop {o v : Pob} {key : List UInt8} (h : setE o key v = 0) : getB (dropO (setO o key v) key) key = false ∧ setE (dropO (setO o key v) key) key v = 0 ∧ setO (dropO (setO o key v) key) key v = setO o key v := by
  obtain ⟨hk, hc, hs, hcx, f1, f2, f3, f4, hh⟩ := set_parts h
  have hk' : keyedB (setO o key v).kind = true := by rw [f1]; exact hk
  obtain ⟨g1, g2, g3, g4⟩ := dropO_frame (setO o key v) key
  obtain ⟨ds, dh⟩ := dropO_has (key := key) hcx hk'
  have hkd : keyedB (dropO (setO o key v) key).kind = true := by rw [g1]; exact hk'
  have hcd := dropO_chk (key := key) hcx hk'
  refine ⟨(get_no ds hkd fun w hw => ((dh _ _).1 hw).1 rfl).1, ?_⟩
  by_cases hv : v.kind = 0
  · obtain ⟨e1, e2⟩ := set_null (key := key) hkd hcd hv
    refine ⟨e1, ?_⟩
    rw [e2]
    obtain ⟨k1, k2, k3, k4⟩ := dropO_frame (dropO (setO o key v) key) key
    obtain ⟨ds', dh'⟩ := dropO_has (key := key) hcd hkd
    refine kv_ext ds' hs (by rw [k1, g1]) (by rw [k2, g2]) (by rw [k3, g3]) (by rw [k4, g4]) fun k w => ?_
    rw [dh', dh]
    constructor
    · exact fun h1 => h1.2.2
    · intro h1
      have : k ≠ key := by
        rintro rfl
        rcases (hh _ _).1 h1 with ⟨_, _, h3⟩ | ⟨h3, _⟩
        · exact h3 hv
        · exact h3 rfl
      exact ⟨this, this, h1⟩
  · have e : (dropO (setO o key v) key).withK key v = setO o key v := by
      obtain ⟨k1, k2, k3, k4⟩ := withK_frame (dropO (setO o key v) key) key v
      refine kv_ext (withK_kvOk ds _ _) hs (by rw [k1, g1]) (by rw [k2, g2]) (by rw [k3, g3]) (by rw [k4, g4]) fun k w => ?_
      rw [has_withK ds, dh, hh]
      constructor
      · rintro (⟨rfl, rfl⟩ | ⟨h1, h2, h3⟩)
        · exact .inl ⟨rfl, rfl, hv⟩
        · exact h3
      · rintro (⟨rfl, rfl, _⟩ | ⟨h1, h2⟩)
        · exact .inl ⟨rfl, rfl⟩
        · exact .inr ⟨h1, h1, .inr ⟨h1, h2⟩⟩
    obtain ⟨e1, e2⟩ := set_val (key := key) hkd hcd hv
    rw [e] at e1 e2
    rw [hcx] at e1
    rw [if_pos hcx] at e2
    exact ⟨e1, e2⟩
theorem set_twice {o v : Pob} {key : List UInt8} (h : setE o key v = 0) (w : Pob) : setE (setO o key v) key w = setE o key w ∧ setO (setO o key v) key w = setO o key w := by
  obtain ⟨hk, hc, hs, hcx, f1, f2, f3, f4, hh⟩ := set_parts h
  have hk' : keyedB (setO o key v).kind = true := by rw [f1]; exact hk
  have hso := kvOk_of_chk hc hk
  by_cases hw : w.kind = 0
  · obtain ⟨e1, e2⟩ := set_null (key := key) hk' hcx hw
    obtain ⟨e3, e4⟩ := set_null (key := key) hk hc hw
    refine ⟨by rw [e1, e3], ?_⟩
    rw [e2, e4]
    obtain ⟨k1, k2, k3, k4⟩ := dropO_frame (setO o key v) key
    obtain ⟨l1, l2, l3, l4⟩ := dropO_frame o key
    obtain ⟨ds, dh⟩ := dropO_has (key := key) hcx hk'
    obtain ⟨ds', dh'⟩ := dropO_has (key := key) hc hk
    refine kv_ext ds ds' (by rw [k1, l1, f1]) (by rw [k2, l2, f2]) (by rw [k3, l3, f3]) (by rw [k4, l4, f4]) fun k x => ?_
    rw [dh, dh', hh]
    constructor
    · rintro ⟨h1, ⟨h2, _⟩ | h2⟩
      · exact absurd h2 h1
      · exact h2
    · rintro ⟨h1, h2⟩
      exact ⟨h1, .inr ⟨h1, h2⟩⟩
  · have e : (setO o key v).withK key w = o.withK key w := by
      obtain ⟨k1, k2, k3, k4⟩ := withK_frame (setO o key v) key w
      obtain ⟨l1, l2, l3, l4⟩ := withK_frame o key w
      refine kv_ext (withK_kvOk hs _ _) (withK_kvOk hso _ _) (by rw [k1, l1, f1]) (by rw [k2, l2, f2]) (by rw [k3, l3, f3]) (by rw [k4, l4, f4]) fun k x => ?_
      rw [has_withK hs, has_withK hso, hh]
      constructor
      · rintro (h1 | ⟨h1, ⟨h2, _⟩ | h2⟩)
        · exact .inl h1
        · exact absurd h2 h1
        · exact .inr h2
      · rintro (h1 | ⟨h1, h2⟩)
        · exact .inl h1
        · exact .inr ⟨h1, .inr ⟨h1, h2⟩⟩
    obtain ⟨e1, e2⟩ := set_val (key := key) hk' hcx hw
    obtain ⟨e3, e4⟩ := set_val (key := key) hk hc hw
    rw [e1, e2, e3, e4, e]
    exact ⟨rfl, rfl⟩
end Aw

namespace Aw
open Go
def refB (o : Pob) : Bool := decide (o.kind = 8) && (decide (1 ≤ o.num) && decide (o.num ≤ 8191))
def refStp (s : List Int) (o : Pob) : List Int := if refB o = true then setAdd s o.num else s
def sortI (s : List Int) : List Int := s.mergeSort fun x y => decide (x ≤ y)
/-- value.Refs -/
def refsO (o : Pob) : List Int := sortI (o.pre.foldl refStp [])
theorem refStp_wf (l : List Pob) : ∀ (s : List Int), (∀ x ∈ s, 1 ≤ x ∧ x ≤ 8191) → ∀ x ∈ l.foldl refStp s, 1 ≤ x ∧ x ≤ 8191 := by
  induction l with
  | nil => exact fun s h => h
  | cons o l ih =>
    intro s h
    refine ih _ fun x hx => ?_
    simp only [refStp] at hx
    split at hx
    · rename_i hr
      simp only [setAdd] at hx
      split at hx
      · exact h x hx
      · rcases List.mem_append.1 hx with hx | hx
        · exact h x hx
        · simp only [List.mem_singleton] at hx
          subst hx
          simp only [refB, Bool.and_eq_true, decide_eq_true_eq] at hr
          exact hr.2
    · exact h x hx
theorem refStp_len (l : List Pob) : ∀ (s : List Int), (l.foldl refStp s).length ≤ s.length + l.length := by
  induction l with
  | nil => intro s; simp
  | cons o l ih =>
    intro s
    have h1 := ih (refStp s o)
    have h2 : (refStp s o).length ≤ s.length + 1 := by
      simp only [refStp, setAdd]
      split
      · split <;> simp
      · omega
    simp only [List.foldl_cons, List.length_cons]
    omega
theorem refStp_mem (l : List Pob) : ∀ (s : List Int) (n : Int), n ∈ l.foldl refStp s ↔ n ∈ s ∨ ∃ p ∈ l, refB p = true ∧ p.num = n := by
  induction l with
  | nil => intro s n; simp
  | cons o l ih =>
    intro s n
    rw [List.foldl_cons, ih]
    have h1 : n ∈ refStp s o ↔ n ∈ s ∨ (refB o = true ∧ o.num = n) := by
      simp only [refStp, setAdd]
      split
      · rename_i h
        split
        · rename_i h2
          constructor
          · exact .inl
          · rintro (g | ⟨_, rfl⟩)
            · exact g
            · exact h2
        · simp only [List.mem_append, List.mem_singleton]
          constructor
          · rintro (g | rfl)
            · exact .inl g
            · exact .inr ⟨h, rfl⟩
          · rintro (g | ⟨_, rfl⟩)
            · exact .inl g
            · exact .inr rfl
      · rename_i h
        simp [h]
    rw [h1]
    simp only [List.mem_cons, exists_eq_or_imp]
    grind
theorem refStp_nodup (l : List Pob) : ∀ (s : List Int), s.Nodup → (l.foldl refStp s).Nodup := by
  induction l with
  | nil => exact fun s h => h
  | cons o l ih =>
    intro s h
    refine ih _ ?_
    simp only [refStp, setAdd]
    split
    · split
      · exact h
      · rename_i h2
        rw [List.nodup_append]
        refine ⟨h, by simp, ?_⟩
        intro a ha b hb e
        simp only [List.mem_singleton] at hb
        subst hb
        subst e
        exact h2 ha
    · exact h
theorem refs_mem {o : Pob} {n : Int} : n ∈ refsO o ↔ ∃ p ∈ o.pre, refB p = true ∧ p.num = n := by
  unfold refsO sortI
  rw [(List.mergeSort_perm _ _).mem_iff, refStp_mem]
  simp
theorem refs_rng {o : Pob} {n : Int} (h : n ∈ refsO o) : 1 ≤ n ∧ n ≤ 8191 := by
  obtain ⟨p, _, hp, rfl⟩ := refs_mem.1 h
  simp only [refB, Bool.and_eq_true, decide_eq_true_eq] at hp
  exact hp.2
theorem refs_len (o : Pob) : (refsO o).length ≤ o.bulk := by
  unfold refsO sortI
  rw [(List.mergeSort_perm _ _).length_eq]
  have h1 := refStp_len o.pre []
  have h2 := Pob.pre_le o
  simp only [List.length_nil] at h1
  omega
theorem sortI_pairwise (s : List Int) : (sortI s).Pairwise (· ≤ ·) := by
  have := List.pairwise_mergeSort (le := fun x y : Int => decide (x ≤ y)) (fun a b c h1 h2 => by simp only [decide_eq_true_eq] at h1 h2 ⊢; omega) (fun a b => by simp only [Bool.or_eq_true, decide_eq_true_eq]; omega) s
  exact this.imp fun h => by simpa using h
theorem refs_lt (o : Pob) : (refsO o).Pairwise (· < ·) := by
  have h1 := sortI_pairwise (o.pre.foldl refStp [])
  have h2 : (refsO o).Nodup := by
    unfold refsO sortI
    exact (List.mergeSort_perm _ _).nodup_iff.2 (refStp_nodup _ _ List.nodup_nil)
  have h3 := List.Pairwise.and h1 h2
  exact h3.imp fun ⟨a, b⟩ => by omega
/-- lists that increase and have the same members are the same -/
theorem lt_ext : ∀ {a b : List Int}, a.Pairwise (· < ·) → b.Pairwise (· < ·) → (∀ n, n ∈ a ↔ n ∈ b) → a = b
  | [], [], _, _, _ => rfl
  | [], y :: b, _, _, h => by have := (h y).2 (by simp); simp at this
  | x :: a, [], _, _, h => by have := (h x).1 (by simp); simp at this
  | x :: a, y :: b, ha, hb, h => by
    rw [List.pairwise_cons] at ha hb
    have hxy : x = y := by
      have h1 := (h x).1 (by simp)
      have h2 := (h y).2 (by simp)
      rcases List.mem_cons.1 h1 with g | g
      · exact g
      · rcases List.mem_cons.1 h2 with g' | g'
        · exact g'.symm
        · have := hb.1 x g; have := ha.1 y g'; omega
    subst hxy
    congr 1
    refine lt_ext ha.2 hb.2 fun n => ?_
    have h1 := h n
    simp only [List.mem_cons] at h1
    constructor
    · intro g
      rcases h1.1 (.inr g) with rfl | g'
      · have := ha.1 n g; omega
      · exact g'
    · intro g
      rcases h1.2 (.inr g) with rfl | g'
      · have := hb.1 n g; omega
      · exact g'
mutual
theorem Pob.swap_pre (fr to : List Int) : ∀ o : Pob, (o.swap fr to).pre = o.pre.map (Pob.swap fr to)
  | .mk k n g s ks l => by
    rw [Pob.swap_eq, Pob.pre_eq, Pob.pre_eq (.mk k n g s ks l)]
    simp only [Pob.kids_mk, List.map_cons, Pob.swap_eq, Pob.kind_mk, Pob.num_mk, Pob.gen_mk, Pob.str_mk, Pob.keys_mk]
    rw [swaps_pres fr to l]
theorem swaps_pres (fr to : List Int) : ∀ l : List Pob, pres (swaps fr to l) = (pres l).map (Pob.swap fr to)
  | [] => by simp [swaps_map, pres_nil]
  | o :: l => by
    have h1 := Pob.swap_pre fr to o
    have h2 := swaps_pres fr to l
    rw [swaps_map] at h2 ⊢
    rw [List.map_cons, pres, pres, h1, h2, List.map_append]
end
theorem nidxI_cases (l : List Int) (n : Int) : (∃ i : Nat, i < l.length ∧ nidxI l n = i ∧ l.getD i 0 = n) ∨ (nidxI l n = -1 ∧ n ∉ l) := by
  unfold nidxI
  by_cases h : nidx l n < l.length
  · left
    refine ⟨nidx l n, h, by simp [h], ?_⟩
    have h2 : decide (l[nidx l n] = n) = true := List.findIdx_getElem (p := fun x => decide (x = n)) (w := h)
    simpa [List.getD, h] using h2
  · right
    refine ⟨by simp [h], fun hm => h ?_⟩
    unfold nidx
    rw [List.findIdx_lt_length]
    exact ⟨n, hm, by simp⟩
theorem sw_map {fr : List Int} {g : Int → Int} {n x : Int} (h : n ∈ fr) : swN fr (fr.map g) 8 n = g n ∧ swG fr (fr.map g) 8 n x = 0 := by
  rcases nidxI_cases fr n with ⟨i, hi, e, e2⟩ | ⟨_, h2⟩
  · have hb : swB fr (fr.map g) 8 n = true := by simp [swB, e, hi]
    obtain ⟨h1, h2⟩ := sw_yes (g := x) hb
    refine ⟨?_, h2⟩
    rw [h1, e]
    simp only [Int.toNat_natCast]
    rw [List.getD, List.getElem?_map, List.getElem?_eq_getElem hi]
    simp only [Option.map_some, Option.getD_some]
    simp only [List.getD, List.getElem?_eq_getElem hi, Option.getD_some] at e2
    rw [e2]
  · exact absurd h h2
theorem sw_kind {fr to : List Int} {k n x : Int} (h : k ≠ 8) : swN fr to k n = n ∧ swG fr to k n x = x := sw_no (by simp [swB, h])
theorem swap_kind (fr to : List Int) (o : Pob) : (o.swap fr to).kind = o.kind := by rw [Pob.swap_eq]; rfl
theorem swap_num (fr to : List Int) (o : Pob) : (o.swap fr to).num = swN fr to o.kind o.num := by rw [Pob.swap_eq]; rfl
/-- the references of a renumbered object -/
theorem refs_swap {o : Pob} {g : Int → Int} (hv : ∀ p ∈ o.pre, p.kind = 8 → refB p = true) (hg : ∀ n ∈ refsO o, 1 ≤ g n ∧ g n ≤ 8191) (hm : ∀ a ∈ refsO o, ∀ b ∈ refsO o, a < b → g a < g b) :
    refsO (o.swap (refsO o) ((refsO o).map g)) = (refsO o).map g := by
  refine lt_ext (refs_lt _) ?_ fun n => ?_
  · rw [List.pairwise_map]
    have := refs_lt o
    exact (List.Pairwise.and_mem.1 this).imp fun ⟨h1, h2, h3⟩ => hm _ h1 _ h2 h3
  · rw [refs_mem, Pob.swap_pre]
    simp only [List.mem_map]
    constructor
    · rintro ⟨q, ⟨p, hp, rfl⟩, hr, rfl⟩
      have hk : p.kind = 8 := by
        simp only [refB, swap_kind, Bool.and_eq_true, decide_eq_true_eq] at hr
        exact hr.1
      have hin : p.num ∈ refsO o := refs_mem.2 ⟨p, hp, hv p hp hk, rfl⟩
      refine ⟨p.num, hin, ?_⟩
      rw [swap_num, hk, (sw_map (x := 0) hin).1]
    · rintro ⟨m, hm', rfl⟩
      obtain ⟨p, hp, hr, rfl⟩ := refs_mem.1 hm'
      have hk : p.kind = 8 := by
        simp only [refB, Bool.and_eq_true, decide_eq_true_eq] at hr
        exact hr.1
      have hn : (p.swap (refsO o) ((refsO o).map g)).num = g p.num := by rw [swap_num, hk, (sw_map (x := 0) hm').1]
      refine ⟨_, ⟨p, hp, rfl⟩, ?_, hn⟩
      simp only [refB, swap_kind, hk, hn, Bool.and_eq_true, decide_eq_true_eq]
      exact ⟨trivial, hg _ hm'⟩
mutual
theorem chk_pre : ∀ (o : Pob) (d : Int), chk o d = 0 → ∀ p ∈ o.pre, p.kind = 8 → refB p = true
  | .mk k n g s ks l, d, h, p, hp, h8 => by
    rw [Pob.pre_eq] at hp
    rcases List.mem_cons.1 hp with rfl | hp
    · have := (ownE_iff.1 (chk_iff.1 h).1).2.2.1
      simp only [Pob.kind_mk] at h8
      simp only [fitsB, Pob.kind_mk, h8, Pob.num_mk, Pob.gen_mk] at this
      simp only [refB, Pob.kind_mk, Pob.num_mk, h8]
      simp at this ⊢
      exact this.1
    · exact chks_pre l (d + 1) (fun x hx => (chk_iff.1 h).2 x hx) p hp h8
theorem chks_pre : ∀ (l : List Pob) (d : Int), (∀ x ∈ l, chk x d = 0) → ∀ p ∈ pres l, p.kind = 8 → refB p = true
  | [], _, _, p, hp, _ => by rw [pres_nil] at hp; cases hp
  | o :: l, d, h, p, hp, h8 => by
    rw [pres, List.mem_append] at hp
    rcases hp with hp | hp
    · exact chk_pre o d (h o (List.mem_cons_self)) p hp h8
    · exact chks_pre l d (fun x hx => h x (List.mem_cons_of_mem _ hx)) p hp h8
end
mutual
theorem Pob.swap_depth (fr to : List Int) : ∀ o : Pob, (o.swap fr to).depth = o.depth
  | .mk k n g s ks l => by
    rw [Pob.swap_eq, Pob.depth_eq, Pob.depth_eq (.mk k n g s ks l)]
    simp only [Pob.kids_mk]
    rw [swaps_depth fr to l]
theorem swaps_depth (fr to : List Int) : ∀ l : List Pob, depths (swaps fr to l) = depths l
  | [] => by simp [swaps_map]
  | o :: l => by
    have h1 := Pob.swap_depth fr to o
    have h2 := swaps_depth fr to l
    rw [swaps_map] at h2 ⊢
    rw [List.map_cons, depths, depths, h1, h2]
end
mutual
theorem Pob.swap_none : ∀ o : Pob, o.swap [] [] = o
  | .mk k n g s ks l => by
    have h := swaps_none l
    rw [Pob.swap_eq]
    simp only [Pob.kids_mk, Pob.kind_mk, Pob.num_mk, Pob.gen_mk, Pob.str_mk, Pob.keys_mk, h]
    have hb : swB [] [] k n = false := by simp [swB]
    rw [(sw_no (g := g) hb).1, (sw_no hb).2]
theorem swaps_none : ∀ l : List Pob, swaps [] [] l = l
  | [] => by simp [swaps_map]
  | o :: l => by
    have h1 := Pob.swap_none o
    have h2 := swaps_none l
    rw [swaps_map] at h2 ⊢
    rw [List.map_cons, h1, h2]
end
mutual
theorem Pob.swap_again (fr : List Int) (g f : Int → Int) (hf : ∀ n ∈ fr, f (g n) = n) : ∀ o : Pob, (∀ p ∈ o.pre, p.kind = 8 → p.num ∈ fr) →
    ((o.swap fr (fr.map g)).swap (fr.map g) ((fr.map g).map f)).swap fr (fr.map g) = o.swap fr (fr.map g)
  | .mk k n x s ks l, h => by
    have hl := swaps_again fr g f hf l fun p hp => h p (by rw [Pob.pre_eq]; exact List.mem_cons_of_mem _ hp)
    have h0 := h (.mk k n x s ks l) (by rw [Pob.pre_eq]; exact List.mem_cons_self)
    simp only [Pob.swap_eq, Pob.kids_mk, Pob.kind_mk, Pob.num_mk, Pob.gen_mk, Pob.str_mk, Pob.keys_mk] at h0 ⊢
    rw [hl]
    by_cases hk : k = 8
    · subst hk
      have h1 := h0 rfl
      have h2 : g n ∈ fr.map g := List.mem_map_of_mem h1
      rw [(sw_map (x := x) h1).1, (sw_map (x := x) h1).2, (sw_map (x := 0) h2).1, (sw_map (x := 0) h2).2, hf n h1, (sw_map (x := 0) h1).1, (sw_map (x := 0) h1).2]
    · have e : ∀ a b m y, swN a b k m = m ∧ swG a b k m y = y := fun a b m y => sw_kind hk
      simp only [(e _ _ _ 0).1, (e _ _ _ _).2]
theorem swaps_again (fr : List Int) (g f : Int → Int) (hf : ∀ n ∈ fr, f (g n) = n) : ∀ l : List Pob, (∀ p ∈ pres l, p.kind = 8 → p.num ∈ fr) →
    swaps fr (fr.map g) (swaps (fr.map g) ((fr.map g).map f) (swaps fr (fr.map g) l)) = swaps fr (fr.map g) l
  | [], _ => by simp [swaps_map]
  | o :: l, h => by
    have h1 := Pob.swap_again fr g f hf o fun p hp => h p (by rw [pres]; exact List.mem_append_left _ hp)
    have h2 := swaps_again fr g f hf l fun p hp => h p (by rw [pres]; exact List.mem_append_right _ hp)
    simp only [swaps_map] at h2 ⊢
    simp only [List.map_cons, h1, h2]
end
theorem own_swap {k n x n' x' d : Int} {s : List UInt8} {ks : List (List UInt8)} {l l' : List Pob} (h : ownE (.mk k n x s ks l) d = 0) (hl : l'.length = l.length) (hd : ∀ i, (l'.getD i Pob.null).kind = (l.getD i Pob.null).kind)
    (hn : (n' = n ∧ x' = x) ∨ (k = 8 ∧ 1 ≤ n' ∧ n' ≤ 8191 ∧ x' = 0)) : ownE (.mk k n' x' s ks l') d = 0 := by
  rw [ownE_iff] at h ⊢
  obtain ⟨h1, h2, h3, h4, h5, h6⟩ := h
  have hr : risingP (.mk k n x s ks l) → risingP (.mk k n' x' s ks l') := by
    rintro ⟨g1, g2⟩
    refine ⟨by simpa only [Pob.keys_mk, Pob.kids_mk, hl] using g1, fun i hi => ?_⟩
    have := g2 i hi
    simp only [okKey, Pob.keys_mk, Pob.kids_mk, Pob.kind_mk, hd] at this ⊢
    exact this
  refine ⟨h1, ?_, ?_, ?_, by simpa only [Pob.kids_mk, hl] using h5, ?_⟩
  · rcases hn with ⟨rfl, rfl⟩ | ⟨rfl, _⟩
    · simp only [useB, Pob.kind_mk, Pob.num_mk, Pob.gen_mk, Pob.str_mk, Pob.keys_mk, Pob.kids_mk, hl] at h2 ⊢; exact h2
    · simp [useB, Pob.kind_mk, Pob.num_mk, Pob.gen_mk, Pob.str_mk, Pob.keys_mk, Pob.kids_mk, hl, uN, uG] at h2 ⊢; exact h2
  · rcases hn with ⟨rfl, rfl⟩ | ⟨rfl, g1, g2, rfl⟩
    · exact h3
    · simp [fitsB, Pob.kind_mk, Pob.num_mk, Pob.gen_mk, g1, g2]
  · exact h4
  · simp only [formB, Pob.kind_mk, Pob.str_mk] at h6 ⊢
    cases hb : risingB (.mk k n x s ks l) with
    | true =>
      have : risingB (.mk k n' x' s ks l') = true := by
        simp only [risingB, decide_eq_true_eq] at hb ⊢
        exact hr hb
      rw [hb] at h6
      rw [this]
      exact h6
    | false =>
      rw [hb] at h6
      revert h6
      cases hu : uKeys k
      · simp only [Bool.not_false, cond_true]; exact fun h => h
      · cases (bif !decide (k = 5) then true else nameB s) <;> simp
mutual
theorem Pob.swap_chk (fr : List Int) (g : Int → Int) (hg : ∀ n ∈ fr, 1 ≤ g n ∧ g n ≤ 8191) : ∀ (o : Pob) (d : Int), chk o d = 0 → (∀ p ∈ o.pre, p.kind = 8 → p.num ∈ fr) → chk (o.swap fr (fr.map g)) d = 0
  | .mk k n x s ks l, d, h, hp => by
    have h0 := hp (.mk k n x s ks l) (by rw [Pob.pre_eq]; exact List.mem_cons_self)
    obtain ⟨h1, h2⟩ := chk_iff.1 h
    simp only [Pob.kids_mk] at h2
    have hl := swaps_chk fr g hg l (d + 1) h2 fun p hp' => hp p (by rw [Pob.pre_eq]; exact List.mem_cons_of_mem _ hp')
    rw [chk_iff, Pob.swap_eq]
    simp only [Pob.kids_mk, Pob.kind_mk, Pob.num_mk, Pob.gen_mk, Pob.str_mk, Pob.keys_mk] at h0 ⊢
    refine ⟨own_swap h1 (swaps_length _ _ _) (fun i => ?_) ?_, hl⟩
    · by_cases hi : i < l.length
      · rw [swaps_getD hi, swap_kind]
      · rw [List.getD, List.getD, List.getElem?_eq_none (by rw [swaps_length]; omega), List.getElem?_eq_none (by omega)]
    · by_cases hk : k = 8
      · subst hk
        right
        have hin := h0 rfl
        rw [(sw_map (x := x) hin).1, (sw_map (x := x) hin).2]
        exact ⟨rfl, (hg n hin).1, (hg n hin).2, rfl⟩
      · left
        exact sw_kind hk
theorem swaps_chk (fr : List Int) (g : Int → Int) (hg : ∀ n ∈ fr, 1 ≤ g n ∧ g n ≤ 8191) : ∀ (l : List Pob) (d : Int), (∀ x ∈ l, chk x d = 0) → (∀ p ∈ pres l, p.kind = 8 → p.num ∈ fr) → ∀ x ∈ swaps fr (fr.map g) l, chk x d = 0
  | [], _, _, _, x, hx => by simp [swaps_map] at hx
  | o :: l, d, h, hp, x, hx => by
    rw [swaps_map, List.map_cons] at hx
    rcases List.mem_cons.1 hx with rfl | hx
    · exact Pob.swap_chk fr g hg o d (h o List.mem_cons_self) fun p hp' => hp p (by rw [pres]; exact List.mem_append_left _ hp')
    · refine swaps_chk fr g hg l d (fun x hx => h x (List.mem_cons_of_mem _ hx)) (fun p hp' => hp p (by rw [pres]; exact List.mem_append_right _ hp')) x ?_
      rw [swaps_map]; exact hx
end
/-- every number of the list, greater by `q` -/
def upI (q : Int) (l : List Int) : List Int := l.map (· + q)
theorem upI_length (q : Int) (l : List Int) : (upI q l).length = l.length := by simp [upI]
theorem upI_succ {q : Int} {l : List Int} {i : Nat} (h : i < l.length) : upI q (l.take (i + 1)) = upI q (l.take i) ++ [l.getD i 0 + q] := by
  unfold upI
  rw [List.take_add_one, List.map_append]
  simp [List.getD, List.getElem?_eq_getElem h]
/-- the law of Swap -/
theorem swap_law {o : Pob} {by' : Int} (h : chk o 1 = 0) (h1 : 1 ≤ by') (h2 : by' ≤ 4000) (h3 : ∀ n ∈ refsO o, n ≤ 4000) {to : List Int} (ht : to = upI by' (refsO o)) :
    refsO (o.swap (refsO o) to) = to ∧ refsO ((o.swap (refsO o) to).swap to (refsO o)) = refsO o ∧ chk (o.swap (refsO o) to) 1 = 0 ∧ (o.swap (refsO o) to).depth = o.depth ∧
      ((o.swap (refsO o) to).swap to (refsO o)).swap (refsO o) to = o.swap (refsO o) to := by
  unfold upI at ht
  subst ht
  have hv := chk_pre o 1 h
  have hr : ∀ n ∈ refsO o, 1 ≤ n ∧ n ≤ 8191 := by
    intro n hn
    obtain ⟨p, _, hp, rfl⟩ := refs_mem.1 hn
    simp only [refB, Bool.and_eq_true, decide_eq_true_eq] at hp
    exact hp.2
  have hin : ∀ p ∈ o.pre, p.kind = 8 → p.num ∈ refsO o := fun p hp h8 => refs_mem.2 ⟨p, hp, hv p hp h8, rfl⟩
  have hg : ∀ n ∈ refsO o, 1 ≤ n + by' ∧ n + by' ≤ 8191 := fun n hn => by have := hr n hn; have := h3 n hn; omega
  have e1 := refs_swap (g := (· + by')) hv hg (fun a _ b _ hab => by show a + by' < b + by'; omega)
  have hc := Pob.swap_chk (refsO o) (· + by') hg o 1 h hin
  have hback : ((refsO o).map (· + by')).map (· - by') = refsO o := by
    rw [List.map_map]
    have : ((· - by') ∘ (· + by') : Int → Int) = id := by funext n; simp only [Function.comp, id]; omega
    rw [this, List.map_id]
  have e2 := refs_swap (o := o.swap (refsO o) ((refsO o).map (· + by'))) (g := (· - by')) (chk_pre _ 1 hc)
    (by
      rw [e1]
      intro n hn
      obtain ⟨m, hm, rfl⟩ := List.mem_map.1 hn
      have := hr m hm
      show 1 ≤ m + by' - by' ∧ m + by' - by' ≤ 8191
      omega)
    (fun a _ b _ hab => by show a - by' < b - by'; omega)
  rw [e1, hback] at e2
  have e3 := Pob.swap_again (refsO o) (· + by') (· - by') (fun n _ => by show n + by' - by' = n; omega) o hin
  rw [hback] at e3
  exact ⟨e1, e2, hc, Pob.swap_depth _ _ o, e3⟩
end Aw
