/- A part of the proof of a law of the seat: no condition of its own. -/
import Derived.Test.YtokikpiffafajaaGreatPart2
namespace Aw
open Go
def rootK : List UInt8 := [82, 111, 111, 116]
def trailK : List (List UInt8) := [[73, 68], [73, 110, 102, 111], [82, 111, 111, 116]]
def trailOk (ks : List (List UInt8)) : Prop := ∀ i, i < ks.length → 0 ≤ kidxI trailK (ks.getD i [])
instance (ks : List (List UInt8)) : Decidable (trailOk ks) := by unfold trailOk; infer_instance
def trailE (d : Dc) : Int := if chk d.trailer 1 ≠ 0 then chk d.trailer 1 else if d.trailer.kind ≠ 7 then 10 else if ¬ trailOk d.trailer.keys then 3
  else if (getO d.trailer rootK).kind ≠ 8 ∨ (followO d (getO d.trailer rootK)).kind ≠ 7 then 22 else 0
def docE (d : Dc) : Int := if itemsE d.items ≠ 0 then itemsE d.items else trailE d
theorem trail_bad {d : Dc} (h : ¬ chk d.trailer 1 = 0) : trailE d = chk d.trailer 1 := by rw [trailE, if_pos h]
theorem trail_kind {d : Dc} (h : chk d.trailer 1 = 0) (h' : ¬ d.trailer.kind = 7) : trailE d = 10 := by rw [trailE, if_neg (by simpa using h), if_pos h']
theorem trail_key {d : Dc} (h : chk d.trailer 1 = 0) (h' : d.trailer.kind = 7) (h2 : ¬ trailOk d.trailer.keys) : trailE d = 3 := by rw [trailE, if_neg (by simpa using h), if_neg (by simpa using h'), if_pos h2]
theorem trail_root {d : Dc} (h : chk d.trailer 1 = 0) (h' : d.trailer.kind = 7) (h2 : trailOk d.trailer.keys) : trailE d = if (getO d.trailer rootK).kind ≠ 8 ∨ (followO d (getO d.trailer rootK)).kind ≠ 7 then 22 else 0 := by
  rw [trailE, if_neg (by simpa using h), if_neg (by simpa using h'), if_neg (by simpa using h2)]
theorem doc_bad {d : Dc} (h : ¬ itemsE d.items = 0) : docE d = itemsE d.items := by rw [docE, if_pos h]
theorem doc_trail {d : Dc} (h : itemsE d.items = 0) : docE d = trailE d := by rw [docE, if_neg (by simpa using h)]
theorem docE_items {d : Dc} (h : docE d = 0) : itemsE d.items = 0 := by
  unfold docE at h
  split at h
  · assumption
  · rename_i h'; simpa using h'
theorem docE_trail {d : Dc} (h : docE d = 0) : trailE d = 0 := by
  have h1 := docE_items h
  rwa [doc_trail h1] at h
def okItm (l : List Itm) (i : Nat) : Prop := numsB (l.getD i Itm.zero) = true ∧ (0 < i → (l.getD (i - 1) Itm.zero).num < (l.getD i Itm.zero).num) ∧ contentE (l.getD i Itm.zero) = 0
theorem itemsFrom_ok {l : List Itm} : ∀ (f k : Nat), l.length - k = f → k ≤ l.length → (itemsFrom l k f = 0 ↔ ∀ i, k ≤ i → i < l.length → okItm l i)
  | 0, k, hf, hk => by
    simp only [itemsFrom, true_iff]
    intro i h1 h2
    omega
  | f + 1, k, hf, hk => by
    have hkl : k < l.length := by omega
    have hs := itemsFrom_step hkl
    rw [hf] at hs
    rw [hs]
    have ih := itemsFrom_ok (l := l) f (k + 1) (by omega) (by omega)
    rw [show l.length - (k + 1) = f from by omega]
    constructor
    · intro h i h1 h2
      split at h
      · omega
      · rename_i g1
        split at h
        · omega
        · rename_i g2
          split at h
          · rename_i g3; exact absurd h g3
          · rename_i g3
            by_cases e : i = k
            · subst e
              exact ⟨by simpa using g1, fun h0 => by omega, by simpa using g3⟩
            · exact ih.1 h i (by omega) h2
    · intro h
      have hk' := h k (Nat.le_refl _) hkl
      rw [if_neg (by rw [hk'.1]; simp), if_neg (by intro hh; have := hk'.2.1 hh.1; omega), if_neg (by simpa using hk'.2.2)]
      exact ih.2 fun i h1 h2 => h i (by omega) h2
theorem items_ok {l : List Itm} : itemsE l = 0 ↔ ∀ i, i < l.length → okItm l i := by
  unfold itemsE
  rw [itemsFrom_ok l.length 0 (by omega) (by omega)]
  exact ⟨fun h i hi => h i (Nat.zero_le _) hi, fun h i _ hi => h i hi⟩
/-- numbers that increase -/
def incrN (l : List Itm) : Prop := ∀ a b, a < b → b < l.length → (l.getD a Itm.zero).num < (l.getD b Itm.zero).num
theorem incrN_of_next {l : List Itm} (h : ∀ i, i + 1 < l.length → (l.getD i Itm.zero).num < (l.getD (i + 1) Itm.zero).num) : incrN l := by
  intro a b hab hb
  induction b with
  | zero => omega
  | succ b ih =>
    by_cases e : a = b
    · subst e; exact h a hb
    · exact Int.lt_trans (ih (by omega) (by omega)) (h b hb)
theorem items_incr {l : List Itm} (h : itemsE l = 0) : incrN l :=
  incrN_of_next fun i hi => by
    have := ((items_ok.1 h) (i + 1) hi).2.1 (by omega)
    simpa using this
def iplace (l : List Itm) (n : Int) : Nat := l.findIdx (fun x => decide (n ≤ x.num))
def ithere (l : List Itm) (n : Int) : Bool := decide (iplace l n < l.length) && decide ((l.getD (iplace l n) Itm.zero).num = n)
theorem iplace_le (l : List Itm) (n : Int) : iplace l n ≤ l.length := List.findIdx_le_length
theorem iplace_eq {l : List Itm} {n : Int} {i : Nat} (hi : i ≤ l.length) (h1 : ∀ a, a < i → (l.getD a Itm.zero).num < n) (h2 : i < l.length → n ≤ (l.getD i Itm.zero).num) : iplace l n = i := by
  unfold iplace
  by_cases h : i < l.length
  · rw [List.findIdx_eq h]
    have h3 := h2 h
    simp only [List.getD, List.getElem?_eq_getElem h, Option.getD_some] at h3
    refine ⟨by simpa using h3, fun j hj => ?_⟩
    have := h1 j hj
    simp only [List.getD, List.getElem?_eq_getElem (Nat.lt_trans hj h), Option.getD_some] at this
    simpa using this
  · obtain rfl : i = l.length := by omega
    refine List.findIdx_eq_length.2 ?_
    intro x hx
    obtain ⟨j, hj, rfl⟩ := List.getElem_of_mem hx
    have := h1 j hj
    simp only [List.getD, List.getElem?_eq_getElem hj, Option.getD_some] at this
    simpa using this
theorem iplace_lo {l : List Itm} {n : Int} {a : Nat} (h : a < iplace l n) : (l.getD a Itm.zero).num < n := by
  unfold iplace at h
  have hl : a < l.length := Nat.lt_of_lt_of_le h List.findIdx_le_length
  have := List.not_of_lt_findIdx h
  simp only [List.getD, List.getElem?_eq_getElem hl, Option.getD_some]
  simpa using this
theorem iplace_hi {l : List Itm} {n : Int} (h : iplace l n < l.length) : n ≤ (l.getD (iplace l n) Itm.zero).num := by
  have h' := h
  unfold iplace at h ⊢
  have := List.findIdx_getElem (p := fun x : Itm => decide (n ≤ x.num)) (w := h)
  simp only [List.getD, List.getElem?_eq_getElem h, Option.getD_some]
  simpa using this
theorem ithere_lt {l : List Itm} {n : Int} (h : ithere l n = true) : iplace l n < l.length := by
  simp only [ithere, Bool.and_eq_true, decide_eq_true_eq] at h; exact h.1
theorem ithere_num {l : List Itm} {n : Int} (h : ithere l n = true) : (l.getD (iplace l n) Itm.zero).num = n := by
  simp only [ithere, Bool.and_eq_true, decide_eq_true_eq] at h; exact h.2
theorem ithere_eq {l : List Itm} {n : Int} {i : Nat} (h : iplace l n = i) : ithere l n = (decide (i < l.length) && decide ((l.getD i Itm.zero).num = n)) := by
  unfold ithere; rw [h]
theorem ibs_lo {l : List Itm} {n : Int} {h a : Nat} (hs : incrN l) (hh : (l.getD h Itm.zero).num < n) (hl : h < l.length) (ha : a ≤ h) : (l.getD a Itm.zero).num < n := by
  by_cases e : a = h
  · subst e; exact hh
  · have := hs a h (by omega) hl; omega
theorem ibs_hi {l : List Itm} {n : Int} {h a : Nat} (hs : incrN l) (hh : n ≤ (l.getD h Itm.zero).num) (ha : h ≤ a) (hl : a < l.length) : n ≤ (l.getD a Itm.zero).num := by
  by_cases e : a = h
  · subst e; exact hh
  · have := hs h a (by omega) hl; omega
def cmpI (x y : Int) : Int := if x < y then -1 else if y < x then 1 else 0
/-- an item laid into its place; the item with a number taken out -/
def layI (l : List Itm) (i : Itm) : List Itm := if ithere l i.num = true then l.set (iplace l i.num) i else insAt l (iplace l i.num) i
def takeI (l : List Itm) (n : Int) : List Itm := if ithere l n = true then delAt l (iplace l n) else l
theorem ibulk_append (a b : List Itm) : ibulk (a ++ b) = ibulk a + ibulk b := by simp [ibulk]
theorem ibulk_cons (i : Itm) (l : List Itm) : ibulk (i :: l) = i.obj.bulk + 1 + ibulk l := by simp [ibulk]
theorem ibulk_set (l : List Itm) (k : Nat) (i : Itm) : ibulk (l.set k i) ≤ ibulk l + i.obj.bulk + 1 := by
  induction l generalizing k with
  | nil => simp [ibulk]
  | cons x l ih =>
    cases k with
    | zero => simp only [List.set_cons_zero, ibulk_cons]; omega
    | succ k => have := ih k; simp only [List.set_cons_succ, ibulk_cons]; omega
theorem ibulk_insAt (l : List Itm) (k : Nat) (i : Itm) : ibulk (insAt l k i) = ibulk l + i.obj.bulk + 1 := by
  have := ibulk_append (l.take k) (l.drop k)
  rw [List.take_append_drop] at this
  simp only [insAt, ibulk_append, ibulk_cons]
  omega
theorem ibulk_delAt (l : List Itm) (k : Nat) : ibulk (delAt l k) ≤ ibulk l := by
  by_cases h : k < l.length
  · have h1 := ibulk_append (l.take k) (l.drop k)
    rw [List.take_append_drop, List.drop_eq_getElem_cons h, ibulk_cons] at h1
    simp only [delAt, ibulk_append]
    omega
  · rw [delAt, List.take_of_length_le (by omega), List.drop_of_length_le (by omega), List.append_nil]
    exact Nat.le_refl _
theorem layI_bulk (l : List Itm) (i : Itm) : ibulk (layI l i) ≤ ibulk l + i.obj.bulk + 1 := by
  unfold layI
  split
  · exact ibulk_set _ _ _
  · exact Nat.le_of_eq (ibulk_insAt _ _ _)
theorem takeI_bulk (l : List Itm) (n : Int) : ibulk (takeI l n) ≤ ibulk l := by
  unfold takeI
  split
  · exact ibulk_delAt _ _
  · exact Nat.le_refl _
theorem getD_set {α : Type} {l : List α} {i j : Nat} {x d : α} (hi : i < l.length) : (l.set i x).getD j d = if j = i then x else l.getD j d := by
  simp only [List.getD, List.getElem?_set]
  grind
theorem getD_delAt {α : Type} {l : List α} {i j : Nat} {d : α} : (delAt l i).getD j d = if j < i then l.getD j d else l.getD (j + 1) d := by
  simp only [delAt, List.getD, List.getElem?_append, List.getElem?_take, List.length_take, List.getElem?_drop]
  grind
theorem layI_incr {l : List Itm} {i : Itm} (hs : incrN l) : incrN (layI l i) := by
  have hle := iplace_le l i.num
  unfold layI
  split
  · rename_i h
    have hl := ithere_lt h
    have hn := ithere_num h
    intro a b hab hb
    rw [List.length_set] at hb
    rw [getD_set hl, getD_set hl]
    have := hs a b hab hb
    split <;> split <;> rename_i h1 h2
    · omega
    · subst h1; rw [hn] at this; exact this
    · subst h2; rw [hn] at this; exact this
    · exact this
  · rename_i h
    have hup : ∀ j, iplace l i.num ≤ j → j < l.length → i.num < (l.getD j Itm.zero).num := by
      intro j hj hl
      have h1 := iplace_hi (l := l) (n := i.num) (by omega)
      have h2 : (l.getD (iplace l i.num) Itm.zero).num ≠ i.num := by
        intro e
        exact h (by simp only [ithere, Bool.and_eq_true, decide_eq_true_eq]; exact ⟨by omega, e⟩)
      by_cases e : iplace l i.num = j
      · subst e; omega
      · have := hs (iplace l i.num) j (by omega) hl; omega
    refine incrN_of_next fun j hj => ?_
    rw [insAt_length] at hj
    rw [getD_insAt hle, getD_insAt hle]
    by_cases h1 : j + 1 < iplace l i.num
    · rw [if_pos (by omega), if_pos h1]
      exact hs j (j + 1) (by omega) (by omega)
    · by_cases h2 : j < iplace l i.num
      · rw [if_pos h2, if_neg h1, if_pos (show j + 1 = iplace l i.num by omega)]
        exact iplace_lo h2
      · rw [if_neg h2, if_neg h1, if_neg (show ¬ j + 1 = iplace l i.num by omega), show j + 1 - 1 = j from by omega]
        by_cases h3 : j = iplace l i.num
        · rw [if_pos h3]
          exact hup j (by omega) (by omega)
        · rw [if_neg h3]
          exact hs (j - 1) j (by omega) (by omega)
theorem takeI_incr {l : List Itm} {n : Int} (hs : incrN l) : incrN (takeI l n) := by
  unfold takeI
  split
  · rename_i h
    have hl := ithere_lt h
    intro a b hab hb
    rw [delAt_length hl] at hb
    rw [getD_delAt, getD_delAt]
    split <;> split
    · exact hs a b hab (by omega)
    · exact hs a (b + 1) (by omega) (by omega)
    · omega
    · exact hs (a + 1) (b + 1) (by omega) (by omega)
  · exact hs
def Dc.zero : Dc := ⟨[], Pob.null⟩
def sameI (a b : Itm) : Bool := decide (a.num = b.num) && (decide (a.gen = b.gen) && decide (a.obj = b.obj))
theorem sameI_eq (a b : Itm) : sameI a b = decide (a = b) := by
  have h := Itm_eq a b
  unfold sameI
  by_cases e : a = b
  · subst e; simp
  · rw [decide_eq_false e]
    by_cases h1 : a.num = b.num
    · by_cases h2 : a.gen = b.gen
      · by_cases h3 : a.obj = b.obj
        · exact absurd (h.2 ⟨h1, h2, h3⟩) e
        · simp [h3]
      · simp [h2]
    · simp [h1]
def putE (d : Dc) (i : Itm) : Int := if docE d ≠ 0 then docE d else if aloneE i ≠ 0 then aloneE i else docE ⟨layI d.items i, d.trailer⟩
def putO (d : Dc) (i : Itm) : Dc := if putE d i ≠ 0 then Dc.zero else ⟨layI d.items i, d.trailer⟩
theorem put_doc {d : Dc} {i : Itm} (h : ¬ docE d = 0) : putE d i = docE d ∧ putO d i = Dc.zero := by
  have : putE d i = docE d := by rw [putE, if_pos h]
  exact ⟨this, by rw [putO, this, if_pos h]⟩
theorem put_alone {d : Dc} {i : Itm} (h : docE d = 0) (h' : ¬ aloneE i = 0) : putE d i = aloneE i ∧ putO d i = Dc.zero := by
  have : putE d i = aloneE i := by rw [putE, if_neg (by simpa using h), if_pos h']
  exact ⟨this, by rw [putO, this, if_pos h']⟩
theorem put_ok {d : Dc} {i : Itm} (h : docE d = 0) (h' : aloneE i = 0) : putE d i = docE ⟨layI d.items i, d.trailer⟩ ∧ putO d i = if docE ⟨layI d.items i, d.trailer⟩ = 0 then ⟨layI d.items i, d.trailer⟩ else Dc.zero := by
  have : putE d i = docE ⟨layI d.items i, d.trailer⟩ := by rw [putE, if_neg (by simpa using h), if_neg (by simpa using h')]
  refine ⟨this, ?_⟩
  rw [putO, this]
  by_cases hc : docE ⟨layI d.items i, d.trailer⟩ = 0
  · rw [if_neg (by simpa using hc), if_pos hc]
  · rw [if_pos hc, if_neg hc]
def dropE (d : Dc) (n : Int) : Int := if docE d ≠ 0 then docE d else if ithere d.items n = false then 8 else docE ⟨takeI d.items n, d.trailer⟩
def dropD (d : Dc) (n : Int) : Dc := if dropE d n ≠ 0 then Dc.zero else ⟨takeI d.items n, d.trailer⟩
theorem drop_doc {d : Dc} {n : Int} (h : ¬ docE d = 0) : dropE d n = docE d ∧ dropD d n = Dc.zero := by
  have : dropE d n = docE d := by rw [dropE, if_pos h]
  exact ⟨this, by rw [dropD, this, if_pos h]⟩
theorem drop_none {d : Dc} {n : Int} (h : docE d = 0) (h' : ithere d.items n = false) : dropE d n = 8 ∧ dropD d n = Dc.zero := by
  have : dropE d n = 8 := by rw [dropE, if_neg (by simpa using h), if_pos h']
  exact ⟨this, by rw [dropD, this, if_pos (by decide)]⟩
theorem drop_ok {d : Dc} {n : Int} (h : docE d = 0) (h' : ithere d.items n = true) : dropE d n = docE ⟨takeI d.items n, d.trailer⟩ ∧ dropD d n = if docE ⟨takeI d.items n, d.trailer⟩ = 0 then ⟨takeI d.items n, d.trailer⟩ else Dc.zero := by
  have : dropE d n = docE ⟨takeI d.items n, d.trailer⟩ := by rw [dropE, if_neg (by simpa using h), if_neg (by simp [h'])]
  refine ⟨this, ?_⟩
  rw [dropD, this]
  by_cases hc : docE ⟨takeI d.items n, d.trailer⟩ = 0
  · rw [if_neg (by simpa using hc), if_pos hc]
  · rw [if_pos hc, if_neg hc]
def lastN (l : List Itm) : Int := if l.length = 0 then 1 else (l.getD (l.length - 1) Itm.zero).num + 1
def freeE (d : Dc) : Int := if docE d ≠ 0 then docE d else if 8191 < lastN d.items then 30 else 0
def freeN (d : Dc) : Int := if freeE d ≠ 0 then 0 else lastN d.items
theorem free_doc {d : Dc} (h : ¬ docE d = 0) : freeE d = docE d ∧ freeN d = 0 := by
  have : freeE d = docE d := by rw [freeE, if_pos h]
  exact ⟨this, by rw [freeN, this, if_pos h]⟩
theorem free_full {d : Dc} (h : docE d = 0) (h' : 8191 < lastN d.items) : freeE d = 30 ∧ freeN d = 0 := by
  have : freeE d = 30 := by rw [freeE, if_neg (by simpa using h), if_pos h']
  exact ⟨this, by rw [freeN, this, if_pos (by decide)]⟩
theorem free_ok {d : Dc} (h : docE d = 0) (h' : lastN d.items ≤ 8191) : freeE d = 0 ∧ freeN d = lastN d.items := by
  have : freeE d = 0 := by rw [freeE, if_neg (by simpa using h), if_neg (by omega)]
  exact ⟨this, by rw [freeN, this, if_neg (by decide)]⟩
def addE (d : Dc) (o : Pob) : Int := if freeE d ≠ 0 then freeE d else putE d ⟨freeN d, 0, o⟩
def addO (d : Dc) (o : Pob) : Dc := if addE d o ≠ 0 then Dc.zero else putO d ⟨freeN d, 0, o⟩
def addN (d : Dc) (o : Pob) : Int := if addE d o ≠ 0 then 0 else freeN d
theorem add_free {d : Dc} {o : Pob} (h : ¬ freeE d = 0) : addE d o = freeE d ∧ addO d o = Dc.zero ∧ addN d o = 0 := by
  have : addE d o = freeE d := by rw [addE, if_pos h]
  exact ⟨this, by rw [addO, this, if_pos h], by rw [addN, this, if_pos h]⟩
theorem add_put {d : Dc} {o : Pob} (h : freeE d = 0) (h' : ¬ putE d ⟨freeN d, 0, o⟩ = 0) : addE d o = putE d ⟨freeN d, 0, o⟩ ∧ addO d o = Dc.zero ∧ addN d o = 0 := by
  have : addE d o = putE d ⟨freeN d, 0, o⟩ := by rw [addE, if_neg (by simpa using h)]
  exact ⟨this, by rw [addO, this, if_pos h'], by rw [addN, this, if_pos h']⟩
theorem add_ok {d : Dc} {o : Pob} (h : freeE d = 0) (h' : putE d ⟨freeN d, 0, o⟩ = 0) : addE d o = 0 ∧ addO d o = putO d ⟨freeN d, 0, o⟩ ∧ addN d o = freeN d := by
  have : addE d o = 0 := by rw [addE, if_neg (by simpa using h), h']
  exact ⟨this, by rw [addO, this, if_neg (by decide)], by rw [addN, this, if_neg (by decide)]⟩
attribute [irreducible] iplace docE trailE putE putO dropE dropD freeE freeN addE addO addN
end Aw
namespace Aw
open Go
theorem itemsAV_set (k : Nat) (i : Itm) (l : List Itm) : (itemsAV l).set k i.cells = itemsAV (l.set k i) := by simp [itemsAV, List.map_set]
theorem itemsAV_set' (k : Nat) (i : Itm) (l : List Itm) : (itemsAV l).set k [.int .i64 i.num, .int .i64 i.gen, .int .i64 i.obj.kind, .int .i64 i.obj.num, .int .i64 i.obj.gen, .str i.obj.str, .sl (strsAV i.obj.keys), .sl (objsAV i.obj.kids)] = itemsAV (l.set k i) := itemsAV_set k i l
theorem itemsAV_snoc (l : List Itm) (k : Nat) (h : k < l.length) : itemsAV (l.take k) ++ [(l.getD k Itm.zero).cells] = itemsAV (l.take (k + 1)) := by
  have e : l.getD k Itm.zero = l[k] := by simp [List.getD, h]
  rw [List.take_succ_eq_append_getElem h, e, itemsAV, itemsAV, List.map_append]
  rfl
theorem itemsAV_snoc' (l : List Itm) (k : Nat) (h : k < l.length) : itemsAV (l.take k) ++ [[.int .i64 (l.getD k Itm.zero).num, .int .i64 (l.getD k Itm.zero).gen, .int .i64 (l.getD k Itm.zero).obj.kind, .int .i64 (l.getD k Itm.zero).obj.num, .int .i64 (l.getD k Itm.zero).obj.gen, .str (l.getD k Itm.zero).obj.str, .sl (strsAV (l.getD k Itm.zero).obj.keys), .sl (objsAV (l.getD k Itm.zero).obj.kids)]] = itemsAV (l.take (k + 1)) := itemsAV_snoc l k h
end Aw

namespace Aw
open Go
/-- the item with a number -/
def lookI (l : List Itm) (n : Int) : Option Itm := if iidxI l n < 0 then none else some (l.getD (iidxI l n).toNat Itm.zero)
theorem look_miss {l : List Itm} {n : Int} (h : iidxI l n < 0) : lookI l n = none := by unfold lookI; rw [if_pos h]
theorem look_hit {l : List Itm} {n : Int} (h : 0 ≤ iidxI l n) : lookI l n = some (l.getD (iidxI l n).toNat Itm.zero) := by unfold lookI; rw [if_neg (by omega)]
theorem follow_bulk {d : Dc} {o : Pob} (h : d.bulk ≤ 16777216) (ho : o.bulk ≤ 16777216) : (followO d o).bulk ≤ 16777216 := by
  have hn : Pob.null.bulk ≤ 16777216 := by simp [Pob.null, Pob.bulk, bulks]
  simp only [Dc.bulk] at h
  unfold followO
  split
  · exact ho
  · split
    · exact hn
    · split
      · exact hn
      · have := ibulk_get (l := d.items) (i := (iidxI d.items o.num).toNat) (by have := iidxI_lt (l := d.items) (n := o.num); omega)
        omega
theorem get_bulk (o : Pob) (k : List UInt8) : (getO o k).bulk ≤ o.bulk := by
  unfold getO
  split
  · rename_i h
    simp only [getB, Bool.and_eq_true, decide_eq_true_eq] at h
    have := Pob.bulk_kid (o := o) (i := (kidxI o.keys k).toNat) (by omega)
    omega
  · have : Pob.null.bulk = 1 := by simp [Pob.null, Pob.bulk, bulks]
    rw [this, Pob.bulk_eq]
    omega
def pathL (d : Dc) : Pob → List (List UInt8) → Pob
  | o, [] => o
  | o, k :: r => if getB o k = false then Pob.null else pathL d (followO d (getO o k)) r
def pathO (d : Dc) (o : Pob) (ks : List (List UInt8)) : Pob := pathL d (followO d o) ks
theorem pathL_drop {d : Dc} {o : Pob} {ks : List (List UInt8)} {i : Nat} (h : i < ks.length) : pathL d o (ks.drop i) = if getB o (ks.getD i []) = false then Pob.null else pathL d (followO d (getO o (ks.getD i []))) (ks.drop (i + 1)) := by
  rw [List.drop_eq_getElem_cons h]
  simp only [pathL, List.getD, List.getElem?_eq_getElem h, Option.getD_some]
theorem pathL_end {d : Dc} {o : Pob} {ks : List (List UInt8)} {i : Nat} (h : ks.length ≤ i) : pathL d o (ks.drop i) = o := by
  rw [List.drop_of_length_le h, pathL]
theorem filter_take {α : Type} {l : List α} {i : Nat} {p : α → Bool} {d : α} (h : i < l.length) : (l.take (i + 1)).filter p = (l.take i).filter p ++ if p (l.getD i d) = true then [l.getD i d] else [] := by
  rw [List.take_succ_eq_append_getElem h, List.filter_append]
  simp only [List.getD, List.getElem?_eq_getElem h, Option.getD_some, List.filter_cons, List.filter_nil]
theorem filter_take_yes {α : Type} {l : List α} {i : Nat} {p : α → Bool} {d : α} (h : i < l.length) (hp : p (l.getD i d) = true) : (l.take (i + 1)).filter p = (l.take i).filter p ++ [l.getD i d] := by
  rw [filter_take h (d := d), if_pos hp]
theorem filter_take_no {α : Type} {l : List α} {i : Nat} {p : α → Bool} {d : α} (h : i < l.length) (hp : p (l.getD i d) = false) : (l.take (i + 1)).filter p = (l.take i).filter p := by
  rw [filter_take h (d := d), if_neg (by rw [hp]; simp), List.append_nil]
theorem filter_take_len {α : Type} (l : List α) (i : Nat) (p : α → Bool) : ((l.take i).filter p).length ≤ l.length := by
  have h1 := List.length_filter_le p (l.take i)
  have h2 : (l.take i).length ≤ l.length := by rw [List.length_take]; omega
  omega
def diffB (a : List Itm) (i : Itm) : Bool := !(ithere a i.num && decide (a.getD (iplace a i.num) Itm.zero = i))
def diffL (a b : Dc) : List Itm := if docE a ≠ 0 ∨ docE b ≠ 0 then [] else b.items.filter (diffB a.items)
def goneB (b : List Itm) (i : Itm) : Bool := !ithere b i.num
def diffG (a b : Dc) : List Int := if docE a ≠ 0 ∨ docE b ≠ 0 then [] else (a.items.filter (goneB b.items)).map Itm.num
/-- the numbers taken out, one after the other: 'none' where one is not there -/
def applyT : List Itm → List Int → Option (List Itm)
  | l, [] => some l
  | l, n :: r => if ithere l n = true then applyT (takeI l n) r else none
def aloneL : List Itm → Int
  | [] => 0
  | i :: r => if aloneE i ≠ 0 then aloneE i else aloneL r
theorem applyT_drop {l : List Itm} {ns : List Int} {i : Nat} (h : i < ns.length) : applyT l (ns.drop i) = if ithere l (ns.getD i 0) = true then applyT (takeI l (ns.getD i 0)) (ns.drop (i + 1)) else none := by
  rw [List.drop_eq_getElem_cons h]
  simp only [applyT, List.getD, List.getElem?_eq_getElem h, Option.getD_some]
theorem aloneL_drop {l : List Itm} {i : Nat} (h : i < l.length) : aloneL (l.drop i) = if aloneE (l.getD i Itm.zero) ≠ 0 then aloneE (l.getD i Itm.zero) else aloneL (l.drop (i + 1)) := by
  rw [List.drop_eq_getElem_cons h]
  simp only [aloneL, List.getD, List.getElem?_eq_getElem h, Option.getD_some]
theorem foldl_take {α β : Type} {f : β → α → β} {b : β} {l : List α} {i : Nat} {d : α} (h : i < l.length) : (l.take (i + 1)).foldl f b = f ((l.take i).foldl f b) (l.getD i d) := by
  rw [List.take_succ_eq_append_getElem h, List.foldl_append]
  simp only [List.getD, List.getElem?_eq_getElem h, Option.getD_some, List.foldl_cons, List.foldl_nil]
def applyE (d : Dc) (l : List Itm) (ns : List Int) : Int := if docE d ≠ 0 then docE d else match applyT d.items ns with
  | none => 8
  | some x => if aloneL l ≠ 0 then aloneL l else docE ⟨l.foldl layI x, d.trailer⟩
def applyD (d : Dc) (l : List Itm) (ns : List Int) : Dc := if applyE d l ns ≠ 0 then Dc.zero else match applyT d.items ns with
  | none => Dc.zero
  | some x => ⟨l.foldl layI x, d.trailer⟩
theorem apply_doc {d : Dc} {l : List Itm} {ns : List Int} (h : ¬ docE d = 0) : applyE d l ns = docE d ∧ applyD d l ns = Dc.zero := by
  have : applyE d l ns = docE d := by rw [applyE, if_pos h]
  exact ⟨this, by rw [applyD, this, if_pos h]⟩
theorem apply_none {d : Dc} {l : List Itm} {ns : List Int} (h : docE d = 0) (h' : applyT d.items ns = none) : applyE d l ns = 8 ∧ applyD d l ns = Dc.zero := by
  have : applyE d l ns = 8 := by rw [applyE, if_neg (by simpa using h), h']
  exact ⟨this, by rw [applyD, this, if_pos (by decide)]⟩
theorem apply_alone {d : Dc} {l x : List Itm} {ns : List Int} (h : docE d = 0) (h' : applyT d.items ns = some x) (h2 : ¬ aloneL l = 0) : applyE d l ns = aloneL l ∧ applyD d l ns = Dc.zero := by
  have : applyE d l ns = aloneL l := by rw [applyE, if_neg (by simpa using h), h']; simp only; rw [if_pos h2]
  exact ⟨this, by rw [applyD, this, if_pos h2]⟩
theorem apply_ok {d : Dc} {l x : List Itm} {ns : List Int} (h : docE d = 0) (h' : applyT d.items ns = some x) (h2 : aloneL l = 0) : applyE d l ns = docE ⟨l.foldl layI x, d.trailer⟩ ∧ applyD d l ns = if docE ⟨l.foldl layI x, d.trailer⟩ = 0 then ⟨l.foldl layI x, d.trailer⟩ else Dc.zero := by
  have : applyE d l ns = docE ⟨l.foldl layI x, d.trailer⟩ := by rw [applyE, if_neg (by simpa using h), h']; simp only; rw [if_neg (by simpa using h2)]
  refine ⟨this, ?_⟩
  rw [applyD, this, h']
  by_cases hc : docE ⟨l.foldl layI x, d.trailer⟩ = 0
  · rw [if_neg (by simpa using hc), if_pos hc]
  · rw [if_pos hc, if_neg hc]
def trailerB (o : Pob) : Bool := keyedB o.kind && decide (chk o 1 = 0)
def trailerK (o : Pob) (i : Nat) : List (List UInt8) := (trailK.take i).filter (getB o)
def trailerO (o : Pob) : Pob := if trailerB o = true then .mk 7 0 0 [] (trailerK o 3) ((trailerK o 3).map (getO o)) else .mk 7 0 0 [] [] []
theorem sum_take {α : Type} {l : List α} {i : Nat} {f : α → Nat} {d : α} (h : i < l.length) : ((l.take (i + 1)).map f).sum = ((l.take i).map f).sum + f (l.getD i d) := by
  rw [List.take_succ_eq_append_getElem h, List.map_append, List.sum_append]
  simp [List.getD, h]
theorem sum_take_le {α : Type} (l : List α) (i : Nat) (f : α → Nat) : ((l.take i).map f).sum ≤ (l.map f).sum := by
  have h : ((l.take i ++ l.drop i).map f).sum = ((l.take i).map f).sum + ((l.drop i).map f).sum := by rw [List.map_append, List.sum_append]
  rw [List.take_append_drop] at h
  omega
def ksize (ks : List (List UInt8)) : Nat := (ks.map fun k => k.length / 50).sum
mutual
def Pob.psize : Pob → Nat
  | .mk _ _ _ s ks l => 1 + s.length / 50 + ksize ks + psizes l
def psizes : List Pob → Nat
  | [] => 0
  | o :: l => o.psize + psizes l
end
theorem Pob.psize_eq (o : Pob) : o.psize = 1 + o.str.length / 50 + ksize o.keys + psizes o.kids := by cases o; simp only [Pob.psize, Pob.str, Pob.keys, Pob.kids]
theorem ksize_take {ks : List (List UInt8)} {i : Nat} (h : i < ks.length) : ksize (ks.take (i + 1)) = ksize (ks.take i) + (ks.getD i []).length / 50 := by
  exact sum_take h
theorem psizes_append (a b : List Pob) : psizes (a ++ b) = psizes a + psizes b := by
  induction a with
  | nil => simp [psizes]
  | cons x a ih => simp only [List.cons_append, psizes, ih]; omega
theorem psizes_take {l : List Pob} {i : Nat} (h : i < l.length) : psizes (l.take (i + 1)) = psizes (l.take i) + (l.getD i Pob.null).psize := by
  rw [List.take_succ_eq_append_getElem h, psizes_append]
  simp [psizes, List.getD, h]
theorem psizes_take_le (l : List Pob) (i : Nat) : psizes (l.take i) ≤ psizes l := by
  have := psizes_append (l.take i) (l.drop i)
  rw [List.take_append_drop] at this
  omega
theorem ksize_take_le (l : List (List UInt8)) (i : Nat) : ksize (l.take i) ≤ ksize l := by
  exact sum_take_le l i _
theorem psizes_get {l : List Pob} {i : Nat} (h : i < l.length) : (l.getD i Pob.null).psize ≤ psizes l := by
  have h1 := psizes_take h
  have h2 := psizes_take_le l (i + 1)
  omega
theorem Pob.psize_pos (o : Pob) : 1 ≤ o.psize := by rw [Pob.psize_eq]; omega
theorem Pob.psize_kid {o : Pob} {i : Nat} (h : i < o.kids.length) : (o.kids.getD i Pob.null).psize < o.psize := by
  have := psizes_get h
  rw [Pob.psize_eq o]
  omega
def isize (l : List Itm) : Nat := (l.map fun i => i.obj.psize).sum
theorem isize_take {l : List Itm} {i : Nat} (h : i < l.length) : isize (l.take (i + 1)) = isize (l.take i) + (l.getD i Itm.zero).obj.psize := by
  exact sum_take (f := fun i : Itm => i.obj.psize) (d := Itm.zero) h
theorem isize_take_le (l : List Itm) (i : Nat) : isize (l.take i) ≤ isize l := by
  exact sum_take_le l i _
def Dc.size (d : Dc) : Nat := d.trailer.psize + isize d.items
theorem ksize_nil : ksize [] = 0 := rfl
theorem psizes_nil : psizes [] = 0 := by simp only [psizes]
theorem isize_nil : isize [] = 0 := rfl
attribute [irreducible] Pob.psize psizes ksize isize pathL applyT aloneL applyE applyD diffL diffG
end Aw

namespace Aw
open Go
theorem incrN_iff {l : List Itm} : incrN l ↔ l.Pairwise (fun a b => a.num < b.num) := by
  rw [List.pairwise_iff_getElem]
  constructor
  · intro h i j hi hj hij
    have := h i j hij hj
    simpa [List.getD, hi, hj] using this
  · intro h a b hab hb
    have := h a b (by omega) hb hab
    simpa [List.getD, hb, show a < l.length by omega] using this
theorem incr_one {l : List Itm} (h : incrN l) {x y : Itm} (hx : x ∈ l) (hy : y ∈ l) (hn : x.num = y.num) : x = y := by
  rw [incrN_iff] at h
  induction l with
  | nil => cases hx
  | cons a l ih =>
    rw [List.pairwise_cons] at h
    rcases List.mem_cons.1 hx with rfl | hx
    · rcases List.mem_cons.1 hy with rfl | hy
      · rfl
      · have := h.1 _ hy; omega
    · rcases List.mem_cons.1 hy with rfl | hy
      · rename_i hx'
        have := h.1 _ hx'; omega
      · exact ih h.2 (by assumption) (by assumption)
theorem incr_ext : ∀ {l l' : List Itm}, incrN l → incrN l' → (∀ y, y ∈ l ↔ y ∈ l') → l = l' := by
  intro l
  induction l with
  | nil =>
    intro l' _ _ h
    cases l' with
    | nil => rfl
    | cons b t => exact absurd ((h b).2 (by simp)) (by simp)
  | cons a t ih =>
    intro l' h1 h2 h
    cases l' with
    | nil => exact absurd ((h a).1 (by simp)) (by simp)
    | cons b t' =>
      rw [incrN_iff, List.pairwise_cons] at h1 h2
      have hab : a = b := by
        rcases List.mem_cons.1 ((h a).1 (by simp)) with e | e
        · exact e
        · rcases List.mem_cons.1 ((h b).2 (by simp)) with e' | e'
          · exact e'.symm
          · have := h2.1 _ e; have := h1.1 _ e'; omega
      subst hab
      congr 1
      refine ih (incrN_iff.2 h1.2) (incrN_iff.2 h2.2) fun y => ?_
      have hy := h y
      simp only [List.mem_cons] at hy
      constructor
      · intro hm
        rcases hy.1 (.inr hm) with rfl | e
        · have := h1.1 _ hm; omega
        · exact e
      · intro hm
        rcases hy.2 (.inr hm) with rfl | e
        · have := h2.1 _ hm; omega
        · exact e
theorem getD_mem {l : List Itm} {i : Nat} (h : i < l.length) : l.getD i Itm.zero ∈ l := by
  simp [List.getD, h]
theorem ithere_iff {l : List Itm} {n : Int} (hs : incrN l) : ithere l n = true ↔ ∃ x ∈ l, x.num = n := by
  constructor
  · intro h
    exact ⟨_, getD_mem (ithere_lt h), ithere_num h⟩
  · rintro ⟨x, hx, rfl⟩
    obtain ⟨j, hj, rfl⟩ := List.getElem_of_mem hx
    have e : l[j] = l.getD j Itm.zero := by simp [List.getD, hj]
    have hp : iplace l l[j].num = j := by
      refine iplace_eq (by omega) (fun a ha => ?_) (fun _ => ?_)
      · have := hs a j ha hj; rw [e]; exact this
      · rw [e]; exact Int.le_refl _
    rw [ithere_eq hp]
    simp [hj]
theorem ithere_no {l : List Itm} {n : Int} (hs : incrN l) : ithere l n = false ↔ ∀ x ∈ l, x.num ≠ n := by
  have := ithere_iff (n := n) hs
  constructor
  · intro h x hx e
    rw [this.2 ⟨x, hx, e⟩] at h
    cases h
  · intro h
    cases h' : ithere l n with
    | false => rfl
    | true => obtain ⟨x, hx, e⟩ := this.1 h'; exact absurd e (h x hx)
theorem ithere_item {l : List Itm} {x : Itm} (hs : incrN l) (hx : x ∈ l) : l.getD (iplace l x.num) Itm.zero = x := by
  have h := (ithere_iff hs).2 ⟨x, hx, rfl⟩
  exact incr_one hs (getD_mem (ithere_lt h)) hx (ithere_num h)
theorem split_at {α : Type} (l : List α) {p : Nat} (h : p < l.length) : l = l.take p ++ l[p] :: l.drop (p + 1) := by
  rw [← List.drop_eq_getElem_cons h, List.take_append_drop]
theorem layI_mem {l : List Itm} {i y : Itm} (hs : incrN l) : y ∈ layI l i ↔ y = i ∨ (y ∈ l ∧ y.num ≠ i.num) := by
  unfold layI
  split
  · rename_i h
    have hl := ithere_lt h
    have hn := ithere_num h
    have e := split_at l hl
    have hg : (l.getD (iplace l i.num) Itm.zero) = l[iplace l i.num] := by simp [List.getD, hl]
    rw [hg] at hn
    rw [List.set_eq_take_append_cons_drop, if_pos hl]
    have hp := incrN_iff.1 hs
    rw [e, List.pairwise_append, List.pairwise_cons] at hp
    obtain ⟨_, ⟨h2, _⟩, h3⟩ := hp
    constructor
    · intro hm
      simp only [List.mem_append, List.mem_cons] at hm
      rcases hm with hm | rfl | hm
      · have := h3 y hm _ List.mem_cons_self
        exact .inr ⟨List.mem_of_mem_take hm, by omega⟩
      · exact .inl rfl
      · have := h2 y hm
        exact .inr ⟨List.mem_of_mem_drop hm, by omega⟩
    · rintro (rfl | ⟨hm, hne⟩)
      · simp
      · rw [e] at hm
        simp only [List.mem_append, List.mem_cons] at hm ⊢
        rcases hm with hm | rfl | hm
        · exact .inl hm
        · exact absurd hn hne
        · exact .inr (.inr hm)
  · rename_i h
    have hno := (ithere_no (n := i.num) hs).1 (by simpa using h)
    have e := List.take_append_drop (iplace l i.num) l
    constructor
    · intro hm
      simp only [insAt, List.mem_append, List.mem_cons] at hm
      rcases hm with hm | rfl | hm
      · exact .inr ⟨List.mem_of_mem_take hm, hno _ (List.mem_of_mem_take hm)⟩
      · exact .inl rfl
      · exact .inr ⟨List.mem_of_mem_drop hm, hno _ (List.mem_of_mem_drop hm)⟩
    · rintro (rfl | ⟨hm, _⟩)
      · simp [insAt]
      · rw [← e] at hm
        simp only [insAt, List.mem_append, List.mem_cons] at hm ⊢
        rcases hm with hm | hm
        · exact .inl hm
        · exact .inr (.inr hm)
theorem takeI_mem {l : List Itm} {n : Int} {y : Itm} (hs : incrN l) : y ∈ takeI l n ↔ y ∈ l ∧ y.num ≠ n := by
  unfold takeI
  split
  · rename_i h
    have hl := ithere_lt h
    have hn := ithere_num h
    have e := split_at l hl
    have hg : (l.getD (iplace l n) Itm.zero) = l[iplace l n] := by simp [List.getD, hl]
    rw [hg] at hn
    have hp := incrN_iff.1 hs
    rw [e, List.pairwise_append, List.pairwise_cons] at hp
    obtain ⟨_, ⟨h2, _⟩, h3⟩ := hp
    constructor
    · intro hm
      simp only [delAt, List.mem_append] at hm
      rcases hm with hm | hm
      · have := h3 y hm _ List.mem_cons_self
        exact ⟨List.mem_of_mem_take hm, by omega⟩
      · have := h2 y hm
        exact ⟨List.mem_of_mem_drop hm, by omega⟩
    · rintro ⟨hm, hne⟩
      rw [e] at hm
      simp only [delAt, List.mem_append, List.mem_cons] at hm ⊢
      rcases hm with hm | rfl | hm
      · exact .inl hm
      · exact absurd hn hne
      · exact .inr hm
  · rename_i h
    have hno := (ithere_no (n := n) hs).1 (by simpa using h)
    exact ⟨fun hm => ⟨hm, hno y hm⟩, fun hm => hm.1⟩
theorem iidxI_cases (l : List Itm) (n : Int) : (∃ i : Nat, i < l.length ∧ iidxI l n = i ∧ (l.getD i Itm.zero).num = n) ∨ (iidxI l n = -1 ∧ ∀ x ∈ l, x.num ≠ n) := by
  by_cases h : iidx l n < l.length
  · left
    have h2 : decide (l[iidx l n].num = n) = true := List.findIdx_getElem (p := fun x : Itm => decide (x.num = n)) (w := h)
    refine ⟨iidx l n, h, ?_, ?_⟩
    · unfold iidxI; rw [if_pos h]
    · rw [show l.getD (iidx l n) Itm.zero = l[iidx l n] by simp [List.getD, h]]; simpa using h2
  · right
    refine ⟨by unfold iidxI; rw [if_neg h], fun x hx e => h ?_⟩
    exact List.findIdx_lt_length_of_exists ⟨x, hx, by simpa using e⟩
theorem look_some {l : List Itm} (hs : incrN l) {n : Int} {x : Itm} : lookI l n = some x ↔ x ∈ l ∧ x.num = n := by
  unfold lookI
  rcases iidxI_cases l n with ⟨i, hi, he, hn⟩ | ⟨he, hn⟩
  · rw [he, if_neg (by omega), Int.toNat_natCast]
    constructor
    · intro h
      injection h with h
      subst h
      exact ⟨getD_mem hi, hn⟩
    · rintro ⟨hx, hxn⟩
      rw [incr_one hs (getD_mem hi) hx (by omega)]
  · rw [he, if_pos (by decide)]
    constructor
    · intro h; cases h
    · rintro ⟨hx, hxn⟩
      exact absurd hxn (hn x hx)
theorem look_none {l : List Itm} {n : Int} : lookI l n = none ↔ ∀ x ∈ l, x.num ≠ n := by
  unfold lookI
  rcases iidxI_cases l n with ⟨i, hi, he, hn⟩ | ⟨he, hn⟩
  · rw [he, if_neg (by omega)]
    constructor
    · intro h; cases h
    · intro h; exact absurd hn (h _ (getD_mem hi))
  · rw [he, if_pos (by decide)]
    exact ⟨fun _ => hn, fun _ => rfl⟩
theorem look_lay {l : List Itm} {i : Itm} {n : Int} (hs : incrN l) : lookI (layI l i) n = if n = i.num then some i else lookI l n := by
  split
  · rename_i h
    exact (look_some (layI_incr hs)).2 ⟨(layI_mem hs).2 (.inl rfl), h.symm⟩
  · rename_i h
    cases hl : lookI l n with
    | none =>
      rw [look_none] at hl ⊢
      intro x hx
      rcases (layI_mem hs).1 hx with rfl | ⟨hx, _⟩
      · exact fun e => h e.symm
      · exact hl x hx
    | some x =>
      rw [look_some hs] at hl
      exact (look_some (layI_incr hs)).2 ⟨(layI_mem hs).2 (.inr ⟨hl.1, by omega⟩), hl.2⟩
theorem look_take {l : List Itm} {k n : Int} (hs : incrN l) : lookI (takeI l k) n = if n = k then none else lookI l n := by
  split
  · rename_i h
    rw [look_none]
    intro x hx
    have := ((takeI_mem hs).1 hx).2
    omega
  · rename_i h
    cases hl : lookI l n with
    | none =>
      rw [look_none] at hl ⊢
      intro x hx
      exact hl x ((takeI_mem hs).1 hx).1
    | some x =>
      rw [look_some hs] at hl
      exact (look_some (takeI_incr hs)).2 ⟨(takeI_mem hs).2 ⟨hl.1, by omega⟩, hl.2⟩
theorem follow_look (d : Dc) (o : Pob) : followO d o = if o.kind ≠ 8 then o else match lookI d.items o.num with
    | none => Pob.null
    | some x => if x.gen ≠ o.gen then Pob.null else x.obj := by
  unfold followO lookI
  split
  · rfl
  · split <;> rfl
theorem follow_congr {d d' : Dc} {o : Pob} (h : o.kind = 8 → lookI d.items o.num = lookI d'.items o.num) : followO d o = followO d' o := by
  rw [follow_look, follow_look]
  by_cases hk : o.kind = 8
  · rw [h hk]
  · rw [if_pos hk, if_pos hk]
end Aw
