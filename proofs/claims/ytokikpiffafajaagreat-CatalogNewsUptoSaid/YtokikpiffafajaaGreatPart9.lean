/- A part of the proof of a law of the seat: no condition of its own. -/
import Derived.Test.YtokikpiffafajaaGreatPart8
namespace Aw
open Go
theorem rising_iff {o : Pob} : risingP o ↔ o.kvOk ∧ ∀ k v, o.has k v → nameB k = true ∧ ¬ (o.kind = 9 ∧ k = lengthK) ∧ v.kind ≠ 0 := by
  constructor
  · intro h
    refine ⟨⟨rising_incr h, h.1⟩, ?_⟩
    rintro k v ⟨i, hi, rfl, rfl⟩
    have := h.2 i hi
    exact ⟨this.1, this.2.2.1, this.2.2.2⟩
  · rintro ⟨h1, h2⟩
    refine ⟨h1.2, fun i hi => ?_⟩
    have := h2 _ _ ⟨i, hi, rfl, rfl⟩
    exact ⟨this.1, fun h0 => h1.1 (i - 1) i (by omega) hi, this.2.1, this.2.2⟩
theorem has_kid {o : Pob} (hs : o.kvOk) {x : Pob} : x ∈ o.kids ↔ ∃ k, o.has k x := by
  constructor
  · intro h
    obtain ⟨i, hi, rfl⟩ := List.getElem_of_mem h
    exact ⟨o.keys.getD i [], i, by have := hs.2; omega, rfl, by simp [List.getD, hi]⟩
  · rintro ⟨k, i, hi, _, rfl⟩
    have hi' : i < o.kids.length := by have := hs.2; omega
    simp only [List.getD, List.getElem?_eq_getElem hi', Option.getD_some]
    exact List.getElem_mem hi'
theorem keyed_cases {k : Int} (h : keyedB k = true) : k = 7 ∨ k = 9 := by simpa [keyedB] using h
theorem useB_keyed {o : Pob} (hk : keyedB o.kind = true) {d : Int} : useB o d = true ↔ o.num = 0 ∧ o.gen = 0 ∧ (o.kind = 9 ∨ o.str = []) ∧ (d = 1 ∨ o.kind = 7) := by
  rcases keyed_cases hk with h | h <;> simp [useB, uOk, uN, uG, uS, uKeys, uKids, h] <;> grind
theorem formB_keyed {o : Pob} (hk : keyedB o.kind = true) : formB o = true ↔ risingP o := by
  rcases keyed_cases hk with h | h <;> simp [formB, uKeys, h, risingB]
theorem fitsB_keyed {o : Pob} (hk : keyedB o.kind = true) : fitsB o = true := by
  rcases keyed_cases hk with h | h <;> simp [fitsB, h]
theorem shortB_keyed {o : Pob} (hk : keyedB o.kind = true) : shortB o = true ↔ (o.str.length : Int) ≤ 1048576 := by
  rcases keyed_cases hk with h | h <;> simp [shortB, h]
theorem chk_keyed {o : Pob} (hk : keyedB o.kind = true) {d : Int} : chk o d = 0 ↔ (d ≤ 24 ∧ o.num = 0 ∧ o.gen = 0 ∧ (o.kind = 9 ∨ o.str = []) ∧ (d = 1 ∨ o.kind = 7) ∧ (o.str.length : Int) ≤ 1048576 ∧ (o.kids.length : Int) ≤ 8191) ∧ o.kvOk ∧
    ∀ k v, o.has k v → nameB k = true ∧ ¬ (o.kind = 9 ∧ k = lengthK) ∧ v.kind ≠ 0 ∧ chk v (d + 1) = 0 := by
  rw [chk_iff, ownE_iff, useB_keyed hk, formB_keyed hk, shortB_keyed hk, rising_iff]
  constructor
  · rintro ⟨⟨h1, ⟨h2, h3, h4, h5⟩, _, h6, h7, hs, h8⟩, h9⟩
    refine ⟨⟨h1, h2, h3, h4, h5, h6, h7⟩, hs, fun k v hv => ?_⟩
    obtain ⟨g1, g2, g3⟩ := h8 k v hv
    exact ⟨g1, g2, g3, h9 v ((has_kid hs).2 ⟨k, hv⟩)⟩
  · rintro ⟨⟨h1, h2, h3, h4, h5, h6, h7⟩, hs, h8⟩
    refine ⟨⟨h1, ⟨h2, h3, h4, h5⟩, fitsB_keyed hk, h6, h7, hs, fun k v hv => ?_⟩, fun v hv => ?_⟩
    · obtain ⟨g1, g2, g3, _⟩ := h8 k v hv
      exact ⟨g1, g2, g3⟩
    · obtain ⟨k, hk'⟩ := (has_kid hs).1 hv
      exact (h8 k v hk').2.2.2
theorem dropO_len (o : Pob) (key : List UInt8) : (dropO o key).kids.length ≤ o.kids.length := by
  unfold dropO
  split
  · simp only [Pob.lessK, Pob.kids_mk, delAt, List.length_append, List.length_take, List.length_drop]; omega
  · exact Nat.le_refl _
theorem dropO_chk {o : Pob} {key : List UInt8} (h : chk o 1 = 0) (hk : keyedB o.kind = true) : chk (dropO o key) 1 = 0 := by
  obtain ⟨f1, f2, f3, f4⟩ := dropO_frame o key
  obtain ⟨hs, hh⟩ := dropO_has (key := key) h hk
  have hk' : keyedB (dropO o key).kind = true := by rw [f1]; exact hk
  have hl := dropO_len o key
  obtain ⟨⟨h1, h2, h3, h4, h5, h6, h7⟩, _, h8⟩ := (chk_keyed hk).1 h
  rw [chk_keyed hk', f1, f2, f3, f4]
  refine ⟨⟨h1, h2, h3, h4, h5, h6, by omega⟩, hs, fun k v hv => ?_⟩
  exact h8 k v ((hh k v).1 hv).2
/-- what a successful Set gives -/
theorem set_parts {o v : Pob} {key : List UInt8} (h : setE o key v = 0) : keyedB o.kind = true ∧ chk o 1 = 0 ∧ (setO o key v).kvOk ∧ chk (setO o key v) 1 = 0 ∧ (setO o key v).kind = o.kind ∧ (setO o key v).num = o.num ∧ (setO o key v).gen = o.gen ∧ (setO o key v).str = o.str ∧
    ∀ k w, (setO o key v).has k w ↔ (k = key ∧ w = v ∧ v.kind ≠ 0) ∨ (k ≠ key ∧ o.has k w) := by
  cases hk : keyedB o.kind with
  | false => have := (set_unkeyed (v := v) (key := key) hk).1; omega
  | true =>
    by_cases hc : chk o 1 = 0
    · by_cases hv : v.kind = 0
      · obtain ⟨_, e⟩ := set_null (key := key) hk hc hv
        obtain ⟨hs, hh⟩ := dropO_has (key := key) hc hk
        obtain ⟨f1, f2, f3, f4⟩ := dropO_frame o key
        rw [e]
        refine ⟨rfl, hc, hs, dropO_chk hc hk, f1, f2, f3, f4, fun k w => ?_⟩
        rw [hh]
        constructor
        · exact .inr
        · rintro (⟨_, _, h3⟩ | h3)
          · exact absurd hv h3
          · exact h3
      · obtain ⟨e1, e2⟩ := set_val (key := key) hk hc hv
        rw [h] at e1
        rw [if_pos e1.symm] at e2
        have hs := kvOk_of_chk hc hk
        obtain ⟨f1, f2, f3, f4⟩ := withK_frame o key v
        rw [e2]
        refine ⟨rfl, hc, withK_kvOk hs key v, e1.symm, f1, f2, f3, f4, fun k w => ?_⟩
        rw [has_withK hs]
        constructor
        · rintro (⟨h1, h2⟩ | h1)
          · exact .inl ⟨h1, h2, hv⟩
          · exact .inr h1
        · rintro (⟨h1, h2, _⟩ | h1)
          · exact .inl ⟨h1, h2⟩
          · exact .inr h1
    · have := (set_bad (v := v) (key := key) hk hc).1; omega
theorem set_err {o v : Pob} {key : List UInt8} (h : setE o key v ≠ 0) : setO o key v = Pob.null := by unfold setO; rw [if_pos h]
theorem set_get {o v : Pob} {key : List UInt8} (h : setE o key v = 0) : getB (setO o key v) key = decide (v.kind ≠ 0) ∧ (v.kind ≠ 0 → getO (setO o key v) key = v) ∧ ∀ other, other ≠ key → getB (setO o key v) other = getB o other ∧ getO (setO o key v) other = getO o other := by
  obtain ⟨hk, hc, hs, _, f1, _, _, _, hh⟩ := set_parts h
  have hk' : keyedB (setO o key v).kind = true := by rw [f1]; exact hk
  refine ⟨?_, ?_, fun other ho => ?_⟩
  · by_cases hv : v.kind = 0
    · rw [(get_no hs hk' fun w hw => ?_).1]
      · simp [hv]
      · rcases (hh _ _).1 hw with ⟨_, _, h3⟩ | ⟨h3, _⟩
        · exact h3 hv
        · exact h3 rfl
    · rw [((get_has hs hk').2 ((hh _ _).2 (.inl ⟨rfl, rfl, hv⟩))).1]
      simp [hv]
  · intro hv
    exact ((get_has hs hk').2 ((hh _ _).2 (.inl ⟨rfl, rfl, hv⟩))).2
  · refine get_congr hs (kvOk_of_chk hc hk) hk' hk fun w => ?_
    rw [hh]
    constructor
    · rintro (⟨h1, _⟩ | ⟨_, h1⟩)
      · exact absurd h1 ho
      · exact h1
    · exact fun h1 => .inr ⟨ho, h1⟩
/-- a value set, dropped, set again; set twice -/
theorem set_drop {o v : Pob} {key : List UInt8} (h : setE o key v = 0) : getB (dropO (setO o key v) key) key = false ∧ setE (dropO (setO o key v) key) key v = 0 ∧ setO (dropO (setO o key v) key) key v = setO o key v := by
  obtain ⟨hk, hc, hs, hcx, f1, f2, f3, f4, hh⟩ := set_parts h
  have hk' : keyedB (setO o key v).kind = true := by rw [f1]; exact hk
  obtain ⟨g1, g2, g3, g4⟩ := dropO_frame (setO o key v) key
  obtain ⟨ds, dh⟩ := dropO_has (key := key) hcx hk'
  have hkd : keyedB (dropO (setO o key v) key).kind = true := by rw [g1]; exact hk'
  have hcd := dropO_chk (key := key) hcx hk'
  refine ⟨(get_no ds hkd fun w hw => ((dh _ _).1 hw).1 rfl).1, ?_⟩
  by_cases hv : v.kind = 0
  · obtain ⟨e1, e2⟩ := set_null (key := key) hkd hcd hv
    refine ⟨e1, ?_⟩
    rw [e2]
    obtain ⟨k1, k2, k3, k4⟩ := dropO_frame (dropO (setO o key v) key) key
    obtain ⟨ds', dh'⟩ := dropO_has (key := key) hcd hkd
    refine kv_ext ds' hs (by rw [k1, g1]) (by rw [k2, g2]) (by rw [k3, g3]) (by rw [k4, g4]) fun k w => ?_
    rw [dh', dh]
    constructor
    · exact fun h1 => h1.2.2
    · intro h1
      have : k ≠ key := by
        rintro rfl
        rcases (hh _ _).1 h1 with ⟨_, _, h3⟩ | ⟨h3, _⟩
        · exact h3 hv
        · exact h3 rfl
      exact ⟨this, this, h1⟩
  · have e : (dropO (setO o key v) key).withK key v = setO o key v := by
      obtain ⟨k1, k2, k3, k4⟩ := withK_frame (dropO (setO o key v) key) key v
      refine kv_ext (withK_kvOk ds _ _) hs (by rw [k1, g1]) (by rw [k2, g2]) (by rw [k3, g3]) (by rw [k4, g4]) fun k w => ?_
      rw [has_withK ds, dh, hh]
      constructor
      · rintro (⟨rfl, rfl⟩ | ⟨h1, h2, h3⟩)
        · exact .inl ⟨rfl, rfl, hv⟩
        · exact h3
      · rintro (⟨rfl, rfl, _⟩ | ⟨h1, h2⟩)
        · exact .inl ⟨rfl, rfl⟩
        · exact .inr ⟨h1, h1, .inr ⟨h1, h2⟩⟩
    obtain ⟨e1, e2⟩ := set_val (key := key) hkd hcd hv
    rw [e] at e1 e2
    rw [hcx] at e1
    rw [if_pos hcx] at e2
    exact ⟨e1, e2⟩
theorem set_twice {o v : Pob} {key : List UInt8} (h : setE o key v = 0) (w : Pob) : setE (setO o key v) key w = setE o key w ∧ setO (setO o key v) key w = setO o key w := by
  obtain ⟨hk, hc, hs, hcx, f1, f2, f3, f4, hh⟩ := set_parts h
  have hk' : keyedB (setO o key v).kind = true := by rw [f1]; exact hk
  have hso := kvOk_of_chk hc hk
  by_cases hw : w.kind = 0
  · obtain ⟨e1, e2⟩ := set_null (key := key) hk' hcx hw
    obtain ⟨e3, e4⟩ := set_null (key := key) hk hc hw
    refine ⟨by rw [e1, e3], ?_⟩
    rw [e2, e4]
    obtain ⟨k1, k2, k3, k4⟩ := dropO_frame (setO o key v) key
    obtain ⟨l1, l2, l3, l4⟩ := dropO_frame o key
    obtain ⟨ds, dh⟩ := dropO_has (key := key) hcx hk'
    obtain ⟨ds', dh'⟩ := dropO_has (key := key) hc hk
    refine kv_ext ds ds' (by rw [k1, l1, f1]) (by rw [k2, l2, f2]) (by rw [k3, l3, f3]) (by rw [k4, l4, f4]) fun k x => ?_
    rw [dh, dh', hh]
    constructor
    · rintro ⟨h1, ⟨h2, _⟩ | h2⟩
      · exact absurd h2 h1
      · exact h2
    · rintro ⟨h1, h2⟩
      exact ⟨h1, .inr ⟨h1, h2⟩⟩
  · have e : (setO o key v).withK key w = o.withK key w := by
      obtain ⟨k1, k2, k3, k4⟩ := withK_frame (setO o key v) key w
      obtain ⟨l1, l2, l3, l4⟩ := withK_frame o key w
      refine kv_ext (withK_kvOk hs _ _) (withK_kvOk hso _ _) (by rw [k1, l1, f1]) (by rw [k2, l2, f2]) (by rw [k3, l3, f3]) (by rw [k4, l4, f4]) fun k x => ?_
      rw [has_withK hs, has_withK hso, hh]
      constructor
      · rintro (h1 | ⟨h1, ⟨h2, _⟩ | h2⟩)
        · exact .inl h1
        · exact absurd h2 h1
        · exact .inr h2
      · rintro (h1 | ⟨h1, h2⟩)
        · exact .inl h1
        · exact .inr ⟨h1, .inr ⟨h1, h2⟩⟩
    obtain ⟨e1, e2⟩ := set_val (key := key) hk' hcx hw
    obtain ⟨e3, e4⟩ := set_val (key := key) hk hc hw
    rw [e1, e2, e3, e4, e]
    exact ⟨rfl, rfl⟩
end Aw

namespace Aw
open Go
def flatKV (l : List (List UInt8 × Pob)) : List Pob := l.flatMap fun p => [nameO p.1, p.2]
theorem setAdd_mem {α : Type} [DecidableEq α] {s : List α} {k x : α} : x ∈ setAdd s k ↔ x ∈ s ∨ x = k := by
  unfold setAdd
  split
  · rename_i h
    constructor
    · exact .inl
    · rintro (g | rfl)
      · exact g
      · exact h
  · simp
theorem dictL_flat : ∀ (l : List (List UInt8 × Pob)) (met : List (List UInt8)) (o : Pob), (∀ p ∈ l, p.2.kind ≠ 0) → (l.map (·.1)).Nodup → (∀ p ∈ l, p.1 ∉ met) → o.kvOk →
    ∃ x, dictL (flatKV l) met o = some x ∧ x.kvOk ∧ (x.kind = o.kind ∧ x.num = o.num ∧ x.gen = o.gen ∧ x.str = o.str) ∧ ∀ k v, x.has k v ↔ (k, v) ∈ l ∨ ((∀ p ∈ l, p.1 ≠ k) ∧ o.has k v)
  | [], met, o, _, _, _, hs => by
    refine ⟨o, by simp only [flatKV, List.flatMap_nil, dictL], hs, ⟨rfl, rfl, rfl, rfl⟩, fun k v => ?_⟩
    simp
  | (k0, v0) :: l, met, o, h1, h2, h3, hs => by
    have hm : k0 ∉ met := h3 (k0, v0) List.mem_cons_self
    rw [List.map_cons, List.nodup_cons] at h2
    have h21 : k0 ∉ l.map (·.1) := h2.1
    obtain ⟨x, e, hx, f, hh⟩ := dictL_flat l (setAdd met k0) (o.withK k0 v0) (fun p hp => h1 p (List.mem_cons_of_mem _ hp)) h2.2
      (fun p hp hin => by
        rcases setAdd_mem.1 hin with g | g
        · exact h3 p (List.mem_cons_of_mem _ hp) g
        · exact h21 (by rw [← g]; exact List.mem_map_of_mem (f := fun p : List UInt8 × Pob => p.1) hp)) (withK_kvOk hs _ _)
    have hv : v0.kind ≠ 0 := h1 (k0, v0) List.mem_cons_self
    obtain ⟨g1, g2, g3, g4⟩ := withK_frame o k0 v0
    obtain ⟨f1, f2, f3, f4⟩ := f
    refine ⟨x, ?_, hx, ⟨f1.trans g1, f2.trans g2, f3.trans g3, f4.trans g4⟩, fun k v => ?_⟩
    · have : flatKV ((k0, v0) :: l) = nameO k0 :: v0 :: flatKV l := rfl
      rw [this]
      simp only [dictL]
      have hn : (nameO k0).str = k0 := rfl
      rw [hn, if_neg hm, if_pos hv]
      exact e
    · rw [hh, has_withK hs]
      have hkl : ∀ w, (k0, w) ∉ l := fun w hw => h21 (List.mem_map_of_mem (f := (·.1)) hw)
      constructor
      · rintro (g | ⟨g, ⟨rfl, rfl⟩ | ⟨g5, g6⟩⟩)
        · exact .inl (List.mem_cons_of_mem _ g)
        · exact .inl List.mem_cons_self
        · refine .inr ⟨fun p hp => ?_, g6⟩
          rcases List.mem_cons.1 hp with e | hp
          · rw [e]; exact fun e => g5 e.symm
          · exact g p hp
      · rintro (g | ⟨g, g6⟩)
        · rcases List.mem_cons.1 g with g | g
          · injection g with a b
            subst a b
            refine .inr ⟨fun p hp e => h21 ?_, .inl ⟨rfl, rfl⟩⟩
            rw [← e]
            exact List.mem_map_of_mem (f := fun p : List UInt8 × Pob => p.1) hp
          · exact .inl g
        · exact .inr ⟨fun p hp => g p (List.mem_cons_of_mem _ hp), .inr ⟨fun e => g (k0, v0) List.mem_cons_self e.symm, g6⟩⟩
theorem dictArg_flat (l : List (List UInt8 × Pob)) : dictArg (flatKV l) = true := by
  have hl : ∀ l, (flatKV l).length = 2 * l.length := by
    intro l
    induction l with
    | nil => rfl
    | cons p l ih => simp only [flatKV, List.flatMap_cons, List.length_append, List.length_cons, List.length_nil] at ih ⊢; omega
  have hk : ∀ (l : List (List UInt8 × Pob)) (i : Nat), i < (flatKV l).length → i % 2 = 0 → ((flatKV l).getD i Pob.null).kind = 5 := by
    intro l
    induction l with
    | nil => intro i hi; simp [flatKV] at hi
    | cons p l ih =>
      intro i hi h2
      have e : flatKV (p :: l) = nameO p.1 :: p.2 :: flatKV l := rfl
      rw [e] at hi ⊢
      match i, h2, hi with
      | 0, _, _ => rfl
      | 1, h2, _ => omega
      | i + 2, h2, hi =>
        simp only [List.getD_cons_succ]
        exact ih i (by simpa using hi) (by omega)
  simp only [dictArg, Bool.and_eq_true, decide_eq_true_eq]
  exact ⟨by rw [hl]; omega, hk l⟩
def rot (n t j : Nat) : Nat := (j + t) % n
theorem rot_eq {n t j : Nat} (ht : t < n) (hj : j < n) : rot n t j = if j + t < n then j + t else j + t - n := by
  unfold rot
  split
  · rename_i h; exact Nat.mod_eq_of_lt h
  · rw [Nat.mod_eq_sub_mod (by omega), Nat.mod_eq_of_lt (by omega)]
/-- the first 'i' pairs, from the 't'-th on -/
def rotP (o : Pob) (t i : Nat) : List (List UInt8 × Pob) := (List.range i).map fun j => (o.keys.getD (rot o.keys.length t j) [], o.kids.getD (rot o.keys.length t j) Pob.null)
def rotL (o : Pob) (t i : Nat) : List Pob := flatKV (rotP o t i)
theorem rotL_succ (o : Pob) (t i : Nat) : rotL o t (i + 1) = rotL o t i ++ [nameO (o.keys.getD (rot o.keys.length t i) []), o.kids.getD (rot o.keys.length t i) Pob.null] := by
  simp [rotL, rotP, List.range_succ, flatKV]
theorem rotL_zero (o : Pob) (t : Nat) : rotL o t 0 = [] := rfl
theorem rotL_length (o : Pob) (t i : Nat) : (rotL o t i).length = 2 * i := by
  induction i with
  | zero => rfl
  | succ i ih => rw [rotL_succ, List.length_append, ih]; simp; omega
theorem dict_rot {o : Pob} (h : chk o 1 = 0) (hk : o.kind = 7) {t : Nat} (ht : t < o.keys.length ∨ o.keys.length = 0) : dictE (rotL o t o.keys.length) = 0 ∧ dictO (rotL o t o.keys.length) = o := by
  have hk' : keyedB o.kind = true := by simp [keyedB, hk]
  obtain ⟨⟨_, h2, h3, h4, _⟩, hs, h8⟩ := (chk_keyed hk').1 h
  have hmem : ∀ k v, (k, v) ∈ rotP o t o.keys.length ↔ o.has k v := by
    intro k v
    simp only [rotP, List.mem_map, List.mem_range, Prod.mk.injEq]
    constructor
    · rintro ⟨j, hj, e1, e2⟩
      refine ⟨_, ?_, e1, e2⟩
      rw [rot_eq (by omega) hj]
      split <;> omega
    · rintro ⟨i, hi, e1, e2⟩
      by_cases g : t ≤ i
      · refine ⟨i - t, by omega, ?_, ?_⟩ <;> rw [rot_eq (by omega) (by omega), if_pos (by omega), Nat.sub_add_cancel g] <;> assumption
      · refine ⟨i + o.keys.length - t, by omega, ?_, ?_⟩ <;> rw [rot_eq (by omega) (by omega), if_neg (by omega), show i + o.keys.length - t + t - o.keys.length = i from by omega] <;> assumption
  obtain ⟨x, e, hx, ⟨f1, f2, f3, f4⟩, hh⟩ := dictL_flat (rotP o t o.keys.length) [] dict0 (fun p hp => (h8 p.1 p.2 ((hmem _ _).1 hp)).2.2.1)
    (by
      rw [rotP, List.map_map, List.nodup_iff_pairwise_ne, List.pairwise_map]
      refine (List.Pairwise.and_mem.1 List.nodup_range).imp ?_
      rintro a b ⟨ha, hb, hab⟩ e
      rw [List.mem_range] at ha hb
      simp only [Function.comp] at e
      have := incr_inj hs.1 (by rw [rot_eq (by omega) ha]; split <;> omega) (by rw [rot_eq (by omega) hb]; split <;> omega) e
      rw [rot_eq (by omega) ha, rot_eq (by omega) hb] at this
      apply hab
      split at this <;> split at this <;> omega)
    (fun p _ hp => by cases hp) ⟨fun a b _ hb => by simp [dict0, Pob.keys_mk] at hb, rfl⟩
  have hxo : x = o := by
    have hs' : o.str = [] := by
      rcases h4 with g | g
      · omega
      · exact g
    refine kv_ext hx hs (by rw [f1, hk]; rfl) (by rw [f2, h2]; rfl) (by rw [f3, h3]; rfl) (by rw [f4, hs']; rfl) fun k v => ?_
    rw [hh, hmem]
    constructor
    · rintro (g | ⟨_, i, hi, _⟩)
      · exact g
      · simp [dict0, Pob.keys_mk] at hi
    · exact .inl
  subst hxo
  have := dict_some (dictArg_flat _) e
  rw [h] at this
  simpa [rotL] using this
theorem dict_stream {o : Pob} {s : List UInt8} (h : chk o 1 = 0) (hk : o.kind = 7) (hl : s.length ≤ 3000) : streamE o s = 0 ∧ (streamO o s).str = s ∧ (streamO o s).kind = 9 ∧ chk (streamO o s) 1 = 0 ∧
    ∀ i, i < o.keys.length → getB (streamO o s) (o.keys.getD i []) = decide (o.keys.getD i [] ≠ lengthK) ∧ (o.keys.getD i [] ≠ lengthK → getO (streamO o s) (o.keys.getD i []) = o.kids.getD i Pob.null) := by
  have hk' : keyedB o.kind = true := by simp [keyedB, hk]
  obtain ⟨ds, dh⟩ := dropO_has (key := lengthK) h hk'
  obtain ⟨g1, g2, g3, g4⟩ := dropO_frame o lengthK
  have hl2 := dropO_len o lengthK
  obtain ⟨⟨h1, h2, h3, h4, h5, h6, h7⟩, hs, h8⟩ := (chk_keyed hk').1 h
  have hxk : keyedB ((dropO o lengthK).strm s).kind = true := by simp [Pob.strm, Pob.kind_mk, keyedB]
  have hxs : ((dropO o lengthK).strm s).kvOk := ds
  have hxh : ∀ k v, ((dropO o lengthK).strm s).has k v ↔ k ≠ lengthK ∧ o.has k v := dh
  have hc : chk ((dropO o lengthK).strm s) 1 = 0 := by
    rw [chk_keyed hxk]
    refine ⟨⟨by omega, by simp only [Pob.strm, Pob.num_mk]; omega, by simp only [Pob.strm, Pob.gen_mk]; omega, .inl rfl, .inl rfl, by simp only [Pob.strm, Pob.str_mk]; omega, by simp only [Pob.strm, Pob.kids_mk]; omega⟩, hxs, fun k v hv => ?_⟩
    obtain ⟨hne, hv⟩ := (hxh k v).1 hv
    obtain ⟨a, _, c, d⟩ := h8 k v hv
    exact ⟨a, fun hh => hne hh.2, c, d⟩
  obtain ⟨e1, e2⟩ := stream_ok (s := s) hk h
  rw [hc] at e1
  rw [if_pos hc] at e2
  rw [e2]
  refine ⟨e1, rfl, rfl, hc, fun i hi => ?_⟩
  by_cases hne : o.keys.getD i [] = lengthK
  · refine ⟨?_, fun hh => absurd hne hh⟩
    rw [(get_no hxs hxk fun v hv => ((hxh _ _).1 hv).1 hne).1, decide_eq_false (fun h => h hne)]
  · have := (get_has hxs hxk (k := o.keys.getD i []) (v := o.kids.getD i Pob.null)).2 ((hxh _ _).2 ⟨hne, i, hi, rfl, rfl⟩)
    exact ⟨by rw [this.1]; simp only [ne_eq, hne, not_false_eq_true, decide_true], fun _ => this.2⟩
end Aw

set_option linter.unusedVariables false
namespace Aw
open Go
theorem rot_lt {n t j : Nat} (h : 0 < n) : rot n t j < n := Nat.mod_lt _ h
theorem bulks_flat : ∀ l : List (List UInt8 × Pob), bulks (flatKV l) = l.length + bulks (l.map (·.2))
  | [] => rfl
  | p :: l => by
    have := bulks_flat l
    have e : flatKV (p :: l) = nameO p.1 :: p.2 :: flatKV l := rfl
    have e2 : (nameO p.1).bulk = 1 := rfl
    rw [e, bulks, bulks, this, e2, List.map_cons, bulks, List.length_cons]
    omega
theorem rot_kids {l : List Pob} {t : Nat} (ht : t < l.length ∨ l.length = 0) : (List.range l.length).map (fun j => l.getD (rot l.length t j) Pob.null) = l.drop t ++ l.take t := by
  refine List.ext_getElem (by simp; omega) fun j h1 h2 => ?_
  simp only [List.length_map, List.length_range] at h1
  have ht' : t < l.length := by omega
  rw [List.getElem_map, List.getElem_range, rot_eq ht' h1]
  by_cases h : j + t < l.length
  · rw [if_pos h, List.getElem_append_left (by simp; omega), List.getElem_drop, List.getD, List.getElem?_eq_getElem h]
    simp [Nat.add_comm]
  · rw [if_neg h, List.getElem_append_right (by simp; omega), List.getElem_take, List.getD, List.getElem?_eq_getElem (by omega)]
    simp only [Option.getD_some, List.length_drop]
    congr 1
    omega
theorem rotL_bulks {o : Pob} {t : Nat} (hl : o.keys.length = o.kids.length) (ht : t < o.keys.length ∨ o.keys.length = 0) : (rotL o t o.keys.length).length + bulks (rotL o t o.keys.length) ≤ 2 * o.bulk := by
  rw [rotL_length]
  unfold rotL
  rw [bulks_flat]
  have e : (rotP o t o.keys.length).map (·.2) = (List.range o.kids.length).map (fun j => o.kids.getD (rot o.kids.length t j) Pob.null) := by
    unfold rotP
    rw [List.map_map, hl]
    rfl
  rw [e, rot_kids (by omega), bulks_append]
  have h1 : bulks (o.kids.drop t) + bulks (o.kids.take t) = bulks o.kids := by
    rw [Nat.add_comm, ← bulks_append, List.take_append_drop]
  have h2 := Pob.bulk_eq o
  have h3 : (rotP o t o.keys.length).length = o.keys.length := by simp [rotP]
  omega
theorem rot_int {n i : Nat} {q : Int} (hq : 0 ≤ q) (hi : i < n) : ((i : Int) + q % (n : Int)) % (n : Int) = ((rot n (q % (n : Int)).toNat i : Nat) : Int) := by
  have h0 : 0 ≤ q % (n : Int) := Int.emod_nonneg _ (by omega)
  unfold rot
  rw [Int.natCast_emod, Int.natCast_add, Int.toNat_of_nonneg h0]
theorem rot_turn {n : Nat} {q : Int} (hq : 0 ≤ q) : (q % (n : Int)).toNat < n ∨ n = 0 := by
  by_cases h : n = 0
  · exact .inr h
  · left
    have h0 : 0 ≤ q % (n : Int) := Int.emod_nonneg _ (by omega)
    have h1 : q % (n : Int) < n := Int.emod_lt_of_pos _ (by omega)
    omega
theorem streamO_bulk (o : Pob) (s : List UInt8) : (streamO o s).bulk ≤ o.bulk := by
  unfold streamO
  split
  · have : Pob.null.bulk = 1 := rfl
    have := Pob.bulk_eq o
    omega
  · rw [strm_bulk]; exact dropO_bulk o lengthK
theorem dictL_bulk : ∀ (ps : List Pob) (met : List (List UInt8)) (o r : Pob), dictL ps met o = some r → r.bulk ≤ o.bulk + 2 * bulks ps
  | [], _, o, r, h => by simp only [dictL, Option.some.injEq] at h; subst h; omega
  | [x], _, o, r, h => by simp only [dictL, Option.some.injEq] at h; subst h; omega
  | k :: v :: l, met, o, r, h => by
    rw [dictL] at h
    have hk := Pob.bulk_pos k
    have hw := Pob.withK_bulk o k.str v
    simp only [bulks]
    split at h
    · cases h
    · have ih := dictL_bulk l _ _ r h
      split at ih <;> omega
theorem dictO_bulk (ps : List Pob) : (dictO ps).bulk ≤ 1 + 2 * bulks ps := by
  have h0 : Pob.null.bulk = 1 := rfl
  cases ha : dictArg ps with
  | false => rw [(dict_arg ha).2]; omega
  | true =>
    cases hd : dictL ps [] dict0 with
    | none => rw [(dict_twice ha hd).2]; omega
    | some o =>
      have := dictL_bulk ps [] dict0 o hd
      have h1 : dict0.bulk = 1 := rfl
      rw [(dict_some ha hd).2]
      split <;> omega
end Aw

namespace Go.Proofs
open Go Aw
set_option linter.unusedSimpArgs false
set_option linter.unusedVariables false
set_option maxRecDepth 100000
set_option maxHeartbeats 2000000
theorem intsAV_all (l : List Int) : (intsAV l).take l.length = intsAV l := by
  rw [List.take_of_length_le (by simp [intsAV])]
attribute [local go_sem] intsAV_all
theorem takeInt_succ {a b : List Int} {i : Nat} (h : i < a.length) (hl : a.length = b.length) (he : a.take i = b.take i) (hg : a.getD i 0 = b.getD i 0) : a.take (i + 1) = b.take (i + 1) := by
  rw [List.take_add_one, List.take_add_one, he]
  rw [List.getD, List.getD] at hg
  rw [List.getElem?_eq_getElem h, List.getElem?_eq_getElem (show i < b.length by omega)] at hg ⊢
  simp only [Option.getD_some] at hg
  rw [hg]
theorem setO_bulk (o : Pob) (key : List UInt8) (v : Pob) : (setO o key v).bulk ≤ o.bulk + v.bulk + 2 := by
  unfold setO
  split
  · have : Pob.null.bulk = 1 := rfl
    omega
  · split
    · have := dropO_bulk o key; omega
    · exact Pob.withK_bulk o key v
end Go.Proofs

namespace Aw
open Go
mutual
def Pob.pre : Pob → List Pob
  | .mk k n g s ks l => .mk k n g s ks l :: pres l
def pres : List Pob → List Pob
  | [] => []
  | o :: l => o.pre ++ pres l
end
theorem pres_nil : pres [] = [] := by simp only [pres]
theorem Pob.pre_eq (o : Pob) : o.pre = o :: pres o.kids := by cases o; simp only [Pob.pre, Pob.kids]
theorem pres_append (a b : List Pob) : pres (a ++ b) = pres a ++ pres b := by
  induction a with
  | nil => simp [pres]
  | cons x a ih => simp only [List.cons_append, pres, ih, List.append_assoc]
theorem pres_take {l : List Pob} {i : Nat} (h : i < l.length) : pres (l.take (i + 1)) = pres (l.take i) ++ (l.getD i Pob.null).pre := by
  rw [List.take_succ_eq_append_getElem h, pres_append]
  simp [pres, List.getD, h]
mutual
theorem Pob.pre_le : ∀ o : Pob, o.pre.length ≤ o.bulk
  | .mk k n g s ks l => by simp only [Pob.pre, Pob.bulk, List.length_cons]; have := pres_le l; omega
theorem pres_le : ∀ l : List Pob, (pres l).length ≤ bulks l
  | [] => by simp [pres]
  | o :: l => by simp only [pres, bulks, List.length_append]; have := Pob.pre_le o; have := pres_le l; omega
end
attribute [irreducible] Pob.pre pres
end Aw
