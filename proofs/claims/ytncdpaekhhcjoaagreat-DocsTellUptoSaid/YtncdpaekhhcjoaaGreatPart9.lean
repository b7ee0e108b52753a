/- A part of the proof of a law of the seat: no condition of its own. -/
import Derived.Test.YtncdpaekhhcjoaaGreatPart8
namespace Aw
open Go
def flatKV (l : List (List UInt8 × Pob)) : List Pob := l.flatMap fun p => [nameO p.1, p.2]
theorem setAdd_mem {α : Type} [DecidableEq α] {s : List α} {k x : α} : x ∈ setAdd s k ↔ x ∈ s ∨ x = k := by
  unfold setAdd
  split
  · rename_i h
    constructor
    · exact .inl
    · rintro (g | rfl)
      · exact g
      · exact h
  · simp
theorem dictL_flat : ∀ (l : List (List UInt8 × Pob)) (met : List (List UInt8)) (o : Pob), (∀ p ∈ l, p.2.kind ≠ 0) → (l.map (·.1)).Nodup → (∀ p ∈ l, p.1 ∉ met) → o.kvOk →
    ∃ x, dictL (flatKV l) met o = some x ∧ x.kvOk ∧ (x.kind = o.kind ∧ x.num = o.num ∧ x.gen = o.gen ∧ x.str = o.str) ∧ ∀ k v, x.has k v ↔ (k, v) ∈ l ∨ ((∀ p ∈ l, p.1 ≠ k) ∧ o.has k v)
  | [], met, o, _, _, _, hs => by
    refine ⟨o, by simp only [flatKV, List.flatMap_nil, dictL], hs, ⟨rfl, rfl, rfl, rfl⟩, fun k v => ?_⟩
    simp
  | (k0, v0) :: l, met, o, h1, h2, h3, hs => by
    have hm : k0 ∉ met := h3 (k0, v0) List.mem_cons_self
    rw [List.map_cons, List.nodup_cons] at h2
    have h21 : k0 ∉ l.map (·.1) := h2.1
    obtain ⟨x, e, hx, f, hh⟩ := dictL_flat l (setAdd met k0) (o.withK k0 v0) (fun p hp => h1 p (List.mem_cons_of_mem _ hp)) h2.2
      (fun p hp hin => by
        rcases setAdd_mem.1 hin with g | g
        · exact h3 p (List.mem_cons_of_mem _ hp) g
        · exact h21 (by rw [← g]; exact List.mem_map_of_mem (f := fun p : List UInt8 × Pob => p.1) hp)) (withK_kvOk hs _ _)
    have hv : v0.kind ≠ 0 := h1 (k0, v0) List.mem_cons_self
    obtain ⟨g1, g2, g3, g4⟩ := withK_frame o k0 v0
    obtain ⟨f1, f2, f3, f4⟩ := f
    refine ⟨x, ?_, hx, ⟨f1.trans g1, f2.trans g2, f3.trans g3, f4.trans g4⟩, fun k v => ?_⟩
    · have : flatKV ((k0, v0) :: l) = nameO k0 :: v0 :: flatKV l := rfl
      rw [this]
      simp only [dictL]
      have hn : (nameO k0).str = k0 := rfl
      rw [hn, if_neg hm, if_pos hv]
      exact e
    · rw [hh, has_withK hs]
      have hkl : ∀ w, (k0, w) ∉ l := fun w hw => h21 (List.mem_map_of_mem (f := (·.1)) hw)
      constructor
      · rintro (g | ⟨g, ⟨rfl, rfl⟩ | ⟨g5, g6⟩⟩)
        · exact .inl (List.mem_cons_of_mem _ g)
        · exact .inl List.mem_cons_self
        · refine .inr ⟨fun p hp => ?_, g6⟩
          rcases List.mem_cons.1 hp with e | hp
          · rw [e]; exact fun e => g5 e.symm
          · exact g p hp
      · rintro (g | ⟨g, g6⟩)
        · rcases List.mem_cons.1 g with g | g
          · injection g with a b
            subst a b
            refine .inr ⟨fun p hp e => h21 ?_, .inl ⟨rfl, rfl⟩⟩
            rw [← e]
            exact List.mem_map_of_mem (f := fun p : List UInt8 × Pob => p.1) hp
          · exact .inl g
        · exact .inr ⟨fun p hp => g p (List.mem_cons_of_mem _ hp), .inr ⟨fun e => g (k0, v0) List.mem_cons_self e.symm, g6⟩⟩
theorem dictArg_flat (l : List (List UInt8 × Pob)) : dictArg (flatKV l) = true := by
  have hl : ∀ l, (flatKV l).length = 2 * l.length := by
    intro l
    induction l with
    | nil => rfl
    | cons p l ih => simp only [flatKV, List.flatMap_cons, List.length_append, List.length_cons, List.length_nil] at ih ⊢; omega
  have hk : ∀ (l : List (List UInt8 × Pob)) (i : Nat), i < (flatKV l).length → i % 2 = 0 → ((flatKV l).getD i Pob.null).kind = 5 := by
    intro l
    induction l with
    | nil => intro i hi; simp [flatKV] at hi
    | cons p l ih =>
      intro i hi h2
      have e : flatKV (p :: l) = nameO p.1 :: p.2 :: flatKV l := rfl
      rw [e] at hi ⊢
      match i, h2, hi with
      | 0, _, _ => rfl
      | 1, h2, _ => omega
      | i + 2, h2, hi =>
        simp only [List.getD_cons_succ]
        exact ih i (by simpa using hi) (by omega)
  simp only [dictArg, Bool.and_eq_true, decide_eq_true_eq]
  exact ⟨by rw [hl]; omega, hk l⟩
def rot (n t j : Nat) : Nat := (j + t) % n
theorem rot_eq {n t j : Nat} (ht : t < n) (hj : j < n) : rot n t j = if j + t < n then j + t else j + t - n := by
  unfold rot
  split
  · rename_i h; exact Nat.mod_eq_of_lt h
  · rw [Nat.mod_eq_sub_mod (by omega), Nat.mod_eq_of_lt (by omega)]
/-- the first 'i' pairs, from the 't'-th on -/
def rotP (o : Pob) (t i : Nat) : List (List UInt8 × Pob) := (List.range i).map fun j => (o.keys.getD (rot o.keys.length t j) [], o.kids.getD (rot o.keys.length t j) Pob.null)
def rotL (o : Pob) (t i : Nat) : List Pob := flatKV (rotP o t i)
theorem rotL_succ (o : Pob) (t i : Nat) : rotL o t (i + 1) = rotL o t i ++ [nameO (o.keys.getD (rot o.keys.length t i) []), o.kids.getD (rot o.keys.length t i) Pob.null] := by
  simp [rotL, rotP, List.range_succ, flatKV]
theorem rotL_zero (o : Pob) (t : Nat) : rotL o t 0 = [] := rfl
theorem rotL_length (o : Pob) (t i : Nat) : (rotL o t i).length = 2 * i := by
  induction i with
  | zero => rfl
  | succ i ih => rw [rotL_succ, List.length_append, ih]; simp; omega
theorem dict_rot {o : Pob} (h : chk o 1 = 0) (hk : o.kind = 7) {t : Nat} (ht : t < o.keys.length ∨ o.keys.length = 0) : dictE (rotL o t o.keys.length) = 0 ∧ dictO (rotL o t o.keys.length) = o := by
  have hk' : keyedB o.kind = true := by simp [keyedB, hk]
  obtain ⟨⟨_, h2, h3, h4, _⟩, hs, h8⟩ := (chk_keyed hk').1 h
  have hmem : ∀ k v, (k, v) ∈ rotP o t o.keys.length ↔ o.has k v := by
    intro k v
    simp only [rotP, List.mem_map, List.mem_range, Prod.mk.injEq]
    constructor
    · rintro ⟨j, hj, e1, e2⟩
      refine ⟨_, ?_, e1, e2⟩
      rw [rot_eq (by omega) hj]
      split <;> omega
    · rintro ⟨i, hi, e1, e2⟩
      by_cases g : t ≤ i
      · refine ⟨i - t, by omega, ?_, ?_⟩ <;> rw [rot_eq (by omega) (by omega), if_pos (by omega), Nat.sub_add_cancel g] <;> assumption
      · refine ⟨i + o.keys.length - t, by omega, ?_, ?_⟩ <;> rw [rot_eq (by omega) (by omega), if_neg (by omega), show i + o.keys.length - t + t - o.keys.length = i from by omega] <;> assumption
  obtain ⟨x, e, hx, ⟨f1, f2, f3, f4⟩, hh⟩ := dictL_flat (rotP o t o.keys.length) [] dict0 (fun p hp => (h8 p.1 p.2 ((hmem _ _).1 hp)).2.2.1)
    (by
      rw [rotP, List.map_map, List.nodup_iff_pairwise_ne, List.pairwise_map]
      refine (List.Pairwise.and_mem.1 List.nodup_range).imp ?_
      rintro a b ⟨ha, hb, hab⟩ e
      rw [List.mem_range] at ha hb
      simp only [Function.comp] at e
      have := incr_inj hs.1 (by rw [rot_eq (by omega) ha]; split <;> omega) (by rw [rot_eq (by omega) hb]; split <;> omega) e
      rw [rot_eq (by omega) ha, rot_eq (by omega) hb] at this
      apply hab
      split at this <;> split at this <;> omega)
    (fun p _ hp => by cases hp) ⟨fun a b _ hb => by simp [dict0, Pob.keys_mk] at hb, rfl⟩
  have hxo : x = o := by
    have hs' : o.str = [] := by
      rcases h4 with g | g
      · omega
      · exact g
    refine kv_ext hx hs (by rw [f1, hk]; rfl) (by rw [f2, h2]; rfl) (by rw [f3, h3]; rfl) (by rw [f4, hs']; rfl) fun k v => ?_
    rw [hh, hmem]
    constructor
    · rintro (g | ⟨_, i, hi, _⟩)
      · exact g
      · simp [dict0, Pob.keys_mk] at hi
    · exact .inl
  subst hxo
  have := dict_some (dictArg_flat _) e
  rw [h] at this
  simpa [rotL] using this
theorem dict_stream {o : Pob} {s : List UInt8} (h : chk o 1 = 0) (hk : o.kind = 7) (hl : s.length ≤ 3000) : streamE o s = 0 ∧ (streamO o s).str = s ∧ (streamO o s).kind = 9 ∧ chk (streamO o s) 1 = 0 ∧
    ∀ i, i < o.keys.length → getB (streamO o s) (o.keys.getD i []) = decide (o.keys.getD i [] ≠ lengthK) ∧ (o.keys.getD i [] ≠ lengthK → getO (streamO o s) (o.keys.getD i []) = o.kids.getD i Pob.null) := by
  have hk' : keyedB o.kind = true := by simp [keyedB, hk]
  obtain ⟨ds, dh⟩ := dropO_has (key := lengthK) h hk'
  obtain ⟨g1, g2, g3, g4⟩ := dropO_frame o lengthK
  have hl2 := dropO_len o lengthK
  obtain ⟨⟨h1, h2, h3, h4, h5, h6, h7⟩, hs, h8⟩ := (chk_keyed hk').1 h
  have hxk : keyedB ((dropO o lengthK).strm s).kind = true := by simp [Pob.strm, Pob.kind_mk, keyedB]
  have hxs : ((dropO o lengthK).strm s).kvOk := ds
  have hxh : ∀ k v, ((dropO o lengthK).strm s).has k v ↔ k ≠ lengthK ∧ o.has k v := dh
  have hc : chk ((dropO o lengthK).strm s) 1 = 0 := by
    rw [chk_keyed hxk]
    refine ⟨⟨by omega, by simp only [Pob.strm, Pob.num_mk]; omega, by simp only [Pob.strm, Pob.gen_mk]; omega, .inl rfl, .inl rfl, by simp only [Pob.strm, Pob.str_mk]; omega, by simp only [Pob.strm, Pob.kids_mk]; omega⟩, hxs, fun k v hv => ?_⟩
    obtain ⟨hne, hv⟩ := (hxh k v).1 hv
    obtain ⟨a, _, c, d⟩ := h8 k v hv
    exact ⟨a, fun hh => hne hh.2, c, d⟩
  obtain ⟨e1, e2⟩ := stream_ok (s := s) hk h
  rw [hc] at e1
  rw [if_pos hc] at e2
  rw [e2]
  refine ⟨e1, rfl, rfl, hc, fun i hi => ?_⟩
  by_cases hne : o.keys.getD i [] = lengthK
  · refine ⟨?_, fun hh => absurd hne hh⟩
    rw [(get_no hxs hxk fun v hv => ((hxh _ _).1 hv).1 hne).1, decide_eq_false (fun h => h hne)]
  · have := (get_has hxs hxk (k := o.keys.getD i []) (v := o.kids.getD i Pob.null)).2 ((hxh _ _).2 ⟨hne, i, hi, rfl, rfl⟩)
    exact ⟨by rw [this.1]; simp only [ne_eq, hne, not_false_eq_true, decide_true], fun _ => this.2⟩
end Aw

set_option linter.unusedVariables false
namespace Aw
open Go
theorem rot_lt {n t j : Nat} (h : 0 < n) : rot n t j < n := Nat.mod_lt _ h
theorem bulks_flat : ∀ l : List (List UInt8 × Pob), bulks (flatKV l) = l.length + bulks (l.map (·.2))
  | [] => rfl
  | p :: l => by
    have := bulks_flat l
    have e : flatKV (p :: l) = nameO p.1 :: p.2 :: flatKV l := rfl
    have e2 : (nameO p.1).bulk = 1 := rfl
    rw [e, bulks, bulks, this, e2, List.map_cons, bulks, List.length_cons]
    omega
theorem rot_kids {l : List Pob} {t : Nat} (ht : t < l.length ∨ l.length = 0) : (List.range l.length).map (fun j => l.getD (rot l.length t j) Pob.null) = l.drop t ++ l.take t := by
  refine List.ext_getElem (by simp; omega) fun j h1 h2 => ?_
  simp only [List.length_map, List.length_range] at h1
  have ht' : t < l.length := by omega
  rw [List.getElem_map, List.getElem_range, rot_eq ht' h1]
  by_cases h : j + t < l.length
  · rw [if_pos h, List.getElem_append_left (by simp; omega), List.getElem_drop, List.getD, List.getElem?_eq_getElem h]
    simp [Nat.add_comm]
  · rw [if_neg h, List.getElem_append_right (by simp; omega), List.getElem_take, List.getD, List.getElem?_eq_getElem (by omega)]
    simp only [Option.getD_some, List.length_drop]
    congr 1
    omega
theorem rotL_bulks {o : Pob} {t : Nat} (hl : o.keys.length = o.kids.length) (ht : t < o.keys.length ∨ o.keys.length = 0) : (rotL o t o.keys.length).length + bulks (rotL o t o.keys.length) ≤ 2 * o.bulk := by
  rw [rotL_length]
  unfold rotL
  rw [bulks_flat]
  have e : (rotP o t o.keys.length).map (·.2) = (List.range o.kids.length).map (fun j => o.kids.getD (rot o.kids.length t j) Pob.null) := by
    unfold rotP
    rw [List.map_map, hl]
    rfl
  rw [e, rot_kids (by omega), bulks_append]
  have h1 : bulks (o.kids.drop t) + bulks (o.kids.take t) = bulks o.kids := by
    rw [Nat.add_comm, ← bulks_append, List.take_append_drop]
  have h2 := Pob.bulk_eq o
  have h3 : (rotP o t o.keys.length).length = o.keys.length := by simp [rotP]
  omega
theorem rot_int {n i : Nat} {q : Int} (hq : 0 ≤ q) (hi : i < n) : ((i : Int) + q % (n : Int)) % (n : Int) = ((rot n (q % (n : Int)).toNat i : Nat) : Int) := by
  have h0 : 0 ≤ q % (n : Int) := Int.emod_nonneg _ (by omega)
  unfold rot
  rw [Int.natCast_emod, Int.natCast_add, Int.toNat_of_nonneg h0]
theorem rot_turn {n : Nat} {q : Int} (hq : 0 ≤ q) : (q % (n : Int)).toNat < n ∨ n = 0 := by
  by_cases h : n = 0
  · exact .inr h
  · left
    have h0 : 0 ≤ q % (n : Int) := Int.emod_nonneg _ (by omega)
    have h1 : q % (n : Int) < n := Int.emod_lt_of_pos _ (by omega)
    omega
theorem streamO_bulk (o : Pob) (s : List UInt8) : (streamO o s).bulk ≤ o.bulk := by
  unfold streamO
  split
  · have : Pob.null.bulk = 1 := rfl
    have := Pob.bulk_eq o
    omega
  · rw [strm_bulk]; exact dropO_bulk o lengthK
theorem dictL_bulk : ∀ (ps : List Pob) (met : List (List UInt8)) (o r : Pob), dictL ps met o = some r → r.bulk ≤ o.bulk + 2 * bulks ps
  | [], _, o, r, h => by simp only [dictL, Option.some.injEq] at h; subst h; omega
  | [x], _, o, r, h => by simp only [dictL, Option.some.injEq] at h; subst h; omega
  | k :: v :: l, met, o, r, h => by
    rw [dictL] at h
    have hk := Pob.bulk_pos k
    have hw := Pob.withK_bulk o k.str v
    simp only [bulks]
    split at h
    · cases h
    · have ih := dictL_bulk l _ _ r h
      split at ih <;> omega
theorem dictO_bulk (ps : List Pob) : (dictO ps).bulk ≤ 1 + 2 * bulks ps := by
  have h0 : Pob.null.bulk = 1 := rfl
  cases ha : dictArg ps with
  | false => rw [(dict_arg ha).2]; omega
  | true =>
    cases hd : dictL ps [] dict0 with
    | none => rw [(dict_twice ha hd).2]; omega
    | some o =>
      have := dictL_bulk ps [] dict0 o hd
      have h1 : dict0.bulk = 1 := rfl
      rw [(dict_some ha hd).2]
      split <;> omega
end Aw

set_option linter.unusedVariables false
set_option linter.unusedSimpArgs false
namespace Aw
open Go
theorem idxb_neg : ∀ {s : List UInt8} {c : UInt8}, Lib.indexByte s c < 0 ↔ ∀ i, i < s.length → s.getD i 0 ≠ c
  | [], c => by simp [Lib.indexByte]
  | b :: l, c => by
    have ih := idxb_neg (s := l) (c := c)
    have hg := Lib.indexByte_ge l c
    rw [Lib.indexByte]
    by_cases hb : b = c
    · rw [if_pos (by simpa using hb)]
      refine ⟨fun h => absurd h (by omega), fun h => absurd (h 0 (by simp)) (by simpa using hb)⟩
    · rw [if_neg (by simpa using hb)]
      constructor
      · intro h i hi
        cases i with
        | zero => simpa using hb
        | succ i =>
          have h' : Lib.indexByte l c < 0 := by
            split at h <;> rename_i h1
            · have h1 : Lib.indexByte l c = -1 := by simpa using h1
              omega
            · omega
          simpa using ih.1 h' i (by simpa using hi)
      · intro h
        have h' := ih.2 fun i hi => by simpa using h (i + 1) (by simpa using hi)
        have h2 : Lib.indexByte l c = -1 := by omega
        simp [h2]
theorem nameB_no {s : List UInt8} {i : Nat} (hi : i < s.length) (h : s.getD i 0 = 0) : nameB s = false := by
  have : ¬ Lib.indexByte s 0 < 0 := fun h' => idxb_neg.1 h' i hi h
  simp [nameB, this]
theorem nameB_all {s : List UInt8} (h : ∀ i, i < s.length → s.getD i 0 ≠ 0) : nameB s = decide ((s.length : Int) ≤ 127) := by
  have : Lib.indexByte s 0 < 0 := idxb_neg.2 h
  simp [nameB, this]
/-- the least check: a list of objects from the i-th on -/
theorem chk_step {o : Pob} {d : Int} {i : Nat} (h : ownE o d = 0) (hi : i ≤ o.kids.length) (hs : chkL o.kids (d + 1) = chkL (o.kids.drop i) (d + 1)) (h' : ¬ i < o.kids.length) : chk o d = 0 := by
  rw [chk_eq, if_pos h, hs, List.drop_of_length_le (by omega)]
  with_unfolding_all rfl
/-! a key less -/
def woK {α : Type} (ks : List (List UInt8)) (key : List UInt8) (l : List α) (i : Nat) : List α := if kthere ks key = true ∧ kplace ks key < i then l.take (kplace ks key) ++ (l.drop (kplace ks key + 1)).take (i - (kplace ks key + 1)) else l.take i
theorem woK_zero {α : Type} (ks : List (List UInt8)) (key : List UInt8) (l : List α) : woK ks key l 0 = [] := by simp [woK]
theorem woK_len {α : Type} (ks : List (List UInt8)) (key : List UInt8) (l : List α) (i : Nat) : (woK ks key l i).length ≤ l.length := by
  unfold woK
  split
  · simp only [List.length_append, List.length_take, List.length_drop]; omega
  · simp only [List.length_take]; omega
theorem woK_skip {α : Type} {ks : List (List UInt8)} {key : List UInt8} {l : List α} {i : Nat} (hs : incr ks) (hi : i < ks.length) (hk : ks.getD i [] = key) : woK ks key l (i + 1) = woK ks key l i := by
  have ht : kthere ks key = true := (kthere_iff hs).2 ⟨i, hi, hk⟩
  have hp : kplace ks key = i := incr_inj hs (kthere_lt ht) hi (by rw [kthere_at ht, hk])
  unfold woK
  rw [if_pos ⟨ht, by omega⟩, if_neg (by omega), hp]
  simp
theorem woK_keep {α : Type} {ks : List (List UInt8)} {key : List UInt8} {l : List α} {i : Nat} {x : α} (hs : incr ks) (hi : i < ks.length) (hl : i < l.length) (hk : ks.getD i [] ≠ key) : woK ks key l (i + 1) = woK ks key l i ++ [l.getD i x] := by
  have hg : l.getD i x = l[i] := by simp [List.getD, hl]
  unfold woK
  by_cases ht : kthere ks key = true
  · have hne : kplace ks key ≠ i := fun e => hk (by rw [← e]; exact kthere_at ht)
    by_cases hp : kplace ks key < i
    · rw [if_pos ⟨ht, by omega⟩, if_pos ⟨ht, hp⟩, hg, show i + 1 - (kplace ks key + 1) = i - (kplace ks key + 1) + 1 from by omega, List.take_add_one, List.append_assoc]
      congr 1
      congr 1
      rw [List.getElem?_drop, show kplace ks key + 1 + (i - (kplace ks key + 1)) = i from by omega, List.getElem?_eq_getElem hl]
      rfl
    · rw [if_neg (fun h => hp (by omega)), if_neg (fun h => hp h.2), hg, List.take_add_one, List.getElem?_eq_getElem hl]
      rfl
  · rw [if_neg (fun h => ht h.1), if_neg (fun h => ht h.1), hg, List.take_add_one, List.getElem?_eq_getElem hl]
    rfl
theorem woK_all {o : Pob} {key : List UInt8} (hs : o.kvOk) (hd : dropB o key = kthere o.keys key) : (Pob.mk o.kind o.num o.gen o.str (woK o.keys key o.keys o.keys.length) (woK o.keys key o.kids o.keys.length)) = dropO o key := by
  have hl := hs.2
  cases ht : kthere o.keys key with
  | false =>
    rw [dropO_no (by rw [hd, ht])]
    unfold woK
    rw [if_neg (by simp [ht]), if_neg (by simp [ht]), List.take_of_length_le (Nat.le_refl _), List.take_of_length_le (by omega)]
    cases o; rfl
  | true =>
    have hlt := kthere_lt ht
    rw [dropO_yes (by rw [hd, ht]), Pob.lessK]
    unfold woK delAt
    rw [if_pos ⟨ht, hlt⟩, if_pos ⟨ht, hlt⟩, List.take_of_length_le (l := o.keys.drop _) (by rw [List.length_drop]; omega), List.take_of_length_le (l := o.kids.drop _) (by rw [List.length_drop]; omega)]
/-! a key put -/
theorem put_there {o : Pob} {key : List UInt8} {v : Pob} (hl : o.keys.length = o.kids.length) (ht : kthere o.keys key = true) : o.withK key v = .mk o.kind o.num o.gen o.str (o.keys.take (kplace o.keys key) ++ [key] ++ o.keys.drop (kplace o.keys key + 1)) (o.kids.take (kplace o.keys key) ++ [v] ++ o.kids.drop (kplace o.keys key + 1)) := by
  have hlt := kthere_lt ht
  have hk := kthere_at ht
  rw [withK_there ht]
  congr 1
  · have : [key] ++ o.keys.drop (kplace o.keys key + 1) = o.keys.drop (kplace o.keys key) := by
      rw [List.drop_eq_getElem_cons hlt]
      rw [List.getD, List.getElem?_eq_getElem hlt] at hk
      simp only [Option.getD_some] at hk
      rw [hk]; rfl
    rw [List.append_assoc, this, List.take_append_drop]
  · rw [List.set_eq_take_append_cons_drop, if_pos (by omega)]
    simp
theorem put_new {o : Pob} {key : List UInt8} {v : Pob} (ht : kthere o.keys key = false) : o.withK key v = .mk o.kind o.num o.gen o.str (o.keys.take (kplace o.keys key) ++ [key] ++ o.keys.drop (kplace o.keys key)) (o.kids.take (kplace o.keys key) ++ [v] ++ o.kids.drop (kplace o.keys key)) := by
  rw [withK_new ht]
  simp [insAt]
/-! numbers in order -/
def nplace (l : List Int) (n : Int) : Nat := l.findIdx (fun x => !decide (x < n))
theorem nplace_eq {l : List Int} {n : Int} {i : Nat} (hi : i ≤ l.length) (h1 : ∀ a, a < i → l.getD a 0 < n) (h2 : i < l.length → ¬ l.getD i 0 < n) : nplace l n = i := by
  unfold nplace
  by_cases h : i < l.length
  · rw [List.findIdx_eq h]
    have h3 := h2 h
    simp only [List.getD, List.getElem?_eq_getElem h, Option.getD_some] at h3
    refine ⟨by simpa using h3, fun j hj => ?_⟩
    have := h1 j hj
    simp only [List.getD, List.getElem?_eq_getElem (Nat.lt_trans hj h), Option.getD_some] at this
    simp [this]
  · obtain rfl : i = l.length := by omega
    refine List.findIdx_eq_length.2 ?_
    intro x hx
    obtain ⟨j, hj, rfl⟩ := List.getElem_of_mem hx
    have := h1 j hj
    simp only [List.getD, List.getElem?_eq_getElem hj, Option.getD_some] at this
    simp [this]
def numIns (l : List Int) (n : Int) : List Int := if nplace l n < l.length ∧ l.getD (nplace l n) 0 = n then l else l.take (nplace l n) ++ [n] ++ l.drop (nplace l n)
theorem numIns_spec : ∀ {l : List Int} {n : Int}, l.Pairwise (· < ·) → (numIns l n).Pairwise (· < ·) ∧ ∀ x, x ∈ numIns l n ↔ x ∈ l ∨ x = n
  | [], n, _ => by simp [numIns, nplace]
  | a :: l, n, h => by
    rw [List.pairwise_cons] at h
    by_cases h1 : a < n
    · have hp : nplace (a :: l) n = nplace l n + 1 := by simp [nplace, List.findIdx_cons, h1]
      have ih := numIns_spec (n := n) h.2
      have he : numIns (a :: l) n = a :: numIns l n := by
        unfold numIns
        rw [hp]
        simp only [List.length_cons, Nat.add_lt_add_iff_right, List.getD_cons_succ, List.take_succ_cons, List.drop_succ_cons, List.cons_append]
        split <;> rfl
      rw [he, List.pairwise_cons]
      refine ⟨⟨fun x hx => ?_, ih.1⟩, fun x => ?_⟩
      · rcases (ih.2 x).1 hx with h' | rfl
        · exact h.1 x h'
        · exact h1
      · rw [List.mem_cons, ih.2, List.mem_cons, or_assoc]
    · have hp : nplace (a :: l) n = 0 := by simp [nplace, List.findIdx_cons, h1]
      by_cases h2 : a = n
      · have he : numIns (a :: l) n = a :: l := by
          unfold numIns
          rw [hp, if_pos ⟨by simp, by simpa using h2⟩]
        rw [he, List.pairwise_cons]
        refine ⟨h, fun x => ⟨fun h' => .inl h', fun h' => h'.elim id fun e => ?_⟩⟩
        rw [e, ← h2]; exact List.mem_cons_self
      · have he : numIns (a :: l) n = n :: a :: l := by
          unfold numIns
          rw [hp, if_neg (fun h' => h2 (by simpa using h'.2))]
          rfl
        rw [he, List.pairwise_cons, List.pairwise_cons]
        refine ⟨⟨fun x hx => ?_, h⟩, fun x => ?_⟩
        · rcases List.mem_cons.1 hx with rfl | hx
          · omega
          · have := h.1 x hx; omega
        · rw [List.mem_cons]
          constructor
          · rintro (rfl | h'); exact .inr rfl; exact .inl h'
          · rintro (h' | rfl); exact .inr h'; exact .inl rfl
theorem numIns_len (l : List Int) (n : Int) : (numIns l n).length ≤ l.length + 1 := by
  unfold numIns
  split
  · omega
  · simp; omega
theorem numIns_fold : ∀ (m l : List Int), l.Pairwise (· < ·) → (m.foldl numIns l).Pairwise (· < ·) ∧ ∀ x, x ∈ m.foldl numIns l ↔ x ∈ l ∨ x ∈ m
  | [], l, h => ⟨h, fun x => by simp⟩
  | n :: m, l, h => by
    obtain ⟨h1, h2⟩ := numIns_spec (n := n) h
    obtain ⟨h3, h4⟩ := numIns_fold m (numIns l n) h1
    refine ⟨h3, fun x => ?_⟩
    rw [List.foldl_cons, h4, h2, List.mem_cons, or_assoc]
/-- the references as the reference gathers them: its own, then those of each kid -/
def ownR (o : Pob) : List Int := if refB o = true then [o.num] else []
def kidR (ks : List Pob) (s : List Int) : List Int := ks.foldl (fun s k => (refsO k).foldl numIns s) s
theorem kidR_spec : ∀ (ks : List Pob) (s : List Int), s.Pairwise (· < ·) → (kidR ks s).Pairwise (· < ·) ∧ ∀ x, x ∈ kidR ks s ↔ x ∈ s ∨ ∃ k ∈ ks, x ∈ refsO k
  | [], s, h => ⟨h, fun x => by simp [kidR]⟩
  | k :: ks, s, h => by
    obtain ⟨h1, h2⟩ := numIns_fold (refsO k) s h
    obtain ⟨h3, h4⟩ := kidR_spec ks _ h1
    refine ⟨h3, fun x => ?_⟩
    show x ∈ kidR ks _ ↔ _
    rw [h4, h2]
    simp only [List.mem_cons, exists_eq_or_imp, or_assoc]
theorem pres_mem {l : List Pob} {p : Pob} : p ∈ pres l ↔ ∃ k ∈ l, p ∈ k.pre := by
  induction l with
  | nil => simp [pres]
  | cons o l ih => rw [pres, List.mem_append, ih]; simp
theorem kidR_all (o : Pob) : kidR o.kids (ownR o) = refsO o := by
  have h0 : (ownR o).Pairwise (· < ·) := by unfold ownR; split <;> simp
  obtain ⟨h1, h2⟩ := kidR_spec o.kids _ h0
  refine lt_ext h1 (refs_lt o) fun n => ?_
  rw [h2, refs_mem]
  rw [Pob.pre_eq]
  constructor
  · rintro (h | ⟨k, hk, h⟩)
    · unfold ownR at h
      split at h
      · rename_i hb
        rw [List.mem_singleton] at h
        exact ⟨o, List.mem_cons_self, hb, h.symm⟩
      · cases h
    · obtain ⟨p, hp, hb, hn⟩ := refs_mem.1 h
      exact ⟨p, List.mem_cons_of_mem _ (pres_mem.2 ⟨k, hk, hp⟩), hb, hn⟩
  · rintro ⟨p, hp, hb, hn⟩
    rcases List.mem_cons.1 hp with rfl | hp
    · left
      unfold ownR
      rw [if_pos hb, List.mem_singleton, hn]
    · obtain ⟨k, hk, hp⟩ := pres_mem.1 hp
      exact .inr ⟨k, hk, refs_mem.2 ⟨p, hp, hb, hn⟩⟩
theorem kidR_succ {l : List Pob} {i : Nat} (h : i < l.length) (s : List Int) : kidR (l.take (i + 1)) s = (refsO (l.getD i Pob.null)).foldl numIns (kidR (l.take i) s) := by
  unfold kidR
  rw [List.take_add_one, List.foldl_append, List.getElem?_eq_getElem h]
  simp [List.getD, List.getElem?_eq_getElem h]
theorem foldN_succ {l : List Int} {i : Nat} (h : i < l.length) (s : List Int) : (l.take (i + 1)).foldl numIns s = numIns ((l.take i).foldl numIns s) (l.getD i 0) := by
  rw [List.take_add_one, List.foldl_append, List.getElem?_eq_getElem h]
  simp [List.getD, List.getElem?_eq_getElem h]
theorem foldN_len : ∀ (m l : List Int), (m.foldl numIns l).length ≤ l.length + m.length
  | [], l => by simp
  | n :: m, l => by
    have h1 := numIns_len l n
    have h2 := foldN_len m (numIns l n)
    rw [List.foldl_cons, List.length_cons]
    omega
theorem bulks_takele (l : List Pob) (i : Nat) : bulks (l.take i) ≤ bulks l := by
  have := bulks_append (l.take i) (l.drop i)
  rw [List.take_append_drop] at this
  omega
theorem kidR_len : ∀ (ks : List Pob) (s : List Int), (kidR ks s).length ≤ s.length + bulks ks
  | [], s => by simp [kidR, bulks]
  | k :: ks, s => by
    have h1 := foldN_len (refsO k) s
    have h2 := kidR_len ks ((refsO k).foldl numIns s)
    have h3 := refs_len k
    have e : kidR (k :: ks) s = kidR ks ((refsO k).foldl numIns s) := rfl
    rw [e, bulks]
    omega
end Aw

set_option linter.unusedVariables false
set_option linter.unusedSimpArgs false
namespace Aw
open Go
theorem use_split (o : Pob) (d : Int) : useB o d = (useB o 1 && (decide (d = 1) || !decide (o.kind = 9))) := by
  unfold useB
  cases (bif bif bif bif bif uOk o.kind then bif uN o.kind then true else decide (o.num = 0) else false then bif uG o.kind then true else decide (o.gen = 0) else false then bif uS o.kind then true else decide (o.str = []) else false
    then bif uKeys o.kind then true else decide ((o.keys.length : Int) = 0) else false then bif uKids o.kind then true else decide ((o.kids.length : Int) = 0) else false) <;> simp
theorem own_deep {o : Pob} {d : Int} (h : 24 < d) : chk o d = 7 := chk_bad (by unfold ownE; rw [if_pos (by omega)]) (by decide)
theorem own_use {o : Pob} {d : Int} (h : ¬ 24 < d) (h' : useB o d = false) : chk o d = 10 := chk_bad (by unfold ownE; rw [if_neg (by omega), if_pos h']) (by decide)
theorem own_fits {o : Pob} {d : Int} (h : ¬ 24 < d) (h1 : useB o d = true) (h' : fitsB o = false) : chk o d = 2 := chk_bad (by unfold ownE; rw [if_neg (by omega), if_neg (by simp [h1]), if_pos h']) (by decide)
theorem own_long {o : Pob} {d : Int} (h : ¬ 24 < d) (h1 : useB o d = true) (h2 : fitsB o = true) (h' : shortB o = false) : chk o d = 5 := chk_bad (by unfold ownE; rw [if_neg (by omega), if_neg (by simp [h1]), if_neg (by simp [h2]), if_pos h']) (by decide)
theorem own_many {o : Pob} {d : Int} (h : ¬ 24 < d) (h1 : useB o d = true) (h2 : fitsB o = true) (h3 : shortB o = true) (h' : 8191 < (o.kids.length : Int)) : chk o d = 6 := chk_bad (by unfold ownE; rw [if_neg (by omega), if_neg (by simp [h1]), if_neg (by simp [h2]), if_neg (by simp [h3]), if_pos (by omega)]) (by decide)
theorem own_form {o : Pob} {d : Int} (h : ¬ 24 < d) (h1 : useB o d = true) (h2 : fitsB o = true) (h3 : shortB o = true) (h4 : ¬ 8191 < (o.kids.length : Int)) (h' : formB o = false) : chk o d = 3 := chk_bad (by unfold ownE; rw [if_neg (by omega), if_neg (by simp [h1]), if_neg (by simp [h2]), if_neg (by simp [h3]), if_neg (by omega), if_pos h']) (by decide)
theorem own_ok {o : Pob} {d : Int} (h : ¬ 24 < d) (h1 : useB o d = true) (h2 : fitsB o = true) (h3 : shortB o = true) (h4 : ¬ 8191 < (o.kids.length : Int)) (h' : formB o = true) : chk o d = chkL o.kids (d + 1) := by
  rw [chk_eq, if_pos]
  unfold ownE
  rw [if_neg (by omega), if_neg (by simp [h1]), if_neg (by simp [h2]), if_neg (by simp [h3]), if_neg (by omega), if_neg (by simp [h'])]
def longN (k : Int) : Int := if k = 5 then 127 else if k = 9 then 1048576 else 32767
theorem short_ref {o : Pob} (hu : useB o 1 = true) : shortB o = decide ((o.str.length : Int) ≤ longN o.kind) := by
  by_cases h4 : o.kind = 4
  · simp [shortB, longN, h4]
  by_cases h5 : o.kind = 5
  · simp [shortB, longN, h5]
  by_cases h9 : o.kind = 9
  · simp [shortB, longN, h9]
  have hs : o.str = [] := by
    have hb : uS o.kind = false := by simp [uS, h4, h5, h9]
    unfold useB at hu
    rw [hb] at hu
    cases hc : decide (o.str = []) with
    | true => simpa using hc
    | false => rw [hc] at hu; revert hu; cases (bif bif bif uOk o.kind then bif uN o.kind then true else decide (o.num = 0) else false then bif uG o.kind then true else decide (o.gen = 0) else false then true else false) <;> simp
  simp only [shortB, longN, if_neg h4, if_neg h5, if_neg h9, hs]
  simp
theorem form_name {o : Pob} (h : o.kind = 5) : formB o = nameB o.str := by
  have : uKeys 5 = false := rfl
  simp [formB, h, this]
theorem form_none {o : Pob} (h : ¬ o.kind = 5) (h7 : ¬ o.kind = 7) (h9 : ¬ o.kind = 9) : formB o = true := by
  have : uKeys o.kind = false := by simp [uKeys, h7, h9]
  simp [formB, h, this]
theorem form_keys {o : Pob} (h7 : o.kind = 7 ∨ o.kind = 9) : formB o = risingB o := by
  have : uKeys o.kind = true := by simpa [uKeys] using h7
  have h5 : ¬ o.kind = 5 := by omega
  simp [formB, h5, this]
/-! sizes -/
theorem Pob.tot_eq (o : Pob) : o.tot = o.str.length + (o.keys.map fun k => k.length + 1).sum + tots o.kids + 7 := by cases o; simp only [Pob.tot, Pob.str, Pob.keys, Pob.kids]
theorem tots_get : ∀ {l : List Pob} {i : Nat}, i < l.length → (l.getD i Pob.null).tot ≤ tots l
  | o :: l, 0, _ => by simp [tots]
  | o :: l, i + 1, h => by
    have := tots_get (l := l) (i := i) (by simpa using h)
    simp only [List.getD_cons_succ, tots]
    omega
theorem Pob.tot_kid {o : Pob} {i : Nat} (h : i < o.kids.length) : (o.kids.getD i Pob.null).tot + 7 ≤ o.tot := by
  have := Pob.tot_eq o
  have := tots_get h
  omega
theorem ktot_get : ∀ {l : List (List UInt8)} {i : Nat}, i < l.length → (l.getD i []).length + 1 ≤ (l.map fun k => k.length + 1).sum
  | k :: l, 0, _ => by simp
  | k :: l, i + 1, h => by
    have := ktot_get (l := l) (i := i) (by simpa using h)
    simp only [List.getD_cons_succ, List.map_cons, List.sum_cons]
    omega
theorem Pob.tot_key {o : Pob} {i : Nat} (h : i < o.keys.length) : (o.keys.getD i []).length + 8 ≤ o.tot := by
  have := Pob.tot_eq o
  have := ktot_get h
  omega
theorem Pob.tot_str (o : Pob) : o.str.length + 7 ≤ o.tot := by
  have := Pob.tot_eq o
  omega
theorem tots_append (a b : List Pob) : tots (a ++ b) = tots a + tots b := by
  induction a with
  | nil => simp [tots]
  | cons o l ih => simp only [List.cons_append, tots, ih]; omega
theorem ksum_append (a b : List (List UInt8)) : ((a ++ b).map fun k => k.length + 1).sum = (a.map fun k => k.length + 1).sum + (b.map fun k => k.length + 1).sum := by simp
theorem tots_set {l : List Pob} {i : Nat} {v : Pob} : tots (l.set i v) ≤ tots l + v.tot := by
  induction l generalizing i with
  | nil => simp [tots]
  | cons o l ih =>
    cases i with
    | zero => simp only [List.set_cons_zero, tots]; omega
    | succ i => simp only [List.set_cons_succ, tots]; have := ih (i := i); omega
theorem withK_tot (o : Pob) (key : List UInt8) (v : Pob) : (o.withK key v).tot ≤ o.tot + v.tot + key.length + 1 := by
  have h0 := Pob.tot_eq o
  unfold Pob.withK
  split
  · simp only [Pob.tot]
    have := tots_set (l := o.kids) (i := kplace o.keys key) (v := v)
    omega
  · simp only [Pob.tot, insAt]
    have e1 := tots_append (o.kids.take (kplace o.keys key)) (o.kids.drop (kplace o.keys key))
    have e2 := ksum_append (o.keys.take (kplace o.keys key)) (o.keys.drop (kplace o.keys key))
    rw [List.take_append_drop] at e1 e2
    rw [tots_append, tots, List.map_append, List.sum_append, List.map_cons, List.sum_cons]
    omega
theorem dropO_tot (o : Pob) (key : List UInt8) : (dropO o key).tot ≤ o.tot := by
  unfold dropO
  split
  · have h0 := Pob.tot_eq o
    unfold Pob.lessK delAt
    simp only [Pob.tot]
    have e1 := tots_append (o.kids.take (kplace o.keys key)) (o.kids.drop (kplace o.keys key))
    have e2 := ksum_append (o.keys.take (kplace o.keys key)) (o.keys.drop (kplace o.keys key))
    rw [List.take_append_drop] at e1 e2
    have e3 := tots_append ((o.kids.drop (kplace o.keys key)).take 1) ((o.kids.drop (kplace o.keys key)).drop 1)
    have e4 := ksum_append ((o.keys.drop (kplace o.keys key)).take 1) ((o.keys.drop (kplace o.keys key)).drop 1)
    rw [List.take_append_drop, List.drop_drop] at e3 e4
    rw [tots_append, ksum_append]
    omega
  · exact Nat.le_refl _
theorem strm_tot (o : Pob) (s : List UInt8) : ((dropO o lengthK).strm s).tot ≤ o.tot + s.length := by
  have h1 := dropO_tot o lengthK
  have h2 := Pob.tot_eq (dropO o lengthK)
  unfold Pob.strm
  simp only [Pob.tot]
  omega
theorem tots_take2 {ps : List Pob} {i : Nat} (h : i + 1 < ps.length) : tots (ps.take (i + 2)) = tots (ps.take i) + (ps.getD i Pob.null).tot + (ps.getD (i + 1) Pob.null).tot := by
  rw [List.take_succ_eq_append_getElem (show i + 1 < ps.length from h), List.take_succ_eq_append_getElem (Nat.lt_of_succ_lt h), tots_append, tots_append]
  simp only [tots, List.getD, List.getElem?_eq_getElem h, List.getElem?_eq_getElem (Nat.lt_of_succ_lt h), Option.getD_some]
  omega
theorem tots_takele (l : List Pob) (i : Nat) : tots (l.take i) ≤ tots l := by
  have := tots_append (l.take i) (l.drop i)
  rw [List.take_append_drop] at this
  omega
theorem withK_len {o : Pob} {key : List UInt8} {v : Pob} (h : o.keys.length = o.kids.length) : (o.withK key v).keys.length = (o.withK key v).kids.length := by
  unfold Pob.withK
  split
  · simp only [Pob.keys_mk, Pob.kids_mk, List.length_set]; exact h
  · have h1 := kplace_le o.keys key
    simp only [Pob.keys_mk, Pob.kids_mk]
    rw [insAt_length, insAt_length]
    omega
end Aw

namespace Go.Proofs
open Go Aw
set_option linter.unusedSimpArgs false
set_option linter.unusedVariables false
set_option maxRecDepth 100000
set_option maxHeartbeats 2000000

attribute [local go_sem] take_strsAV drop_strsAV app_strsAV app1_strsAV take_intsAV drop_intsAV app_intsAV app1_intsAV take_objsAV drop_objsAV app_objsAV app1_objsAV
theorem c_foliantref05_place (gl : List (Nat × AV)) (l : List (List UInt8)) (key : List UInt8) (hl : l.length ≤ 16777216 := by first | omega | exact u8_le _ | assumption | (simp; done) | (simp; omega)) : FnP Tryz.prog (gl) 156 [.sl (strsAV l), .str key] fun r => r = .ret (.tup [.int .i64 (kplace l key), .bool (kthere l key)]) := by
  refine FnP.intro Tryz.func156 rfl rfl (by simp [Tryz.ntmps156]) ?_
  simp only [argEnv, Tryz.ntmps156, Tryz.results156]
  refine AW.rS ?_
  refine AW.rS ?_
  refine AW.seq ?_
  refine AW.block ?_
  refine AW.lk (S := { i : Nat // i ≤ l.length ∧ ∀ j, j < i → Op.bytesLess (l.getD j []) key = true }) [0, 1] (fun s_ => [(6, .int .i64 s_.1)]) (fun s_ => []) 0 (fun s_ => l.length - s_.1) ⟨0, Nat.zero_le _, fun j h => absurd h (by omega)⟩ ?_ ?_
  · refine St.le.vw []
  rintro ⟨i, hi, hs⟩
  try dsimp only at hi
  try dsimp only at hs
  refine AW.seq ?_
  by_cases hs7 : i < l.length
  · skip
    refine AW.rS ?_
    refine AW.c2 ?_ ?_
    · intro h8
      refine AW.skip ?_
      refine AW.block ?_
      refine AW.rL ?_
      refine ⟨⟨i + 1, by omega, fun j hj => (Nat.lt_or_ge j i).elim (hs j) (fun h => (show j = i by omega) ▸ (by have := h8; simp at this; simpa using this.2))⟩, ?_, ?_⟩
      · refine St.le.vw []
      · simp only []; omega
    · intro h8
      refine AW.exit ?_
      refine AW.dS [(0, 0), (1, 0), (2, 0), (3, 1), (4, 0), (5, 0), (6, 0), (7, 0), (8, 1), (9, 1), (10, 0), (11, 0), (12, 0), (13, 0), (14, 0)] ?_
      refine AW.rt ?_
      have hp := kplace_eq (ks := l) (key := key) hi hs (fun _ => (h8.elim (fun h => absurd hs7 h) id))
      rw [kthere, hp]
      simp [Bool.cond_false_right]
  · skip
    refine AW.rS ?_
    refine AW.c2 ?_ ?_
    · intro h8
      exfalso
      simp at h8
      try omega
    · intro h8
      refine AW.exit ?_
      refine AW.dS [(0, 0), (1, 0), (2, 0), (3, 1), (4, 0), (5, 0), (6, 0), (7, 0), (8, 1), (9, 1), (10, 0), (11, 0), (12, 0), (13, 0), (14, 0)] ?_
      refine AW.rt ?_
      have hp := kplace_eq (ks := l) (key := key) hi hs (fun h => absurd h (by omega))
      rw [kthere, hp]
      simp [hs7]
theorem c_foliantref05_Number (gl : List (Nat × AV)) (o : Pob) (h : -9223372036854775808 ≤ o.num ∧ o.num ≤ 9223372036854775807 := by first | omega | exact u8_le _ | assumption | (simp; done) | (simp; omega)) : FnP Tryz.prog (gl) 58 [.agg o.cells] fun r => r = .ret (.tup [.int .i64 (numI o), .bool (numB o)]) := by
  refine FnP.intro Tryz.func58 rfl rfl (by simp [Tryz.ntmps58]) ?_
  simp only [argEnv, Tryz.ntmps58, Tryz.results58]
  refine AW.rS ?_
  refine AW.seq ?_
  refine AW.rS ?_
  refine AW.c2 ?_ ?_
  · intro h4
    refine AW.rS ?_
    refine AW.rt ?_
    have hb : numB o = true := by simp [numB, h4]
    rw [hb, numI, if_pos hb, if_neg (by omega)]
  · intro h4
    refine AW.skip ?_
    refine AW.seq ?_
    refine AW.rS ?_
    refine AW.c2 ?_ ?_
    · intro h11
      refine AW.rS ?_
      refine AW.rt ?_
      have hb : numB o = true := by simp [numB, h11]
      rw [hb, numI, if_pos hb, if_pos (by omega), Int.mul_comm]
    · intro h11
      refine AW.skip ?_
      refine AW.rS ?_
      refine AW.rt ?_
      have hb : numB o = false := by simp only [numB]; simp; omega
      rw [hb, numI, if_neg (by simp [hb])]
theorem c_foliantref05_Num (gl : List (Nat × AV)) (l : List Int) (n : Int) (hl : l.length ≤ 16777000 := by first | omega | exact u8_le _ | assumption | (simp; done) | (simp; omega)) : FnP Tryz.prog (gl) 136 [.sl (intsAV l), .int .i64 n] fun r => r = .ret (.sl (intsAV (numIns l n))) := by
  refine FnP.intro Tryz.func136 rfl rfl (by simp [Tryz.ntmps136]) ?_
  simp only [argEnv, Tryz.ntmps136, Tryz.results136]
  refine AW.rS ?_
  refine AW.rS ?_
  refine AW.seq ?_
  refine AW.block ?_
  refine AW.lk (S := { i : Nat // i ≤ l.length ∧ ∀ j, j < i → l.getD j 0 < n }) [0, 1] (fun s_ => [(5, .int .i64 s_.1)]) (fun s_ => []) 0 (fun s_ => l.length - s_.1) ⟨0, Nat.zero_le _, fun j h => absurd h (by omega)⟩ ?_ ?_
  · refine St.le.vw []
  rintro ⟨i, hi, hs⟩
  try dsimp only at hi
  try dsimp only at hs
  refine AW.seq ?_
  by_cases hs7 : i < l.length
  · skip
    refine AW.rS ?_
    refine AW.c2 ?_ ?_
    · intro h8
      refine AW.skip ?_
      refine AW.block ?_
      refine AW.rL ?_
      refine ⟨⟨i + 1, by omega, fun j hj => (Nat.lt_or_ge j i).elim (hs j) (fun h => (show j = i by omega) ▸ (by have := h8; simp at this; simpa using this.2))⟩, ?_, ?_⟩
      · refine St.le.vw []
      · simp only []; omega
    · intro h8
      refine AW.exit ?_
      have hp := nplace_eq (l := l) (n := n) hi hs (fun _ => by have := h8.elim (fun h => absurd hs7 h) id; omega)
      refine AW.seq ?_
      refine AW.rS ?_
      refine AW.c2 ?_ ?_
      · intro h16
        refine AW.rS ?_
        refine AW.rt ?_
        unfold numIns
        rw [hp, if_pos h16]
      · intro h16
        refine AW.skip ?_
        have e : numIns l n = l.take i ++ [n] ++ l.drop i := by unfold numIns; rw [hp, if_neg (fun h => h16.elim (fun h1 => h1 hs7) (fun h2 => h2 h.2))]
        refine AW.tS (.take 1 0 (.take 2 0 (.take 3 0 (.take 5 0 (.take 8 0 (.take 9 0 (.take 10 0 (.fork 0 (.fork 4 (.fork 6 (.fork 7 (.fork 11 (.take 12 0 .done) .stop) .stop) .stop) (.fork 6 (.fork 4 (.fork 7 (.fork 11 (.take 12 0 .done) .stop) .stop) .stop) .stop)) (.fork 6 (.fork 0 (.fork 4 (.fork 7 (.fork 11 (.take 12 0 .done) .stop) .stop) .stop) .stop) .stop))))))))) ?_
        intro σ' hσ
        simp only [List.map_cons, List.map_nil, List.mem_cons, List.not_mem_nil, or_false] at hσ
        rcases hσ with rfl | rfl | rfl
        all_goals
          simp only [St.norm, sortE, insE]
          refine AW.rt ?_
          rw [e]
          simp [Nat.min_eq_left hi, List.take_of_length_le]
          refine ⟨by omega, ?_⟩
          rw [List.take_of_length_le (by simp; omega)]
  · skip
    refine AW.rS ?_
    refine AW.c2 ?_ ?_
    · intro h8
      exfalso
      simp at h8
      try omega
    · intro h8
      refine AW.exit ?_
      have hp := nplace_eq (l := l) (n := n) hi hs (fun h => absurd h (by omega))
      refine AW.seq ?_
      refine AW.rS ?_
      refine AW.c2 ?_ ?_
      · intro h16
        exfalso
        simp at h16
        try omega
      · intro h16
        refine AW.skip ?_
        have e : numIns l n = l.take i ++ [n] ++ l.drop i := by unfold numIns; rw [hp, if_neg (fun h => hs7 h.1)]
        refine AW.tS (.take 1 0 (.take 2 0 (.take 3 0 (.take 5 0 (.take 8 0 (.take 9 0 (.take 10 0 (.fork 0 (.fork 4 (.fork 6 (.fork 7 (.fork 11 (.take 12 0 .done) .stop) .stop) .stop) (.fork 6 (.fork 4 (.fork 7 (.fork 11 (.take 12 0 .done) .stop) .stop) .stop) .stop)) (.fork 6 (.fork 0 (.fork 4 (.fork 7 (.fork 11 (.take 12 0 .done) .stop) .stop) .stop) .stop) .stop))))))))) ?_
        intro σ' hσ
        simp only [List.map_cons, List.map_nil, List.mem_cons, List.not_mem_nil, or_false] at hσ
        rcases hσ with rfl | rfl | rfl
        all_goals
          simp only [St.norm, sortE, insE]
          refine AW.rt ?_
          rw [e]
          simp [Nat.min_eq_left hi, List.take_of_length_le]
          refine ⟨by omega, ?_⟩
          rw [List.take_of_length_le (by simp; omega)]
end Go.Proofs
