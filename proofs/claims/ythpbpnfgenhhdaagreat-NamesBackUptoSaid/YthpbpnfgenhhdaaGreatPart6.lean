/- A part of the proof: no condition of its own. -/
import Derived.Test.YthpbpnfgenhhdaaGreatPart5
namespace Aw
open Go
abbrev T3 := Gr × List En × Nat
theorem addB_inv {s : BS} {low : Bool} {l : List Pob} {lo hi : List UInt8} {lim : Bool} (h : (addB s low l lo hi lim).err = 0) : s.err = 0 ∧ addE s.d (nodeO low l lo hi lim) = 0 := by
 by_cases h1 : s.err = 0
 ·refine ⟨h1, Classical.byContradiction fun h2 => ?_⟩
  rw [addB_bad h1 h2] at h
  exact h2 h
 ·rw [addB_err h1] at h
  exact absurd h h1
theorem flat_first : ∀ {ts : List T3}, ts ≠ [] → (∀ t ∈ ts, t.2.1 ≠ []) → ∀ z : T3, fkey (ts.map (·.2.1)).flatten = fkey (ts.getD 0 z).2.1
 | t :: ts, _, h, z => by
  have := h t List.mem_cons_self
  obtain ⟨_, e, _⟩ := t
  cases e with
  | nil => exact absurd rfl this
  | cons a e => rfl
theorem flat_last {ts : List T3} (hne : ts ≠ []) (h : ∀ t ∈ ts, t.2.1 ≠ []) (z : T3) : lkey (ts.map (·.2.1)).flatten = lkey (ts.getD (ts.length - 1) z).2.1 := by
 obtain ⟨a, t, rfl⟩ : ∃ a t, ts = a ++ [t] := ⟨ts.dropLast, ts.getLast hne, (List.dropLast_concat_getLast hne).symm⟩
 have ht := h t (by simp)
 have e1 : (a ++ [t]).getD ((a ++ [t]).length - 1) z = t := by simp
 rw [e1]
 obtain ⟨b, e, hb⟩ : ∃ b e, t.2.1 = b ++ [e] := ⟨t.2.1.dropLast, t.2.1.getLast ht, (List.dropLast_concat_getLast ht).symm⟩
 have e2 : ((a ++ [t]).map (·.2.1)).flatten = ((a.map (·.2.1)).flatten ++ b) ++ [e] := by
  simp [hb]
 rw [e2, hb]
 simp [lkey]
structure Row (d0 : Dc) (l : List En) (h tot : Nat) (s : BS) (ts : List T3) : Prop where
 err : s.err = 0
 grow : Grow d0 s.d
 row : s.row = ts.map (·.1)
 tt : ∀ t ∈ ts, TT s.d h t.1 t.2.1 t.2.2
 flat : (ts.map (·.2.1)).flatten = l
 sum : (ts.map (·.2.2)).sum = tot
theorem leaves_row {d : Dc} {l : List En} {f : Nat} (hd : docE d = 0) (hf : 0 < f) : ∀ k, (leavesB d l f k).err = 0 → (∀ j, j < k → j * f < l.length) → ∃ ts, Row d (l.take (k * f)) 0 k (leavesB d l f k) ts
 | 0, _, _ => ⟨[], rfl, Grow.refl hd, rfl, fun t ht => (by cases ht), by simp, rfl⟩
 | k + 1, he, hk => by
  have hs : leavesB d l f (k + 1) = addB (leavesB d l f k) true (pairsP (partL l f k)) ((partL l f k).getD 0 En.zero).key ((partL l f k).getD ((partL l f k).length - 1) En.zero).key true := rfl
  rw [hs] at he ⊢
  obtain ⟨h1, h2⟩ := addB_inv he
  obtain ⟨ts, R⟩ := leaves_row hd hf k h1 (fun j hj => hk j (by omega))
  obtain ⟨g1, g2⟩ := grow_add h2
  rw [addB_ok h1 h2]
  refine ⟨ts ++ [(Gr.mk (addN (leavesB d l f k).d (nodeO true (pairsP (partL l f k)) ((partL l f k).getD 0 En.zero).key ((partL l f k).getD ((partL l f k).length - 1) En.zero).key true)) ((partL l f k).getD 0 En.zero).key ((partL l f k).getD ((partL l f k).length - 1) En.zero).key, partL l f k, 1)], rfl, R.grow.trans g1, ?_, ?_, ?_, ?_⟩
  ·show (leavesB d l f k).row ++ _ = _
   rw [R.row, List.map_append]
   rfl
  ·intro t ht
   rcases List.mem_append.1 ht with ht | ht
   ·exact (R.tt t ht).grow g1
   ·simp only [List.mem_singleton] at ht
    subst ht
    exact ⟨g2, part_ne hf (hk k (by omega)), rfl, rfl, rfl⟩
  ·rw [List.map_append, List.flatten_append, R.flat, take_part]
   simp
  ·rw [List.map_append, List.sum_append, R.sum]
   rfl
theorem part_map {α β : Type} (g : α → β) (l : List α) (f k : Nat) : partL (l.map g) f k = (partL l f k).map g := by simp [partL, List.map_take, List.map_drop]
theorem above_row {d0 : Dc} {l : List En} {h tot : Nat} {s : BS} {ts : List T3} {f : Nat} (R : Row d0 l h tot s ts) (hf : 0 < f) : ∀ k, (aboveB s.d s.row f k).err = 0 → (∀ j, j < k → j * f < s.row.length) →
  ∃ us, Row d0 ((ts.take (k * f)).map (·.2.1)).flatten (h + 1) (((ts.take (k * f)).map (·.2.2)).sum + k) (aboveB s.d s.row f k) us ∧ us.length = k ∧ Grow s.d (aboveB s.d s.row f k).d
 | 0, _, _ => ⟨[], ⟨rfl, R.grow, rfl, fun t ht => (by cases ht), by simp, by simp⟩, rfl, Grow.refl R.grow.x0⟩
 | k + 1, he, hk => by
  have hs : aboveB s.d s.row f (k + 1) = addB (aboveB s.d s.row f k) false (refsP (partL s.row f k)) ((partL s.row f k).getD 0 Gr.zero).lo ((partL s.row f k).getD ((partL s.row f k).length - 1) Gr.zero).hi true := rfl
  rw [hs] at he ⊢
  obtain ⟨h1, h2⟩ := addB_inv he
  obtain ⟨us, U, hul, hug⟩ := above_row R hf k h1 (fun j hj => hk j (by omega))
  obtain ⟨g1, g2⟩ := grow_add h2
  rw [addB_ok h1 h2]
  have hpm : partL s.row f k = (partL ts f k).map (·.1) := by rw [R.row, part_map]
  have hlen : s.row.length = ts.length := by rw [R.row, List.length_map]
  have hne : partL ts f k ≠ [] := part_ne hf (by rw [← hlen]; exact hk k (by omega))
  have hsub : ∀ t ∈ partL ts f k, t ∈ ts := fun t ht => List.mem_of_mem_drop (List.mem_of_mem_take ht)
  have hns : ∀ t ∈ partL ts f k, t.2.1 ≠ [] := fun t ht => (R.tt t (hsub t ht)).ne
  have hpos : 0 < (partL ts f k).length := List.length_pos_iff.2 hne
  have hg := fun t ht => ((R.tt t (hsub t ht)).grow hug).grow g1
  refine ⟨us ++ [(Gr.mk (addN (aboveB s.d s.row f k).d (nodeO false (refsP (partL s.row f k)) ((partL s.row f k).getD 0 Gr.zero).lo ((partL s.row f k).getD ((partL s.row f k).length - 1) Gr.zero).hi true)) ((partL s.row f k).getD 0 Gr.zero).lo ((partL s.row f k).getD ((partL s.row f k).length - 1) Gr.zero).hi, ((partL ts f k).map (·.2.1)).flatten, ((partL ts f k).map (·.2.2)).sum + 1)], ⟨rfl, U.grow.trans g1, ?_, ?_, ?_, ?_⟩, by simp [hul], hug.trans g1⟩
  ·show (aboveB s.d s.row f k).row ++ _ = _
   rw [U.row, List.map_append]
   rfl
  ·intro t ht
   rcases List.mem_append.1 ht with ht | ht
   ·exact (U.tt t ht).grow g1
   ·simp only [List.mem_singleton] at ht
    subst ht
    have hz : ∀ i, i < (partL ts f k).length → (partL s.row f k).getD i Gr.zero = ((partL ts f k).getD i (Gr.zero, [], 0)).1 := by
     intro i hi
     rw [hpm]
     simp [List.getD, hi]
    have hm : ∀ i, i < (partL ts f k).length → (partL ts f k).getD i (Gr.zero, [], 0) ∈ partL ts f k := by
     intro i hi
     have : (partL ts f k).getD i (Gr.zero, [], 0) = (partL ts f k)[i] := by simp [List.getD, hi]
     rw [this]
     exact List.getElem_mem hi
    have hpl : (partL s.row f k).length = (partL ts f k).length := by rw [hpm, List.length_map]
    refine ⟨partL ts f k, ?_, hg, hne, rfl, ?_, ?_, rfl⟩
    ·rw [← hpm]; exact g2
    ·show ((partL s.row f k).getD 0 Gr.zero).lo = _
     rw [hz 0 hpos, (R.tt _ (hsub _ (hm 0 hpos))).ends.1, flat_first hne hns]
    ·show ((partL s.row f k).getD ((partL s.row f k).length - 1) Gr.zero).hi = _
     rw [hpl, hz _ (by omega), (R.tt _ (hsub _ (hm _ (by omega)))).ends.2, flat_last hne hns]
  ·rw [List.map_append, List.flatten_append, U.flat, take_part, List.map_append, List.flatten_append]
   simp
  ·rw [List.map_append, List.sum_append, U.sum, take_part, List.map_append, List.sum_append]
   simp only [List.map_cons, List.map_nil, List.sum_cons, List.sum_nil]
   omega
theorem nodesR_more {f : Nat} (hf : 2 ≤ f) : ∀ (k n : Nat), n ≤ k → nodesR f (k + 1) n = nodesR f k n
 | 0, n, h => by rw [nodesR_le (by omega), nodesR_le (by omega)]
 | k + 1, n, h => by
  rw [nodesR]
  conv => rhs; rw [nodesR]
  split
  ·rfl
  ·rename_i h1
   have := upN_le (a := n) hf
   rw [nodesR_more hf k _ (by omega)]
theorem climb_row {d0 : Dc} {l : List En} {f : Nat} (hf : 2 ≤ f) : ∀ (k : Nat) (h m tot : Nat) (s : BS) (ts : List T3), Row d0 l h tot s ts → s.row.length ≤ k → h + m = 12 → s.row.length ≤ 2 ^ m → (climbB f k s).err = 0 →
  ∃ h' us, Row d0 l h' (tot + nodesR f k s.row.length) (climbB f k s) us ∧ h' ≤ 12 ∧ (climbB f k s).row.length ≤ f
 | 0, h, m, tot, s, ts, R, hk, hm, hp, he => ⟨h, ts, R, by omega, by show s.row.length ≤ f; omega⟩
 | k + 1, h, m, tot, s, ts, R, hk, hm, hp, he => by
  by_cases hl : s.row.length ≤ f
  ·rw [climb_low hl, nodesR, if_pos hl]
   exact ⟨h, ts, R, by omega, hl⟩
  ·rw [climb_step R.err hl] at he ⊢
   rw [nodesR, if_neg hl]
   have hA : (aboveB s.d s.row f (partsN s.row.length f)).err = 0 := Classical.byContradiction fun hc => by
    rw [climb_err hc] at he
    exact hc he
   have hlen : s.row.length = ts.length := by rw [R.row, List.length_map]
   obtain ⟨us, U, hul, _⟩ := above_row R (by omega) _ hA (fun j hj => (parts_more (by omega)).1 hj)
   have hall : ts.take (partsN s.row.length f * f) = ts := by
    refine List.take_of_length_le ?_
    rw [← hlen]
    refine Classical.byContradiction fun hc => ?_
    have := (parts_more (n := s.row.length) (fan := f) (i := partsN s.row.length f) (by omega)).2 (by omega)
    omega
   rw [hall, R.flat, R.sum] at U
   have hur : (aboveB s.d s.row f (partsN s.row.length f)).row.length = upN s.row.length f := by rw [U.row, List.length_map, hul] <;> rfl
   have hup := upN_le (a := s.row.length) hf
   obtain ⟨m, rfl⟩ : ∃ m', m = m' + 1 := ⟨m - 1, by
    cases m with
    | zero => simp at hp; omega
    | succ m => omega⟩
   obtain ⟨h', vs, V, h1, h2⟩ := climb_row hf k (h + 1) m _ _ us U (by rw [hur]; omega) (by omega) (by rw [hur]; rw [Nat.pow_succ] at hp; omega) he
   refine ⟨h', vs, ?_, h1, h2⟩
   rw [hur] at V
   have e : tot + (upN s.row.length f + nodesR f k (upN s.row.length f)) = tot + partsN s.row.length f + nodesR f k (upN s.row.length f) := by rw [show partsN s.row.length f = upN s.row.length f from rfl]; omega
   rw [e]
   exact V
theorem read_kids {x : Dc} (hx : docE x = 0) {h k : Nat} (hk : h < k) : ∀ (ts : List T3) (n : Nat) (acc : List En), (∀ t ∈ ts, TT x h t.1 t.2.1 t.2.2) → up (acc ++ (ts.map (·.2.1)).flatten) → acc.length + (ts.map (·.2.1)).flatten.length ≤ 8191 → n + (ts.map (·.2.2)).sum ≤ 4096 →
  (refsP (ts.map (·.1))).foldl (kstep x k) ⟨0, n, acc⟩ = ⟨0, n + (ts.map (·.2.2)).sum, acc ++ (ts.map (·.2.1)).flatten⟩
 | [], n, acc, _, _, _, _ => by simp [refsP]
 | t :: ts, n, acc, hr, hu, hl, hn => by
  simp only [List.map_cons, List.flatten_cons, List.sum_cons, List.length_append] at hu hl hn ⊢
  rw [show refsP (t.1 :: ts.map (·.1)) = refO t.1.num 0 :: refsP (ts.map (·.1)) from rfl, List.foldl_cons]
  have hu2 : up ((acc ++ t.2.1) ++ (ts.map (·.2.1)).flatten) := by rw [List.append_assoc]; exact hu
  have h1 : kstep x k ⟨0, n, acc⟩ (refO t.1.num 0) = ⟨0, n + t.2.2, acc ++ t.2.1⟩ := by
   rw [kstep, if_neg (by simp)]
   exact read_TT hx h k t.1 t.2.1 t.2.2 n acc (hr t List.mem_cons_self) hk (up_append hu2).1 (by omega) (by omega)
  rw [h1, read_kids hx hk ts (n + t.2.2) (acc ++ t.2.1) (fun t' ht => hr t' (List.mem_cons_of_mem _ ht)) hu2 (by simp only [List.length_append]; omega) (by omega)]
  simp only [List.append_assoc, Nat.add_assoc]
theorem ents_all {l : List En} : ∀ {k : Nat}, entsE l k = 0 → ∀ i, i < k → entE l i = 0
 | 0, _, i, hi => absurd hi (Nat.not_lt_zero i)
 | k + 1, h, i, hi => by
  rw [entsE_step] at h
  split at h
  ·contradiction
  ·rename_i h1
   rcases Nat.lt_succ_iff_lt_or_eq.1 hi with h2 | rfl
   ·exact ents_all (Classical.not_not.1 h1) i h2
   ·exact h
theorem ent_rises {l : List En} {i : Nat} (h : entE l i = 0) (hi : 0 < i) : Op.bytesLess (l.getD (i - 1) En.zero).key (l.getD i En.zero).key = true := by
 rw [entE] at h
 split at h
 ·cases h
 ·split at h
  ·contradiction
  ·split at h
   ·cases h
   ·split at h
    ·cases h
    ·rename_i h1
     cases e : Op.bytesLess (l.getD (i - 1) En.zero).key (l.getD i En.zero).key with
     | true => rfl
     | false => exact absurd ⟨hi, e⟩ h1
theorem may_up {l : List En} {fan : Int} (h : mayE l fan = 0) : up l := by
 have he : entsE l l.length = 0 := by
  rw [mayE] at h
  split at h
  ·cases h
  ·split at h
   ·cases h
   ·exact h
 refine up_of (incr_of_next fun i hi => ?_)
 rw [ekeys_len] at hi
 rw [ekeys_getD (by omega), ekeys_getD (by omega)]
 exact ent_rises (ents_all he (i + 1) hi) (by omega)
theorem findE_at {l : List En} (h : up l) {i : Nat} (hi : i < l.length) : findE (l.getD i En.zero).key l = (0, (l.getD i En.zero).val) := by
 have hd := List.drop_eq_getElem_cons hi
 have hg : l.getD i En.zero = l[i] := by simp [List.getD, hi]
 have hu : up (l.take i ++ l[i] :: l.drop (i + 1)) := by rw [← hd, List.take_append_drop]; exact h
 have hm : l = l.take i ++ l[i] :: l.drop (i + 1) := by rw [← hd, List.take_append_drop]
 rw [hg]
 generalize l[i] = e at *
 generalize hq : findE e.key l = q
 rw [hm, findE_skip, findE, if_pos rfl] at hq
 ·exact hq.symm
 intro x hx hk
 have := (up_append hu).2.2 x hx _ List.mem_cons_self
 rw [hk, bl_irrefl] at this
 cases this
structure Back (d : Dc) (l : List En) (x : Dc) (o : Pob) : Prop where
 grow : Grow d x
 err : readNE x o = 0
 ents : readNL x o = l
 find : ∀ key, findN x o key = findE key l
theorem back_of {d x : Dc} {l : List En} {o : Pob} (hg : Grow d x) (hk : (followO x o).kind ≠ 0) (hr : ∃ c, thru x 24 o ⟨0, 0, []⟩ = ⟨0, c, l⟩) (hf : ∀ key, findT x key 24 o = findE key l) : Back d l x o := by
 obtain ⟨c, hc⟩ := hr
 have ht : thereE x o = 0 := by rw [thereE, if_neg (by rw [hg.x0]; simp), if_neg hk]
 have hrt : readT x o = ⟨0, c, l⟩ := by rw [readT]; exact hc
 exact ⟨hg, by rw [readN_ok ht, hrt], by rw [readN_l ht (by rw [hrt]), hrt], fun key => by rw [findN_ok ht]; exact hf key⟩
theorem make_parts {d : Dc} {l : List En} {fan : Int} (h : makeE d l fan = 0) : docE d = 0 ∧ mayE l fan = 0 ∧ nodesN l.length fan.toNat ≤ 4096 ∧ makeE0 d l fan = 0 ∧ (treeB d l fan.toNat).err = 0 := by
 have h0 : makeE0 d l fan = 0 := Classical.byContradiction fun hc => by
  rw [(make_err0 rfl hc).1] at h
  exact hc h
 have hs : (treeB d l fan.toNat).err = 0 := Classical.byContradiction fun hc => by
  rw [(make_bad h0 rfl hc).1] at h
  exact hc h
 have hd : docE d = 0 := Classical.byContradiction fun hc => by
  rw [make0_doc hc] at h0
  exact hc h0
 have hm : mayE l fan = 0 := Classical.byContradiction fun hc => by
  rw [make0_may hd hc] at h0
  exact hc h0
 refine ⟨hd, hm, Classical.byContradiction fun hc => ?_, h0, hs⟩
 rw [make0_many hd hm (by omega)] at h0
 cases h0
theorem make_back {d : Dc} {l : List En} {fan : Int} (h : makeE d l fan = 0) : Back d l (makeD d l fan) (makeO d l fan) := by
 obtain ⟨hd, hm, hn, h0, ht⟩ := make_parts h
 obtain ⟨_, e2, e3⟩ := make_ok h0 ht
 obtain ⟨f, rfl, hf2, hf16, hl⟩ := may_facts hm
 have hup := may_up hm
 rw [Int.toNat_natCast] at hn ht e2 e3
 rw [e2, e3]
 clear e2 e3 h0 h
 by_cases hlf : l.length ≤ f
 ·rw [tree_low hlf] at ht ⊢
  obtain ⟨_, a2⟩ := addB_inv ht
  obtain ⟨g1, g2⟩ := grow_add a2
  rw [addB_ok rfl a2]
  show Back d l (addO d (nodeO true (pairsP l) [] [] false)) (refO (addN d (nodeO true (pairsP l) [] [] false)) 0)
  have hfo := follow_item g1.x0 g2
  have hlo := low_node (addO d (nodeO true (pairsP l) [] [] false)) l [] [] false
  refine back_of g1 (by rw [hfo, nodeO_kind]; simp) ⟨1, ?_⟩ (fun key => ?_)
  ·rw [thru_succ (by omega) (by rw [hfo]; exact .inl hlo.1), hfo, hlo.2.1, hlo.2.2, pairsOf_pairsP, fold_add l 1 [] (by simpa using hup) (by simpa using hl)]
   rfl
  ·rw [find_low (by rw [hfo]; exact hlo.1), hfo, hlo.2.1, pairsOf_pairsP]
 ·rw [tree_high hlf] at ht ⊢
  have hcl : (climbB f l.length (leavesB d l f (partsN l.length f))).err = 0 := Classical.byContradiction fun hc => by
   rw [top_err hc] at ht
   exact hc ht
  have hle : (leavesB d l f (partsN l.length f)).err = 0 := Classical.byContradiction fun hc => by
   rw [climb_err hc] at hcl
   exact hc hcl
  obtain ⟨ts, R⟩ := leaves_row hd (by omega) _ hle (fun j hj => (parts_more (by omega)).1 hj)
  have hall : l.take (partsN l.length f * f) = l := by
   refine List.take_of_length_le (Classical.byContradiction fun hc => ?_)
   have := (parts_more (n := l.length) (fan := f) (i := partsN l.length f) (by omega)).2 (by omega)
   omega
  rw [hall] at R
  have hpl := parts_le (n := l.length) hf2
  have hrl := leaves_len d l f (partsN l.length f)
  have hup2 := upN_le (a := l.length) hf2
  obtain ⟨h', us, U, hh, hul⟩ := climb_row hf2 l.length 0 12 _ _ ts R (by omega) rfl (by omega) hcl
  have hrow : (leavesB d l f (partsN l.length f)).row.length = partsN l.length f := by
   have e : ∀ k, (leavesB d l f k).err = 0 → (leavesB d l f k).row.length = k := by
    intro k
    induction k with
    | zero => intro _; rfl
    | succ k ih =>
     intro he
     have hs : leavesB d l f (k + 1) = addB (leavesB d l f k) true (pairsP (partL l f k)) ((partL l f k).getD 0 En.zero).key ((partL l f k).getD ((partL l f k).length - 1) En.zero).key true := rfl
     rw [hs] at he ⊢
     obtain ⟨a1, a2⟩ := addB_inv he
     rw [addB_ok a1 a2]
     show ((leavesB d l f k).row ++ [_]).length = _
     rw [List.length_append, ih a1]
     rfl
   exact e _ hle
  have hcount : partsN l.length f + nodesR f l.length (partsN l.length f) + 1 = nodesN l.length f := by
   obtain ⟨n, hn⟩ : ∃ n, l.length = n + 1 := ⟨l.length - 1, by omega⟩
   rw [hn] at hup2 hlf ⊢
   have e1 : nodesR f (n + 1) (n + 1) = upN (n + 1) f + nodesR f n (upN (n + 1) f) := by rw [nodesR, if_neg hlf]
   have e2 := nodesR_more hf2 n (partsN (n + 1) f) (by show upN (n + 1) f ≤ n; omega)
   rw [nodesN, e1, e2]
   rfl
  rw [hrow] at U
  generalize climbB f l.length (leavesB d l f (partsN l.length f)) = s at *
  rw [top_ok U.err] at ht ⊢
  obtain ⟨_, a2⟩ := addB_inv ht
  obtain ⟨g1, g2⟩ := grow_add a2
  rw [addB_ok rfl a2]
  show Back d l (addO s.d (nodeO false (refsP s.row) [] [] false)) (refO (addN s.d (nodeO false (refsP s.row) [] [] false)) 0)
  have hfo := follow_item g1.x0 g2
  have hhi := high_node (addO s.d (nodeO false (refsP s.row) [] [] false)) (refsP s.row) [] [] false
  have htt := fun t ht => (U.tt t ht).grow g1
  have hrr := U.row
  have hfl := U.flat
  have hsm := U.sum
  refine back_of (U.grow.trans g1) (by rw [hfo, nodeO_kind]; simp) ⟨nodesN l.length f, ?_⟩ (fun key => ?_)
  ·rw [thru_succ (by omega) (by rw [hfo]; exact .inr hhi.1), hfo, hhi.2.2.1, hhi.2.2.2]
   show (refsP s.row).foldl (kstep _ 23) ⟨0, 1, []⟩ = _
   have hk := read_kids g1.x0 (h := h') (k := 23) (by omega) us 1 [] htt (by rw [hfl]; simpa using hup) (by rw [hfl]; simpa using hl) (by rw [hsm]; omega)
   rw [← hrr, hfl, hsm] at hk
   refine hk.trans ?_
   rw [List.nil_append, show 1 + (partsN l.length f + nodesR f l.length (partsN l.length f)) = nodesN l.length f from by omega]
  ·rw [find_high (by rw [hfo]; exact hhi.1) (by rw [hfo]; exact hhi.2.1), hfo, hhi.2.2.2]
   have hk := find_kids g1.x0 (key := key) (h := h') (k := 23) us htt (by rw [hfl]; exact hup) (fun t ht => find_TT g1.x0 h' 23 t.1 t.2.1 t.2.2 (htt t ht) (by omega) (up_flat (ess := us.map (·.2.1)) (by rw [hfl]; exact hup) _ (List.mem_map_of_mem ht)))
   rw [hfl, ← hrr] at hk
   exact hk
theorem climb_bulk {f : Nat} (hf : 2 ≤ f) {C : Nat} : ∀ (k : Nat) (s : BS), s.d.bulk + 30 * s.row.length ≤ C → (climbB f k s).d.bulk + 30 * (climbB f k s).row.length ≤ C
 | 0, _, h => h
 | k + 1, s, h => by
  by_cases he : s.err = 0
  ·by_cases hl : s.row.length ≤ f
   ·rw [climb_low hl]; exact h
   ·rw [climb_step he hl]
    have h1 := parts_le (n := s.row.length) hf
    have h2 := above_bulk s.d s.row f (partsN s.row.length f)
    have h3 := above_len s.d s.row f (partsN s.row.length f)
    have h4 : (s.row.take (partsN s.row.length f * f)).length ≤ s.row.length := by rw [List.length_take]; exact Nat.min_le_right _ _
    exact climb_bulk hf k _ (by omega)
  ·rw [climb_err he]; exact h
theorem make_bulk {d : Dc} {l : List En} {fan : Int} (h : d.bulk + esum l ≤ 1100000) : (makeD d l fan).bulk ≤ 16777000 := by
 by_cases he : makeE d l fan = 0
 ·obtain ⟨hd, hm, hn, h0, ht⟩ := make_parts he
  obtain ⟨_, e2, _⟩ := make_ok h0 ht
  obtain ⟨f, rfl, hf2, hf16, hl⟩ := may_facts hm
  rw [e2, Int.toNat_natCast]
  have hpb := pairsP_bulk l
  by_cases hlf : l.length ≤ f
  ·rw [tree_low hlf]
   have h1 := addB_bulk ⟨0, d, []⟩ true (pairsP l) [] [] false
   simp only at h1
   omega
  ·rw [tree_high hlf]
   have h1 := leaves_bulk d l f (partsN l.length f)
   have h2 : esum (l.take (partsN l.length f * f)) ≤ esum l := sum_take_le l _ _
   have h3 := leaves_len d l f (partsN l.length f)
   have h4 := parts_le (n := l.length) hf2
   have h5 := climb_bulk hf2 (C := 2400000) l.length (leavesB d l f (partsN l.length f)) (by omega)
   generalize climbB f l.length (leavesB d l f (partsN l.length f)) = s at *
   by_cases hs : s.err = 0
   ·rw [top_ok hs]
    have h6 := addB_bulk ⟨0, s.d, []⟩ false (refsP s.row) [] [] false
    have h7 := refsP_bulk s.row
    simp only at h6
    omega
   ·rw [top_err hs]; omega
 ·rw [makeD, if_pos he]
  decide
theorem makeO_bulk (d : Dc) (l : List En) (fan : Int) : (makeO d l fan).bulk ≤ 16777216 := by
 rw [makeO]
 split
 ·decide
 ·simp [refO, Pob.bulk, bulks]
theorem make_ne {d : Dc} {l : List En} {fan : Int} (h : ¬ makeE d l fan = 0) : makeD d l fan = Dc.zero ∧ makeO d l fan = Pob.null := ⟨by rw [makeD, if_pos h], by rw [makeO, if_pos h]⟩
theorem Grow.len {d x : Dc} (h : Grow d x) : d.items.length ≤ x.items.length := by
 obtain ⟨t, ht⟩ := h.it
 rw [ht, List.length_append]; omega
theorem Grow.at {d x : Dc} (h : Grow d x) {i : Nat} (hi : i < d.items.length) : x.items.getD i Itm.zero = d.items.getD i Itm.zero := by
 obtain ⟨t, ht⟩ := h.it
 rw [ht]
 simp [List.getD, List.getElem?_append_left hi]
def hasK (l : List En) (key : List UInt8) (i : Nat) : Prop := ∃ j, j < i ∧ (l.getD j En.zero).key = key
theorem hasK_succ {l : List En} {key : List UInt8} {i : Nat} {b : Bool} (h : b = true ↔ hasK l key i) : (b || decide ((l.getD i En.zero).key = key)) = true ↔ hasK l key (i + 1) := by
 rw [Bool.or_eq_true, decide_eq_true_eq, h]
 constructor
 ·rintro (⟨j, h1, h2⟩ | h2)
  ·exact ⟨j, by omega, h2⟩
  ·exact ⟨i, by omega, h2⟩
 ·rintro ⟨j, h1, h2⟩
  rcases Nat.lt_succ_iff_lt_or_eq.1 h1 with h3 | rfl
  ·exact .inl ⟨j, h3, h2⟩
  ·exact .inr h2
theorem back_key {l : List En} (hu : up l) {key : List UInt8} {b : Bool} (h : b = true ↔ hasK l key l.length) : (findE key l).1 = if b = true then 0 else 8 := by
 by_cases hb : b = true
 ·obtain ⟨j, hj, hk⟩ := h.1 hb
  rw [if_pos hb, ← hk, findE_at hu hj]
 ·rw [if_neg hb, findE_none]
  intro e he hk
  obtain ⟨j, hj, rfl⟩ := List.getElem_of_mem he
  exact hb (h.2 ⟨j, hj, by simpa [List.getD, hj] using hk⟩)
theorem make_up {d : Dc} {l : List En} {fan : Int} (h : makeE d l fan = 0) : up l := may_up (make_parts h).2.1
end Aw

namespace Go.Proofs
open Go Aw
set_option linter.unusedSimpArgs false
set_option linter.unusedVariables false
set_option maxRecDepth 100000
set_option maxHeartbeats 4000000
attribute [local go_sem] En.cells entsAV_length entsAV_len7 entsAV_at
theorem c_back_Read (gl : List (Nat × AV)) {d x : Dc} {l : List En} {o : Pob} (B : Back d l x o) (h : x.bulk ≤ 16777216) (ho : o.bulk ≤ 16777216) : FnP Tryz.prog gl 10 [.agg x.cells, .agg o.cells] fun r => r = .ret (.tup [.sl (entsAV l), .int .i64 0]) := by
 have hr := c_names_Read gl x o h ho
 rw [B.ents, B.err] at hr
 exact hr
theorem c_back_Find (gl : List (Nat × AV)) {d x : Dc} {l : List En} {o : Pob} (B : Back d l x o) (key : List UInt8) (h : x.bulk ≤ 16777216) (ho : o.bulk ≤ 16777216) : FnP Tryz.prog gl 12 [.agg x.cells, .agg o.cells, .str key] fun r => r = .ret (.tup [.agg (findE key l).2.cells, .int .i64 (findE key l).1]) := by
 have hr := c_names_Find gl x o key h ho
 rw [B.find] at hr
 exact hr
theorem c_back_At (gl : List (Nat × AV)) {d x : Dc} {l : List En} {o : Pob} (B : Back d l x o) (hu : up l) (j : { k : Nat // k < l.length }) (h : x.bulk ≤ 16777216) (ho : o.bulk ≤ 16777216) : FnP Tryz.prog gl 12 [.agg x.cells, .agg o.cells, .str (l.getD j.1 En.zero).key] fun r => r = .ret (.tup [.agg (l.getD j.1 En.zero).val.cells, .int .i64 0]) := by
 have hr := c_back_Find gl B (l.getD j.1 En.zero).key h ho
 rw [findE_at hu j.2] at hr
 exact hr
theorem c_law37_light (gl : List (Nat × AV)) (d : Dc) (h : d.bulk ≤ 16777216) (hs : d.size ≤ 4611686018427387904) : FnP Tryz.prog (gl) 7 [.agg d.cells] fun r => r = .ret (.bool (decide ((d.items.length : Int) ≤ 40) && decide ((d.size : Int) ≤ 600))) := by
 refine FnP.intro Tryz.func7 rfl rfl (by simp [Tryz.ntmps7]) ?_
 simp only [argEnv, Tryz.ntmps7, Tryz.results7]
 refine AW.rS ?_
 refine AW.trim [1] ?_
 refine AW.rSC ?_
 refine awOps.cons (awGuard.cG (fun hg => c_foliantref19_Size _ d (by omega) (by omega)) ?_)
 refine awOps.rn ?_
 refine AW.trim [2] ?_
 refine AW.rt ?_
 all_goals first | contradiction | rfl | (simp; done) | (simp; omega)
theorem c_law_NamesBack (gl : List (Nat × AV)) (d : Dc) (l : List En) (fan : Int) (key : List UInt8) (h : d.tot + etots l ≤ 1048576) : FnP Tryz.prog (gl) 4 [.agg d.cells, .sl (entsAV l), .int .i64 fan, .str key] fun r => r = .ret (.bool true) := by
 refine FnP.intro Tryz.func4 rfl rfl (by simp [Tryz.ntmps4]) ?_
 simp only [argEnv, Tryz.ntmps4, Tryz.results4]
 have h1 := Dc.bulk_tot d
 have h2 := Dc.size_tot d
 have h3 := esum_tot l
 have h4 := esize_tot l
 have h5 := ebulk_esum l
 have h6 := ebulk_len l
 have hb8 : d.bulk = ibulk d.items + d.trailer.bulk := rfl
 have hb9 := ibulk_len d.items
 have hmb := make_bulk (d := d) (l := l) (fan := fan) (by omega)
 have hob := makeO_bulk d l fan
 refine AW.rS ?_
 refine AW.trim [1, 2, 3, 4] ?_
 refine AW.seq ?_
 refine AW.rSC ?_
 refine awOps.cons (awGuard.c1 (c_law37_light _ d (by omega) (by omega)) ?_)
 refine awOps.rn ?_
 refine awOps.cons (awGuard.cG (fun hg => c_foliantref37_Size _ l (by omega) (by omega)) ?_)
 refine awOps.rn ?_
 refine AW.trim [1, 2, 3, 4, 38] ?_
 refine AW.c2 ?_ ?_
 ·intro h8
  refine AW.rSC ?_
  refine awOps.cons (awGuard.c1 (c_law37_lives _) ?_)
  refine awOps.rn ?_
  refine AW.trim [8] ?_
  refine AW.rt ?_
  all_goals first | contradiction | rfl | (simp; done) | (simp; omega)
 ·intro h8
  refine AW.skip ?_
  refine AW.rSC ?_
  refine awOps.cons (awGuard.c1 (c_names_Make _ d l fan (by omega)) ?_)
  refine awOps.rn ?_
  refine AW.trim [1, 3, 4, 9, 10, 11] ?_
  refine AW.seq ?_
  refine AW.rS ?_
  refine AW.trim [1, 3, 4, 9, 10, 49] ?_
  refine AW.c2 ?_ ?_
  ·intro h20
   obtain ⟨e1, e2⟩ := make_ne h20
   rw [e1, e2]
   simp only [Dc.zero, show itemsAV [] = [] from rfl]
   refine AW.rSC ?_
   refine awOps.cons (awGuard.gT ?_)
   refine awOps.rn ?_
   refine awOps.cons (awGuard.cG (fun hg => c_foliantref05_Same _ Pob.null Pob.null (by decide)) ?_)
   refine awOps.rn ?_
   refine awOps.cons (awGuard.cG (fun hg => c_law37_lives _) ?_)
   refine awOps.rn ?_
   refine AW.trim [8] ?_
   refine AW.rt ?_
   all_goals first | contradiction | rfl | (simp; done) | (simp; omega)
  ·intro h20
   have he : makeE d l fan = 0 := by simpa using h20
   have B := make_back he
   have hu := make_up he
   generalize makeD d l fan = x at *
   generalize makeO d l fan = o at *
   have hgl := B.grow.len
   have hgt := B.grow.tr
   have hx8 : x.bulk = ibulk x.items + x.trailer.bulk := rfl
   have hx9 := ibulk_len x.items
   refine AW.skip ?_
   refine AW.rSC ?_
   refine awOps.cons (awGuard.c1 (c_back_Read _ B (by omega) hob) ?_)
   refine awOps.rn ?_
   refine AW.trim [1, 3, 4, 9, 10, 12, 13] ?_
   refine AW.seq ?_
   refine AW.rSC ?_
   refine awOps.cons (awGuard.cG (fun hg => c_foliantref37_Same _ l l (by omega) (by omega)) ?_)
   refine awOps.rn ?_
   refine awOps.cons (awGuard.cG (fun hg => c_foliantref05_Same _ x.trailer d.trailer (by omega)) ?_)
   refine awOps.rn ?_
   refine AW.trim [1, 3, 4, 9, 10, 92] ?_
   refine AW.c2 ?_ ?_
   ·intro h38
    simp [hgt] at h38
    omega
   ·intro h38
    refine AW.skip ?_
    refine AW.seq ?_
    refine AW.rS ?_
    refine AW.trim [1, 3, 4, 9, 10, 14] ?_
    refine AW.block ?_
    refine AW.lk (S := { i : Nat // i ≤ d.items.length }) [1, 3, 4, 9, 10] (fun s_ => [(14, .int .i64 (s_.1 : Int))]) (fun s_ => [(0, .cells d.cells), (1, .cells x.cells), (2, .cells o.cells)]) 3 (fun s_ => d.items.length - s_.1) ⟨0, Nat.zero_le _⟩ ?_ ?_
    ·refine St.le.vw [0, 1, 2]
    rintro ⟨i, hi⟩
    try dsimp only at hi
    refine AW.seq ?_
    refine AW.rS ?_
    refine AW.trim [1, 3, 4, 9, 10, 14, 97] ?_
    refine AW.c2 ?_ ?_
    ·intro h49
     have hi2 : i < d.items.length := by omega
     have hat := B.grow.at hi2
     have hib := ibulk_get (l := d.items) hi2
     refine AW.skip ?_
     refine AW.seq ?_
     refine AW.block ?_
     refine AW.fS [0, 1, 2, 3, 4, 5, 6, 7, 8, 9, 10, 11] [] ?_
     refine awFun.rn ?_
     refine awFun.c1 [104, 109] (c_foliantref19_SameItem _ (x.items.getD i Itm.zero) (d.items.getD i Itm.zero) (by rw [hat]; omega)) ?_
     refine awFun.rn ?_
     rw [Aw.awFun_nil, Aw.awPlan_nil]
     refine AW.trim [1, 3, 4, 9, 10, 14, 111] ?_
     refine AW.c2 ?_ ?_
     ·intro h58
      rw [hat] at h58
      simp at h58
     ·intro h58
      refine AW.skip ?_
      refine AW.rL ?_
      refine ⟨⟨i + 1, by omega⟩, ?_, ?_⟩
      ·refine St.le.vw [0, 1, 2]
      ·simp only []; omega
    ·intro h49
     refine AW.exit ?_
     refine AW.rS ?_
     refine AW.trim [1, 3, 9, 10, 15] ?_
     refine AW.seq ?_
     refine AW.rS ?_
     refine AW.trim [1, 3, 9, 10, 15, 16] ?_
     refine AW.block ?_
     refine AW.lk (S := { p : Nat × Bool // p.1 ≤ l.length ∧ (p.2 = true ↔ hasK l key p.1) }) [1, 3, 9, 10] (fun s_ => [(15, .bool s_.1.2), (16, .int .i64 (s_.1.1 : Int))]) (fun s_ => [(0, .cells d.cells), (1, .cells x.cells), (2, .cells o.cells)]) 3 (fun s_ => l.length - s_.1.1) ⟨(0, false), Nat.zero_le _, ⟨fun h => (by cases h), fun ⟨_, h, _⟩ => absurd h (Nat.not_lt_zero _)⟩⟩ ?_ ?_
     ·refine St.le.vw [0, 1, 2]
     rintro ⟨⟨k, b⟩, hk, hkb⟩
     try dsimp only at hk
     try dsimp only at hkb
     refine AW.seq ?_
     refine AW.rS ?_
     refine AW.trim [1, 3, 9, 10, 15, 16, 115] ?_
     refine AW.c2 ?_ ?_
     ·intro h73
      have hk2 : k < l.length := by omega
      obtain ⟨j, hj⟩ : ∃ j : { x : Nat // x < l.length }, j.1 = k := ⟨⟨k, hk2⟩, rfl⟩
      subst hj
      have hgb := ebulk_get hk2
      have hW := hasK_succ hkb
      refine AW.skip ?_
      refine AW.seq ?_
      refine AW.block ?_
      refine AW.tG (σf := ?sf18) (.take 2 0 (.take 3 0 (.take 4 0 (.take 5 0 (.take 6 0 (.fork 0 (.fork 1 (.fork 7 (.take 8 0 (.take 9 0 (.take 10 0 (.fork 11 (.fork 12 (.take 13 0 .done) .stop) .stop)))) (.fork 11 (.fork 7 (.take 8 0 (.take 9 0 (.take 10 0 (.fork 12 (.take 13 0 .done) .stop)))) .stop) .stop)) (.fork 11 (.fork 1 (.fork 7 (.take 8 0 (.take 9 0 (.take 10 0 (.fork 12 (.take 13 0 .done) .stop)))) .stop) .stop) .stop)) (.fork 1 (.fork 0 (.fork 7 (.take 8 0 (.take 9 0 (.take 10 0 (.fork 11 (.fork 12 (.take 13 0 .done) .stop) .stop)))) (.fork 11 (.fork 7 (.take 8 0 (.take 9 0 (.take 10 0 (.fork 12 (.take 13 0 .done) .stop)))) .stop) .stop)) (.fork 11 (.fork 0 (.fork 7 (.take 8 0 (.take 9 0 (.take 10 0 (.fork 12 (.take 13 0 .done) .stop)))) .stop) .stop) .stop)) (.fork 11 (.fork 0 (.fork 1 (.fork 7 (.take 8 0 (.take 9 0 (.take 10 0 (.fork 12 (.take 13 0 .done) .stop)))) .stop) .stop) (.fork 1 (.fork 0 (.fork 7 (.take 8 0 (.take 9 0 (.take 10 0 (.fork 12 (.take 13 0 .done) .stop)))) .stop) .stop) .stop)) .stop)))))))) ?tree18 ?rest18
      case tree18 =>
       refine awTree.tk ?_
       refine awTree.tk ?_
       refine awTree.tk ?_
       refine awTree.tk ?_
       refine awTree.tk ?_
       refine awTree.fA ?_ ?_
       ·refine awTree.fA ?_ ?_
        ·refine awTree.fC (c_back_At _ B hu j (by omega) hob) ?_ ?_
         ·refine awTree.tk ?_
          refine awTree.tk ?_
          refine awTree.tk ?_
          refine awTree.fA ?_ trivial
          refine awTree.fA ?_ trivial
          refine awTree.tk ?_
          exact awTree.dn
         ·refine awTree.fA ?_ trivial
          refine awTree.fC (c_back_At _ B hu j (by omega) hob) ?_ trivial
          refine awTree.tk ?_
          refine awTree.tk ?_
          refine awTree.tk ?_
          refine awTree.fA ?_ trivial
          refine awTree.tk ?_
          exact awTree.dn
        ·refine awTree.fA ?_ trivial
         refine awTree.fA ?_ trivial
         refine awTree.fC (c_back_At _ B hu j (by omega) hob) ?_ trivial
         refine awTree.tk ?_
         refine awTree.tk ?_
         refine awTree.tk ?_
         refine awTree.fA ?_ trivial
         refine awTree.tk ?_
         exact awTree.dn
       ·refine awTree.fA ?_ ?_
        ·refine awTree.fA ?_ ?_
         ·refine awTree.fC (c_back_At _ B hu j (by omega) hob) ?_ ?_
          ·refine awTree.tk ?_
           refine awTree.tk ?_
           refine awTree.tk ?_
           refine awTree.fA ?_ trivial
           refine awTree.fA ?_ trivial
           refine awTree.tk ?_
           exact awTree.dn
          ·refine awTree.fA ?_ trivial
           refine awTree.fC (c_back_At _ B hu j (by omega) hob) ?_ trivial
           refine awTree.tk ?_
           refine awTree.tk ?_
           refine awTree.tk ?_
           refine awTree.fA ?_ trivial
           refine awTree.tk ?_
           exact awTree.dn
         ·refine awTree.fA ?_ trivial
          refine awTree.fA ?_ trivial
          refine awTree.fC (c_back_At _ B hu j (by omega) hob) ?_ trivial
          refine awTree.tk ?_
          refine awTree.tk ?_
          refine awTree.tk ?_
          refine awTree.fA ?_ trivial
          refine awTree.tk ?_
          exact awTree.dn
        ·refine awTree.fA ?_ trivial
         refine awTree.fA ?_ ?_
         ·refine awTree.fA ?_ trivial
          refine awTree.fC (c_back_At _ B hu j (by omega) hob) ?_ trivial
          refine awTree.tk ?_
          refine awTree.tk ?_
          refine awTree.tk ?_
          refine awTree.fA ?_ trivial
          refine awTree.tk ?_
          exact awTree.dn
         ·refine awTree.fA ?_ trivial
          refine awTree.fA ?_ trivial
          refine awTree.fC (c_back_At _ B hu j (by omega) hob) ?_ trivial
          refine awTree.tk ?_
          refine awTree.tk ?_
          refine awTree.tk ?_
          refine awTree.fA ?_ trivial
          refine awTree.tk ?_
          exact awTree.dn
      case rest18 =>
      skip
      skip
      skip
      skip
      skip
      skip
      skip
      skip
      skip
      skip
      skip
      refine AW.trim [1, 3, 9, 10, 15, 16, 17, 18] ?_
      refine AW.seq ?_
      refine AW.fS [0, 1, 2, 3, 4, 5, 6, 7, 8, 9, 10, 11] [] ?_
      refine awFun.rn ?_
      refine awFun.cG [131, 132, 137] (fun hg => c_foliantref05_Same _ (l.getD j.1 En.zero).val (l.getD j.1 En.zero).val (by omega)) ?_
      refine awFun.rn ?_
      rw [Aw.awFun_nil, Aw.awPlan_nil]
      refine AW.trim [1, 3, 9, 10, 15, 16, 140] ?_
      refine AW.c2 ?_ ?_
      ·intro h95
       simp at h95
      ·intro h95
       refine AW.skip ?_
       refine AW.rL ?_
       refine AW.rL ?_
       refine ⟨⟨(j.1 + 1, b || decide ((l.getD j.1 En.zero).key = key)), by omega, hW⟩, ?_, ?_⟩
       ·refine St.le.vw [0, 1, 2]
       ·simp only []; omega
     ·intro h73
      refine AW.exit ?_
      refine AW.rSC ?_
      refine awOps.cons (awGuard.c1 (c_back_Find _ B key (by omega) hob) ?_)
      refine awOps.rn ?_
      refine AW.trim [15, 20] ?_
      refine AW.rSC ?_
      refine awOps.cons (awGuard.cG (fun hg => c_law37_lives _) ?_)
      refine awOps.rn ?_
      refine AW.trim [8] ?_
      refine AW.rt ?_
      have hkl : k = l.length := by omega
      subst hkl
      have hbk := back_key hu hkb
      rw [hbk]
      cases b <;> simp
end Go.Proofs
