/- A part of the proof of a law of the seat: no condition of its own. -/
import Derived.Test.YtkngkpofninhkaaGreatPart4
set_option linter.unusedVariables false
set_option linter.unusedSimpArgs false
namespace Aw
open Go
theorem idxb_neg : ∀ {s : List UInt8} {c : UInt8}, Lib.indexByte s c < 0 ↔ ∀ i, i < s.length → s.getD i 0 ≠ c
  | [], c => by simp [Lib.indexByte]
  | b :: l, c => by
    have ih := idxb_neg (s := l) (c := c)
    have hg := Lib.indexByte_ge l c
    rw [Lib.indexByte]
    by_cases hb : b = c
    · rw [if_pos (by simpa using hb)]
      refine ⟨fun h => absurd h (by omega), fun h => absurd (h 0 (by simp)) (by simpa using hb)⟩
    · rw [if_neg (by simpa using hb)]
      constructor
      · intro h i hi
        cases i with
        | zero => simpa using hb
        | succ i =>
          have h' : Lib.indexByte l c < 0 := by
            split at h <;> rename_i h1
            · have h1 : Lib.indexByte l c = -1 := by simpa using h1
              omega
            · omega
          simpa using ih.1 h' i (by simpa using hi)
      · intro h
        have h' := ih.2 fun i hi => by simpa using h (i + 1) (by simpa using hi)
        have h2 : Lib.indexByte l c = -1 := by omega
        simp [h2]
theorem nameB_no {s : List UInt8} {i : Nat} (hi : i < s.length) (h : s.getD i 0 = 0) : nameB s = false := by
  have : ¬ Lib.indexByte s 0 < 0 := fun h' => idxb_neg.1 h' i hi h
  simp [nameB, this]
theorem nameB_all {s : List UInt8} (h : ∀ i, i < s.length → s.getD i 0 ≠ 0) : nameB s = decide ((s.length : Int) ≤ 127) := by
  have : Lib.indexByte s 0 < 0 := idxb_neg.2 h
  simp [nameB, this]
/-! a key less -/
/-! a key put -/
/-! numbers in order -/
def nplace (l : List Int) (n : Int) : Nat := l.findIdx (fun x => !decide (x < n))
theorem nplace_eq {l : List Int} {n : Int} {i : Nat} (hi : i ≤ l.length) (h1 : ∀ a, a < i → l.getD a 0 < n) (h2 : i < l.length → ¬ l.getD i 0 < n) : nplace l n = i := by
  unfold nplace
  by_cases h : i < l.length
  · rw [List.findIdx_eq h]
    have h3 := h2 h
    simp only [List.getD, List.getElem?_eq_getElem h, Option.getD_some] at h3
    refine ⟨by simpa using h3, fun j hj => ?_⟩
    have := h1 j hj
    simp only [List.getD, List.getElem?_eq_getElem (Nat.lt_trans hj h), Option.getD_some] at this
    simp [this]
  · obtain rfl : i = l.length := by omega
    refine List.findIdx_eq_length.2 ?_
    intro x hx
    obtain ⟨j, hj, rfl⟩ := List.getElem_of_mem hx
    have := h1 j hj
    simp only [List.getD, List.getElem?_eq_getElem hj, Option.getD_some] at this
    simp [this]
def numIns (l : List Int) (n : Int) : List Int := if nplace l n < l.length ∧ l.getD (nplace l n) 0 = n then l else l.take (nplace l n) ++ [n] ++ l.drop (nplace l n)
theorem numIns_spec : ∀ {l : List Int} {n : Int}, l.Pairwise (· < ·) → (numIns l n).Pairwise (· < ·) ∧ ∀ x, x ∈ numIns l n ↔ x ∈ l ∨ x = n
  | [], n, _ => by simp [numIns, nplace]
  | a :: l, n, h => by
    rw [List.pairwise_cons] at h
    by_cases h1 : a < n
    · have hp : nplace (a :: l) n = nplace l n + 1 := by simp [nplace, List.findIdx_cons, h1]
      have ih := numIns_spec (n := n) h.2
      have he : numIns (a :: l) n = a :: numIns l n := by
        unfold numIns
        rw [hp]
        simp only [List.length_cons, Nat.add_lt_add_iff_right, List.getD_cons_succ, List.take_succ_cons, List.drop_succ_cons, List.cons_append]
        split <;> rfl
      rw [he, List.pairwise_cons]
      refine ⟨⟨fun x hx => ?_, ih.1⟩, fun x => ?_⟩
      · rcases (ih.2 x).1 hx with h' | rfl
        · exact h.1 x h'
        · exact h1
      · rw [List.mem_cons, ih.2, List.mem_cons, or_assoc]
    · have hp : nplace (a :: l) n = 0 := by simp [nplace, List.findIdx_cons, h1]
      by_cases h2 : a = n
      · have he : numIns (a :: l) n = a :: l := by
          unfold numIns
          rw [hp, if_pos ⟨by simp, by simpa using h2⟩]
        rw [he, List.pairwise_cons]
        refine ⟨h, fun x => ⟨fun h' => .inl h', fun h' => h'.elim id fun e => ?_⟩⟩
        rw [e, ← h2]; exact List.mem_cons_self
      · have he : numIns (a :: l) n = n :: a :: l := by
          unfold numIns
          rw [hp, if_neg (fun h' => h2 (by simpa using h'.2))]
          rfl
        rw [he, List.pairwise_cons, List.pairwise_cons]
        refine ⟨⟨fun x hx => ?_, h⟩, fun x => ?_⟩
        · rcases List.mem_cons.1 hx with rfl | hx
          · omega
          · have := h.1 x hx; omega
        · rw [List.mem_cons]
          constructor
          · rintro (rfl | h'); exact .inr rfl; exact .inl h'
          · rintro (h' | rfl); exact .inr h'; exact .inl rfl
theorem numIns_len (l : List Int) (n : Int) : (numIns l n).length ≤ l.length + 1 := by
  unfold numIns
  split
  · omega
  · simp; omega
theorem numIns_fold : ∀ (m l : List Int), l.Pairwise (· < ·) → (m.foldl numIns l).Pairwise (· < ·) ∧ ∀ x, x ∈ m.foldl numIns l ↔ x ∈ l ∨ x ∈ m
  | [], l, h => ⟨h, fun x => by simp⟩
  | n :: m, l, h => by
    obtain ⟨h1, h2⟩ := numIns_spec (n := n) h
    obtain ⟨h3, h4⟩ := numIns_fold m (numIns l n) h1
    refine ⟨h3, fun x => ?_⟩
    rw [List.foldl_cons, h4, h2, List.mem_cons, or_assoc]
def kidR (ks : List Pob) (s : List Int) : List Int := ks.foldl (fun s k => (refsO k).foldl numIns s) s
theorem foldN_succ {l : List Int} {i : Nat} (h : i < l.length) (s : List Int) : (l.take (i + 1)).foldl numIns s = numIns ((l.take i).foldl numIns s) (l.getD i 0) := by
  rw [List.take_add_one, List.foldl_append, List.getElem?_eq_getElem h]
  simp [List.getD, List.getElem?_eq_getElem h]
theorem foldN_len : ∀ (m l : List Int), (m.foldl numIns l).length ≤ l.length + m.length
  | [], l => by simp
  | n :: m, l => by
    have h1 := numIns_len l n
    have h2 := foldN_len m (numIns l n)
    rw [List.foldl_cons, List.length_cons]
    omega
theorem bulks_takele (l : List Pob) (i : Nat) : bulks (l.take i) ≤ bulks l := by
  have := bulks_append (l.take i) (l.drop i)
  rw [List.take_append_drop] at this
  omega
end Aw

namespace Aw
open Go
mutual
/-- foliantref29.Refs -/
def Pob.rr : Pob → List Pob
  | .mk k n g s ks l => if k = 8 then [.mk k n g s ks l] else rrs l
def rrs : List Pob → List Pob
  | [] => []
  | o :: l => o.rr ++ rrs l
end
theorem rr_eq (o : Pob) : o.rr = if o.kind = 8 then [o] else rrs o.kids := by cases o; simp only [Pob.rr, Pob.kind, Pob.kids]; rfl
theorem rrs_append (a b : List Pob) : rrs (a ++ b) = rrs a ++ rrs b := by
  induction a with
  | nil => simp [rrs]
  | cons o a ih => simp [rrs, ih]
theorem rrs_take {l : List Pob} {i : Nat} (h : i < l.length) : rrs (l.take (i + 1)) = rrs (l.take i) ++ (l.getD i Pob.null).rr := by
  rw [List.take_add_one, rrs_append, List.getElem?_eq_getElem h]
  simp [rrs, List.getD, List.getElem?_eq_getElem h]
mutual
theorem rr_len : ∀ o : Pob, o.rr.length ≤ o.bulk
  | .mk k n g s ks l => by
    have := rrs_len l
    simp only [Pob.rr, Pob.bulk]
    split <;> simp <;> omega
theorem rrs_len : ∀ l : List Pob, (rrs l).length ≤ bulks l
  | [] => by simp [rrs]
  | o :: l => by
    have h1 := rr_len o
    have h2 := rrs_len l
    simp only [rrs, List.length_append, bulks]
    omega
end
theorem rrs_take_len (l : List Pob) (i : Nat) : (rrs (l.take i)).length ≤ bulks l := Nat.le_trans (rrs_len _) (bulks_takele l i)
/-- foliantref29.Leads: the first item of the number and generation -/
def leadR (l : List Itm) (r : Pob) : Option Itm := l.find? fun i => decide (i.num = r.num) && decide (i.gen = r.gen)
theorem leadR_hit {l : List Itm} {r : Pob} {i : Nat} (h : i < l.length) (hs : ∀ j, j < i → ¬ ((l.getD j Itm.zero).num = r.num ∧ (l.getD j Itm.zero).gen = r.gen)) (hk : (l.getD i Itm.zero).num = r.num ∧ (l.getD i Itm.zero).gen = r.gen) : leadR l r = some (l.getD i Itm.zero) := by
  unfold leadR
  rw [List.find?_eq_some_iff_getElem]
  have e : ∀ j (hj : j < l.length), l.getD j Itm.zero = l[j] := fun j hj => by simp [List.getD, hj]
  refine ⟨by simpa using hk, i, h, (e i h).symm, fun j hj => ?_⟩
  have := hs j hj
  rw [e j (by omega)] at this
  by_cases h1 : l[j].num = r.num
  · have h2 : ¬ l[j].gen = r.gen := fun h2 => this ⟨h1, h2⟩
    simp [h1, h2]
  · simp [h1]
theorem leadR_miss {l : List Itm} {r : Pob} (hs : ∀ j, j < l.length → ¬ ((l.getD j Itm.zero).num = r.num ∧ (l.getD j Itm.zero).gen = r.gen)) : leadR l r = none := by
  unfold leadR
  rw [List.find?_eq_none]
  intro x hx
  obtain ⟨j, hj, rfl⟩ := List.mem_iff_getElem.1 hx
  have := hs j hj
  simp only [List.getD, List.getElem?_eq_getElem hj, Option.getD_some] at this
  simpa using this
theorem any_hit {l : List Int} {n : Int} {i : Nat} (h : i < l.length) (hk : l.getD i 0 = n) : decide (n ∈ l) = true := by
  rw [decide_eq_true_iff]
  rw [← hk]
  simp [List.getD, List.getElem?_eq_getElem h]
theorem any_miss {l : List Int} {n : Int} (hs : ∀ j, j < l.length → l.getD j 0 ≠ n) : decide (n ∈ l) = false := by
  rw [decide_eq_false_iff_not]
  intro hm
  obtain ⟨j, hj, e⟩ := List.mem_iff_getElem.1 hm
  exact hs j hj (by simp [List.getD, List.getElem?_eq_getElem hj, e])
end Aw

set_option linter.unusedVariables false
set_option linter.unusedSimpArgs false
namespace Aw
open Go
theorem use_split (o : Pob) (d : Int) : useB o d = (useB o 1 && (decide (d = 1) || !decide (o.kind = 9))) := by
  unfold useB
  cases (bif bif bif bif bif uOk o.kind then bif uN o.kind then true else decide (o.num = 0) else false then bif uG o.kind then true else decide (o.gen = 0) else false then bif uS o.kind then true else decide (o.str = []) else false
    then bif uKeys o.kind then true else decide ((o.keys.length : Int) = 0) else false then bif uKids o.kind then true else decide ((o.kids.length : Int) = 0) else false) <;> simp
theorem own_deep {o : Pob} {d : Int} (h : 24 < d) : chk o d = 7 := chk_bad (by unfold ownE; rw [if_pos (by omega)]) (by decide)
theorem own_use {o : Pob} {d : Int} (h : ¬ 24 < d) (h' : useB o d = false) : chk o d = 10 := chk_bad (by unfold ownE; rw [if_neg (by omega), if_pos h']) (by decide)
theorem own_fits {o : Pob} {d : Int} (h : ¬ 24 < d) (h1 : useB o d = true) (h' : fitsB o = false) : chk o d = 2 := chk_bad (by unfold ownE; rw [if_neg (by omega), if_neg (by simp [h1]), if_pos h']) (by decide)
theorem own_long {o : Pob} {d : Int} (h : ¬ 24 < d) (h1 : useB o d = true) (h2 : fitsB o = true) (h' : shortB o = false) : chk o d = 5 := chk_bad (by unfold ownE; rw [if_neg (by omega), if_neg (by simp [h1]), if_neg (by simp [h2]), if_pos h']) (by decide)
theorem own_many {o : Pob} {d : Int} (h : ¬ 24 < d) (h1 : useB o d = true) (h2 : fitsB o = true) (h3 : shortB o = true) (h' : 8191 < (o.kids.length : Int)) : chk o d = 6 := chk_bad (by unfold ownE; rw [if_neg (by omega), if_neg (by simp [h1]), if_neg (by simp [h2]), if_neg (by simp [h3]), if_pos (by omega)]) (by decide)
theorem own_form {o : Pob} {d : Int} (h : ¬ 24 < d) (h1 : useB o d = true) (h2 : fitsB o = true) (h3 : shortB o = true) (h4 : ¬ 8191 < (o.kids.length : Int)) (h' : formB o = false) : chk o d = 3 := chk_bad (by unfold ownE; rw [if_neg (by omega), if_neg (by simp [h1]), if_neg (by simp [h2]), if_neg (by simp [h3]), if_neg (by omega), if_pos h']) (by decide)
theorem own_ok {o : Pob} {d : Int} (h : ¬ 24 < d) (h1 : useB o d = true) (h2 : fitsB o = true) (h3 : shortB o = true) (h4 : ¬ 8191 < (o.kids.length : Int)) (h' : formB o = true) : chk o d = chkL o.kids (d + 1) := by
  rw [chk_eq, if_pos]
  unfold ownE
  rw [if_neg (by omega), if_neg (by simp [h1]), if_neg (by simp [h2]), if_neg (by simp [h3]), if_neg (by omega), if_neg (by simp [h'])]
def longN (k : Int) : Int := if k = 5 then 127 else if k = 9 then 1048576 else 32767
theorem short_ref {o : Pob} (hu : useB o 1 = true) : shortB o = decide ((o.str.length : Int) ≤ longN o.kind) := by
  by_cases h4 : o.kind = 4
  · simp [shortB, longN, h4]
  by_cases h5 : o.kind = 5
  · simp [shortB, longN, h5]
  by_cases h9 : o.kind = 9
  · simp [shortB, longN, h9]
  have hs : o.str = [] := by
    have hb : uS o.kind = false := by simp [uS, h4, h5, h9]
    unfold useB at hu
    rw [hb] at hu
    cases hc : decide (o.str = []) with
    | true => simpa using hc
    | false => rw [hc] at hu; revert hu; cases (bif bif bif uOk o.kind then bif uN o.kind then true else decide (o.num = 0) else false then bif uG o.kind then true else decide (o.gen = 0) else false then true else false) <;> simp
  simp only [shortB, longN, if_neg h4, if_neg h5, if_neg h9, hs]
  simp
theorem form_name {o : Pob} (h : o.kind = 5) : formB o = nameB o.str := by
  have : uKeys 5 = false := rfl
  simp [formB, h, this]
theorem form_none {o : Pob} (h : ¬ o.kind = 5) (h7 : ¬ o.kind = 7) (h9 : ¬ o.kind = 9) : formB o = true := by
  have : uKeys o.kind = false := by simp [uKeys, h7, h9]
  simp [formB, h, this]
theorem form_keys {o : Pob} (h7 : o.kind = 7 ∨ o.kind = 9) : formB o = risingB o := by
  have : uKeys o.kind = true := by simpa [uKeys] using h7
  have h5 : ¬ o.kind = 5 := by omega
  simp [formB, h5, this]
/-! sizes -/
theorem Pob.tot_eq (o : Pob) : o.tot = o.str.length + (o.keys.map fun k => k.length + 1).sum + tots o.kids + 7 := by cases o; simp only [Pob.tot, Pob.str, Pob.keys, Pob.kids]
theorem tots_get : ∀ {l : List Pob} {i : Nat}, i < l.length → (l.getD i Pob.null).tot ≤ tots l
  | o :: l, 0, _ => by simp [tots]
  | o :: l, i + 1, h => by
    have := tots_get (l := l) (i := i) (by simpa using h)
    simp only [List.getD_cons_succ, tots]
    omega
theorem Pob.tot_kid {o : Pob} {i : Nat} (h : i < o.kids.length) : (o.kids.getD i Pob.null).tot + 7 ≤ o.tot := by
  have := Pob.tot_eq o
  have := tots_get h
  omega
theorem ktot_get : ∀ {l : List (List UInt8)} {i : Nat}, i < l.length → (l.getD i []).length + 1 ≤ (l.map fun k => k.length + 1).sum
  | k :: l, 0, _ => by simp
  | k :: l, i + 1, h => by
    have := ktot_get (l := l) (i := i) (by simpa using h)
    simp only [List.getD_cons_succ, List.map_cons, List.sum_cons]
    omega
theorem Pob.tot_key {o : Pob} {i : Nat} (h : i < o.keys.length) : (o.keys.getD i []).length + 8 ≤ o.tot := by
  have := Pob.tot_eq o
  have := ktot_get h
  omega
theorem Pob.tot_str (o : Pob) : o.str.length + 7 ≤ o.tot := by
  have := Pob.tot_eq o
  omega
end Aw

namespace Go.Proofs
open Go Aw
set_option linter.unusedSimpArgs false
set_option linter.unusedVariables false
set_option maxRecDepth 100000
set_option maxHeartbeats 2000000

attribute [local go_sem] take_intsAV drop_intsAV app_intsAV app1_intsAV take_objsAV drop_objsAV app_objsAV app1_objsAV
end Go.Proofs

namespace Go.Proofs
open Go Aw
set_option linter.unusedSimpArgs false
set_option linter.unusedVariables false
set_option maxRecDepth 100000
set_option maxHeartbeats 2000000

theorem c_foliantref05_Name (gl : List (Nat × AV)) (s : List UInt8) (hl : s.length ≤ 16777216 := by first | omega | exact u8_le _ | assumption | (simp; done) | (simp; omega)) : FnP Tryz.prog (gl) 78 [.str s] fun r => r = .ret (.bool (nameB s)) := by
  refine FnP.intro Tryz.func78 rfl rfl (by simp [Tryz.ntmps78]) ?_
  simp only [argEnv, Tryz.ntmps78, Tryz.results78]
  refine AW.rS ?_
  refine AW.seq ?_
  refine AW.rS ?_
  refine AW.block ?_
  refine AW.lk (S := { i : Nat // i ≤ s.length ∧ ∀ j, j < i → s.getD j 0 ≠ 0 }) [0] (fun s_ => [(3, .int .i64 s_.1)]) (fun s_ => []) 0 (fun s_ => s.length - s_.1) ⟨0, Nat.zero_le _, fun j h => absurd h (by omega)⟩ ?_ ?_
  · refine St.le.vw []
  rintro ⟨i, hi, hs⟩
  try dsimp only at hi
  try dsimp only at hs
  refine AW.seq ?_
  refine AW.rS ?_
  refine AW.c2 ?_ ?_
  · intro h8
    refine AW.skip ?_
    refine AW.seq ?_
    refine AW.block ?_
    refine AW.rS ?_
    refine AW.c2 ?_ ?_
    · intro h13
      refine AW.rS ?_
      refine AW.rt ?_
      rw [nameB_no h8 (by simpa [← UInt8.toNat_inj] using h13)]
    · intro h13
      refine AW.skip ?_
      refine AW.rL ?_
      refine ⟨⟨i + 1, by omega, fun j hj => (Nat.lt_or_ge j i).elim (hs j) (fun h => (show j = i by omega) ▸ (by simpa [← UInt8.toNat_inj] using h13))⟩, ?_, ?_⟩
      · refine St.le.vw []
      · simp only []; omega
  · intro h8
    refine AW.exit ?_
    refine AW.rS ?_
    refine AW.rt ?_
    rw [nameB_all (fun j hj => hs j (by omega))]
theorem c_foliantref05_zero (gl : List (Nat × AV)) (o : Pob) (n g s l : Bool) : FnP Tryz.prog (gl) 77 [.agg o.cells, .bool n, .bool g, .bool s, .bool l] fun r => r = .ret (.bool ((n || decide (o.num = 0)) && (g || decide (o.gen = 0)) && (s || decide (o.str = [])) && (l || (decide ((o.keys.length : Int) = 0) && decide ((o.kids.length : Int) = 0))))) := by
  refine FnP.intro Tryz.func77 rfl rfl (by simp [Tryz.ntmps77]) ?_
  simp only [argEnv, Tryz.ntmps77, Tryz.results77]
  refine AW.rS ?_
  refine AW.rS ?_
  refine AW.rt ?_
  cases n <;> cases g <;> cases s <;> cases l <;> simp
theorem c_foliantref05_uses (gl : List (Nat × AV)) (o : Pob) : FnP Tryz.prog (gl) 60 [.agg o.cells] fun r => r = .ret (.bool (useB o 1)) := by
  refine FnP.intro Tryz.func60 rfl rfl (by simp [Tryz.ntmps60]) ?_
  simp only [argEnv, Tryz.ntmps60, Tryz.results60]
  refine AW.rS ?_
  refine AW.seq ?_
  refine AW.rS ?_
  refine AW.block ?_
  refine AW.rS ?_
  refine AW.c2 ?_ ?_
  · intro h6
    refine AW.rSC ?_
    refine awOps.cons (awGuard.c1 (c_foliantref05_zero _ o false false false false) ?_)
    refine awOps.rn ?_
    refine AW.rt ?_
    first | (simp_all [useB, uN, uG, uS, uKeys, uKids, uOk, Bool.and_assoc]; done) | (simp_all [useB, uN, uG, uS, uKeys, uKids, uOk]; omega)
  · intro h6
    refine AW.seq ?_
    refine AW.rS ?_
    refine AW.c2 ?_ ?_
    · intro h14
      refine AW.skip ?_
      refine AW.c2 ?_ ?_
      · intro h16
        refine AW.rSC ?_
        refine awOps.cons (awGuard.c1 (c_foliantref05_zero _ o true false false false) ?_)
        refine awOps.rn ?_
        refine AW.rt ?_
        first | (simp_all [useB, uN, uG, uS, uKeys, uKids, uOk, Bool.and_assoc]; done) | (simp_all [useB, uN, uG, uS, uKeys, uKids, uOk]; omega)
      · intro h16
        refine AW.seq ?_
        refine AW.rS ?_
        refine AW.c2 ?_ ?_
        · intro h24
          refine AW.skip ?_
          refine AW.c2 ?_ ?_
          · intro h26
            refine AW.rSC ?_
            refine awOps.cons (awGuard.c1 (c_foliantref05_zero _ o false false true false) ?_)
            refine awOps.rn ?_
            refine AW.rt ?_
            first | (simp_all [useB, uN, uG, uS, uKeys, uKids, uOk, Bool.and_assoc]; done) | (simp_all [useB, uN, uG, uS, uKeys, uKids, uOk]; omega)
          · intro h26
            refine AW.rS ?_
            refine AW.c2 ?_ ?_
            · intro h33
              refine AW.rSC ?_
              refine awOps.cons (awGuard.c1 (c_foliantref05_zero _ o false false false true) ?_)
              refine awOps.rn ?_
              refine AW.rt ?_
              first | (simp_all [useB, uN, uG, uS, uKeys, uKids, uOk, Bool.and_assoc]; done) | (simp_all [useB, uN, uG, uS, uKeys, uKids, uOk]; omega)
            · intro h33
              refine AW.rS ?_
              refine AW.c2 ?_ ?_
              · intro h40
                refine AW.rSC ?_
                refine awOps.cons (awGuard.c1 (c_foliantref05_zero ..) ?_)
                refine awOps.rn ?_
                refine AW.rt ?_
                first | (simp_all [useB, uN, uG, uS, uKeys, uKids, uOk, Bool.and_assoc]; done) | (simp_all [useB, uN, uG, uS, uKeys, uKids, uOk]; omega)
              · intro h40
                refine AW.rS ?_
                refine AW.c2 ?_ ?_
                · intro h47
                  refine AW.rSC ?_
                  refine awOps.cons (awGuard.c1 (c_foliantref05_zero ..) ?_)
                  refine awOps.rn ?_
                  refine AW.rt ?_
                  first | (simp_all [useB, uN, uG, uS, uKeys, uKids, uOk, Bool.and_assoc]; done) | (simp_all [useB, uN, uG, uS, uKeys, uKids, uOk]; omega)
                · intro h47
                  refine AW.rS ?_
                  refine AW.c2 ?_ ?_
                  · intro h54
                    refine AW.rSC ?_
                    refine awOps.cons (awGuard.c1 (c_foliantref05_zero ..) ?_)
                    refine awOps.rn ?_
                    refine AW.rt ?_
                    first | (simp_all [useB, uN, uG, uS, uKeys, uKids, uOk, Bool.and_assoc]; done) | (simp_all [useB, uN, uG, uS, uKeys, uKids, uOk]; omega)
                  · intro h54
                    refine AW.skip ?_
                    refine AW.rS ?_
                    refine AW.rt ?_
                    first | (simp_all [useB, uN, uG, uS, uKeys, uKids, uOk, Bool.and_assoc]; done) | (simp_all [useB, uN, uG, uS, uKeys, uKids, uOk]; omega)
        · intro h24
          refine AW.rL ?_
          refine AW.c2 ?_ ?_
          · intro h65
            refine AW.rSC ?_
            refine awOps.cons (awGuard.c1 (c_foliantref05_zero ..) ?_)
            refine awOps.rn ?_
            refine AW.rt ?_
            first | (simp_all [useB, uN, uG, uS, uKeys, uKids, uOk, Bool.and_assoc]; done) | (simp_all [useB, uN, uG, uS, uKeys, uKids, uOk]; omega)
          · intro h65
            refine AW.rS ?_
            refine AW.c2 ?_ ?_
            · intro h72
              refine AW.rSC ?_
              refine awOps.cons (awGuard.c1 (c_foliantref05_zero ..) ?_)
              refine awOps.rn ?_
              refine AW.rt ?_
              first | (simp_all [useB, uN, uG, uS, uKeys, uKids, uOk, Bool.and_assoc]; done) | (simp_all [useB, uN, uG, uS, uKeys, uKids, uOk]; omega)
            · intro h72
              refine AW.rS ?_
              refine AW.c2 ?_ ?_
              · intro h79
                refine AW.rSC ?_
                refine awOps.cons (awGuard.c1 (c_foliantref05_zero ..) ?_)
                refine awOps.rn ?_
                refine AW.rt ?_
                first | (simp_all [useB, uN, uG, uS, uKeys, uKids, uOk, Bool.and_assoc]; done) | (simp_all [useB, uN, uG, uS, uKeys, uKids, uOk]; omega)
              · intro h79
                refine AW.rS ?_
                refine AW.c2 ?_ ?_
                · intro h86
                  refine AW.rSC ?_
                  refine awOps.cons (awGuard.c1 (c_foliantref05_zero ..) ?_)
                  refine awOps.rn ?_
                  refine AW.rt ?_
                  first | (simp_all [useB, uN, uG, uS, uKeys, uKids, uOk, Bool.and_assoc]; done) | (simp_all [useB, uN, uG, uS, uKeys, uKids, uOk]; omega)
                · intro h86
                  refine AW.rS ?_
                  refine AW.c2 ?_ ?_
                  · intro h93
                    refine AW.rSC ?_
                    refine awOps.cons (awGuard.c1 (c_foliantref05_zero ..) ?_)
                    refine awOps.rn ?_
                    refine AW.rt ?_
                    first | (simp_all [useB, uN, uG, uS, uKeys, uKids, uOk, Bool.and_assoc]; done) | (simp_all [useB, uN, uG, uS, uKeys, uKids, uOk]; omega)
                  · intro h93
                    refine AW.skip ?_
                    refine AW.rS ?_
                    refine AW.rt ?_
                    first | (simp_all [useB, uN, uG, uS, uKeys, uKids, uOk, Bool.and_assoc]; done) | (simp_all [useB, uN, uG, uS, uKeys, uKids, uOk]; omega)
    · intro h14
      refine AW.rS ?_
      refine AW.c2 ?_ ?_
      · intro h104
        refine AW.skip ?_
        refine AW.c2 ?_ ?_
        · intro h106
          refine AW.rSC ?_
          refine awOps.cons (awGuard.c1 (c_foliantref05_zero ..) ?_)
          refine awOps.rn ?_
          refine AW.rt ?_
          first | (simp_all [useB, uN, uG, uS, uKeys, uKids, uOk, Bool.and_assoc]; done) | (simp_all [useB, uN, uG, uS, uKeys, uKids, uOk]; omega)
        · intro h106
          refine AW.seq ?_
          refine AW.rS ?_
          refine AW.c2 ?_ ?_
          · intro h114
            refine AW.skip ?_
            refine AW.c2 ?_ ?_
            · intro h116
              refine AW.rSC ?_
              refine awOps.cons (awGuard.c1 (c_foliantref05_zero ..) ?_)
              refine awOps.rn ?_
              refine AW.rt ?_
              first | (simp_all [useB, uN, uG, uS, uKeys, uKids, uOk, Bool.and_assoc]; done) | (simp_all [useB, uN, uG, uS, uKeys, uKids, uOk]; omega)
            · intro h116
              refine AW.rS ?_
              refine AW.c2 ?_ ?_
              · intro h123
                refine AW.rSC ?_
                refine awOps.cons (awGuard.c1 (c_foliantref05_zero ..) ?_)
                refine awOps.rn ?_
                refine AW.rt ?_
                first | (simp_all [useB, uN, uG, uS, uKeys, uKids, uOk, Bool.and_assoc]; done) | (simp_all [useB, uN, uG, uS, uKeys, uKids, uOk]; omega)
              · intro h123
                refine AW.rS ?_
                refine AW.c2 ?_ ?_
                · intro h130
                  refine AW.rSC ?_
                  refine awOps.cons (awGuard.c1 (c_foliantref05_zero ..) ?_)
                  refine awOps.rn ?_
                  refine AW.rt ?_
                  first | (simp_all [useB, uN, uG, uS, uKeys, uKids, uOk, Bool.and_assoc]; done) | (simp_all [useB, uN, uG, uS, uKeys, uKids, uOk]; omega)
                · intro h130
                  refine AW.rS ?_
                  refine AW.c2 ?_ ?_
                  · intro h137
                    refine AW.rSC ?_
                    refine awOps.cons (awGuard.c1 (c_foliantref05_zero ..) ?_)
                    refine awOps.rn ?_
                    refine AW.rt ?_
                    first | (simp_all [useB, uN, uG, uS, uKeys, uKids, uOk, Bool.and_assoc]; done) | (simp_all [useB, uN, uG, uS, uKeys, uKids, uOk]; omega)
                  · intro h137
                    refine AW.rS ?_
                    refine AW.c2 ?_ ?_
                    · intro h144
                      refine AW.rSC ?_
                      refine awOps.cons (awGuard.c1 (c_foliantref05_zero ..) ?_)
                      refine awOps.rn ?_
                      refine AW.rt ?_
                      first | (simp_all [useB, uN, uG, uS, uKeys, uKids, uOk, Bool.and_assoc]; done) | (simp_all [useB, uN, uG, uS, uKeys, uKids, uOk]; omega)
                    · intro h144
                      refine AW.skip ?_
                      refine AW.rS ?_
                      refine AW.rt ?_
                      first | (simp_all [useB, uN, uG, uS, uKeys, uKids, uOk, Bool.and_assoc]; done) | (simp_all [useB, uN, uG, uS, uKeys, uKids, uOk]; omega)
          · intro h114
            refine AW.rL ?_
            refine AW.c2 ?_ ?_
            · intro h155
              refine AW.rSC ?_
              refine awOps.cons (awGuard.c1 (c_foliantref05_zero ..) ?_)
              refine awOps.rn ?_
              refine AW.rt ?_
              first | (simp_all [useB, uN, uG, uS, uKeys, uKids, uOk, Bool.and_assoc]; done) | (simp_all [useB, uN, uG, uS, uKeys, uKids, uOk]; omega)
            · intro h155
              refine AW.rS ?_
              refine AW.c2 ?_ ?_
              · intro h162
                refine AW.rSC ?_
                refine awOps.cons (awGuard.c1 (c_foliantref05_zero ..) ?_)
                refine awOps.rn ?_
                refine AW.rt ?_
                first | (simp_all [useB, uN, uG, uS, uKeys, uKids, uOk, Bool.and_assoc]; done) | (simp_all [useB, uN, uG, uS, uKeys, uKids, uOk]; omega)
              · intro h162
                refine AW.rS ?_
                refine AW.c2 ?_ ?_
                · intro h169
                  refine AW.rSC ?_
                  refine awOps.cons (awGuard.c1 (c_foliantref05_zero ..) ?_)
                  refine awOps.rn ?_
                  refine AW.rt ?_
                  first | (simp_all [useB, uN, uG, uS, uKeys, uKids, uOk, Bool.and_assoc]; done) | (simp_all [useB, uN, uG, uS, uKeys, uKids, uOk]; omega)
                · intro h169
                  refine AW.rS ?_
                  refine AW.c2 ?_ ?_
                  · intro h176
                    refine AW.rSC ?_
                    refine awOps.cons (awGuard.c1 (c_foliantref05_zero ..) ?_)
                    refine awOps.rn ?_
                    refine AW.rt ?_
                    first | (simp_all [useB, uN, uG, uS, uKeys, uKids, uOk, Bool.and_assoc]; done) | (simp_all [useB, uN, uG, uS, uKeys, uKids, uOk]; omega)
                  · intro h176
                    refine AW.rS ?_
                    refine AW.c2 ?_ ?_
                    · intro h183
                      refine AW.rSC ?_
                      refine awOps.cons (awGuard.c1 (c_foliantref05_zero ..) ?_)
                      refine awOps.rn ?_
                      refine AW.rt ?_
                      first | (simp_all [useB, uN, uG, uS, uKeys, uKids, uOk, Bool.and_assoc]; done) | (simp_all [useB, uN, uG, uS, uKeys, uKids, uOk]; omega)
                    · intro h183
                      refine AW.skip ?_
                      refine AW.rS ?_
                      refine AW.rt ?_
                      first | (simp_all [useB, uN, uG, uS, uKeys, uKids, uOk, Bool.and_assoc]; done) | (simp_all [useB, uN, uG, uS, uKeys, uKids, uOk]; omega)
      · intro h104
        refine AW.rL ?_
        refine AW.c2 ?_ ?_
        · intro h194
          refine AW.rSC ?_
          refine awOps.cons (awGuard.c1 (c_foliantref05_zero ..) ?_)
          refine awOps.rn ?_
          refine AW.rt ?_
          first | (simp_all [useB, uN, uG, uS, uKeys, uKids, uOk, Bool.and_assoc]; done) | (simp_all [useB, uN, uG, uS, uKeys, uKids, uOk]; omega)
        · intro h194
          refine AW.seq ?_
          refine AW.rS ?_
          refine AW.c2 ?_ ?_
          · intro h202
            refine AW.skip ?_
            refine AW.c2 ?_ ?_
            · intro h204
              refine AW.rSC ?_
              refine awOps.cons (awGuard.c1 (c_foliantref05_zero ..) ?_)
              refine awOps.rn ?_
              refine AW.rt ?_
              first | (simp_all [useB, uN, uG, uS, uKeys, uKids, uOk, Bool.and_assoc]; done) | (simp_all [useB, uN, uG, uS, uKeys, uKids, uOk]; omega)
            · intro h204
              refine AW.rS ?_
              refine AW.c2 ?_ ?_
              · intro h211
                refine AW.rSC ?_
                refine awOps.cons (awGuard.c1 (c_foliantref05_zero ..) ?_)
                refine awOps.rn ?_
                refine AW.rt ?_
                first | (simp_all [useB, uN, uG, uS, uKeys, uKids, uOk, Bool.and_assoc]; done) | (simp_all [useB, uN, uG, uS, uKeys, uKids, uOk]; omega)
              · intro h211
                refine AW.rS ?_
                refine AW.c2 ?_ ?_
                · intro h218
                  refine AW.rSC ?_
                  refine awOps.cons (awGuard.c1 (c_foliantref05_zero ..) ?_)
                  refine awOps.rn ?_
                  refine AW.rt ?_
                  first | (simp_all [useB, uN, uG, uS, uKeys, uKids, uOk, Bool.and_assoc]; done) | (simp_all [useB, uN, uG, uS, uKeys, uKids, uOk]; omega)
                · intro h218
                  refine AW.rS ?_
                  refine AW.c2 ?_ ?_
                  · intro h225
                    refine AW.rSC ?_
                    refine awOps.cons (awGuard.c1 (c_foliantref05_zero ..) ?_)
                    refine awOps.rn ?_
                    refine AW.rt ?_
                    first | (simp_all [useB, uN, uG, uS, uKeys, uKids, uOk, Bool.and_assoc]; done) | (simp_all [useB, uN, uG, uS, uKeys, uKids, uOk]; omega)
                  · intro h225
                    refine AW.rS ?_
                    refine AW.c2 ?_ ?_
                    · intro h232
                      refine AW.rSC ?_
                      refine awOps.cons (awGuard.c1 (c_foliantref05_zero ..) ?_)
                      refine awOps.rn ?_
                      refine AW.rt ?_
                      first | (simp_all [useB, uN, uG, uS, uKeys, uKids, uOk, Bool.and_assoc]; done) | (simp_all [useB, uN, uG, uS, uKeys, uKids, uOk]; omega)
                    · intro h232
                      refine AW.skip ?_
                      refine AW.rS ?_
                      refine AW.rt ?_
                      first | (simp_all [useB, uN, uG, uS, uKeys, uKids, uOk, Bool.and_assoc]; done) | (simp_all [useB, uN, uG, uS, uKeys, uKids, uOk]; omega)
          · intro h202
            refine AW.rL ?_
            refine AW.c2 ?_ ?_
            · intro h243
              refine AW.rSC ?_
              refine awOps.cons (awGuard.c1 (c_foliantref05_zero ..) ?_)
              refine awOps.rn ?_
              refine AW.rt ?_
              first | (simp_all [useB, uN, uG, uS, uKeys, uKids, uOk, Bool.and_assoc]; done) | (simp_all [useB, uN, uG, uS, uKeys, uKids, uOk]; omega)
            · intro h243
              refine AW.rS ?_
              refine AW.c2 ?_ ?_
              · intro h250
                refine AW.rSC ?_
                refine awOps.cons (awGuard.c1 (c_foliantref05_zero ..) ?_)
                refine awOps.rn ?_
                refine AW.rt ?_
                first | (simp_all [useB, uN, uG, uS, uKeys, uKids, uOk, Bool.and_assoc]; done) | (simp_all [useB, uN, uG, uS, uKeys, uKids, uOk]; omega)
              · intro h250
                refine AW.rS ?_
                refine AW.c2 ?_ ?_
                · intro h257
                  refine AW.rSC ?_
                  refine awOps.cons (awGuard.c1 (c_foliantref05_zero ..) ?_)
                  refine awOps.rn ?_
                  refine AW.rt ?_
                  first | (simp_all [useB, uN, uG, uS, uKeys, uKids, uOk, Bool.and_assoc]; done) | (simp_all [useB, uN, uG, uS, uKeys, uKids, uOk]; omega)
                · intro h257
                  refine AW.rS ?_
                  refine AW.c2 ?_ ?_
                  · intro h264
                    refine AW.rSC ?_
                    refine awOps.cons (awGuard.c1 (c_foliantref05_zero ..) ?_)
                    refine awOps.rn ?_
                    refine AW.rt ?_
                    first | (simp_all [useB, uN, uG, uS, uKeys, uKids, uOk, Bool.and_assoc]; done) | (simp_all [useB, uN, uG, uS, uKeys, uKids, uOk]; omega)
                  · intro h264
                    refine AW.rS ?_
                    refine AW.c2 ?_ ?_
                    · intro h271
                      refine AW.rSC ?_
                      refine awOps.cons (awGuard.c1 (c_foliantref05_zero ..) ?_)
                      refine awOps.rn ?_
                      refine AW.rt ?_
                      first | (simp_all [useB, uN, uG, uS, uKeys, uKids, uOk, Bool.and_assoc]; done) | (simp_all [useB, uN, uG, uS, uKeys, uKids, uOk]; omega)
                    · intro h271
                      refine AW.skip ?_
                      refine AW.rS ?_
                      refine AW.rt ?_
                      first | (simp_all [useB, uN, uG, uS, uKeys, uKids, uOk, Bool.and_assoc]; done) | (simp_all [useB, uN, uG, uS, uKeys, uKids, uOk]; omega)
theorem c_foliantref05_fits (gl : List (Nat × AV)) (o : Pob) : FnP Tryz.prog (gl) 61 [.agg o.cells] fun r => r = .ret (.bool (fitsB o)) := by
  refine FnP.intro Tryz.func61 rfl rfl (by simp [Tryz.ntmps61]) ?_
  simp only [argEnv, Tryz.ntmps61, Tryz.results61]
  refine AW.rS ?_
  refine AW.seq ?_
  refine AW.rS ?_
  refine AW.block ?_
  refine AW.rS ?_
  refine AW.c2 ?_ ?_
  · intro h6
    refine AW.rS ?_
    refine AW.rt ?_
    first | (simp_all [fitsB, Bool.and_assoc]; done) | (simp_all only [fitsB]; simp; rw [Bool.eq_iff_iff]; simp; omega)
  · intro h6
    refine AW.rS ?_
    refine AW.c2 ?_ ?_
    · intro h11
      refine AW.rS ?_
      refine AW.rt ?_
      first | (simp_all [fitsB, Bool.and_assoc]; done) | (simp_all only [fitsB]; simp; rw [Bool.eq_iff_iff]; simp; omega)
    · intro h11
      refine AW.rS ?_
      refine AW.c2 ?_ ?_
      · intro h16
        refine AW.rS ?_
        refine AW.rt ?_
        first | (simp_all [fitsB, Bool.and_assoc]; done) | (simp_all only [fitsB]; simp; rw [Bool.eq_iff_iff]; simp; omega)
      · intro h16
        refine AW.rS ?_
        refine AW.c2 ?_ ?_
        · intro h21
          refine AW.rS ?_
          refine AW.rt ?_
          first | (simp_all [fitsB, Bool.and_assoc]; done) | (simp_all only [fitsB]; simp; rw [Bool.eq_iff_iff]; simp; omega)
        · intro h21
          refine AW.skip ?_
          refine AW.rS ?_
          refine AW.rt ?_
          first | (simp_all [fitsB, Bool.and_assoc]; done) | (simp_all only [fitsB]; simp; rw [Bool.eq_iff_iff]; simp; omega)
theorem c_foliantref05_long (gl : List (Nat × AV)) (k : Int) : FnP Tryz.prog (gl) 62 [.int .i64 k] fun r => r = .ret (.int .i64 (longN k)) := by
  refine FnP.intro Tryz.func62 rfl rfl (by simp [Tryz.ntmps62]) ?_
  simp only [argEnv, Tryz.ntmps62, Tryz.results62]
  refine AW.rS ?_
  refine AW.seq ?_
  refine AW.rS ?_
  refine AW.c2 ?_ ?_
  · intro h4
    refine AW.rS ?_
    refine AW.rt ?_
    simp_all [longN]
  · intro h4
    refine AW.skip ?_
    refine AW.seq ?_
    refine AW.rS ?_
    refine AW.c2 ?_ ?_
    · intro h11
      refine AW.rS ?_
      refine AW.rt ?_
      simp_all [longN]
    · intro h11
      refine AW.skip ?_
      refine AW.rS ?_
      refine AW.rt ?_
      simp_all [longN]
end Go.Proofs

namespace Go.Proofs
open Go Aw
set_option linter.unusedSimpArgs false
set_option linter.unusedVariables false
set_option maxRecDepth 100000
set_option maxHeartbeats 2000000
attribute [local go_sem] take_intsAV drop_intsAV app_intsAV app1_intsAV take_objsAV drop_objsAV app_objsAV app1_objsAV
theorem c_foliantref05_keys (gl : List (Nat × AV)) (o : Pob) (h : o.tot ≤ 16777216) : FnP Tryz.prog (gl) 63 [.agg o.cells] fun r => r = .ret (.bool (formB o)) := by
  refine FnP.intro Tryz.func63 rfl rfl (by simp [Tryz.ntmps63]) ?_
  simp only [argEnv, Tryz.ntmps63, Tryz.results63]
  have hb := Pob.bulk_tot o
  have hbe := Pob.bulk_eq o
  have hts := Pob.tot_str o
  refine AW.rS ?_
  refine AW.seq ?_
  refine AW.rS ?_
  refine AW.c2 ?_ ?_
  · intro h4
    refine AW.rSC ?_
    refine awOps.cons (awGuard.c1 (c_foliantref05_Name _ o.str (by omega)) ?_)
    refine awOps.rn ?_
    refine AW.rt ?_
    rw [form_name h4]
  · intro h4
    refine AW.skip ?_
    refine AW.seq ?_
    refine AW.rS ?_
    refine AW.c2 ?_ ?_
    · intro h13
      refine AW.rS ?_
      refine AW.rt ?_
      · rw [form_none h4 h13.1 h13.2]
      all_goals first | contradiction | rfl | (simp; done) | (simp; omega)
    · intro h13
      have h79 : o.kind = 7 ∨ o.kind = 9 := by omega
      rw [form_keys h79]
      refine AW.skip ?_
      refine AW.seq ?_
      refine AW.rS ?_
      refine AW.c2 ?_ ?_
      · intro h20
        refine AW.rS ?_
        refine AW.rt ?_
        rw [rising_no (fun h' => h20 (by have := h'.1; omega))]
      · intro h20
        refine AW.skip ?_
        refine AW.seq ?_
        refine AW.rS ?_
        refine AW.block ?_
        refine AW.lk (S := { i : Nat // i ≤ o.keys.length ∧ ∀ j, j < i → okKey o j }) [1, 27, 28] (fun s_ => [(29, .int .i64 s_.1)]) (fun s_ => [(0, .cells o.cells)]) 1 (fun s_ => o.keys.length - s_.1) ⟨0, Nat.zero_le _, fun j h => absurd h (by omega)⟩ ?_ ?_
        · refine St.le.vw [0]
        rintro ⟨i, hi, hs⟩
        try dsimp only at hi
        try dsimp only at hs
        refine AW.rS ?_
        refine AW.seq ?_
        refine AW.c2 ?_ ?_
        · intro h31
          have hkt := Pob.tot_key (o := o) h31
          refine AW.skip ?_
          refine AW.seq ?_
          refine AW.block ?_
          refine AW.rS ?_
          refine AW.rSC ?_
          refine awOps.cons (awGuard.c1 (c_foliantref05_Name _ (o.keys.getD i []) (by omega)) ?_)
          refine awOps.rn ?_
          refine AW.c2 ?_ ?_
          · intro h39
            refine AW.rS ?_
            refine AW.rt ?_
            rw [rising_no (fun h' => ?_)]
            obtain ⟨k1, k2, k3, k4⟩ := h'.2 i h31
            rcases h39 with ((h | ⟨hi0, h | h⟩) | ⟨h, h9⟩) | h
            · rw [k1] at h; cases h
            · have := bl_asymm (k2 (by omega)); rw [h] at this; cases this
            · have := k2 (by omega); rw [← h, bl_irrefl] at this; cases this
            · exact k3 ⟨h9, h⟩
            · exact k4 h
          · intro h39
            have hok : okKey o i := by
              refine ⟨h39.1.1.1, fun hi0 => ?_, ?_, h39.2⟩
              · rcases h39.1.1.2 with h | ⟨h, h'⟩
                · omega
                · rcases bl_total (o.keys.getD (i - 1) []) (o.keys.getD i []) with e | e | e
                  · exact absurd e.symm h'
                  · exact e
                  · rw [h] at e; cases e
              · rintro ⟨h9, hL⟩
                rcases h39.1.2 with h | h
                · exact h hL
                · exact h h9
            refine AW.skip ?_
            refine AW.rL ?_
            refine ⟨⟨i + 1, by omega, fun j hj => (Nat.lt_or_ge j i).elim (hs j) (fun h => (show j = i by omega) ▸ hok)⟩, ?_, ?_⟩
            · refine St.le.vw [0]
            · simp only []; omega
        · intro h31
          refine AW.exit ?_
          refine AW.rS ?_
          refine AW.rt ?_
          rw [rising_yes ⟨by omega, fun j hj => hs j (by omega)⟩]
theorem rcheck_step (gl : List (Nat × AV)) (N : Nat) (hN : N ≤ 16777216) (ih : ∀ (o' : Pob) (d' : Int), o'.tot < N → 1 ≤ d' → d' ≤ 25 → FnP Tryz.prog gl 41 [.agg o'.cells, .int .i64 d'] fun r => r = .ret (.int .i64 (chk o' d'))) (o : Pob) (d : Int) (ho : o.tot ≤ N) (hd : 1 ≤ d) (hd2 : d ≤ 25) : FnP Tryz.prog (gl) 41 [.agg o.cells, .int .i64 d] fun r => r = .ret (.int .i64 (chk o d)) := by
  refine FnP.intro Tryz.func41 rfl rfl (by simp [Tryz.ntmps41]) ?_
  simp only [argEnv, Tryz.ntmps41, Tryz.results41]
  have hb := Pob.bulk_tot o
  have hbe := Pob.bulk_eq o
  have hts := Pob.tot_str o
  refine AW.rS ?_
  refine AW.seq ?_
  refine AW.rS ?_
  refine AW.c2 ?_ ?_
  · intro h4
    refine AW.rS ?_
    refine AW.rt ?_
    rw [own_deep (by omega)]
  · intro h4
    refine AW.skip ?_
    refine AW.seq ?_
    refine AW.rSC ?_
    refine awOps.cons (awGuard.c1 (c_foliantref05_uses _ o) ?_)
    refine awOps.rn ?_
    refine AW.c2 ?_ ?_
    · intro h13
      refine AW.rS ?_
      refine AW.rt ?_
      rw [own_use (by omega) (by rw [use_split]; rcases h13 with h | ⟨h, h'⟩; simp [h]; simp [h, show ¬ d = 1 by omega])]
    · intro h13
      have hu : useB o d = true := by rw [use_split, h13.1]; rcases h13.2 with h | h; simp [h]; simp [show d = 1 by omega]
      have hu1 : useB o 1 = true := h13.1
      refine AW.skip ?_
      refine AW.seq ?_
      refine AW.rSC ?_
      refine awOps.cons (awGuard.c1 (c_foliantref05_fits _ o) ?_)
      refine awOps.rn ?_
      refine AW.c2 ?_ ?_
      · intro h22
        refine AW.rS ?_
        refine AW.rt ?_
        rw [own_fits (by omega) hu h22]
      · intro h22
        have hf : fitsB o = true := h22
        refine AW.skip ?_
        refine AW.seq ?_
        refine AW.fS [0, 1, 2, 3, 4, 5, 6] [] ?_
        refine awFun.rn ?_
        refine awFun.c1 [29] (c_foliantref05_long _ o.kind) ?_
        refine awFun.rn ?_
        rw [Aw.awFun_nil, Aw.awPlan_nil]
        refine AW.c2 ?_ ?_
        · intro h33
          refine AW.rS ?_
          refine AW.rt ?_
          rw [own_long (by omega) hu hf (by rw [short_ref hu1]; simp; omega)]
        · intro h33
          have hsh : shortB o = true := by rw [short_ref hu1]; simpa using h33
          refine AW.skip ?_
          refine AW.seq ?_
          refine AW.rS ?_
          refine AW.c2 ?_ ?_
          · intro h40
            refine AW.rS ?_
            refine AW.rt ?_
            rw [own_many (by omega) hu hf hsh (by omega)]
          · intro h40
            refine AW.skip ?_
            refine AW.seq ?_
            refine AW.rSC ?_
            refine awOps.cons (awGuard.c1 (c_foliantref05_keys _ o (by omega)) ?_)
            refine awOps.rn ?_
            refine AW.c2 ?_ ?_
            · intro h49
              refine AW.rS ?_
              refine AW.rt ?_
              rw [own_form (by omega) hu hf hsh (by omega) h49]
            · intro h49
              have hfo : formB o = true := h49
              refine AW.skip ?_
              refine AW.seq ?_
              refine AW.rS ?_
              refine AW.block ?_
              refine AW.lk (S := { i : Nat // i ≤ o.kids.length ∧ chkL o.kids (d + 1) = chkL (o.kids.drop i) (d + 1) }) [1, 40, 41] (fun s_ => [(42, .int .i64 s_.1)]) (fun s_ => [(0, .cells o.cells)]) 1 (fun s_ => o.kids.length - s_.1) ⟨0, Nat.zero_le _, rfl⟩ ?_ ?_
              · refine St.le.vw [0]
              rintro ⟨i, hi, hs⟩
              try dsimp only at hi
              try dsimp only at hs
              refine AW.rS ?_
              refine AW.seq ?_
              refine AW.c2 ?_ ?_
              · intro h60
                have hkt := Pob.tot_kid (o := o) h60
                refine AW.skip ?_
                refine AW.seq ?_
                refine AW.block ?_
                refine AW.rS ?_
                refine AW.rSC ?_
                refine awOps.cons (awGuard.c1 (ih (o.kids.getD i Pob.null) (d + 1) (by omega) (by omega) (by omega)) ?_)
                refine awOps.rn ?_
                refine AW.rS ?_
                refine AW.c2 ?_ ?_
                · intro h69
                  refine AW.rS ?_
                  refine AW.rt ?_
                  rw [own_ok (by omega) hu hf hsh (by omega) hfo, hs, chkL_drop h60, if_neg h69]
                · intro h69
                  refine AW.skip ?_
                  refine AW.rL ?_
                  refine ⟨⟨i + 1, by omega, by rw [hs, chkL_drop h60, if_pos h69]⟩, ?_, ?_⟩
                  · refine St.le.vw [0]
                  · simp only []; omega
              · intro h60
                refine AW.exit ?_
                refine AW.rS ?_
                refine AW.rt ?_
                rw [own_ok (by omega) hu hf hsh (by omega) hfo, hs, List.drop_of_length_le (by omega)]
                with_unfolding_all rfl
theorem rcheck_all (gl : List (Nat × AV)) (N : Nat) : N ≤ 16777216 → ∀ (o : Pob) (d : Int), o.tot ≤ N → 1 ≤ d → d ≤ 25 → FnP Tryz.prog gl 41 [.agg o.cells, .int .i64 d] fun r => r = .ret (.int .i64 (chk o d)) := by
  induction N using Nat.strongRecOn with
  | ind N IH => exact fun hN o d ho hd hd2 => rcheck_step gl N hN (fun o' d' h h1 h2 => IH o'.tot h (by omega) o' d' (Nat.le_refl _) h1 h2) o d ho hd hd2
theorem c_foliantref05_Check (gl : List (Nat × AV)) (o : Pob) (h : o.tot ≤ 16777216) : FnP Tryz.prog (gl) 24 [.agg o.cells] fun r => r = .ret (.int .i64 (chk o 1)) := by
  refine FnP.intro Tryz.func24 rfl rfl (by simp [Tryz.ntmps24]) ?_
  simp only [argEnv, Tryz.ntmps24, Tryz.results24]
  refine AW.rS ?_
  refine AW.rSC ?_
  refine awOps.cons (awGuard.c1 (rcheck_all _ 16777216 (Nat.le_refl _) o 1 h (by omega) (by omega)) ?_)
  refine awOps.rn ?_
  refine AW.rt ?_
  all_goals first | contradiction | rfl | (simp; done) | (simp; omega)
end Go.Proofs

namespace Go.Proofs
open Go Aw
set_option linter.unusedSimpArgs false
set_option linter.unusedVariables false
set_option maxRecDepth 100000
set_option maxHeartbeats 2000000
attribute [local go_sem] take_intsAV drop_intsAV app_intsAV app1_intsAV take_objsAV drop_objsAV app_objsAV app1_objsAV
theorem c_foliantref05_Get (gl : List (Nat × AV)) (o : Pob) (key : List UInt8) (h : o.bulk ≤ 16777216) : FnP Tryz.prog (gl) 58 [.agg o.cells, .str key] fun r => r = .ret (.tup [.agg (getO o key).cells, .bool (getB o key)]) := by
  refine FnP.intro Tryz.func58 rfl rfl (by simp [Tryz.ntmps58]) ?_
  simp only [argEnv, Tryz.ntmps58, Tryz.results58]
  have hbe := Pob.bulk_eq o
  refine AW.rS ?_
  refine AW.seq ?_
  refine AW.rS ?_
  refine AW.c2 ?_ ?_
  · intro h4
    refine AW.rS ?_
    refine AW.rt ?_
    have hg := get_unkeyed (o := o) (key := key) (by simp [keyedB, h4.1, h4.2])
    rw [hg.1, hg.2]; rfl
  · intro h4
    refine AW.skip ?_
    refine AW.seq ?_
    refine AW.rS ?_
    refine AW.block ?_
    refine AW.lk (S := { i : Nat // i ≤ o.keys.length ∧ ∀ j, j < i → o.keys.getD j [] ≠ key }) [1, 2, 4, 18, 19] (fun s_ => [(20, .int .i64 s_.1)]) (fun s_ => [(0, .cells o.cells), (1, .cells [.int .i64 0, .int .i64 0, .int .i64 0, .str [], .raw (.slice none 0 0), .raw (.slice none 0 0)])]) 2 (fun s_ => o.keys.length - s_.1) ⟨0, Nat.zero_le _, fun j h => absurd h (by omega)⟩ ?_ ?_
    · refine St.le.vw [0, 1]
    rintro ⟨i, hi, hs⟩
    try dsimp only at hi
    try dsimp only at hs
    refine AW.rS ?_
    refine AW.seq ?_
    refine AW.c2 ?_ ?_
    · intro h15
      refine AW.skip ?_
      refine AW.seq ?_
      refine AW.block ?_
      refine AW.rS ?_
      refine AW.rS ?_
      refine AW.c2 ?_ ?_
      · intro h21
        have hkx := kidx_hit h15 hs h21.symm
        refine AW.seq ?_
        refine AW.rS ?_
        refine AW.c2 ?_ ?_
        · intro h24
          refine AW.rS ?_
          refine AW.rt ?_
          have hg := get_miss (o := o) (key := key) (by rw [hkx]; omega)
          rw [hg.1, hg.2]; rfl
        · intro h24
          refine AW.skip ?_
          refine AW.rS ?_
          refine AW.rt ?_
          have hg := get_hit (o := o) (key := key) (by simp only [keyedB]; simp; omega) (by rw [hkx]; omega)
          rw [hg.1, hg.2, hkx]
          rfl
      · intro h21
        refine AW.skip ?_
        refine AW.rL ?_
        refine ⟨⟨i + 1, by omega, fun j hj => (Nat.lt_or_ge j i).elim (hs j) (fun h => (show j = i by omega) ▸ h21)⟩, ?_, ?_⟩
        · refine St.le.vw [0, 1]
        · simp only []; omega
    · intro h15
      refine AW.exit ?_
      refine AW.rS ?_
      refine AW.rt ?_
      have hg := get_miss (o := o) (key := key) (by rw [kidx_miss (fun j hj => hs j (by omega))]; omega)
      rw [hg.1, hg.2]; rfl
end Go.Proofs

namespace Go.Proofs
open Go Aw
set_option linter.unusedSimpArgs false
set_option linter.unusedVariables false
set_option maxRecDepth 100000
set_option maxHeartbeats 2000000
attribute [local go_sem] take_intsAV drop_intsAV app_intsAV app1_intsAV take_objsAV drop_objsAV app_objsAV app1_objsAV
theorem kidR_zero (l : List Pob) (s : List Int) : kidR (l.take 0) s = s := rfl
theorem intsAV_one (n : Int) : intsAV [n] = [[.int .i64 n]] := rfl
attribute [local go_sem] kidR_zero intsAV_one
end Go.Proofs

namespace Go.Proofs
open Go Aw
set_option linter.unusedSimpArgs false
set_option linter.unusedVariables false
set_option maxRecDepth 100000
set_option maxHeartbeats 2000000
attribute [local go_sem] take_intsAV drop_intsAV app_intsAV app1_intsAV take_objsAV drop_objsAV app_objsAV app1_objsAV
theorem c_foliantref29_Leads (gl : List (Nat × AV)) (d : Dc) (o : Pob) (h : d.bulk ≤ 16777216) : FnP Tryz.prog (gl) 26 [.agg d.cells, .agg o.cells] fun r => r = .ret (.tup [.agg ((leadR d.items o).getD Itm.zero).cells, .bool (leadR d.items o).isSome]) := by
  refine FnP.intro Tryz.func26 rfl rfl (by simp [Tryz.ntmps26]) ?_
  simp only [argEnv, Tryz.ntmps26, Tryz.results26]
  have hlen := ibulk_len d.items
  have hdb : d.bulk = ibulk d.items + d.trailer.bulk := rfl
  refine AW.rS ?_
  refine AW.seq ?_
  refine AW.rS ?_
  refine AW.block ?_
  refine AW.lk (S := { i : Nat // i ≤ d.items.length ∧ ∀ j, j < i → ¬ ((d.items.getD j Itm.zero).num = o.num ∧ (d.items.getD j Itm.zero).gen = o.gen) }) [3, 4, 9, 10] (fun s_ => [(11, .int .i64 s_.1)]) (fun s_ => [(0, .cells d.cells), (1, .cells o.cells), (2, .cells [.int .i64 0, .int .i64 0, .int .i64 0, .int .i64 0, .int .i64 0, .str [], .raw (.slice none 0 0), .raw (.slice none 0 0)])]) 3 (fun s_ => d.items.length - s_.1) ⟨0, Nat.zero_le _, fun j h => absurd h (by omega)⟩ ?_ ?_
  · refine St.le.vw [0, 1, 2]
  rintro ⟨i, hi, hs⟩
  try dsimp only at hi
  try dsimp only at hs
  refine AW.rS ?_
  refine AW.seq ?_
  refine AW.c2 ?_ ?_
  · intro h8
    refine AW.skip ?_
    refine AW.seq ?_
    refine AW.block ?_
    refine AW.rS ?_
    refine AW.rS ?_
    refine AW.c2 ?_ ?_
    · intro h14
      have hix := leadR_hit (l := d.items) (r := o) h8 hs (by simpa using h14)
      refine AW.rS ?_
      refine AW.rt ?_
      rw [hix]
      rfl
    · intro h14
      refine AW.skip ?_
      refine AW.rL ?_
      refine ⟨⟨i + 1, by omega, fun j hj => (Nat.lt_or_ge j i).elim (hs j) (fun h => (show j = i by omega) ▸ (fun hh => by simp at h14 hh; exact h14.elim (fun g => g hh.1) (fun g => g hh.2)))⟩, ?_, ?_⟩
      · refine St.le.vw [0, 1, 2]
      · simp only []; omega
  · intro h8
    refine AW.exit ?_
    refine AW.rS ?_
    refine AW.rt ?_
    have hix := leadR_miss (l := d.items) (r := o) (fun j hj => hs j (by omega))
    rw [hix]
    rfl
theorem c_foliantref29_has (gl : List (Nat × AV)) (l : List Int) (n : Int) (hl : l.length ≤ 16777216 := by first | omega | exact u8_le _ | assumption | (simp; done) | (simp; omega)) : FnP Tryz.prog (gl) 27 [.sl (intsAV l), .int .i64 n] fun r => r = .ret (.bool (decide (n ∈ l))) := by
  refine FnP.intro Tryz.func27 rfl rfl (by simp [Tryz.ntmps27]) ?_
  simp only [argEnv, Tryz.ntmps27, Tryz.results27]
  refine AW.rS ?_
  refine AW.seq ?_
  refine AW.rS ?_
  refine AW.block ?_
  refine AW.lk (S := { i : Nat // i ≤ l.length ∧ ∀ j, j < i → l.getD j 0 ≠ n }) [1, 7, 8] (fun s_ => [(9, .int .i64 s_.1)]) (fun s_ => []) 0 (fun s_ => l.length - s_.1) ⟨0, Nat.zero_le _, fun j h => absurd h (by omega)⟩ ?_ ?_
  · refine St.le.vw []
  rintro ⟨i, hi, hs⟩
  try dsimp only at hi
  try dsimp only at hs
  refine AW.rS ?_
  refine AW.seq ?_
  refine AW.c2 ?_ ?_
  · intro h8
    refine AW.skip ?_
    refine AW.seq ?_
    refine AW.block ?_
    refine AW.rS ?_
    refine AW.rS ?_
    refine AW.c2 ?_ ?_
    · intro h14
      refine AW.rS ?_
      refine AW.rt ?_
      rw [any_hit h8 h14]
    · intro h14
      refine AW.skip ?_
      refine AW.rL ?_
      refine ⟨⟨i + 1, by omega, fun j hj => (Nat.lt_or_ge j i).elim (hs j) (fun h => (show j = i by omega) ▸ h14)⟩, ?_, ?_⟩
      · refine St.le.vw []
      · simp only []; omega
  · intro h8
    refine AW.exit ?_
    refine AW.rS ?_
    refine AW.rt ?_
    rw [any_miss (fun j hj => hs j (by omega))]
end Go.Proofs

namespace Go.Proofs
open Go Aw
set_option linter.unusedSimpArgs false
set_option linter.unusedVariables false
set_option maxRecDepth 100000
set_option maxHeartbeats 2000000
attribute [local go_sem] take_intsAV drop_intsAV app_intsAV app1_intsAV take_objsAV drop_objsAV app_objsAV app1_objsAV
theorem href_step (gl : List (Nat × AV)) (N : Nat) (hN : N ≤ 16777216) (ih : ∀ o' : Pob, o'.bulk < N → FnH Tryz.prog gl 25 [.agg o'.cells] [] 0 fun r h n => r = .ret (.row 1 0 o'.rr.length) ∧ h = [(1, .row 6 (objsAV o'.rr) true)] ∧ n = 2) (o : Pob) (ho : o.bulk ≤ N) : FnH Tryz.prog (gl) 25 [.agg o.cells] ([]) 0 (fun r h n => r = .ret (.row 1 0 o.rr.length) ∧ h = [(1, .row 6 (objsAV o.rr) true)] ∧ n = 2) := by
  refine FnH.intro Tryz.func25 rfl rfl (by simp [Tryz.ntmps25]) ?_
  simp only [argEnv, Tryz.ntmps25, Tryz.results25]
  have hb := Pob.bulk_eq o
  have hre := rr_eq o
  refine AW.rS ?_
  refine AW.seq ?_
  refine AW.rS ?_
  refine AW.c2 ?_ ?_
  · intro h4
    have hr1 : o.rr = [o] := by rw [hre, if_pos h4]
    refine AW.rS ?_
    refine AW.vw [0, 1] [(2, .row 1 0 1)] [(1, .row 6 [o.cells] true)] ?_
    refine AW.rt ?_
    rw [hr1]
    cases o
    exact ⟨rfl, rfl⟩
  · intro h4
    have hr1 : o.rr = rrs o.kids := by rw [hre, if_neg h4]
    refine AW.skip ?_
    refine AW.rS ?_
    refine AW.seq ?_
    refine AW.rS ?_
    refine AW.block ?_
    refine AW.pre (St.le.nilrow 3 6 (by (simp only [go_sem, seval]; try (simp (disch := omega) only [zqa, zqb, zqc, zqd, zqe, zqf, zqg, zqh, zqi, zqj, zqk, zql, zqm, zqn, zqo, zqp, zqq, zqr, zqs]; try (simp only [go_sem, seval]; try (simp (disch := omega) only [zqa, zqb, zqc, zqd, zqe, zqf, zqg, zqh, zqi, zqj, zqk, zql, zqm, zqn, zqo, zqp, zqq, zqr, zqs]; try simp only [go_sem, seval])))))) ?_
    refine wk ?_
    refine AW.lk (S := { i : Nat // i ≤ o.kids.length }) [12, 13] (fun s_ => [(3, .row 1 0 (rrs (o.kids.take s_.1)).length), (14, .int .i64 s_.1)]) (fun s_ => [(0, .cells o.cells), (1, .row 6 (objsAV (rrs (o.kids.take s_.1))) true)]) 2 (fun s_ => o.kids.length - s_.1) ⟨0, Nat.zero_le _⟩ ?_ ?_
    · refine St.le.vw [0, 1]
    rintro ⟨i, hi⟩
    try dsimp only at hi
    refine AW.rS ?_
    refine AW.seq ?_
    refine AW.c2 ?_ ?_
    · intro h16
      have hkb := Pob.bulk_kid (o := o) (i := i) (by omega)
      have hrl := rr_len (o.kids.getD i Pob.null)
      have htl := rrs_take_len o.kids i
      have hts := rrs_take (l := o.kids) (i := i) (by omega)
      have hf2 := congrArg List.length hts
      rw [List.length_append] at hf2
      refine AW.skip ?_
      refine AW.seq ?_
      refine AW.block ?_
      refine AW.rS ?_
      refine AW.rLC ?_
      refine awOps.cons (awGuard.cH [] (ih (o.kids.getD i Pob.null) (Nat.lt_of_lt_of_le hkb ho)) ?_)
      refine awOps.rn ?_
      refine AW.rL ?_
      refine ⟨⟨i + 1, by omega⟩, ?_, ?_⟩
      · refine St.le.vx [0, 5] ?_
        rw [hts]
      · simp only []; omega
    · intro h16
      refine AW.exit ?_
      refine AW.rS ?_
      obtain rfl : i = o.kids.length := by omega
      rw [List.take_length, ← hr1]
      refine AW.vw [0, 1] [(2, .row 1 0 o.rr.length)] [(1, .row 6 (objsAV o.rr) true)] ?_
      refine AW.rt ?_
      trivial
theorem href_all (gl : List (Nat × AV)) (N : Nat) : N ≤ 16777216 → ∀ o : Pob, o.bulk ≤ N → FnH Tryz.prog gl 25 [.agg o.cells] [] 0 fun r h n => r = .ret (.row 1 0 o.rr.length) ∧ h = [(1, .row 6 (objsAV o.rr) true)] ∧ n = 2 := by
  induction N using Nat.strongRecOn with
  | ind N IH => exact fun hN o ho => href_step gl N hN (fun o' h => IH o'.bulk h (by omega) o' (Nat.le_refl _)) o ho
theorem h_foliantref29_Refs (gl : List (Nat × AV)) (o : Pob) (h : o.bulk ≤ 16777216) : FnH Tryz.prog gl 25 [.agg o.cells] [] 0 fun r h n => r = .ret (.row 1 0 o.rr.length) ∧ h = [(1, .row 6 (objsAV o.rr) true)] ∧ n = 2 := href_all gl 16777216 (Nat.le_refl _) o h
end Go.Proofs

namespace Aw
open Go
def usesR (d : Dc) (num : Int) (o : Pob) : Bool := o.rr.any fun x => (leadR d.items x).isSome && decide (((leadR d.items x).getD Itm.zero).num = num)
def userL (d : Dc) (num : Int) (l : List Itm) : List Int := (l.filter fun i => usesR d num i.obj).map (·.num)
def usersR (d : Dc) (num : Int) : List Int := if docE d = 0 then (if usesR d num d.trailer then [0] else []) ++ userL d num d.items else []
def lostI (met : List Int) (l : List Itm) : List Int := (l.filter fun i => !decide (i.num ∈ met)).map (·.num)
def lostR (d : Dc) : List Int := if docE d = 0 then lostI (fromP d d.trailer) d.items else []
def itemsRR (l : List Itm) : List Pob := rrs (l.map (·.obj))
def dangI (d : Dc) (l : List Pob) : List Int := (l.filter fun x => !(leadR d.items x).isSome).map (·.num)
def dangR (d : Dc) : List Int := if docE d = 0 then (dangI d (d.trailer.rr ++ itemsRR d.items)).foldl numIns [] else []
theorem any_take {α : Type} {l : List α} {i : Nat} {d : α} {p : α → Bool} (h : i < l.length) : (l.take (i + 1)).any p = ((l.take i).any p || p (l.getD i d)) := by
  rw [List.take_add_one, List.getElem?_eq_getElem h, List.any_append]
  simp [List.getD, List.getElem?_eq_getElem h]
theorem any_at {α : Type} {l : List α} {i : Nat} {d : α} {p : α → Bool} (h : i < l.length) (hp : p (l.getD i d) = true) : l.any p = true := by
  rw [List.any_eq_true]
  exact ⟨l.getD i d, by simp [List.getD, List.getElem?_eq_getElem h], hp⟩
theorem fm_yes {α β : Type} {l : List α} {i : Nat} {d : α} {p : α → Bool} {f : α → β} (h : i < l.length) (hp : p (l.getD i d) = true) : ((l.take (i + 1)).filter p).map f = ((l.take i).filter p).map f ++ [f (l.getD i d)] := by
  rw [filter_take_yes (d := d) h hp]
  simp
theorem fm_no {α β : Type} {l : List α} {i : Nat} {d : α} {p : α → Bool} {f : α → β} (h : i < l.length) (hp : ¬ p (l.getD i d) = true) : ((l.take (i + 1)).filter p).map f = ((l.take i).filter p).map f := by
  rw [filter_take_no (d := d) h (by simpa using hp)]
theorem fm_len {α β : Type} (l : List α) (i : Nat) (p : α → Bool) (f : α → β) : (((l.take i).filter p).map f).length ≤ i := by
  have h1 := List.length_filter_le p (l.take i)
  simp only [List.length_map, List.length_take] at h1 ⊢
  omega
end Aw

namespace Aw
open Go
end Aw

namespace Aw
open Go
end Aw

set_option linter.unusedVariables false
set_option linter.unusedSimpArgs false
namespace Aw
open Go
theorem hold_ref (o : Pob) : holdsB o = (decide (o.kind = 9) && (decide ((getO o typeK).kind = 5) && (decide ((getO o typeK).str = [79, 98, 106, 83, 116, 109]) || decide ((getO o typeK).str = [88, 82, 101, 102])))) := by
  unfold holdsB docKind
  by_cases h5 : (getO o typeK).kind = 5
  · have hb : ∀ a b c : Bool, (bif a then (bif b then true else c) else false) = (a && (true && (b || c))) := by decide
    simp only [if_pos h5, h5, decide_true]
    exact hb _ _ _
  · simp [h5]
theorem content_knd {i : Itm} (h : chk i.obj 1 = 0) (h' : i.obj.kind = 8 ∨ holdsB i.obj = true) : contentE i = 10 := by unfold contentE; rw [if_neg (by simpa using h), if_pos h']
theorem content_fine {i : Itm} (h : chk i.obj 1 = 0) (h' : ¬ (i.obj.kind = 8 ∨ holdsB i.obj = true)) : contentE i = 0 := by unfold contentE; rw [if_neg (by simpa using h), if_neg h']
theorem trail_idx (k : List UInt8) : 0 ≤ kidxI trailK k ↔ k = [73, 68] ∨ k = [73, 110, 102, 111] ∨ k = [82, 111, 111, 116] := by
  rcases kidxI_cases trailK k with ⟨i, hi, he, hk⟩ | ⟨he, hn⟩
  · have hi3 : i < 3 := hi
    rw [he]
    refine ⟨fun _ => ?_, fun _ => by omega⟩
    obtain rfl | rfl | rfl : i = 0 ∨ i = 1 ∨ i = 2 := by omega
    · exact .inl hk.symm
    · exact .inr (.inl hk.symm)
    · exact .inr (.inr hk.symm)
  · rw [he]
    refine ⟨fun h => absurd h (by omega), fun h => ?_⟩
    rcases h with rfl | rfl | rfl
    · exact absurd rfl (hn 0 (by decide))
    · exact absurd rfl (hn 1 (by decide))
    · exact absurd rfl (hn 2 (by decide))
theorem itots_get {l : List Itm} {i : Nat} (h : i < l.length) : (l.getD i Itm.zero).obj.tot + 3 ≤ itots l := by
  induction l generalizing i with
  | nil => simp at h
  | cons x l ih =>
    simp only [itots, List.map_cons, List.sum_cons, Itm.tot]
    cases i with
    | zero => simp only [List.getD_cons_zero]; omega
    | succ i =>
      have := ih (i := i) (by simpa using h)
      simp only [List.getD_cons_succ, itots, Itm.tot] at this ⊢
      omega
theorem itots_len (l : List Itm) : 3 * l.length ≤ itots l := by
  induction l with
  | nil => simp [itots]
  | cons x l ih => simp only [itots, List.map_cons, List.sum_cons, List.length_cons, Itm.tot] at ih ⊢; omega
end Aw

namespace Go.Proofs
open Go Aw
set_option linter.unusedSimpArgs false
set_option linter.unusedVariables false
set_option maxRecDepth 100000
set_option maxHeartbeats 2000000
attribute [local go_sem] take_intsAV drop_intsAV app_intsAV app1_intsAV take_objsAV drop_objsAV app_objsAV app1_objsAV
theorem c_foliantref19_Hold (gl : List (Nat × AV)) (o : Pob) (h : o.bulk ≤ 16777216) : FnP Tryz.prog (gl) 76 [.agg o.cells] fun r => r = .ret (.bool (holdsB o)) := by
  refine FnP.intro Tryz.func76 rfl rfl (by simp [Tryz.ntmps76]) ?_
  simp only [argEnv, Tryz.ntmps76, Tryz.results76]
  refine AW.rS ?_
  refine AW.rSC ?_
  refine awOps.cons (awGuard.c1 (c_foliantref05_Get _ o typeK h) ?_)
  refine awOps.rn ?_
  refine AW.rS ?_
  refine AW.rt ?_
  rw [hold_ref]
  simp [Bool.cond_false_right, Bool.and_assoc]
theorem c_foliantref19_obj (gl : List (Nat × AV)) (i : Itm) (h : i.obj.tot ≤ 16777216) : FnP Tryz.prog (gl) 57 [.agg i.cells] fun r => r = .ret (.int .i64 (contentE i)) := by
  refine FnP.intro Tryz.func57 rfl rfl (by simp [Tryz.ntmps57]) ?_
  simp only [argEnv, Tryz.ntmps57, Tryz.results57]
  have hb := Pob.bulk_tot i.obj
  refine AW.rS ?_
  refine AW.seq ?_
  refine AW.rSC ?_
  refine awOps.cons (awGuard.c1 (c_foliantref05_Check _ i.obj h) ?_)
  refine awOps.rn ?_
  refine AW.rS ?_
  refine AW.c2 ?_ ?_
  · intro h7
    refine AW.rS ?_
    refine AW.rt ?_
    rw [content_bad h7]
  · intro h7
    refine AW.skip ?_
    refine AW.seq ?_
    refine AW.rSC ?_
    refine awOps.cons (awGuard.cG (fun hg => c_foliantref19_Hold _ i.obj (by omega)) ?_)
    refine awOps.rn ?_
    refine AW.c2 ?_ ?_
    · intro h16
      refine AW.rS ?_
      refine AW.rt ?_
      rw [content_knd h7 h16]
    · intro h16
      refine AW.skip ?_
      refine AW.rS ?_
      refine AW.rt ?_
      rw [content_fine h7 (by rintro (h' | h'); exact h16.1 h'; rw [h16.2] at h'; cases h')]
theorem c_foliantref19_Items (gl : List (Nat × AV)) (l : List Itm) (h : itots l ≤ 16777216) : FnP Tryz.prog (gl) 39 [.sl (itemsAV l)] fun r => r = .ret (.int .i64 (itemsE l)) := by
  refine FnP.intro Tryz.func39 rfl rfl (by simp [Tryz.ntmps39]) ?_
  simp only [argEnv, Tryz.ntmps39, Tryz.results39]
  have hlen := itots_len l
  refine AW.rS ?_
  refine AW.seq ?_
  refine AW.rS ?_
  refine AW.block ?_
  refine AW.lk (S := { k : Nat // k ≤ l.length ∧ itemsE l = itemsFrom l k (l.length - k) }) [0, 6, 7] (fun s_ => [(8, .int .i64 s_.1)]) (fun s_ => []) 0 (fun s_ => l.length - s_.1) ⟨0, Nat.zero_le _, rfl⟩ ?_ ?_
  · refine St.le.vw []
  rintro ⟨k, hk, hs⟩
  try dsimp only at hk
  try dsimp only at hs
  refine AW.rS ?_
  refine AW.seq ?_
  refine AW.c2 ?_ ?_
  · intro h8
    have hgb := itots_get (l := l) (i := k) (by omega)
    refine AW.skip ?_
    refine AW.seq ?_
    refine AW.block ?_
    refine AW.rS ?_
    refine AW.seq ?_
    refine AW.rS ?_
    refine AW.c2 ?_ ?_
    · intro h15
      refine AW.rS ?_
      refine AW.rt ?_
      rw [hs, itemsFrom_step h8, if_pos (nums_no h15)]
    · intro h15
      refine AW.skip ?_
      refine AW.seq ?_
      refine AW.dS [(0, 0), (1, 0), (2, 0), (3, 0), (4, 1), (5, 0), (6, 0), (7, 0), (8, 1), (9, 0), (10, 1), (11, 0), (12, 0)] ?_
      refine AW.c2 ?_ ?_
      · intro h22
        refine AW.rS ?_
        refine AW.rt ?_
        rw [hs, itemsFrom_step h8, if_neg (by rw [nums_yes h15]; simp), if_pos (by omega)]
      · intro h22
        refine AW.skip ?_
        refine AW.rSC ?_
        refine awOps.cons (awGuard.c1 (c_foliantref19_obj _ (l.getD k Itm.zero) (by omega)) ?_)
        refine awOps.rn ?_
        refine AW.rS ?_
        refine AW.c2 ?_ ?_
        · intro h31
          refine AW.rS ?_
          refine AW.rt ?_
          rw [hs, itemsFrom_step h8, if_neg (by rw [nums_yes h15]; simp), if_neg (by omega), if_pos h31]
        · intro h31
          refine AW.skip ?_
          refine AW.rL ?_
          refine ⟨⟨k + 1, by omega, by rw [hs, itemsFrom_step (by omega), if_neg (by rw [nums_yes h15]; simp), if_neg (by omega), if_neg (by simpa using h31)]⟩, ?_, ?_⟩
          · refine St.le.vw []
          · simp only []; omega
  · intro h8
    refine AW.exit ?_
    refine AW.rS ?_
    refine AW.rt ?_
    rw [hs, show l.length - k = 0 from by omega, itemsFrom]
theorem c_foliantref19_Follow (gl : List (Nat × AV)) (d : Dc) (o : Pob) (h : d.bulk ≤ 16777216) : FnP Tryz.prog (gl) 59 [.agg d.cells, .agg o.cells] fun r => r = .ret (.agg (followO d o).cells) := by
  refine FnP.intro Tryz.func59 rfl rfl (by simp [Tryz.ntmps59]) ?_
  simp only [argEnv, Tryz.ntmps59, Tryz.results59]
  have hlen := ibulk_len d.items
  have hdb : d.bulk = ibulk d.items + d.trailer.bulk := rfl
  refine AW.rS ?_
  refine AW.seq ?_
  refine AW.rS ?_
  refine AW.c2 ?_ ?_
  · intro h4
    refine AW.rS ?_
    refine AW.rt ?_
    rw [followO, if_pos h4]
  · intro h4
    refine AW.skip ?_
    refine AW.seq ?_
    refine AW.rS ?_
    refine AW.block ?_
    refine AW.lk (S := { i : Nat // i ≤ d.items.length ∧ ∀ j, j < i → (d.items.getD j Itm.zero).num ≠ o.num }) [3, 4, 12, 13] (fun s_ => [(14, .int .i64 s_.1)]) (fun s_ => [(0, .cells d.cells), (1, .cells o.cells), (2, .cells [.int .i64 0, .int .i64 0, .int .i64 0, .str [], .raw (.slice none 0 0), .raw (.slice none 0 0)])]) 3 (fun s_ => d.items.length - s_.1) ⟨0, Nat.zero_le _, fun j h => absurd h (by omega)⟩ ?_ ?_
    · refine St.le.vw [0, 1, 2]
    rintro ⟨i, hi, hs⟩
    try dsimp only at hi
    try dsimp only at hs
    refine AW.rS ?_
    refine AW.seq ?_
    refine AW.c2 ?_ ?_
    · intro h15
      refine AW.skip ?_
      refine AW.seq ?_
      refine AW.block ?_
      refine AW.rS ?_
      refine AW.rS ?_
      refine AW.c2 ?_ ?_
      · intro h21
        have hix := iidx_hit h15 hs h21
        refine AW.seq ?_
        refine AW.rS ?_
        refine AW.c2 ?_ ?_
        · intro h24
          refine AW.rS ?_
          refine AW.rt ?_
          rw [followO, if_neg (by simp [h4]), if_neg (by omega), hix]
          rw [if_pos (by simpa using h24)]
          rfl
        · intro h24
          refine AW.skip ?_
          refine AW.rS ?_
          refine AW.rt ?_
          rw [followO, if_neg (by simp [h4]), if_neg (by omega), hix]
          rw [if_neg (by simpa using h24)]
          rfl
      · intro h21
        refine AW.skip ?_
        refine AW.rL ?_
        refine ⟨⟨i + 1, by omega, fun j hj => (Nat.lt_or_ge j i).elim (hs j) (fun h => (show j = i by omega) ▸ h21)⟩, ?_, ?_⟩
        · refine St.le.vw [0, 1, 2]
        · simp only []; omega
    · intro h15
      refine AW.exit ?_
      refine AW.rS ?_
      refine AW.rt ?_
      have hix := iidx_miss (l := d.items) (n := o.num) (fun j hj => hs j (by omega))
      rw [followO, if_neg (by simp [h4]), if_pos (by omega)]
      rfl
theorem c_foliantref19_trail (gl : List (Nat × AV)) (d : Dc) (h : d.tot ≤ 16777216) : FnP Tryz.prog (gl) 40 [.agg d.cells] fun r => r = .ret (.int .i64 (trailE d)) := by
  refine FnP.intro Tryz.func40 rfl rfl (by simp [Tryz.ntmps40]) ?_
  simp only [argEnv, Tryz.ntmps40, Tryz.results40]
  have h0 := Dc.bulk_tot d
  have h1 : d.tot = itots d.items + d.trailer.tot := rfl
  have h2 := Pob.bulk_tot d.trailer
  have hkb := Pob.bulk_eq d.trailer
  have hrb := get_bulk d.trailer rootK
  refine AW.rS ?_
  refine AW.rS ?_
  refine AW.seq ?_
  refine AW.rSC ?_
  refine awOps.cons (awGuard.c1 (c_foliantref05_Check _ d.trailer (by omega)) ?_)
  refine awOps.rn ?_
  refine AW.rS ?_
  refine AW.c2 ?_ ?_
  · intro h8
    refine AW.rS ?_
    refine AW.rt ?_
    · rw [trail_bad h8]
    all_goals first | contradiction | rfl | (simp; done) | (simp; omega)
  · intro h8
    refine AW.skip ?_
    refine AW.seq ?_
    refine AW.rS ?_
    refine AW.c2 ?_ ?_
    · intro h15
      refine AW.rS ?_
      refine AW.rt ?_
      rw [trail_kind h8 h15]
    · intro h15
      refine AW.skip ?_
      refine AW.seq ?_
      refine AW.rS ?_
      refine AW.block ?_
      refine AW.lk (S := { i : Nat // i ≤ d.trailer.keys.length ∧ ∀ j, j < i → 0 ≤ kidxI trailK (d.trailer.keys.getD j []) }) [1, 3, 20, 21] (fun s_ => [(22, .int .i64 s_.1)]) (fun s_ => [(0, .cells d.cells), (1, .cells d.trailer.cells)]) 2 (fun s_ => d.trailer.keys.length - s_.1) ⟨0, Nat.zero_le _, fun j h => absurd h (by omega)⟩ ?_ ?_
      · refine St.le.vw [0, 1]
      rintro ⟨i, hi, hs⟩
      try dsimp only at hi
      try dsimp only at hs
      refine AW.rS ?_
      refine AW.seq ?_
      refine AW.c2 ?_ ?_
      · intro h26
        refine AW.skip ?_
        refine AW.seq ?_
        refine AW.block ?_
        refine AW.rS ?_
        refine AW.rS ?_
        refine AW.c2 ?_ ?_
        · intro h32
          refine AW.rS ?_
          refine AW.rt ?_
          rw [trail_key h8 h15 (fun hh => by have := (trail_idx _).1 (hh i h26); rcases this with e | e | e; exact h32.1.1 e; exact h32.1.2 e; exact h32.2 e)]
        · intro h32
          have hkx : 0 ≤ kidxI trailK (d.trailer.keys.getD i []) := (trail_idx _).2 (by rcases h32 with (e | e) | e; exact .inl e; exact .inr (.inl e); exact .inr (.inr e))
          refine AW.skip ?_
          refine AW.rL ?_
          refine ⟨⟨i + 1, by omega, fun j hj => (Nat.lt_or_ge j i).elim (hs j) (fun h => (show j = i by omega) ▸ hkx)⟩, ?_, ?_⟩
          · refine St.le.vw [0, 1]
          · simp only []; omega
      · intro h26
        refine AW.exit ?_
        have htk : trailOk d.trailer.keys := fun j hj => hs j (by omega)
        refine AW.rSC ?_
        refine awOps.cons (awGuard.c1 (c_foliantref05_Get _ d.trailer rootK (by omega)) ?_)
        refine awOps.rn ?_
        refine AW.seq ?_
        refine AW.rSC ?_
        refine awOps.cons (awGuard.cG (fun hg => c_foliantref19_Follow _ d (getO d.trailer rootK) (by omega)) ?_)
        refine awOps.rn ?_
        refine AW.c2 ?_ ?_
        · intro h47
          refine AW.rS ?_
          refine AW.rt ?_
          rw [trail_root h8 h15 htk, if_pos h47]
        · intro h47
          refine AW.skip ?_
          refine AW.rS ?_
          refine AW.rt ?_
          rw [trail_root h8 h15 htk, if_neg (by simp [h47])]
theorem c_foliantref19_Check (gl : List (Nat × AV)) (d : Dc) (h : d.tot ≤ 16777216) : FnP Tryz.prog (gl) 23 [.agg d.cells] fun r => r = .ret (.int .i64 (docE d)) := by
  refine FnP.intro Tryz.func23 rfl rfl (by simp [Tryz.ntmps23]) ?_
  simp only [argEnv, Tryz.ntmps23, Tryz.results23]
  have h1 : d.tot = itots d.items + d.trailer.tot := rfl
  refine AW.rS ?_
  refine AW.seq ?_
  refine AW.rSC ?_
  refine awOps.cons (awGuard.c1 (c_foliantref19_Items _ d.items (by omega)) ?_)
  refine awOps.rn ?_
  refine AW.rS ?_
  refine AW.c2 ?_ ?_
  · intro h7
    refine AW.rS ?_
    refine AW.rt ?_
    rw [doc_bad h7]
  · intro h7
    refine AW.skip ?_
    refine AW.rSC ?_
    refine awOps.cons (awGuard.c1 (c_foliantref19_trail _ d h) ?_)
    refine awOps.rn ?_
    refine AW.rt ?_
    rw [doc_trail h7]
end Go.Proofs
