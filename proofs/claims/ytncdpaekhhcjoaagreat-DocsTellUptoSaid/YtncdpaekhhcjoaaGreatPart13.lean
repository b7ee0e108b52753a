/- A part of the proof of a law of the seat: no condition of its own. -/
import Derived.Test.YtncdpaekhhcjoaaGreatPart12
namespace Go.Proofs
open Go Aw
set_option linter.unusedSimpArgs false
set_option linter.unusedVariables false
set_option maxRecDepth 100000
set_option maxHeartbeats 1000000

theorem c_EqualFunc_Item (gl : List (Nat × AV)) (a b : List Itm) (ha : ibulk a ≤ 16777216) : FnP Tryz.prog (gl) 91 [.sl (itemsAV a), .sl (itemsAV b), .clos 83 []] fun r => r = .ret (.bool (decide (a = b))) := by
  refine FnP.intro Tryz.func91 rfl rfl (by simp [Tryz.ntmps91]) ?_
  simp only [argEnv, Tryz.ntmps91, Tryz.results91]
  have hla := ibulk_len a
  refine AW.rS ?_
  refine AW.seq ?_
  refine AW.rS ?_
  refine AW.c2 ?_ ?_
  · intro h4
    refine AW.rS ?_
    refine AW.rt ?_
    rw [decide_eq_false (fun e => h4 (by rw [e]))]
  · intro h4
    refine AW.skip ?_
    refine AW.seq ?_
    refine AW.rS ?_
    refine AW.block ?_
    refine AW.lk (S := { i : Nat // i ≤ a.length ∧ a.take i = b.take i }) [1, 2, 15, 16] (fun s_ => [(17, .int .i64 s_.1)]) (fun s_ => []) 0 (fun s_ => a.length - s_.1) ⟨0, Nat.zero_le _, rfl⟩ ?_ ?_
    · refine St.le.vw []
    rintro ⟨i, hi, hs⟩
    try dsimp only at hi
    try dsimp only at hs
    refine AW.rS ?_
    refine AW.seq ?_
    refine AW.c2 ?_ ?_
    · intro h15
      have hga := ibulk_get (l := a) (i := i) (by omega)
      refine AW.skip ?_
      refine AW.seq ?_
      refine AW.block ?_
      refine AW.rS ?_
      refine AW.rS ?_
      refine AW.rSC ?_
      refine awOps.cons (awGuard.c1 (c_docs_same _ (a.getD i Itm.zero) (b.getD i Itm.zero) (by omega)) ?_)
      refine awOps.rn ?_
      refine AW.c2 ?_ ?_
      · intro h24
        refine AW.rS ?_
        refine AW.rt ?_
        rw [decide_eq_false (fun e => h24 (by rw [e]))]
      · intro h24
        refine AW.skip ?_
        refine AW.rL ?_
        refine ⟨⟨i + 1, by omega, takeItm_succ h15 (by omega) hs h24⟩, ?_, ?_⟩
        · refine St.le.vw []
        · simp only []; omega
    · intro h15
      refine AW.exit ?_
      refine AW.rS ?_
      refine AW.rt ?_
      rw [List.take_of_length_le (by omega), List.take_of_length_le (by omega)] at hs
      simp [hs]
theorem c_docs_Same (gl : List (Nat × AV)) (a b : Dc) (h : a.bulk ≤ 16777216 := by first | omega | exact u8_le _ | assumption | (simp; done) | (simp; omega)) : FnP Tryz.prog (gl) 29 [.agg a.cells, .agg b.cells] fun r => r = .ret (.bool (decide (a = b))) := by
  refine FnP.intro Tryz.func29 rfl rfl (by simp [Tryz.ntmps29]) ?_
  simp only [argEnv, Tryz.ntmps29, Tryz.results29]
  simp only [Dc.bulk] at h
  refine AW.rS ?_
  refine AW.rSC ?_
  refine awOps.cons (awGuard.c1 (c_EqualFunc_Item _ a.items b.items (by omega)) ?_)
  refine awOps.rn ?_
  refine awOps.cons (awGuard.cG (fun hg => c_value_Same _ a.trailer b.trailer (by omega)) ?_)
  refine awOps.rn ?_
  refine AW.rt ?_
  rw [show ∀ x y : Bool, x = y → AE.ret (.bool x) = AE.ret (.bool y) from fun _ _ h => by rw [h]]
  rw [Bool.eq_iff_iff]
  simp only [decide_eq_true_eq, Bool.cond_false_right, Bool.and_eq_true, Dc_eq a b]
theorem c_foliantref19_SameItem (gl : List (Nat × AV)) (a b : Itm) (h : a.obj.bulk ≤ 16777216 := by first | omega | exact u8_le _ | assumption | (simp; done) | (simp; omega)) : FnP Tryz.prog (gl) 26 [.agg a.cells, .agg b.cells] fun r => r = .ret (.bool (decide (a = b))) := by
  refine FnP.intro Tryz.func26 rfl rfl (by simp [Tryz.ntmps26]) ?_
  simp only [argEnv, Tryz.ntmps26, Tryz.results26]
  refine AW.rS ?_
  refine AW.rSC ?_
  refine awOps.cons (awGuard.cG (fun hg => c_foliantref05_Same _ a.obj b.obj) ?_)
  refine awOps.rn ?_
  refine AW.rt ?_
  rw [show ∀ x y : Bool, x = y → AE.ret (.bool x) = AE.ret (.bool y) from fun _ _ h => by rw [h]]
  rw [Bool.eq_iff_iff]
  simp only [decide_eq_true_eq, Bool.cond_false_right, Bool.and_eq_true, Itm_eq a b, and_assoc]
theorem c_foliantref19_Size (gl : List (Nat × AV)) (d : Dc) (h : d.bulk ≤ 16777216) (hp : d.size ≤ 4611686018427387904) : FnP Tryz.prog (gl) 6 [.agg d.cells] fun r => r = .ret (.int .i64 d.size) := by
  refine FnP.intro Tryz.func6 rfl rfl (by simp [Tryz.ntmps6]) ?_
  simp only [argEnv, Tryz.ntmps6, Tryz.results6]
  have hlen := ibulk_len d.items
  have hdb : d.bulk = ibulk d.items + d.trailer.bulk := rfl
  have hds : d.size = d.trailer.psize + isize d.items := rfl
  have hk0 := isize_nil
  refine AW.rS ?_
  refine AW.rSC ?_
  refine awOps.cons (awGuard.c1 (c_foliantref05_Size _ d.trailer (by omega) (by omega)) ?_)
  refine awOps.rn ?_
  refine AW.seq ?_
  refine AW.rS ?_
  refine AW.block ?_
  refine AW.lk (S := { i : Nat // i ≤ d.items.length }) [10, 11] (fun s_ => [(3, .int .i64 ((d.trailer.psize + isize (d.items.take s_.1) : Nat) : Int)), (12, .int .i64 s_.1)]) (fun s_ => [(0, .cells d.cells)]) 1 (fun s_ => d.items.length - s_.1) ⟨0, Nat.zero_le _⟩ ?_ ?_
  · refine St.le.vw [0]
  rintro ⟨i, hi⟩
  try dsimp only at hi
  refine AW.rS ?_
  refine AW.seq ?_
  refine AW.c2 ?_ ?_
  · intro h11
    have h1 := isize_take h11
    have h2 := isize_take_le d.items (i + 1)
    have hgb := ibulk_get (l := d.items) (i := i) (by omega)
    refine AW.skip ?_
    refine AW.seq ?_
    refine AW.block ?_
    refine AW.rS ?_
    refine AW.rLC ?_
    refine awOps.cons (awGuard.c1 (c_foliantref05_Size _ (d.items.getD i Itm.zero).obj (by omega) (by omega)) ?_)
    refine awOps.rn ?_
    refine AW.rL ?_
    refine ⟨⟨i + 1, by omega⟩, ?_, ?_⟩
    · refine St.le.vw [0]
    · simp only []; omega
  · intro h11
    refine AW.exit ?_
    refine AW.rS ?_
    refine AW.rt ?_
    obtain rfl : i = d.items.length := by omega
    rw [List.take_length, hds]
theorem c_foliantlaw19_Least (gl : List (Nat × AV))  : FnP Tryz.prog (gl) 71 [] fun r => r = .ret (.agg leastD.cells) := by
  refine FnP.intro Tryz.func71 rfl rfl (by simp [Tryz.ntmps71]) ?_
  simp only [argEnv, Tryz.ntmps71, Tryz.results71]
  refine AW.rS ?_
  refine AW.rS ?_
  refine AW.rt ?_
  all_goals first | contradiction | rfl | (simp; done) | (simp; omega)
end Go.Proofs

namespace Aw
open Go
theorem ibulk_filter (l : List Itm) (p : Itm → Bool) : ibulk (l.filter p) ≤ ibulk l := by
  induction l with
  | nil => simp [ibulk]
  | cons x l ih =>
    rw [List.filter_cons]
    split
    · rw [ibulk_cons, ibulk_cons]; omega
    · rw [ibulk_cons]; omega
theorem diffL_bulk (d e : Dc) : ibulk (diffL d e) ≤ ibulk e.items := by
  unfold diffL
  split
  · simp [ibulk]
  · exact ibulk_filter _ _
theorem diffG_len (d e : Dc) : (diffG d e).length ≤ d.items.length := by
  unfold diffG
  split
  · simp
  · rw [List.length_map]; exact List.length_filter_le _ _
theorem len_sum_zero {α β : Type} (l : List α) (m : List β) : decide (((l.length : Int) + (m.length : Int)) = 0) = decide (l = [] ∧ m = []) := by
  cases l <;> cases m <;> simp <;> omega
end Aw

namespace Aw
open Go
theorem zero_bulk : Dc.zero.bulk = 1 := by simp [Dc.zero, Dc.bulk, ibulk, Pob.null, Pob.bulk, bulks]
theorem putO_bulk (d : Dc) (i : Itm) : (putO d i).bulk ≤ d.bulk + i.obj.bulk + 1 := by
  unfold putO
  split
  · rw [zero_bulk]; omega
  · have := layI_bulk d.items i
    simp only [Dc.bulk]
    omega
theorem dropD_bulk (d : Dc) (n : Int) : (dropD d n).bulk ≤ d.bulk + 1 := by
  unfold dropD
  split
  · rw [zero_bulk]; omega
  · have := takeI_bulk d.items n
    simp only [Dc.bulk]
    omega
theorem addO_bulk (d : Dc) (o : Pob) : (addO d o).bulk ≤ d.bulk + o.bulk + 1 := by
  unfold addO
  split
  · rw [zero_bulk]; omega
  · exact putO_bulk d ⟨freeN d, 0, o⟩
theorem look_bulk (l : List Itm) (n : Int) : ((lookI l n).getD Itm.zero).obj.bulk ≤ ibulk l + 1 := by
  have hz : Itm.zero.obj.bulk = 1 := by simp [Itm.zero, Pob.null, Pob.bulk, bulks]
  unfold lookI
  split
  · rw [Option.getD_none, hz]; omega
  · rw [Option.getD_some]
    by_cases h : (iidxI l n).toNat < l.length
    · have := ibulk_get h; omega
    · have : l.getD (iidxI l n).toNat Itm.zero = Itm.zero := by simp [List.getD, h]
      rw [this, hz]; omega
theorem freeN_range (d : Dc) : 0 ≤ freeN d ∧ freeN d ≤ 8191 := by
  by_cases h : freeE d = 0
  · have hp := free_parts h
    have := last_pos (docE_items hp.1)
    rw [hp.2.2]; omega
  · unfold freeN; rw [if_pos h]; omega
theorem addN_range (d : Dc) (o : Pob) : 0 ≤ addN d o ∧ addN d o ≤ 8191 := by
  unfold addN
  split
  · omega
  · exact freeN_range d
end Aw

set_option linter.unusedVariables false
set_option linter.unusedSimpArgs false
namespace Aw
open Go
theorem hold_ref (o : Pob) : holdsB o = (decide (o.kind = 9) && (decide ((getO o typeK).kind = 5) && (decide ((getO o typeK).str = [79, 98, 106, 83, 116, 109]) || decide ((getO o typeK).str = [88, 82, 101, 102])))) := by
  unfold holdsB docKind
  by_cases h5 : (getO o typeK).kind = 5
  · have hb : ∀ a b c : Bool, (bif a then (bif b then true else c) else false) = (a && (true && (b || c))) := by decide
    simp only [if_pos h5, h5, decide_true]
    exact hb _ _ _
  · simp [h5]
theorem content_knd {i : Itm} (h : chk i.obj 1 = 0) (h' : i.obj.kind = 8 ∨ holdsB i.obj = true) : contentE i = 10 := by unfold contentE; rw [if_neg (by simpa using h), if_pos h']
theorem content_fine {i : Itm} (h : chk i.obj 1 = 0) (h' : ¬ (i.obj.kind = 8 ∨ holdsB i.obj = true)) : contentE i = 0 := by unfold contentE; rw [if_neg (by simpa using h), if_neg h']
theorem trail_idx (k : List UInt8) : 0 ≤ kidxI trailK k ↔ k = [73, 68] ∨ k = [73, 110, 102, 111] ∨ k = [82, 111, 111, 116] := by
  rcases kidxI_cases trailK k with ⟨i, hi, he, hk⟩ | ⟨he, hn⟩
  · have hi3 : i < 3 := hi
    rw [he]
    refine ⟨fun _ => ?_, fun _ => by omega⟩
    obtain rfl | rfl | rfl : i = 0 ∨ i = 1 ∨ i = 2 := by omega
    · exact .inl hk.symm
    · exact .inr (.inl hk.symm)
    · exact .inr (.inr hk.symm)
  · rw [he]
    refine ⟨fun h => absurd h (by omega), fun h => ?_⟩
    rcases h with rfl | rfl | rfl
    · exact absurd rfl (hn 0 (by decide))
    · exact absurd rfl (hn 1 (by decide))
    · exact absurd rfl (hn 2 (by decide))
theorem itots_get {l : List Itm} {i : Nat} (h : i < l.length) : (l.getD i Itm.zero).obj.tot + 3 ≤ itots l := by
  induction l generalizing i with
  | nil => simp at h
  | cons x l ih =>
    simp only [itots, List.map_cons, List.sum_cons, Itm.tot]
    cases i with
    | zero => simp only [List.getD_cons_zero]; omega
    | succ i =>
      have := ih (i := i) (by simpa using h)
      simp only [List.getD_cons_succ, itots, Itm.tot] at this ⊢
      omega
theorem itots_len (l : List Itm) : 3 * l.length ≤ itots l := by
  induction l with
  | nil => simp [itots]
  | cons x l ih => simp only [itots, List.map_cons, List.sum_cons, List.length_cons, Itm.tot] at ih ⊢; omega
theorem itots_append (a b : List Itm) : itots (a ++ b) = itots a + itots b := by simp [itots]
theorem itots_takele (l : List Itm) (i : Nat) : itots (l.take i) ≤ itots l := by
  have := itots_append (l.take i) (l.drop i)
  rw [List.take_append_drop] at this
  omega
theorem itots_set (l : List Itm) (k : Nat) (i : Itm) : itots (l.set k i) ≤ itots l + i.tot := by
  induction l generalizing k with
  | nil => simp [itots]
  | cons x l ih =>
    cases k with
    | zero => simp only [List.set_cons_zero, itots, List.map_cons, List.sum_cons]; omega
    | succ k => have := ih k; simp only [List.set_cons_succ, itots, List.map_cons, List.sum_cons] at this ⊢; omega
theorem itots_lay (l : List Itm) (i : Itm) : itots (layI l i) ≤ itots l + i.tot := by
  unfold layI
  split
  · exact itots_set _ _ _
  · have h := itots_append (l.take (iplace l i.num)) (l.drop (iplace l i.num))
    rw [List.take_append_drop] at h
    unfold insAt
    rw [itots_append]
    simp only [itots, List.map_cons, List.sum_cons] at h ⊢
    omega
theorem itots_take (l : List Itm) (n : Int) : itots (takeI l n) ≤ itots l := by
  unfold takeI
  split
  · have h := itots_append (l.take (iplace l n)) (l.drop (iplace l n))
    rw [List.take_append_drop] at h
    have h2 := itots_append ((l.drop (iplace l n)).take 1) ((l.drop (iplace l n)).drop 1)
    rw [List.take_append_drop, List.drop_drop] at h2
    unfold delAt
    rw [itots_append]
    omega
  · exact Nat.le_refl _
/-- the items but those with a number -/
theorem take_filter {l : List Itm} (hs : incrN l) (n : Int) : l.filter (fun i => decide (i.num ≠ n)) = takeI l n := by
  have key : ∀ a, a < l.length → ((l.getD a Itm.zero).num = n ↔ ithere l n = true ∧ a = iplace l n) := by
    intro a ha
    constructor
    · intro e
      have hp : iplace l n = a := iplace_eq (by omega) (fun b hb => by have := hs b a hb ha; omega) (fun _ => by omega)
      exact ⟨by rw [ithere_eq hp]; simp only [Bool.and_eq_true, decide_eq_true_eq]; exact ⟨ha, e⟩, hp.symm⟩
    · rintro ⟨h1, rfl⟩
      exact ithere_num h1
  unfold takeI
  split
  · rename_i ht
    have hlt := ithere_lt ht
    have e : l = l.take (iplace l n) ++ l[iplace l n] :: l.drop (iplace l n + 1) := by rw [← List.drop_eq_getElem_cons hlt, List.take_append_drop]
    have hg : (l.getD (iplace l n) Itm.zero).num = n := ithere_num ht
    have hge : l.getD (iplace l n) Itm.zero = l[iplace l n] := by simp [List.getD, hlt]
    rw [hge] at hg
    unfold delAt
    conv => lhs; rw [e]
    rw [List.filter_append, List.filter_cons, if_neg (by simp [hg])]
    congr 1
    · refine List.filter_eq_self.2 fun x hx => ?_
      obtain ⟨a, ha, rfl⟩ := List.getElem_of_mem hx
      rw [List.length_take] at ha
      have := fun hh => (show ¬ (ithere l n = true ∧ a = iplace l n) from fun h => by have := h.2; omega) ((key a (by omega)).1 hh)
      rw [List.getElem_take]
      simp only [List.getD, List.getElem?_eq_getElem (show a < l.length by omega), Option.getD_some] at this
      simpa using this
    · refine List.filter_eq_self.2 fun x hx => ?_
      obtain ⟨a, ha, rfl⟩ := List.getElem_of_mem hx
      rw [List.length_drop] at ha
      have := fun hh => (show ¬ (ithere l n = true ∧ iplace l n + 1 + a = iplace l n) from fun h => by have := h.2; omega) ((key (iplace l n + 1 + a) (by omega)).1 hh)
      rw [List.getElem_drop]
      simp only [List.getD, List.getElem?_eq_getElem (show iplace l n + 1 + a < l.length by omega), Option.getD_some] at this
      simpa using this
  · rename_i ht
    refine List.filter_eq_self.2 fun x hx => ?_
    obtain ⟨a, ha, rfl⟩ := List.getElem_of_mem hx
    have := fun hh => ht ((key a ha).1 hh).1
    simp only [List.getD, List.getElem?_eq_getElem ha, Option.getD_some] at this
    simpa using this
theorem look_there {l : List Itm} (hs : incrN l) (n : Int) : (lookI l n).isSome = ithere l n ∧ (lookI l n).getD Itm.zero = if ithere l n = true then l.getD (iplace l n) Itm.zero else Itm.zero := by
  by_cases ht : ithere l n = true
  · have hlt := ithere_lt ht
    have hi := iidx_hit (l := l) (n := n) hlt (fun j hj => by have := hs j (iplace l n) hj hlt; have := ithere_num ht; omega) (ithere_num ht)
    rw [look_hit (by omega), hi, ht]
    simp
  · have hm : iidxI l n = -1 := iidx_miss fun j hj e => ht (by
      have hp : iplace l n = j := iplace_eq (by omega) (fun b hb => by have := hs b j hb hj; omega) (fun _ => by omega)
      rw [ithere_eq hp]; simp only [Bool.and_eq_true, decide_eq_true_eq]; exact ⟨hj, e⟩)
    rw [look_miss (by omega)]
    simp [ht]
theorem lay_there {l : List Itm} {i : Itm} (ht : ithere l i.num = true) : layI l i = l.take (iplace l i.num) ++ [i] ++ l.drop (iplace l i.num + 1) := by
  have hlt := ithere_lt ht
  unfold layI
  rw [if_pos ht, List.set_eq_take_append_cons_drop, if_pos hlt]
  simp
theorem lay_new {l : List Itm} {i : Itm} (ht : ithere l i.num = false) : layI l i = l.take (iplace l i.num) ++ [i] ++ l.drop (iplace l i.num) := by
  unfold layI
  rw [if_neg (by simp [ht])]
  simp [insAt]
theorem itots_takeS {l : List Itm} {i : Nat} (h : i < l.length) : itots (l.take (i + 1)) = itots (l.take i) + (l.getD i Itm.zero).tot := by
  rw [List.take_succ_eq_append_getElem h, itots_append]
  simp [itots, List.getD, h]
end Aw

namespace Go.Proofs
open Go Aw
set_option linter.unusedSimpArgs false
set_option linter.unusedVariables false
set_option maxRecDepth 100000
set_option maxHeartbeats 2000000
attribute [local go_sem] take_strsAV drop_strsAV app_strsAV app1_strsAV take_intsAV drop_intsAV app_intsAV app1_intsAV take_objsAV drop_objsAV app_objsAV app1_objsAV

theorem c_foliantref19_Hold (gl : List (Nat × AV)) (o : Pob) (h : o.bulk ≤ 16777216) : FnP Tryz.prog (gl) 180 [.agg o.cells] fun r => r = .ret (.bool (holdsB o)) := by
  refine FnP.intro Tryz.func180 rfl rfl (by simp [Tryz.ntmps180]) ?_
  simp only [argEnv, Tryz.ntmps180, Tryz.results180]
  refine AW.rS ?_
  refine AW.rSC ?_
  refine awOps.cons (awGuard.c1 (c_foliantref05_Get _ o typeK h) ?_)
  refine awOps.rn ?_
  refine AW.rS ?_
  refine AW.rt ?_
  rw [hold_ref]
  simp [Bool.cond_false_right, Bool.and_assoc]
theorem c_foliantref19_obj (gl : List (Nat × AV)) (i : Itm) (h : i.obj.tot ≤ 16777216) : FnP Tryz.prog (gl) 145 [.agg i.cells] fun r => r = .ret (.int .i64 (contentE i)) := by
  refine FnP.intro Tryz.func145 rfl rfl (by simp [Tryz.ntmps145]) ?_
  simp only [argEnv, Tryz.ntmps145, Tryz.results145]
  have hb := Pob.bulk_tot i.obj
  refine AW.rS ?_
  refine AW.seq ?_
  refine AW.rSC ?_
  refine awOps.cons (awGuard.c1 (c_foliantref05_Check _ i.obj h) ?_)
  refine awOps.rn ?_
  refine AW.rS ?_
  refine AW.c2 ?_ ?_
  · intro h7
    refine AW.rS ?_
    refine AW.rt ?_
    rw [content_bad h7]
  · intro h7
    refine AW.skip ?_
    refine AW.seq ?_
    refine AW.rSC ?_
    refine awOps.cons (awGuard.cG (fun hg => c_foliantref19_Hold _ i.obj (by omega)) ?_)
    refine awOps.rn ?_
    refine AW.c2 ?_ ?_
    · intro h16
      refine AW.rS ?_
      refine AW.rt ?_
      rw [content_knd h7 h16]
    · intro h16
      refine AW.skip ?_
      refine AW.rS ?_
      refine AW.rt ?_
      rw [content_fine h7 (by rintro (h' | h'); exact h16.1 h'; rw [h16.2] at h'; cases h')]
theorem c_foliantref19_item (gl : List (Nat × AV)) (i : Itm) (h : i.obj.tot ≤ 16777216) : FnP Tryz.prog (gl) 76 [.agg i.cells] fun r => r = .ret (.int .i64 (aloneE i)) := by
  refine FnP.intro Tryz.func76 rfl rfl (by simp [Tryz.ntmps76]) ?_
  simp only [argEnv, Tryz.ntmps76, Tryz.results76]
  refine AW.rS ?_
  refine AW.seq ?_
  refine AW.rS ?_
  refine AW.c2 ?_ ?_
  · intro h4
    refine AW.rS ?_
    refine AW.rt ?_
    rw [aloneE, if_pos (nums_no h4)]
  · intro h4
    refine AW.skip ?_
    refine AW.rSC ?_
    refine awOps.cons (awGuard.c1 (c_foliantref19_obj _ i h) ?_)
    refine awOps.rn ?_
    refine AW.rt ?_
    rw [aloneE, if_neg (by rw [nums_yes h4]; simp)]
theorem c_foliantref19_Items (gl : List (Nat × AV)) (l : List Itm) (h : itots l ≤ 16777216) : FnP Tryz.prog (gl) 89 [.sl (itemsAV l)] fun r => r = .ret (.int .i64 (itemsE l)) := by
  refine FnP.intro Tryz.func89 rfl rfl (by simp [Tryz.ntmps89]) ?_
  simp only [argEnv, Tryz.ntmps89, Tryz.results89]
  have hlen := itots_len l
  refine AW.rS ?_
  refine AW.seq ?_
  refine AW.rS ?_
  refine AW.block ?_
  refine AW.lk (S := { k : Nat // k ≤ l.length ∧ itemsE l = itemsFrom l k (l.length - k) }) [0, 6, 7] (fun s_ => [(8, .int .i64 s_.1)]) (fun s_ => []) 0 (fun s_ => l.length - s_.1) ⟨0, Nat.zero_le _, rfl⟩ ?_ ?_
  · refine St.le.vw []
  rintro ⟨k, hk, hs⟩
  try dsimp only at hk
  try dsimp only at hs
  refine AW.rS ?_
  refine AW.seq ?_
  refine AW.c2 ?_ ?_
  · intro h8
    have hgb := itots_get (l := l) (i := k) (by omega)
    refine AW.skip ?_
    refine AW.seq ?_
    refine AW.block ?_
    refine AW.rS ?_
    refine AW.seq ?_
    refine AW.rS ?_
    refine AW.c2 ?_ ?_
    · intro h15
      refine AW.rS ?_
      refine AW.rt ?_
      rw [hs, itemsFrom_step h8, if_pos (nums_no h15)]
    · intro h15
      refine AW.skip ?_
      refine AW.seq ?_
      refine AW.dS [(0, 0), (1, 0), (2, 0), (3, 0), (4, 1), (5, 0), (6, 0), (7, 0), (8, 1), (9, 0), (10, 1), (11, 0), (12, 0)] ?_
      refine AW.c2 ?_ ?_
      · intro h22
        refine AW.rS ?_
        refine AW.rt ?_
        rw [hs, itemsFrom_step h8, if_neg (by rw [nums_yes h15]; simp), if_pos (by omega)]
      · intro h22
        refine AW.skip ?_
        refine AW.rSC ?_
        refine awOps.cons (awGuard.c1 (c_foliantref19_obj _ (l.getD k Itm.zero) (by omega)) ?_)
        refine awOps.rn ?_
        refine AW.rS ?_
        refine AW.c2 ?_ ?_
        · intro h31
          refine AW.rS ?_
          refine AW.rt ?_
          rw [hs, itemsFrom_step h8, if_neg (by rw [nums_yes h15]; simp), if_neg (by omega), if_pos h31]
        · intro h31
          refine AW.skip ?_
          refine AW.rL ?_
          refine ⟨⟨k + 1, by omega, by rw [hs, itemsFrom_step (by omega), if_neg (by rw [nums_yes h15]; simp), if_neg (by omega), if_neg (by simpa using h31)]⟩, ?_, ?_⟩
          · refine St.le.vw []
          · simp only []; omega
  · intro h8
    refine AW.exit ?_
    refine AW.rS ?_
    refine AW.rt ?_
    rw [hs, show l.length - k = 0 from by omega, itemsFrom]
theorem c_foliantref19_Get (gl : List (Nat × AV)) (d : Dc) (n : Int) (h : d.bulk ≤ 16777216) : FnP Tryz.prog (gl) 23 [.agg d.cells, .int .i64 n] fun r => r = .ret (.tup [.agg ((lookI d.items n).getD Itm.zero).cells, .bool (lookI d.items n).isSome]) := by
  refine FnP.intro Tryz.func23 rfl rfl (by simp [Tryz.ntmps23]) ?_
  simp only [argEnv, Tryz.ntmps23, Tryz.results23]
  have hlen := ibulk_len d.items
  have hdb : d.bulk = ibulk d.items + d.trailer.bulk := rfl
  refine AW.rS ?_
  refine AW.seq ?_
  refine AW.rS ?_
  refine AW.block ?_
  refine AW.lk (S := { i : Nat // i ≤ d.items.length ∧ ∀ j, j < i → (d.items.getD j Itm.zero).num ≠ n }) [1, 4, 9, 10] (fun s_ => [(11, .int .i64 s_.1)]) (fun s_ => [(0, .cells d.cells), (1, .cells [.int .i64 0, .int .i64 0, .int .i64 0, .int .i64 0, .int .i64 0, .str [], .raw (.slice none 0 0), .raw (.slice none 0 0)])]) 2 (fun s_ => d.items.length - s_.1) ⟨0, Nat.zero_le _, fun j h => absurd h (by omega)⟩ ?_ ?_
  · refine St.le.vw [0, 1]
  rintro ⟨i, hi, hs⟩
  try dsimp only at hi
  try dsimp only at hs
  refine AW.rS ?_
  refine AW.seq ?_
  refine AW.c2 ?_ ?_
  · intro h8
    refine AW.skip ?_
    refine AW.seq ?_
    refine AW.block ?_
    refine AW.rS ?_
    refine AW.rS ?_
    refine AW.c2 ?_ ?_
    · intro h14
      have hix := iidx_hit h8 hs h14
      refine AW.rS ?_
      refine AW.rt ?_
      rw [look_hit (by omega), hix]
      rfl
    · intro h14
      refine AW.skip ?_
      refine AW.rL ?_
      refine ⟨⟨i + 1, by omega, fun j hj => (Nat.lt_or_ge j i).elim (hs j) (fun h => (show j = i by omega) ▸ h14)⟩, ?_, ?_⟩
      · refine St.le.vw [0, 1]
      · simp only []; omega
  · intro h8
    refine AW.exit ?_
    refine AW.rS ?_
    refine AW.rt ?_
    have hix := iidx_miss (l := d.items) (n := n) (fun j hj => hs j (by omega))
    rw [look_miss (by omega)]
    rfl
theorem c_foliantref19_Follow (gl : List (Nat × AV)) (d : Dc) (o : Pob) (h : d.bulk ≤ 16777216) : FnP Tryz.prog (gl) 32 [.agg d.cells, .agg o.cells] fun r => r = .ret (.agg (followO d o).cells) := by
  refine FnP.intro Tryz.func32 rfl rfl (by simp [Tryz.ntmps32]) ?_
  simp only [argEnv, Tryz.ntmps32, Tryz.results32]
  have hlen := ibulk_len d.items
  have hdb : d.bulk = ibulk d.items + d.trailer.bulk := rfl
  refine AW.rS ?_
  refine AW.seq ?_
  refine AW.rS ?_
  refine AW.c2 ?_ ?_
  · intro h4
    refine AW.rS ?_
    refine AW.rt ?_
    rw [followO, if_pos h4]
  · intro h4
    refine AW.skip ?_
    refine AW.seq ?_
    refine AW.rS ?_
    refine AW.block ?_
    refine AW.lk (S := { i : Nat // i ≤ d.items.length ∧ ∀ j, j < i → (d.items.getD j Itm.zero).num ≠ o.num }) [3, 4, 12, 13] (fun s_ => [(14, .int .i64 s_.1)]) (fun s_ => [(0, .cells d.cells), (1, .cells o.cells), (2, .cells [.int .i64 0, .int .i64 0, .int .i64 0, .str [], .raw (.slice none 0 0), .raw (.slice none 0 0)])]) 3 (fun s_ => d.items.length - s_.1) ⟨0, Nat.zero_le _, fun j h => absurd h (by omega)⟩ ?_ ?_
    · refine St.le.vw [0, 1, 2]
    rintro ⟨i, hi, hs⟩
    try dsimp only at hi
    try dsimp only at hs
    refine AW.rS ?_
    refine AW.seq ?_
    refine AW.c2 ?_ ?_
    · intro h15
      refine AW.skip ?_
      refine AW.seq ?_
      refine AW.block ?_
      refine AW.rS ?_
      refine AW.rS ?_
      refine AW.c2 ?_ ?_
      · intro h21
        have hix := iidx_hit h15 hs h21
        refine AW.seq ?_
        refine AW.rS ?_
        refine AW.c2 ?_ ?_
        · intro h24
          refine AW.rS ?_
          refine AW.rt ?_
          rw [followO, if_neg (by simp [h4]), if_neg (by omega), hix]
          rw [if_pos (by simpa using h24)]
          rfl
        · intro h24
          refine AW.skip ?_
          refine AW.rS ?_
          refine AW.rt ?_
          rw [followO, if_neg (by simp [h4]), if_neg (by omega), hix]
          rw [if_neg (by simpa using h24)]
          rfl
      · intro h21
        refine AW.skip ?_
        refine AW.rL ?_
        refine ⟨⟨i + 1, by omega, fun j hj => (Nat.lt_or_ge j i).elim (hs j) (fun h => (show j = i by omega) ▸ h21)⟩, ?_, ?_⟩
        · refine St.le.vw [0, 1, 2]
        · simp only []; omega
    · intro h15
      refine AW.exit ?_
      refine AW.rS ?_
      refine AW.rt ?_
      have hix := iidx_miss (l := d.items) (n := o.num) (fun j hj => hs j (by omega))
      rw [followO, if_neg (by simp [h4]), if_pos (by omega)]
      rfl
theorem c_foliantref19_Path (gl : List (Nat × AV)) (d : Dc) (o : Pob) (ks : List (List UInt8)) (h : d.bulk ≤ 16777216) (ho : o.bulk ≤ 16777216) (hk : ks.length ≤ 16777216) : FnP Tryz.prog (gl) 34 [.agg d.cells, .agg o.cells, .sl (strsAV ks)] fun r => r = .ret (.agg (pathO d o ks).cells) := by
  refine FnP.intro Tryz.func34 rfl rfl (by simp [Tryz.ntmps34]) ?_
  simp only [argEnv, Tryz.ntmps34, Tryz.results34]
  refine AW.rS ?_
  refine AW.rSC ?_
  refine awOps.cons (awGuard.c1 (c_foliantref19_Follow _ d o h) ?_)
  refine awOps.rn ?_
  refine AW.seq ?_
  refine AW.rS ?_
  refine AW.block ?_
  refine AW.lk (S := { p : Nat × Pob // p.1 ≤ ks.length ∧ p.2.bulk ≤ 16777216 ∧ pathO d o ks = pathL d p.2 (ks.drop p.1) }) [3, 4, 6, 14, 15] (fun s_ => [(16, .int .i64 s_.1.1)]) (fun s_ => [(0, .cells d.cells), (1, .cells [.int .i64 s_.1.2.kind, .int .i64 s_.1.2.num, .int .i64 s_.1.2.gen, .str s_.1.2.str, .sl (strsAV s_.1.2.keys), .sl (objsAV s_.1.2.kids)]), (2, .cells [.int .i64 0, .int .i64 0, .int .i64 0, .str [], .raw (.slice none 0 0), .raw (.slice none 0 0)])]) 3 (fun s_ => ks.length - s_.1.1) ⟨(0, followO d o), Nat.zero_le _, follow_bulk h ho, rfl⟩ ?_ ?_
  · refine St.le.vw [0, 1, 2]
  rintro ⟨⟨i, q⟩, hi, hq, hs⟩
  try dsimp only at hi
  try dsimp only at hq
  try dsimp only at hs
  refine AW.rS ?_
  refine AW.seq ?_
  refine AW.c2 ?_ ?_
  · intro h11
    have hgb := get_bulk q (ks.getD i [])
    refine AW.skip ?_
    refine AW.seq ?_
    refine AW.block ?_
    refine AW.rS ?_
    refine AW.rSC ?_
    refine awOps.cons (awGuard.c1 (c_foliantref05_Get _ q (ks.getD i []) hq) ?_)
    refine awOps.rn ?_
    refine AW.seq ?_
    refine AW.rS ?_
    refine AW.c2 ?_ ?_
    · intro h21
      refine AW.rS ?_
      refine AW.rt ?_
      rw [hs, pathL_drop h11, if_pos (by simpa using h21)]
      rfl
    · intro h21
      refine AW.skip ?_
      refine AW.rLC ?_
      refine awOps.cons (awGuard.c1 (c_foliantref19_Follow _ d (getO q (ks.getD i [])) h) ?_)
      refine awOps.rn ?_
      refine AW.rL ?_
      refine ⟨⟨(i + 1, followO d (getO q (ks.getD i []))), by dsimp only; omega, follow_bulk h (by omega), by rw [hs, pathL_drop h11, if_neg (by rw [h21]; simp)]⟩, ?_, ?_⟩
      · refine St.le.vw [0, 1, 2]
      · simp only []; omega
  · intro h11
    refine AW.exit ?_
    refine AW.rS ?_
    refine AW.rt ?_
    rw [hs, pathL_end (by omega)]
theorem c_foliantref19_trail (gl : List (Nat × AV)) (d : Dc) (h : d.tot ≤ 16777216) : FnP Tryz.prog (gl) 90 [.agg d.cells] fun r => r = .ret (.int .i64 (trailE d)) := by
  refine FnP.intro Tryz.func90 rfl rfl (by simp [Tryz.ntmps90]) ?_
  simp only [argEnv, Tryz.ntmps90, Tryz.results90]
  have h0 := Dc.bulk_tot d
  have h1 : d.tot = itots d.items + d.trailer.tot := rfl
  have h2 := Pob.bulk_tot d.trailer
  have hkb := Pob.bulk_eq d.trailer
  have hrb := get_bulk d.trailer rootK
  refine AW.rS ?_
  refine AW.rS ?_
  refine AW.seq ?_
  refine AW.rSC ?_
  refine awOps.cons (awGuard.c1 (c_foliantref05_Check _ d.trailer (by omega)) ?_)
  refine awOps.rn ?_
  refine AW.rS ?_
  refine AW.c2 ?_ ?_
  · intro h8
    refine AW.rS ?_
    refine AW.rt ?_
    · rw [trail_bad h8]
    all_goals first | contradiction | rfl | (simp; done) | (simp; omega)
  · intro h8
    refine AW.skip ?_
    refine AW.seq ?_
    refine AW.rS ?_
    refine AW.c2 ?_ ?_
    · intro h15
      refine AW.rS ?_
      refine AW.rt ?_
      rw [trail_kind h8 h15]
    · intro h15
      refine AW.skip ?_
      refine AW.seq ?_
      refine AW.rS ?_
      refine AW.block ?_
      refine AW.lk (S := { i : Nat // i ≤ d.trailer.keys.length ∧ ∀ j, j < i → 0 ≤ kidxI trailK (d.trailer.keys.getD j []) }) [1, 3, 20, 21] (fun s_ => [(22, .int .i64 s_.1)]) (fun s_ => [(0, .cells d.cells), (1, .cells d.trailer.cells)]) 2 (fun s_ => d.trailer.keys.length - s_.1) ⟨0, Nat.zero_le _, fun j h => absurd h (by omega)⟩ ?_ ?_
      · refine St.le.vw [0, 1]
      rintro ⟨i, hi, hs⟩
      try dsimp only at hi
      try dsimp only at hs
      refine AW.rS ?_
      refine AW.seq ?_
      refine AW.c2 ?_ ?_
      · intro h26
        refine AW.skip ?_
        refine AW.seq ?_
        refine AW.block ?_
        refine AW.rS ?_
        refine AW.rS ?_
        refine AW.c2 ?_ ?_
        · intro h32
          refine AW.rS ?_
          refine AW.rt ?_
          rw [trail_key h8 h15 (fun hh => by have := (trail_idx _).1 (hh i h26); rcases this with e | e | e; exact h32.1.1 e; exact h32.1.2 e; exact h32.2 e)]
        · intro h32
          have hkx : 0 ≤ kidxI trailK (d.trailer.keys.getD i []) := (trail_idx _).2 (by rcases h32 with (e | e) | e; exact .inl e; exact .inr (.inl e); exact .inr (.inr e))
          refine AW.skip ?_
          refine AW.rL ?_
          refine ⟨⟨i + 1, by omega, fun j hj => (Nat.lt_or_ge j i).elim (hs j) (fun h => (show j = i by omega) ▸ hkx)⟩, ?_, ?_⟩
          · refine St.le.vw [0, 1]
          · simp only []; omega
      · intro h26
        refine AW.exit ?_
        have htk : trailOk d.trailer.keys := fun j hj => hs j (by omega)
        refine AW.rSC ?_
        refine awOps.cons (awGuard.c1 (c_foliantref05_Get _ d.trailer rootK (by omega)) ?_)
        refine awOps.rn ?_
        refine AW.seq ?_
        refine AW.rSC ?_
        refine awOps.cons (awGuard.cG (fun hg => c_foliantref19_Follow _ d (getO d.trailer rootK) (by omega)) ?_)
        refine awOps.rn ?_
        refine AW.c2 ?_ ?_
        · intro h47
          refine AW.rS ?_
          refine AW.rt ?_
          rw [trail_root h8 h15 htk, if_pos h47]
        · intro h47
          refine AW.skip ?_
          refine AW.rS ?_
          refine AW.rt ?_
          rw [trail_root h8 h15 htk, if_neg (by simp [h47])]
theorem c_foliantref19_Check (gl : List (Nat × AV)) (d : Dc) (h : d.tot ≤ 16777216) : FnP Tryz.prog (gl) 28 [.agg d.cells] fun r => r = .ret (.int .i64 (docE d)) := by
  refine FnP.intro Tryz.func28 rfl rfl (by simp [Tryz.ntmps28]) ?_
  simp only [argEnv, Tryz.ntmps28, Tryz.results28]
  have h1 : d.tot = itots d.items + d.trailer.tot := rfl
  refine AW.rS ?_
  refine AW.seq ?_
  refine AW.rSC ?_
  refine awOps.cons (awGuard.c1 (c_foliantref19_Items _ d.items (by omega)) ?_)
  refine awOps.rn ?_
  refine AW.rS ?_
  refine AW.c2 ?_ ?_
  · intro h7
    refine AW.rS ?_
    refine AW.rt ?_
    rw [doc_bad h7]
  · intro h7
    refine AW.skip ?_
    refine AW.rSC ?_
    refine awOps.cons (awGuard.c1 (c_foliantref19_trail _ d h) ?_)
    refine awOps.rn ?_
    refine AW.rt ?_
    rw [doc_trail h7]
end Go.Proofs
