/- A part of the proof: no condition of its own. -/
import Derived.Test.YtldekaaiippfkaaGreatPart4
import Derived.Shelf.Strings.Search1
namespace Go.Proofs
open Go Aw
set_option linter.unusedSimpArgs false
set_option linter.unusedVariables false
set_option maxRecDepth 100000
set_option maxHeartbeats 2000000
attribute [local go_sem] take_strsAV app1_strsAV take_intsAV drop_intsAV app_intsAV app1_intsAV take_objsAV drop_objsAV app_objsAV app1_objsAV
theorem c_foliantref19_Hold (gl : List (Nat × AV)) (o : Pob) (h : o.bulk ≤ 16777216) : FnP Tryz.prog (gl) 105 [.agg o.cells] fun r => r = .ret (.bool (holdsB o)) := by
 refine FnP.intro Tryz.func105 rfl rfl (by simp [Tryz.ntmps105]) ?_
 simp only [argEnv, Tryz.ntmps105, Tryz.results105]
 refine AW.rS ?_
 refine AW.rSC ?_
 refine awOps.cons (awGuard.c1 (c_foliantref05_Get _ o typeK h) ?_)
 refine awOps.rn ?_
 refine AW.rS ?_
 refine AW.rt ?_
 rw [hold_ref]
 simp [Bool.cond_false_right, Bool.and_assoc]
theorem c_foliantref19_obj (gl : List (Nat × AV)) (i : Itm) (h : i.obj.tot ≤ 16777216) : FnP Tryz.prog (gl) 76 [.agg i.cells] fun r => r = .ret (.int .i64 (contentE i)) := by
 refine FnP.intro Tryz.func76 rfl rfl (by simp [Tryz.ntmps76]) ?_
 simp only [argEnv, Tryz.ntmps76, Tryz.results76]
 have hb := Pob.bulk_tot i.obj
 refine AW.rS ?_
 refine AW.seq ?_
 refine AW.rSC ?_
 refine awOps.cons (awGuard.c1 (c_foliantref05_Check _ i.obj h) ?_)
 refine awOps.rn ?_
 refine AW.rS ?_
 refine AW.c2 ?_ ?_
 ·intro h7
  refine AW.rS ?_
  refine AW.rt ?_
  rw [content_bad h7]
 ·intro h7
  refine AW.skip ?_
  refine AW.seq ?_
  refine AW.rSC ?_
  refine awOps.cons (awGuard.cG (fun hg => c_foliantref19_Hold _ i.obj (by omega)) ?_)
  refine awOps.rn ?_
  refine AW.c2 ?_ ?_
  ·intro h16
   refine AW.rS ?_
   refine AW.rt ?_
   rw [content_knd h7 h16]
  ·intro h16
   refine AW.skip ?_
   refine AW.rS ?_
   refine AW.rt ?_
   rw [content_fine h7 (by rintro (h' | h'); exact h16.1 h'; rw [h16.2] at h'; cases h')]
theorem c_foliantref19_Items (gl : List (Nat × AV)) (l : List Itm) (h : itots l ≤ 16777216) : FnP Tryz.prog (gl) 51 [.sl (itemsAV l)] fun r => r = .ret (.int .i64 (itemsE l)) := by
 refine FnP.intro Tryz.func51 rfl rfl (by simp [Tryz.ntmps51]) ?_
 simp only [argEnv, Tryz.ntmps51, Tryz.results51]
 have hlen := itots_len l
 refine AW.rS ?_
 refine AW.seq ?_
 refine AW.rS ?_
 refine AW.block ?_
 refine AW.lk (S := { k : Nat // k ≤ l.length ∧ itemsE l = itemsFrom l k (l.length - k) }) [0, 6, 7] (fun s_ => [(8, .int .i64 s_.1)]) (fun s_ => []) 0 (fun s_ => l.length - s_.1) ⟨0, Nat.zero_le _, rfl⟩ ?_ ?_
 ·refine St.le.vw []
 rintro ⟨k, hk, hs⟩
 try dsimp only at hk
 try dsimp only at hs
 refine AW.rS ?_
 refine AW.seq ?_
 refine AW.c2 ?_ ?_
 ·intro h8
  have hgb := itots_get (l := l) (i := k) (by omega)
  refine AW.skip ?_
  refine AW.seq ?_
  refine AW.block ?_
  refine AW.rS ?_
  refine AW.seq ?_
  refine AW.rS ?_
  refine AW.c2 ?_ ?_
  ·intro h15
   refine AW.rS ?_
   refine AW.rt ?_
   rw [hs, itemsFrom_step h8, if_pos (nums_no h15)]
  ·intro h15
   refine AW.skip ?_
   refine AW.seq ?_
   refine AW.dS [(0, 0), (1, 0), (2, 0), (3, 0), (4, 1), (5, 0), (6, 0), (7, 0), (8, 1), (9, 0), (10, 1), (11, 0), (12, 0)] ?_
   refine AW.c2 ?_ ?_
   ·intro h22
    refine AW.rS ?_
    refine AW.rt ?_
    rw [hs, itemsFrom_step h8, if_neg (by rw [nums_yes h15]; simp), if_pos (by omega)]
   ·intro h22
    refine AW.skip ?_
    refine AW.rSC ?_
    refine awOps.cons (awGuard.c1 (c_foliantref19_obj _ (l.getD k Itm.zero) (by omega)) ?_)
    refine awOps.rn ?_
    refine AW.rS ?_
    refine AW.c2 ?_ ?_
    ·intro h31
     refine AW.rS ?_
     refine AW.rt ?_
     rw [hs, itemsFrom_step h8, if_neg (by rw [nums_yes h15]; simp), if_neg (by omega), if_pos h31]
    ·intro h31
     refine AW.skip ?_
     refine AW.rL ?_
     refine ⟨⟨k + 1, by omega, by rw [hs, itemsFrom_step (by omega), if_neg (by rw [nums_yes h15]; simp), if_neg (by omega), if_neg (by simpa using h31)]⟩, ?_, ?_⟩
     ·refine St.le.vw []
     ·simp only []; omega
 ·intro h8
  refine AW.exit ?_
  refine AW.rS ?_
  refine AW.rt ?_
  rw [hs, show l.length - k = 0 from by omega, itemsFrom]
theorem c_foliantref19_Get (gl : List (Nat × AV)) (d : Dc) (n : Int) (h : d.bulk ≤ 16777216) : FnP Tryz.prog (gl) 23 [.agg d.cells, .int .i64 n] fun r => r = .ret (.tup [.agg ((lookI d.items n).getD Itm.zero).cells, .bool (lookI d.items n).isSome]) := by
 refine FnP.intro Tryz.func23 rfl rfl (by simp [Tryz.ntmps23]) ?_
 simp only [argEnv, Tryz.ntmps23, Tryz.results23]
 have hlen := ibulk_len d.items
 have hdb : d.bulk = ibulk d.items + d.trailer.bulk := rfl
 refine AW.rS ?_
 refine AW.seq ?_
 refine AW.rS ?_
 refine AW.block ?_
 refine AW.lk (S := { i : Nat // i ≤ d.items.length ∧ ∀ j, j < i → (d.items.getD j Itm.zero).num ≠ n }) [1, 4, 9, 10] (fun s_ => [(11, .int .i64 s_.1)]) (fun s_ => [(0, .cells d.cells), (1, .cells [.int .i64 0, .int .i64 0, .int .i64 0, .int .i64 0, .int .i64 0, .str [], .raw (.slice none 0 0), .raw (.slice none 0 0)])]) 2 (fun s_ => d.items.length - s_.1) ⟨0, Nat.zero_le _, fun j h => absurd h (by omega)⟩ ?_ ?_
 ·refine St.le.vw [0, 1]
 rintro ⟨i, hi, hs⟩
 try dsimp only at hi
 try dsimp only at hs
 refine AW.rS ?_
 refine AW.seq ?_
 refine AW.c2 ?_ ?_
 ·intro h8
  refine AW.skip ?_
  refine AW.seq ?_
  refine AW.block ?_
  refine AW.rS ?_
  refine AW.rS ?_
  refine AW.c2 ?_ ?_
  ·intro h14
   have hix := iidx_hit h8 hs h14
   refine AW.rS ?_
   refine AW.rt ?_
   rw [look_hit (by omega), hix]
   rfl
  ·intro h14
   refine AW.skip ?_
   refine AW.rL ?_
   refine ⟨⟨i + 1, by omega, fun j hj => (Nat.lt_or_ge j i).elim (hs j) (fun h => (show j = i by omega) ▸ h14)⟩, ?_, ?_⟩
   ·refine St.le.vw [0, 1]
   ·simp only []; omega
 ·intro h8
  refine AW.exit ?_
  refine AW.rS ?_
  refine AW.rt ?_
  have hix := iidx_miss (l := d.items) (n := n) (fun j hj => hs j (by omega))
  rw [look_miss (by omega)]
  rfl
theorem c_foliantref19_Follow (gl : List (Nat × AV)) (d : Dc) (o : Pob) (h : d.bulk ≤ 16777216) : FnP Tryz.prog (gl) 78 [.agg d.cells, .agg o.cells] fun r => r = .ret (.agg (followO d o).cells) := by
 refine FnP.intro Tryz.func78 rfl rfl (by simp [Tryz.ntmps78]) ?_
 simp only [argEnv, Tryz.ntmps78, Tryz.results78]
 have hlen := ibulk_len d.items
 have hdb : d.bulk = ibulk d.items + d.trailer.bulk := rfl
 refine AW.rS ?_
 refine AW.seq ?_
 refine AW.rS ?_
 refine AW.c2 ?_ ?_
 ·intro h4
  refine AW.rS ?_
  refine AW.rt ?_
  rw [followO, if_pos h4]
 ·intro h4
  refine AW.skip ?_
  refine AW.seq ?_
  refine AW.rS ?_
  refine AW.block ?_
  refine AW.lk (S := { i : Nat // i ≤ d.items.length ∧ ∀ j, j < i → (d.items.getD j Itm.zero).num ≠ o.num }) [3, 4, 12, 13] (fun s_ => [(14, .int .i64 s_.1)]) (fun s_ => [(0, .cells d.cells), (1, .cells o.cells), (2, .cells [.int .i64 0, .int .i64 0, .int .i64 0, .str [], .raw (.slice none 0 0), .raw (.slice none 0 0)])]) 3 (fun s_ => d.items.length - s_.1) ⟨0, Nat.zero_le _, fun j h => absurd h (by omega)⟩ ?_ ?_
  ·refine St.le.vw [0, 1, 2]
  rintro ⟨i, hi, hs⟩
  try dsimp only at hi
  try dsimp only at hs
  refine AW.rS ?_
  refine AW.seq ?_
  refine AW.c2 ?_ ?_
  ·intro h15
   refine AW.skip ?_
   refine AW.seq ?_
   refine AW.block ?_
   refine AW.rS ?_
   refine AW.rS ?_
   refine AW.c2 ?_ ?_
   ·intro h21
    have hix := iidx_hit h15 hs h21
    refine AW.seq ?_
    refine AW.rS ?_
    refine AW.c2 ?_ ?_
    ·intro h24
     refine AW.rS ?_
     refine AW.rt ?_
     rw [followO, if_neg (by simp [h4]), if_neg (by omega), hix]
     rw [if_pos (by simpa using h24)]
     rfl
    ·intro h24
     refine AW.skip ?_
     refine AW.rS ?_
     refine AW.rt ?_
     rw [followO, if_neg (by simp [h4]), if_neg (by omega), hix]
     rw [if_neg (by simpa using h24)]
     rfl
   ·intro h21
    refine AW.skip ?_
    refine AW.rL ?_
    refine ⟨⟨i + 1, by omega, fun j hj => (Nat.lt_or_ge j i).elim (hs j) (fun h => (show j = i by omega) ▸ h21)⟩, ?_, ?_⟩
    ·refine St.le.vw [0, 1, 2]
    ·simp only []; omega
  ·intro h15
   refine AW.exit ?_
   refine AW.rS ?_
   refine AW.rt ?_
   have hix := iidx_miss (l := d.items) (n := o.num) (fun j hj => hs j (by omega))
   rw [followO, if_neg (by simp [h4]), if_pos (by omega)]
   rfl
theorem c_foliantref19_trail (gl : List (Nat × AV)) (d : Dc) (h : d.tot ≤ 16777216) : FnP Tryz.prog (gl) 52 [.agg d.cells] fun r => r = .ret (.int .i64 (trailE d)) := by
 refine FnP.intro Tryz.func52 rfl rfl (by simp [Tryz.ntmps52]) ?_
 simp only [argEnv, Tryz.ntmps52, Tryz.results52]
 have h0 := Dc.bulk_tot d
 have h1 : d.tot = itots d.items + d.trailer.tot := rfl
 have h2 := Pob.bulk_tot d.trailer
 have hkb := Pob.bulk_eq d.trailer
 have hrb := get_bulk d.trailer rootK
 refine AW.rS ?_
 refine AW.rS ?_
 refine AW.seq ?_
 refine AW.rSC ?_
 refine awOps.cons (awGuard.c1 (c_foliantref05_Check _ d.trailer (by omega)) ?_)
 refine awOps.rn ?_
 refine AW.rS ?_
 refine AW.c2 ?_ ?_
 ·intro h8
  refine AW.rS ?_
  refine AW.rt ?_
  ·rw [trail_bad h8]
  all_goals first | contradiction | rfl | (simp; done) | (simp; omega)
 ·intro h8
  refine AW.skip ?_
  refine AW.seq ?_
  refine AW.rS ?_
  refine AW.c2 ?_ ?_
  ·intro h15
   refine AW.rS ?_
   refine AW.rt ?_
   rw [trail_kind h8 h15]
  ·intro h15
   refine AW.skip ?_
   refine AW.seq ?_
   refine AW.rS ?_
   refine AW.block ?_
   refine AW.lk (S := { i : Nat // i ≤ d.trailer.keys.length ∧ ∀ j, j < i → 0 ≤ kidxI trailK (d.trailer.keys.getD j []) }) [1, 3, 20, 21] (fun s_ => [(22, .int .i64 s_.1)]) (fun s_ => [(0, .cells d.cells), (1, .cells d.trailer.cells)]) 2 (fun s_ => d.trailer.keys.length - s_.1) ⟨0, Nat.zero_le _, fun j h => absurd h (by omega)⟩ ?_ ?_
   ·refine St.le.vw [0, 1]
   rintro ⟨i, hi, hs⟩
   try dsimp only at hi
   try dsimp only at hs
   refine AW.rS ?_
   refine AW.seq ?_
   refine AW.c2 ?_ ?_
   ·intro h26
    refine AW.skip ?_
    refine AW.seq ?_
    refine AW.block ?_
    refine AW.rS ?_
    refine AW.rS ?_
    refine AW.c2 ?_ ?_
    ·intro h32
     refine AW.rS ?_
     refine AW.rt ?_
     rw [trail_key h8 h15 (fun hh => by have := (trail_idx _).1 (hh i h26); rcases this with e | e | e; exact h32.1.1 e; exact h32.1.2 e; exact h32.2 e)]
    ·intro h32
     have hkx : 0 ≤ kidxI trailK (d.trailer.keys.getD i []) := (trail_idx _).2 (by rcases h32 with (e | e) | e; exact .inl e; exact .inr (.inl e); exact .inr (.inr e))
     refine AW.skip ?_
     refine AW.rL ?_
     refine ⟨⟨i + 1, by omega, fun j hj => (Nat.lt_or_ge j i).elim (hs j) (fun h => (show j = i by omega) ▸ hkx)⟩, ?_, ?_⟩
     ·refine St.le.vw [0, 1]
     ·simp only []; omega
   ·intro h26
    refine AW.exit ?_
    have htk : trailOk d.trailer.keys := fun j hj => hs j (by omega)
    refine AW.rSC ?_
    refine awOps.cons (awGuard.c1 (c_foliantref05_Get _ d.trailer rootK (by omega)) ?_)
    refine awOps.rn ?_
    refine AW.seq ?_
    refine AW.rSC ?_
    refine awOps.cons (awGuard.cG (fun hg => c_foliantref19_Follow _ d (getO d.trailer rootK) (by omega)) ?_)
    refine awOps.rn ?_
    refine AW.c2 ?_ ?_
    ·intro h47
     refine AW.rS ?_
     refine AW.rt ?_
     rw [trail_root h8 h15 htk, if_pos h47]
    ·intro h47
     refine AW.skip ?_
     refine AW.rS ?_
     refine AW.rt ?_
     rw [trail_root h8 h15 htk, if_neg (by simp [h47])]
theorem c_foliantref19_Check (gl : List (Nat × AV)) (d : Dc) (h : d.tot ≤ 16777216) : FnP Tryz.prog (gl) 20 [.agg d.cells] fun r => r = .ret (.int .i64 (docE d)) := by
 refine FnP.intro Tryz.func20 rfl rfl (by simp [Tryz.ntmps20]) ?_
 simp only [argEnv, Tryz.ntmps20, Tryz.results20]
 have h1 : d.tot = itots d.items + d.trailer.tot := rfl
 refine AW.rS ?_
 refine AW.seq ?_
 refine AW.rSC ?_
 refine awOps.cons (awGuard.c1 (c_foliantref19_Items _ d.items (by omega)) ?_)
 refine awOps.rn ?_
 refine AW.rS ?_
 refine AW.c2 ?_ ?_
 ·intro h7
  refine AW.rS ?_
  refine AW.rt ?_
  rw [doc_bad h7]
 ·intro h7
  refine AW.skip ?_
  refine AW.rSC ?_
  refine awOps.cons (awGuard.c1 (c_foliantref19_trail _ d h) ?_)
  refine awOps.rn ?_
  refine AW.rt ?_
  rw [doc_trail h7]
end Go.Proofs

namespace Go.Proofs
open Go Aw
set_option linter.unusedSimpArgs false
set_option linter.unusedVariables false
set_option maxRecDepth 100000
set_option maxHeartbeats 2000000
attribute [local go_sem] take_strsAV app1_strsAV take_intsAV drop_intsAV app_intsAV app1_intsAV take_objsAV drop_objsAV app_objsAV app1_objsAV
theorem app1_itemsAV (a : List Itm) (i : Itm) : itemsAV a ++ [[.int .i64 i.num, .int .i64 i.gen, .int .i64 i.obj.kind, .int .i64 i.obj.num, .int .i64 i.obj.gen, .str i.obj.str, .sl (strsAV i.obj.keys), .sl (objsAV i.obj.kids)]] = itemsAV (a ++ [i]) := by
 simp only [itemsAV, List.map_append, List.map_cons, List.map_nil]
 rfl
attribute [local go_sem] take_itemsAV app_itemsAV app1_itemsAV
theorem c_foliantref19_SameItems (gl : List (Nat × AV)) (a b : List Itm) (ha : ibulk a ≤ 16777216) : FnP Tryz.prog (gl) 49 [.sl (itemsAV a), .sl (itemsAV b)] fun r => r = .ret (.bool (decide (a = b))) := by
 refine FnP.intro Tryz.func49 rfl rfl (by simp [Tryz.ntmps49]) ?_
 simp only [argEnv, Tryz.ntmps49, Tryz.results49]
 have hla := ibulk_len a
 refine AW.rS ?_
 refine AW.seq ?_
 refine AW.rS ?_
 refine AW.c2 ?_ ?_
 ·intro h4
  refine AW.rS ?_
  refine AW.rt ?_
  rw [decide_eq_false (fun e => h4 (by rw [e]))]
 ·intro h4
  refine AW.skip ?_
  refine AW.seq ?_
  refine AW.rS ?_
  refine AW.block ?_
  refine AW.lk (S := { i : Nat // i ≤ a.length ∧ a.take i = b.take i }) [0, 1, 12] (fun s_ => [(13, .int .i64 s_.1)]) (fun s_ => []) 0 (fun s_ => a.length - s_.1) ⟨0, Nat.zero_le _, rfl⟩ ?_ ?_
  ·refine St.le.vw []
  rintro ⟨i, hi, hs⟩
  try dsimp only at hi
  try dsimp only at hs
  refine AW.rS ?_
  refine AW.seq ?_
  refine AW.c2 ?_ ?_
  ·intro h15
   have hga := ibulk_get (l := a) (i := i) (by omega)
   refine AW.skip ?_
   refine AW.seq ?_
   refine AW.block ?_
   refine AW.rS ?_
   refine AW.fS [0, 1, 2, 3, 4, 5, 6, 7, 8, 9] [] ?_
   refine awFun.rn ?_
   refine awFun.c1 [19, 23] (c_foliantref19_SameItem _ (a.getD i Itm.zero) (b.getD i Itm.zero) (by omega)) ?_
   refine awFun.rn ?_
   rw [Aw.awFun_nil, Aw.awPlan_nil]
   refine AW.c2 ?_ ?_
   ·intro h25
    refine AW.rS ?_
    refine AW.rt ?_
    rw [decide_eq_false (fun e => h25 (by rw [e]))]
   ·intro h25
    refine AW.skip ?_
    refine AW.rL ?_
    refine ⟨⟨i + 1, by omega, takeItm_succ h15 (by omega) hs h25⟩, ?_, ?_⟩
    ·refine St.le.vw []
    ·simp only []; omega
  ·intro h15
   refine AW.exit ?_
   refine AW.rS ?_
   refine AW.rt ?_
   rw [List.take_of_length_le (by omega), List.take_of_length_le (by omega)] at hs
   simp [hs]
theorem c_foliantref19_Same (gl : List (Nat × AV)) (a b : Dc) (h : a.bulk ≤ 16777216) : FnP Tryz.prog (gl) 16 [.agg a.cells, .agg b.cells] fun r => r = .ret (.bool (decide (a = b))) := by
 refine FnP.intro Tryz.func16 rfl rfl (by simp [Tryz.ntmps16]) ?_
 simp only [argEnv, Tryz.ntmps16, Tryz.results16]
 simp only [Dc.bulk] at h
 refine AW.rS ?_
 refine AW.rSC ?_
 refine awOps.cons (awGuard.c1 (c_foliantref19_SameItems _ a.items b.items (by omega)) ?_)
 refine awOps.rn ?_
 refine awOps.cons (awGuard.cG (fun hg => c_foliantref05_Same _ a.trailer b.trailer (by omega)) ?_)
 refine awOps.rn ?_
 refine AW.rt ?_
 rw [show ∀ x y : Bool, x = y → AE.ret (.bool x) = AE.ret (.bool y) from fun _ _ h => by rw [h]]
 rw [Bool.eq_iff_iff]
 simp only [decide_eq_true_eq, Bool.cond_false_right, Bool.and_eq_true, Dc_eq a b]
end Go.Proofs

namespace Go.Proofs
open Go Aw
set_option linter.unusedSimpArgs false
set_option linter.unusedVariables false
set_option maxRecDepth 100000
set_option maxHeartbeats 1000000
attribute [local go_sem ↓ high] noTBm_net
attribute [local go_sem] mres netL_nil
end Go.Proofs

namespace Go.Proofs
open Go Aw
set_option linter.unusedSimpArgs false
set_option linter.unusedVariables false
set_option maxRecDepth 100000
set_option maxHeartbeats 1000000
attribute [local go_sem ↓ high] noTBm_net
attribute [local go_sem] mres netL_nil
end Go.Proofs

namespace Go.Proofs
open Go Aw
set_option linter.unusedSimpArgs false
set_option linter.unusedVariables false
set_option maxRecDepth 100000
set_option maxHeartbeats 2000000
attribute [local go_sem] take_strsAV app1_strsAV take_intsAV drop_intsAV app_intsAV app1_intsAV take_objsAV drop_objsAV app_objsAV app1_objsAV
theorem kidR_zero (l : List Pob) (s : List Int) : kidR (l.take 0) s = s := rfl
theorem intsAV_one (n : Int) : intsAV [n] = [[.int .i64 n]] := rfl
attribute [local go_sem] kidR_zero intsAV_one
end Go.Proofs

namespace Go.Proofs
open Go Aw
set_option linter.unusedSimpArgs false
set_option linter.unusedVariables false
set_option maxRecDepth 100000
set_option maxHeartbeats 2000000
attribute [local go_sem] take_strsAV app1_strsAV take_intsAV drop_intsAV app_intsAV app1_intsAV take_objsAV drop_objsAV app_objsAV app1_objsAV
theorem c_foliantref29_Leads (gl : List (Nat × AV)) (d : Dc) (o : Pob) (h : d.bulk ≤ 16777216) : FnP Tryz.prog (gl) 55 [.agg d.cells, .agg o.cells] fun r => r = .ret (.tup [.agg ((leadR d.items o).getD Itm.zero).cells, .bool (leadR d.items o).isSome]) := by
 refine FnP.intro Tryz.func55 rfl rfl (by simp [Tryz.ntmps55]) ?_
 simp only [argEnv, Tryz.ntmps55, Tryz.results55]
 have hlen := ibulk_len d.items
 have hdb : d.bulk = ibulk d.items + d.trailer.bulk := rfl
 refine AW.rS ?_
 refine AW.seq ?_
 refine AW.rS ?_
 refine AW.block ?_
 refine AW.lk (S := { i : Nat // i ≤ d.items.length ∧ ∀ j, j < i → ¬ ((d.items.getD j Itm.zero).num = o.num ∧ (d.items.getD j Itm.zero).gen = o.gen) }) [3, 4, 9, 10] (fun s_ => [(11, .int .i64 s_.1)]) (fun s_ => [(0, .cells d.cells), (1, .cells o.cells), (2, .cells [.int .i64 0, .int .i64 0, .int .i64 0, .int .i64 0, .int .i64 0, .str [], .raw (.slice none 0 0), .raw (.slice none 0 0)])]) 3 (fun s_ => d.items.length - s_.1) ⟨0, Nat.zero_le _, fun j h => absurd h (by omega)⟩ ?_ ?_
 ·refine St.le.vw [0, 1, 2]
 rintro ⟨i, hi, hs⟩
 try dsimp only at hi
 try dsimp only at hs
 refine AW.rS ?_
 refine AW.seq ?_
 refine AW.c2 ?_ ?_
 ·intro h8
  refine AW.skip ?_
  refine AW.seq ?_
  refine AW.block ?_
  refine AW.rS ?_
  refine AW.rS ?_
  refine AW.c2 ?_ ?_
  ·intro h14
   have hix := leadR_hit (l := d.items) (r := o) h8 hs (by simpa using h14)
   refine AW.rS ?_
   refine AW.rt ?_
   rw [hix]
   rfl
  ·intro h14
   refine AW.skip ?_
   refine AW.rL ?_
   refine ⟨⟨i + 1, by omega, fun j hj => (Nat.lt_or_ge j i).elim (hs j) (fun h => (show j = i by omega) ▸ (fun hh => by simp at h14 hh; exact h14.elim (fun g => g hh.1) (fun g => g hh.2)))⟩, ?_, ?_⟩
   ·refine St.le.vw [0, 1, 2]
   ·simp only []; omega
 ·intro h8
  refine AW.exit ?_
  refine AW.rS ?_
  refine AW.rt ?_
  have hix := leadR_miss (l := d.items) (r := o) (fun j hj => hs j (by omega))
  rw [hix]
  rfl
theorem c_foliantref29_has (gl : List (Nat × AV)) (l : List Int) (n : Int) (hl : l.length ≤ 16777216 := by first | omega | exact u8_le _ | assumption | (simp; done) | (simp; omega)) : FnP Tryz.prog (gl) 53 [.sl (intsAV l), .int .i64 n] fun r => r = .ret (.bool (decide (n ∈ l))) := by
 refine FnP.intro Tryz.func53 rfl rfl (by simp [Tryz.ntmps53]) ?_
 simp only [argEnv, Tryz.ntmps53, Tryz.results53]
 refine AW.rS ?_
 refine AW.seq ?_
 refine AW.rS ?_
 refine AW.block ?_
 refine AW.lk (S := { i : Nat // i ≤ l.length ∧ ∀ j, j < i → l.getD j 0 ≠ n }) [1, 7, 8] (fun s_ => [(9, .int .i64 s_.1)]) (fun s_ => []) 0 (fun s_ => l.length - s_.1) ⟨0, Nat.zero_le _, fun j h => absurd h (by omega)⟩ ?_ ?_
 ·refine St.le.vw []
 rintro ⟨i, hi, hs⟩
 try dsimp only at hi
 try dsimp only at hs
 refine AW.rS ?_
 refine AW.seq ?_
 refine AW.c2 ?_ ?_
 ·intro h8
  refine AW.skip ?_
  refine AW.seq ?_
  refine AW.block ?_
  refine AW.rS ?_
  refine AW.rS ?_
  refine AW.c2 ?_ ?_
  ·intro h14
   refine AW.rS ?_
   refine AW.rt ?_
   rw [any_hit h8 h14]
  ·intro h14
   refine AW.skip ?_
   refine AW.rL ?_
   refine ⟨⟨i + 1, by omega, fun j hj => (Nat.lt_or_ge j i).elim (hs j) (fun h => (show j = i by omega) ▸ h14)⟩, ?_, ?_⟩
   ·refine St.le.vw []
   ·simp only []; omega
 ·intro h8
  refine AW.exit ?_
  refine AW.rS ?_
  refine AW.rt ?_
  rw [any_miss (fun j hj => hs j (by omega))]
end Go.Proofs

namespace Go.Proofs
open Go Aw
set_option linter.unusedSimpArgs false
set_option linter.unusedVariables false
set_option maxRecDepth 100000
set_option maxHeartbeats 2000000
attribute [local go_sem] take_strsAV app1_strsAV take_intsAV drop_intsAV app_intsAV app1_intsAV take_objsAV drop_objsAV app_objsAV app1_objsAV
theorem href_step (gl : List (Nat × AV)) (N : Nat) (hN : N ≤ 16777216) (ih : ∀ o' : Pob, o'.bulk < N → FnH Tryz.prog gl 54 [.agg o'.cells] [] 0 fun r h n => r = .ret (.row 1 0 o'.rr.length) ∧ h = [(1, .row 6 (objsAV o'.rr) true)] ∧ n = 2) (o : Pob) (ho : o.bulk ≤ N) : FnH Tryz.prog (gl) 54 [.agg o.cells] ([]) 0 (fun r h n => r = .ret (.row 1 0 o.rr.length) ∧ h = [(1, .row 6 (objsAV o.rr) true)] ∧ n = 2) := by
 refine FnH.intro Tryz.func54 rfl rfl (by simp [Tryz.ntmps54]) ?_
 simp only [argEnv, Tryz.ntmps54, Tryz.results54]
 have hb := Pob.bulk_eq o
 have hre := rr_eq o
 refine AW.rS ?_
 refine AW.seq ?_
 refine AW.rS ?_
 refine AW.c2 ?_ ?_
 ·intro h4
  have hr1 : o.rr = [o] := by rw [hre, if_pos h4]
  refine AW.rS ?_
  refine AW.vw [0, 1] [(2, .row 1 0 1)] [(1, .row 6 [o.cells] true)] ?_
  refine AW.rt ?_
  rw [hr1]
  cases o
  exact ⟨rfl, rfl⟩
 ·intro h4
  have hr1 : o.rr = rrs o.kids := by rw [hre, if_neg h4]
  refine AW.skip ?_
  refine AW.rS ?_
  refine AW.seq ?_
  refine AW.rS ?_
  refine AW.block ?_
  refine AW.pre (St.le.nilrow 3 6 (by (simp only [go_sem, seval]; try (simp (disch := omega) only [zq]; try (simp only [go_sem, seval]; try (simp (disch := omega) only [zq]; try simp only [go_sem, seval])))))) ?_
  refine wk ?_
  refine AW.lk (S := { i : Nat // i ≤ o.kids.length }) [12, 13] (fun s_ => [(3, .row 1 0 (rrs (o.kids.take s_.1)).length), (14, .int .i64 s_.1)]) (fun s_ => [(0, .cells o.cells), (1, .row 6 (objsAV (rrs (o.kids.take s_.1))) true)]) 2 (fun s_ => o.kids.length - s_.1) ⟨0, Nat.zero_le _⟩ ?_ ?_
  ·refine St.le.vw [0, 1]
  rintro ⟨i, hi⟩
  try dsimp only at hi
  refine AW.rS ?_
  refine AW.seq ?_
  refine AW.c2 ?_ ?_
  ·intro h16
   have hkb := Pob.bulk_kid (o := o) (i := i) (by omega)
   have hrl := rr_len (o.kids.getD i Pob.null)
   have htl := rrs_take_len o.kids i
   have hts := rrs_take (l := o.kids) (i := i) (by omega)
   have hf2 := congrArg List.length hts
   rw [List.length_append] at hf2
   refine AW.skip ?_
   refine AW.seq ?_
   refine AW.block ?_
   refine AW.rS ?_
   refine AW.rLC ?_
   refine awOps.cons (awGuard.cH [] (ih (o.kids.getD i Pob.null) (Nat.lt_of_lt_of_le hkb ho)) ?_)
   refine awOps.rn ?_
   refine AW.rL ?_
   refine ⟨⟨i + 1, by omega⟩, ?_, ?_⟩
   ·refine St.le.vx [0, 5] ?_
    rw [hts]
   ·simp only []; omega
  ·intro h16
   refine AW.exit ?_
   refine AW.rS ?_
   obtain rfl : i = o.kids.length := by omega
   rw [List.take_length, ← hr1]
   refine AW.vw [0, 1] [(2, .row 1 0 o.rr.length)] [(1, .row 6 (objsAV o.rr) true)] ?_
   refine AW.rt ?_
   trivial
theorem href_all (gl : List (Nat × AV)) (N : Nat) : N ≤ 16777216 → ∀ o : Pob, o.bulk ≤ N → FnH Tryz.prog gl 54 [.agg o.cells] [] 0 fun r h n => r = .ret (.row 1 0 o.rr.length) ∧ h = [(1, .row 6 (objsAV o.rr) true)] ∧ n = 2 := by
 induction N using Nat.strongRecOn with
 | ind N IH => exact fun hN o ho => href_step gl N hN (fun o' h => IH o'.bulk h (by omega) o' (Nat.le_refl _)) o ho
theorem h_foliantref29_Refs (gl : List (Nat × AV)) (o : Pob) (h : o.bulk ≤ 16777216) : FnH Tryz.prog gl 54 [.agg o.cells] [] 0 fun r h n => r = .ret (.row 1 0 o.rr.length) ∧ h = [(1, .row 6 (objsAV o.rr) true)] ∧ n = 2 := href_all gl 16777216 (Nat.le_refl _) o h
end Go.Proofs

namespace Go.Proofs
open Go Aw
set_option linter.unusedSimpArgs false
set_option linter.unusedVariables false
set_option maxRecDepth 100000
set_option maxHeartbeats 2000000
attribute [local go_sem] take_strsAV app1_strsAV take_intsAV drop_intsAV app_intsAV app1_intsAV take_objsAV drop_objsAV app_objsAV app1_objsAV
theorem userL_nil (d : Dc) (n : Int) : userL d n [] = [] := rfl
attribute [local go_sem] userL_nil
end Go.Proofs

namespace Go.Proofs
open Go Aw
set_option linter.unusedSimpArgs false
set_option linter.unusedVariables false
set_option maxRecDepth 100000
set_option maxHeartbeats 4000000
attribute [local go_sem] take_strsAV app1_strsAV take_intsAV drop_intsAV app_intsAV app1_intsAV take_objsAV drop_objsAV app_objsAV app1_objsAV
theorem tk3 (a b : List Int) (x : Int) : List.take (a.length + 1 + b.length) (List.take (a.length + 1) (a ++ [x]) ++ b) = a ++ [x] ++ b := by
 rw [List.take_of_length_le (l := a ++ [x]) (by simp)]
 exact List.take_of_length_le (by simp; omega)
theorem c_foliantref29_Rising (gl : List (Nat × AV)) (l : List Int) (hl : l.length ≤ 16777000) : FnP Tryz.prog (gl) 56 [.sl (intsAV l)] fun r => r = .ret (.sl (intsAV (l.foldl numIns []))) := by
 refine FnP.intro Tryz.func56 rfl rfl (by simp [Tryz.ntmps56]) ?_
 simp only [argEnv, Tryz.ntmps56, Tryz.results56]
 refine AW.rS ?_
 refine AW.rS ?_
 refine AW.seq ?_
 refine AW.rS ?_
 refine AW.block ?_
 refine AW.pre (St.le.nilrow 3 1 (by (simp only [go_sem, seval]; try (simp (disch := omega) only [zq]; try (simp only [go_sem, seval]; try (simp (disch := omega) only [zq]; try simp only [go_sem, seval])))))) ?_
 refine wk ?_
 refine AW.clo 3 ?_
 refine wk ?_
 refine AW.lk (S := { i : Nat // i ≤ l.length }) [7, 8] (fun s_ => [(3, .sl (intsAV ((l.take s_.1).foldl numIns []))), (9, .int .i64 s_.1)]) (fun s_ => []) 0 (fun s_ => l.length - s_.1) ⟨0, Nat.zero_le _⟩ ?_ ?_
 ·refine St.le.vw []
 rintro ⟨i, hi⟩
 try dsimp only at hi
 refine AW.rS ?_
 refine AW.seq ?_
 refine AW.c2 ?_ ?_
 ·intro h9
  have hfl := foldN_len (l.take i) []
  have hlt : (l.take i).length = i := by rw [List.length_take]; omega
  rw [List.length_nil, Nat.zero_add, hlt] at hfl
  have hfs := foldN_succ (l := l) (i := i) (by omega) []
  generalize hq : (l.take i).foldl numIns [] = q at hfl hfs ⊢
  refine AW.skip ?_
  refine AW.seq ?_
  refine AW.block ?_
  refine AW.rS ?_
  refine AW.rS ?_
  refine AW.seq ?_
  refine AW.block ?_
  refine AW.lk (S := { j : Nat // j ≤ q.length ∧ ∀ a, a < j → q.getD a 0 < l.getD i 0 }) [3, 5, 7, 8, 9] (fun s_ => [(6, .int .i64 s_.1)]) (fun s_ => []) 0 (fun s_ => q.length - s_.1) ⟨0, Nat.zero_le _, fun j h => absurd h (by omega)⟩ ?_ ?_
  ·refine St.le.vw []
  rintro ⟨j, hj, hs⟩
  try dsimp only at hj
  try dsimp only at hs
  refine AW.seq ?_
  by_cases hs19 : j < q.length
  ·skip
   refine AW.rS ?_
   refine AW.c2 ?_ ?_
   ·intro h20
    refine AW.skip ?_
    refine AW.block ?_
    refine AW.rL ?_
    refine ⟨⟨j + 1, by omega, fun a ha => (Nat.lt_or_ge a j).elim (hs a) (fun h => (show a = j by omega) ▸ (by have := h20; simp at this; simpa using this.2))⟩, ?_, ?_⟩
    ·refine St.le.vw []
    ·simp only []; omega
   ·intro h20
    refine AW.exit ?_
    have hp := nplace_eq (l := q) (n := l.getD i 0) hj hs (fun _ => by have := h20.elim (fun h => absurd hs19 h) id; omega)
    refine AW.seq ?_
    refine AW.rS ?_
    refine AW.c2 ?_ ?_
    ·intro h28
     refine AW.exit ?_
     refine AW.rL ?_
     rw [show numIns q (l.getD i 0) = q from by unfold numIns; rw [hp, if_pos h28]] at hfs
     refine ⟨⟨i + 1, by omega⟩, ?_, by simp only []; omega⟩
     rw [hfs]
     exact St.le.vw []
    ·intro h28
     refine AW.skip ?_
     have e : numIns q (l.getD i 0) = List.take ((List.take j q).length + 1 + (List.drop j q).length) (List.take ((List.take j q).length + 1) (List.take j q ++ [l.getD i 0]) ++ List.drop j q) := by rw [tk3]; unfold numIns; rw [hp, if_neg (fun h => h28.elim (fun h1 => h1 hs19) (fun h2 => h2 h.2))]
     refine AW.tL (.take 1 0 (.take 2 0 (.take 3 0 (.take 5 0 (.take 8 0 (.take 9 0 (.take 10 0 (.fork 0 (.fork 4 (.fork 6 (.fork 7 (.fork 11 (.take 12 0 .done) .stop) .stop) .stop) (.fork 6 (.fork 4 (.fork 7 (.fork 11 (.take 12 0 .done) .stop) .stop) .stop) .stop)) (.fork 6 (.fork 0 (.fork 4 (.fork 7 (.fork 11 (.take 12 0 .done) .stop) .stop) .stop) .stop) .stop))))))))) ?_
     intro σ' hσ
     simp only [List.map_cons, List.map_nil, List.mem_cons, List.not_mem_nil, or_false] at hσ
     rcases hσ with rfl | rfl | rfl
     all_goals
      simp only [St.norm, sortE, insE]
      refine AW.clo 3 ?_
      refine wk ?_
      refine AW.rL ?_
      refine ⟨⟨i + 1, by omega⟩, ?_, by simp only []; omega⟩
      rw [hfs, e]
      exact St.le.vw []
  ·skip
   refine AW.rS ?_
   refine AW.c2 ?_ ?_
   ·intro h20
    exfalso
    simp at h20
    try omega
   ·intro h20
    refine AW.exit ?_
    have hp := nplace_eq (l := q) (n := l.getD i 0) hj hs (fun h => absurd h (by omega))
    refine AW.seq ?_
    refine AW.rS ?_
    refine AW.c2 ?_ ?_
    ·intro h28
     exfalso
     simp at h28
     try omega
    ·intro h28
     refine AW.skip ?_
     have e : numIns q (l.getD i 0) = List.take ((List.take j q).length + 1 + (List.drop j q).length) (List.take ((List.take j q).length + 1) (List.take j q ++ [l.getD i 0]) ++ List.drop j q) := by rw [tk3]; unfold numIns; rw [hp, if_neg (fun h => hs19 h.1)]
     refine AW.tL (.take 1 0 (.take 2 0 (.take 3 0 (.take 5 0 (.take 8 0 (.take 9 0 (.take 10 0 (.fork 0 (.fork 4 (.fork 6 (.fork 7 (.fork 11 (.take 12 0 .done) .stop) .stop) .stop) (.fork 6 (.fork 4 (.fork 7 (.fork 11 (.take 12 0 .done) .stop) .stop) .stop) .stop)) (.fork 6 (.fork 0 (.fork 4 (.fork 7 (.fork 11 (.take 12 0 .done) .stop) .stop) .stop) .stop) .stop))))))))) ?_
     intro σ' hσ
     simp only [List.map_cons, List.map_nil, List.mem_cons, List.not_mem_nil, or_false] at hσ
     rcases hσ with rfl | rfl | rfl
     all_goals
      simp only [St.norm, sortE, insE]
      refine AW.clo 3 ?_
      refine wk ?_
      refine AW.rL ?_
      refine ⟨⟨i + 1, by omega⟩, ?_, by simp only []; omega⟩
      rw [hfs, e]
      exact St.le.vw []
 ·intro h9
  refine AW.exit ?_
  refine AW.rS ?_
  refine AW.rt ?_
  obtain rfl : i = l.length := by omega
  rw [List.take_length]
end Go.Proofs

namespace Go.Proofs
open Go Aw
set_option linter.unusedSimpArgs false
set_option linter.unusedVariables false
set_option maxRecDepth 100000
set_option maxHeartbeats 4000000
attribute [local go_sem] take_strsAV app1_strsAV take_intsAV drop_intsAV app_intsAV app1_intsAV take_objsAV drop_objsAV app_objsAV app1_objsAV List.length_append List.length_cons List.length_nil List.length_drop List.length_take Nat.sub_zero
theorem c_foliantref29_From (gl : List (Nat × AV)) (d : Dc) (o : Pob) (h : d.tot ≤ 16777000) (ho : o.tot ≤ 16777000) (hf : docE d = 0 → chk o 1 = 0 → ∀ met, leastR d.items o.rr met → met.foldl numIns [] = fromP d o) : FnP Tryz.prog (gl) 72 [.agg d.cells, .agg o.cells] fun r => r = .ret (.sl (intsAV (fromP d o))) := by
 refine FnP.intro Tryz.func72 rfl rfl (by simp [Tryz.ntmps72]) ?_
 simp only [argEnv, Tryz.ntmps72, Tryz.results72]
 have hbk := Dc.bulk_tot d
 have hob := Pob.bulk_tot o
 have hdb : d.bulk = ibulk d.items + d.trailer.bulk := rfl
 have hlen := ibulk_len d.items
 have hrl := rr_len o
 refine AW.rS ?_
 refine AW.seq ?_
 refine AW.rSC ?_
 refine awOps.cons (awGuard.c1 (c_foliantref19_Check _ d (by omega)) ?_)
 refine awOps.rn ?_
 refine awOps.cons (awGuard.cG (fun hg => c_foliantref05_Check _ o (by omega)) ?_)
 refine awOps.rn ?_
 refine AW.c2 ?_ ?_
 ·intro h8
  refine AW.rS ?_
  refine AW.rt ?_
  ·rw [fromP, if_neg (fun hh => by simp [hh.1, hh.2] at h8)]
   rfl
  all_goals first | contradiction | rfl | (simp; done) | (simp; omega)
 ·intro h8
  have hd0 : docE d = 0 := h8.1
  have hc0 : chk o 1 = 0 := h8.2
  have hinc := items_incr (docE_items hd0)
  refine AW.skip ?_
  refine AW.rS ?_
  refine AW.rSC ?_
  refine awOps.cons (awGuard.cH [] (h_foliantref29_Refs _ o (by omega)) ?_)
  refine awOps.rn ?_
  refine AW.seq ?_
  refine AW.block ?_
  refine AW.pre (St.le.nilrow 5 1 (by (simp only [go_sem, seval]; try (simp (disch := omega) only [zq]; try (simp only [go_sem, seval]; try (simp (disch := omega) only [zq]; try simp only [go_sem, seval])))))) ?_
  refine wk ?_
  refine AW.fz [4] ?_
  refine AW.lk (S := { p : (List Int × List Pob) × Nat // p.2 ≤ p.1.2.length ∧ FromJ d.items o.rr p.1.1 (p.1.2.drop p.2) }) [2] (fun s_ => [(5, .row 1 0 s_.1.1.1.length), (6, .row 2 s_.1.2 (s_.1.1.2.length - s_.1.2))]) (fun s_ => [(0, .cells d.cells), (1, .row 1 (intsAV s_.1.1.1) false), (2, .row 6 (objsAV s_.1.1.2) true)]) 3 (fun s_ => (s_.1.1.2.length - s_.1.2) + restR d.items s_.1.1.1) ⟨(([], o.rr), 0), Nat.zero_le _, by rw [List.drop_zero]; exact FromJ.top _ _ (by omega)⟩ ?_ ?_
  ·refine St.le.vw [0, 4, 3]
  rintro ⟨⟨⟨met, full⟩, off⟩, hoff, hj⟩
  try dsimp only at hoff
  try dsimp only at hj
  refine AW.seq ?_
  refine AW.rS ?_
  refine AW.c2 ?_ ?_
  ·intro h22
   have hoff' : off < full.length := by simp at h22; omega
   have hdr : full.drop off = full.getD off Pob.null :: full.drop (off + 1) := by
    rw [List.drop_eq_getElem_cons hoff']
    simp [List.getD, List.getElem?_eq_getElem hoff']
   rw [hdr] at hj
   have hml := hj.len
   have hsm := hj.small
   simp only [List.length_cons, List.length_drop] at hsm
   refine AW.skip ?_
   refine AW.block ?_
   refine AW.tG (σf := ?sf6) (.take 1 0 (.fork 0 (.fork 2 (.fork 3 (.fork 4 (.take 5 0 (.take 6 0 (.take 7 0 (.fork 8 (.fork 9 (.take 10 0 .done) .stop) .stop)))) (.fork 8 (.fork 4 (.take 5 0 (.take 6 0 (.take 7 0 (.fork 9 (.take 10 0 .done) .stop)))) .stop) .stop)) (.fork 8 (.fork 3 (.fork 4 (.take 5 0 (.take 6 0 (.take 7 0 (.fork 9 (.take 10 0 .done) .stop)))) .stop) .stop) .stop)) (.fork 8 (.fork 2 (.fork 3 (.fork 4 (.take 5 0 (.take 6 0 (.take 7 0 (.fork 9 (.take 10 0 .done) .stop)))) .stop) .stop) .stop) .stop)) (.fork 2 (.fork 0 (.fork 3 (.fork 4 (.take 5 0 (.take 6 0 (.take 7 0 (.fork 8 (.fork 9 (.take 10 0 .done) .stop) .stop)))) (.fork 8 (.fork 4 (.take 5 0 (.take 6 0 (.take 7 0 (.fork 9 (.take 10 0 .done) .stop)))) .stop) .stop)) (.fork 8 (.fork 3 (.fork 4 (.take 5 0 (.take 6 0 (.take 7 0 (.fork 9 (.take 10 0 .done) .stop)))) .stop) .stop) .stop)) (.fork 3 (.fork 0 (.fork 4 (.take 5 0 (.take 6 0 (.take 7 0 (.fork 8 (.fork 9 (.take 10 0 .done) .stop) .stop)))) (.fork 8 (.fork 4 (.take 5 0 (.take 6 0 (.take 7 0 (.fork 9 (.take 10 0 .done) .stop)))) .stop) .stop)) (.fork 8 (.fork 0 (.fork 4 (.take 5 0 (.take 6 0 (.take 7 0 (.fork 9 (.take 10 0 .done) .stop)))) .stop) .stop) .stop)) (.fork 8 (.fork 0 (.fork 3 (.fork 4 (.take 5 0 (.take 6 0 (.take 7 0 (.fork 9 (.take 10 0 .done) .stop)))) .stop) .stop) (.fork 3 (.fork 0 (.fork 4 (.take 5 0 (.take 6 0 (.take 7 0 (.fork 9 (.take 10 0 .done) .stop)))) .stop) .stop) .stop)) .stop))) (.fork 8 (.fork 0 (.fork 2 (.fork 3 (.fork 4 (.take 5 0 (.take 6 0 (.take 7 0 (.fork 9 (.take 10 0 .done) .stop)))) .stop) .stop) .stop) (.fork 2 (.fork 0 (.fork 3 (.fork 4 (.take 5 0 (.take 6 0 (.take 7 0 (.fork 9 (.take 10 0 .done) .stop)))) .stop) .stop) (.fork 3 (.fork 0 (.fork 4 (.take 5 0 (.take 6 0 (.take 7 0 (.fork 9 (.take 10 0 .done) .stop)))) .stop) .stop) .stop)) .stop)) .stop)))) ?tree6 ?rest6
   case tree6 =>
    refine awTree.tk ?_
    refine awTree.fA ?_ ?_
    ·refine awTree.fA ?_ ?_
     ·refine awTree.fA ?_ ?_
      ·refine awTree.fC (c_foliantref29_Leads _ d (full.getD off Pob.null) (by omega)) ?_ ?_
       ·refine awTree.tk ?_
        refine awTree.tk ?_
        refine awTree.tk ?_
        refine awTree.fA ?_ ?_
        ·refine awTree.fA ?_ ?_
         ·refine awTree.tk ?_
          exact awTree.dn
         ·exact trivial
        ·exact trivial
       ·refine awTree.fA ?_ ?_
        ·refine awTree.fC (c_foliantref29_Leads _ d (full.getD off Pob.null) (by omega)) ?_ ?_
         ·refine awTree.tk ?_
          refine awTree.tk ?_
          refine awTree.tk ?_
          refine awTree.fA ?_ ?_
          ·refine awTree.tk ?_
           exact awTree.dn
          ·exact trivial
         ·exact trivial
        ·exact trivial
      ·refine awTree.fA ?_ ?_
       ·refine awTree.fA ?_ ?_
        ·refine awTree.fC (c_foliantref29_Leads _ d (full.getD off Pob.null) (by omega)) ?_ ?_
         ·refine awTree.tk ?_
          refine awTree.tk ?_
          refine awTree.tk ?_
          refine awTree.fA ?_ ?_
          ·refine awTree.tk ?_
           exact awTree.dn
          ·exact trivial
         ·exact trivial
        ·exact trivial
       ·exact trivial
     ·refine awTree.fA ?_ ?_
      ·refine awTree.fA ?_ ?_
       ·refine awTree.fA ?_ ?_
        ·refine awTree.fC (c_foliantref29_Leads _ d (full.getD off Pob.null) (by omega)) ?_ ?_
         ·refine awTree.tk ?_
          refine awTree.tk ?_
          refine awTree.tk ?_
          refine awTree.fA ?_ ?_
          ·refine awTree.tk ?_
           exact awTree.dn
          ·exact trivial
         ·exact trivial
        ·exact trivial
       ·exact trivial
      ·exact trivial
    ·refine awTree.fA ?_ ?_
     ·refine awTree.fA ?_ ?_
      ·refine awTree.fA ?_ ?_
       ·refine awTree.fC (c_foliantref29_Leads _ d (full.getD off Pob.null) (by omega)) ?_ ?_
        ·refine awTree.tk ?_
         refine awTree.tk ?_
         refine awTree.tk ?_
         refine awTree.fA ?_ ?_
         ·refine awTree.fA ?_ ?_
          ·refine awTree.tk ?_
           exact awTree.dn
          ·exact trivial
         ·exact trivial
        ·refine awTree.fA ?_ ?_
         ·refine awTree.fC (c_foliantref29_Leads _ d (full.getD off Pob.null) (by omega)) ?_ ?_
          ·refine awTree.tk ?_
           refine awTree.tk ?_
           refine awTree.tk ?_
           refine awTree.fA ?_ ?_
           ·refine awTree.tk ?_
            exact awTree.dn
           ·exact trivial
          ·exact trivial
         ·exact trivial
       ·refine awTree.fA ?_ ?_
        ·refine awTree.fA ?_ ?_
         ·refine awTree.fC (c_foliantref29_Leads _ d (full.getD off Pob.null) (by omega)) ?_ ?_
          ·refine awTree.tk ?_
           refine awTree.tk ?_
           refine awTree.tk ?_
           refine awTree.fA ?_ ?_
           ·refine awTree.tk ?_
            exact awTree.dn
           ·exact trivial
          ·exact trivial
         ·exact trivial
        ·exact trivial
      ·refine awTree.fA ?_ ?_
       ·refine awTree.fA ?_ ?_
        ·refine awTree.fC (c_foliantref29_Leads _ d (full.getD off Pob.null) (by omega)) ?_ ?_
         ·refine awTree.tk ?_
          refine awTree.tk ?_
          refine awTree.tk ?_
          refine awTree.fA ?_ ?_
          ·refine awTree.fA ?_ ?_
           ·refine awTree.tk ?_
            exact awTree.dn
           ·exact trivial
          ·exact trivial
         ·refine awTree.fA ?_ ?_
          ·refine awTree.fC (c_foliantref29_Leads _ d (full.getD off Pob.null) (by omega)) ?_ ?_
           ·refine awTree.tk ?_
            refine awTree.tk ?_
            refine awTree.tk ?_
            refine awTree.fA ?_ ?_
            ·refine awTree.tk ?_
             exact awTree.dn
            ·exact trivial
           ·exact trivial
          ·exact trivial
        ·refine awTree.fA ?_ ?_
         ·refine awTree.fA ?_ ?_
          ·refine awTree.fC (c_foliantref29_Leads _ d (full.getD off Pob.null) (by omega)) ?_ ?_
           ·refine awTree.tk ?_
            refine awTree.tk ?_
            refine awTree.tk ?_
            refine awTree.fA ?_ ?_
            ·refine awTree.tk ?_
             exact awTree.dn
            ·exact trivial
           ·exact trivial
          ·exact trivial
         ·exact trivial
       ·refine awTree.fA ?_ ?_
        ·refine awTree.fA ?_ ?_
         ·refine awTree.fA ?_ ?_
          ·refine awTree.fC (c_foliantref29_Leads _ d (full.getD off Pob.null) (by omega)) ?_ ?_
           ·refine awTree.tk ?_
            refine awTree.tk ?_
            refine awTree.tk ?_
            refine awTree.fA ?_ ?_
            ·refine awTree.tk ?_
             exact awTree.dn
            ·exact trivial
           ·exact trivial
          ·exact trivial
         ·refine awTree.fA ?_ ?_
          ·refine awTree.fA ?_ ?_
           ·refine awTree.fC (c_foliantref29_Leads _ d (full.getD off Pob.null) (by omega)) ?_ ?_
            ·refine awTree.tk ?_
             refine awTree.tk ?_
             refine awTree.tk ?_
             refine awTree.fA ?_ ?_
             ·refine awTree.tk ?_
              exact awTree.dn
             ·exact trivial
            ·exact trivial
           ·exact trivial
          ·exact trivial
        ·exact trivial
     ·refine awTree.fA ?_ ?_
      ·refine awTree.fA ?_ ?_
       ·refine awTree.fA ?_ ?_
        ·refine awTree.fA ?_ ?_
         ·refine awTree.fC (c_foliantref29_Leads _ d (full.getD off Pob.null) (by omega)) ?_ ?_
          ·refine awTree.tk ?_
           refine awTree.tk ?_
           refine awTree.tk ?_
           refine awTree.fA ?_ ?_
           ·refine awTree.tk ?_
            exact awTree.dn
           ·exact trivial
          ·exact trivial
         ·exact trivial
        ·exact trivial
       ·refine awTree.fA ?_ ?_
        ·refine awTree.fA ?_ ?_
         ·refine awTree.fA ?_ ?_
          ·refine awTree.fC (c_foliantref29_Leads _ d (full.getD off Pob.null) (by omega)) ?_ ?_
           ·refine awTree.tk ?_
            refine awTree.tk ?_
            refine awTree.tk ?_
            refine awTree.fA ?_ ?_
            ·refine awTree.tk ?_
             exact awTree.dn
            ·exact trivial
           ·exact trivial
          ·exact trivial
         ·refine awTree.fA ?_ ?_
          ·refine awTree.fA ?_ ?_
           ·refine awTree.fC (c_foliantref29_Leads _ d (full.getD off Pob.null) (by omega)) ?_ ?_
            ·refine awTree.tk ?_
             refine awTree.tk ?_
             refine awTree.tk ?_
             refine awTree.fA ?_ ?_
             ·refine awTree.tk ?_
              exact awTree.dn
             ·exact trivial
            ·exact trivial
           ·exact trivial
          ·exact trivial
        ·exact trivial
      ·exact trivial
   skip
   skip
   skip
   refine AW.rS ?_
   refine AW.rSC ?_
   refine awOps.cons (awGuard.cG (fun hg => c_foliantref29_has _ met ((leadR d.items (full.getD off Pob.null)).getD Itm.zero).num (by omega)) ?_)
   refine awOps.rn ?_
   refine AW.c2 ?_ ?_
   ·intro h33
    obtain ⟨hs1, hs2⟩ := h33
    have hi : leadR d.items (full.getD off Pob.null) = some ((leadR d.items (full.getD off Pob.null)).getD Itm.zero) := by
     obtain ⟨i, hi⟩ := Option.isSome_iff_exists.1 hs1
     rw [hi]
     rfl
    have hadd := restR_add (leadR_mem hi).1 hs2
    have hjj := hj.add hinc hi hs2
    have hib := items_bulk (d := d) (k := d.bulk) (Nat.le_refl _) _ (leadR_mem hi).1
    have hirl := rr_len ((leadR d.items (full.getD off Pob.null)).getD Itm.zero).obj
    have htk : List.take (full.length - off - 1) (full.drop (off + 1)) = full.drop (off + 1) := List.take_of_length_le (by simp; omega)
    have hl2 : (List.take (full.length - off - 1) (full.drop (off + 1)) ++ ((leadR d.items (full.getD off Pob.null)).getD Itm.zero).obj.rr).length = full.length - off - 1 + ((leadR d.items (full.getD off Pob.null)).getD Itm.zero).obj.rr.length := by rw [htk]; simp; omega
    refine AW.rS ?_
    refine AW.rLC ?_
    refine awOps.cons (awGuard.cH [] (h_foliantref29_Refs _ ((leadR d.items (full.getD off Pob.null)).getD Itm.zero).obj (by omega)) ?_)
    refine awOps.rn ?_
    refine ⟨⟨((met ++ [((leadR d.items (full.getD off Pob.null)).getD Itm.zero).num], List.take (full.length - off - 1) (full.drop (off + 1)) ++ ((leadR d.items (full.getD off Pob.null)).getD Itm.zero).obj.rr), 0), Nat.zero_le _, by rw [List.drop_zero, htk]; exact hjj⟩, ?_, ?_⟩
    ·refine St.le.vw [0, 5, 8]
    ·simp only []; omega
   ·intro h33
    refine AW.skip ?_
    refine ⟨⟨((met, full), off + 1), hoff', hj.skip (fun i hi => by rw [hi] at h33; simpa using h33)⟩, ?_, ?_⟩
    ·refine St.le.vw [0, 1, 2]
    ·simp only []; omega
  ·intro h22
   have hoe : off = full.length := by simp at h22; omega
   rw [hoe, List.drop_length] at hj
   have hml := hj.len
   refine AW.exit ?_
   refine AW.rSC ?_
   refine awOps.cons (awGuard.c1 (c_foliantref29_Rising _ met (by omega)) ?_)
   refine awOps.rn ?_
   refine AW.rt ?_
   rw [hf hd0 hc0 met hj.end]
end Go.Proofs

namespace Go.Proofs
open Go Aw
set_option linter.unusedSimpArgs false
set_option linter.unusedVariables false
set_option maxRecDepth 100000
set_option maxHeartbeats 4000000
attribute [local go_sem] take_strsAV app1_strsAV take_intsAV drop_intsAV app_intsAV app1_intsAV take_objsAV drop_objsAV app_objsAV app1_objsAV
theorem c_foliantref29_Reach (gl : List (Nat × AV)) (d : Dc) (h : d.tot ≤ 16777000) (hf : docE d = 0 → chk d.trailer 1 = 0 → ∀ met, leastR d.items d.trailer.rr met → met.foldl numIns [] = fromP d d.trailer) : FnP Tryz.prog (gl) 48 [.agg d.cells] fun r => r = .ret (.sl (intsAV (fromP d d.trailer))) := by
 refine FnP.intro Tryz.func48 rfl rfl (by simp [Tryz.ntmps48]) ?_
 simp only [argEnv, Tryz.ntmps48, Tryz.results48]
 refine AW.rS ?_
 refine AW.rSC ?_
 refine awOps.cons (awGuard.c1 (c_foliantref29_From _ d d.trailer h (Nat.le_trans (Nat.le_add_left _ _) h) hf) ?_)
 refine awOps.rn ?_
 refine AW.rt ?_
 all_goals first | contradiction | rfl | (simp; done) | (simp; omega)
theorem lostI_nil (m : List Int) : lostI m [] = [] := rfl
attribute [local go_sem] lostI_nil
theorem c_foliantref29_Lost (gl : List (Nat × AV)) (d : Dc) (h : d.tot ≤ 16777000) (hf : docE d = 0 → chk d.trailer 1 = 0 → ∀ met, leastR d.items d.trailer.rr met → met.foldl numIns [] = fromP d d.trailer) (hfl : (fromP d d.trailer).length ≤ 16777216) : FnP Tryz.prog (gl) 21 [.agg d.cells] fun r => r = .ret (.sl (intsAV (lostR d))) := by
 refine FnP.intro Tryz.func21 rfl rfl (by simp [Tryz.ntmps21]) ?_
 simp only [argEnv, Tryz.ntmps21, Tryz.results21]
 have hbk := Dc.bulk_tot d
 have hdb : d.bulk = ibulk d.items + d.trailer.bulk := rfl
 have hlen := ibulk_len d.items
 refine AW.rS ?_
 refine AW.seq ?_
 refine AW.rSC ?_
 refine awOps.cons (awGuard.c1 (c_foliantref19_Check _ d (by omega)) ?_)
 refine awOps.rn ?_
 refine AW.c2 ?_ ?_
 ·intro h6
  refine AW.rS ?_
  refine AW.rt ?_
  ·rw [lostR, if_neg (by simpa using h6)]
   first | trivial | rfl
  all_goals first | contradiction | rfl | (simp; done) | (simp; omega)
 ·intro h6
  refine AW.skip ?_
  refine AW.rSC ?_
  refine awOps.cons (awGuard.c1 (c_foliantref29_Reach _ d h hf) ?_)
  refine awOps.rn ?_
  refine AW.rS ?_
  refine AW.seq ?_
  refine AW.rS ?_
  refine AW.block ?_
  refine AW.pre (St.le.nilrow 4 1 (by (simp only [go_sem, seval]; try (simp (disch := omega) only [zq]; try (simp only [go_sem, seval]; try (simp (disch := omega) only [zq]; try simp only [go_sem, seval])))))) ?_
  refine wk ?_
  refine AW.lk (S := { i : Nat // i ≤ d.items.length }) [3, 13, 14] (fun s_ => [(4, .row 1 0 (lostI (fromP d d.trailer) (d.items.take s_.1)).length), (15, .int .i64 s_.1)]) (fun s_ => [(1, .row 1 (intsAV (lostI (fromP d d.trailer) (d.items.take s_.1))) true)]) 2 (fun s_ => d.items.length - s_.1) ⟨0, Nat.zero_le _⟩ ?_ ?_
  ·refine St.le.vw [0, 1]
  rintro ⟨i, hi⟩
  try dsimp only at hi
  refine AW.rS ?_
  refine AW.seq ?_
  refine AW.c2 ?_ ?_
  ·intro h21
   have hfl2 : (lostI (fromP d d.trailer) (d.items.take i)).length ≤ i := fm_len d.items i (fun i => !decide (i.num ∈ fromP d d.trailer)) (·.num)
   refine AW.skip ?_
   refine AW.seq ?_
   refine AW.block ?_
   refine AW.rS ?_
   refine AW.rSC ?_
   refine awOps.cons (awGuard.c1 (c_foliantref29_has _ (fromP d d.trailer) (d.items.getD i Itm.zero).num hfl) ?_)
   refine awOps.rn ?_
   refine AW.c2 ?_ ?_
   ·intro h29
    have hy : lostI (fromP d d.trailer) (d.items.take (i + 1)) = lostI (fromP d d.trailer) (d.items.take i) ++ [(d.items.getD i Itm.zero).num] := fm_yes (d := Itm.zero) (by omega) (by rw [decide_eq_false h29]; rfl)
    have hy2 := congrArg List.length hy
    rw [List.length_append, List.length_singleton] at hy2
    refine AW.rL ?_
    refine AW.rL ?_
    refine ⟨⟨i + 1, by omega⟩, ?_, ?_⟩
    ·refine St.le.vx [0, 4] ?_
     rw [hy]
    ·simp only []; omega
   ·intro h29
    have hy : lostI (fromP d d.trailer) (d.items.take (i + 1)) = lostI (fromP d d.trailer) (d.items.take i) := fm_no (d := Itm.zero) (by omega) (by rw [decide_eq_true h29]; decide)
    have hy2 := congrArg List.length hy
    refine AW.skip ?_
    refine AW.rL ?_
    refine ⟨⟨i + 1, by omega⟩, ?_, ?_⟩
    ·refine St.le.vx [0, 1] ?_
     rw [hy]
    ·simp only []; omega
  ·intro h21
   refine AW.exit ?_
   refine AW.rS ?_
   refine AW.rt ?_
   ·obtain rfl : i = d.items.length := by omega
    rw [List.take_length, lostR, if_pos h6]
   all_goals first | contradiction | rfl | (simp; done) | (simp; omega)
end Go.Proofs

namespace Go.Proofs
open Go Aw
set_option linter.unusedSimpArgs false
set_option linter.unusedVariables false
set_option maxRecDepth 100000
set_option maxHeartbeats 4000000
attribute [local go_sem] take_strsAV app1_strsAV take_intsAV drop_intsAV app_intsAV app1_intsAV take_objsAV drop_objsAV app_objsAV app1_objsAV
theorem dangI_nil (d : Dc) : dangI d [] = [] := rfl
attribute [local go_sem] dangI_nil List.length_append
def allR (d : Dc) (i : Nat) : List Pob := d.trailer.rr ++ itemsRR (d.items.take i)
theorem allR_zero (d : Dc) : allR d 0 = d.trailer.rr := by simp [allR, itemsRR, rrs]
theorem itemsRR_take {l : List Itm} {i : Nat} (h : i < l.length) : itemsRR (l.take (i + 1)) = itemsRR (l.take i) ++ (l.getD i Itm.zero).obj.rr := by
 unfold itemsRR
 rw [List.take_add_one, List.map_append, rrs_append, List.getElem?_eq_getElem h]
 simp [rrs, List.getD, List.getElem?_eq_getElem h]
theorem itemsRR_len (l : List Itm) : (itemsRR l).length ≤ ibulk l := by
 induction l with
 | nil => simp [itemsRR, rrs]
 | cons x l ih =>
  have := rr_len x.obj
  rw [ibulk_cons]
  simp only [itemsRR, List.map_cons, rrs, List.length_append] at ih ⊢
  omega
theorem allR_len (d : Dc) (i : Nat) : (allR d i).length ≤ d.bulk := by
 have h1 := itemsRR_len (d.items.take i)
 have h2 := ibulk_take_le d.items i
 have h3 := rr_len d.trailer
 have h4 : d.bulk = ibulk d.items + d.trailer.bulk := rfl
 simp only [allR, List.length_append]
 omega
theorem allR_succ {d : Dc} {i : Nat} (h : i < d.items.length) : allR d (i + 1) = allR d i ++ (d.items.getD i Itm.zero).obj.rr := by
 unfold allR
 rw [itemsRR_take h, List.append_assoc]
theorem c_foliantref29_Dangling (gl : List (Nat × AV)) (d : Dc) (h : d.tot ≤ 16777000) : FnP Tryz.prog (gl) 22 [.agg d.cells] fun r => r = .ret (.sl (intsAV (dangR d))) := by
 refine FnP.intro Tryz.func22 rfl rfl (by simp [Tryz.ntmps22]) ?_
 simp only [argEnv, Tryz.ntmps22, Tryz.results22]
 have hbk := Dc.bulk_tot d
 have hdb : d.bulk = ibulk d.items + d.trailer.bulk := rfl
 have hlen := ibulk_len d.items
 have hal := allR_len d
 refine AW.rS ?_
 refine AW.seq ?_
 refine AW.rSC ?_
 refine awOps.cons (awGuard.c1 (c_foliantref19_Check _ d (by omega)) ?_)
 refine awOps.rn ?_
 refine AW.c2 ?_ ?_
 ·intro h6
  refine AW.rS ?_
  refine AW.rt ?_
  ·rw [dangR, if_neg (by simpa using h6)]
   first | trivial | rfl
  all_goals first | contradiction | rfl | (simp; done) | (simp; omega)
 ·intro h6
  refine AW.skip ?_
  refine AW.rSC ?_
  refine awOps.cons (awGuard.cH [] (h_foliantref29_Refs _ d.trailer (by omega)) ?_)
  refine awOps.rn ?_
  refine AW.seq ?_
  refine AW.rS ?_
  refine AW.block ?_
  rw [← allR_zero d]
  refine AW.lk (S := { i : Nat // i ≤ d.items.length }) [1, 18, 19] (fun s_ => [(3, .row 1 0 (allR d s_.1).length), (20, .int .i64 s_.1)]) (fun s_ => [(0, .cells d.cells), (1, .row 6 (objsAV (allR d s_.1)) true)]) 2 (fun s_ => d.items.length - s_.1) ⟨0, Nat.zero_le _⟩ ?_ ?_
  ·refine St.le.vw [0, 2]
  rintro ⟨i, hi⟩
  try dsimp only at hi
  refine AW.rS ?_
  refine AW.seq ?_
  refine AW.c2 ?_ ?_
  ·intro h20
   have hts := allR_succ (d := d) (i := i) (by omega)
   have hf2 := congrArg List.length hts
   rw [List.length_append] at hf2
   have hib := ibulk_get (l := d.items) (i := i) (by omega)
   have hali := hal i
   have hrl := rr_len (d.items.getD i Itm.zero).obj
   refine AW.skip ?_
   refine AW.seq ?_
   refine AW.block ?_
   refine AW.rS ?_
   refine AW.rLC ?_
   refine awOps.cons (awGuard.cH [] (h_foliantref29_Refs _ (d.items.getD i Itm.zero).obj (by omega)) ?_)
   refine awOps.rn ?_
   refine AW.rL ?_
   refine ⟨⟨i + 1, by omega⟩, ?_, ?_⟩
   ·refine St.le.vx [0, 5] ?_
    rw [hts]
   ·simp only []; omega
  ·intro h20
   refine AW.exit ?_
   obtain rfl : i = d.items.length := by omega
   generalize hall : allR d d.items.length = all
   have hll := hal d.items.length
   rw [hall] at hll
   refine AW.clo 3 ?_
   refine wk ?_
   refine AW.rS ?_
   refine AW.seq ?_
   refine AW.rS ?_
   refine AW.block ?_
   refine AW.pre (St.le.nilrow 6 1 (by (simp only [go_sem, seval]; try (simp (disch := omega) only [zq]; try (simp only [go_sem, seval]; try (simp (disch := omega) only [zq]; try simp only [go_sem, seval])))))) ?_
   refine wk ?_
   refine AW.lk (S := { j : Nat // j ≤ all.length }) [1, 30, 31] (fun s_ => [(6, .row 1 0 (dangI d (all.take s_.1)).length), (32, .int .i64 s_.1)]) (fun s_ => [(0, .cells d.cells), (1, .row 1 (intsAV (dangI d (all.take s_.1))) true)]) 2 (fun s_ => all.length - s_.1) ⟨0, Nat.zero_le _⟩ ?_ ?_
   ·refine St.le.vw [0, 2]
   rintro ⟨j, hj⟩
   try dsimp only at hj
   refine AW.rS ?_
   refine AW.seq ?_
   refine AW.c2 ?_ ?_
   ·intro h38
    have hfl2 : (dangI d (all.take j)).length ≤ j := fm_len all j (fun x => !(leadR d.items x).isSome) (·.num)
    refine AW.skip ?_
    refine AW.seq ?_
    refine AW.block ?_
    refine AW.rS ?_
    refine AW.rSC ?_
    refine awOps.cons (awGuard.c1 (c_foliantref29_Leads _ d (all.getD j Pob.null) (by omega)) ?_)
    refine awOps.rn ?_
    refine AW.rS ?_
    refine AW.c2 ?_ ?_
    ·intro h47
     have hy : dangI d (all.take (j + 1)) = dangI d (all.take j) ++ [(all.getD j Pob.null).num] := fm_yes (d := Pob.null) (by omega) (by rw [h47]; rfl)
     have hy2 := congrArg List.length hy
     rw [List.length_append, List.length_singleton] at hy2
     refine AW.rL ?_
     refine AW.rL ?_
     refine ⟨⟨j + 1, by omega⟩, ?_, ?_⟩
     ·refine St.le.vx [0, 5] ?_
      rw [hy]
     ·simp only []; omega
    ·intro h47
     have hy : dangI d (all.take (j + 1)) = dangI d (all.take j) := fm_no (d := Pob.null) (by omega) (by rw [h47]; decide)
     have hy2 := congrArg List.length hy
     refine AW.skip ?_
     refine AW.rL ?_
     refine ⟨⟨j + 1, by omega⟩, ?_, ?_⟩
     ·refine St.le.vx [0, 1] ?_
      rw [hy]
     ·simp only []; omega
   ·intro h38
    refine AW.exit ?_
    obtain rfl : j = all.length := by omega
    have hdl : (dangI d all).length ≤ all.length := by
     have := fm_len all all.length (fun x => !(leadR d.items x).isSome) (·.num)
     rw [List.take_length] at this
     exact this
    rw [List.take_length]
    refine AW.rSC ?_
    refine awOps.cons (awGuard.c1 (c_foliantref29_Rising _ (dangI d all) (by omega)) ?_)
    refine awOps.rn ?_
    refine AW.rt ?_
    rw [dangR, if_pos h6, ← hall]
    simp [allR]
end Go.Proofs

namespace Go.Proofs
open Go Aw
set_option linter.unusedSimpArgs false
set_option linter.unusedVariables false
set_option maxRecDepth 100000
set_option maxHeartbeats 2000000
attribute [local go_sem] take_strsAV app1_strsAV take_intsAV drop_intsAV app_intsAV app1_intsAV take_objsAV drop_objsAV app_objsAV app1_objsAV
def usualKs : List (List UInt8) := [[65, 65], [74, 83], [74, 97, 118, 97, 83, 99, 114, 105, 112, 116], [76, 97, 117, 110, 99, 104], [77, 101, 116, 97, 100, 97, 116, 97], [79, 112, 101, 110, 65, 99, 116, 105, 111, 110], [80, 105, 101, 99, 101, 73, 110, 102, 111]]
theorem c_clean_Usual (gl : List (Nat × AV))  : FnP Tryz.prog (gl) 28 [] fun r => r = .ret (.sl (strsAV usualKs)) := by
 refine FnP.intro Tryz.func28 rfl rfl (by simp [Tryz.ntmps28]) ?_
 simp only [argEnv, Tryz.ntmps28, Tryz.results28]
 refine AW.rS ?_
 refine AW.rS ?_
 refine AW.rt ?_
 all_goals first | contradiction | rfl | (simp; done) | (simp; omega)
theorem c_foliantref31_Usual (gl : List (Nat × AV))  : FnP Tryz.prog (gl) 32 [] fun r => r = .ret (.sl (strsAV usualKs)) := by
 refine FnP.intro Tryz.func32 rfl rfl (by simp [Tryz.ntmps32]) ?_
 simp only [argEnv, Tryz.ntmps32, Tryz.results32]
 refine AW.rS ?_
 refine AW.rS ?_
 refine AW.rt ?_
 all_goals first | contradiction | rfl | (simp; done) | (simp; omega)
end Go.Proofs

namespace Aw
open Go
variable {u : List (List UInt8)}
theorem cut1_tot (t : Pob) (k : List UInt8) : (cut1 u t k).tot ≤ t.tot := by
 unfold cut1
 split
 ·exact dropO_tot t k
 ·exact Nat.le_refl _
theorem cleanT_tot (t : Pob) : (cleanT u t).tot ≤ t.tot := Nat.le_trans (cut1_tot _ _) (cut1_tot _ _)
theorem stripI_tot (l : List Itm) : itots (l.map (stripI u)) ≤ itots l := by
 unfold itots
 induction l with
 | nil => simp
 | cons i l ih =>
  have := strip_tot (u := u) i.obj
  simp only [List.map_cons, List.sum_cons, Itm.tot, stripI] at ih ⊢
  omega
theorem cleanX_tot (d : Dc) : (cleanX u d).tot ≤ d.tot := by
 have h1 := cleanT_tot (u := u) d.trailer
 have h2 := stripI_tot (u := u) d.items
 show itots (d.items.map (stripI u)) + (cleanT u d.trailer).tot ≤ itots d.items + d.trailer.tot
 omega
theorem filter_tot (l : List Itm) (p : Itm → Bool) : itots (l.filter p) ≤ itots l := by
 unfold itots
 induction l with
 | nil => simp
 | cons i l ih =>
  rw [List.filter_cons]
  split
  ·simp only [List.map_cons, List.sum_cons]; omega
  ·simp only [List.map_cons, List.sum_cons]; omega
theorem cleanC_tot (d : Dc) : (cleanC u d).tot ≤ d.tot := by
 have h1 := cleanX_tot (u := u) d
 have h2 := filter_tot (cleanX u d).items fun i => decide (i.num ∈ cleanR u d)
 have h3 : (cleanX u d).tot = itots (cleanX u d).items + (cleanX u d).trailer.tot := rfl
 show itots ((cleanX u d).items.filter fun i => decide (i.num ∈ cleanR u d)) + (cleanX u d).trailer.tot ≤ d.tot
 omega
/-- the items kept up to 'i', and this one if it is among the first 'k' numbers -/
def outL (X : List Itm) (R : List Int) (i k : Nat) : List Itm := ((X.take i).filter fun x => decide (x.num ∈ R)) ++ if (X.getD i Itm.zero).num ∈ R.take k then [X.getD i Itm.zero] else []
def outF (X : List Itm) (R : List Int) (i : Nat) : List Itm := (X.take i).filter fun x => decide (x.num ∈ R)
attribute [irreducible] outL outF
end Aw

namespace Go.Proofs
open Go Aw
set_option linter.unusedSimpArgs false
set_option linter.unusedVariables false
set_option maxRecDepth 100000
set_option maxHeartbeats 2000000
attribute [local go_sem] take_itemsAV app_itemsAV itemsAV_length
end Go.Proofs

namespace Aw
open Go
def ksum (l : List (List UInt8)) : Int := (l.map fun k => (k.length : Int)).sum
theorem ksum_take {l : List (List UInt8)} {i : Nat} (h : i < l.length) : ksum (l.take (i + 1)) = ksum (l.take i) + (l.getD i []).length := by
 unfold ksum
 rw [List.take_succ_eq_append_getElem h, List.map_append, List.sum_append]
 simp [List.getD, h]
theorem ksum_nn (l : List (List UInt8)) : 0 ≤ ksum l := by
 unfold ksum
 induction l with
 | nil => simp
 | cons k l ih => simp only [List.map_cons, List.sum_cons]; omega
theorem ksum_get {l : List (List UInt8)} {i : Nat} (h : i < l.length) : ksum (l.take i) + (l.getD i []).length ≤ ksum l := by
 rw [← ksum_take h]
 have e : ksum l = ksum (l.take (i + 1)) + ksum (l.drop (i + 1)) := by
  unfold ksum
  rw [← List.sum_append, ← List.map_append, List.take_append_drop]
 have := ksum_nn (l.drop (i + 1))
 omega
def lightB (l : List (List UInt8)) : Bool := bif decide ((l.length : Int) ≤ 20) then decide (ksum l ≤ 1000) else false
def smallB (d : Dc) : Bool := bif decide ((d.items.length : Int) ≤ 60) then decide ((d.size : Int) ≤ 3000) else false
def dict1 (k : List UInt8) (v : Pob) : Pob := .mk 7 0 0 [] [k] [v]
variable {u : List (List UInt8)}
theorem ks_sizes (l : List (List UInt8)) : l.length ≤ (l.map fun k => k.length + 1).sum ∧ ksum l ≤ ((l.map fun k => k.length + 1).sum : Nat) := by
 unfold ksum
 induction l with
 | nil => simp
 | cons k l ih => simp only [List.map_cons, List.sum_cons, List.length_cons]; omega
end Aw

namespace Go.Proofs
open Go Aw
set_option linter.unusedSimpArgs false
set_option linter.unusedVariables false
set_option maxRecDepth 100000
set_option maxHeartbeats 2000000
theorem takeInt_succ {a b : List Int} {i : Nat} (h : i < a.length) (hl : a.length = b.length) (he : a.take i = b.take i) (hg : a.getD i 0 = b.getD i 0) : a.take (i + 1) = b.take (i + 1) := by
 rw [List.take_add_one, List.take_add_one, he]
 rw [List.getD, List.getD] at hg
 rw [List.getElem?_eq_getElem h, List.getElem?_eq_getElem (show i < b.length by omega)] at hg ⊢
 simp only [Option.getD_some] at hg
 rw [hg]
theorem c_foliantref05_Ints (gl : List (Nat × AV)) (a b : List Int) (ha : a.length ≤ 16777216 := by first | omega | exact u8_le _ | assumption | (simp; done) | (simp; omega)) : FnP Tryz.prog (gl) 17 [.sl (intsAV a), .sl (intsAV b)] fun r => r = .ret (.bool (decide (a = b))) := by
 refine FnP.intro Tryz.func17 rfl rfl (by simp [Tryz.ntmps17]) ?_
 simp only [argEnv, Tryz.ntmps17, Tryz.results17]
 refine AW.rS ?_
 refine AW.seq ?_
 refine AW.rS ?_
 refine AW.c2 ?_ ?_
 ·intro h4
  refine AW.rS ?_
  refine AW.rt ?_
  rw [decide_eq_false (fun e => h4 (by rw [e]))]
 ·intro h4
  refine AW.skip ?_
  refine AW.seq ?_
  refine AW.rS ?_
  refine AW.block ?_
  refine AW.lk (S := { i : Nat // i ≤ a.length ∧ a.take i = b.take i }) [0, 1, 12] (fun s_ => [(13, .int .i64 s_.1)]) (fun s_ => []) 0 (fun s_ => a.length - s_.1) ⟨0, Nat.zero_le _, rfl⟩ ?_ ?_
  ·refine St.le.vw []
  rintro ⟨i, hi, hs⟩
  try dsimp only at hi
  try dsimp only at hs
  refine AW.rS ?_
  refine AW.seq ?_
  refine AW.c2 ?_ ?_
  ·intro h15
   refine AW.skip ?_
   refine AW.seq ?_
   refine AW.block ?_
   refine AW.rS ?_
   refine AW.dS [(0, 0), (1, 0), (2, 1), (3, 1), (4, 0), (5, 0), (6, 1), (7, 1), (8, 0)] ?_
   refine AW.c2 ?_ ?_
   ·intro h21
    refine AW.rS ?_
    refine AW.rt ?_
    rw [decide_eq_false (fun e => h21 (by rw [e]))]
   ·intro h21
    refine AW.skip ?_
    refine AW.rL ?_
    refine ⟨⟨i + 1, by omega, takeInt_succ h15 (by omega) hs h21⟩, ?_, ?_⟩
    ·refine St.le.vw []
    ·simp only []; omega
  ·intro h15
   refine AW.exit ?_
   refine AW.rS ?_
   refine AW.rt ?_
   rw [List.take_of_length_le (by omega), List.take_of_length_le (by omega)] at hs
   simp [hs]
end Go.Proofs

set_option linter.unusedVariables false
set_option linter.unusedSimpArgs false
namespace Aw
open Go
end Aw

namespace Go.Proofs
open Go.Shelf
open Go.RowKit Go.Lib in
open Aw
set_option linter.unusedSimpArgs false
set_option linter.unusedVariables false
set_option maxRecDepth 100000
set_option maxHeartbeats 2000000
end Go.Proofs

set_option linter.unusedVariables false
set_option linter.unusedSimpArgs false
namespace Aw
open Go
abbrev Prs := List (List UInt8 × Pob)
def pairsAV (l : Prs) : List (List AV) := l.map fun p => [.str p.1, .int .i64 p.2.kind, .int .i64 p.2.num, .int .i64 p.2.gen, .str p.2.str, .sl (strsAV p.2.keys), .sl (objsAV p.2.kids)]
theorem pairsAV_ok (l : Prs) : (∀ e ∈ pairsAV l, okRow 7 e = true) = True := by
 simp only [pairsAV, List.mem_map, eq_iff_iff, iff_true]
 rintro e ⟨b, _, rfl⟩
 rfl
theorem pairsAV_len7 (l : Prs) : (∀ e ∈ pairsAV l, e.length = 7) = True := by
 simp only [pairsAV, List.mem_map, eq_iff_iff, iff_true]
 rintro e ⟨b, _, rfl⟩
 rfl
end Aw
namespace Aw
open Go
end Aw

namespace Aw
open Go
/-! the new document -/
end Aw

namespace Go.Proofs
open Go Aw
set_option linter.unusedSimpArgs false
set_option linter.unusedVariables false
set_option maxRecDepth 100000
set_option maxHeartbeats 2000000
attribute [local go_sem] pairsAV_ok pairsAV_len7
end Go.Proofs

set_option linter.unusedVariables false
set_option linter.unusedSimpArgs false
namespace Aw
open Go
section
variable {d : Dc} {k t : List UInt8} {v : Pob}
end
end Aw

namespace Go.Proofs
open Go Aw
set_option linter.unusedSimpArgs false
set_option linter.unusedVariables false
set_option maxRecDepth 100000
set_option maxHeartbeats 2000000
theorem c_foliantref05_Int (gl : List (Nat × AV)) (n : Int) : FnP Tryz.prog (gl) 30 [.int .i64 n] fun r => r = .ret (.agg (intO n).cells) := by
 refine FnP.intro Tryz.func30 rfl rfl (by simp [Tryz.ntmps30]) ?_
 simp only [argEnv, Tryz.ntmps30, Tryz.results30]
 refine AW.rS ?_
 refine AW.rS ?_
 refine AW.rt ?_
 all_goals first | contradiction | rfl | (simp; done) | (simp; omega)
theorem c_foliantref05_Ref (gl : List (Nat × AV)) (n g : Int) : FnP Tryz.prog (gl) 26 [.int .i64 n, .int .i64 g] fun r => r = .ret (.agg (refO n g).cells) := by
 refine FnP.intro Tryz.func26 rfl rfl (by simp [Tryz.ntmps26]) ?_
 simp only [argEnv, Tryz.ntmps26, Tryz.results26]
 refine AW.rS ?_
 refine AW.rS ?_
 refine AW.rt ?_
 all_goals first | contradiction | rfl | (simp; done) | (simp; omega)
theorem c_foliantref05_Key (gl : List (Nat × AV)) (s : List UInt8) : FnP Tryz.prog (gl) 27 [.str s] fun r => r = .ret (.agg (nameO s).cells) := by
 refine FnP.intro Tryz.func27 rfl rfl (by simp [Tryz.ntmps27]) ?_
 simp only [argEnv, Tryz.ntmps27, Tryz.results27]
 refine AW.rS ?_
 refine AW.rS ?_
 refine AW.rt ?_
 all_goals first | contradiction | rfl | (simp; done) | (simp; omega)
theorem c_foliantref05_Array (gl : List (Nat × AV)) (l : List Pob) : FnP Tryz.prog (gl) 29 [.sl (objsAV l)] fun r => r = .ret (.agg (arrO l).cells) := by
 refine FnP.intro Tryz.func29 rfl rfl (by simp [Tryz.ntmps29]) ?_
 simp only [argEnv, Tryz.ntmps29, Tryz.results29]
 refine AW.rS ?_
 refine AW.rS ?_
 refine AW.rt ?_
 all_goals first | contradiction | rfl | (simp; done) | (simp; omega)
end Go.Proofs

namespace Go.Proofs
open Go Aw
set_option linter.unusedSimpArgs false
set_option linter.unusedVariables false
set_option maxRecDepth 100000
set_option maxHeartbeats 2000000
theorem c_foliantlaw31_light (gl : List (Nat × AV)) (l : List (List UInt8)) (hl : l.length ≤ 16777216) (hs : ksum l ≤ 16777216) : FnP Tryz.prog (gl) 7 [.sl (strsAV l)] fun r => r = .ret (.bool (lightB l)) := by
 refine FnP.intro Tryz.func7 rfl rfl (by simp [Tryz.ntmps7]) ?_
 simp only [argEnv, Tryz.ntmps7, Tryz.results7]
 refine AW.rS ?_
 refine AW.rS ?_
 refine AW.seq ?_
 refine AW.rS ?_
 refine AW.block ?_
 refine AW.lk (S := { i : Nat // i ≤ l.length }) [0] (fun s_ => [(3, .int .i64 (ksum (l.take s_.1))), (4, .int .i64 s_.1)]) (fun s_ => []) 0 (fun s_ => l.length - s_.1) ⟨0, Nat.zero_le _⟩ ?_ ?_
 ·refine St.le.vw []
 rintro ⟨i, hi⟩
 try dsimp only at hi
 refine AW.seq ?_
 refine AW.rS ?_
 refine AW.c2 ?_ ?_
 ·intro h9
  have hkt := ksum_take h9
  have hkg := ksum_get h9
  have hkn := ksum_nn (l.take i)
  refine AW.skip ?_
  refine AW.seq ?_
  refine AW.block ?_
  refine AW.rL ?_
  refine AW.rL ?_
  refine ⟨⟨i + 1, by omega⟩, ?_, ?_⟩
  ·refine St.le.vw []
  ·simp only []; omega
 ·intro h9
  refine AW.exit ?_
  obtain rfl : i = l.length := by omega
  rw [List.take_length]
  refine AW.rS ?_
  refine AW.rt ?_
  rfl
theorem c_foliantlaw31_small (gl : List (Nat × AV)) (d : Dc) (h : d.bulk ≤ 16777216) (hp : d.size ≤ 4611686018427387904) : FnP Tryz.prog (gl) 13 [.agg d.cells] fun r => r = .ret (.bool (smallB d)) := by
 refine FnP.intro Tryz.func13 rfl rfl (by simp [Tryz.ntmps13]) ?_
 simp only [argEnv, Tryz.ntmps13, Tryz.results13]
 refine AW.rS ?_
 refine AW.rSC ?_
 refine awOps.cons (awGuard.cG (fun hg => c_foliantref19_Size _ d h hp) ?_)
 refine awOps.rn ?_
 refine AW.rt ?_
 all_goals first | contradiction | rfl | (simp; done) | (simp; omega)
theorem c_foliantlaw31_dict (gl : List (Nat × AV)) (k : List UInt8) (v : Pob) : FnP Tryz.prog (gl) 25 [.str k, .agg v.cells] fun r => r = .ret (.agg (dict1 k v).cells) := by
 refine FnP.intro Tryz.func25 rfl rfl (by simp [Tryz.ntmps25]) ?_
 simp only [argEnv, Tryz.ntmps25, Tryz.results25]
 refine AW.rS ?_
 refine AW.rS ?_
 refine AW.rt ?_
 ·simp [dict1, Pob.kind, Pob.num, Pob.gen, Pob.str, Pob.keys, Pob.kids, objsAV, strsAV, Pob.cells_eq]
 all_goals first | contradiction | rfl | (simp; done) | (simp; omega)
end Go.Proofs

namespace Aw
open Go
theorem sortI_id {s t : List Int} (ht : t.Pairwise (· < ·)) (hp : s.Perm t) : sortI s = t := by
 have hn : s.Nodup := hp.nodup_iff.2 (ht.imp fun h => Int.ne_of_lt h)
 exact lt_ext (sortI_lt hn) ht (fun n => by rw [sortI_mem]; exact hp.mem_iff)
end Aw

namespace Go.Proofs
open Go Aw
set_option linter.unusedSimpArgs false
set_option linter.unusedVariables false
set_option maxRecDepth 100000
set_option maxHeartbeats 4000000
def cOpen : List UInt8 := [79, 112, 101, 110, 65, 99, 116, 105, 111, 110]
def cNil : Pob := .mk 7 0 0 [] [] []
def clD : Dc := ⟨[⟨1, 0, dict1 [79, 112, 101, 110, 65, 99, 116, 105, 111, 110] (refO 2 0)⟩, ⟨2, 0, dict1 [83] (nameO [120])⟩], dict1 [82, 111, 111, 116] (refO 1 0)⟩
def clX : Dc := ⟨[⟨1, 0, cNil⟩, ⟨2, 0, dict1 [83] (nameO [120])⟩], dict1 [82, 111, 111, 116] (refO 1 0)⟩
def clY : Dc := ⟨[⟨1, 0, cNil⟩], dict1 [82, 111, 111, 116] (refO 1 0)⟩
def clS : Pob := arrO [dict1 [97] (dict1 [98] (intO 1))]
def clT : Pob := arrO [dict1 [97] cNil]
theorem lc1 : docE clD = 0 := by decide +kernel
theorem lc2 : cleanX usualKs clD = clX := by decide +kernel
theorem lc3 : cleanX [cOpen] clD = clX := by decide +kernel
theorem lc4 : cleanX [] clD = clD := by decide +kernel
theorem lc5 : docE clX = 0 := by decide +kernel
theorem lc6 : chk clX.trailer 1 = 0 := by decide +kernel
theorem lc7 : chk clD.trailer 1 = 0 := by decide +kernel
theorem lc8 : reachS clX.items clX.trailer = [1] := by decide +kernel
theorem lc9 : reachS clD.items clD.trailer = [1, 2] := by decide +kernel
theorem lc10 : docE Dc.zero = 10 := by decide +kernel
theorem ld1 : fromP clX clX.trailer = [1] := by rw [fromP, if_pos ⟨lc5, lc6⟩, lc8]; exact sortI_id (by decide) (.refl _)
theorem ld2 : fromP clD clD.trailer = [1, 2] := by rw [fromP, if_pos ⟨lc1, lc7⟩, lc9]; exact sortI_id (by decide) (.refl _)
theorem ld3 : cleanD usualKs clD = clY := by
 rw [cleanD, if_neg (by rw [lc1]; decide), cleanC, cleanR, lc2, ld1]
 rfl
theorem ld4 : cleanD [cOpen] clD = clY := by
 rw [cleanD, if_neg (by rw [lc1]; decide), cleanC, cleanR, lc3, ld1]
 rfl
theorem ld5 : cleanD [] clD = clD := by
 rw [cleanD, if_neg (by rw [lc1]; decide), cleanC, cleanR, lc4, ld2]
 rfl
theorem ld6 : cleanD [] Dc.zero = Dc.zero := by rw [cleanD, if_pos (by rw [lc10]; decide)]
theorem ld7 : leftP [cOpen] clD = [2] := by
 rw [leftP, if_neg (by rw [lc1]; decide)]
 have e : leftI [cOpen] clD = fun i => !(lookI clY.items i.num).isSome := by
  funext i
  rw [leftI, ld4]
 rw [e]
 decide +kernel
theorem ld8 : (if chk clS 1 = 0 then stripO [[98]] clS else clS) = clT := by decide +kernel
theorem le1 : clD.bulk ≤ 16777000 := by decide +kernel
theorem le2 : Dc.zero.bulk ≤ 16777000 := by decide +kernel
theorem le3 : clS.bulk ≤ 16777000 := by decide +kernel
theorem ce1 (gl : List (Nat × AV)) : FnP Tryz.prog gl 14 [.agg clD.cells, .sl (strsAV usualKs)] fun r => r = .ret (.tup [.agg clY.cells, .int .i64 0]) := by
 have h := c_clean_Doc gl clD usualKs le1 (by decide)
 rw [ld3, lc1] at h
 exact h
theorem ce2 (gl : List (Nat × AV)) : FnP Tryz.prog gl 14 [.agg clD.cells, .sl (strsAV [])] fun r => r = .ret (.tup [.agg clD.cells, .int .i64 0]) := by
 have h := c_clean_Doc gl clD [] le1 (by decide)
 rw [ld5, lc1] at h
 exact h
theorem ce3 (gl : List (Nat × AV)) : FnP Tryz.prog gl 14 [.agg Dc.zero.cells, .sl (strsAV [])] fun r => r = .ret (.tup [.agg Dc.zero.cells, .int .i64 10]) := by
 have h := c_clean_Doc gl Dc.zero [] le2 (by decide)
 rw [ld6, lc10] at h
 exact h
theorem ce4 (gl : List (Nat × AV)) : FnP Tryz.prog gl 18 [.agg clD.cells, .sl (strsAV [cOpen])] fun r => r = .ret (.sl (intsAV [2])) := by
 have h := c_clean_Left gl clD [cOpen] le1 (by decide)
 rw [ld7] at h
 exact h
theorem ce5 (gl : List (Nat × AV)) : FnP Tryz.prog gl 11 [.agg clS.cells, .sl (strsAV [[98]])] fun r => r = .ret (.agg clT.cells) := by
 have h := c_clean_Strip gl [[98]] clS le3 (by decide)
 rw [ld8] at h
 exact h
theorem c_law31_lives (gl : List (Nat × AV))  : FnP Tryz.prog (gl) 9 [] fun r => r = .ret (.bool true) := by
 refine FnP.intro Tryz.func9 rfl rfl (by simp [Tryz.ntmps9]) ?_
 simp only [argEnv, Tryz.ntmps9, Tryz.results9]
 have hyl : clY.items.length = 1 := rfl
 refine AW.rS ?_
 refine AW.trim [] ?_
 refine AW.rSC ?_
 refine awOps.cons (awGuard.c1 (c_foliantref05_Ref _ 2 0) ?_)
 refine awOps.rn ?_
 refine awOps.cons (awGuard.c1 (c_foliantlaw31_dict _ [79, 112, 101, 110, 65, 99, 116, 105, 111, 110] (refO 2 0)) ?_)
 refine awOps.rn ?_
 refine awOps.cons (awGuard.c1 (c_foliantref05_Key _ [120]) ?_)
 refine awOps.rn ?_
 refine awOps.cons (awGuard.c1 (c_foliantlaw31_dict _ [83] (nameO [120])) ?_)
 refine awOps.rn ?_
 refine awOps.cons (awGuard.c1 (c_foliantref05_Ref _ 1 0) ?_)
 refine awOps.rn ?_
 refine awOps.cons (awGuard.c1 (c_foliantlaw31_dict _ [82, 111, 111, 116] (refO 1 0)) ?_)
 refine awOps.rn ?_
 refine AW.trim [1] ?_
 refine AW.fz [0] ?_
 refine wk ?_
 refine AW.tG (σf := ?sf2) (.fork 0 (.fork 1 (.fork 2 (.take 3 0 (.take 4 0 (.take 5 0 (.fork 6 (.fork 7 (.take 8 0 .done) .stop) .stop)))) (.fork 6 (.fork 2 (.take 3 0 (.take 4 0 (.take 5 0 (.fork 7 (.take 8 0 .done) .stop)))) .stop) .stop)) (.fork 6 (.fork 1 (.fork 2 (.take 3 0 (.take 4 0 (.take 5 0 (.fork 7 (.take 8 0 .done) .stop)))) .stop) .stop) .stop)) (.fork 1 (.fork 0 (.fork 2 (.take 3 0 (.take 4 0 (.take 5 0 (.fork 6 (.fork 7 (.take 8 0 .done) .stop) .stop)))) (.fork 6 (.fork 2 (.take 3 0 (.take 4 0 (.take 5 0 (.fork 7 (.take 8 0 .done) .stop)))) .stop) .stop)) (.fork 6 (.fork 0 (.fork 2 (.take 3 0 (.take 4 0 (.take 5 0 (.fork 7 (.take 8 0 .done) .stop)))) .stop) .stop) .stop)) (.fork 6 (.fork 0 (.fork 1 (.fork 2 (.take 3 0 (.take 4 0 (.take 5 0 (.fork 7 (.take 8 0 .done) .stop)))) .stop) .stop) (.fork 1 (.fork 0 (.fork 2 (.take 3 0 (.take 4 0 (.take 5 0 (.fork 7 (.take 8 0 .done) .stop)))) .stop) .stop) .stop)) .stop))) ?tree2 ?rest2
 case tree2 =>
  refine awTree.fA ?_ ?_
  ·refine awTree.fC (c_clean_Usual _) ?_ ?_
   ·refine awTree.fC (ce1 _) ?_ ?_
    ·refine awTree.tk ?_
     refine awTree.tk ?_
     refine awTree.tk ?_
     refine awTree.fA ?_ ?_
     ·refine awTree.fA ?_ ?_
      ·refine awTree.tk ?_
       exact awTree.dn
      ·exact trivial
     ·exact trivial
    ·refine awTree.fA ?_ ?_
     ·refine awTree.fC (ce1 _) ?_ ?_
      ·refine awTree.tk ?_
       refine awTree.tk ?_
       refine awTree.tk ?_
       refine awTree.fA ?_ ?_
       ·refine awTree.tk ?_
        exact awTree.dn
       ·exact trivial
      ·exact trivial
     ·exact trivial
   ·refine awTree.fA ?_ ?_
    ·refine awTree.fC (c_clean_Usual _) ?_ ?_
     ·refine awTree.fC (ce1 _) ?_ ?_
      ·refine awTree.tk ?_
       refine awTree.tk ?_
       refine awTree.tk ?_
       refine awTree.fA ?_ ?_
       ·refine awTree.tk ?_
        exact awTree.dn
       ·exact trivial
      ·exact trivial
     ·exact trivial
    ·exact trivial
  ·refine awTree.fC (c_clean_Usual _) ?_ ?_
   ·refine awTree.fA ?_ ?_
    ·refine awTree.fC (ce1 _) ?_ ?_
     ·refine awTree.tk ?_
      refine awTree.tk ?_
      refine awTree.tk ?_
      refine awTree.fA ?_ ?_
      ·refine awTree.fA ?_ ?_
       ·refine awTree.tk ?_
        exact awTree.dn
       ·exact trivial
      ·exact trivial
     ·refine awTree.fA ?_ ?_
      ·refine awTree.fC (ce1 _) ?_ ?_
       ·refine awTree.tk ?_
        refine awTree.tk ?_
        refine awTree.tk ?_
        refine awTree.fA ?_ ?_
        ·refine awTree.tk ?_
         exact awTree.dn
        ·exact trivial
       ·exact trivial
      ·exact trivial
    ·refine awTree.fA ?_ ?_
     ·refine awTree.fA ?_ ?_
      ·refine awTree.fC (ce1 _) ?_ ?_
       ·refine awTree.tk ?_
        refine awTree.tk ?_
        refine awTree.tk ?_
        refine awTree.fA ?_ ?_
        ·refine awTree.tk ?_
         exact awTree.dn
        ·exact trivial
       ·exact trivial
      ·exact trivial
     ·exact trivial
   ·refine awTree.fA ?_ ?_
    ·refine awTree.fA ?_ ?_
     ·refine awTree.fC (c_clean_Usual _) ?_ ?_
      ·refine awTree.fC (ce1 _) ?_ ?_
       ·refine awTree.tk ?_
        refine awTree.tk ?_
        refine awTree.tk ?_
        refine awTree.fA ?_ ?_
        ·refine awTree.tk ?_
         exact awTree.dn
        ·exact trivial
       ·exact trivial
      ·exact trivial
     ·refine awTree.fC (c_clean_Usual _) ?_ ?_
      ·refine awTree.fA ?_ ?_
       ·refine awTree.fC (ce1 _) ?_ ?_
        ·refine awTree.tk ?_
         refine awTree.tk ?_
         refine awTree.tk ?_
         refine awTree.fA ?_ ?_
         ·refine awTree.tk ?_
          exact awTree.dn
         ·exact trivial
        ·exact trivial
       ·exact trivial
      ·exact trivial
    ·exact trivial
 case rest2 =>
 skip
 skip
 skip
 skip
 skip
 refine AW.trim [1, 2, 3] ?_
 refine AW.rSC ?_
 refine awOps.cons (awGuard.c1 (ce2 _) ?_)
 refine awOps.rn ?_
 refine AW.trim [1, 2, 3, 4, 5] ?_
 refine AW.rSC ?_
 refine awOps.cons (awGuard.c1 (ce3 _) ?_)
 refine awOps.rn ?_
 refine AW.trim [1, 2, 3, 4, 5, 7] ?_
 refine AW.rSC ?_
 refine awOps.cons (awGuard.c1 (c_foliantref05_Int _ 1) ?_)
 refine awOps.rn ?_
 refine awOps.cons (awGuard.c1 (c_foliantlaw31_dict _ [98] (intO 1)) ?_)
 refine awOps.rn ?_
 refine awOps.cons (awGuard.c1 (c_foliantlaw31_dict _ [97] (dict1 [98] (intO 1))) ?_)
 refine awOps.rn ?_
 refine awOps.cons (awGuard.c1 (c_foliantref05_Array _ [dict1 [97] (dict1 [98] (intO 1))]) ?_)
 refine awOps.rn ?_
 refine awOps.cons (awGuard.c1 (ce5 _) ?_)
 refine awOps.rn ?_
 refine AW.trim [1, 2, 3, 4, 5, 7, 8] ?_
 refine wk ?_
 refine AW.fS [0, 1, 2, 3, 4, 5, 6, 7, 8, 9, 10, 11, 12, 13, 14, 15, 16, 17, 18, 19, 20, 21, 22, 23, 24, 25, 26, 27, 28, 29, 30, 31, 32, 33, 34, 35, 36, 37, 38, 39, 40, 41, 42, 43, 44, 45, 46, 47, 48, 49, 50, 51, 52, 53, 54, 55, 56, 57, 58, 59] [] ?_
 refine awFun.rn ?_
 refine awFun.cG [72, 73, 74] (fun hg => c_foliantref19_Same _ clD clD (by decide +kernel)) ?_
 refine awFun.rn ?_
 refine awFun.bsG [81] ?_
 refine awFun.rn ?_
 refine awFun.cG [81, 82, 83] (fun hg => ce4 _) ?_
 refine awFun.rn ?_
 refine awFun.bsG [81] ?_
 refine awFun.rn ?_
 refine awFun.cG [81, 84, 85] (fun hg => c_foliantref05_Ints _ [2] [2] (by decide)) ?_
 refine awFun.rn ?_
 refine awFun.efG [88] ?_
 refine awFun.rn ?_
 refine awFun.cG [88, 90] (fun hg => c_foliantlaw31_dict _ [97] cNil) ?_
 refine awFun.rn ?_
 refine awFun.bsG [88, 91] ?_
 refine awFun.rn ?_
 refine awFun.cG [88, 92] (fun hg => c_foliantref05_Array _ [dict1 [97] cNil]) ?_
 refine awFun.rn ?_
 refine awFun.cG [88, 89, 93] (fun hg => c_foliantref05_Same _ clT clT (by decide +kernel)) ?_
 refine awFun.rn ?_
 refine awFun.cG [96] (fun hg => c_clean_Usual _) ?_
 refine awFun.rn ?_
 refine awFun.cG [96] (fun hg => c_foliantref31_Usual _) ?_
 refine awFun.rn ?_
 refine awFun.cG [96, 97, 98] (fun hg => c_foliantref05_Texts _ usualKs usualKs (by decide)) ?_
 refine awFun.rn ?_
 rw [Aw.awFun_nil, Aw.awPlan_nil]
 refine AW.trim [0] ?_
 refine AW.rt ?_
 all_goals first | contradiction | rfl | (simp; done) | (simp; omega)
end Go.Proofs

namespace Go.Proofs
open Go Aw
set_option linter.unusedSimpArgs false
set_option linter.unusedVariables false
set_option maxRecDepth 100000
set_option maxHeartbeats 4000000
theorem any_bif {α : Type} {l : List α} {i : Nat} {d : α} {p : α → Bool} (h : i < l.length) : (bif (l.take i).any p then true else p (l.getD i d)) = (l.take (i + 1)).any p := by
 rw [any_take (d := d) h]
 cases (l.take i).any p <;> rfl
theorem getD_mem0 {l : List Int} {k : Nat} (h : k < l.length) : l.getD k 0 ∈ l := by
 rw [List.getD_eq_getElem?_getD, List.getElem?_eq_getElem h]
 exact List.getElem_mem _
theorem c_clean_DocC (gl : List (Nat × AV)) (ks : List (List UInt8)) (d : Dc) (h0 : docE d = 0) (h : d.bulk ≤ 16777000) (hl : ks.length ≤ 16777216) : FnP Tryz.prog gl 14 [.agg d.cells, .sl (strsAV ks)] fun r => r = .ret (.tup [.agg (cleanC ks d).cells, .int .i64 0]) := by
 have hc := c_clean_Doc gl d ks h hl
 rw [(clean_facts (u := ks) h0 (by omega)).e, h0] at hc
 exact hc
theorem c_clean_DocA (gl : List (Nat × AV)) (ks : List (List UInt8)) (d : Dc) (h0 : docE d = 0) (h : d.bulk ≤ 16777000) (hb : (cleanC ks d).bulk ≤ 16777000) (hl : ks.length ≤ 16777216) : FnP Tryz.prog gl 14 [.agg (cleanC ks d).cells, .sl (strsAV ks)] fun r => r = .ret (.tup [.agg (cleanC ks d).cells, .int .i64 0]) := by
 have hcf := clean_facts (u := ks) h0 (by omega)
 have hc := c_clean_DocC gl ks (cleanC ks d) hcf.c0 hb hl
 rw [hcf.again h0 (by omega)] at hc
 exact hc
theorem c_law_CleanReached (gl : List (Nat × AV)) (d : Dc) (ks : List (List UInt8)) (hd : d.tot ≤ 1048576) (hk : (ks.map fun k => k.length + 1).sum ≤ 1048576) : FnP Tryz.prog (gl) 5 [.agg d.cells, .sl (strsAV ks)] fun r => r = .ret (.bool true) := by
 refine FnP.intro Tryz.func5 rfl rfl (by simp [Tryz.ntmps5]) ?_
 simp only [argEnv, Tryz.ntmps5, Tryz.results5]
 have hb := Dc.bulk_tot d
 have hp := Dc.size_tot d
 have hks := ks_sizes ks
 have hb8 : d.bulk = ibulk d.items + d.trailer.bulk := rfl
 have hb9 := ibulk_len d.items
 refine AW.rS ?_
 refine AW.trim [1, 2] ?_
 refine AW.seq ?_
 refine AW.rSC ?_
 refine awOps.cons (awGuard.c1 (c_foliantlaw31_light _ ks (by omega) (by omega)) ?_)
 refine awOps.rn ?_
 refine awOps.cons (awGuard.cG (fun hg => c_foliantlaw31_small _ d (by omega) (by omega)) ?_)
 refine awOps.rn ?_
 refine awOps.cons (awGuard.cG (fun hg => c_foliantref19_Check _ d (by omega)) ?_)
 refine awOps.rn ?_
 refine AW.trim [1, 2, 29] ?_
 refine AW.c2 ?_ ?_
 ·intro h10
  refine AW.rSC ?_
  refine awOps.cons (awGuard.c1 (c_law31_lives _) ?_)
  refine awOps.rn ?_
  refine AW.trim [4] ?_
  refine AW.rt ?_
  all_goals first | contradiction | rfl | (simp; done) | (simp; omega)
 ·intro h10
  have hd0 : docE d = 0 := h10.2
  have hcf := clean_facts (u := ks) hd0 (by omega)
  have hxt := cleanC_tot (u := ks) d
  have hxb := Dc.bulk_tot (cleanC ks d)
  have hx8 : (cleanC ks d).bulk = ibulk (cleanC ks d).items + (cleanC ks d).trailer.bulk := rfl
  have hx9 := ibulk_len (cleanC ks d).items
  have hrl := rr_len (cleanC ks d).trailer
  have hfo := from_one (d := cleanC ks d) (o := (cleanC ks d).trailer) (by omega)
  have hfl := fromP_len (cleanC ks d) (cleanC ks d).trailer
  have hll := lost_one (cleanC ks d)
  have hl0 := hcf.lost hd0 (by omega)
  have hc0 := hcf.c0
  have hlf := hcf.left hd0
  refine AW.skip ?_
  refine AW.rSC ?_
  refine awOps.cons (awGuard.c1 (c_clean_DocC _ ks d hd0 (by omega) (by omega)) ?_)
  refine awOps.rn ?_
  refine AW.trim [1, 2, 5, 6] ?_
  refine AW.seq ?_
  refine AW.rSC ?_
  refine awOps.cons (awGuard.cG (fun hg => c_foliantref19_Check _ (cleanC ks d) (by omega)) ?_)
  refine awOps.rn ?_
  refine awOps.cons (awGuard.cG (fun hg => c_foliantref29_Lost _ (cleanC ks d) (by omega) hfo (by omega)) ?_)
  refine awOps.rn ?_
  refine AW.trim [1, 2, 5, 49] ?_
  refine AW.c2 ?_ ?_
  ·intro h26
   exfalso
   rw [hll, hl0, hc0] at h26
   simp at h26
  ·intro h26
   refine AW.skip ?_
   refine AW.rSC ?_
   refine awOps.cons (awGuard.c1 (c_clean_DocA _ ks d hd0 (by omega) (by omega) (by omega)) ?_)
   refine awOps.rn ?_
   refine AW.trim [1, 2, 5, 7, 8] ?_
   refine AW.seq ?_
   refine AW.fS [0, 1, 2, 3, 4, 5, 6, 7, 8, 9, 10, 13, 14, 15, 17, 18, 19, 11, 12, 16, 20, 21] [] ?_
   refine awFun.rn ?_
   refine awFun.cG [58, 59, 60] (fun hg => c_foliantref19_Same _ (cleanC ks d) (cleanC ks d) (by omega)) ?_
   refine awFun.rn ?_
   refine awFun.cG [64, 65, 66] (fun hg => c_clean_Left _ d ks (by omega) (by omega)) ?_
   refine awFun.rn ?_
   rw [Aw.awFun_nil, Aw.awPlan_nil]
   refine AW.trim [1, 2, 5, 77] ?_
   refine AW.c2 ?_ ?_
   ·intro h42
    exfalso
    simp at h42
    omega
   ·intro h42
    refine AW.skip ?_
    refine AW.fS [0, 2, 1, 3, 4, 5] [] ?_
    refine awFun.rn ?_
    refine awFun.c1 [78] (c_foliantref29_Dangling _ (cleanC ks d) (by omega)) ?_
    refine awFun.rn ?_
    refine awFun.c1 [80] (c_foliantref29_Dangling _ d (by omega)) ?_
    refine awFun.rn ?_
    rw [Aw.awFun_nil, Aw.awPlan_nil]
    have hd1 := dang_one (cleanC ks d)
    have hd2 := dang_one d
    have hd3 := danglingP_len (cleanC ks d)
    have hd4 := danglingP_len d
    have hdg := hcf.dang hd0
    rw [← hd1] at hd3
    rw [← hd2] at hd4
    rw [← hd1, ← hd2] at hdg
    refine AW.trim [1, 2, 5, 9, 10] ?_
    refine AW.seq ?_
    refine AW.rS ?_
    refine AW.trim [1, 2, 5, 9, 10, 11] ?_
    refine AW.block ?_
    refine AW.lk (S := { i : Nat // i ≤ (dangR (cleanC ks d)).length }) [1, 2, 5, 9, 10] (fun s_ => [(11, .int .i64 s_.1)]) (fun s_ => [(0, .cells d.cells), (1, .cells (cleanC ks d).cells)]) 2 (fun s_ => (dangR (cleanC ks d)).length - s_.1) ⟨0, Nat.zero_le _⟩ ?_ ?_
    ·refine St.le.vw [0, 1]
    rintro ⟨i, hi⟩
    try dsimp only at hi
    refine AW.seq ?_
    refine AW.rS ?_
    refine AW.trim [1, 2, 5, 9, 10, 11, 85] ?_
    refine AW.c2 ?_ ?_
    ·intro h60
     refine AW.skip ?_
     refine AW.seq ?_
     refine AW.block ?_
     refine AW.rS ?_
     refine AW.trim [1, 2, 5, 9, 10, 11, 12] ?_
     refine AW.seq ?_
     refine AW.rS ?_
     refine AW.trim [1, 2, 5, 9, 10, 11, 12, 13] ?_
     refine AW.block ?_
     refine AW.lk (S := { k : Nat // k ≤ (dangR d).length }) [1, 2, 5, 9, 10, 11] (fun s_ => [(12, .bool (((dangR d).take s_.1).any fun x => decide (x = (dangR (cleanC ks d)).getD i 0))), (13, .int .i64 s_.1)]) (fun s_ => [(0, .cells d.cells), (1, .cells (cleanC ks d).cells)]) 2 (fun s_ => (dangR d).length - s_.1) ⟨0, Nat.zero_le _⟩ ?_ ?_
     ·refine St.le.vw [0, 1]
     rintro ⟨k, hk⟩
     try dsimp only at hk
     refine AW.seq ?_
     refine AW.rS ?_
     refine AW.trim [1, 2, 5, 9, 10, 11, 12, 13, 91] ?_
     refine AW.c2 ?_ ?_
     ·intro h71
      have hat := any_bif (l := dangR d) (d := 0) (p := fun x => decide (x = (dangR (cleanC ks d)).getD i 0)) h71
      refine AW.skip ?_
      refine AW.seq ?_
      refine AW.block ?_
      refine AW.dL [(0, 0), (1, 0), (2, 0), (3, 0), (4, 1), (5, 1), (6, 0), (7, 0), (8, 1), (9, 1), (10, 0), (11, 0), (12, 0)] ?_
      refine AW.rL ?_
      rw [hat]
      refine ⟨⟨k + 1, by omega⟩, ?_, ?_⟩
      ·refine St.le.vw [0, 1]
      ·simp only []; omega
     ·intro h71
      obtain rfl : k = (dangR d).length := by omega
      rw [List.take_length]
      refine AW.exit ?_
      refine AW.rS ?_
      refine AW.trim [1, 2, 5, 9, 10, 11, 107] ?_
      refine AW.c2 ?_ ?_
      ·intro h80
       exfalso
       have hm := hdg _ (getD_mem0 h60)
       have : ((dangR d).any fun x => decide (x = (dangR (cleanC ks d)).getD i 0)) = true := List.any_eq_true.2 ⟨_, hm, by simp⟩
       rw [this] at h80
       simp at h80
      ·intro h80
       refine AW.skip ?_
       refine AW.rL ?_
       refine ⟨⟨i + 1, by omega⟩, ?_, ?_⟩
       ·refine St.le.vw [0, 1]
       ·simp only []; omega
    ·intro h60
     refine AW.exit ?_
     refine AW.seq ?_
     refine AW.rS ?_
     refine AW.trim [1, 2, 5, 14] ?_
     refine AW.block ?_
     refine AW.lk (S := { i : Nat // i ≤ (cleanC ks d).items.length }) [1, 2, 5] (fun s_ => [(14, .int .i64 s_.1)]) (fun s_ => [(0, .cells d.cells), (1, .cells (cleanC ks d).cells)]) 2 (fun s_ => (cleanC ks d).items.length - s_.1) ⟨0, Nat.zero_le _⟩ ?_ ?_
     ·refine St.le.vw [0, 1]
     rintro ⟨q, hq⟩
     try dsimp only at hq
     refine AW.seq ?_
     refine AW.rS ?_
     refine AW.trim [1, 2, 5, 14, 112] ?_
     refine AW.c2 ?_ ?_
     ·intro h94
      have hqm : (cleanC ks d).items.getD q Itm.zero ∈ (cleanC ks d).items := by
       rw [getD_zero h94]
       exact List.getElem_mem _
      obtain ⟨j, hj1, hj2, hj3, hj4⟩ := clean_get hd0 hqm
      have hlb := look_bulk d.items ((cleanC ks d).items.getD q Itm.zero).num
      refine AW.skip ?_
      refine AW.seq ?_
      refine AW.block ?_
      refine AW.tG (σf := ?sf23) (.take 1 0 (.take 3 0 (.fork 0 (.fork 2 (.fork 4 (.take 5 0 (.fork 6 (.fork 7 (.take 8 0 (.take 9 0 (.take 10 0 (.fork 11 (.fork 12 (.take 13 0 .done) .stop) .stop)))) (.fork 11 (.fork 7 (.take 8 0 (.take 9 0 (.take 10 0 (.fork 12 (.take 13 0 .done) .stop)))) .stop) .stop)) (.fork 11 (.fork 6 (.fork 7 (.take 8 0 (.take 9 0 (.take 10 0 (.fork 12 (.take 13 0 .done) .stop)))) .stop) .stop) .stop))) (.fork 11 (.fork 4 (.take 5 0 (.fork 6 (.fork 7 (.take 8 0 (.take 9 0 (.take 10 0 (.fork 12 (.take 13 0 .done) .stop)))) .stop) .stop)) .stop) .stop)) (.fork 11 (.fork 2 (.fork 4 (.take 5 0 (.fork 6 (.fork 7 (.take 8 0 (.take 9 0 (.take 10 0 (.fork 12 (.take 13 0 .done) .stop)))) .stop) .stop)) .stop) .stop) .stop)) (.fork 2 (.fork 0 (.fork 4 (.take 5 0 (.fork 6 (.fork 7 (.take 8 0 (.take 9 0 (.take 10 0 (.fork 11 (.fork 12 (.take 13 0 .done) .stop) .stop)))) (.fork 11 (.fork 7 (.take 8 0 (.take 9 0 (.take 10 0 (.fork 12 (.take 13 0 .done) .stop)))) .stop) .stop)) (.fork 11 (.fork 6 (.fork 7 (.take 8 0 (.take 9 0 (.take 10 0 (.fork 12 (.take 13 0 .done) .stop)))) .stop) .stop) .stop))) (.fork 11 (.fork 4 (.take 5 0 (.fork 6 (.fork 7 (.take 8 0 (.take 9 0 (.take 10 0 (.fork 12 (.take 13 0 .done) .stop)))) .stop) .stop)) .stop) .stop)) (.fork 4 (.take 5 0 (.fork 0 (.fork 6 (.fork 7 (.take 8 0 (.take 9 0 (.take 10 0 (.fork 11 (.fork 12 (.take 13 0 .done) .stop) .stop)))) (.fork 11 (.fork 7 (.take 8 0 (.take 9 0 (.take 10 0 (.fork 12 (.take 13 0 .done) .stop)))) .stop) .stop)) (.fork 11 (.fork 6 (.fork 7 (.take 8 0 (.take 9 0 (.take 10 0 (.fork 12 (.take 13 0 .done) .stop)))) .stop) .stop) .stop)) (.fork 6 (.fork 0 (.fork 7 (.take 8 0 (.take 9 0 (.take 10 0 (.fork 11 (.fork 12 (.take 13 0 .done) .stop) .stop)))) (.fork 11 (.fork 7 (.take 8 0 (.take 9 0 (.take 10 0 (.fork 12 (.take 13 0 .done) .stop)))) .stop) .stop)) (.fork 11 (.fork 0 (.fork 7 (.take 8 0 (.take 9 0 (.take 10 0 (.fork 12 (.take 13 0 .done) .stop)))) .stop) .stop) .stop)) (.fork 11 (.fork 0 (.fork 6 (.fork 7 (.take 8 0 (.take 9 0 (.take 10 0 (.fork 12 (.take 13 0 .done) .stop)))) .stop) .stop) (.fork 6 (.fork 0 (.fork 7 (.take 8 0 (.take 9 0 (.take 10 0 (.fork 12 (.take 13 0 .done) .stop)))) .stop) .stop) .stop)) .stop)))) (.fork 11 (.fork 0 (.fork 4 (.take 5 0 (.fork 6 (.fork 7 (.take 8 0 (.take 9 0 (.take 10 0 (.fork 12 (.take 13 0 .done) .stop)))) .stop) .stop)) .stop) (.fork 4 (.take 5 0 (.fork 0 (.fork 6 (.fork 7 (.take 8 0 (.take 9 0 (.take 10 0 (.fork 12 (.take 13 0 .done) .stop)))) .stop) .stop) (.fork 6 (.fork 0 (.fork 7 (.take 8 0 (.take 9 0 (.take 10 0 (.fork 12 (.take 13 0 .done) .stop)))) .stop) .stop) .stop))) .stop)) .stop))) (.fork 11 (.fork 0 (.fork 2 (.fork 4 (.take 5 0 (.fork 6 (.fork 7 (.take 8 0 (.take 9 0 (.take 10 0 (.fork 12 (.take 13 0 .done) .stop)))) .stop) .stop)) .stop) .stop) (.fork 2 (.fork 0 (.fork 4 (.take 5 0 (.fork 6 (.fork 7 (.take 8 0 (.take 9 0 (.take 10 0 (.fork 12 (.take 13 0 .done) .stop)))) .stop) .stop)) .stop) (.fork 4 (.take 5 0 (.fork 0 (.fork 6 (.fork 7 (.take 8 0 (.take 9 0 (.take 10 0 (.fork 12 (.take 13 0 .done) .stop)))) .stop) .stop) (.fork 6 (.fork 0 (.fork 7 (.take 8 0 (.take 9 0 (.take 10 0 (.fork 12 (.take 13 0 .done) .stop)))) .stop) .stop) .stop))) .stop)) .stop)) .stop))))) ?tree23 ?rest23
      case tree23 =>
       refine awTree.tk ?_
       refine awTree.tk ?_
       refine awTree.fA ?_ ?_
       ·refine awTree.fA ?_ ?_
        ·refine awTree.fA ?_ ?_
         ·refine awTree.tk ?_
          refine awTree.fA ?_ ?_
          ·refine awTree.fC (c_foliantref19_Get _ d ((cleanC ks d).items.getD q Itm.zero).num (by omega)) ?_ ?_
           ·refine awTree.tk ?_
            refine awTree.tk ?_
            refine awTree.tk ?_
            refine awTree.fA ?_ ?_
            ·refine awTree.fA ?_ ?_
             ·refine awTree.tk ?_
              exact awTree.dn
             ·exact trivial
            ·exact trivial
           ·refine awTree.fA ?_ ?_
            ·refine awTree.fC (c_foliantref19_Get _ d ((cleanC ks d).items.getD q Itm.zero).num (by omega)) ?_ ?_
             ·refine awTree.tk ?_
              refine awTree.tk ?_
              refine awTree.tk ?_
              refine awTree.fA ?_ ?_
              ·refine awTree.tk ?_
               exact awTree.dn
              ·exact trivial
             ·exact trivial
            ·exact trivial
          ·refine awTree.fA ?_ ?_
           ·refine awTree.fA ?_ ?_
            ·refine awTree.fC (c_foliantref19_Get _ d ((cleanC ks d).items.getD q Itm.zero).num (by omega)) ?_ ?_
             ·refine awTree.tk ?_
              refine awTree.tk ?_
              refine awTree.tk ?_
              refine awTree.fA ?_ ?_
              ·refine awTree.tk ?_
               exact awTree.dn
              ·exact trivial
             ·exact trivial
            ·exact trivial
           ·exact trivial
         ·refine awTree.fA ?_ ?_
          ·refine awTree.fA ?_ ?_
           ·refine awTree.tk ?_
            refine awTree.fA ?_ ?_
            ·refine awTree.fC (c_foliantref19_Get _ d ((cleanC ks d).items.getD q Itm.zero).num (by omega)) ?_ ?_
             ·refine awTree.tk ?_
              refine awTree.tk ?_
              refine awTree.tk ?_
              refine awTree.fA ?_ ?_
              ·refine awTree.tk ?_
               exact awTree.dn
              ·exact trivial
             ·exact trivial
            ·exact trivial
           ·exact trivial
          ·exact trivial
        ·refine awTree.fA ?_ ?_
         ·refine awTree.fA ?_ ?_
          ·refine awTree.fA ?_ ?_
           ·refine awTree.tk ?_
            refine awTree.fA ?_ ?_
            ·refine awTree.fC (c_foliantref19_Get _ d ((cleanC ks d).items.getD q Itm.zero).num (by omega)) ?_ ?_
             ·refine awTree.tk ?_
              refine awTree.tk ?_
              refine awTree.tk ?_
              refine awTree.fA ?_ ?_
              ·refine awTree.tk ?_
               exact awTree.dn
              ·exact trivial
             ·exact trivial
            ·exact trivial
           ·exact trivial
          ·exact trivial
         ·exact trivial
       ·refine awTree.fA ?_ ?_
        ·refine awTree.fA ?_ ?_
         ·refine awTree.fA ?_ ?_
          ·refine awTree.tk ?_
           refine awTree.fA ?_ ?_
           ·refine awTree.fC (c_foliantref19_Get _ d ((cleanC ks d).items.getD q Itm.zero).num (by omega)) ?_ ?_
            ·refine awTree.tk ?_
             refine awTree.tk ?_
             refine awTree.tk ?_
             refine awTree.fA ?_ ?_
             ·refine awTree.fA ?_ ?_
              ·refine awTree.tk ?_
               exact awTree.dn
              ·exact trivial
             ·exact trivial
            ·refine awTree.fA ?_ ?_
             ·refine awTree.fC (c_foliantref19_Get _ d ((cleanC ks d).items.getD q Itm.zero).num (by omega)) ?_ ?_
              ·refine awTree.tk ?_
               refine awTree.tk ?_
               refine awTree.tk ?_
               refine awTree.fA ?_ ?_
               ·refine awTree.tk ?_
                exact awTree.dn
               ·exact trivial
              ·exact trivial
             ·exact trivial
           ·refine awTree.fA ?_ ?_
            ·refine awTree.fA ?_ ?_
             ·refine awTree.fC (c_foliantref19_Get _ d ((cleanC ks d).items.getD q Itm.zero).num (by omega)) ?_ ?_
              ·refine awTree.tk ?_
               refine awTree.tk ?_
               refine awTree.tk ?_
               refine awTree.fA ?_ ?_
               ·refine awTree.tk ?_
                exact awTree.dn
               ·exact trivial
              ·exact trivial
             ·exact trivial
            ·exact trivial
          ·refine awTree.fA ?_ ?_
           ·refine awTree.fA ?_ ?_
            ·refine awTree.tk ?_
             refine awTree.fA ?_ ?_
             ·refine awTree.fC (c_foliantref19_Get _ d ((cleanC ks d).items.getD q Itm.zero).num (by omega)) ?_ ?_
              ·refine awTree.tk ?_
               refine awTree.tk ?_
               refine awTree.tk ?_
               refine awTree.fA ?_ ?_
               ·refine awTree.tk ?_
                exact awTree.dn
               ·exact trivial
              ·exact trivial
             ·exact trivial
            ·exact trivial
           ·exact trivial
         ·refine awTree.fA ?_ ?_
          ·refine awTree.tk ?_
           refine awTree.fA ?_ ?_
           ·refine awTree.fA ?_ ?_
            ·refine awTree.fC (c_foliantref19_Get _ d ((cleanC ks d).items.getD q Itm.zero).num (by omega)) ?_ ?_
             ·refine awTree.tk ?_
              refine awTree.tk ?_
              refine awTree.tk ?_
              refine awTree.fA ?_ ?_
              ·refine awTree.fA ?_ ?_
               ·refine awTree.tk ?_
                exact awTree.dn
               ·exact trivial
              ·exact trivial
             ·refine awTree.fA ?_ ?_
              ·refine awTree.fC (c_foliantref19_Get _ d ((cleanC ks d).items.getD q Itm.zero).num (by omega)) ?_ ?_
               ·refine awTree.tk ?_
                refine awTree.tk ?_
                refine awTree.tk ?_
                refine awTree.fA ?_ ?_
                ·refine awTree.tk ?_
                 exact awTree.dn
                ·exact trivial
               ·exact trivial
              ·exact trivial
            ·refine awTree.fA ?_ ?_
             ·refine awTree.fA ?_ ?_
              ·refine awTree.fC (c_foliantref19_Get _ d ((cleanC ks d).items.getD q Itm.zero).num (by omega)) ?_ ?_
               ·refine awTree.tk ?_
                refine awTree.tk ?_
                refine awTree.tk ?_
                refine awTree.fA ?_ ?_
                ·refine awTree.tk ?_
                 exact awTree.dn
                ·exact trivial
               ·exact trivial
              ·exact trivial
             ·exact trivial
           ·refine awTree.fA ?_ ?_
            ·refine awTree.fA ?_ ?_
             ·refine awTree.fC (c_foliantref19_Get _ d ((cleanC ks d).items.getD q Itm.zero).num (by omega)) ?_ ?_
              ·refine awTree.tk ?_
               refine awTree.tk ?_
               refine awTree.tk ?_
               refine awTree.fA ?_ ?_
               ·refine awTree.fA ?_ ?_
                ·refine awTree.tk ?_
                 exact awTree.dn
                ·exact trivial
               ·exact trivial
              ·refine awTree.fA ?_ ?_
               ·refine awTree.fC (c_foliantref19_Get _ d ((cleanC ks d).items.getD q Itm.zero).num (by omega)) ?_ ?_
                ·refine awTree.tk ?_
                 refine awTree.tk ?_
                 refine awTree.tk ?_
                 refine awTree.fA ?_ ?_
                 ·refine awTree.tk ?_
                  exact awTree.dn
                 ·exact trivial
                ·exact trivial
               ·exact trivial
             ·refine awTree.fA ?_ ?_
              ·refine awTree.fA ?_ ?_
               ·refine awTree.fC (c_foliantref19_Get _ d ((cleanC ks d).items.getD q Itm.zero).num (by omega)) ?_ ?_
                ·refine awTree.tk ?_
                 refine awTree.tk ?_
                 refine awTree.tk ?_
                 refine awTree.fA ?_ ?_
                 ·refine awTree.tk ?_
                  exact awTree.dn
                 ·exact trivial
                ·exact trivial
               ·exact trivial
              ·exact trivial
            ·refine awTree.fA ?_ ?_
             ·refine awTree.fA ?_ ?_
              ·refine awTree.fA ?_ ?_
               ·refine awTree.fC (c_foliantref19_Get _ d ((cleanC ks d).items.getD q Itm.zero).num (by omega)) ?_ ?_
                ·refine awTree.tk ?_
                 refine awTree.tk ?_
                 refine awTree.tk ?_
                 refine awTree.fA ?_ ?_
                 ·refine awTree.tk ?_
                  exact awTree.dn
                 ·exact trivial
                ·exact trivial
               ·exact trivial
              ·refine awTree.fA ?_ ?_
               ·refine awTree.fA ?_ ?_
                ·refine awTree.fC (c_foliantref19_Get _ d ((cleanC ks d).items.getD q Itm.zero).num (by omega)) ?_ ?_
                 ·refine awTree.tk ?_
                  refine awTree.tk ?_
                  refine awTree.tk ?_
                  refine awTree.fA ?_ ?_
                  ·refine awTree.tk ?_
                   exact awTree.dn
                  ·exact trivial
                 ·exact trivial
                ·exact trivial
               ·exact trivial
             ·exact trivial
          ·refine awTree.fA ?_ ?_
           ·refine awTree.fA ?_ ?_
            ·refine awTree.fA ?_ ?_
             ·refine awTree.tk ?_
              refine awTree.fA ?_ ?_
              ·refine awTree.fC (c_foliantref19_Get _ d ((cleanC ks d).items.getD q Itm.zero).num (by omega)) ?_ ?_
               ·refine awTree.tk ?_
                refine awTree.tk ?_
                refine awTree.tk ?_
                refine awTree.fA ?_ ?_
                ·refine awTree.tk ?_
                 exact awTree.dn
                ·exact trivial
               ·exact trivial
              ·exact trivial
             ·exact trivial
            ·refine awTree.fA ?_ ?_
             ·refine awTree.tk ?_
              refine awTree.fA ?_ ?_
              ·refine awTree.fA ?_ ?_
               ·refine awTree.fC (c_foliantref19_Get _ d ((cleanC ks d).items.getD q Itm.zero).num (by omega)) ?_ ?_
                ·refine awTree.tk ?_
                 refine awTree.tk ?_
                 refine awTree.tk ?_
                 refine awTree.fA ?_ ?_
                 ·refine awTree.tk ?_
                  exact awTree.dn
                 ·exact trivial
                ·exact trivial
               ·exact trivial
              ·refine awTree.fA ?_ ?_
               ·refine awTree.fA ?_ ?_
                ·refine awTree.fC (c_foliantref19_Get _ d ((cleanC ks d).items.getD q Itm.zero).num (by omega)) ?_ ?_
                 ·refine awTree.tk ?_
                  refine awTree.tk ?_
                  refine awTree.tk ?_
                  refine awTree.fA ?_ ?_
                  ·refine awTree.tk ?_
                   exact awTree.dn
                  ·exact trivial
                 ·exact trivial
                ·exact trivial
               ·exact trivial
             ·exact trivial
           ·exact trivial
        ·refine awTree.fA ?_ ?_
         ·refine awTree.fA ?_ ?_
          ·refine awTree.fA ?_ ?_
           ·refine awTree.fA ?_ ?_
            ·refine awTree.tk ?_
             refine awTree.fA ?_ ?_
             ·refine awTree.fC (c_foliantref19_Get _ d ((cleanC ks d).items.getD q Itm.zero).num (by omega)) ?_ ?_
              ·refine awTree.tk ?_
               refine awTree.tk ?_
               refine awTree.tk ?_
               refine awTree.fA ?_ ?_
               ·refine awTree.tk ?_
                exact awTree.dn
               ·exact trivial
              ·exact trivial
             ·exact trivial
            ·exact trivial
           ·exact trivial
          ·refine awTree.fA ?_ ?_
           ·refine awTree.fA ?_ ?_
            ·refine awTree.fA ?_ ?_
             ·refine awTree.tk ?_
              refine awTree.fA ?_ ?_
              ·refine awTree.fC (c_foliantref19_Get _ d ((cleanC ks d).items.getD q Itm.zero).num (by omega)) ?_ ?_
               ·refine awTree.tk ?_
                refine awTree.tk ?_
                refine awTree.tk ?_
                refine awTree.fA ?_ ?_
                ·refine awTree.tk ?_
                 exact awTree.dn
                ·exact trivial
               ·exact trivial
              ·exact trivial
             ·exact trivial
            ·refine awTree.fA ?_ ?_
             ·refine awTree.tk ?_
              refine awTree.fA ?_ ?_
              ·refine awTree.fA ?_ ?_
               ·refine awTree.fC (c_foliantref19_Get _ d ((cleanC ks d).items.getD q Itm.zero).num (by omega)) ?_ ?_
                ·refine awTree.tk ?_
                 refine awTree.tk ?_
                 refine awTree.tk ?_
                 refine awTree.fA ?_ ?_
                 ·refine awTree.tk ?_
                  exact awTree.dn
                 ·exact trivial
                ·exact trivial
               ·exact trivial
              ·refine awTree.fA ?_ ?_
               ·refine awTree.fA ?_ ?_
                ·refine awTree.fC (c_foliantref19_Get _ d ((cleanC ks d).items.getD q Itm.zero).num (by omega)) ?_ ?_
                 ·refine awTree.tk ?_
                  refine awTree.tk ?_
                  refine awTree.tk ?_
                  refine awTree.fA ?_ ?_
                  ·refine awTree.tk ?_
                   exact awTree.dn
                  ·exact trivial
                 ·exact trivial
                ·exact trivial
               ·exact trivial
             ·exact trivial
           ·exact trivial
         ·exact trivial
      case rest23 =>
      skip
      skip
      skip
      refine AW.trim [1, 2, 5, 14, 15, 16] ?_
      refine AW.fS [0, 1, 2, 3, 4, 5, 6, 7, 8, 9, 10, 11, 12, 13, 14, 15, 16, 17, 18, 19, 20, 21, 22, 23, 24, 25, 26, 27, 28, 29] [] ?_
      refine awFun.rn ?_
      refine awFun.cG [143, 145, 151] (fun hg => c_foliantref05_Same _ ((lookI d.items ((cleanC ks d).items.getD q Itm.zero).num).getD Itm.zero).obj ((cleanC ks d).items.getD q Itm.zero).obj (by omega)) ?_
      refine awFun.rn ?_
      rw [Aw.awFun_nil, Aw.awPlan_nil]
      refine AW.trim [1, 2, 5, 14, 155] ?_
      refine AW.c2 ?_ ?_
      ·intro h107
       exfalso
       rw [hj1] at h107
       simp at h107
       rcases h107 with h | ⟨rfl, h⟩
       ·exact h (by simpa [List.getD_eq_getElem?_getD] using hj2)
       ·exact h (by rw [← strip_none _ j.obj 1 (Nat.lt_succ_self _) hj4]; simpa [List.getD_eq_getElem?_getD] using hj3)
      ·intro h107
       refine AW.skip ?_
       refine AW.rL ?_
       refine ⟨⟨q + 1, by omega⟩, ?_, ?_⟩
       ·refine St.le.vw [0, 1]
       ·simp only []; omega
     ·intro h94
      refine AW.exit ?_
      refine AW.rSC ?_
      refine awOps.cons (awGuard.c1 (c_law31_lives _) ?_)
      refine awOps.rn ?_
      refine AW.trim [4] ?_
      refine AW.rt ?_
      all_goals first | contradiction | rfl | (simp; done) | (simp; omega)
end Go.Proofs
