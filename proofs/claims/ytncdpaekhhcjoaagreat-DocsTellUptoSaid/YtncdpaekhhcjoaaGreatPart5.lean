/- A part of the proof of a law of the seat: no condition of its own. -/
import Derived.Test.YtncdpaekhhcjoaaGreatPart4
import Derived.JoinedCond
import Derived.Test.YtncdpaekhhcjoaaGreatRows
import Derived.Shelf.Small.Strs
import Derived.Test.YtncdpaekhhcjoaaGreatProg
namespace Go.Proofs.YtncdpaekhhcjoaaGreat
open Go Aw
theorem own : ownKnob Tryz.prog.godebug = none := by kernel_rfl
theorem laidOut : laidOutB Tryz.prog = true := by kernel_rfl
theorem objT : ObjT Tryz.prog 26 3 2 9 23 24 where
  o := ⟨_, Tryz.underlying26, rfl⟩
  i := Tryz.underlying3
  l := Tryz.underlying2
  s := Tryz.underlying9
  ks := Tryz.underlying23
  os := Tryz.underlying24
  c := by and_intros <;> kernel_rfl
theorem docT : DocT Tryz.prog 26 3 2 9 23 24 30 22 28 where
  o := objT
  it := ⟨_, Tryz.underlying30, rfl⟩
  its := Tryz.underlying22
  d := ⟨_, Tryz.underlying28, rfl⟩
  c := by and_intros <;> kernel_rfl
mutual
theorem dle_upto {H : Type} : ∀ d : DataW H, dbulk d ≤ Rows.uptoBulk d
  | .lit (.string _) => by simp only [dbulk, Rows.uptoBulk]; omega
  | .lit (.bool _) => by simp only [dbulk, Rows.uptoBulk]; omega
  | .lit (.int _ _) => by simp only [dbulk, Rows.uptoBulk]; omega
  | .lit (.float _ _) => by simp only [dbulk, Rows.uptoBulk]; omega
  | .lit .nil => by simp only [dbulk, Rows.uptoBulk]; omega
  | .nil => by simp only [dbulk, Rows.uptoBulk]; omega
  | .ptr d => by have := dle_upto d; simp only [dbulk, Rows.uptoBulk]; omega
  | .slice es sp => by have := dles_upto es; have := dles_upto sp; simp only [dbulk, Rows.uptoBulk]; omega
  | .agg ps => by have := dles_upto ps; simp only [dbulk, Rows.uptoBulk]; omega
  | .iface _ d => by have := dle_upto d; simp only [dbulk, Rows.uptoBulk]; omega
  | .map _ => by simp only [dbulk, Rows.uptoBulk]; omega
  | .held _ => by simp only [dbulk, Rows.uptoBulk]; omega
theorem dles_upto {H : Type} : ∀ l : List (DataW H), dbulks l ≤ Rows.uptoBulkAll l
  | [] => by simp only [dbulks, Rows.uptoBulkAll]; omega
  | d :: r => by have := dle_upto d; have := dles_upto r; simp only [dbulks, Rows.uptoBulkAll]; omega
end
end Go.Proofs.YtncdpaekhhcjoaaGreat

namespace Go.Proofs
open Go Aw
set_option linter.unusedSimpArgs false
set_option maxRecDepth 100000
set_option maxHeartbeats 4000000
theorem c_slices_Clone_string_string (gl : List (Nat × AV)) (ks : List (List UInt8)) (hk : ks.length ≤ 16777216 := by first | omega | exact u8_le _ | assumption | (simp; done) | (simp; omega)) : FnP Tryz.prog (gl) 152 [.sl (strsAV ks)] fun r => r = .ret (.sl (strsAV ks)) := by
  refine FnP.intro Tryz.func152 rfl rfl (by simp [Tryz.ntmps152]) ?_
  simp only [argEnv, Tryz.ntmps152, Tryz.results152]
  refine AW.rS ?_
  refine AW.seq ?_
  refine AW.rSC ?_
  refine awOps.cons (awGuard.nS ?_)
  intro b4 hb4
  simp only [nilBool]
  refine awOps.rn ?_
  refine AW.c2 ?_ ?_
  · intro h6
    refine AW.rS ?_
    refine AW.pre (St.le.nilrow 2 1 (by (simp only [go_sem, seval]; try (simp (disch := omega) only [wrap_i64, wrap_u8, wrap_u64, tdiv_nn, tmod_nn, Int.toNat_natCast_add_one, toNat_sub1, Int.toNat_sub, Int.toNat_natCast, intsAV_getD, strsAV_getD, objsAV_getD, itemsAV_getD, intsAV_out, strsAV_out, objsAV_out, itemsAV_out, fillO_length, fillO_set]; try (simp only [go_sem, seval]; try (simp (disch := omega) only [wrap_i64, wrap_u8, wrap_u64, tdiv_nn, tmod_nn, Int.toNat_natCast_add_one, toNat_sub1, Int.toNat_sub, Int.toNat_natCast, intsAV_getD, strsAV_getD, objsAV_getD, itemsAV_getD, intsAV_out, strsAV_out, objsAV_out, itemsAV_out, fillO_length, fillO_set]; try simp only [go_sem, seval])))))) ?_
    refine wk ?_
    refine AW.rt ?_
    rw [nil_strs hb4 h6, strsAV_nil]
  · intro h6
    refine AW.skip ?_
    refine AW.rS ?_
    refine AW.rt ?_
    all_goals first | contradiction | rfl | (simp; done) | (simp; omega)
theorem c_slices_Clone_api_Object_api_Object (gl : List (Nat × AV)) (ks : List Pob) (hk : ks.length ≤ 16777216 := by first | omega | exact u8_le _ | assumption | (simp; done) | (simp; omega)) : FnP Tryz.prog (gl) 153 [.sl (objsAV ks)] fun r => r = .ret (.sl (objsAV ks)) := by
  refine FnP.intro Tryz.func153 rfl rfl (by simp [Tryz.ntmps153]) ?_
  simp only [argEnv, Tryz.ntmps153, Tryz.results153]
  refine AW.rS ?_
  refine AW.seq ?_
  refine AW.rSC ?_
  refine awOps.cons (awGuard.nS ?_)
  intro b4 hb4
  simp only [nilBool]
  refine awOps.rn ?_
  refine AW.c2 ?_ ?_
  · intro h6
    refine AW.rS ?_
    refine AW.pre (St.le.nilrow 2 6 (by (simp only [go_sem, seval]; try (simp (disch := omega) only [wrap_i64, wrap_u8, wrap_u64, tdiv_nn, tmod_nn, Int.toNat_natCast_add_one, toNat_sub1, Int.toNat_sub, Int.toNat_natCast, intsAV_getD, strsAV_getD, objsAV_getD, itemsAV_getD, intsAV_out, strsAV_out, objsAV_out, itemsAV_out, fillO_length, fillO_set]; try (simp only [go_sem, seval]; try (simp (disch := omega) only [wrap_i64, wrap_u8, wrap_u64, tdiv_nn, tmod_nn, Int.toNat_natCast_add_one, toNat_sub1, Int.toNat_sub, Int.toNat_natCast, intsAV_getD, strsAV_getD, objsAV_getD, itemsAV_getD, intsAV_out, strsAV_out, objsAV_out, itemsAV_out, fillO_length, fillO_set]; try simp only [go_sem, seval])))))) ?_
    refine wk ?_
    refine AW.rt ?_
    rw [nil_objs hb4 h6, objsAV_nil]
  · intro h6
    refine AW.skip ?_
    refine AW.rS ?_
    refine AW.rt ?_
    all_goals first | contradiction | rfl | (simp; done) | (simp; omega)
theorem c_value_Clone_1 (gl : List (Nat × AV)) (o : Pob) : FnP Tryz.prog (gl) 141 [.agg o.cells] fun r => r = .ret (.agg o.cells) := by
  refine FnP.intro Tryz.func141 rfl rfl (by simp [Tryz.ntmps141]) ?_
  simp only [argEnv, Tryz.ntmps141, Tryz.results141]
  refine AW.rS ?_
  refine AW.rS ?_
  refine AW.rt ?_
  all_goals first | contradiction | rfl | (simp; done) | (simp; omega)
end Go.Proofs


namespace Go.Proofs
open Go Aw
set_option linter.unusedSimpArgs false
set_option maxRecDepth 100000
set_option maxHeartbeats 4000000
theorem changed_step (gl : List (Nat × AV)) (N : Nat) (hN : N ≤ 16777216) (ih : ∀ o' : Pob, o'.bulk < N → FnP Tryz.prog gl 137 [.agg o'.cells, .clos 141 []] fun r => r = .ret (.agg o'.cells)) (o : Pob) (ho : o.bulk ≤ N) (hk : o.keys.length ≤ N) (hl : o.kids.length ≤ N) (hb : ∀ i, i < o.kids.length → (o.kids.getD i Pob.null).bulk < N) : FnP Tryz.prog (gl) 137 [.agg o.cells, .clos 141 []] fun r => r = .ret (.agg o.cells) := by
  refine FnP.intro Tryz.func137 rfl rfl (by simp [Tryz.ntmps137]) ?_
  simp only [argEnv, Tryz.ntmps137, Tryz.results137]
  refine AW.rS ?_
  refine AW.rSC ?_
  refine awOps.cons (awGuard.c1 (c_value_Clone_1 _ o) ?_)
  refine awOps.rn ?_
  refine AW.rSC ?_
  refine awOps.cons (awGuard.c1 (c_slices_Clone_string_string _ o.keys) ?_)
  refine awOps.rn ?_
  refine AW.seq ?_
  refine AW.rSC ?_
  refine awOps.cons (awGuard.nS ?_)
  intro b10 hb10
  simp only [nilBool]
  refine awOps.rn ?_
  refine AW.c2 ?_ ?_
  · intro h12
    refine AW.rS ?_
    refine AW.seq ?_
    refine AW.rS ?_
    refine AW.block ?_
    refine AW.lk (S := { i : Nat // i ≤ o.kids.length }) [1, 2, 4, 5, 23, 24] (fun s_ => [(25, .int .i64 s_.1)]) (fun s_ => [(0, .cells [.int .i64 o.kind, .int .i64 o.num, .int .i64 o.gen, .str o.str, .sl (strsAV o.keys), .sl (objsAV o.kids)]), (1, .cells [.int .i64 0, .int .i64 0, .int .i64 0, .str [], .raw (.slice none 0 0), .raw (.slice none 0 0)]), (2, .row 6 (fillO o.kids s_.1) true)]) 3 (fun s_ => o.kids.length - s_.1) ⟨0, Nat.zero_le _⟩ ?_ ?_
    · refine St.le.vw [0, 1, 2]
    rintro ⟨i, hi⟩
    try dsimp only at hi
    refine AW.rS ?_
    refine AW.seq ?_
    refine AW.c2 ?_ ?_
    · intro h20
      refine AW.skip ?_
      refine AW.seq ?_
      refine AW.block ?_
      refine AW.rS ?_
      refine AW.rLC ?_
      refine awOps.cons (awGuard.c1 (ih (o.kids.getD i Pob.null) (hb i (by omega))) ?_)
      refine awOps.rn ?_
      refine AW.rL ?_
      refine ⟨⟨i + 1, by omega⟩, ?_, ?_⟩
      · refine St.le.vw [0, 1, 2]
      · simp only []; omega
    · intro h20
      refine AW.exit ?_
      refine AW.rL ?_
      refine AW.rS ?_
      refine AW.rt ?_
      rw [fillO_all hi h20, objsAV_take_len]
  · intro h12
    refine AW.skip ?_
    refine AW.rS ?_
    refine AW.rt ?_
    all_goals first | contradiction | rfl | (simp; done) | (simp; omega)
theorem changed_clone (gl : List (Nat × AV)) (N : Nat) : N ≤ 16777216 → ∀ o : Pob, o.bulk ≤ N → FnP Tryz.prog gl 137 [.agg o.cells, .clos 141 []] fun r => r = .ret (.agg o.cells) := by
  induction N using Nat.strongRecOn with
  | ind N IH =>
    intro hN o ho
    have hb := Pob.bulk_eq o
    exact changed_step gl N hN (fun o' h => IH o'.bulk h (by omega) o' (Nat.le_refl _)) o ho (by omega) (by omega) (fun i hi => Nat.lt_of_lt_of_le (Pob.bulk_kid hi) ho)
theorem c_value_changed (gl : List (Nat × AV)) (o : Pob) (h : o.bulk ≤ 16777216 := by assumption) : FnP Tryz.prog gl 137 [.agg o.cells, .clos 141 []] fun r => r = .ret (.agg o.cells) := changed_clone gl 16777216 (Nat.le_refl _) o h
theorem c_value_Clone (gl : List (Nat × AV)) (o : Pob) (h : o.bulk ≤ 16777216 := by first | omega | exact u8_le _ | assumption | (simp; done) | (simp; omega)) : FnP Tryz.prog (gl) 70 [.agg o.cells] fun r => r = .ret (.agg o.cells) := by
  refine FnP.intro Tryz.func70 rfl rfl (by simp [Tryz.ntmps70]) ?_
  simp only [argEnv, Tryz.ntmps70, Tryz.results70]
  refine AW.rS ?_
  refine AW.rSC ?_
  refine awOps.cons (awGuard.c1 (c_value_changed _ o) ?_)
  refine awOps.rn ?_
  refine AW.rt ?_
  all_goals first | contradiction | rfl | (simp; done) | (simp; omega)
theorem c_value_keyed (gl : List (Nat × AV)) (o : Pob) : FnP Tryz.prog (gl) 122 [.agg o.cells] fun r => r = .ret (.bool (keyedB o.kind)) := by
  refine FnP.intro Tryz.func122 rfl rfl (by simp [Tryz.ntmps122]) ?_
  simp only [argEnv, Tryz.ntmps122, Tryz.results122]
  refine AW.rS ?_
  refine AW.rS ?_
  refine AW.rt ?_
  all_goals first | contradiction | rfl | (simp; done) | (simp; omega)
theorem c_slices_Index_string_string (gl : List (Nat × AV)) (ks : List (List UInt8)) (k : List UInt8) (hk : ks.length ≤ 16777216 := by first | omega | exact u8_le _ | assumption | (simp; done) | (simp; omega)) : FnP Tryz.prog (gl) 123 [.sl (strsAV ks), .str k] fun r => r = .ret (.int .i64 (kidxI ks k)) := by
  refine FnP.intro Tryz.func123 rfl rfl (by simp [Tryz.ntmps123]) ?_
  simp only [argEnv, Tryz.ntmps123, Tryz.results123]
  refine AW.rS ?_
  refine AW.seq ?_
  refine AW.rS ?_
  refine AW.block ?_
  refine AW.lk (S := { i : Nat // i ≤ ks.length ∧ ∀ j, j < i → ks.getD j [] ≠ k }) [0, 1, 7] (fun s_ => [(8, .int .i64 s_.1)]) (fun s_ => []) 0 (fun s_ => ks.length - s_.1) ⟨0, Nat.zero_le _, fun j h => absurd h (by omega)⟩ ?_ ?_
  · refine St.le.vw []
  rintro ⟨i, hi, hs⟩
  try dsimp only at hi
  try dsimp only at hs
  refine AW.rS ?_
  refine AW.seq ?_
  refine AW.c2 ?_ ?_
  · intro h8
    refine AW.skip ?_
    refine AW.seq ?_
    refine AW.block ?_
    refine AW.rS ?_
    refine AW.rS ?_
    refine AW.c2 ?_ ?_
    · intro h14
      refine AW.rS ?_
      refine AW.rt ?_
      rw [kidx_hit h8 hs h14]
    · intro h14
      refine AW.skip ?_
      refine AW.rL ?_
      refine ⟨⟨i + 1, by omega, fun j hj => by rcases Nat.lt_succ_iff_lt_or_eq.1 hj with h | rfl; exact hs j h; exact fun e => h14 e.symm⟩, ?_, ?_⟩
      · refine St.le.vw []
      · simp only []; omega
  · intro h8
    refine AW.exit ?_
    refine AW.rS ?_
    refine AW.rt ?_
    rw [kidx_miss (fun j hj => hs j (by omega))]
end Go.Proofs


namespace Go.Proofs
open Go Aw
set_option linter.unusedSimpArgs false
set_option maxRecDepth 100000
set_option maxHeartbeats 4000000
theorem c_value_Get (gl : List (Nat × AV)) (o : Pob) (key : List UInt8) (h : o.bulk ≤ 16777216 := by first | omega | exact u8_le _ | assumption | (simp; done) | (simp; omega)) : FnP Tryz.prog (gl) 55 [.agg o.cells, .str key] fun r => r = .ret (.tup [.agg (getO o key).cells, .bool (getB o key)]) := by
  refine FnP.intro Tryz.func55 rfl rfl (by simp [Tryz.ntmps55]) ?_
  simp only [argEnv, Tryz.ntmps55, Tryz.results55]
  have hb := Pob.bulk_eq o
  refine AW.rS ?_
  refine AW.seq ?_
  refine AW.rSC ?_
  refine awOps.cons (awGuard.c1 (c_value_keyed _ o) ?_)
  refine awOps.rn ?_
  refine AW.c2 ?_ ?_
  · intro h6
    refine AW.rS ?_
    refine AW.rt ?_
    rw [(get_unkeyed h6).1, (get_unkeyed h6).2]; rfl
  · intro h6
    refine AW.skip ?_
    refine AW.rSC ?_
    refine awOps.cons (awGuard.c1 (c_slices_Index_string_string _ o.keys key (by omega)) ?_)
    refine awOps.rn ?_
    refine AW.seq ?_
    refine AW.rS ?_
    refine AW.c2 ?_ ?_
    · intro h16
      refine AW.rS ?_
      refine AW.rt ?_
      rw [(get_miss h16).1, (get_miss h16).2]; rfl
    · intro h16
      refine AW.skip ?_
      refine AW.rSC ?_
      refine awOps.cons (awGuard.c1 (c_value_Clone _ (o.kids.getD (kidxI o.keys key).toNat Pob.null) (by have := Pob.bulk_kid (o := o) (i := (kidxI o.keys key).toNat) (by omega); omega)) ?_)
      refine awOps.rn ?_
      refine AW.rt ?_
      rw [(get_hit h6 h16).1, (get_hit h6 h16).2, ← Pob.cells_eq]
theorem c_slices_Equal_string_string (gl : List (Nat × AV)) (a b : List (List UInt8)) (ha : a.length ≤ 16777216 := by first | omega | exact u8_le _ | assumption | (simp; done) | (simp; omega)) : FnP Tryz.prog (gl) 129 [.sl (strsAV a), .sl (strsAV b)] fun r => r = .ret (.bool (decide (a = b))) := by
  refine FnP.intro Tryz.func129 rfl rfl (by simp [Tryz.ntmps129]) ?_
  simp only [argEnv, Tryz.ntmps129, Tryz.results129]
  refine AW.rS ?_
  refine AW.seq ?_
  refine AW.rS ?_
  refine AW.c2 ?_ ?_
  · intro h4
    refine AW.rS ?_
    refine AW.rt ?_
    rw [decide_eq_false (fun e => h4 (by rw [e]))]
  · intro h4
    refine AW.skip ?_
    refine AW.seq ?_
    refine AW.rS ?_
    refine AW.block ?_
    refine AW.lk (S := { i : Nat // i ≤ a.length ∧ a.take i = b.take i }) [0, 1, 12] (fun s_ => [(13, .int .i64 s_.1)]) (fun s_ => []) 0 (fun s_ => a.length - s_.1) ⟨0, Nat.zero_le _, rfl⟩ ?_ ?_
    · refine St.le.vw []
    rintro ⟨i, hi, hs⟩
    try dsimp only at hi
    try dsimp only at hs
    refine AW.rS ?_
    refine AW.seq ?_
    refine AW.c2 ?_ ?_
    · intro h15
      refine AW.skip ?_
      refine AW.seq ?_
      refine AW.block ?_
      refine AW.rS ?_
      refine AW.dS [(0, 0), (1, 0), (2, 1), (3, 1), (4, 0), (5, 0), (6, 1), (7, 1), (8, 0)] ?_
      refine AW.c2 ?_ ?_
      · intro h21
        refine AW.rS ?_
        refine AW.rt ?_
        rw [decide_eq_false (fun e => h21 (by rw [e]))]
      · intro h21
        refine AW.skip ?_
        refine AW.rL ?_
        refine ⟨⟨i + 1, by omega, takeS_succ h15 (by omega) hs h21⟩, ?_, ?_⟩
        · refine St.le.vw []
        · simp only []; omega
    · intro h15
      refine AW.exit ?_
      refine AW.rS ?_
      refine AW.rt ?_
      rw [List.take_of_length_le (by omega), List.take_of_length_le (by omega)] at hs
      simp [hs]
end Go.Proofs


namespace Go.Proofs
open Go Aw
set_option linter.unusedSimpArgs false
set_option linter.unusedVariables false
set_option maxRecDepth 100000
set_option maxHeartbeats 4000000
theorem equalObjs_step (gl : List (Nat × AV)) (N : Nat) (ih : ∀ x y : Pob, x.bulk < N → FnP Tryz.prog gl 61 [.agg x.cells, .agg y.cells] fun r => r = .ret (.bool (decide (x = y)))) (a b : List Pob) (ha : a.length ≤ 16777216) (hb : ∀ i, i < a.length → (a.getD i Pob.null).bulk < N) : FnP Tryz.prog (gl) 130 [.sl (objsAV a), .sl (objsAV b), .clos 61 []] fun r => r = .ret (.bool (decide (a = b))) := by
  refine FnP.intro Tryz.func130 rfl rfl (by simp [Tryz.ntmps130]) ?_
  simp only [argEnv, Tryz.ntmps130, Tryz.results130]
  refine AW.rS ?_
  refine AW.seq ?_
  refine AW.rS ?_
  refine AW.c2 ?_ ?_
  · intro h4
    refine AW.rS ?_
    refine AW.rt ?_
    rw [decide_eq_false (fun e => h4 (by rw [e]))]
  · intro h4
    refine AW.skip ?_
    refine AW.seq ?_
    refine AW.rS ?_
    refine AW.block ?_
    refine AW.lk (S := { i : Nat // i ≤ a.length ∧ a.take i = b.take i }) [1, 2, 15, 16] (fun s_ => [(17, .int .i64 s_.1)]) (fun s_ => []) 0 (fun s_ => a.length - s_.1) ⟨0, Nat.zero_le _, rfl⟩ ?_ ?_
    · refine St.le.vw []
    rintro ⟨i, hi, hs⟩
    try dsimp only at hi
    try dsimp only at hs
    refine AW.rS ?_
    refine AW.seq ?_
    refine AW.c2 ?_ ?_
    · intro h15
      refine AW.skip ?_
      refine AW.seq ?_
      refine AW.block ?_
      refine AW.rS ?_
      refine AW.rS ?_
      refine AW.rSC ?_
      refine awOps.cons (awGuard.c1 (ih (a.getD i Pob.null) (b.getD i Pob.null) (hb i (by omega))) ?_)
      refine awOps.rn ?_
      refine AW.c2 ?_ ?_
      · intro h24
        refine AW.rS ?_
        refine AW.rt ?_
        rw [decide_eq_false (fun e => h24 (by rw [e]))]
      · intro h24
        refine AW.skip ?_
        refine AW.rL ?_
        refine ⟨⟨i + 1, by omega, takeO_succ h15 (by omega) hs h24⟩, ?_, ?_⟩
        · refine St.le.vw []
        · simp only []; omega
    · intro h15
      refine AW.exit ?_
      refine AW.rS ?_
      refine AW.rt ?_
      rw [List.take_of_length_le (by omega), List.take_of_length_le (by omega)] at hs
      simp [hs]
theorem same_step (gl : List (Nat × AV)) (N : Nat) (hN : N ≤ 16777216) (ih : ∀ x y : Pob, x.bulk < N → FnP Tryz.prog gl 61 [.agg x.cells, .agg y.cells] fun r => r = .ret (.bool (decide (x = y)))) (a b : Pob) (ha : a.bulk ≤ N) : FnP Tryz.prog (gl) 61 [.agg a.cells, .agg b.cells] fun r => r = .ret (.bool (decide (a = b))) := by
  refine FnP.intro Tryz.func61 rfl rfl (by simp [Tryz.ntmps61]) ?_
  simp only [argEnv, Tryz.ntmps61, Tryz.results61]
  have hbulk := Pob.bulk_eq a
  refine AW.rS ?_
  refine AW.rSC ?_
  refine awOps.cons (awGuard.cG (fun hg => c_slices_Equal_string_string _ a.keys b.keys (by omega)) ?_)
  refine awOps.rn ?_
  refine awOps.cons (awGuard.cG (fun hg => equalObjs_step _ N ih a.kids b.kids (by omega) (fun i hi => Nat.lt_of_lt_of_le (Pob.bulk_kid hi) ha)) ?_)
  refine awOps.rn ?_
  refine AW.rt ?_
  rw [show ∀ x y : Bool, x = y → AE.ret (.bool x) = AE.ret (.bool y) from fun _ _ h => by rw [h]]
  rw [Bool.eq_iff_iff]
  simp only [decide_eq_true_eq, Bool.cond_false_right, Bool.and_eq_true, Pob_eq a b, and_assoc]
theorem same_all (gl : List (Nat × AV)) (N : Nat) : N ≤ 16777216 → ∀ a b : Pob, a.bulk ≤ N → FnP Tryz.prog gl 61 [.agg a.cells, .agg b.cells] fun r => r = .ret (.bool (decide (a = b))) := by
  induction N using Nat.strongRecOn with
  | ind N IH => exact fun hN a b ha => same_step gl N hN (fun x y h => IH x.bulk h (by omega) x y (Nat.le_refl _)) a b ha
theorem c_value_Same (gl : List (Nat × AV)) (a b : Pob) (h : a.bulk ≤ 16777216 := by assumption) : FnP Tryz.prog gl 61 [.agg a.cells, .agg b.cells] fun r => r = .ret (.bool (decide (a = b))) := same_all gl 16777216 (Nat.le_refl _) a b h
theorem c_docs_numbers (gl : List (Nat × AV)) (i : Itm) : FnP Tryz.prog (gl) 142 [.agg i.cells] fun r => r = .ret (.bool (decide (1 ≤ i.num) && decide (i.num ≤ 8191) && decide (0 ≤ i.gen) && decide (i.gen ≤ 65535))) := by
  refine FnP.intro Tryz.func142 rfl rfl (by simp [Tryz.ntmps142]) ?_
  simp only [argEnv, Tryz.ntmps142, Tryz.results142]
  refine AW.rS ?_
  refine AW.rS ?_
  refine AW.rt ?_
  simp only [Bool.cond_false_right]
theorem c_docs_same (gl : List (Nat × AV)) (a b : Itm) (h : a.obj.bulk ≤ 16777216 := by first | omega | exact u8_le _ | assumption | (simp; done) | (simp; omega)) : FnP Tryz.prog (gl) 83 [.agg a.cells, .agg b.cells] fun r => r = .ret (.bool (decide (a = b))) := by
  refine FnP.intro Tryz.func83 rfl rfl (by simp [Tryz.ntmps83]) ?_
  simp only [argEnv, Tryz.ntmps83, Tryz.results83]
  refine AW.rS ?_
  refine AW.rSC ?_
  refine awOps.cons (awGuard.cG (fun hg => c_value_Same _ a.obj b.obj) ?_)
  refine awOps.rn ?_
  refine AW.rt ?_
  rw [show ∀ x y : Bool, x = y → AE.ret (.bool x) = AE.ret (.bool y) from fun _ _ h => by rw [h]]
  rw [Bool.eq_iff_iff]
  simp only [decide_eq_true_eq, Bool.cond_false_right, Bool.and_eq_true, Itm_eq a b, and_assoc]
theorem c_docs_copied (gl : List (Nat × AV)) (i : Itm) (h : i.obj.bulk ≤ 16777216 := by first | omega | exact u8_le _ | assumption | (simp; done) | (simp; omega)) : FnP Tryz.prog (gl) 84 [.agg i.cells] fun r => r = .ret (.agg i.cells) := by
  refine FnP.intro Tryz.func84 rfl rfl (by simp [Tryz.ntmps84]) ?_
  simp only [argEnv, Tryz.ntmps84, Tryz.results84]
  refine AW.rS ?_
  refine AW.rSC ?_
  refine awOps.cons (awGuard.c1 (c_value_Clone _ i.obj) ?_)
  refine awOps.rn ?_
  refine AW.rS ?_
  refine AW.rt ?_
  all_goals first | contradiction | rfl | (simp; done) | (simp; omega)
end Go.Proofs


namespace Go.Proofs
open Go Aw
set_option linter.unusedSimpArgs false
set_option linter.unusedVariables false
set_option maxRecDepth 100000
set_option maxHeartbeats 4000000

def badAV (e : Int) : AV := .iface 151 (.agg [.int .i64 e])
attribute [go_sem] badAV
theorem c_value_must (gl : List (Nat × AV)) (b : Bool) (e : Int) : FnP Tryz.prog (gl) 158 [.bool b, .int .i64 e] fun r => r = if b = true then .ret (.tup []) else .panic (badAV e) := by
  refine FnP.intro Tryz.func158 rfl rfl (by simp [Tryz.ntmps158]) ?_
  simp only [argEnv, Tryz.ntmps158, Tryz.results158]
  refine AW.rS ?_
  refine AW.c2 ?_ ?_
  · intro h2
    refine AW.rLC ?_
    refine awOps.cons (awGuard.pn ?_)
    refine wk ?_
    rw [if_neg (by simp [h2])]
  · intro h2
    refine AW.skip ?_
    refine wk ?_
    rw [if_pos h2]
end Go.Proofs

namespace Go.Proofs
open Go Aw
set_option linter.unusedSimpArgs false
set_option linter.unusedVariables false
set_option maxRecDepth 100000
set_option maxHeartbeats 4000000
theorem c_value_within_int64 (gl : List (Nat × AV)) (n a b : Int) : FnP Tryz.prog (gl) 124 [.int .i64 n, .int .i64 a, .int .i64 b] fun r => r = .ret (.bool (decide (a ≤ n) && decide (n ≤ b))) := by
  refine FnP.intro Tryz.func124 rfl rfl (by simp [Tryz.ntmps124]) ?_
  simp only [argEnv, Tryz.ntmps124, Tryz.results124]
  refine AW.rS ?_
  refine AW.rS ?_
  refine AW.rt ?_
  simp only [Bool.cond_false_right]
theorem c_value_within_int (gl : List (Nat × AV)) (n a b : Int) : FnP Tryz.prog (gl) 186 [.int .i64 n, .int .i64 a, .int .i64 b] fun r => r = .ret (.bool (decide (a ≤ n) && decide (n ≤ b))) := by
  refine FnP.intro Tryz.func186 rfl rfl (by simp [Tryz.ntmps186]) ?_
  simp only [argEnv, Tryz.ntmps186, Tryz.results186]
  refine AW.rS ?_
  refine AW.rS ?_
  refine AW.rt ?_
  simp only [Bool.cond_false_right]
theorem c_value_fits (gl : List (Nat × AV)) (o : Pob) : FnP Tryz.prog (gl) 160 [.agg o.cells] fun r => r = .ret (.bool (fitsB o)) := by
  refine FnP.intro Tryz.func160 rfl rfl (by simp [Tryz.ntmps160]) ?_
  simp only [argEnv, Tryz.ntmps160, Tryz.results160]
  refine AW.rS ?_
  refine AW.seq ?_
  refine AW.rS ?_
  refine AW.block ?_
  refine AW.rS ?_
  refine AW.c2 ?_ ?_
  · intro h6
    refine AW.rSC ?_
    refine awOps.cons (awGuard.c1 (c_value_within_int64 _ o.num 0 1) ?_)
    refine awOps.rn ?_
    refine AW.rt ?_
    simp_all [fitsB]
  · intro h6
    refine AW.rS ?_
    refine AW.c2 ?_ ?_
    · intro h13
      refine AW.rSC ?_
      refine awOps.cons (awGuard.c1 (c_value_within_int64 _ o.num (-2147483647) 2147483647) ?_)
      refine awOps.rn ?_
      refine AW.rt ?_
      simp_all [fitsB]
    · intro h13
      refine AW.rS ?_
      refine AW.c2 ?_ ?_
      · intro h20
        refine AW.rSC ?_
        refine awOps.cons (awGuard.c1 (c_value_within_int64 _ o.num (-1073741824) 1073741824) ?_)
        refine awOps.rn ?_
        refine AW.rt ?_
        simp_all [fitsB]
      · intro h20
        refine AW.rS ?_
        refine AW.c2 ?_ ?_
        · intro h27
          refine AW.rSC ?_
          refine awOps.cons (awGuard.c1 (c_value_within_int64 _ o.num 1 8191) ?_)
          refine awOps.rn ?_
          refine awOps.cons (awGuard.cG (fun hg => c_value_within_int _ o.gen 0 65535) ?_)
          refine awOps.rn ?_
          refine AW.rt ?_
          simp_all [fitsB]
        · intro h27
          refine AW.skip ?_
          refine AW.rS ?_
          refine AW.rt ?_
          simp_all [fitsB]
theorem c_value_short (gl : List (Nat × AV)) (o : Pob) : FnP Tryz.prog (gl) 161 [.agg o.cells] fun r => r = .ret (.bool (shortB o)) := by
  refine FnP.intro Tryz.func161 rfl rfl (by simp [Tryz.ntmps161]) ?_
  simp only [argEnv, Tryz.ntmps161, Tryz.results161]
  refine AW.rS ?_
  refine AW.seq ?_
  refine AW.rS ?_
  refine AW.block ?_
  refine AW.rS ?_
  refine AW.c2 ?_ ?_
  · intro h6
    refine AW.rS ?_
    refine AW.rt ?_
    simp_all [shortB]
  · intro h6
    refine AW.rS ?_
    refine AW.c2 ?_ ?_
    · intro h11
      refine AW.rS ?_
      refine AW.rt ?_
      simp_all [shortB]
    · intro h11
      refine AW.skip ?_
      refine AW.rS ?_
      refine AW.rt ?_
      simp_all [shortB]
end Go.Proofs


namespace Go.Proofs
open Go Aw
set_option linter.unusedSimpArgs false
set_option linter.unusedVariables false
set_option maxRecDepth 100000
set_option maxHeartbeats 4000000
theorem c_value_used (gl : List (Nat × AV)) (k : Int) : FnP Tryz.prog (gl) 159 [.int .i64 k] fun r => r = .ret (.tup [.agg [.bool (uN k), .bool (uG k), .bool (uS k), .bool (uKeys k), .bool (uKids k)], .bool (uOk k)]) := by
  refine FnP.intro Tryz.func159 rfl rfl (by simp [Tryz.ntmps159]) ?_
  simp only [argEnv, Tryz.ntmps159, Tryz.results159]
  refine AW.rS ?_
  refine AW.seq ?_
  refine AW.rS ?_
  refine AW.block ?_
  refine AW.rS ?_
  refine AW.c2 ?_ ?_
  · intro h6
    refine AW.rS ?_
    refine AW.rt ?_
    first | (exfalso; omega) | (refine used_eq ?_ ?_ ?_ ?_ ?_ ?_ <;> simp only [uN, uG, uS, uKeys, uKids, uOk] <;> first | (subst_vars; rfl) | grind)
  · intro h6
    refine AW.seq ?_
    refine AW.rS ?_
    refine AW.c2 ?_ ?_
    · intro h12
      refine AW.skip ?_
      refine AW.c2 ?_ ?_
      · intro h14
        refine AW.rS ?_
        refine AW.rt ?_
        first | (exfalso; omega) | (refine used_eq ?_ ?_ ?_ ?_ ?_ ?_ <;> simp only [uN, uG, uS, uKeys, uKids, uOk] <;> first | (subst_vars; rfl) | grind)
      · intro h14
        refine AW.seq ?_
        refine AW.rS ?_
        refine AW.c2 ?_ ?_
        · intro h20
          refine AW.skip ?_
          refine AW.c2 ?_ ?_
          · intro h22
            refine AW.rS ?_
            refine AW.rt ?_
            first | (exfalso; omega) | (refine used_eq ?_ ?_ ?_ ?_ ?_ ?_ <;> simp only [uN, uG, uS, uKeys, uKids, uOk] <;> first | (subst_vars; rfl) | grind)
          · intro h22
            refine AW.rS ?_
            refine AW.c2 ?_ ?_
            · intro h27
              refine AW.rS ?_
              refine AW.rt ?_
              first | (exfalso; omega) | (refine used_eq ?_ ?_ ?_ ?_ ?_ ?_ <;> simp only [uN, uG, uS, uKeys, uKids, uOk] <;> first | (subst_vars; rfl) | grind)
            · intro h27
              refine AW.rS ?_
              refine AW.c2 ?_ ?_
              · intro h32
                refine AW.rS ?_
                refine AW.rt ?_
                first | (exfalso; omega) | (refine used_eq ?_ ?_ ?_ ?_ ?_ ?_ <;> simp only [uN, uG, uS, uKeys, uKids, uOk] <;> first | (subst_vars; rfl) | grind)
              · intro h32
                refine AW.rS ?_
                refine AW.c2 ?_ ?_
                · intro h37
                  refine AW.rS ?_
                  refine AW.rt ?_
                  first | (exfalso; omega) | (refine used_eq ?_ ?_ ?_ ?_ ?_ ?_ <;> simp only [uN, uG, uS, uKeys, uKids, uOk] <;> first | (subst_vars; rfl) | grind)
                · intro h37
                  refine AW.rS ?_
                  refine AW.c2 ?_ ?_
                  · intro h42
                    refine AW.rS ?_
                    refine AW.rt ?_
                    first | (exfalso; omega) | (refine used_eq ?_ ?_ ?_ ?_ ?_ ?_ <;> simp only [uN, uG, uS, uKeys, uKids, uOk] <;> first | (subst_vars; rfl) | grind)
                  · intro h42
                    refine AW.skip ?_
                    refine AW.rS ?_
                    refine AW.rt ?_
                    first | (exfalso; omega) | (refine used_eq ?_ ?_ ?_ ?_ ?_ ?_ <;> simp only [uN, uG, uS, uKeys, uKids, uOk] <;> first | (subst_vars; rfl) | grind)
        · intro h20
          refine AW.rL ?_
          refine AW.c2 ?_ ?_
          · intro h51
            refine AW.rS ?_
            refine AW.rt ?_
            first | (exfalso; omega) | (refine used_eq ?_ ?_ ?_ ?_ ?_ ?_ <;> simp only [uN, uG, uS, uKeys, uKids, uOk] <;> first | (subst_vars; rfl) | grind)
          · intro h51
            refine AW.rS ?_
            refine AW.c2 ?_ ?_
            · intro h56
              refine AW.rS ?_
              refine AW.rt ?_
              first | (exfalso; omega) | (refine used_eq ?_ ?_ ?_ ?_ ?_ ?_ <;> simp only [uN, uG, uS, uKeys, uKids, uOk] <;> first | (subst_vars; rfl) | grind)
            · intro h56
              refine AW.rS ?_
              refine AW.c2 ?_ ?_
              · intro h61
                refine AW.rS ?_
                refine AW.rt ?_
                first | (exfalso; omega) | (refine used_eq ?_ ?_ ?_ ?_ ?_ ?_ <;> simp only [uN, uG, uS, uKeys, uKids, uOk] <;> first | (subst_vars; rfl) | grind)
              · intro h61
                refine AW.rS ?_
                refine AW.c2 ?_ ?_
                · intro h66
                  refine AW.rS ?_
                  refine AW.rt ?_
                  first | (exfalso; omega) | (refine used_eq ?_ ?_ ?_ ?_ ?_ ?_ <;> simp only [uN, uG, uS, uKeys, uKids, uOk] <;> first | (subst_vars; rfl) | grind)
                · intro h66
                  refine AW.rS ?_
                  refine AW.c2 ?_ ?_
                  · intro h71
                    refine AW.rS ?_
                    refine AW.rt ?_
                    first | (exfalso; omega) | (refine used_eq ?_ ?_ ?_ ?_ ?_ ?_ <;> simp only [uN, uG, uS, uKeys, uKids, uOk] <;> first | (subst_vars; rfl) | grind)
                  · intro h71
                    refine AW.skip ?_
                    refine AW.rS ?_
                    refine AW.rt ?_
                    first | (exfalso; omega) | (refine used_eq ?_ ?_ ?_ ?_ ?_ ?_ <;> simp only [uN, uG, uS, uKeys, uKids, uOk] <;> first | (subst_vars; rfl) | grind)
    · intro h12
      refine AW.rS ?_
      refine AW.c2 ?_ ?_
      · intro h80
        refine AW.skip ?_
        refine AW.c2 ?_ ?_
        · intro h82
          refine AW.rS ?_
          refine AW.rt ?_
          first | (exfalso; omega) | (refine used_eq ?_ ?_ ?_ ?_ ?_ ?_ <;> simp only [uN, uG, uS, uKeys, uKids, uOk] <;> first | (subst_vars; rfl) | grind)
        · intro h82
          refine AW.seq ?_
          refine AW.rS ?_
          refine AW.c2 ?_ ?_
          · intro h88
            refine AW.skip ?_
            refine AW.c2 ?_ ?_
            · intro h90
              refine AW.rS ?_
              refine AW.rt ?_
              first | (exfalso; omega) | (refine used_eq ?_ ?_ ?_ ?_ ?_ ?_ <;> simp only [uN, uG, uS, uKeys, uKids, uOk] <;> first | (subst_vars; rfl) | grind)
            · intro h90
              refine AW.rS ?_
              refine AW.c2 ?_ ?_
              · intro h95
                refine AW.rS ?_
                refine AW.rt ?_
                first | (exfalso; omega) | (refine used_eq ?_ ?_ ?_ ?_ ?_ ?_ <;> simp only [uN, uG, uS, uKeys, uKids, uOk] <;> first | (subst_vars; rfl) | grind)
              · intro h95
                refine AW.rS ?_
                refine AW.c2 ?_ ?_
                · intro h100
                  refine AW.rS ?_
                  refine AW.rt ?_
                  first | (exfalso; omega) | (refine used_eq ?_ ?_ ?_ ?_ ?_ ?_ <;> simp only [uN, uG, uS, uKeys, uKids, uOk] <;> first | (subst_vars; rfl) | grind)
                · intro h100
                  refine AW.rS ?_
                  refine AW.c2 ?_ ?_
                  · intro h105
                    refine AW.rS ?_
                    refine AW.rt ?_
                    first | (exfalso; omega) | (refine used_eq ?_ ?_ ?_ ?_ ?_ ?_ <;> simp only [uN, uG, uS, uKeys, uKids, uOk] <;> first | (subst_vars; rfl) | grind)
                  · intro h105
                    refine AW.rS ?_
                    refine AW.c2 ?_ ?_
                    · intro h110
                      refine AW.rS ?_
                      refine AW.rt ?_
                      first | (exfalso; omega) | (refine used_eq ?_ ?_ ?_ ?_ ?_ ?_ <;> simp only [uN, uG, uS, uKeys, uKids, uOk] <;> first | (subst_vars; rfl) | grind)
                    · intro h110
                      refine AW.skip ?_
                      refine AW.rS ?_
                      refine AW.rt ?_
                      first | (exfalso; omega) | (refine used_eq ?_ ?_ ?_ ?_ ?_ ?_ <;> simp only [uN, uG, uS, uKeys, uKids, uOk] <;> first | (subst_vars; rfl) | grind)
          · intro h88
            refine AW.rL ?_
            refine AW.c2 ?_ ?_
            · intro h119
              refine AW.rS ?_
              refine AW.rt ?_
              first | (exfalso; omega) | (refine used_eq ?_ ?_ ?_ ?_ ?_ ?_ <;> simp only [uN, uG, uS, uKeys, uKids, uOk] <;> first | (subst_vars; rfl) | grind)
            · intro h119
              refine AW.rS ?_
              refine AW.c2 ?_ ?_
              · intro h124
                refine AW.rS ?_
                refine AW.rt ?_
                first | (exfalso; omega) | (refine used_eq ?_ ?_ ?_ ?_ ?_ ?_ <;> simp only [uN, uG, uS, uKeys, uKids, uOk] <;> first | (subst_vars; rfl) | grind)
              · intro h124
                refine AW.rS ?_
                refine AW.c2 ?_ ?_
                · intro h129
                  refine AW.rS ?_
                  refine AW.rt ?_
                  first | (exfalso; omega) | (refine used_eq ?_ ?_ ?_ ?_ ?_ ?_ <;> simp only [uN, uG, uS, uKeys, uKids, uOk] <;> first | (subst_vars; rfl) | grind)
                · intro h129
                  refine AW.rS ?_
                  refine AW.c2 ?_ ?_
                  · intro h134
                    refine AW.rS ?_
                    refine AW.rt ?_
                    first | (exfalso; omega) | (refine used_eq ?_ ?_ ?_ ?_ ?_ ?_ <;> simp only [uN, uG, uS, uKeys, uKids, uOk] <;> first | (subst_vars; rfl) | grind)
                  · intro h134
                    refine AW.rS ?_
                    refine AW.c2 ?_ ?_
                    · intro h139
                      refine AW.rS ?_
                      refine AW.rt ?_
                      first | (exfalso; omega) | (refine used_eq ?_ ?_ ?_ ?_ ?_ ?_ <;> simp only [uN, uG, uS, uKeys, uKids, uOk] <;> first | (subst_vars; rfl) | grind)
                    · intro h139
                      refine AW.skip ?_
                      refine AW.rS ?_
                      refine AW.rt ?_
                      first | (exfalso; omega) | (refine used_eq ?_ ?_ ?_ ?_ ?_ ?_ <;> simp only [uN, uG, uS, uKeys, uKids, uOk] <;> first | (subst_vars; rfl) | grind)
      · intro h80
        refine AW.rL ?_
        refine AW.c2 ?_ ?_
        · intro h148
          refine AW.rS ?_
          refine AW.rt ?_
          first | (exfalso; omega) | (refine used_eq ?_ ?_ ?_ ?_ ?_ ?_ <;> simp only [uN, uG, uS, uKeys, uKids, uOk] <;> first | (subst_vars; rfl) | grind)
        · intro h148
          refine AW.seq ?_
          refine AW.rS ?_
          refine AW.c2 ?_ ?_
          · intro h154
            refine AW.skip ?_
            refine AW.c2 ?_ ?_
            · intro h156
              refine AW.rS ?_
              refine AW.rt ?_
              first | (exfalso; omega) | (refine used_eq ?_ ?_ ?_ ?_ ?_ ?_ <;> simp only [uN, uG, uS, uKeys, uKids, uOk] <;> first | (subst_vars; rfl) | grind)
            · intro h156
              refine AW.rS ?_
              refine AW.c2 ?_ ?_
              · intro h161
                refine AW.rS ?_
                refine AW.rt ?_
                first | (exfalso; omega) | (refine used_eq ?_ ?_ ?_ ?_ ?_ ?_ <;> simp only [uN, uG, uS, uKeys, uKids, uOk] <;> first | (subst_vars; rfl) | grind)
              · intro h161
                refine AW.rS ?_
                refine AW.c2 ?_ ?_
                · intro h166
                  refine AW.rS ?_
                  refine AW.rt ?_
                  first | (exfalso; omega) | (refine used_eq ?_ ?_ ?_ ?_ ?_ ?_ <;> simp only [uN, uG, uS, uKeys, uKids, uOk] <;> first | (subst_vars; rfl) | grind)
                · intro h166
                  refine AW.rS ?_
                  refine AW.c2 ?_ ?_
                  · intro h171
                    refine AW.rS ?_
                    refine AW.rt ?_
                    first | (exfalso; omega) | (refine used_eq ?_ ?_ ?_ ?_ ?_ ?_ <;> simp only [uN, uG, uS, uKeys, uKids, uOk] <;> first | (subst_vars; rfl) | grind)
                  · intro h171
                    refine AW.rS ?_
                    refine AW.c2 ?_ ?_
                    · intro h176
                      refine AW.rS ?_
                      refine AW.rt ?_
                      first | (exfalso; omega) | (refine used_eq ?_ ?_ ?_ ?_ ?_ ?_ <;> simp only [uN, uG, uS, uKeys, uKids, uOk] <;> first | (subst_vars; rfl) | grind)
                    · intro h176
                      refine AW.skip ?_
                      refine AW.rS ?_
                      refine AW.rt ?_
                      first | (exfalso; omega) | (refine used_eq ?_ ?_ ?_ ?_ ?_ ?_ <;> simp only [uN, uG, uS, uKeys, uKids, uOk] <;> first | (subst_vars; rfl) | grind)
          · intro h154
            refine AW.rL ?_
            refine AW.c2 ?_ ?_
            · intro h185
              refine AW.rS ?_
              refine AW.rt ?_
              first | (exfalso; omega) | (refine used_eq ?_ ?_ ?_ ?_ ?_ ?_ <;> simp only [uN, uG, uS, uKeys, uKids, uOk] <;> first | (subst_vars; rfl) | grind)
            · intro h185
              refine AW.rS ?_
              refine AW.c2 ?_ ?_
              · intro h190
                refine AW.rS ?_
                refine AW.rt ?_
                first | (exfalso; omega) | (refine used_eq ?_ ?_ ?_ ?_ ?_ ?_ <;> simp only [uN, uG, uS, uKeys, uKids, uOk] <;> first | (subst_vars; rfl) | grind)
              · intro h190
                refine AW.rS ?_
                refine AW.c2 ?_ ?_
                · intro h195
                  refine AW.rS ?_
                  refine AW.rt ?_
                  first | (exfalso; omega) | (refine used_eq ?_ ?_ ?_ ?_ ?_ ?_ <;> simp only [uN, uG, uS, uKeys, uKids, uOk] <;> first | (subst_vars; rfl) | grind)
                · intro h195
                  refine AW.rS ?_
                  refine AW.c2 ?_ ?_
                  · intro h200
                    refine AW.rS ?_
                    refine AW.rt ?_
                    first | (exfalso; omega) | (refine used_eq ?_ ?_ ?_ ?_ ?_ ?_ <;> simp only [uN, uG, uS, uKeys, uKids, uOk] <;> first | (subst_vars; rfl) | grind)
                  · intro h200
                    refine AW.rS ?_
                    refine AW.c2 ?_ ?_
                    · intro h205
                      refine AW.rS ?_
                      refine AW.rt ?_
                      first | (exfalso; omega) | (refine used_eq ?_ ?_ ?_ ?_ ?_ ?_ <;> simp only [uN, uG, uS, uKeys, uKids, uOk] <;> first | (subst_vars; rfl) | grind)
                    · intro h205
                      refine AW.skip ?_
                      refine AW.rS ?_
                      refine AW.rt ?_
                      first | (exfalso; omega) | (refine used_eq ?_ ?_ ?_ ?_ ?_ ?_ <;> simp only [uN, uG, uS, uKeys, uKids, uOk] <;> first | (subst_vars; rfl) | grind)
end Go.Proofs


namespace Go.Proofs
open Go.Shelf
def Tryz.lays137_ren : Go.Shelf.Ren := ⟨fun | 137 => 187 | 217 => 198 | 266 => 213 | n => n, fun | 9 => 9 | 5 => 5 | 3 => 3 | n => n, fun | n => n⟩
theorem Tryz.lays137 : Go.Proofs.Lays.n137 Tryz.prog Tryz.lays137_ren := {
  mixed := by kernel_rfl
  f137 := Tryz.func187.trans (congrArg some (by kernel_rfl))
  f217 := Tryz.func198.trans (congrArg some (by kernel_rfl))
  f266 := Tryz.func213.trans (congrArg some (by kernel_rfl))
  t3 := Tryz.underlying3
  a3 := Tryz.isAgg3
  z3 := Tryz.sizeOf3
  v3 := Tryz.zeroValue3
  t5 := Tryz.underlying5
  a5 := Tryz.isAgg5
  z5 := Tryz.sizeOf5
  v5 := Tryz.zeroValue5
  t9 := Tryz.underlying9
  a9 := Tryz.isAgg9
  z9 := Tryz.sizeOf9
  v9 := Tryz.zeroValue9 }
open Go.RowKit in
theorem Tryz.strings_IndexByte (s : ByteArray) (c : Int) (w : World) :
    Calls Tryz.prog 187 #[.string s, .int .u8 c] w fun e w' => e = .returned (.int .i64 (Lib.indexByte s.data.toList c.toNat.toUInt8)) ∧ w' = w := Any.strings_IndexByte Tryz.lays137 s c w
end Go.Proofs

namespace Go.Proofs
open Go Aw
set_option linter.unusedSimpArgs false
set_option linter.unusedVariables false
set_option maxRecDepth 100000
set_option maxHeartbeats 4000000
theorem c_strings_IndexByte (gl : List (Nat × AV)) (s : List UInt8) (c : Int) : FnP Tryz.prog gl 187 [.str s, .int .u8 c] fun r => r = .ret (.int .i64 (Lib.indexByte s c.toNat.toUInt8)) := by
  refine FnP.same (enters_of Tryz.func187 rfl rfl) ?_
  intro m vs _ hv
  simp only [RepL, Rep] at hv
  obtain ⟨_, _, rfl, rfl, _, _, rfl, rfl, rfl⟩ := hv
  refine (Tryz.strings_IndexByte ⟨s.toArray⟩ c m.w).mono ?_
  rintro e w' ⟨rfl, rfl⟩
  exact ⟨⟨_, rfl, fun m => by simp only [Rep]⟩, rfl⟩
theorem c_value_key (gl : List (Nat × AV)) (s : List UInt8) : FnP Tryz.prog (gl) 162 [.str s] fun r => r = .ret (.bool (nameB s)) := by
  refine FnP.intro Tryz.func162 rfl rfl (by simp [Tryz.ntmps162]) ?_
  simp only [argEnv, Tryz.ntmps162, Tryz.results162]
  refine AW.rS ?_
  refine AW.rSC ?_
  refine awOps.cons (awGuard.cG (fun hg => c_strings_IndexByte _ s 0) ?_)
  refine awOps.rn ?_
  refine AW.rt ?_
  simp only [nameB, Bool.cond_false_right]; rfl
end Go.Proofs


namespace Go.Proofs
open Go Aw
set_option linter.unusedSimpArgs false
set_option linter.unusedVariables false
set_option maxRecDepth 100000
set_option maxHeartbeats 4000000
theorem c_value_rising (gl : List (Nat × AV)) (o : Pob) (hk : o.keys.length ≤ 16777216 := by first | omega | exact u8_le _ | assumption | (simp; done) | (simp; omega)) : FnP Tryz.prog (gl) 163 [.agg o.cells] fun r => r = .ret (.bool (risingB o)) := by
  refine FnP.intro Tryz.func163 rfl rfl (by simp [Tryz.ntmps163]) ?_
  simp only [argEnv, Tryz.ntmps163, Tryz.results163]
  refine AW.rS ?_
  refine AW.seq ?_
  refine AW.rS ?_
  refine AW.c2 ?_ ?_
  · intro h4
    refine AW.rS ?_
    refine AW.rt ?_
    rw [rising_no (fun h => by have := h.1; omega)]
  · intro h4
    refine AW.skip ?_
    refine AW.seq ?_
    refine AW.rS ?_
    refine AW.block ?_
    refine AW.lk (S := { i : Nat // i ≤ o.keys.length ∧ ∀ j, j < i → okKey o j }) [1, 13, 14] (fun s_ => [(15, .int .i64 s_.1)]) (fun s_ => [(0, .cells [.int .i64 o.kind, .int .i64 o.num, .int .i64 o.gen, .str o.str, .sl (strsAV o.keys), .sl (objsAV o.kids)])]) 1 (fun s_ => o.keys.length - s_.1) ⟨0, Nat.zero_le _, fun j h => absurd h (by omega)⟩ ?_ ?_
    · refine St.le.vw [0]
    rintro ⟨i, hi, hs⟩
    try dsimp only at hi
    try dsimp only at hs
    refine AW.rS ?_
    refine AW.seq ?_
    refine AW.c2 ?_ ?_
    · intro h15
      refine AW.skip ?_
      refine AW.seq ?_
      refine AW.block ?_
      refine AW.rS ?_
      refine AW.rSC ?_
      refine awOps.cons (awGuard.c1 (c_value_key _ (o.keys.getD i [])) ?_)
      refine awOps.rn ?_
      refine AW.c2 ?_ ?_
      · intro h23
        refine AW.rS ?_
        refine AW.rt ?_
        rw [rising_no (fun h => by have := h.2 i h15; simp only [okKey] at this; grind)]
      · intro h23
        refine AW.skip ?_
        have hok : okKey o i := by simp only [okKey]; grind
        refine AW.rL ?_
        refine ⟨⟨i + 1, by omega, fun j hj => by rcases Nat.lt_succ_iff_lt_or_eq.1 hj with h | rfl; exact hs j h; exact hok⟩, ?_, ?_⟩
        · refine St.le.vw [0]
        · simp only []; omega
    · intro h15
      refine AW.exit ?_
      refine AW.rS ?_
      refine AW.rt ?_
      rw [rising_yes ⟨by omega, fun j hj => hs j (by omega)⟩]
end Go.Proofs
