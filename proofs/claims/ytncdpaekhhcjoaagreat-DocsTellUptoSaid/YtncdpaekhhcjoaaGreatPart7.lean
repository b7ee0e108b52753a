/- A part of the proof of a law of the seat: no condition of its own. -/
import Derived.Test.YtncdpaekhhcjoaaGreatPart6
namespace Go.Proofs
open Go Aw
set_option linter.unusedSimpArgs false
set_option linter.unusedVariables false
set_option maxRecDepth 100000
set_option maxHeartbeats 4000000

theorem h_Clone_string (gl : List (Nat × AV)) (ks : List (List UInt8)) (hk : ks.length ≤ 16777216 := by first | omega | exact u8_le _ | assumption | (simp; done) | (simp; omega)) : FnH Tryz.prog (gl) 152 [.sl (strsAV ks)] ([]) 0 (fun r h n => r = .ret (.row 1 0 ks.length) ∧ h = [(1, .row 1 (strsAV ks) true)] ∧ n = 2) := by
  refine FnH.intro Tryz.func152 rfl rfl (by simp [Tryz.ntmps152]) ?_
  simp only [argEnv, Tryz.ntmps152, Tryz.results152]
  refine AW.rS ?_
  refine AW.seq ?_
  refine AW.rSC ?_
  refine awOps.cons (awGuard.nS ?_)
  intro b4 hb4
  simp only [nilBool]
  refine awOps.rn ?_
  refine AW.c2 ?_ ?_
  · intro h6
    refine AW.rS ?_
    refine AW.pre (St.le.nilrow 2 1 (by (simp only [go_sem, seval]; try (simp (disch := omega) only [wrap_i64, wrap_u8, wrap_u64, tdiv_nn, tmod_nn, Int.toNat_natCast_add_one, toNat_sub1, Int.toNat_sub, Int.toNat_natCast, intsAV_getD, strsAV_getD, objsAV_getD, itemsAV_getD, intsAV_out, strsAV_out, objsAV_out, itemsAV_out, fillO_length, fillO_set]; try (simp only [go_sem, seval]; try (simp (disch := omega) only [wrap_i64, wrap_u8, wrap_u64, tdiv_nn, tmod_nn, Int.toNat_natCast_add_one, toNat_sub1, Int.toNat_sub, Int.toNat_natCast, intsAV_getD, strsAV_getD, objsAV_getD, itemsAV_getD, intsAV_out, strsAV_out, objsAV_out, itemsAV_out, fillO_length, fillO_set]; try simp only [go_sem, seval])))))) ?_
    refine wk ?_
    refine AW.rnm 2 ?_
    refine wk ?_
    refine AW.rt ?_
    rw [nil_strs hb4 h6, strsAV_nil]; simp
  · intro h6
    refine AW.skip ?_
    refine AW.rS ?_
    refine AW.rt ?_
    all_goals first | contradiction | rfl | (simp; done) | (simp; omega)
theorem h_Clone_Object (gl : List (Nat × AV)) (ks : List Pob) (hk : ks.length ≤ 16777216 := by first | omega | exact u8_le _ | assumption | (simp; done) | (simp; omega)) : FnH Tryz.prog (gl) 153 [.sl (objsAV ks)] ([]) 0 (fun r h n => r = .ret (.row 1 0 ks.length) ∧ h = [(1, .row 6 (objsAV ks) true)] ∧ n = 2) := by
  refine FnH.intro Tryz.func153 rfl rfl (by simp [Tryz.ntmps153]) ?_
  simp only [argEnv, Tryz.ntmps153, Tryz.results153]
  refine AW.rS ?_
  refine AW.seq ?_
  refine AW.rSC ?_
  refine awOps.cons (awGuard.nS ?_)
  intro b4 hb4
  simp only [nilBool]
  refine awOps.rn ?_
  refine AW.c2 ?_ ?_
  · intro h6
    refine AW.rS ?_
    refine AW.pre (St.le.nilrow 2 6 (by (simp only [go_sem, seval]; try (simp (disch := omega) only [wrap_i64, wrap_u8, wrap_u64, tdiv_nn, tmod_nn, Int.toNat_natCast_add_one, toNat_sub1, Int.toNat_sub, Int.toNat_natCast, intsAV_getD, strsAV_getD, objsAV_getD, itemsAV_getD, intsAV_out, strsAV_out, objsAV_out, itemsAV_out, fillO_length, fillO_set]; try (simp only [go_sem, seval]; try (simp (disch := omega) only [wrap_i64, wrap_u8, wrap_u64, tdiv_nn, tmod_nn, Int.toNat_natCast_add_one, toNat_sub1, Int.toNat_sub, Int.toNat_natCast, intsAV_getD, strsAV_getD, objsAV_getD, itemsAV_getD, intsAV_out, strsAV_out, objsAV_out, itemsAV_out, fillO_length, fillO_set]; try simp only [go_sem, seval])))))) ?_
    refine wk ?_
    refine AW.rnm 2 ?_
    refine wk ?_
    refine AW.rt ?_
    rw [nil_objs hb4 h6, objsAV_nil]; simp
  · intro h6
    refine AW.skip ?_
    refine AW.rS ?_
    refine AW.rt ?_
    all_goals first | contradiction | rfl | (simp; done) | (simp; omega)
theorem h_Ins_str (gl : List (Nat × AV)) (ks : List (List UInt8)) (k : List UInt8) (i : Nat) (hi : i ≤ ks.length) (hl : ks.length ≤ 16777216 := by omega) : FnH Tryz.prog gl 154 [.row 0 0 ks.length, .int .i64 i, .row 1 0 1]
    [(0, .row 1 (strsAV ks) true), (1, .row 1 [[.str k]] true)] 2 fun r h n => r = .ret (.row 2 0 (ks.length + 1)) ∧ h = [(1, .row 1 [[.str k]] true), (2, .row 1 (strsAV (insAt ks i k)) true)] ∧ n = 3 := by
  have h := h_Insert_string gl (strsAV ks) [.str k] i (by rw [strsAV_ok]; trivial) rfl (by rw [strsAV_length]; exact hi) (by rw [strsAV_length]; exact hl)
  rw [strsAV_length, strsAV_insAt] at h
  exact h
theorem h_Ins_obj (gl : List (Nat × AV)) (l : List Pob) (o : Pob) (i : Nat) (hi : i ≤ l.length) (hl : l.length ≤ 16777216 := by omega) : FnH Tryz.prog gl 155 [.row 0 0 l.length, .int .i64 i, .row 1 0 1]
    [(0, .row 6 (objsAV l) true), (1, .row 6 [o.cells] true)] 2 fun r h n => r = .ret (.row 2 0 (l.length + 1)) ∧ h = [(1, .row 6 [o.cells] true), (2, .row 6 (objsAV (insAt l i o)) true)] ∧ n = 3 := by
  have h := h_Insert_Object gl (objsAV l) o.cells i (by rw [objsAV_ok]; trivial) (cells_ok o) (by rw [objsAV_length]; exact hi) (by rw [objsAV_length]; exact hl)
  rw [objsAV_length, objsAV_insAt] at h
  exact h
theorem h_Ins_itm (gl : List (Nat × AV)) (l : List Itm) (o : Itm) (i : Nat) (hi : i ≤ l.length) (hl : l.length ≤ 16777216 := by omega) : FnH Tryz.prog gl 144 [.row 0 0 l.length, .int .i64 i, .row 1 0 1]
    [(0, .row 8 (itemsAV l) true), (1, .row 8 [o.cells] true)] 2 fun r h n => r = .ret (.row 2 0 (l.length + 1)) ∧ h = [(1, .row 8 [o.cells] true), (2, .row 8 (itemsAV (insAt l i o)) true)] ∧ n = 3 := by
  have h := h_Insert_Item gl (itemsAV l) o.cells i (by rw [itemsAV_ok]; trivial) rfl (by rw [itemsAV_length]; exact hi) (by rw [itemsAV_length]; exact hl)
  rw [itemsAV_length, itemsAV_insAt] at h
  exact h
theorem h_Del_str (gl : List (Nat × AV)) (ks : List (List UInt8)) (i : Nat) (hi : i < ks.length) (hl : ks.length ≤ 16777216 := by omega) : FnH Tryz.prog gl 170 [.row 0 0 ks.length, .int .i64 i, .int .i64 ((i : Int) + 1)]
    [(0, .row 1 (strsAV ks) true)] 1 fun r h n => r = .ret (.row 0 0 (i + (ks.length - (i + 1)))) ∧ h = [(0, .row 1 (strsAV (delAt ks i)) true)] ∧ n = 1 := by
  have h := h_Delete_string gl (strsAV ks) i (i + 1) (by rw [strsAV_ok]; trivial) (by omega) (by rw [strsAV_length]; omega) (by rw [strsAV_length]; exact hl)
  rw [strsAV_length, strsAV_delAt] at h
  exact h
theorem h_Del_obj (gl : List (Nat × AV)) (ks : List Pob) (i : Nat) (hi : i < ks.length) (hl : ks.length ≤ 16777216 := by omega) : FnH Tryz.prog gl 171 [.row 0 0 ks.length, .int .i64 i, .int .i64 ((i : Int) + 1)]
    [(0, .row 6 (objsAV ks) true)] 1 fun r h n => r = .ret (.row 0 0 (i + (ks.length - (i + 1)))) ∧ h = [(0, .row 6 (objsAV (delAt ks i)) true)] ∧ n = 1 := by
  have h := h_Delete_Object gl (objsAV ks) i (i + 1) (by rw [objsAV_ok]; trivial) (by omega) (by rw [objsAV_length]; omega) (by rw [objsAV_length]; exact hl)
  rw [objsAV_length, objsAV_delAt] at h
  exact h
theorem h_Del_itm (gl : List (Nat × AV)) (ks : List Itm) (i : Nat) (hi : i < ks.length) (hl : ks.length ≤ 16777216 := by omega) : FnH Tryz.prog gl 146 [.row 0 0 ks.length, .int .i64 i, .int .i64 ((i : Int) + 1)]
    [(0, .row 8 (itemsAV ks) true)] 1 fun r h n => r = .ret (.row 0 0 (i + (ks.length - (i + 1)))) ∧ h = [(0, .row 8 (itemsAV (delAt ks i)) true)] ∧ n = 1 := by
  have h := h_Delete_Item gl (itemsAV ks) i (i + 1) (by rw [itemsAV_ok]; trivial) (by omega) (by rw [itemsAV_length]; omega) (by rw [itemsAV_length]; exact hl)
  rw [itemsAV_length, itemsAV_delAt] at h
  exact h
theorem c_value_with (gl : List (Nat × AV)) (o : Pob) (key : List UInt8) (v : Pob) (h : o.bulk ≤ 16777216) (hs : incr o.keys) (hl : o.keys.length = o.kids.length) : FnP Tryz.prog (gl) 117 [.agg o.cells, .str key, .agg v.cells] fun r => r = .ret (.agg (o.withK key v).cells) := by
  refine FnP.intro Tryz.func117 rfl rfl (by simp [Tryz.ntmps117]) ?_
  simp only [argEnv, Tryz.ntmps117, Tryz.results117]
  have hb := Pob.bulk_eq o
  have hkp := kplace_le o.keys key
  refine AW.rS ?_
  refine AW.rSC ?_
  refine awOps.cons (awGuard.c1 (c_slices_BinarySearch_string_string _ o.keys key (by omega) hs) ?_)
  refine awOps.rn ?_
  refine AW.rSC ?_
  refine awOps.cons (awGuard.cH [] (h_Clone_string _ o.keys) ?_)
  refine awOps.rn ?_
  refine AW.rSC ?_
  refine awOps.cons (awGuard.cH [] (h_Clone_Object _ o.kids) ?_)
  refine awOps.rn ?_
  refine AW.seq ?_
  refine AW.rS ?_
  refine AW.c2 ?_ ?_
  · intro h13
    have hkl := kthere_lt h13
    refine AW.rL ?_
    refine AW.rS ?_
    refine AW.rt ?_
    rw [withK_there h13]
    refine ⟨by simp [objsAV_length], ?_⟩
    rw [← Pob.cells_eq v, objsAV_set, List.take_of_length_le (by simp [objsAV_length])]
    rfl
  · intro h13
    refine AW.rSC ?_
    refine awOps.cons (awGuard.cH [4, 7] (h_Ins_str _ o.keys key (kplace o.keys key) hkp) ?_)
    refine awOps.rn ?_
    refine AW.rLC ?_
    refine awOps.cons (awGuard.cH [6, 9] (h_Ins_obj _ o.kids v (kplace o.keys key) (by omega)) ?_)
    refine awOps.rn ?_
    refine AW.rS ?_
    refine AW.rt ?_
    rw [withK_new h13]
    refine ⟨⟨by rw [insAt_length]; exact Nat.le_refl _, by rw [insAt_length]; exact Nat.le_refl _⟩, ?_⟩
    rw [List.take_of_length_le (by rw [strsAV_length, insAt_length]; exact Nat.le_refl _), List.take_of_length_le (by rw [objsAV_length, insAt_length]; exact Nat.le_refl _)]
    rfl
end Go.Proofs

namespace Go.Proofs
open Go Aw
set_option linter.unusedSimpArgs false
set_option linter.unusedVariables false
set_option maxRecDepth 100000
set_option maxHeartbeats 4000000

theorem c_value_without (gl : List (Nat × AV)) (o : Pob) (i : Nat) (h : o.bulk ≤ 16777216) (hi : i < o.keys.length) (hl : o.keys.length = o.kids.length) : FnP Tryz.prog (gl) 132 [.agg o.cells, .int .i64 i] fun r => r = .ret (.agg (o.lessK i).cells) := by
  refine FnP.intro Tryz.func132 rfl rfl (by simp [Tryz.ntmps132]) ?_
  simp only [argEnv, Tryz.ntmps132, Tryz.results132]
  have hb := Pob.bulk_eq o
  refine AW.rS ?_
  refine AW.rSC ?_
  refine awOps.cons (awGuard.cH [] (h_Clone_string _ o.keys) ?_)
  refine awOps.rn ?_
  refine awOps.cons (awGuard.cH [3] (h_Del_str _ o.keys i hi) ?_)
  refine awOps.rn ?_
  refine AW.rSC ?_
  refine awOps.cons (awGuard.cH [] (h_Clone_Object _ o.kids) ?_)
  refine awOps.rn ?_
  refine awOps.cons (awGuard.cH [5] (h_Del_obj _ o.kids i (by omega)) ?_)
  refine awOps.rn ?_
  refine AW.rS ?_
  refine AW.rt ?_
  have e1 : i + (o.keys.length - (i + 1)) = (delAt o.keys i).length := by rw [delAt_length hi]; omega
  have e2 : i + (o.kids.length - (i + 1)) = (delAt o.kids i).length := by rw [delAt_length (by omega)]; omega
  rw [e1, e2, strsAV_take_len, objsAV_take_len]
  exact ⟨⟨Nat.le_refl _, Nat.le_refl _⟩, rfl⟩
theorem c_value_Drop (gl : List (Nat × AV)) (o : Pob) (key : List UInt8) (h : o.bulk ≤ 16777216) : FnP Tryz.prog (gl) 64 [.agg o.cells, .str key] fun r => r = .ret (.agg (dropO o key).cells) := by
  refine FnP.intro Tryz.func64 rfl rfl (by simp [Tryz.ntmps64]) ?_
  simp only [argEnv, Tryz.ntmps64, Tryz.results64]
  have hlk := dropO_bulk o key
  refine AW.rS ?_
  refine AW.seq ?_
  refine AW.rSC ?_
  refine awOps.cons (awGuard.c1 (c_value_keyed _ o) ?_)
  refine awOps.rn ?_
  refine awOps.cons (awGuard.cG (fun hg => c_value_Check _ o) ?_)
  refine awOps.rn ?_
  refine AW.c2 ?_ ?_
  · intro h8
    have hr := chk_rising h8.2 h8.1
    have hb := Pob.bulk_eq o
    refine AW.rSC ?_
    refine awOps.cons (awGuard.c1 (c_slices_BinarySearch_string_string _ o.keys key (by omega) (rising_incr hr)) ?_)
    refine awOps.rn ?_
    refine AW.rS ?_
    refine AW.c2 ?_ ?_
    · intro h13
      refine AW.rLC ?_
      refine awOps.cons (awGuard.c1 (c_value_without _ o (kplace o.keys key) h (kthere_lt h13) hr.1) ?_)
      refine awOps.rn ?_
      refine AW.rSC ?_
      refine awOps.cons (awGuard.c1 (c_value_Clone _ (o.lessK (kplace o.keys key)) (Nat.le_trans (Pob.lessK_bulk _ _) h)) ?_)
      refine awOps.rn ?_
      refine AW.rt ?_
      rw [dropO_yes (by simp [dropB, h8, h13])]
    · intro h13
      refine AW.skip ?_
      refine AW.rSC ?_
      refine awOps.cons (awGuard.c1 (c_value_Clone _ o h) ?_)
      refine awOps.rn ?_
      refine AW.rt ?_
      rw [dropO_no (by simp [dropB, h8, h13])]
  · intro h8
    refine AW.skip ?_
    refine AW.rSC ?_
    refine awOps.cons (awGuard.c1 (c_value_Clone _ o h) ?_)
    refine awOps.rn ?_
    refine AW.rt ?_
    rw [dropO_no (by simp only [dropB]; rcases h8 with h8 | h8 <;> simp [h8])]
theorem c_value_sound2 (gl : List (Nat × AV)) (o : Pob) (h : o.bulk ≤ 16777216) : FnP Tryz.prog (gl) 118 [.agg o.cells] fun r => r = .ret (.tup [.agg (if chk o 1 = 0 then o else Pob.null).cells, .int .i64 (chk o 1)]) := by
  refine FnP.intro Tryz.func118 rfl rfl (by simp [Tryz.ntmps118]) ?_
  simp only [argEnv, Tryz.ntmps118, Tryz.results118]
  refine AW.rS ?_
  refine AW.seq ?_
  refine AW.rSC ?_
  refine awOps.cons (awGuard.c1 (c_value_Check _ o) ?_)
  refine awOps.rn ?_
  refine AW.rS ?_
  refine AW.c2 ?_ ?_
  · intro h7
    refine AW.rS ?_
    refine AW.rt ?_
    rw [if_neg h7]; rfl
  · intro h7
    refine AW.skip ?_
    refine AW.rS ?_
    refine AW.rt ?_
    rw [if_pos h7, h7]
theorem c_value_Set (gl : List (Nat × AV)) (o : Pob) (key : List UInt8) (v : Pob) (h : o.bulk + v.bulk ≤ 16777200) : FnP Tryz.prog (gl) 53 [.agg o.cells, .str key, .agg v.cells] fun r => r = .ret (.tup [.agg (setO o key v).cells, .int .i64 (setE o key v)]) := by
  refine FnP.intro Tryz.func53 rfl rfl (by simp [Tryz.ntmps53]) ?_
  simp only [argEnv, Tryz.ntmps53, Tryz.results53]
  have hb := Pob.bulk_eq o
  have hw := Pob.withK_bulk o key v
  refine AW.rS ?_
  refine AW.seq ?_
  refine AW.rSC ?_
  refine awOps.cons (awGuard.c1 (c_value_keyed _ o) ?_)
  refine awOps.rn ?_
  refine AW.c2 ?_ ?_
  · intro h6
    refine AW.rS ?_
    refine AW.rt ?_
    rw [(set_unkeyed h6).1, (set_unkeyed h6).2]; rfl
  · intro h6
    refine AW.skip ?_
    refine AW.seq ?_
    refine AW.rSC ?_
    refine awOps.cons (awGuard.c1 (c_value_Check _ o) ?_)
    refine awOps.rn ?_
    refine AW.rS ?_
    refine AW.c2 ?_ ?_
    · intro h16
      refine AW.rS ?_
      refine AW.rt ?_
      rw [(set_bad h6 h16).1, (set_bad h6 h16).2]; rfl
    · intro h16
      refine AW.skip ?_
      refine AW.seq ?_
      refine AW.rS ?_
      refine AW.c2 ?_ ?_
      · intro h23
        refine AW.rSC ?_
        refine awOps.cons (awGuard.c1 (c_value_Drop _ o key (by omega)) ?_)
        refine awOps.rn ?_
        refine AW.rt ?_
        rw [(set_null h6 h16 h23).1, (set_null h6 h16 h23).2]
      · intro h23
        refine AW.skip ?_
        have hr := chk_rising h16 (by simpa using h6)
        refine AW.rSC ?_
        refine awOps.cons (awGuard.c1 (c_value_with _ o key v (by omega) (rising_incr hr) hr.1) ?_)
        refine awOps.rn ?_
        refine awOps.cons (awGuard.c1 (c_value_Clone _ (o.withK key v) (by omega)) ?_)
        refine awOps.rn ?_
        refine awOps.cons (awGuard.c1 (c_value_sound2 _ (o.withK key v) (by omega)) ?_)
        refine awOps.rn ?_
        refine AW.rt ?_
        rw [(set_val h6 h16 h23).1, (set_val h6 h16 h23).2]
theorem c_value_Stream (gl : List (Nat × AV)) (o : Pob) (s : List UInt8) (h : o.bulk ≤ 16777216) : FnP Tryz.prog (gl) 51 [.agg o.cells, .str s] fun r => r = .ret (.tup [.agg (streamO o s).cells, .int .i64 (streamE o s)]) := by
  refine FnP.intro Tryz.func51 rfl rfl (by simp [Tryz.ntmps51]) ?_
  simp only [argEnv, Tryz.ntmps51, Tryz.results51]
  have hd := dropO_bulk o lengthK
  have hs := strm_bulk (dropO o lengthK) s
  refine AW.rS ?_
  refine AW.seq ?_
  refine AW.rS ?_
  refine AW.c2 ?_ ?_
  · intro h4
    refine AW.rS ?_
    refine AW.rt ?_
    rw [(stream_kind h4).1, (stream_kind h4).2]; rfl
  · intro h4
    refine AW.skip ?_
    refine AW.seq ?_
    refine AW.rSC ?_
    refine awOps.cons (awGuard.c1 (c_value_Check _ o) ?_)
    refine awOps.rn ?_
    refine AW.rS ?_
    refine AW.c2 ?_ ?_
    · intro h14
      refine AW.rS ?_
      refine AW.rt ?_
      rw [(stream_bad h4 h14).1, (stream_bad h4 h14).2]; rfl
    · intro h14
      refine AW.skip ?_
      refine AW.rSC ?_
      refine awOps.cons (awGuard.c1 (c_value_Drop _ o lengthK h) ?_)
      refine awOps.rn ?_
      refine AW.rS ?_
      refine AW.rS ?_
      refine AW.rSC ?_
      refine awOps.cons (awGuard.c1 (c_value_sound2 _ ((dropO o lengthK).strm s) (by omega)) ?_)
      refine awOps.rn ?_
      refine AW.rt ?_
      rw [(stream_ok h4 h14).1, (stream_ok h4 h14).2]
end Go.Proofs

namespace Go.Proofs
open Go Aw
set_option linter.unusedSimpArgs false
set_option linter.unusedVariables false
set_option maxRecDepth 100000
set_option maxHeartbeats 4000000

theorem c_value_Dict (gl : List (Nat × AV)) (ps : List Pob) (h : ps.length + bulks ps ≤ 4000000) : FnP Tryz.prog (gl) 49 [.sl (objsAV ps)] fun r => r = .ret (.tup [.agg (dictO ps).cells, .int .i64 (dictE ps)]) := by
  refine FnP.intro Tryz.func49 rfl rfl (by simp [Tryz.ntmps49]) ?_
  simp only [argEnv, Tryz.ntmps49, Tryz.results49]
  refine AW.rS ?_
  refine AW.seq ?_
  refine AW.rS ?_
  refine AW.c2 ?_ ?_
  · intro h4
    refine AW.rS ?_
    refine AW.rt ?_
    have ha := dict_arg (ps := ps) (by simp only [dictArg, Bool.and_eq_false_iff, decide_eq_false_iff_not]; exact .inl (by omega))
    rw [ha.1, ha.2]; rfl
  · intro h4
    refine AW.skip ?_
    refine AW.seq ?_
    refine AW.rS ?_
    refine AW.block ?_
    refine AW.lk (S := { i : Nat // i % 2 = 0 ∧ i ≤ ps.length ∧ ∀ j, j < i → j % 2 = 0 → (ps.getD j Pob.null).kind = 5 }) [0, 2] (fun s_ => [(4, .int .i64 s_.1)]) (fun s_ => [(0, .cells [.int .i64 0, .int .i64 0, .int .i64 0, .str [], .raw (.slice none 0 0), .raw (.slice none 0 0)])]) 1 (fun s_ => ps.length - s_.1) ⟨0, rfl, Nat.zero_le _, fun j h => absurd h (by omega)⟩ ?_ ?_
    · refine St.le.vw [0]
    rintro ⟨i, hi0, hi, hs⟩
    try dsimp only at hi0
    try dsimp only at hi
    try dsimp only at hs
    refine AW.seq ?_
    refine AW.rS ?_
    refine AW.c2 ?_ ?_
    · intro h15
      refine AW.skip ?_
      refine AW.seq ?_
      refine AW.block ?_
      refine AW.rS ?_
      refine AW.c2 ?_ ?_
      · intro h20
        refine AW.rS ?_
        refine AW.rt ?_
        have ha := dict_arg (ps := ps) (by simp only [dictArg, Bool.and_eq_false_iff, decide_eq_false_iff_not]; exact .inr (fun hh => h20 (hh i h15 hi0)))
        rw [ha.1, ha.2]; rfl
      · intro h20
        refine AW.skip ?_
        refine AW.rL ?_
        refine ⟨⟨i + 2, by omega, by omega, fun j hj h2 => by exact (Nat.lt_or_ge j i).elim (fun h => hs j h h2) (fun h => (show j = i by omega) ▸ h20)⟩, ?_, ?_⟩
        · refine St.le.vw [0]
        · simp only []; omega
    · intro h15
      refine AW.exit ?_
      refine AW.rS ?_
      refine AW.rSC ?_
      refine awOps.cons ?_
      refine awGuard.mkS keyOk_str ?_
      refine awOps.rn ?_
      refine AW.seq ?_
      refine AW.rS ?_
      refine AW.block ?_
      refine AW.nilc 1 4 ?_
      refine AW.nilc 1 5 ?_
      refine wk ?_
      have harg : dictArg ps = true := by
        simp only [dictArg, Bool.and_eq_true, decide_eq_true_eq]
        exact ⟨by omega, fun j hj h2 => hs j (by omega) h2⟩
      refine AW.lk (S := { p : Nat × List (List UInt8) × Pob // p.1 % 2 = 0 ∧ p.1 ≤ ps.length ∧ incr p.2.2.keys ∧ p.2.2.keys.length = p.2.2.kids.length ∧ p.2.2.bulk ≤ 1 + 2 * bulks (ps.take p.1) ∧ dictL ps [] dict0 = dictL (ps.drop p.1) p.2.1 p.2.2 }) [0, 2, 5, 6] (fun s_ => [(7, .int .i64 s_.1.1)]) (fun s_ => [(0, .cells [.int .i64 0, .int .i64 0, .int .i64 0, .str [], .raw (.slice none 0 0), .raw (.slice none 0 0)]), (1, .cells [.int .i64 s_.1.2.2.kind, .int .i64 s_.1.2.2.num, .int .i64 s_.1.2.2.gen, .str s_.1.2.2.str, .sl (strsAV s_.1.2.2.keys), .sl (objsAV s_.1.2.2.kids)]), (2, setOf .str s_.1.2.1)]) 3 (fun s_ => ps.length - s_.1.1) ⟨(0, [], dict0), rfl, Nat.zero_le _, fun a b h h' => absurd h' (by simp [dict0, Pob.keys]), rfl, by simp [dict0, Pob.bulk, bulks], rfl⟩ ?_ ?_
      · refine St.le.vw [0, 1, 2]
      rintro ⟨⟨i, met, q⟩, hk0, hk1, hk2, hk3, hk4, hk5⟩
      try dsimp only at hk0
      try dsimp only at hk1
      try dsimp only at hk2
      try dsimp only at hk3
      try dsimp only at hk4
      try dsimp only at hk5
      refine AW.seq ?_
      refine AW.rS ?_
      refine AW.c2 ?_ ?_
      · intro h38
        have hb2 := bulks_take2 (ps := ps) (i := i) (by omega)
        have hb3 := bulks_take_le ps (i + 2)
        have hp1 := Pob.bulk_pos (ps.getD i Pob.null)
        have hw := Pob.withK_bulk q (ps.getD i Pob.null).str (ps.getD (i + 1) Pob.null)
        have hn := withK_incr (key := (ps.getD i Pob.null).str) (v := ps.getD (i + 1) Pob.null) hk2 hk3
        refine AW.skip ?_
        refine AW.seq ?_
        refine AW.block ?_
        refine AW.rS ?_
        refine AW.seq ?_
        refine AW.rSC ?_
        refine awOps.cons ?_
        refine awGuard.lkS keyOk_str ?_
        refine awOps.rn ?_
        refine AW.c2 ?_ ?_
        · intro h47
          refine AW.rS ?_
          refine AW.rt ?_
          have hd := dict_twice harg (by rw [hk5, dictL_drop (by omega), if_pos h47])
          rw [hd.1, hd.2]; rfl
        · intro h47
          refine AW.skip ?_
          refine AW.rSC ?_
          refine awOps.cons ?_
          refine awGuard.upS keyOk_str ?_
          refine awOps.rn ?_
          refine AW.rS ?_
          refine AW.c2 ?_ ?_
          · intro h56
            refine AW.dLC [(0, 1), (1, 0), (2, 0), (3, 0), (4, 0), (5, 0), (6, 1), (7, 2), (8, 2)] ?_
            refine awPlan.only rfl ?_
            refine awGuard.c1 (c_value_with _ q (ps.getD i Pob.null).str (ps.getD (i + 1) Pob.null) (by omega) hk2 hk3) ?_
            refine awPlan.rn ?_
            refine AW.rL ?_
            refine ⟨⟨(i + 2, setAdd met (ps.getD i Pob.null).str, q.withK (ps.getD i Pob.null).str (ps.getD (i + 1) Pob.null)), by dsimp only; omega, by dsimp only; omega, hn.1, hn.2, by dsimp only; omega, by rw [hk5, dictL_drop (by omega), if_neg h47, if_pos h56]⟩, ?_, ?_⟩
            · refine St.le.vw [0, 1, 2]
            · simp only []; omega
          · intro h56
            refine AW.skip ?_
            refine AW.rL ?_
            refine ⟨⟨(i + 2, setAdd met (ps.getD i Pob.null).str, q), by dsimp only; omega, by dsimp only; omega, hk2, hk3, by dsimp only; omega, by rw [hk5, dictL_drop (by omega), if_neg h47, if_neg (by simpa using h56)]⟩, ?_, ?_⟩
            · refine St.le.vw [0, 1, 2]
            · simp only []; omega
      · intro h38
        refine AW.exit ?_
        have hd := dict_some harg (o := q) (by rw [hk5, List.drop_of_length_le (by omega)]; simp [dictL])
        refine AW.rSC ?_
        refine awOps.cons (awGuard.c1 (c_value_Clone _ q (by have := bulks_take_le ps i; omega)) ?_)
        refine awOps.rn ?_
        refine awOps.cons (awGuard.c1 (c_value_sound2 _ q (by have := bulks_take_le ps i; omega)) ?_)
        refine awOps.rn ?_
        refine AW.rt ?_
        rw [hd.1, hd.2]
end Go.Proofs

namespace Go.Proofs
open Go Aw
set_option linter.unusedSimpArgs false
set_option linter.unusedVariables false
set_option maxRecDepth 100000
set_option maxHeartbeats 4000000

theorem depth_all (gl : List (Nat × AV)) (N : Nat) : N ≤ 16777216 → ∀ o : Pob, o.bulk ≤ N → FnP Tryz.prog gl 62 [.agg o.cells] fun r => r = .ret (.int .i64 o.depth) := by
  induction N using Nat.strongRecOn with
  | ind N IH => exact fun hN o ho => depth_step gl N hN (fun o' h => IH o'.bulk h (by omega) o' (Nat.le_refl _)) o ho
theorem c_value_Depth (gl : List (Nat × AV)) (o : Pob) (h : o.bulk ≤ 16777216 := by assumption) : FnP Tryz.prog gl 62 [.agg o.cells] fun r => r = .ret (.int .i64 o.depth) := depth_all gl 16777216 (Nat.le_refl _) o h
theorem c_value_Swap_1_1 (gl : List (Nat × AV)) (n : Int) (o : Pob) : FnP Tryz.prog (gl) 140 [.int .i64 n, .tptr o.cells] fun r => r = .ret (.bool (decide (n = o.num))) := by
  refine FnP.intro Tryz.func140 rfl rfl (by simp [Tryz.ntmps140]) ?_
  simp only [argEnv, Tryz.ntmps140, Tryz.results140]
  refine AW.rS ?_
  refine AW.rS ?_
  refine AW.rt ?_
  all_goals first | contradiction | rfl | (simp; done) | (simp; omega)
theorem c_slices_IndexFunc_int_int (gl : List (Nat × AV)) (l : List Int) (o : Pob) (hl : l.length ≤ 16777216 := by first | omega | exact u8_le _ | assumption | (simp; done) | (simp; omega)) : FnP Tryz.prog (gl) 139 [.sl (intsAV l), .clos 140 [.tptr o.cells]] fun r => r = .ret (.int .i64 (nidxI l o.num)) := by
  refine FnP.intro Tryz.func139 rfl rfl (by simp [Tryz.ntmps139]) ?_
  simp only [argEnv, Tryz.ntmps139, Tryz.results139]
  refine AW.rS ?_
  refine AW.seq ?_
  refine AW.rS ?_
  refine AW.block ?_
  refine AW.lk (S := { i : Nat // i ≤ l.length ∧ ∀ j, j < i → l.getD j 0 ≠ o.num }) [0, 1, 7] (fun s_ => [(8, .int .i64 s_.1)]) (fun s_ => []) 0 (fun s_ => l.length - s_.1) ⟨0, Nat.zero_le _, fun j h => absurd h (by omega)⟩ ?_ ?_
  · refine St.le.vw []
  rintro ⟨i, hi, hs⟩
  try dsimp only at hi
  try dsimp only at hs
  refine AW.rS ?_
  refine AW.seq ?_
  refine AW.c2 ?_ ?_
  · intro h8
    refine AW.skip ?_
    refine AW.seq ?_
    refine AW.block ?_
    refine AW.rS ?_
    refine AW.rSC ?_
    refine awOps.cons (awGuard.c1 (c_value_Swap_1_1 _ (l.getD i 0) o) ?_)
    refine awOps.rn ?_
    refine AW.c2 ?_ ?_
    · intro h16
      refine AW.rS ?_
      refine AW.rt ?_
      rw [nidx_hit h8 hs h16]
    · intro h16
      refine AW.skip ?_
      refine AW.rL ?_
      refine ⟨⟨i + 1, by omega, fun j hj => (Nat.lt_or_ge j i).elim (hs j) (fun h => (show j = i by omega) ▸ h16)⟩, ?_, ?_⟩
      · refine St.le.vw []
      · simp only []; omega
  · intro h8
    refine AW.exit ?_
    refine AW.rS ?_
    refine AW.rt ?_
    rw [nidx_miss (fun j hj => hs j (by omega))]
theorem c_value_Swap_1 (gl : List (Nat × AV)) (fr to : List Int) (o : Pob) (hf : fr.length ≤ 16777216 := by first | omega | exact u8_le _ | assumption | (simp; done) | (simp; omega)) (ht : to.length ≤ 16777216 := by first | omega | exact u8_le _ | assumption | (simp; done) | (simp; omega)) : FnP Tryz.prog (gl) 138 [.agg o.cells, .tptr [.sl (intsAV fr)], .tptr [.sl (intsAV to)]] fun r => r = .ret (.agg (Pob.mk o.kind (swN fr to o.kind o.num) (swG fr to o.kind o.num o.gen) o.str o.keys o.kids).cells) := by
  refine FnP.intro Tryz.func138 rfl rfl (by simp [Tryz.ntmps138]) ?_
  simp only [argEnv, Tryz.ntmps138, Tryz.results138]
  refine AW.rS ?_
  refine AW.seq ?_
  refine AW.rS ?_
  refine AW.c2 ?_ ?_
  · intro h4
    refine AW.rS ?_
    refine AW.rt ?_
    have hw := sw_no (fr := fr) (to := to) (k := o.kind) (n := o.num) (g := o.gen) (by simp [swB, h4])
    rw [hw.1, hw.2]
  · intro h4
    refine AW.skip ?_
    refine AW.rSC ?_
    refine awOps.cons (awGuard.c1 (c_slices_IndexFunc_int_int _ fr o) ?_)
    refine awOps.rn ?_
    refine AW.seq ?_
    refine AW.rS ?_
    refine AW.c2 ?_ ?_
    · intro h14
      refine AW.rS ?_
      refine AW.rL ?_
      refine AW.rS ?_
      refine AW.rt ?_
      have hw := sw_yes (fr := fr) (to := to) (k := o.kind) (n := o.num) (g := o.gen) (by simp [swB, h4, h14])
      rw [hw.1, hw.2]
    · intro h14
      refine AW.skip ?_
      refine AW.rS ?_
      refine AW.rt ?_
      have hw := sw_no (fr := fr) (to := to) (k := o.kind) (n := o.num) (g := o.gen) (by simp only [swB, h4]; rcases h14 with h | h <;> simp <;> omega)
      rw [hw.1, hw.2]
theorem swap_step (gl : List (Nat × AV)) (N : Nat) (fr to : List Int) (hf : fr.length ≤ 16777216) (ht : to.length ≤ 16777216) (hN : N ≤ 16777216) (ih : ∀ o' : Pob, o'.bulk < N → FnP Tryz.prog gl 137 [.agg o'.cells, .clos 138 [.tptr [.sl (intsAV fr)], .tptr [.sl (intsAV to)]]] fun r => r = .ret (.agg (o'.swap fr to).cells)) (o : Pob) (ho : o.bulk ≤ N) (hk : o.keys.length ≤ N) (hl : o.kids.length ≤ N) (hb : ∀ i, i < o.kids.length → (o.kids.getD i Pob.null).bulk < N) : FnP Tryz.prog (gl) 137 [.agg o.cells, .clos 138 [.tptr [.sl (intsAV fr)], .tptr [.sl (intsAV to)]]] fun r => r = .ret (.agg (o.swap fr to).cells) := by
  refine FnP.intro Tryz.func137 rfl rfl (by simp [Tryz.ntmps137]) ?_
  simp only [argEnv, Tryz.ntmps137, Tryz.results137]
  have hsl := swaps_length fr to o.kids
  have hse := Pob.swap_eq fr to o
  refine AW.rS ?_
  refine AW.rSC ?_
  refine awOps.cons (awGuard.c1 (c_value_Swap_1 _ fr to o) ?_)
  refine awOps.rn ?_
  refine AW.rSC ?_
  refine awOps.cons (awGuard.c1 (c_slices_Clone_string_string _ o.keys) ?_)
  refine awOps.rn ?_
  refine AW.seq ?_
  refine AW.rSC ?_
  refine awOps.cons (awGuard.nS ?_)
  intro b10 hb10
  simp only [nilBool]
  refine awOps.rn ?_
  refine AW.c2 ?_ ?_
  · intro h12
    refine AW.rS ?_
    refine AW.seq ?_
    refine AW.rS ?_
    refine AW.block ?_
    refine AW.lk (S := { i : Nat // i ≤ o.kids.length }) [1, 2, 4, 5, 23, 24] (fun s_ => [(25, .int .i64 s_.1)]) (fun s_ => [(0, .cells [.int .i64 o.kind, .int .i64 (swN fr to o.kind o.num), .int .i64 (swG fr to o.kind o.num o.gen), .str o.str, .sl (strsAV o.keys), .sl (objsAV o.kids)]), (1, .cells [.int .i64 0, .int .i64 0, .int .i64 0, .str [], .raw (.slice none 0 0), .raw (.slice none 0 0)]), (2, .row 6 (fillO (swaps fr to o.kids) s_.1) true)]) 3 (fun s_ => o.kids.length - s_.1) ⟨0, Nat.zero_le _⟩ ?_ ?_
    · (refine St.le.vx [0, 1, 2] ?_; simp [fillO, objsAV, hsl, zObj])
    rintro ⟨i, hi⟩
    try dsimp only at hi
    refine AW.rS ?_
    refine AW.seq ?_
    refine AW.c2 ?_ ?_
    · intro h20
      refine AW.skip ?_
      refine AW.seq ?_
      refine AW.block ?_
      refine AW.rS ?_
      refine AW.rLC ?_
      refine awOps.cons (awGuard.c1 (ih (o.kids.getD i Pob.null) (hb i (by omega))) ?_)
      refine awOps.rn ?_
      refine AW.rL ?_
      refine ⟨⟨i + 1, by omega⟩, ?_, ?_⟩
      · refine St.le.vx [0, 1, 2] ?_
        have hfs := fillO_set (l := swaps fr to o.kids) (i := i) (by omega); rw [swaps_getD h20] at hfs; rw [hfs]
      · simp only []; omega
    · intro h20
      refine AW.exit ?_
      refine AW.rL ?_
      refine AW.rS ?_
      refine AW.rt ?_
      rw [fillO_all (by omega) (by omega), hse, List.take_of_length_le (by rw [objsAV_length]; omega)]
      exact ⟨by omega, rfl⟩
  · intro h12
    refine AW.skip ?_
    refine AW.rS ?_
    refine AW.rt ?_
    have hnil := nil_objs hb10 (by simpa using h12)
    rw [hse, hnil]
    simp [swaps, objsAV, Pob.kind, Pob.num, Pob.gen, Pob.str, Pob.keys, Pob.kids]
theorem swap_all (gl : List (Nat × AV)) (fr to : List Int) (hf : fr.length ≤ 16777216) (ht : to.length ≤ 16777216) (N : Nat) : N ≤ 16777216 → ∀ o : Pob, o.bulk ≤ N → FnP Tryz.prog gl 137 [.agg o.cells, .clos 138 [.tptr [.sl (intsAV fr)], .tptr [.sl (intsAV to)]]] fun r => r = .ret (.agg (o.swap fr to).cells) := by
  induction N using Nat.strongRecOn with
  | ind N IH =>
    intro hN o ho
    have hb := Pob.bulk_eq o
    exact swap_step gl N fr to hf ht hN (fun o' h => IH o'.bulk h (by omega) o' (Nat.le_refl _)) o ho (by omega) (by omega) (fun i hi => Nat.lt_of_lt_of_le (Pob.bulk_kid hi) ho)
theorem c_value_Swap (gl : List (Nat × AV)) (o : Pob) (fr to : List Int) (h : o.bulk ≤ 16777216) (hf : fr.length ≤ 16777216 := by first | omega | exact u8_le _ | assumption | (simp; done) | (simp; omega)) (ht : to.length ≤ 16777216 := by first | omega | exact u8_le _ | assumption | (simp; done) | (simp; omega)) : FnP Tryz.prog (gl) 68 [.agg o.cells, .sl (intsAV fr), .sl (intsAV to)] fun r => r = .ret (.agg (o.swap fr to).cells) := by
  refine FnP.intro Tryz.func68 rfl rfl (by simp [Tryz.ntmps68]) ?_
  simp only [argEnv, Tryz.ntmps68, Tryz.results68]
  refine AW.rS ?_
  refine AW.rSC ?_
  refine awOps.cons (awGuard.c1 (swap_all _ fr to hf ht 16777216 (Nat.le_refl _) o h) ?_)
  refine awOps.rn ?_
  refine AW.rt ?_
  all_goals first | contradiction | rfl | (simp; done) | (simp; omega)
end Go.Proofs

namespace Go.Proofs
open Go Aw
set_option linter.unusedSimpArgs false
set_option linter.unusedVariables false
set_option maxRecDepth 100000
set_option maxHeartbeats 1000000

theorem c_foliantref05_Texts (gl : List (Nat × AV)) (a b : List (List UInt8)) (ha : a.length ≤ 16777216 := by first | omega | exact u8_le _ | assumption | (simp; done) | (simp; omega)) : FnP Tryz.prog (gl) 92 [.sl (strsAV a), .sl (strsAV b)] fun r => r = .ret (.bool (decide (a = b))) := by
  refine FnP.intro Tryz.func92 rfl rfl (by simp [Tryz.ntmps92]) ?_
  simp only [argEnv, Tryz.ntmps92, Tryz.results92]
  refine AW.rS ?_
  refine AW.seq ?_
  refine AW.rS ?_
  refine AW.c2 ?_ ?_
  · intro h4
    refine AW.rS ?_
    refine AW.rt ?_
    rw [decide_eq_false (fun e => h4 (by rw [e]))]
  · intro h4
    refine AW.skip ?_
    refine AW.seq ?_
    refine AW.rS ?_
    refine AW.block ?_
    refine AW.lk (S := { i : Nat // i ≤ a.length ∧ a.take i = b.take i }) [0, 1, 12] (fun s_ => [(13, .int .i64 s_.1)]) (fun s_ => []) 0 (fun s_ => a.length - s_.1) ⟨0, Nat.zero_le _, rfl⟩ ?_ ?_
    · refine St.le.vw []
    rintro ⟨i, hi, hs⟩
    try dsimp only at hi
    try dsimp only at hs
    refine AW.rS ?_
    refine AW.seq ?_
    refine AW.c2 ?_ ?_
    · intro h15
      refine AW.skip ?_
      refine AW.seq ?_
      refine AW.block ?_
      refine AW.rS ?_
      refine AW.dS [(0, 0), (1, 0), (2, 1), (3, 1), (4, 0), (5, 0), (6, 1), (7, 1), (8, 0)] ?_
      refine AW.c2 ?_ ?_
      · intro h21
        refine AW.rS ?_
        refine AW.rt ?_
        rw [decide_eq_false (fun e => h21 (by rw [e]))]
      · intro h21
        refine AW.skip ?_
        refine AW.rL ?_
        refine ⟨⟨i + 1, by omega, takeS_succ h15 (by omega) hs h21⟩, ?_, ?_⟩
        · refine St.le.vw []
        · simp only []; omega
    · intro h15
      refine AW.exit ?_
      refine AW.rS ?_
      refine AW.rt ?_
      rw [List.take_of_length_le (by omega), List.take_of_length_le (by omega)] at hs
      simp [hs]
theorem rlist_step (gl : List (Nat × AV)) (N : Nat) (ih : ∀ x y : Pob, x.bulk < N → FnP Tryz.prog gl 30 [.agg x.cells, .agg y.cells] fun r => r = .ret (.bool (decide (x = y)))) (a b : List Pob) (ha : a.length ≤ 16777216) (hb : ∀ i, i < a.length → (a.getD i Pob.null).bulk < N) : FnP Tryz.prog (gl) 93 [.sl (objsAV a), .sl (objsAV b)] fun r => r = .ret (.bool (decide (a = b))) := by
  refine FnP.intro Tryz.func93 rfl rfl (by simp [Tryz.ntmps93]) ?_
  simp only [argEnv, Tryz.ntmps93, Tryz.results93]
  refine AW.rS ?_
  refine AW.seq ?_
  refine AW.rS ?_
  refine AW.c2 ?_ ?_
  · intro h4
    refine AW.rS ?_
    refine AW.rt ?_
    rw [decide_eq_false (fun e => h4 (by rw [e]))]
  · intro h4
    refine AW.skip ?_
    refine AW.seq ?_
    refine AW.rS ?_
    refine AW.block ?_
    refine AW.lk (S := { i : Nat // i ≤ a.length ∧ a.take i = b.take i }) [0, 1, 12] (fun s_ => [(13, .int .i64 s_.1)]) (fun s_ => []) 0 (fun s_ => a.length - s_.1) ⟨0, Nat.zero_le _, rfl⟩ ?_ ?_
    · refine St.le.vw []
    rintro ⟨i, hi, hs⟩
    try dsimp only at hi
    try dsimp only at hs
    refine AW.rS ?_
    refine AW.seq ?_
    refine AW.c2 ?_ ?_
    · intro h15
      refine AW.skip ?_
      refine AW.seq ?_
      refine AW.block ?_
      refine AW.rS ?_
      refine AW.dSC [(0, 0), (1, 0), (2, 0), (3, 1), (4, 0), (5, 0), (6, 0), (7, 1), (8, 2), (9, 0)] ?_
      refine awPlan.only rfl ?_
      refine awGuard.c1 (ih (a.getD i Pob.null) (b.getD i Pob.null) (hb i (by omega))) ?_
      refine awPlan.rn ?_
      refine AW.c2 ?_ ?_
      · intro h23
        refine AW.rS ?_
        refine AW.rt ?_
        rw [decide_eq_false (fun e => h23 (by rw [e]))]
      · intro h23
        refine AW.skip ?_
        refine AW.rL ?_
        refine ⟨⟨i + 1, by omega, takeO_succ h15 (by omega) hs h23⟩, ?_, ?_⟩
        · refine St.le.vw []
        · simp only []; omega
    · intro h15
      refine AW.exit ?_
      refine AW.rS ?_
      refine AW.rt ?_
      rw [List.take_of_length_le (by omega), List.take_of_length_le (by omega)] at hs
      simp [hs]
theorem rsame_step (gl : List (Nat × AV)) (N : Nat) (hN : N ≤ 16777216) (ih : ∀ x y : Pob, x.bulk < N → FnP Tryz.prog gl 30 [.agg x.cells, .agg y.cells] fun r => r = .ret (.bool (decide (x = y)))) (a b : Pob) (ha : a.bulk ≤ N) : FnP Tryz.prog (gl) 30 [.agg a.cells, .agg b.cells] fun r => r = .ret (.bool (decide (a = b))) := by
  refine FnP.intro Tryz.func30 rfl rfl (by simp [Tryz.ntmps30]) ?_
  simp only [argEnv, Tryz.ntmps30, Tryz.results30]
  have hbulk := Pob.bulk_eq a
  refine AW.rS ?_
  refine AW.rSC ?_
  refine awOps.cons (awGuard.cG (fun hg => c_foliantref05_Texts _ a.keys b.keys (by omega)) ?_)
  refine awOps.rn ?_
  refine awOps.cons (awGuard.cG (fun hg => rlist_step _ N ih a.kids b.kids (by omega) (fun i hi => Nat.lt_of_lt_of_le (Pob.bulk_kid hi) ha)) ?_)
  refine awOps.rn ?_
  refine AW.rt ?_
  rw [show ∀ x y : Bool, x = y → AE.ret (.bool x) = AE.ret (.bool y) from fun _ _ h => by rw [h]]
  rw [Bool.eq_iff_iff]
  simp only [decide_eq_true_eq, Bool.cond_false_right, Bool.and_eq_true, Pob_eq a b, and_assoc]
theorem rsame_all (gl : List (Nat × AV)) (N : Nat) : N ≤ 16777216 → ∀ x y : Pob, x.bulk ≤ N → FnP Tryz.prog gl 30 [.agg x.cells, .agg y.cells] fun r => r = .ret (.bool (decide (x = y))) := by
  induction N using Nat.strongRecOn with
  | ind N IH => exact fun hN x y hx => rsame_step gl N hN (fun x' y' h => IH x'.bulk h (by omega) x' y' (Nat.le_refl _)) x y hx
theorem c_foliantref05_Same (gl : List (Nat × AV)) (x y : Pob) (h : x.bulk ≤ 16777216 := by first | assumption | omega) : FnP Tryz.prog gl 30 [.agg x.cells, .agg y.cells] fun r => r = .ret (.bool (decide (x = y))) := rsame_all gl 16777216 (Nat.le_refl _) x y h
theorem size_step (gl : List (Nat × AV)) (N : Nat) (hN : N ≤ 16777216) (ih : ∀ o' : Pob, o'.bulk < N → o'.psize ≤ 4611686018427387904 → FnP Tryz.prog gl 7 [.agg o'.cells] fun r => r = .ret (.int .i64 o'.psize)) (o : Pob) (ho : o.bulk ≤ N) (hp : o.psize ≤ 4611686018427387904) : FnP Tryz.prog (gl) 7 [.agg o.cells] fun r => r = .ret (.int .i64 o.psize) := by
  refine FnP.intro Tryz.func7 rfl rfl (by simp [Tryz.ntmps7]) ?_
  simp only [argEnv, Tryz.ntmps7, Tryz.results7]
  have hb := Pob.bulk_eq o
  have hpe := Pob.psize_eq o
  have hk0 := ksize_nil
  have hp0 := psizes_nil
  refine AW.rS ?_
  refine AW.rS ?_
  refine AW.seq ?_
  refine AW.rS ?_
  refine AW.block ?_
  refine AW.lk (S := { i : Nat // i ≤ o.keys.length }) [1, 14, 15] (fun s_ => [(3, .int .i64 ((1 + o.str.length / 50 + ksize (o.keys.take s_.1) : Nat) : Int)), (16, .int .i64 s_.1)]) (fun s_ => [(0, .cells o.cells)]) 1 (fun s_ => o.keys.length - s_.1) ⟨0, Nat.zero_le _⟩ ?_ ?_
  · refine St.le.vw [0]
  rintro ⟨i, hi⟩
  try dsimp only at hi
  refine AW.rS ?_
  refine AW.seq ?_
  refine AW.c2 ?_ ?_
  · intro h9
    have h1 := ksize_take h9
    have h2 := ksize_take_le o.keys (i + 1)
    refine AW.skip ?_
    refine AW.seq ?_
    refine AW.block ?_
    refine AW.rS ?_
    refine AW.rL ?_
    refine AW.rL ?_
    refine ⟨⟨i + 1, by omega⟩, ?_, ?_⟩
    · refine St.le.vw [0]
    · simp only []; omega
  · intro h9
    refine AW.exit ?_
    obtain rfl : i = o.keys.length := by omega
    rw [List.take_length]
    refine AW.seq ?_
    refine AW.rS ?_
    refine AW.block ?_
    refine AW.lk (S := { i : Nat // i ≤ o.kids.length }) [27, 28] (fun s_ => [(3, .int .i64 ((1 + o.str.length / 50 + ksize o.keys + psizes (o.kids.take s_.1) : Nat) : Int)), (29, .int .i64 s_.1)]) (fun s_ => [(0, .cells o.cells)]) 1 (fun s_ => o.kids.length - s_.1) ⟨0, Nat.zero_le _⟩ ?_ ?_
    · refine St.le.vw [0]
    rintro ⟨j, hj⟩
    try dsimp only at hj
    refine AW.rS ?_
    refine AW.seq ?_
    refine AW.c2 ?_ ?_
    · intro h24
      have h1 := psizes_take h24
      have h2 := psizes_take_le o.kids (j + 1)
      have h3 := psizes_get h24
      refine AW.skip ?_
      refine AW.seq ?_
      refine AW.block ?_
      refine AW.rS ?_
      refine AW.rLC ?_
      refine awOps.cons (awGuard.c1 (ih (o.kids.getD j Pob.null) (Nat.lt_of_lt_of_le (Pob.bulk_kid (by omega)) ho) (by omega)) ?_)
      refine awOps.rn ?_
      refine AW.rL ?_
      refine ⟨⟨j + 1, by omega⟩, ?_, ?_⟩
      · refine St.le.vw [0]
      · simp only []; omega
    · intro h24
      refine AW.exit ?_
      refine AW.rS ?_
      refine AW.rt ?_
      obtain rfl : j = o.kids.length := by omega
      rw [List.take_length, hpe]
theorem size_all (gl : List (Nat × AV)) (N : Nat) : N ≤ 16777216 → ∀ o : Pob, o.bulk ≤ N → o.psize ≤ 4611686018427387904 → FnP Tryz.prog gl 7 [.agg o.cells] fun r => r = .ret (.int .i64 o.psize) := by
  induction N using Nat.strongRecOn with
  | ind N IH => exact fun hN x hx hp => size_step gl N hN (fun x' h hp' => IH x'.bulk h (by omega) x' (Nat.le_refl _) hp') x hx hp
theorem c_foliantref05_Size (gl : List (Nat × AV)) (o : Pob) (h : o.bulk ≤ 16777216) (hp : o.psize ≤ 4611686018427387904) : FnP Tryz.prog gl 7 [.agg o.cells] fun r => r = .ret (.int .i64 o.psize) := size_all gl 16777216 (Nat.le_refl _) o h hp
end Go.Proofs

namespace Aw
open Go
mutual
def Pob.pre : Pob → List Pob
  | .mk k n g s ks l => .mk k n g s ks l :: pres l
def pres : List Pob → List Pob
  | [] => []
  | o :: l => o.pre ++ pres l
end
theorem pres_nil : pres [] = [] := by simp only [pres]
theorem Pob.pre_eq (o : Pob) : o.pre = o :: pres o.kids := by cases o; simp only [Pob.pre, Pob.kids]
theorem pres_append (a b : List Pob) : pres (a ++ b) = pres a ++ pres b := by
  induction a with
  | nil => simp [pres]
  | cons x a ih => simp only [List.cons_append, pres, ih, List.append_assoc]
theorem pres_take {l : List Pob} {i : Nat} (h : i < l.length) : pres (l.take (i + 1)) = pres (l.take i) ++ (l.getD i Pob.null).pre := by
  rw [List.take_succ_eq_append_getElem h, pres_append]
  simp [pres, List.getD, h]
mutual
theorem Pob.pre_le : ∀ o : Pob, o.pre.length ≤ o.bulk
  | .mk k n g s ks l => by simp only [Pob.pre, Pob.bulk, List.length_cons]; have := pres_le l; omega
theorem pres_le : ∀ l : List Pob, (pres l).length ≤ bulks l
  | [] => by simp [pres]
  | o :: l => by simp only [pres, bulks, List.length_append]; have := Pob.pre_le o; have := pres_le l; omega
end
attribute [irreducible] Pob.pre pres
end Aw
