/- A part of the proof of a law of the seat: no condition of its own. -/
import Derived.Test.YtncdpaekhhcjoaaGreatPart5
namespace Go.Proofs
open Go Aw
set_option linter.unusedSimpArgs false
set_option linter.unusedVariables false
set_option maxRecDepth 100000
set_option maxHeartbeats 4000000
theorem check_step (gl : List (Nat × AV)) (N : Nat) (hN : N ≤ 16777216) (ih : ∀ (o' : Pob) (d : Int), o'.bulk < N → 0 ≤ d → FnP Tryz.prog gl 127 [.agg o'.cells, .int .i64 d] fun r => r = if decide (chk o' d = 0) = true then .ret (.tup []) else .panic (badAV (chk o' d))) (o : Pob) (d : Int) (ho : o.bulk ≤ N) (hd : 0 ≤ d) : FnP Tryz.prog (gl) 127 [.agg o.cells, .int .i64 d] fun r => r = if decide (chk o d = 0) = true then .ret (.tup []) else .panic (badAV (chk o d)) := by
  refine FnP.intro Tryz.func127 rfl rfl (by simp [Tryz.ntmps127]) ?_
  simp only [argEnv, Tryz.ntmps127, Tryz.results127]
  have hbulk := Pob.bulk_eq o
  refine AW.rS ?_
  refine AW.rSC ?_
  refine awOps.cons (awGuard.cM (c_value_must _ (decide (d ≤ 24)) 7) ?_ ?_)
  · intro hp3
    refine wk ?_
    rw [chk_bad (e := 7) (by simp [ownE, hp3]) (by omega)]; simp
  intro hm3
  refine awOps.rn ?_
  refine AW.rSC ?_
  refine awOps.cons (awGuard.c1 (c_value_used _ o.kind) ?_)
  refine awOps.rn ?_
  refine AW.rSC ?_
  refine awOps.cons (awGuard.cM (c_value_must _ (useB o d) 10) ?_ ?_)
  · intro hp9
    refine wk ?_
    rw [chk_bad (e := 10) (by simp [ownE, hm3, hp9]) (by omega)]; simp
  intro hm9
  refine awOps.rn ?_
  refine AW.rSC ?_
  refine awOps.cons (awGuard.c1 (c_value_fits _ o) ?_)
  refine awOps.rn ?_
  refine awOps.cons (awGuard.cM (c_value_must _ (fitsB o) 2) ?_ ?_)
  · intro hp14
    refine wk ?_
    rw [chk_bad (e := 2) (by simp [ownE, hm3, hm9, hp14]) (by omega)]; simp
  intro hm14
  refine awOps.rn ?_
  refine AW.rSC ?_
  refine awOps.cons (awGuard.c1 (c_value_short _ o) ?_)
  refine awOps.rn ?_
  refine awOps.cons (awGuard.cM (c_value_must _ (shortB o) 5) ?_ ?_)
  · intro hp19
    refine wk ?_
    rw [chk_bad (e := 5) (by simp [ownE, hm3, hm9, hm14, hp19]) (by omega)]; simp
  intro hm19
  refine awOps.rn ?_
  refine AW.rSC ?_
  refine awOps.cons (awGuard.cM (c_value_must _ (decide ((o.kids.length : Int) ≤ 8191)) 6) ?_ ?_)
  · intro hp22
    refine wk ?_
    rw [chk_bad (e := 6) (by simp [ownE, hm3, hm9, hm14, hm19, hp22]) (by omega)]; simp
  intro hm22
  refine awOps.rn ?_
  refine AW.rSC ?_
  refine awOps.cons (awGuard.cG (fun hg => c_value_key _ o.str) ?_)
  refine awOps.rn ?_
  refine awOps.cons (awGuard.cG (fun hg => c_value_rising _ o (by omega)) ?_)
  refine awOps.rn ?_
  refine awOps.cons (awGuard.cM (c_value_must _ (formB o) 3) ?_ ?_)
  · intro hp29
    refine wk ?_
    rw [chk_bad (e := 3) (by simp [ownE, hm3, hm9, hm14, hm19, hm22, hp29]) (by omega)]; simp
  intro hm29
  refine awOps.rn ?_
  refine AW.rS ?_
  refine AW.block ?_
  have hown : ownE o d = 0 := by simp [ownE, hm3, hm9, hm14, hm19, hm22, hm29]
  refine AW.lk (S := { i : Nat // i ≤ o.kids.length ∧ chkL o.kids (d + 1) = chkL (o.kids.drop i) (d + 1) }) [1, 105, 106] (fun s_ => [(107, .int .i64 s_.1)]) (fun s_ => []) 0 (fun s_ => o.kids.length - s_.1) ⟨0, Nat.zero_le _, rfl⟩ ?_ ?_
  · refine St.le.vw []
  rintro ⟨i, hi, hs⟩
  try dsimp only at hi
  try dsimp only at hs
  refine AW.rS ?_
  refine AW.seq ?_
  refine AW.c2 ?_ ?_
  · intro h36
    refine AW.skip ?_
    refine AW.seq ?_
    refine AW.block ?_
    refine AW.rS ?_
    refine AW.rLC ?_
    refine awOps.cons (awGuard.cM (ih (o.kids.getD i Pob.null) (d + 1) (Nat.lt_of_lt_of_le (Pob.bulk_kid (by omega)) ho) (by omega)) ?_ ?_)
    · intro hp42
      refine wk ?_
      rw [chk_eq o d, hown, if_pos rfl, hs, chkL_drop (by omega), if_neg hp42, decide_eq_false hp42]; rfl
    intro hm42
    refine awOps.rn ?_
    refine AW.rL ?_
    refine ⟨⟨i + 1, by omega, by rw [hs, chkL_drop (by omega), if_pos hm42]⟩, ?_, ?_⟩
    · refine St.le.vw []
    · simp only []; omega
  · intro h36
    refine AW.exit ?_
    refine wk ?_
    rw [chk_eq o d, hown, if_pos rfl, hs, List.drop_of_length_le (by omega)]; simp [chkL]
theorem check_all (gl : List (Nat × AV)) (N : Nat) : N ≤ 16777216 → ∀ (o : Pob) (d : Int), 0 ≤ d → o.bulk ≤ N → FnP Tryz.prog gl 127 [.agg o.cells, .int .i64 d] fun r => r = if decide (chk o d = 0) = true then .ret (.tup []) else .panic (badAV (chk o d)) := by
  induction N using Nat.strongRecOn with
  | ind N IH => exact fun hN o d hd ho => check_step gl N hN (fun o' d' h hd' => IH o'.bulk h (by omega) o' d' hd' (Nat.le_refl _)) o d ho hd
theorem c_value_check (gl : List (Nat × AV)) (o : Pob) (d : Int) (hd : 0 ≤ d) (h : o.bulk ≤ 16777216 := by assumption) : FnP Tryz.prog gl 127 [.agg o.cells, .int .i64 d] fun r => r = if decide (chk o d = 0) = true then .ret (.tup []) else .panic (badAV (chk o d)) := check_all gl 16777216 (Nat.le_refl _) o d hd h
end Go.Proofs


namespace Go.Proofs
open Go Aw
set_option linter.unusedSimpArgs false
set_option linter.unusedVariables false
set_option maxRecDepth 100000
set_option maxHeartbeats 4000000

theorem d_caught_ret (gl : List (Nat × AV)) (e : Int) : FnD Tryz.prog gl 157 [.ptr 0 0] [(0, .cells [.int .i64 e])] 1 .ret (fun u hp nx => u = .ret ∧ hp = [(0, .cells [.int .i64 e])] ∧ nx = 1) := by
  refine FnD.intro Tryz.func157 rfl rfl (by simp [Tryz.ntmps157]) ?_
  simp only [argEnv, Tryz.ntmps157, Tryz.results157]
  refine AWD.seq (AWD.regRecover rfl rfl rfl rfl (by simp only [go_sem, seval]) ?_)
  refine awOps.rn ?_
  refine AWD.of ?_
  refine AW.block ?_
  refine AW.rS ?_
  refine AW.c2 ?_ ?_
  · intro h4
    refine AW.rL ?_
    refine wk ?_
    trivial
  · intro h4
    simp at h4
theorem d_caught_pan (gl : List (Nat × AV)) (e0 e : Int) : FnD Tryz.prog gl 157 [.ptr 0 0] [(0, .cells [.int .i64 e0])] 1 (.pan (badAV e)) (fun u hp nx => u = .ret ∧ hp = [(0, .cells [.int .i64 e]), (1, .cells [.int .i64 e])] ∧ nx = 2) := by
  refine FnD.intro Tryz.func157 rfl rfl (by simp [Tryz.ntmps157]) ?_
  simp only [argEnv, Tryz.ntmps157, Tryz.results157]
  refine AWD.seq (AWD.regRecover rfl rfl rfl rfl (by simp only [go_sem, seval]) ?_)
  refine awOps.rn ?_
  refine AWD.of ?_
  refine AW.block ?_
  simp only [badAV]
  refine AW.rS ?_
  refine AW.c2 ?_ ?_
  · intro h4
    simp at h4
  · intro h4
    refine AW.rS ?_
    refine AW.c2 ?_ ?_
    · intro h9
      refine AW.rS ?_
      refine AW.rL ?_
      refine wk ?_
      trivial
    · intro h9
      simp at h9
theorem c_value_caught (gl : List (Nat × AV)) (f : FuncId) (cs : List AV) (e : Int) (hc : FnP Tryz.prog gl f [.tptr cs] fun r => r = if decide (e = 0) = true then .ret (.tup []) else .panic (badAV e)) : FnP Tryz.prog (gl) 125 [.clos f [.tptr cs]] fun r => r = .ret (.int .i64 e) := by
  refine FnP.introD Tryz.func125 rfl rfl (by simp [Tryz.ntmps125]) ?_
  simp only [argEnv, Tryz.ntmps125]
  refine AW.rS ?_
  refine AW.df ?_
  refine AW.rSC ?_
  refine awOps.cons (awGuard.cM (hc) ?_ ?_)
  · intro hp4
    refine wk ?_
    refine finD_pan ?_
    refine LeaveS.c1 [0] (d_caught_pan _ 0 e) ?_
    refine LeaveS.rt Tryz.results125 ?_
    trivial
  intro hm4
  refine awOps.rn ?_
  refine AW.rS ?_
  refine AW.rt ?_
  refine LeaveS.c1 [0] (d_caught_ret _ 0) ?_
  refine LeaveS.rt Tryz.results125 ?_
  rw [hm4]
end Go.Proofs

namespace Go.Proofs
open Go Aw
set_option linter.unusedSimpArgs false
set_option linter.unusedVariables false
set_option maxRecDepth 100000
set_option maxHeartbeats 4000000

theorem c_value_Check_1 (gl : List (Nat × AV)) (o : Pob) (h : o.bulk ≤ 16777216 := by first | omega | exact u8_le _ | assumption | (simp; done) | (simp; omega)) : FnP Tryz.prog (gl) 126 [.tptr o.cells] fun r => r = if decide (chk o 1 = 0) = true then .ret (.tup []) else .panic (badAV (chk o 1)) := by
  refine FnP.intro Tryz.func126 rfl rfl (by simp [Tryz.ntmps126]) ?_
  simp only [argEnv, Tryz.ntmps126, Tryz.results126]
  refine AW.rLC ?_
  refine awOps.cons (awGuard.cM (c_value_check _ o 1 (by omega)) ?_ ?_)
  · intro hp2
    refine wk ?_
    rw [decide_eq_false hp2]; simp
  intro hm2
  refine awOps.rn ?_
  refine wk ?_
  rw [decide_eq_true hm2]; simp
theorem c_value_Check (gl : List (Nat × AV)) (o : Pob) (h : o.bulk ≤ 16777216 := by first | omega | exact u8_le _ | assumption | (simp; done) | (simp; omega)) : FnP Tryz.prog (gl) 59 [.agg o.cells] fun r => r = .ret (.int .i64 (chk o 1)) := by
  refine FnP.intro Tryz.func59 rfl rfl (by simp [Tryz.ntmps59]) ?_
  simp only [argEnv, Tryz.ntmps59, Tryz.results59]
  refine AW.rS ?_
  refine AW.rSC ?_
  refine awOps.cons (awGuard.c1 (c_value_caught _ 126 o.cells (chk o 1) (c_value_Check_1 _ o)) ?_)
  refine awOps.rn ?_
  refine AW.rt ?_
  all_goals first | contradiction | rfl | (simp; done) | (simp; omega)
end Go.Proofs

namespace Go.Proofs
open Go Aw
set_option linter.unusedSimpArgs false
set_option linter.unusedVariables false
set_option maxRecDepth 100000
set_option maxHeartbeats 4000000

theorem c_value_Null (gl : List (Nat × AV))  : FnP Tryz.prog (gl) 112 [] fun r => r = .ret (.agg Pob.null.cells) := by
  refine FnP.intro Tryz.func112 rfl rfl (by simp [Tryz.ntmps112]) ?_
  simp only [argEnv, Tryz.ntmps112, Tryz.results112]
  refine AW.rS ?_
  refine AW.rS ?_
  refine AW.rt ?_
  all_goals first | contradiction | rfl | (simp; done) | (simp; omega)
theorem c_value_Bool (gl : List (Nat × AV)) (b : Bool) : FnP Tryz.prog (gl) 116 [.bool b] fun r => r = .ret (.agg (boolO b).cells) := by
  refine FnP.intro Tryz.func116 rfl rfl (by simp [Tryz.ntmps116]) ?_
  simp only [argEnv, Tryz.ntmps116, Tryz.results116]
  refine AW.rS ?_
  refine AW.rS ?_
  refine AW.seq ?_
  refine AW.rS ?_
  refine AW.c2 ?_ ?_
  · intro h5
    refine AW.rL ?_
    refine AW.rS ?_
    refine AW.rt ?_
    rw [h5]; rfl
  · intro h5
    refine AW.skip ?_
    refine AW.rS ?_
    refine AW.rt ?_
    rw [h5]; rfl
theorem c_value_Int (gl : List (Nat × AV)) (n : Int) : FnP Tryz.prog (gl) 113 [.int .i64 n] fun r => r = .ret (.agg (intO n).cells) := by
  refine FnP.intro Tryz.func113 rfl rfl (by simp [Tryz.ntmps113]) ?_
  simp only [argEnv, Tryz.ntmps113, Tryz.results113]
  refine AW.rS ?_
  refine AW.rS ?_
  refine AW.rt ?_
  all_goals first | contradiction | rfl | (simp; done) | (simp; omega)
theorem c_value_Real (gl : List (Nat × AV)) (n : Int) : FnP Tryz.prog (gl) 114 [.int .i64 n] fun r => r = .ret (.agg (realO n).cells) := by
  refine FnP.intro Tryz.func114 rfl rfl (by simp [Tryz.ntmps114]) ?_
  simp only [argEnv, Tryz.ntmps114, Tryz.results114]
  refine AW.rS ?_
  refine AW.rS ?_
  refine AW.rt ?_
  all_goals first | contradiction | rfl | (simp; done) | (simp; omega)
theorem c_value_String (gl : List (Nat × AV)) (s : List UInt8) : FnP Tryz.prog (gl) 115 [.str s] fun r => r = .ret (.agg (strO s).cells) := by
  refine FnP.intro Tryz.func115 rfl rfl (by simp [Tryz.ntmps115]) ?_
  simp only [argEnv, Tryz.ntmps115, Tryz.results115]
  refine AW.rS ?_
  refine AW.rS ?_
  refine AW.rt ?_
  all_goals first | contradiction | rfl | (simp; done) | (simp; omega)
theorem c_value_Name (gl : List (Nat × AV)) (s : List UInt8) : FnP Tryz.prog (gl) 109 [.str s] fun r => r = .ret (.agg (nameO s).cells) := by
  refine FnP.intro Tryz.func109 rfl rfl (by simp [Tryz.ntmps109]) ?_
  simp only [argEnv, Tryz.ntmps109, Tryz.results109]
  refine AW.rS ?_
  refine AW.rS ?_
  refine AW.rt ?_
  all_goals first | contradiction | rfl | (simp; done) | (simp; omega)
theorem c_value_Ref (gl : List (Nat × AV)) (n g : Int) (hn : -9223372036854775808 ≤ n ∧ n ≤ 9223372036854775807 := by first | omega | exact u8_le _ | assumption | (simp; done) | (simp; omega)) : FnP Tryz.prog (gl) 111 [.int .i64 n, .int .i64 g] fun r => r = .ret (.agg (refO n g).cells) := by
  refine FnP.intro Tryz.func111 rfl rfl (by simp [Tryz.ntmps111]) ?_
  simp only [argEnv, Tryz.ntmps111, Tryz.results111]
  refine AW.rS ?_
  refine AW.rS ?_
  refine AW.rt ?_
  all_goals first | contradiction | rfl | (simp; done) | (simp; omega)
theorem c_value_Array (gl : List (Nat × AV)) (l : List Pob) (h : (arrO l).bulk ≤ 16777216 := by first | omega | exact u8_le _ | assumption | (simp; done) | (simp; omega)) : FnP Tryz.prog (gl) 110 [.sl (objsAV l)] fun r => r = .ret (.agg (arrO l).cells) := by
  refine FnP.intro Tryz.func110 rfl rfl (by simp [Tryz.ntmps110]) ?_
  simp only [argEnv, Tryz.ntmps110, Tryz.results110]
  refine AW.rS ?_
  refine AW.rSC ?_
  refine awOps.cons (awGuard.c1 (c_value_Clone _ (arrO l) h) ?_)
  refine awOps.rn ?_
  refine AW.rt ?_
  all_goals first | contradiction | rfl | (simp; done) | (simp; omega)
theorem c_value_Number (gl : List (Nat × AV)) (o : Pob) (h : -9223372036854775808 ≤ o.num ∧ o.num ≤ 9223372036854775807 := by first | omega | exact u8_le _ | assumption | (simp; done) | (simp; omega)) : FnP Tryz.prog (gl) 57 [.agg o.cells] fun r => r = .ret (.tup [.int .i64 (numI o), .bool (numB o)]) := by
  refine FnP.intro Tryz.func57 rfl rfl (by simp [Tryz.ntmps57]) ?_
  simp only [argEnv, Tryz.ntmps57, Tryz.results57]
  refine AW.rS ?_
  refine AW.rS ?_
  refine AW.seq ?_
  refine AW.rS ?_
  refine AW.block ?_
  refine AW.rS ?_
  refine AW.c2 ?_ ?_
  · intro h7
    refine AW.seq ?_
    refine AW.rSC ?_
    refine awOps.cons (awGuard.c1 (c_value_within_int64 _ o.num (-107374) 107374) ?_)
    refine awOps.rn ?_
    refine AW.c2 ?_ ?_
    · intro h12
      refine AW.rS ?_
      refine AW.rt ?_
      rw [numB_int h7, numI_int h7]; simp_all; omega
    · intro h12
      refine AW.skip ?_
      refine AW.rL ?_
      refine AW.seq ?_
      refine AW.rSC ?_
      refine awOps.cons (awGuard.c1 (c_value_within_int64 _ (o.num * 10000) (-1073741824) 1073741824) ?_)
      refine awOps.rn ?_
      refine AW.c2 ?_ ?_
      · intro h22
        refine AW.rS ?_
        refine AW.rt ?_
        · omega
        all_goals first | contradiction | rfl | (simp; done) | (simp; omega)
      · intro h22
        refine AW.skip ?_
        refine AW.rS ?_
        refine AW.rt ?_
        rw [numB_int h7, numI_int h7]; simp_all
  · intro h7
    refine AW.rS ?_
    refine AW.c2 ?_ ?_
    · intro h31
      refine AW.skip ?_
      refine AW.seq ?_
      refine AW.rSC ?_
      refine awOps.cons (awGuard.c1 (c_value_within_int64 _ o.num (-1073741824) 1073741824) ?_)
      refine awOps.rn ?_
      refine AW.c2 ?_ ?_
      · intro h37
        refine AW.rS ?_
        refine AW.rt ?_
        · rw [numB_real h31, numI_real h31]; simp_all; omega
        all_goals first | contradiction | rfl | (simp; done) | (simp; omega)
      · intro h37
        refine AW.skip ?_
        refine AW.rS ?_
        refine AW.rt ?_
        rw [numB_real h31, numI_real h31]; simp_all
    · intro h31
      refine AW.rS ?_
      refine AW.rt ?_
      rw [numB_no h7 h31, numI_no h7 h31]
theorem depth_step (gl : List (Nat × AV)) (N : Nat) (hN : N ≤ 16777216) (ih : ∀ o' : Pob, o'.bulk < N → FnP Tryz.prog gl 62 [.agg o'.cells] fun r => r = .ret (.int .i64 o'.depth)) (o : Pob) (ho : o.bulk ≤ N) : FnP Tryz.prog (gl) 62 [.agg o.cells] fun r => r = .ret (.int .i64 o.depth) := by
  refine FnP.intro Tryz.func62 rfl rfl (by simp [Tryz.ntmps62]) ?_
  simp only [argEnv, Tryz.ntmps62, Tryz.results62]
  have hb := Pob.bulk_eq o
  have hdp := Pob.depth_le o
  have hde := Pob.depth_eq o
  refine AW.rS ?_
  refine AW.rS ?_
  refine AW.seq ?_
  refine AW.rS ?_
  refine AW.block ?_
  refine AW.lk (S := { i : Nat // i ≤ o.kids.length }) [7, 8] (fun s_ => [(3, .int .i64 (depths (o.kids.take s_.1))), (9, .int .i64 s_.1)]) (fun s_ => []) 0 (fun s_ => o.kids.length - s_.1) ⟨0, Nat.zero_le _⟩ ?_ ?_
  · refine St.le.vw []
  rintro ⟨i, hi⟩
  try dsimp only at hi
  refine AW.rS ?_
  refine AW.seq ?_
  refine AW.c2 ?_ ?_
  · intro h9
    refine AW.skip ?_
    refine AW.seq ?_
    refine AW.block ?_
    refine AW.rS ?_
    refine AW.rLC ?_
    refine awOps.cons (awGuard.c1 (ih (o.kids.getD i Pob.null) (Nat.lt_of_lt_of_le (Pob.bulk_kid (by omega)) ho)) ?_)
    refine awOps.rn ?_
    refine AW.rL ?_
    have hdt := depths_take h9
    refine ⟨⟨i + 1, by omega⟩, ?_, ?_⟩
    · refine St.le.vw []
    · simp only []; omega
  · intro h9
    have htk : List.take i o.kids = o.kids := List.take_of_length_le (by omega)
    rw [htk]
    refine AW.exit ?_
    refine AW.rS ?_
    refine AW.rt ?_
    all_goals first | contradiction | rfl | (simp; done) | (simp; omega)
end Go.Proofs

namespace Go.Proofs
open Go Aw
set_option linter.unusedSimpArgs false
set_option linter.unusedVariables false
set_option maxRecDepth 100000
set_option maxHeartbeats 4000000

theorem h_Insert_string (gl : List (Nat × AV)) (es : List (List AV)) (e : List AV) (i : Nat) (hes : ∀ e ∈ es, okRow 1 e = true) (he : okRow 1 e = true) (hi : i ≤ es.length) (hl : es.length ≤ 16777216) : FnH Tryz.prog (gl) 154 [.row 0 0 es.length, .int .i64 i, .row 1 0 1] ([(0, .row 1 es true), (1, .row 1 [e] true)]) 2 (fun r h n => r = .ret (.row 2 0 (es.length + 1)) ∧ h = [(1, .row 1 [e] true), (2, .row 1 (es.take i ++ e :: es.drop i) true)] ∧ n = 3) := by
  refine FnH.intro Tryz.func154 rfl rfl (by simp [Tryz.ntmps154]) ?_
  simp only [argEnv, Tryz.ntmps154, Tryz.results154]
  refine AW.rS ?_
  refine AW.rS ?_
  refine AW.rS ?_
  refine AW.seq ?_
  refine AW.rS ?_
  refine AW.c2 ?_ ?_
  · intro h6
    refine AW.rS ?_
    refine AW.rt ?_
    all_goals first | contradiction | rfl | (simp; done) | (simp; omega)
  · intro h6
    refine AW.skip ?_
    refine AW.rS ?_
    refine AW.seq ?_
    refine AW.rS ?_
    refine AW.c2 ?_ ?_
    · intro h14
      refine AW.rS ?_
      refine AW.rt ?_
      obtain rfl : i = es.length := by omega
      simp
    · intro h14
      refine AW.skip ?_
      refine AW.seq ?_
      refine AW.tf 0 (fun sp hsp hse => ?_)
      refine AW.rSC ?_
      refine awOps.cons ?_
      refine awGuard.fcp  ?_
      refine awOps.rn ?_
      refine AW.c2 ?_ ?_
      · intro h23
        refine AW.rSC ?_
        refine awOps.cons ?_
        refine awGuard.fzr (es.length + 1 - i) ?_ ?_ ?_ ?_ ?_ ?_
        · first | omega | (simp; done) | (simp; omega)
        · first | omega | (simp; done) | (simp; omega)
        · first | omega | (simp; done) | (simp; omega)
        · first | omega | (simp; done) | (simp; omega)
        · show (i + (es.length + 1 - i)) * 16 ≤ _; omega
        refine awOps.rn ?_
        refine AW.rSC ?_
        refine awOps.cons ?_
        refine awGuard.cpR 1 ?_ ?_ ?_ ?_
        · first | omega | (simp; done) | (simp; omega)
        · first | omega | (simp; done) | (simp; omega)
        · simp [he]
        refine awOps.rn ?_
        refine AW.dSC [(0, 0), (1, 0), (2, 0), (3, 0), (4, 1), (5, 0), (6, 0), (7, 1), (8, 2)] ?_
        refine awPlan.only rfl ?_
        refine awGuard.cpR (es.length - i) ?_ ?_ ?_ ?_
        · first | omega | (simp; done) | (simp; omega)
        · simp [splice]; omega
        · exact ⟨by omega, fun x hx => hes x (mem_mid hse hx)⟩
        refine awPlan.rn ?_
        refine AW.rS ?_
        refine AW.drop 0 ?_
        refine AW.rt ?_
        rw [ins_new hse rfl (by omega) (by simp), show i + (es.length + 1 - i) = es.length + 1 from by omega]
        exact ⟨rfl, rfl⟩
      · intro h23
        refine AW.skip ?_
        refine AW.rS ?_
        refine AW.seq ?_
        refine AW.rSC ?_
        refine awOps.cons ?_
        refine awGuard.ovr (tS := 23) (tR := 4) (e := 9) Tryz.func182 ?_ ?_
        · first | omega | (simp; done) | (simp; omega)
        refine awOps.rn ?_
        refine AW.c2 ?_ ?_
        · intro h42
          refine AW.dSC [(0, 0), (1, 0), (2, 0), (3, 0), (4, 1), (5, 0), (6, 0), (7, 1), (8, 2)] ?_
          refine awPlan.only rfl ?_
          refine awGuard.cpF (es.length - i) ?_ ?_ ?_ ?_
          · first | omega | (simp; done) | (simp; omega)
          · first | omega | (simp; done) | (simp; omega)
          · exact ⟨by omega, fun x hx => hes x (mem_mid hse hx)⟩
          refine awPlan.rn ?_
          have hsl : (splice sp (i + 1) (List.take (es.length - i) (List.drop i sp))).length = sp.length := splice_len (by simp; omega)
          refine AW.rSC ?_
          refine awOps.cons ?_
          refine awGuard.cpF 1 ?_ ?_ ?_ ?_
          · first | omega | (simp; done) | (simp; omega)
          · first | omega | (simp; done) | (simp; omega)
          · simp [he]
          refine awOps.rn ?_
          refine AW.rS ?_
          refine AW.uf 0 (es.length + 1) ?_
          refine AW.rnm 6 ?_
          refine AW.rt ?_
          rw [ins_in hse rfl (by omega) (by omega)]
        · intro h42
          cases h42
theorem h_Insert_Object (gl : List (Nat × AV)) (es : List (List AV)) (e : List AV) (i : Nat) (hes : ∀ e ∈ es, okRow 6 e = true) (he : okRow 6 e = true) (hi : i ≤ es.length) (hl : es.length ≤ 16777216) : FnH Tryz.prog (gl) 155 [.row 0 0 es.length, .int .i64 i, .row 1 0 1] ([(0, .row 6 es true), (1, .row 6 [e] true)]) 2 (fun r h n => r = .ret (.row 2 0 (es.length + 1)) ∧ h = [(1, .row 6 [e] true), (2, .row 6 (es.take i ++ e :: es.drop i) true)] ∧ n = 3) := by
  refine FnH.intro Tryz.func155 rfl rfl (by simp [Tryz.ntmps155]) ?_
  simp only [argEnv, Tryz.ntmps155, Tryz.results155]
  refine AW.rS ?_
  refine AW.rS ?_
  refine AW.rS ?_
  refine AW.seq ?_
  refine AW.rS ?_
  refine AW.c2 ?_ ?_
  · intro h6
    refine AW.rS ?_
    refine AW.rt ?_
    all_goals first | contradiction | rfl | (simp; done) | (simp; omega)
  · intro h6
    refine AW.skip ?_
    refine AW.rS ?_
    refine AW.seq ?_
    refine AW.rS ?_
    refine AW.c2 ?_ ?_
    · intro h14
      refine AW.rS ?_
      refine AW.rt ?_
      obtain rfl : i = es.length := by omega
      simp
    · intro h14
      refine AW.skip ?_
      refine AW.seq ?_
      refine AW.tf 0 (fun sp hsp hse => ?_)
      refine AW.rSC ?_
      refine awOps.cons ?_
      refine awGuard.fcp  ?_
      refine awOps.rn ?_
      refine AW.c2 ?_ ?_
      · intro h23
        refine AW.rSC ?_
        refine awOps.cons ?_
        refine awGuard.fzr (es.length + 1 - i) ?_ ?_ ?_ ?_ ?_ ?_
        · first | omega | (simp; done) | (simp; omega)
        · first | omega | (simp; done) | (simp; omega)
        · first | omega | (simp; done) | (simp; omega)
        · first | omega | (simp; done) | (simp; omega)
        · show (i + (es.length + 1 - i)) * 88 ≤ _; omega
        refine awOps.rn ?_
        refine AW.rSC ?_
        refine awOps.cons ?_
        refine awGuard.cpR 1 ?_ ?_ ?_ ?_
        · first | omega | (simp; done) | (simp; omega)
        · first | omega | (simp; done) | (simp; omega)
        · simp [he]
        refine awOps.rn ?_
        refine AW.dSC [(0, 0), (1, 0), (2, 0), (3, 0), (4, 1), (5, 0), (6, 0), (7, 1), (8, 2)] ?_
        refine awPlan.only rfl ?_
        refine awGuard.cpR (es.length - i) ?_ ?_ ?_ ?_
        · first | omega | (simp; done) | (simp; omega)
        · simp [splice]; omega
        · exact ⟨by omega, fun x hx => hes x (mem_mid hse hx)⟩
        refine awPlan.rn ?_
        refine AW.rS ?_
        refine AW.drop 0 ?_
        refine AW.rt ?_
        rw [ins_new hse rfl (by omega) (by simp), show i + (es.length + 1 - i) = es.length + 1 from by omega]
        exact ⟨rfl, rfl⟩
      · intro h23
        refine AW.skip ?_
        refine AW.rS ?_
        refine AW.seq ?_
        refine AW.rSC ?_
        refine awOps.cons ?_
        refine awGuard.ovr (tS := 24) (tR := 4) (e := 26) Tryz.func184 ?_ ?_
        · first | omega | (simp; done) | (simp; omega)
        refine awOps.rn ?_
        refine AW.c2 ?_ ?_
        · intro h42
          refine AW.dSC [(0, 0), (1, 0), (2, 0), (3, 0), (4, 1), (5, 0), (6, 0), (7, 1), (8, 2)] ?_
          refine awPlan.only rfl ?_
          refine awGuard.cpF (es.length - i) ?_ ?_ ?_ ?_
          · first | omega | (simp; done) | (simp; omega)
          · first | omega | (simp; done) | (simp; omega)
          · exact ⟨by omega, fun x hx => hes x (mem_mid hse hx)⟩
          refine awPlan.rn ?_
          have hsl : (splice sp (i + 1) (List.take (es.length - i) (List.drop i sp))).length = sp.length := splice_len (by simp; omega)
          refine AW.rSC ?_
          refine awOps.cons ?_
          refine awGuard.cpF 1 ?_ ?_ ?_ ?_
          · first | omega | (simp; done) | (simp; omega)
          · first | omega | (simp; done) | (simp; omega)
          · simp [he]
          refine awOps.rn ?_
          refine AW.rS ?_
          refine AW.uf 0 (es.length + 1) ?_
          refine AW.rnm 6 ?_
          refine AW.rt ?_
          rw [ins_in hse rfl (by omega) (by omega)]
        · intro h42
          cases h42
theorem h_Insert_Item (gl : List (Nat × AV)) (es : List (List AV)) (e : List AV) (i : Nat) (hes : ∀ e ∈ es, okRow 8 e = true) (he : okRow 8 e = true) (hi : i ≤ es.length) (hl : es.length ≤ 16777216) : FnH Tryz.prog (gl) 144 [.row 0 0 es.length, .int .i64 i, .row 1 0 1] ([(0, .row 8 es true), (1, .row 8 [e] true)]) 2 (fun r h n => r = .ret (.row 2 0 (es.length + 1)) ∧ h = [(1, .row 8 [e] true), (2, .row 8 (es.take i ++ e :: es.drop i) true)] ∧ n = 3) := by
  refine FnH.intro Tryz.func144 rfl rfl (by simp [Tryz.ntmps144]) ?_
  simp only [argEnv, Tryz.ntmps144, Tryz.results144]
  refine AW.rS ?_
  refine AW.rS ?_
  refine AW.rS ?_
  refine AW.seq ?_
  refine AW.rS ?_
  refine AW.c2 ?_ ?_
  · intro h6
    refine AW.rS ?_
    refine AW.rt ?_
    all_goals first | contradiction | rfl | (simp; done) | (simp; omega)
  · intro h6
    refine AW.skip ?_
    refine AW.rS ?_
    refine AW.seq ?_
    refine AW.rS ?_
    refine AW.c2 ?_ ?_
    · intro h14
      refine AW.rS ?_
      refine AW.rt ?_
      obtain rfl : i = es.length := by omega
      simp
    · intro h14
      refine AW.skip ?_
      refine AW.seq ?_
      refine AW.tf 0 (fun sp hsp hse => ?_)
      refine AW.rSC ?_
      refine awOps.cons ?_
      refine awGuard.fcp  ?_
      refine awOps.rn ?_
      refine AW.c2 ?_ ?_
      · intro h23
        refine AW.rSC ?_
        refine awOps.cons ?_
        refine awGuard.fzr (es.length + 1 - i) ?_ ?_ ?_ ?_ ?_ ?_
        · first | omega | (simp; done) | (simp; omega)
        · first | omega | (simp; done) | (simp; omega)
        · first | omega | (simp; done) | (simp; omega)
        · first | omega | (simp; done) | (simp; omega)
        · show (i + (es.length + 1 - i)) * 104 ≤ _; omega
        refine awOps.rn ?_
        refine AW.rSC ?_
        refine awOps.cons ?_
        refine awGuard.cpR 1 ?_ ?_ ?_ ?_
        · first | omega | (simp; done) | (simp; omega)
        · first | omega | (simp; done) | (simp; omega)
        · simp [he]
        refine awOps.rn ?_
        refine AW.dSC [(0, 0), (1, 0), (2, 0), (3, 0), (4, 1), (5, 0), (6, 0), (7, 1), (8, 2)] ?_
        refine awPlan.only rfl ?_
        refine awGuard.cpR (es.length - i) ?_ ?_ ?_ ?_
        · first | omega | (simp; done) | (simp; omega)
        · simp [splice]; omega
        · exact ⟨by omega, fun x hx => hes x (mem_mid hse hx)⟩
        refine awPlan.rn ?_
        refine AW.rS ?_
        refine AW.drop 0 ?_
        refine AW.rt ?_
        rw [ins_new hse rfl (by omega) (by simp), show i + (es.length + 1 - i) = es.length + 1 from by omega]
        exact ⟨rfl, rfl⟩
      · intro h23
        refine AW.skip ?_
        refine AW.rS ?_
        refine AW.seq ?_
        refine AW.rSC ?_
        refine awOps.cons ?_
        refine awGuard.ovr (tS := 22) (tR := 4) (e := 30) Tryz.func178 ?_ ?_
        · first | omega | (simp; done) | (simp; omega)
        refine awOps.rn ?_
        refine AW.c2 ?_ ?_
        · intro h42
          refine AW.dSC [(0, 0), (1, 0), (2, 0), (3, 0), (4, 1), (5, 0), (6, 0), (7, 1), (8, 2)] ?_
          refine awPlan.only rfl ?_
          refine awGuard.cpF (es.length - i) ?_ ?_ ?_ ?_
          · first | omega | (simp; done) | (simp; omega)
          · first | omega | (simp; done) | (simp; omega)
          · exact ⟨by omega, fun x hx => hes x (mem_mid hse hx)⟩
          refine awPlan.rn ?_
          have hsl : (splice sp (i + 1) (List.take (es.length - i) (List.drop i sp))).length = sp.length := splice_len (by simp; omega)
          refine AW.rSC ?_
          refine awOps.cons ?_
          refine awGuard.cpF 1 ?_ ?_ ?_ ?_
          · first | omega | (simp; done) | (simp; omega)
          · first | omega | (simp; done) | (simp; omega)
          · simp [he]
          refine awOps.rn ?_
          refine AW.rS ?_
          refine AW.uf 0 (es.length + 1) ?_
          refine AW.rnm 6 ?_
          refine AW.rt ?_
          rw [ins_in hse rfl (by omega) (by omega)]
        · intro h42
          cases h42
end Go.Proofs

namespace Go.Proofs
open Go Aw
set_option linter.unusedSimpArgs false
set_option linter.unusedVariables false
set_option maxRecDepth 100000
set_option maxHeartbeats 4000000

theorem h_Delete_string (gl : List (Nat × AV)) (es : List (List AV)) (i j : Nat) (hes : ∀ e ∈ es, okRow 1 e = true) (hij : i < j) (hj : j ≤ es.length) (hl : es.length ≤ 16777216) : FnH Tryz.prog (gl) 170 [.row 0 0 es.length, .int .i64 i, .int .i64 j] ([(0, .row 1 es true)]) 1 (fun r h n => r = .ret (.row 0 0 (i + (es.length - j))) ∧ h = [(0, .row 1 (es.take i ++ es.drop j) true)] ∧ n = 1) := by
  refine FnH.intro Tryz.func170 rfl rfl (by simp [Tryz.ntmps170]) ?_
  simp only [argEnv, Tryz.ntmps170, Tryz.results170]
  refine AW.rS ?_
  refine AW.rSC ?_
  refine awOps.cons ?_
  refine awGuard.s3 ?_ ?_
  · first | omega | (simp; done) | (simp; omega)
  refine awOps.rn ?_
  refine AW.seq ?_
  refine AW.rS ?_
  refine AW.c2 ?_ ?_
  · intro h7
    refine AW.rS ?_
    refine AW.rt ?_
    all_goals first | contradiction | rfl | (simp; done) | (simp; omega)
  · intro h7
    refine AW.skip ?_
    refine AW.tf 0 (fun sp hsp hse => ?_)
    have htl : (List.take (es.length - j) (List.drop j sp)).length = es.length - j := by simp; omega
    have hsl : (splice sp i (List.take (es.length - j) (List.drop j sp))).length = sp.length := splice_len (by omega)
    refine AW.rS ?_
    refine AW.dSC [(0, 0), (1, 0), (2, 1), (3, 0), (4, 0), (5, 1), (6, 2), (7, 0)] ?_
    refine awPlan.only rfl ?_
    refine awGuard.apF ?_ ?_ ?_
    · exact ⟨by omega, fun x hx => hes x (mem_mid hse hx)⟩
    · omega
    refine awPlan.rn ?_
    refine AW.rSC ?_
    refine awOps.cons ?_
    refine awGuard.fcr ?_ ?_
    · omega
    refine awOps.rn ?_
    refine AW.uf 0 (i + (es.length - j)) ?_
    refine AW.rS ?_
    refine AW.rt ?_
    rw [htl, del_in hse rfl (by omega) hj rfl]
    exact ⟨rfl, rfl⟩
theorem h_Delete_Object (gl : List (Nat × AV)) (es : List (List AV)) (i j : Nat) (hes : ∀ e ∈ es, okRow 6 e = true) (hij : i < j) (hj : j ≤ es.length) (hl : es.length ≤ 16777216) : FnH Tryz.prog (gl) 171 [.row 0 0 es.length, .int .i64 i, .int .i64 j] ([(0, .row 6 es true)]) 1 (fun r h n => r = .ret (.row 0 0 (i + (es.length - j))) ∧ h = [(0, .row 6 (es.take i ++ es.drop j) true)] ∧ n = 1) := by
  refine FnH.intro Tryz.func171 rfl rfl (by simp [Tryz.ntmps171]) ?_
  simp only [argEnv, Tryz.ntmps171, Tryz.results171]
  refine AW.rS ?_
  refine AW.rSC ?_
  refine awOps.cons ?_
  refine awGuard.s3 ?_ ?_
  · first | omega | (simp; done) | (simp; omega)
  refine awOps.rn ?_
  refine AW.seq ?_
  refine AW.rS ?_
  refine AW.c2 ?_ ?_
  · intro h7
    refine AW.rS ?_
    refine AW.rt ?_
    all_goals first | contradiction | rfl | (simp; done) | (simp; omega)
  · intro h7
    refine AW.skip ?_
    refine AW.tf 0 (fun sp hsp hse => ?_)
    have htl : (List.take (es.length - j) (List.drop j sp)).length = es.length - j := by simp; omega
    have hsl : (splice sp i (List.take (es.length - j) (List.drop j sp))).length = sp.length := splice_len (by omega)
    refine AW.rS ?_
    refine AW.dSC [(0, 0), (1, 0), (2, 1), (3, 0), (4, 0), (5, 1), (6, 2), (7, 0)] ?_
    refine awPlan.only rfl ?_
    refine awGuard.apF ?_ ?_ ?_
    · exact ⟨by omega, fun x hx => hes x (mem_mid hse hx)⟩
    · omega
    refine awPlan.rn ?_
    refine AW.rSC ?_
    refine awOps.cons ?_
    refine awGuard.fcr ?_ ?_
    · omega
    refine awOps.rn ?_
    refine AW.uf 0 (i + (es.length - j)) ?_
    refine AW.rS ?_
    refine AW.rt ?_
    rw [htl, del_in hse rfl (by omega) hj rfl]
    exact ⟨rfl, rfl⟩
theorem h_Delete_Item (gl : List (Nat × AV)) (es : List (List AV)) (i j : Nat) (hes : ∀ e ∈ es, okRow 8 e = true) (hij : i < j) (hj : j ≤ es.length) (hl : es.length ≤ 16777216) : FnH Tryz.prog (gl) 146 [.row 0 0 es.length, .int .i64 i, .int .i64 j] ([(0, .row 8 es true)]) 1 (fun r h n => r = .ret (.row 0 0 (i + (es.length - j))) ∧ h = [(0, .row 8 (es.take i ++ es.drop j) true)] ∧ n = 1) := by
  refine FnH.intro Tryz.func146 rfl rfl (by simp [Tryz.ntmps146]) ?_
  simp only [argEnv, Tryz.ntmps146, Tryz.results146]
  refine AW.rS ?_
  refine AW.rSC ?_
  refine awOps.cons ?_
  refine awGuard.s3 ?_ ?_
  · first | omega | (simp; done) | (simp; omega)
  refine awOps.rn ?_
  refine AW.seq ?_
  refine AW.rS ?_
  refine AW.c2 ?_ ?_
  · intro h7
    refine AW.rS ?_
    refine AW.rt ?_
    all_goals first | contradiction | rfl | (simp; done) | (simp; omega)
  · intro h7
    refine AW.skip ?_
    refine AW.tf 0 (fun sp hsp hse => ?_)
    have htl : (List.take (es.length - j) (List.drop j sp)).length = es.length - j := by simp; omega
    have hsl : (splice sp i (List.take (es.length - j) (List.drop j sp))).length = sp.length := splice_len (by omega)
    refine AW.rS ?_
    refine AW.dSC [(0, 0), (1, 0), (2, 1), (3, 0), (4, 0), (5, 1), (6, 2), (7, 0)] ?_
    refine awPlan.only rfl ?_
    refine awGuard.apF ?_ ?_ ?_
    · exact ⟨by omega, fun x hx => hes x (mem_mid hse hx)⟩
    · omega
    refine awPlan.rn ?_
    refine AW.rSC ?_
    refine awOps.cons ?_
    refine awGuard.fcr ?_ ?_
    · omega
    refine awOps.rn ?_
    refine AW.uf 0 (i + (es.length - j)) ?_
    refine AW.rS ?_
    refine AW.rt ?_
    rw [htl, del_in hse rfl (by omega) hj rfl]
    exact ⟨rfl, rfl⟩
end Go.Proofs

namespace Go.Proofs
open Go Aw
set_option linter.unusedSimpArgs false
set_option linter.unusedVariables false
set_option maxRecDepth 100000
set_option maxHeartbeats 4000000

theorem c_cmp_isNaN_string (gl : List (Nat × AV)) (s : List UInt8) : FnP Tryz.prog (gl) 190 [.str s] fun r => r = .ret (.bool false) := by
  refine FnP.intro Tryz.func190 rfl rfl (by simp [Tryz.ntmps190]) ?_
  simp only [argEnv, Tryz.ntmps190, Tryz.results190]
  refine AW.rS ?_
  refine AW.rS ?_
  refine AW.rt ?_
  all_goals first | contradiction | rfl | (simp; done) | (simp; omega)
theorem c_slices_isNaN_string (gl : List (Nat × AV)) (s : List UInt8) : FnP Tryz.prog (gl) 169 [.str s] fun r => r = .ret (.bool false) := by
  refine FnP.intro Tryz.func169 rfl rfl (by simp [Tryz.ntmps169]) ?_
  simp only [argEnv, Tryz.ntmps169, Tryz.results169]
  refine AW.rS ?_
  refine AW.rS ?_
  refine AW.rt ?_
  all_goals first | contradiction | rfl | (simp; done) | (simp; omega)
theorem c_cmp_Less_string (gl : List (Nat × AV)) (s t : List UInt8) : FnP Tryz.prog (gl) 168 [.str s, .str t] fun r => r = .ret (.bool (Op.bytesLess s t)) := by
  refine FnP.intro Tryz.func168 rfl rfl (by simp [Tryz.ntmps168]) ?_
  simp only [argEnv, Tryz.ntmps168, Tryz.results168]
  refine AW.rS ?_
  refine AW.rSC ?_
  refine awOps.cons (awGuard.c1 (c_cmp_isNaN_string _ s) ?_)
  refine awOps.rn ?_
  refine awOps.cons (awGuard.cG (fun hg => c_cmp_isNaN_string _ t) ?_)
  refine awOps.rn ?_
  refine AW.rt ?_
  all_goals first | contradiction | rfl | (simp; done) | (simp; omega)
theorem c_slices_BinarySearch_string_string (gl : List (Nat × AV)) (ks : List (List UInt8)) (key : List UInt8) (hk : ks.length ≤ 16777216 := by first | omega | exact u8_le _ | assumption | (simp; done) | (simp; omega)) (hs : incr ks := by first | omega | exact u8_le _ | assumption | (simp; done) | (simp; omega)) : FnP Tryz.prog (gl) 131 [.sl (strsAV ks), .str key] fun r => r = .ret (.tup [.int .i64 (kplace ks key), .bool (kthere ks key)]) := by
  refine FnP.intro Tryz.func131 rfl rfl (by simp [Tryz.ntmps131]) ?_
  simp only [argEnv, Tryz.ntmps131, Tryz.results131]
  refine AW.rS ?_
  refine AW.rS ?_
  refine AW.rS ?_
  refine AW.seq ?_
  refine AW.block ?_
  refine AW.lk (S := { p : Nat × Nat // p.1 ≤ p.2 ∧ p.2 ≤ ks.length ∧ (∀ a, a < p.1 → Op.bytesLess (ks.getD a []) key = true) ∧ (∀ a, p.2 ≤ a → a < ks.length → Op.bytesLess (ks.getD a []) key = false) }) [0, 1, 6] (fun s_ => [(7, .int .i64 s_.1.1), (8, .int .i64 s_.1.2)]) (fun s_ => []) 0 (fun s_ => s_.1.2 - s_.1.1) ⟨(0, ks.length), Nat.zero_le _, Nat.le_refl _, fun a h => absurd h (by omega), fun a h h' => absurd h' (by omega)⟩ ?_ ?_
  · refine St.le.vw []
  rintro ⟨⟨i, j⟩, h1, h2, h3, h4⟩
  try dsimp only at h1
  try dsimp only at h2
  try dsimp only at h3
  try dsimp only at h4
  refine AW.seq ?_
  refine AW.rS ?_
  refine AW.c2 ?_ ?_
  · intro h9
    refine AW.skip ?_
    refine AW.block ?_
    refine AW.rS ?_
    refine AW.rSC ?_
    refine awOps.cons (awGuard.c1 (c_cmp_Less_string _ (ks.getD ((i + j) / 2) []) key) ?_)
    refine awOps.rn ?_
    refine AW.c2 ?_ ?_
    · intro h16
      refine AW.rL ?_
      refine ⟨⟨((i + j) / 2 + 1, j), by dsimp only; omega, h2, fun a ha => bs_lo hs h16 (by omega) (by dsimp only at ha; omega), h4⟩, ?_, ?_⟩
      · refine St.le.vw []
      · simp only []; omega
    · intro h16
      refine AW.rL ?_
      refine ⟨⟨(i, (i + j) / 2), by dsimp only; omega, by dsimp only; omega, h3, fun a ha hb => bs_hi hs h16 (by dsimp only at ha; omega) hb⟩, ?_, ?_⟩
      · refine St.le.vw []
      · simp only []; omega
  · intro h9
    refine AW.exit ?_
    obtain rfl : i = j := by omega
    have hkp := kplace_eq h2 h3 (fun h => h4 _ (Nat.le_refl _) h)
    by_cases hs22 : i < ks.length
    · skip
      refine AW.rSC ?_
      refine awOps.cons (awGuard.cG (fun hg => c_slices_isNaN_string ..) ?_)
      refine awOps.rn ?_
      refine awOps.cons (awGuard.cG (fun hg => c_slices_isNaN_string ..) ?_)
      refine awOps.rn ?_
      refine AW.rt ?_
      rw [kthere_eq hkp, hkp]
      simp [hs22]
    · skip
      refine AW.rSC ?_
      refine awOps.cons (awGuard.gF (.bool false) ?_ ?_)
      · simp [hs22]
      refine awOps.rn ?_
      refine awOps.cons (awGuard.cG (fun hg => c_slices_isNaN_string ..) ?_)
      refine awOps.rn ?_
      refine AW.rt ?_
      rw [kthere_eq hkp, hkp]
      simp [hs22]
end Go.Proofs
