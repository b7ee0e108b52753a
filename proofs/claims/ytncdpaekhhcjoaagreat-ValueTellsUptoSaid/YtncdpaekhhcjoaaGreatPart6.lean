/- A part of the proof of a law of the seat: no condition of its own. -/
import Derived.Test.YtncdpaekhhcjoaaGreatPart5
namespace Go.Proofs
open Go Aw
set_option linter.unusedSimpArgs false
set_option linter.unusedVariables false
set_option maxRecDepth 100000
set_option maxHeartbeats 4000000
theorem check_step (gl : List (Nat × AV)) (N : Nat) (hN : N ≤ 16777216) (ih : ∀ (o' : Pob) (d : Int), o'.bulk < N → 0 ≤ d → FnP Tryz.prog gl 127 [.agg o'.cells, .int .i64 d] fun r => r = if decide (chk o' d = 0) = true then .ret (.tup []) else .panic (badAV (chk o' d))) (o : Pob) (d : Int) (ho : o.bulk ≤ N) (hd : 0 ≤ d) : FnP Tryz.prog (gl) 127 [.agg o.cells, .int .i64 d] fun r => r = if decide (chk o d = 0) = true then .ret (.tup []) else .panic (badAV (chk o d)) := by
  refine FnP.intro Tryz.func127 rfl rfl (by simp [Tryz.ntmps127]) ?_
  simp only [argEnv, Tryz.ntmps127, Tryz.results127]
  have hbulk := Pob.bulk_eq o
  refine AW.rS ?_
  refine AW.rSC ?_
  refine awOps.cons (awGuard.cM (c_value_must _ (decide (d ≤ 24)) 7) ?_ ?_)
  · intro hp3
    refine wk ?_
    rw [chk_bad (e := 7) (by simp [ownE, hp3]) (by omega)]; simp
  intro hm3
  refine awOps.rn ?_
  refine AW.rSC ?_
  refine awOps.cons (awGuard.c1 (c_value_used _ o.kind) ?_)
  refine awOps.rn ?_
  refine AW.rSC ?_
  refine awOps.cons (awGuard.cM (c_value_must _ (useB o d) 10) ?_ ?_)
  · intro hp9
    refine wk ?_
    rw [chk_bad (e := 10) (by simp [ownE, hm3, hp9]) (by omega)]; simp
  intro hm9
  refine awOps.rn ?_
  refine AW.rSC ?_
  refine awOps.cons (awGuard.c1 (c_value_fits _ o) ?_)
  refine awOps.rn ?_
  refine awOps.cons (awGuard.cM (c_value_must _ (fitsB o) 2) ?_ ?_)
  · intro hp14
    refine wk ?_
    rw [chk_bad (e := 2) (by simp [ownE, hm3, hm9, hp14]) (by omega)]; simp
  intro hm14
  refine awOps.rn ?_
  refine AW.rSC ?_
  refine awOps.cons (awGuard.c1 (c_value_short _ o) ?_)
  refine awOps.rn ?_
  refine awOps.cons (awGuard.cM (c_value_must _ (shortB o) 5) ?_ ?_)
  · intro hp19
    refine wk ?_
    rw [chk_bad (e := 5) (by simp [ownE, hm3, hm9, hm14, hp19]) (by omega)]; simp
  intro hm19
  refine awOps.rn ?_
  refine AW.rSC ?_
  refine awOps.cons (awGuard.cM (c_value_must _ (decide ((o.kids.length : Int) ≤ 8191)) 6) ?_ ?_)
  · intro hp22
    refine wk ?_
    rw [chk_bad (e := 6) (by simp [ownE, hm3, hm9, hm14, hm19, hp22]) (by omega)]; simp
  intro hm22
  refine awOps.rn ?_
  refine AW.rSC ?_
  refine awOps.cons (awGuard.cG (fun hg => c_value_key _ o.str) ?_)
  refine awOps.rn ?_
  refine awOps.cons (awGuard.cG (fun hg => c_value_rising _ o (by omega)) ?_)
  refine awOps.rn ?_
  refine awOps.cons (awGuard.cM (c_value_must _ (formB o) 3) ?_ ?_)
  · intro hp29
    refine wk ?_
    rw [chk_bad (e := 3) (by simp [ownE, hm3, hm9, hm14, hm19, hm22, hp29]) (by omega)]; simp
  intro hm29
  refine awOps.rn ?_
  refine AW.rS ?_
  refine AW.block ?_
  have hown : ownE o d = 0 := by simp [ownE, hm3, hm9, hm14, hm19, hm22, hm29]
  refine AW.lk (S := { i : Nat // i ≤ o.kids.length ∧ chkL o.kids (d + 1) = chkL (o.kids.drop i) (d + 1) }) [1, 105, 106] (fun s_ => [(107, .int .i64 s_.1)]) (fun s_ => []) 0 (fun s_ => o.kids.length - s_.1) ⟨0, Nat.zero_le _, rfl⟩ ?_ ?_
  · refine St.le.vw []
  rintro ⟨i, hi, hs⟩
  try dsimp only at hi
  try dsimp only at hs
  refine AW.rS ?_
  refine AW.seq ?_
  refine AW.c2 ?_ ?_
  · intro h36
    refine AW.skip ?_
    refine AW.seq ?_
    refine AW.block ?_
    refine AW.rS ?_
    refine AW.rLC ?_
    refine awOps.cons (awGuard.cM (ih (o.kids.getD i Pob.null) (d + 1) (Nat.lt_of_lt_of_le (Pob.bulk_kid (by omega)) ho) (by omega)) ?_ ?_)
    · intro hp42
      refine wk ?_
      rw [chk_eq o d, hown, if_pos rfl, hs, chkL_drop (by omega), if_neg hp42, decide_eq_false hp42]; rfl
    intro hm42
    refine awOps.rn ?_
    refine AW.rL ?_
    refine ⟨⟨i + 1, by omega, by rw [hs, chkL_drop (by omega), if_pos hm42]⟩, ?_, ?_⟩
    · refine St.le.vw []
    · simp only []; omega
  · intro h36
    refine AW.exit ?_
    refine wk ?_
    rw [chk_eq o d, hown, if_pos rfl, hs, List.drop_of_length_le (by omega)]; simp [chkL]
theorem check_all (gl : List (Nat × AV)) (N : Nat) : N ≤ 16777216 → ∀ (o : Pob) (d : Int), 0 ≤ d → o.bulk ≤ N → FnP Tryz.prog gl 127 [.agg o.cells, .int .i64 d] fun r => r = if decide (chk o d = 0) = true then .ret (.tup []) else .panic (badAV (chk o d)) := by
  induction N using Nat.strongRecOn with
  | ind N IH => exact fun hN o d hd ho => check_step gl N hN (fun o' d' h hd' => IH o'.bulk h (by omega) o' d' hd' (Nat.le_refl _)) o d ho hd
theorem c_value_check (gl : List (Nat × AV)) (o : Pob) (d : Int) (hd : 0 ≤ d) (h : o.bulk ≤ 16777216 := by assumption) : FnP Tryz.prog gl 127 [.agg o.cells, .int .i64 d] fun r => r = if decide (chk o d = 0) = true then .ret (.tup []) else .panic (badAV (chk o d)) := check_all gl 16777216 (Nat.le_refl _) o d hd h
end Go.Proofs


namespace Go.Proofs
open Go Aw
set_option linter.unusedSimpArgs false
set_option linter.unusedVariables false
set_option maxRecDepth 100000
set_option maxHeartbeats 4000000

theorem d_caught_ret (gl : List (Nat × AV)) (e : Int) : FnD Tryz.prog gl 157 [.ptr 0 0] [(0, .cells [.int .i64 e])] 1 .ret (fun u hp nx => u = .ret ∧ hp = [(0, .cells [.int .i64 e])] ∧ nx = 1) := by
  refine FnD.intro Tryz.func157 rfl rfl (by simp [Tryz.ntmps157]) ?_
  simp only [argEnv, Tryz.ntmps157, Tryz.results157]
  refine AWD.seq (AWD.regRecover rfl rfl rfl rfl (by simp only [go_sem, seval]) ?_)
  refine awOps.rn ?_
  refine AWD.of ?_
  refine AW.block ?_
  refine AW.rS ?_
  refine AW.c2 ?_ ?_
  · intro h4
    refine AW.rL ?_
    refine wk ?_
    trivial
  · intro h4
    simp at h4
theorem d_caught_pan (gl : List (Nat × AV)) (e0 e : Int) : FnD Tryz.prog gl 157 [.ptr 0 0] [(0, .cells [.int .i64 e0])] 1 (.pan (badAV e)) (fun u hp nx => u = .ret ∧ hp = [(0, .cells [.int .i64 e]), (1, .cells [.int .i64 e])] ∧ nx = 2) := by
  refine FnD.intro Tryz.func157 rfl rfl (by simp [Tryz.ntmps157]) ?_
  simp only [argEnv, Tryz.ntmps157, Tryz.results157]
  refine AWD.seq (AWD.regRecover rfl rfl rfl rfl (by simp only [go_sem, seval]) ?_)
  refine awOps.rn ?_
  refine AWD.of ?_
  refine AW.block ?_
  simp only [badAV]
  refine AW.rS ?_
  refine AW.c2 ?_ ?_
  · intro h4
    simp at h4
  · intro h4
    refine AW.rS ?_
    refine AW.c2 ?_ ?_
    · intro h9
      refine AW.rS ?_
      refine AW.rL ?_
      refine wk ?_
      trivial
    · intro h9
      simp at h9
theorem c_value_caught (gl : List (Nat × AV)) (f : FuncId) (cs : List AV) (e : Int) (hc : FnP Tryz.prog gl f [.tptr cs] fun r => r = if decide (e = 0) = true then .ret (.tup []) else .panic (badAV e)) : FnP Tryz.prog (gl) 125 [.clos f [.tptr cs]] fun r => r = .ret (.int .i64 e) := by
  refine FnP.introD Tryz.func125 rfl rfl (by simp [Tryz.ntmps125]) ?_
  simp only [argEnv, Tryz.ntmps125]
  refine AW.rS ?_
  refine AW.df ?_
  refine AW.rSC ?_
  refine awOps.cons (awGuard.cM (hc) ?_ ?_)
  · intro hp4
    refine wk ?_
    refine finD_pan ?_
    refine LeaveS.c1 [0] (d_caught_pan _ 0 e) ?_
    refine LeaveS.rt Tryz.results125 ?_
    trivial
  intro hm4
  refine awOps.rn ?_
  refine AW.rS ?_
  refine AW.rt ?_
  refine LeaveS.c1 [0] (d_caught_ret _ 0) ?_
  refine LeaveS.rt Tryz.results125 ?_
  rw [hm4]
end Go.Proofs

namespace Go.Proofs
open Go Aw
set_option linter.unusedSimpArgs false
set_option linter.unusedVariables false
set_option maxRecDepth 100000
set_option maxHeartbeats 4000000

theorem c_value_Check_1 (gl : List (Nat × AV)) (o : Pob) (h : o.bulk ≤ 16777216 := by first | omega | exact u8_le _ | assumption | (simp; done) | (simp; omega)) : FnP Tryz.prog (gl) 126 [.tptr o.cells] fun r => r = if decide (chk o 1 = 0) = true then .ret (.tup []) else .panic (badAV (chk o 1)) := by
  refine FnP.intro Tryz.func126 rfl rfl (by simp [Tryz.ntmps126]) ?_
  simp only [argEnv, Tryz.ntmps126, Tryz.results126]
  refine AW.rLC ?_
  refine awOps.cons (awGuard.cM (c_value_check _ o 1 (by omega)) ?_ ?_)
  · intro hp2
    refine wk ?_
    rw [decide_eq_false hp2]; simp
  intro hm2
  refine awOps.rn ?_
  refine wk ?_
  rw [decide_eq_true hm2]; simp
theorem c_value_Check (gl : List (Nat × AV)) (o : Pob) (h : o.bulk ≤ 16777216 := by first | omega | exact u8_le _ | assumption | (simp; done) | (simp; omega)) : FnP Tryz.prog (gl) 59 [.agg o.cells] fun r => r = .ret (.int .i64 (chk o 1)) := by
  refine FnP.intro Tryz.func59 rfl rfl (by simp [Tryz.ntmps59]) ?_
  simp only [argEnv, Tryz.ntmps59, Tryz.results59]
  refine AW.rS ?_
  refine AW.rSC ?_
  refine awOps.cons (awGuard.c1 (c_value_caught _ 126 o.cells (chk o 1) (c_value_Check_1 _ o)) ?_)
  refine awOps.rn ?_
  refine AW.rt ?_
  all_goals first | contradiction | rfl | (simp; done) | (simp; omega)
end Go.Proofs

namespace Go.Proofs
open Go Aw
set_option linter.unusedSimpArgs false
set_option linter.unusedVariables false
set_option maxRecDepth 100000
set_option maxHeartbeats 4000000

theorem c_value_Null (gl : List (Nat × AV))  : FnP Tryz.prog (gl) 112 [] fun r => r = .ret (.agg Pob.null.cells) := by
  refine FnP.intro Tryz.func112 rfl rfl (by simp [Tryz.ntmps112]) ?_
  simp only [argEnv, Tryz.ntmps112, Tryz.results112]
  refine AW.rS ?_
  refine AW.rS ?_
  refine AW.rt ?_
  all_goals first | contradiction | rfl | (simp; done) | (simp; omega)
theorem c_value_Bool (gl : List (Nat × AV)) (b : Bool) : FnP Tryz.prog (gl) 116 [.bool b] fun r => r = .ret (.agg (boolO b).cells) := by
  refine FnP.intro Tryz.func116 rfl rfl (by simp [Tryz.ntmps116]) ?_
  simp only [argEnv, Tryz.ntmps116, Tryz.results116]
  refine AW.rS ?_
  refine AW.rS ?_
  refine AW.seq ?_
  refine AW.rS ?_
  refine AW.c2 ?_ ?_
  · intro h5
    refine AW.rL ?_
    refine AW.rS ?_
    refine AW.rt ?_
    rw [h5]; rfl
  · intro h5
    refine AW.skip ?_
    refine AW.rS ?_
    refine AW.rt ?_
    rw [h5]; rfl
theorem c_value_Int (gl : List (Nat × AV)) (n : Int) : FnP Tryz.prog (gl) 113 [.int .i64 n] fun r => r = .ret (.agg (intO n).cells) := by
  refine FnP.intro Tryz.func113 rfl rfl (by simp [Tryz.ntmps113]) ?_
  simp only [argEnv, Tryz.ntmps113, Tryz.results113]
  refine AW.rS ?_
  refine AW.rS ?_
  refine AW.rt ?_
  all_goals first | contradiction | rfl | (simp; done) | (simp; omega)
theorem c_value_Real (gl : List (Nat × AV)) (n : Int) : FnP Tryz.prog (gl) 114 [.int .i64 n] fun r => r = .ret (.agg (realO n).cells) := by
  refine FnP.intro Tryz.func114 rfl rfl (by simp [Tryz.ntmps114]) ?_
  simp only [argEnv, Tryz.ntmps114, Tryz.results114]
  refine AW.rS ?_
  refine AW.rS ?_
  refine AW.rt ?_
  all_goals first | contradiction | rfl | (simp; done) | (simp; omega)
theorem c_value_String (gl : List (Nat × AV)) (s : List UInt8) : FnP Tryz.prog (gl) 115 [.str s] fun r => r = .ret (.agg (strO s).cells) := by
  refine FnP.intro Tryz.func115 rfl rfl (by simp [Tryz.ntmps115]) ?_
  simp only [argEnv, Tryz.ntmps115, Tryz.results115]
  refine AW.rS ?_
  refine AW.rS ?_
  refine AW.rt ?_
  all_goals first | contradiction | rfl | (simp; done) | (simp; omega)
theorem c_value_Name (gl : List (Nat × AV)) (s : List UInt8) : FnP Tryz.prog (gl) 109 [.str s] fun r => r = .ret (.agg (nameO s).cells) := by
  refine FnP.intro Tryz.func109 rfl rfl (by simp [Tryz.ntmps109]) ?_
  simp only [argEnv, Tryz.ntmps109, Tryz.results109]
  refine AW.rS ?_
  refine AW.rS ?_
  refine AW.rt ?_
  all_goals first | contradiction | rfl | (simp; done) | (simp; omega)
theorem c_value_Ref (gl : List (Nat × AV)) (n g : Int) (hn : -9223372036854775808 ≤ n ∧ n ≤ 9223372036854775807 := by first | omega | exact u8_le _ | assumption | (simp; done) | (simp; omega)) : FnP Tryz.prog (gl) 111 [.int .i64 n, .int .i64 g] fun r => r = .ret (.agg (refO n g).cells) := by
  refine FnP.intro Tryz.func111 rfl rfl (by simp [Tryz.ntmps111]) ?_
  simp only [argEnv, Tryz.ntmps111, Tryz.results111]
  refine AW.rS ?_
  refine AW.rS ?_
  refine AW.rt ?_
  all_goals first | contradiction | rfl | (simp; done) | (simp; omega)
theorem c_value_Array (gl : List (Nat × AV)) (l : List Pob) (h : (arrO l).bulk ≤ 16777216 := by first | omega | exact u8_le _ | assumption | (simp; done) | (simp; omega)) : FnP Tryz.prog (gl) 110 [.sl (objsAV l)] fun r => r = .ret (.agg (arrO l).cells) := by
  refine FnP.intro Tryz.func110 rfl rfl (by simp [Tryz.ntmps110]) ?_
  simp only [argEnv, Tryz.ntmps110, Tryz.results110]
  refine AW.rS ?_
  refine AW.rSC ?_
  refine awOps.cons (awGuard.c1 (c_value_Clone _ (arrO l) h) ?_)
  refine awOps.rn ?_
  refine AW.rt ?_
  all_goals first | contradiction | rfl | (simp; done) | (simp; omega)
theorem c_value_Number (gl : List (Nat × AV)) (o : Pob) (h : -9223372036854775808 ≤ o.num ∧ o.num ≤ 9223372036854775807 := by first | omega | exact u8_le _ | assumption | (simp; done) | (simp; omega)) : FnP Tryz.prog (gl) 57 [.agg o.cells] fun r => r = .ret (.tup [.int .i64 (numI o), .bool (numB o)]) := by
  refine FnP.intro Tryz.func57 rfl rfl (by simp [Tryz.ntmps57]) ?_
  simp only [argEnv, Tryz.ntmps57, Tryz.results57]
  refine AW.rS ?_
  refine AW.rS ?_
  refine AW.seq ?_
  refine AW.rS ?_
  refine AW.block ?_
  refine AW.rS ?_
  refine AW.c2 ?_ ?_
  · intro h7
    refine AW.seq ?_
    refine AW.rSC ?_
    refine awOps.cons (awGuard.c1 (c_value_within_int64 _ o.num (-107374) 107374) ?_)
    refine awOps.rn ?_
    refine AW.c2 ?_ ?_
    · intro h12
      refine AW.rS ?_
      refine AW.rt ?_
      rw [numB_int h7, numI_int h7]; simp_all; omega
    · intro h12
      refine AW.skip ?_
      refine AW.rL ?_
      refine AW.seq ?_
      refine AW.rSC ?_
      refine awOps.cons (awGuard.c1 (c_value_within_int64 _ (o.num * 10000) (-1073741824) 1073741824) ?_)
      refine awOps.rn ?_
      refine AW.c2 ?_ ?_
      · intro h22
        refine AW.rS ?_
        refine AW.rt ?_
        · omega
        all_goals first | contradiction | rfl | (simp; done) | (simp; omega)
      · intro h22
        refine AW.skip ?_
        refine AW.rS ?_
        refine AW.rt ?_
        rw [numB_int h7, numI_int h7]; simp_all
  · intro h7
    refine AW.rS ?_
    refine AW.c2 ?_ ?_
    · intro h31
      refine AW.skip ?_
      refine AW.seq ?_
      refine AW.rSC ?_
      refine awOps.cons (awGuard.c1 (c_value_within_int64 _ o.num (-1073741824) 1073741824) ?_)
      refine awOps.rn ?_
      refine AW.c2 ?_ ?_
      · intro h37
        refine AW.rS ?_
        refine AW.rt ?_
        · rw [numB_real h31, numI_real h31]; simp_all; omega
        all_goals first | contradiction | rfl | (simp; done) | (simp; omega)
      · intro h37
        refine AW.skip ?_
        refine AW.rS ?_
        refine AW.rt ?_
        rw [numB_real h31, numI_real h31]; simp_all
    · intro h31
      refine AW.rS ?_
      refine AW.rt ?_
      rw [numB_no h7 h31, numI_no h7 h31]
theorem depth_step (gl : List (Nat × AV)) (N : Nat) (hN : N ≤ 16777216) (ih : ∀ o' : Pob, o'.bulk < N → FnP Tryz.prog gl 62 [.agg o'.cells] fun r => r = .ret (.int .i64 o'.depth)) (o : Pob) (ho : o.bulk ≤ N) : FnP Tryz.prog (gl) 62 [.agg o.cells] fun r => r = .ret (.int .i64 o.depth) := by
  refine FnP.intro Tryz.func62 rfl rfl (by simp [Tryz.ntmps62]) ?_
  simp only [argEnv, Tryz.ntmps62, Tryz.results62]
  have hb := Pob.bulk_eq o
  have hdp := Pob.depth_le o
  have hde := Pob.depth_eq o
  refine AW.rS ?_
  refine AW.rS ?_
  refine AW.seq ?_
  refine AW.rS ?_
  refine AW.block ?_
  refine AW.lk (S := { i : Nat // i ≤ o.kids.length }) [7, 8] (fun s_ => [(3, .int .i64 (depths (o.kids.take s_.1))), (9, .int .i64 s_.1)]) (fun s_ => []) 0 (fun s_ => o.kids.length - s_.1) ⟨0, Nat.zero_le _⟩ ?_ ?_
  · refine St.le.vw []
  rintro ⟨i, hi⟩
  try dsimp only at hi
  refine AW.rS ?_
  refine AW.seq ?_
  refine AW.c2 ?_ ?_
  · intro h9
    refine AW.skip ?_
    refine AW.seq ?_
    refine AW.block ?_
    refine AW.rS ?_
    refine AW.rLC ?_
    refine awOps.cons (awGuard.c1 (ih (o.kids.getD i Pob.null) (Nat.lt_of_lt_of_le (Pob.bulk_kid (by omega)) ho)) ?_)
    refine awOps.rn ?_
    refine AW.rL ?_
    have hdt := depths_take h9
    refine ⟨⟨i + 1, by omega⟩, ?_, ?_⟩
    · refine St.le.vw []
    · simp only []; omega
  · intro h9
    have htk : List.take i o.kids = o.kids := List.take_of_length_le (by omega)
    rw [htk]
    refine AW.exit ?_
    refine AW.rS ?_
    refine AW.rt ?_
    all_goals first | contradiction | rfl | (simp; done) | (simp; omega)
end Go.Proofs

namespace Aw
open Go
mutual
def Pob.pre : Pob → List Pob
  | .mk k n g s ks l => .mk k n g s ks l :: pres l
def pres : List Pob → List Pob
  | [] => []
  | o :: l => o.pre ++ pres l
end
theorem pres_nil : pres [] = [] := by simp only [pres]
theorem Pob.pre_eq (o : Pob) : o.pre = o :: pres o.kids := by cases o; simp only [Pob.pre, Pob.kids]
theorem pres_append (a b : List Pob) : pres (a ++ b) = pres a ++ pres b := by
  induction a with
  | nil => simp [pres]
  | cons x a ih => simp only [List.cons_append, pres, ih, List.append_assoc]
theorem pres_take {l : List Pob} {i : Nat} (h : i < l.length) : pres (l.take (i + 1)) = pres (l.take i) ++ (l.getD i Pob.null).pre := by
  rw [List.take_succ_eq_append_getElem h, pres_append]
  simp [pres, List.getD, h]
mutual
theorem Pob.pre_le : ∀ o : Pob, o.pre.length ≤ o.bulk
  | .mk k n g s ks l => by simp only [Pob.pre, Pob.bulk, List.length_cons]; have := pres_le l; omega
theorem pres_le : ∀ l : List Pob, (pres l).length ≤ bulks l
  | [] => by simp [pres]
  | o :: l => by simp only [pres, bulks, List.length_append]; have := Pob.pre_le o; have := pres_le l; omega
end
attribute [irreducible] Pob.pre pres
end Aw

namespace Aw
open Go
/-- the key 'k' lies in the object with the value 'v' -/
def Pob.has (o : Pob) (k : List UInt8) (v : Pob) : Prop := ∃ i, i < o.keys.length ∧ o.keys.getD i [] = k ∧ o.kids.getD i Pob.null = v
/-- keys that increase, each with its value -/
def Pob.kvOk (o : Pob) : Prop := incr o.keys ∧ o.keys.length = o.kids.length
theorem incr_inj {ks : List (List UInt8)} (hs : incr ks) {i j : Nat} (hi : i < ks.length) (hj : j < ks.length) (h : ks.getD i [] = ks.getD j []) : i = j := by
  rcases Nat.lt_trichotomy i j with g | g | g
  · have := hs i j g hj; rw [h, bl_irrefl] at this; cases this
  · exact g
  · have := hs j i g hi; rw [h, bl_irrefl] at this; cases this
theorem kthere_at {ks : List (List UInt8)} {key : List UInt8} (h : kthere ks key = true) : ks.getD (kplace ks key) [] = key := by
  simp only [kthere, Bool.and_eq_true, decide_eq_true_eq] at h; exact h.2
theorem kthere_iff {ks : List (List UInt8)} {key : List UInt8} (hs : incr ks) : kthere ks key = true ↔ ∃ i, i < ks.length ∧ ks.getD i [] = key := by
  constructor
  · intro h; exact ⟨_, kthere_lt h, kthere_at h⟩
  · rintro ⟨i, hi, rfl⟩
    have e : kplace ks (ks.getD i []) = i := kplace_eq (Nat.le_of_lt hi) (fun a ha => hs a i ha hi) (fun _ => bl_irrefl _)
    rw [kthere_eq e]
    simp [hi]
theorem kvOk_of_chk {o : Pob} {d : Int} (h : chk o d = 0) (hk : keyedB o.kind = true) : o.kvOk := ⟨rising_incr (chk_rising h hk), (chk_rising h hk).1⟩
theorem getD_delAt' {α : Type} {l : List α} {i j : Nat} {d : α} : (delAt l i).getD j d = if j < i then l.getD j d else l.getD (j + 1) d := by
  simp only [delAt, List.getD, List.getElem?_append, List.getElem?_take, List.length_take, List.getElem?_drop]
  grind
theorem getD_set' {α : Type} {l : List α} {i j : Nat} {x d : α} (hi : i < l.length) : (l.set i x).getD j d = if j = i then x else l.getD j d := by
  simp only [List.getD, List.getElem?_set]
  grind
theorem has_one {o : Pob} (hs : o.kvOk) {k : List UInt8} {v w : Pob} (hv : o.has k v) (hw : o.has k w) : v = w := by
  obtain ⟨i, hi, e1, rfl⟩ := hv
  obtain ⟨j, hj, e2, rfl⟩ := hw
  rw [incr_inj hs.1 hi hj (e1.trans e2.symm)]
theorem has_withK {o : Pob} (hs : o.kvOk) {key : List UInt8} {v : Pob} {k : List UInt8} {w : Pob} : (o.withK key v).has k w ↔ (k = key ∧ w = v) ∨ (k ≠ key ∧ o.has k w) := by
  have hle := kplace_le o.keys key
  cases h : kthere o.keys key with
  | true =>
    have hl := kthere_lt h
    have hat := kthere_at h
    have hl' : kplace o.keys key < o.kids.length := by have := hs.2; omega
    rw [withK_there h]
    simp only [Pob.has, Pob.keys_mk, Pob.kids_mk]
    constructor
    · rintro ⟨i, hi, rfl, rfl⟩
      rw [getD_set' hl']
      by_cases e : i = kplace o.keys key
      · left; rw [if_pos e, e]; exact ⟨hat, rfl⟩
      · right
        refine ⟨fun e2 => e (incr_inj hs.1 hi hl (e2.trans hat.symm)), i, hi, rfl, ?_⟩
        rw [if_neg e]
    · rintro (⟨rfl, rfl⟩ | ⟨hne, i, hi, rfl, rfl⟩)
      · exact ⟨_, hl, hat, by rw [getD_set' hl', if_pos rfl]⟩
      · refine ⟨i, hi, rfl, ?_⟩
        rw [getD_set' hl', if_neg]
        rintro rfl
        exact hne hat
  | false =>
    rw [withK_new h]
    have hle' : kplace o.keys key ≤ o.kids.length := by have := hs.2; omega
    have hno : ∀ i, i < o.keys.length → o.keys.getD i [] ≠ key := by
      intro i hi e
      have := (kthere_iff hs.1).2 ⟨i, hi, e⟩
      rw [h] at this; cases this
    simp only [Pob.has, Pob.keys_mk, Pob.kids_mk, insAt_length]
    constructor
    · rintro ⟨i, hi, rfl, rfl⟩
      rw [getD_insAt hle, getD_insAt hle']
      by_cases e1 : i < kplace o.keys key
      · rw [if_pos e1, if_pos e1]
        exact .inr ⟨hno i (by omega), i, by omega, rfl, rfl⟩
      · rw [if_neg e1, if_neg e1]
        by_cases e2 : i = kplace o.keys key
        · rw [if_pos e2, if_pos e2]; exact .inl ⟨rfl, rfl⟩
        · rw [if_neg e2, if_neg e2]
          exact .inr ⟨hno (i - 1) (by omega), i - 1, by omega, rfl, rfl⟩
    · rintro (⟨rfl, rfl⟩ | ⟨hne, i, hi, rfl, rfl⟩)
      · refine ⟨kplace o.keys k, by omega, ?_, ?_⟩
        · rw [getD_insAt hle, if_neg (by omega), if_pos rfl]
        · rw [getD_insAt hle', if_neg (by omega), if_pos rfl]
      · by_cases e : i < kplace o.keys key
        · refine ⟨i, by omega, ?_, ?_⟩
          · rw [getD_insAt hle, if_pos e]
          · rw [getD_insAt hle', if_pos e]
        · refine ⟨i + 1, by omega, ?_, ?_⟩
          · rw [getD_insAt hle, if_neg (by omega), if_neg (by omega), Nat.add_sub_cancel]
          · rw [getD_insAt hle', if_neg (by omega), if_neg (by omega), Nat.add_sub_cancel]
theorem withK_kvOk {o : Pob} (hs : o.kvOk) (key : List UInt8) (v : Pob) : (o.withK key v).kvOk := withK_incr hs.1 hs.2
theorem has_lessK {o : Pob} (hs : o.kvOk) {key : List UInt8} (h : kthere o.keys key = true) {k : List UInt8} {w : Pob} : (o.lessK (kplace o.keys key)).has k w ↔ k ≠ key ∧ o.has k w := by
  have hl := kthere_lt h
  have hat := kthere_at h
  simp only [Pob.has, Pob.lessK, Pob.keys_mk, Pob.kids_mk, delAt_length hl]
  constructor
  · rintro ⟨i, hi, rfl, rfl⟩
    rw [getD_delAt', getD_delAt']
    by_cases e : i < kplace o.keys key
    · rw [if_pos e, if_pos e]
      refine ⟨fun e2 => ?_, i, by omega, rfl, rfl⟩
      have := incr_inj hs.1 (by omega) hl (e2.trans hat.symm)
      omega
    · rw [if_neg e, if_neg e]
      refine ⟨fun e2 => ?_, i + 1, by omega, rfl, rfl⟩
      have := incr_inj hs.1 (by omega) hl (e2.trans hat.symm)
      omega
  · rintro ⟨hne, i, hi, rfl, rfl⟩
    have hne' : i ≠ kplace o.keys key := by rintro rfl; exact hne hat
    by_cases e : i < kplace o.keys key
    · refine ⟨i, by omega, ?_, ?_⟩
      · rw [getD_delAt', if_pos e]
      · rw [getD_delAt', if_pos e]
    · refine ⟨i - 1, by omega, ?_, ?_⟩
      · rw [getD_delAt', if_neg (by omega), show i - 1 + 1 = i from by omega]
      · rw [getD_delAt', if_neg (by omega), show i - 1 + 1 = i from by omega]
theorem lessK_kvOk {o : Pob} (hs : o.kvOk) {i : Nat} (h : i < o.keys.length) : (o.lessK i).kvOk := by
  constructor
  · intro a b hab hb
    simp only [Pob.lessK, Pob.keys_mk] at hb ⊢
    rw [delAt_length h] at hb
    rw [getD_delAt', getD_delAt']
    split <;> split
    · exact hs.1 a b hab (by omega)
    · exact hs.1 a (b + 1) (by omega) (by omega)
    · omega
    · exact hs.1 (a + 1) (b + 1) (by omega) (by omega)
  · simp only [Pob.lessK, Pob.keys_mk, Pob.kids_mk]
    rw [delAt_length h, delAt_length (by have := hs.2; omega), hs.2]
/-- lists of keys that increase and have the same members are the same -/
theorem incr_keys_ext : ∀ {a b : List (List UInt8)}, incr a → incr b → (∀ k, (∃ i, i < a.length ∧ a.getD i [] = k) ↔ ∃ i, i < b.length ∧ b.getD i [] = k) → a = b
  | [], [], _, _, _ => rfl
  | [], y :: b, _, _, h => by
    obtain ⟨i, hi, _⟩ := (h y).2 ⟨0, by simp, rfl⟩
    simp at hi
  | x :: a, [], _, _, h => by
    obtain ⟨i, hi, _⟩ := (h x).1 ⟨0, by simp, rfl⟩
    simp at hi
  | x :: a, y :: b, ha, hb, h => by
    have hxy : x = y := by
      obtain ⟨i, hi, e1⟩ := (h x).1 ⟨0, by simp, rfl⟩
      obtain ⟨j, hj, e2⟩ := (h y).2 ⟨0, by simp, rfl⟩
      rcases Nat.eq_zero_or_pos i with rfl | g1
      · simpa using e1.symm
      · rcases Nat.eq_zero_or_pos j with rfl | g2
        · simpa using e2
        · have l1 := hb 0 i g1 hi
          have l2 := ha 0 j g2 hj
          rw [e1] at l1
          rw [e2] at l2
          simp only [List.getD_cons_zero] at l1 l2
          rw [bl_asymm l1] at l2
          cases l2
    subst hxy
    have tl : ∀ {l : List (List UInt8)}, incr (x :: l) → incr l := fun hl a b hab hb => by
      have := hl (a + 1) (b + 1) (by omega) (by simpa using hb)
      simpa using this
    congr 1
    refine incr_keys_ext (tl ha) (tl hb) fun k => ?_
    have half : ∀ {l m : List (List UInt8)}, incr (x :: l) → incr (x :: m) → ((∃ i, i < (x :: l).length ∧ (x :: l).getD i [] = k) → ∃ i, i < (x :: m).length ∧ (x :: m).getD i [] = k) → (∃ i, i < l.length ∧ l.getD i [] = k) → ∃ i, i < m.length ∧ m.getD i [] = k := by
      rintro l m hl hm hh ⟨i, hi, e⟩
      obtain ⟨j, hj, e2⟩ := hh ⟨i + 1, by simpa using hi, by simpa using e⟩
      cases j with
      | zero =>
        have := hl 0 (i + 1) (by omega) (by simpa using hi)
        simp only [List.getD_cons_zero, List.getD_cons_succ] at this e2
        rw [e, ← e2, bl_irrefl] at this
        cases this
      | succ j => exact ⟨j, by simpa using hj, by simpa using e2⟩
    exact ⟨half ha hb (h k).1, half hb ha (h k).2⟩
theorem has_key {o : Pob} {k : List UInt8} : (∃ v, o.has k v) ↔ ∃ i, i < o.keys.length ∧ o.keys.getD i [] = k :=
  ⟨fun ⟨_, i, hi, e, _⟩ => ⟨i, hi, e⟩, fun ⟨i, hi, e⟩ => ⟨_, i, hi, e, rfl⟩⟩
/-- objects with the same pairs are the same -/
theorem kv_ext {a b : Pob} (ha : a.kvOk) (hb : b.kvOk) (h1 : a.kind = b.kind) (h2 : a.num = b.num) (h3 : a.gen = b.gen) (h4 : a.str = b.str) (h : ∀ k v, a.has k v ↔ b.has k v) : a = b := by
  have hk : a.keys = b.keys := incr_keys_ext ha.1 hb.1 fun k => by
    rw [← has_key, ← has_key]
    exact ⟨fun ⟨v, hv⟩ => ⟨v, (h k v).1 hv⟩, fun ⟨v, hv⟩ => ⟨v, (h k v).2 hv⟩⟩
  have hl : a.kids.length = b.kids.length := by rw [← ha.2, ← hb.2, hk]
  refine (Pob_eq a b).2 ⟨h1, h2, h3, h4, hk, ?_⟩
  apply List.ext_getElem hl
  intro i hi hi'
  obtain ⟨j, hj, e1, e2⟩ := (h (a.keys.getD i []) (a.kids.getD i Pob.null)).1 ⟨i, by have := ha.2; omega, rfl, rfl⟩
  rw [hk] at e1
  have := incr_inj hb.1 hj (by have := hb.2; omega) e1
  subst this
  simp only [List.getD, List.getElem?_eq_getElem hi', List.getElem?_eq_getElem hi, Option.getD_some] at e2
  exact e2.symm
theorem kidxI_cases (ks : List (List UInt8)) (k : List UInt8) : (∃ i : Nat, i < ks.length ∧ kidxI ks k = i ∧ ks.getD i [] = k) ∨ (kidxI ks k = -1 ∧ ∀ j, j < ks.length → ks.getD j [] ≠ k) := by
  by_cases h : kidx ks k < ks.length
  · left
    refine ⟨kidx ks k, h, by simp [kidxI, h], ?_⟩
    have h2 : decide (ks[kidx ks k] = k) = true := List.findIdx_getElem (p := fun x => decide (x = k)) (w := h)
    simpa [List.getD, h] using h2
  · right
    refine ⟨by simp [kidxI, h], fun j hj e => h ?_⟩
    unfold kidx
    rw [List.findIdx_lt_length]
    refine ⟨ks[j], List.getElem_mem hj, ?_⟩
    simpa [List.getD, hj] using e
theorem get_has {o : Pob} (hs : o.kvOk) (hk : keyedB o.kind = true) {k : List UInt8} {v : Pob} : (getB o k = true ∧ getO o k = v) ↔ o.has k v := by
  rcases kidxI_cases o.keys k with ⟨i, hi, e, e2⟩ | ⟨e, h⟩
  · have hg := get_hit (o := o) (key := k) hk (by rw [e]; have := hs.2; omega)
    rw [hg.1, hg.2, e]
    simp only [true_and, Int.toNat_natCast]
    constructor
    · intro h; exact ⟨i, hi, e2, h⟩
    · rintro ⟨j, hj, e3, rfl⟩
      rw [incr_inj hs.1 hi hj (e2.trans e3.symm)]
  · have hg := get_miss (o := o) (key := k) (.inl (by omega))
    rw [hg.1]
    simp only [Bool.false_eq_true, false_and, false_iff]
    rintro ⟨j, hj, e3, _⟩
    exact h j hj e3
theorem get_no {o : Pob} (hs : o.kvOk) (hk : keyedB o.kind = true) {k : List UInt8} (h : ∀ v, ¬ o.has k v) : getB o k = false ∧ getO o k = Pob.null := by
  cases hb : getB o k with
  | true => exact absurd ((get_has hs hk).1 ⟨hb, rfl⟩) (h _)
  | false => exact ⟨rfl, by simp [getO, hb]⟩
theorem get_congr {a b : Pob} (ha : a.kvOk) (hb : b.kvOk) (ka : keyedB a.kind = true) (kb : keyedB b.kind = true) {k : List UInt8} (h : ∀ v, a.has k v ↔ b.has k v) : getB a k = getB b k ∧ getO a k = getO b k := by
  cases hg : getB b k with
  | true =>
    have := (get_has ha ka).2 ((h _).2 ((get_has hb kb).1 ⟨hg, rfl⟩))
    exact this
  | false =>
    have hn : getO b k = Pob.null := by simp [getO, hg]
    rw [hn]
    refine get_no ha ka fun v hv => ?_
    have := (get_has hb kb).2 ((h v).1 hv)
    rw [hg] at this
    cases this.1
theorem withK_frame (o : Pob) (key : List UInt8) (v : Pob) : (o.withK key v).kind = o.kind ∧ (o.withK key v).num = o.num ∧ (o.withK key v).gen = o.gen ∧ (o.withK key v).str = o.str := by
  unfold Pob.withK
  split <;> exact ⟨rfl, rfl, rfl, rfl⟩
theorem dropO_frame (o : Pob) (key : List UInt8) : (dropO o key).kind = o.kind ∧ (dropO o key).num = o.num ∧ (dropO o key).gen = o.gen ∧ (dropO o key).str = o.str := by
  unfold dropO
  split <;> exact ⟨rfl, rfl, rfl, rfl⟩
theorem dropO_has {o : Pob} {key : List UInt8} (h : chk o 1 = 0) (hk : keyedB o.kind = true) : (dropO o key).kvOk ∧ ∀ k v, (dropO o key).has k v ↔ k ≠ key ∧ o.has k v := by
  have hs := kvOk_of_chk h hk
  cases ht : kthere o.keys key with
  | true =>
    rw [dropO_yes (by simp [dropB, h, hk, ht])]
    exact ⟨lessK_kvOk hs (kthere_lt ht), fun k v => has_lessK hs ht⟩
  | false =>
    rw [dropO_no (by simp [dropB, ht])]
    refine ⟨hs, fun k v => ⟨fun hv => ⟨?_, hv⟩, fun hv => hv.2⟩⟩
    rintro rfl
    obtain ⟨i, hi, e, _⟩ := hv
    have := (kthere_iff hs.1).2 ⟨i, hi, e⟩
    rw [ht] at this; cases this
theorem chkL_iff {l : List Pob} {d : Int} : chkL l d = 0 ↔ ∀ x ∈ l, chk x d = 0 := by
  induction l with
  | nil => simp [chkL]
  | cons o l ih =>
    simp only [chkL, List.mem_cons]
    constructor
    · intro h
      split at h
      · rename_i h1
        rintro x (rfl | hx)
        · exact h1
        · exact ih.1 h x hx
      · rename_i h1; exact absurd h h1
    · intro h
      rw [if_pos (h o (.inl rfl))]
      exact ih.2 fun x hx => h x (.inr hx)
theorem chk_iff {o : Pob} {d : Int} : chk o d = 0 ↔ ownE o d = 0 ∧ ∀ x ∈ o.kids, chk x (d + 1) = 0 := by
  rw [chk_eq]
  constructor
  · intro h
    split at h
    · rename_i h1; exact ⟨h1, chkL_iff.1 h⟩
    · rename_i h1; exact absurd h h1
  · rintro ⟨h1, h2⟩
    rw [if_pos h1, chkL_iff.2 h2]
theorem ownE_iff {o : Pob} {d : Int} : ownE o d = 0 ↔ d ≤ 24 ∧ useB o d = true ∧ fitsB o = true ∧ shortB o = true ∧ (o.kids.length : Int) ≤ 8191 ∧ formB o = true := by
  refine ⟨ownE_spec, fun ⟨h1, h2, h3, h4, h5, h6⟩ => ?_⟩
  unfold ownE
  simp [h1, h2, h3, h4, h5, h6]
end Aw

namespace Aw
open Go
theorem rising_iff {o : Pob} : risingP o ↔ o.kvOk ∧ ∀ k v, o.has k v → nameB k = true ∧ ¬ (o.kind = 9 ∧ k = lengthK) ∧ v.kind ≠ 0 := by
  constructor
  · intro h
    refine ⟨⟨rising_incr h, h.1⟩, ?_⟩
    rintro k v ⟨i, hi, rfl, rfl⟩
    have := h.2 i hi
    exact ⟨this.1, this.2.2.1, this.2.2.2⟩
  · rintro ⟨h1, h2⟩
    refine ⟨h1.2, fun i hi => ?_⟩
    have := h2 _ _ ⟨i, hi, rfl, rfl⟩
    exact ⟨this.1, fun h0 => h1.1 (i - 1) i (by omega) hi, this.2.1, this.2.2⟩
theorem has_kid {o : Pob} (hs : o.kvOk) {x : Pob} : x ∈ o.kids ↔ ∃ k, o.has k x := by
  constructor
  · intro h
    obtain ⟨i, hi, rfl⟩ := List.getElem_of_mem h
    exact ⟨o.keys.getD i [], i, by have := hs.2; omega, rfl, by simp [List.getD, hi]⟩
  · rintro ⟨k, i, hi, _, rfl⟩
    have hi' : i < o.kids.length := by have := hs.2; omega
    simp only [List.getD, List.getElem?_eq_getElem hi', Option.getD_some]
    exact List.getElem_mem hi'
theorem keyed_cases {k : Int} (h : keyedB k = true) : k = 7 ∨ k = 9 := by simpa [keyedB] using h
theorem useB_keyed {o : Pob} (hk : keyedB o.kind = true) {d : Int} : useB o d = true ↔ o.num = 0 ∧ o.gen = 0 ∧ (o.kind = 9 ∨ o.str = []) ∧ (d = 1 ∨ o.kind = 7) := by
  rcases keyed_cases hk with h | h <;> simp [useB, uOk, uN, uG, uS, uKeys, uKids, h] <;> grind
theorem formB_keyed {o : Pob} (hk : keyedB o.kind = true) : formB o = true ↔ risingP o := by
  rcases keyed_cases hk with h | h <;> simp [formB, uKeys, h, risingB]
theorem fitsB_keyed {o : Pob} (hk : keyedB o.kind = true) : fitsB o = true := by
  rcases keyed_cases hk with h | h <;> simp [fitsB, h]
theorem shortB_keyed {o : Pob} (hk : keyedB o.kind = true) : shortB o = true ↔ (o.str.length : Int) ≤ 1048576 := by
  rcases keyed_cases hk with h | h <;> simp [shortB, h]
theorem chk_keyed {o : Pob} (hk : keyedB o.kind = true) {d : Int} : chk o d = 0 ↔ (d ≤ 24 ∧ o.num = 0 ∧ o.gen = 0 ∧ (o.kind = 9 ∨ o.str = []) ∧ (d = 1 ∨ o.kind = 7) ∧ (o.str.length : Int) ≤ 1048576 ∧ (o.kids.length : Int) ≤ 8191) ∧ o.kvOk ∧
    ∀ k v, o.has k v → nameB k = true ∧ ¬ (o.kind = 9 ∧ k = lengthK) ∧ v.kind ≠ 0 ∧ chk v (d + 1) = 0 := by
  rw [chk_iff, ownE_iff, useB_keyed hk, formB_keyed hk, shortB_keyed hk, rising_iff]
  constructor
  · rintro ⟨⟨h1, ⟨h2, h3, h4, h5⟩, _, h6, h7, hs, h8⟩, h9⟩
    refine ⟨⟨h1, h2, h3, h4, h5, h6, h7⟩, hs, fun k v hv => ?_⟩
    obtain ⟨g1, g2, g3⟩ := h8 k v hv
    exact ⟨g1, g2, g3, h9 v ((has_kid hs).2 ⟨k, hv⟩)⟩
  · rintro ⟨⟨h1, h2, h3, h4, h5, h6, h7⟩, hs, h8⟩
    refine ⟨⟨h1, ⟨h2, h3, h4, h5⟩, fitsB_keyed hk, h6, h7, hs, fun k v hv => ?_⟩, fun v hv => ?_⟩
    · obtain ⟨g1, g2, g3, _⟩ := h8 k v hv
      exact ⟨g1, g2, g3⟩
    · obtain ⟨k, hk'⟩ := (has_kid hs).1 hv
      exact (h8 k v hk').2.2.2
theorem dropO_len (o : Pob) (key : List UInt8) : (dropO o key).kids.length ≤ o.kids.length := by
  unfold dropO
  split
  · simp only [Pob.lessK, Pob.kids_mk, delAt, List.length_append, List.length_take, List.length_drop]; omega
  · exact Nat.le_refl _
theorem dropO_chk {o : Pob} {key : List UInt8} (h : chk o 1 = 0) (hk : keyedB o.kind = true) : chk (dropO o key) 1 = 0 := by
  obtain ⟨f1, f2, f3, f4⟩ := dropO_frame o key
  obtain ⟨hs, hh⟩ := dropO_has (key := key) h hk
  have hk' : keyedB (dropO o key).kind = true := by rw [f1]; exact hk
  have hl := dropO_len o key
  obtain ⟨⟨h1, h2, h3, h4, h5, h6, h7⟩, _, h8⟩ := (chk_keyed hk).1 h
  rw [chk_keyed hk', f1, f2, f3, f4]
  refine ⟨⟨h1, h2, h3, h4, h5, h6, by omega⟩, hs, fun k v hv => ?_⟩
  exact h8 k v ((hh k v).1 hv).2
/-- what a successful Set gives -/
theorem set_parts {o v : Pob} {key : List UInt8} (h : setE o key v = 0) : keyedB o.kind = true ∧ chk o 1 = 0 ∧ (setO o key v).kvOk ∧ chk (setO o key v) 1 = 0 ∧ (setO o key v).kind = o.kind ∧ (setO o key v).num = o.num ∧ (setO o key v).gen = o.gen ∧ (setO o key v).str = o.str ∧
    ∀ k w, (setO o key v).has k w ↔ (k = key ∧ w = v ∧ v.kind ≠ 0) ∨ (k ≠ key ∧ o.has k w) := by
  cases hk : keyedB o.kind with
  | false => have := (set_unkeyed (v := v) (key := key) hk).1; omega
  | true =>
    by_cases hc : chk o 1 = 0
    · by_cases hv : v.kind = 0
      · obtain ⟨_, e⟩ := set_null (key := key) hk hc hv
        obtain ⟨hs, hh⟩ := dropO_has (key := key) hc hk
        obtain ⟨f1, f2, f3, f4⟩ := dropO_frame o key
        rw [e]
        refine ⟨rfl, hc, hs, dropO_chk hc hk, f1, f2, f3, f4, fun k w => ?_⟩
        rw [hh]
        constructor
        · exact .inr
        · rintro (⟨_, _, h3⟩ | h3)
          · exact absurd hv h3
          · exact h3
      · obtain ⟨e1, e2⟩ := set_val (key := key) hk hc hv
        rw [h] at e1
        rw [if_pos e1.symm] at e2
        have hs := kvOk_of_chk hc hk
        obtain ⟨f1, f2, f3, f4⟩ := withK_frame o key v
        rw [e2]
        refine ⟨rfl, hc, withK_kvOk hs key v, e1.symm, f1, f2, f3, f4, fun k w => ?_⟩
        rw [has_withK hs]
        constructor
        · rintro (⟨h1, h2⟩ | h1)
          · exact .inl ⟨h1, h2, hv⟩
          · exact .inr h1
        · rintro (⟨h1, h2, _⟩ | h1)
          · exact .inl ⟨h1, h2⟩
          · exact .inr h1
    · have := (set_bad (v := v) (key := key) hk hc).1; omega
theorem set_err {o v : Pob} {key : List UInt8} (h : setE o key v ≠ 0) : setO o key v = Pob.null := by unfold setO; rw [if_pos h]
theorem set_get {o v : Pob} {key : List UInt8} (h : setE o key v = 0) : getB (setO o key v) key = decide (v.kind ≠ 0) ∧ (v.kind ≠ 0 → getO (setO o key v) key = v) ∧ ∀ other, other ≠ key → getB (setO o key v) other = getB o other ∧ getO (setO o key v) other = getO o other := by
  obtain ⟨hk, hc, hs, _, f1, _, _, _, hh⟩ := set_parts h
  have hk' : keyedB (setO o key v).kind = true := by rw [f1]; exact hk
  refine ⟨?_, ?_, fun other ho => ?_⟩
  · by_cases hv : v.kind = 0
    · rw [(get_no hs hk' fun w hw => ?_).1]
      · simp [hv]
      · rcases (hh _ _).1 hw with ⟨_, _, h3⟩ | ⟨h3, _⟩
        · exact h3 hv
        · exact h3 rfl
    · rw [((get_has hs hk').2 ((hh _ _).2 (.inl ⟨rfl, rfl, hv⟩))).1]
      simp [hv]
  · intro hv
    exact ((get_has hs hk').2 ((hh _ _).2 (.inl ⟨rfl, rfl, hv⟩))).2
  · refine get_congr hs (kvOk_of_chk hc hk) hk' hk fun w => ?_
    rw [hh]
    constructor
    · rintro (⟨h1, _⟩ | ⟨_, h1⟩)
      · exact absurd h1 ho
      · exact h1
    · exact fun h1 => .inr ⟨ho, h1⟩
/-- a value set, dropped, set again; set twice -/
theorem set_drop {o v : Pob} {key : List UInt8} (h : setE o key v = 0) : getB (dropO (setO o key v) key) key = false ∧ setE (dropO (setO o key v) key) key v = 0 ∧ setO (dropO (setO o key v) key) key v = setO o key v := by
  obtain ⟨hk, hc, hs, hcx, f1, f2, f3, f4, hh⟩ := set_parts h
  have hk' : keyedB (setO o key v).kind = true := by rw [f1]; exact hk
  obtain ⟨g1, g2, g3, g4⟩ := dropO_frame (setO o key v) key
  obtain ⟨ds, dh⟩ := dropO_has (key := key) hcx hk'
  have hkd : keyedB (dropO (setO o key v) key).kind = true := by rw [g1]; exact hk'
  have hcd := dropO_chk (key := key) hcx hk'
  refine ⟨(get_no ds hkd fun w hw => ((dh _ _).1 hw).1 rfl).1, ?_⟩
  by_cases hv : v.kind = 0
  · obtain ⟨e1, e2⟩ := set_null (key := key) hkd hcd hv
    refine ⟨e1, ?_⟩
    rw [e2]
    obtain ⟨k1, k2, k3, k4⟩ := dropO_frame (dropO (setO o key v) key) key
    obtain ⟨ds', dh'⟩ := dropO_has (key := key) hcd hkd
    refine kv_ext ds' hs (by rw [k1, g1]) (by rw [k2, g2]) (by rw [k3, g3]) (by rw [k4, g4]) fun k w => ?_
    rw [dh', dh]
    constructor
    · exact fun h1 => h1.2.2
    · intro h1
      have : k ≠ key := by
        rintro rfl
        rcases (hh _ _).1 h1 with ⟨_, _, h3⟩ | ⟨h3, _⟩
        · exact h3 hv
        · exact h3 rfl
      exact ⟨this, this, h1⟩
  · have e : (dropO (setO o key v) key).withK key v = setO o key v := by
      obtain ⟨k1, k2, k3, k4⟩ := withK_frame (dropO (setO o key v) key) key v
      refine kv_ext (withK_kvOk ds _ _) hs (by rw [k1, g1]) (by rw [k2, g2]) (by rw [k3, g3]) (by rw [k4, g4]) fun k w => ?_
      rw [has_withK ds, dh, hh]
      constructor
      · rintro (⟨rfl, rfl⟩ | ⟨h1, h2, h3⟩)
        · exact .inl ⟨rfl, rfl, hv⟩
        · exact h3
      · rintro (⟨rfl, rfl, _⟩ | ⟨h1, h2⟩)
        · exact .inl ⟨rfl, rfl⟩
        · exact .inr ⟨h1, h1, .inr ⟨h1, h2⟩⟩
    obtain ⟨e1, e2⟩ := set_val (key := key) hkd hcd hv
    rw [e] at e1 e2
    rw [hcx] at e1
    rw [if_pos hcx] at e2
    exact ⟨e1, e2⟩
theorem set_twice {o v : Pob} {key : List UInt8} (h : setE o key v = 0) (w : Pob) : setE (setO o key v) key w = setE o key w ∧ setO (setO o key v) key w = setO o key w := by
  obtain ⟨hk, hc, hs, hcx, f1, f2, f3, f4, hh⟩ := set_parts h
  have hk' : keyedB (setO o key v).kind = true := by rw [f1]; exact hk
  have hso := kvOk_of_chk hc hk
  by_cases hw : w.kind = 0
  · obtain ⟨e1, e2⟩ := set_null (key := key) hk' hcx hw
    obtain ⟨e3, e4⟩ := set_null (key := key) hk hc hw
    refine ⟨by rw [e1, e3], ?_⟩
    rw [e2, e4]
    obtain ⟨k1, k2, k3, k4⟩ := dropO_frame (setO o key v) key
    obtain ⟨l1, l2, l3, l4⟩ := dropO_frame o key
    obtain ⟨ds, dh⟩ := dropO_has (key := key) hcx hk'
    obtain ⟨ds', dh'⟩ := dropO_has (key := key) hc hk
    refine kv_ext ds ds' (by rw [k1, l1, f1]) (by rw [k2, l2, f2]) (by rw [k3, l3, f3]) (by rw [k4, l4, f4]) fun k x => ?_
    rw [dh, dh', hh]
    constructor
    · rintro ⟨h1, ⟨h2, _⟩ | h2⟩
      · exact absurd h2 h1
      · exact h2
    · rintro ⟨h1, h2⟩
      exact ⟨h1, .inr ⟨h1, h2⟩⟩
  · have e : (setO o key v).withK key w = o.withK key w := by
      obtain ⟨k1, k2, k3, k4⟩ := withK_frame (setO o key v) key w
      obtain ⟨l1, l2, l3, l4⟩ := withK_frame o key w
      refine kv_ext (withK_kvOk hs _ _) (withK_kvOk hso _ _) (by rw [k1, l1, f1]) (by rw [k2, l2, f2]) (by rw [k3, l3, f3]) (by rw [k4, l4, f4]) fun k x => ?_
      rw [has_withK hs, has_withK hso, hh]
      constructor
      · rintro (h1 | ⟨h1, ⟨h2, _⟩ | h2⟩)
        · exact .inl h1
        · exact absurd h2 h1
        · exact .inr h2
      · rintro (h1 | ⟨h1, h2⟩)
        · exact .inl h1
        · exact .inr ⟨h1, .inr ⟨h1, h2⟩⟩
    obtain ⟨e1, e2⟩ := set_val (key := key) hk' hcx hw
    obtain ⟨e3, e4⟩ := set_val (key := key) hk hc hw
    rw [e1, e2, e3, e4, e]
    exact ⟨rfl, rfl⟩
end Aw
