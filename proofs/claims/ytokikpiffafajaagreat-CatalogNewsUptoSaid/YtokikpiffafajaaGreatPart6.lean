/- A part of the proof of a law of the seat: no condition of its own. -/
import Derived.Test.YtokikpiffafajaaGreatPart5
namespace Go.Proofs
open Go Aw
set_option linter.unusedSimpArgs false
set_option linter.unusedVariables false
set_option maxRecDepth 100000
set_option maxHeartbeats 4000000

theorem c_value_Check_1 (gl : List (Nat × AV)) (o : Pob) (h : o.bulk ≤ 16777216 := by first | omega | exact u8_le _ | assumption | (simp; done) | (simp; omega)) : FnP Tryz.prog (gl) 80 [.tptr o.cells] fun r => r = if decide (chk o 1 = 0) = true then .ret (.tup []) else .panic (badAV (chk o 1)) := by
  refine FnP.intro Tryz.func80 rfl rfl (by simp [Tryz.ntmps80]) ?_
  simp only [argEnv, Tryz.ntmps80, Tryz.results80]
  refine AW.rLC ?_
  refine awOps.cons (awGuard.cM (c_value_check _ o 1 (by omega)) ?_ ?_)
  · intro hp2
    refine wk ?_
    rw [decide_eq_false hp2]; simp
  intro hm2
  refine awOps.rn ?_
  refine wk ?_
  rw [decide_eq_true hm2]; simp
theorem c_value_Check (gl : List (Nat × AV)) (o : Pob) (h : o.bulk ≤ 16777216 := by first | omega | exact u8_le _ | assumption | (simp; done) | (simp; omega)) : FnP Tryz.prog (gl) 46 [.agg o.cells] fun r => r = .ret (.int .i64 (chk o 1)) := by
  refine FnP.intro Tryz.func46 rfl rfl (by simp [Tryz.ntmps46]) ?_
  simp only [argEnv, Tryz.ntmps46, Tryz.results46]
  refine AW.rS ?_
  refine AW.rSC ?_
  refine awOps.cons (awGuard.c1 (c_value_caught _ 80 o.cells (chk o 1) (c_value_Check_1 _ o)) ?_)
  refine awOps.rn ?_
  refine AW.rt ?_
  all_goals first | contradiction | rfl | (simp; done) | (simp; omega)
end Go.Proofs

namespace Go.Proofs
open Go Aw
set_option linter.unusedSimpArgs false
set_option linter.unusedVariables false
set_option maxRecDepth 100000
set_option maxHeartbeats 4000000

theorem c_value_Null (gl : List (Nat × AV))  : FnP Tryz.prog (gl) 52 [] fun r => r = .ret (.agg Pob.null.cells) := by
  refine FnP.intro Tryz.func52 rfl rfl (by simp [Tryz.ntmps52]) ?_
  simp only [argEnv, Tryz.ntmps52, Tryz.results52]
  refine AW.rS ?_
  refine AW.rS ?_
  refine AW.rt ?_
  all_goals first | contradiction | rfl | (simp; done) | (simp; omega)
theorem c_value_Int (gl : List (Nat × AV)) (n : Int) : FnP Tryz.prog (gl) 29 [.int .i64 n] fun r => r = .ret (.agg (intO n).cells) := by
  refine FnP.intro Tryz.func29 rfl rfl (by simp [Tryz.ntmps29]) ?_
  simp only [argEnv, Tryz.ntmps29, Tryz.results29]
  refine AW.rS ?_
  refine AW.rS ?_
  refine AW.rt ?_
  all_goals first | contradiction | rfl | (simp; done) | (simp; omega)
theorem c_value_String (gl : List (Nat × AV)) (s : List UInt8) : FnP Tryz.prog (gl) 53 [.str s] fun r => r = .ret (.agg (strO s).cells) := by
  refine FnP.intro Tryz.func53 rfl rfl (by simp [Tryz.ntmps53]) ?_
  simp only [argEnv, Tryz.ntmps53, Tryz.results53]
  refine AW.rS ?_
  refine AW.rS ?_
  refine AW.rt ?_
  all_goals first | contradiction | rfl | (simp; done) | (simp; omega)
theorem c_value_Name (gl : List (Nat × AV)) (s : List UInt8) : FnP Tryz.prog (gl) 31 [.str s] fun r => r = .ret (.agg (nameO s).cells) := by
  refine FnP.intro Tryz.func31 rfl rfl (by simp [Tryz.ntmps31]) ?_
  simp only [argEnv, Tryz.ntmps31, Tryz.results31]
  refine AW.rS ?_
  refine AW.rS ?_
  refine AW.rt ?_
  all_goals first | contradiction | rfl | (simp; done) | (simp; omega)
theorem c_value_Ref (gl : List (Nat × AV)) (n g : Int) (hn : -9223372036854775808 ≤ n ∧ n ≤ 9223372036854775807 := by first | omega | exact u8_le _ | assumption | (simp; done) | (simp; omega)) : FnP Tryz.prog (gl) 27 [.int .i64 n, .int .i64 g] fun r => r = .ret (.agg (refO n g).cells) := by
  refine FnP.intro Tryz.func27 rfl rfl (by simp [Tryz.ntmps27]) ?_
  simp only [argEnv, Tryz.ntmps27, Tryz.results27]
  refine AW.rS ?_
  refine AW.rS ?_
  refine AW.rt ?_
  all_goals first | contradiction | rfl | (simp; done) | (simp; omega)
theorem c_value_Array (gl : List (Nat × AV)) (l : List Pob) (h : (arrO l).bulk ≤ 16777216 := by first | omega | exact u8_le _ | assumption | (simp; done) | (simp; omega)) : FnP Tryz.prog (gl) 28 [.sl (objsAV l)] fun r => r = .ret (.agg (arrO l).cells) := by
  refine FnP.intro Tryz.func28 rfl rfl (by simp [Tryz.ntmps28]) ?_
  simp only [argEnv, Tryz.ntmps28, Tryz.results28]
  refine AW.rS ?_
  refine AW.rSC ?_
  refine awOps.cons (awGuard.c1 (c_value_Clone _ (arrO l) h) ?_)
  refine awOps.rn ?_
  refine AW.rt ?_
  all_goals first | contradiction | rfl | (simp; done) | (simp; omega)
end Go.Proofs

namespace Go.Proofs
open Go Aw
set_option linter.unusedSimpArgs false
set_option linter.unusedVariables false
set_option maxRecDepth 100000
set_option maxHeartbeats 4000000

theorem h_Insert_string (gl : List (Nat × AV)) (es : List (List AV)) (e : List AV) (i : Nat) (hes : ∀ e ∈ es, okRow 1 e = true) (he : okRow 1 e = true) (hi : i ≤ es.length) (hl : es.length ≤ 16777216) : FnH Tryz.prog (gl) 127 [.row 0 0 es.length, .int .i64 i, .row 1 0 1] ([(0, .row 1 es true), (1, .row 1 [e] true)]) 2 (fun r h n => r = .ret (.row 2 0 (es.length + 1)) ∧ h = [(1, .row 1 [e] true), (2, .row 1 (es.take i ++ e :: es.drop i) true)] ∧ n = 3) := by
  refine FnH.intro Tryz.func127 rfl rfl (by simp [Tryz.ntmps127]) ?_
  simp only [argEnv, Tryz.ntmps127, Tryz.results127]
  refine AW.rS ?_
  refine AW.rS ?_
  refine AW.rS ?_
  refine AW.seq ?_
  refine AW.rS ?_
  refine AW.c2 ?_ ?_
  · intro h6
    refine AW.rS ?_
    refine AW.rt ?_
    all_goals first | contradiction | rfl | (simp; done) | (simp; omega)
  · intro h6
    refine AW.skip ?_
    refine AW.rS ?_
    refine AW.seq ?_
    refine AW.rS ?_
    refine AW.c2 ?_ ?_
    · intro h14
      refine AW.rS ?_
      refine AW.rt ?_
      obtain rfl : i = es.length := by omega
      simp
    · intro h14
      refine AW.skip ?_
      refine AW.seq ?_
      refine AW.tf 0 (fun sp hsp hse => ?_)
      refine AW.rSC ?_
      refine awOps.cons ?_
      refine awGuard.fcp  ?_
      refine awOps.rn ?_
      refine AW.c2 ?_ ?_
      · intro h23
        refine AW.rSC ?_
        refine awOps.cons ?_
        refine awGuard.fzr (es.length + 1 - i) ?_ ?_ ?_ ?_ ?_ ?_
        · first | omega | (simp; done) | (simp; omega)
        · first | omega | (simp; done) | (simp; omega)
        · first | omega | (simp; done) | (simp; omega)
        · first | omega | (simp; done) | (simp; omega)
        · show (i + (es.length + 1 - i)) * 16 ≤ _; omega
        refine awOps.rn ?_
        refine AW.rSC ?_
        refine awOps.cons ?_
        refine awGuard.cpR 1 ?_ ?_ ?_ ?_
        · first | omega | (simp; done) | (simp; omega)
        · first | omega | (simp; done) | (simp; omega)
        · simp [he]
        refine awOps.rn ?_
        refine AW.dSC [(0, 0), (1, 0), (2, 0), (3, 0), (4, 1), (5, 0), (6, 0), (7, 1), (8, 2)] ?_
        refine awPlan.only rfl ?_
        refine awGuard.cpR (es.length - i) ?_ ?_ ?_ ?_
        · first | omega | (simp; done) | (simp; omega)
        · simp [splice]; omega
        · exact ⟨by omega, fun x hx => hes x (mem_mid hse hx)⟩
        refine awPlan.rn ?_
        refine AW.rS ?_
        refine AW.drop 0 ?_
        refine AW.rt ?_
        rw [ins_new hse rfl (by omega) (by simp), show i + (es.length + 1 - i) = es.length + 1 from by omega]
        exact ⟨rfl, rfl⟩
      · intro h23
        refine AW.skip ?_
        refine AW.rS ?_
        refine AW.seq ?_
        refine AW.rSC ?_
        refine awOps.cons ?_
        refine awGuard.ovr (tS := 24) (tR := 4) (e := 9) Tryz.func143 ?_ ?_
        · first | omega | (simp; done) | (simp; omega)
        refine awOps.rn ?_
        refine AW.c2 ?_ ?_
        · intro h42
          refine AW.dSC [(0, 0), (1, 0), (2, 0), (3, 0), (4, 1), (5, 0), (6, 0), (7, 1), (8, 2)] ?_
          refine awPlan.only rfl ?_
          refine awGuard.cpF (es.length - i) ?_ ?_ ?_ ?_
          · first | omega | (simp; done) | (simp; omega)
          · first | omega | (simp; done) | (simp; omega)
          · exact ⟨by omega, fun x hx => hes x (mem_mid hse hx)⟩
          refine awPlan.rn ?_
          have hsl : (splice sp (i + 1) (List.take (es.length - i) (List.drop i sp))).length = sp.length := splice_len (by simp; omega)
          refine AW.rSC ?_
          refine awOps.cons ?_
          refine awGuard.cpF 1 ?_ ?_ ?_ ?_
          · first | omega | (simp; done) | (simp; omega)
          · first | omega | (simp; done) | (simp; omega)
          · simp [he]
          refine awOps.rn ?_
          refine AW.rS ?_
          refine AW.uf 0 (es.length + 1) ?_
          refine AW.rnm 6 ?_
          refine AW.rt ?_
          rw [ins_in hse rfl (by omega) (by omega)]
        · intro h42
          cases h42
theorem h_Insert_Object (gl : List (Nat × AV)) (es : List (List AV)) (e : List AV) (i : Nat) (hes : ∀ e ∈ es, okRow 6 e = true) (he : okRow 6 e = true) (hi : i ≤ es.length) (hl : es.length ≤ 16777216) : FnH Tryz.prog (gl) 128 [.row 0 0 es.length, .int .i64 i, .row 1 0 1] ([(0, .row 6 es true), (1, .row 6 [e] true)]) 2 (fun r h n => r = .ret (.row 2 0 (es.length + 1)) ∧ h = [(1, .row 6 [e] true), (2, .row 6 (es.take i ++ e :: es.drop i) true)] ∧ n = 3) := by
  refine FnH.intro Tryz.func128 rfl rfl (by simp [Tryz.ntmps128]) ?_
  simp only [argEnv, Tryz.ntmps128, Tryz.results128]
  refine AW.rS ?_
  refine AW.rS ?_
  refine AW.rS ?_
  refine AW.seq ?_
  refine AW.rS ?_
  refine AW.c2 ?_ ?_
  · intro h6
    refine AW.rS ?_
    refine AW.rt ?_
    all_goals first | contradiction | rfl | (simp; done) | (simp; omega)
  · intro h6
    refine AW.skip ?_
    refine AW.rS ?_
    refine AW.seq ?_
    refine AW.rS ?_
    refine AW.c2 ?_ ?_
    · intro h14
      refine AW.rS ?_
      refine AW.rt ?_
      obtain rfl : i = es.length := by omega
      simp
    · intro h14
      refine AW.skip ?_
      refine AW.seq ?_
      refine AW.tf 0 (fun sp hsp hse => ?_)
      refine AW.rSC ?_
      refine awOps.cons ?_
      refine awGuard.fcp  ?_
      refine awOps.rn ?_
      refine AW.c2 ?_ ?_
      · intro h23
        refine AW.rSC ?_
        refine awOps.cons ?_
        refine awGuard.fzr (es.length + 1 - i) ?_ ?_ ?_ ?_ ?_ ?_
        · first | omega | (simp; done) | (simp; omega)
        · first | omega | (simp; done) | (simp; omega)
        · first | omega | (simp; done) | (simp; omega)
        · first | omega | (simp; done) | (simp; omega)
        · show (i + (es.length + 1 - i)) * 88 ≤ _; omega
        refine awOps.rn ?_
        refine AW.rSC ?_
        refine awOps.cons ?_
        refine awGuard.cpR 1 ?_ ?_ ?_ ?_
        · first | omega | (simp; done) | (simp; omega)
        · first | omega | (simp; done) | (simp; omega)
        · simp [he]
        refine awOps.rn ?_
        refine AW.dSC [(0, 0), (1, 0), (2, 0), (3, 0), (4, 1), (5, 0), (6, 0), (7, 1), (8, 2)] ?_
        refine awPlan.only rfl ?_
        refine awGuard.cpR (es.length - i) ?_ ?_ ?_ ?_
        · first | omega | (simp; done) | (simp; omega)
        · simp [splice]; omega
        · exact ⟨by omega, fun x hx => hes x (mem_mid hse hx)⟩
        refine awPlan.rn ?_
        refine AW.rS ?_
        refine AW.drop 0 ?_
        refine AW.rt ?_
        rw [ins_new hse rfl (by omega) (by simp), show i + (es.length + 1 - i) = es.length + 1 from by omega]
        exact ⟨rfl, rfl⟩
      · intro h23
        refine AW.skip ?_
        refine AW.rS ?_
        refine AW.seq ?_
        refine AW.rSC ?_
        refine awOps.cons ?_
        refine awGuard.ovr (tS := 25) (tR := 4) (e := 27) Tryz.func145 ?_ ?_
        · first | omega | (simp; done) | (simp; omega)
        refine awOps.rn ?_
        refine AW.c2 ?_ ?_
        · intro h42
          refine AW.dSC [(0, 0), (1, 0), (2, 0), (3, 0), (4, 1), (5, 0), (6, 0), (7, 1), (8, 2)] ?_
          refine awPlan.only rfl ?_
          refine awGuard.cpF (es.length - i) ?_ ?_ ?_ ?_
          · first | omega | (simp; done) | (simp; omega)
          · first | omega | (simp; done) | (simp; omega)
          · exact ⟨by omega, fun x hx => hes x (mem_mid hse hx)⟩
          refine awPlan.rn ?_
          have hsl : (splice sp (i + 1) (List.take (es.length - i) (List.drop i sp))).length = sp.length := splice_len (by simp; omega)
          refine AW.rSC ?_
          refine awOps.cons ?_
          refine awGuard.cpF 1 ?_ ?_ ?_ ?_
          · first | omega | (simp; done) | (simp; omega)
          · first | omega | (simp; done) | (simp; omega)
          · simp [he]
          refine awOps.rn ?_
          refine AW.rS ?_
          refine AW.uf 0 (es.length + 1) ?_
          refine AW.rnm 6 ?_
          refine AW.rt ?_
          rw [ins_in hse rfl (by omega) (by omega)]
        · intro h42
          cases h42
theorem h_Insert_Item (gl : List (Nat × AV)) (es : List (List AV)) (e : List AV) (i : Nat) (hes : ∀ e ∈ es, okRow 8 e = true) (he : okRow 8 e = true) (hi : i ≤ es.length) (hl : es.length ≤ 16777216) : FnH Tryz.prog (gl) 123 [.row 0 0 es.length, .int .i64 i, .row 1 0 1] ([(0, .row 8 es true), (1, .row 8 [e] true)]) 2 (fun r h n => r = .ret (.row 2 0 (es.length + 1)) ∧ h = [(1, .row 8 [e] true), (2, .row 8 (es.take i ++ e :: es.drop i) true)] ∧ n = 3) := by
  refine FnH.intro Tryz.func123 rfl rfl (by simp [Tryz.ntmps123]) ?_
  simp only [argEnv, Tryz.ntmps123, Tryz.results123]
  refine AW.rS ?_
  refine AW.rS ?_
  refine AW.rS ?_
  refine AW.seq ?_
  refine AW.rS ?_
  refine AW.c2 ?_ ?_
  · intro h6
    refine AW.rS ?_
    refine AW.rt ?_
    all_goals first | contradiction | rfl | (simp; done) | (simp; omega)
  · intro h6
    refine AW.skip ?_
    refine AW.rS ?_
    refine AW.seq ?_
    refine AW.rS ?_
    refine AW.c2 ?_ ?_
    · intro h14
      refine AW.rS ?_
      refine AW.rt ?_
      obtain rfl : i = es.length := by omega
      simp
    · intro h14
      refine AW.skip ?_
      refine AW.seq ?_
      refine AW.tf 0 (fun sp hsp hse => ?_)
      refine AW.rSC ?_
      refine awOps.cons ?_
      refine awGuard.fcp  ?_
      refine awOps.rn ?_
      refine AW.c2 ?_ ?_
      · intro h23
        refine AW.rSC ?_
        refine awOps.cons ?_
        refine awGuard.fzr (es.length + 1 - i) ?_ ?_ ?_ ?_ ?_ ?_
        · first | omega | (simp; done) | (simp; omega)
        · first | omega | (simp; done) | (simp; omega)
        · first | omega | (simp; done) | (simp; omega)
        · first | omega | (simp; done) | (simp; omega)
        · show (i + (es.length + 1 - i)) * 104 ≤ _; omega
        refine awOps.rn ?_
        refine AW.rSC ?_
        refine awOps.cons ?_
        refine awGuard.cpR 1 ?_ ?_ ?_ ?_
        · first | omega | (simp; done) | (simp; omega)
        · first | omega | (simp; done) | (simp; omega)
        · simp [he]
        refine awOps.rn ?_
        refine AW.dSC [(0, 0), (1, 0), (2, 0), (3, 0), (4, 1), (5, 0), (6, 0), (7, 1), (8, 2)] ?_
        refine awPlan.only rfl ?_
        refine awGuard.cpR (es.length - i) ?_ ?_ ?_ ?_
        · first | omega | (simp; done) | (simp; omega)
        · simp [splice]; omega
        · exact ⟨by omega, fun x hx => hes x (mem_mid hse hx)⟩
        refine awPlan.rn ?_
        refine AW.rS ?_
        refine AW.drop 0 ?_
        refine AW.rt ?_
        rw [ins_new hse rfl (by omega) (by simp), show i + (es.length + 1 - i) = es.length + 1 from by omega]
        exact ⟨rfl, rfl⟩
      · intro h23
        refine AW.skip ?_
        refine AW.rS ?_
        refine AW.seq ?_
        refine AW.rSC ?_
        refine awOps.cons ?_
        refine awGuard.ovr (tS := 23) (tR := 4) (e := 39) Tryz.func137 ?_ ?_
        · first | omega | (simp; done) | (simp; omega)
        refine awOps.rn ?_
        refine AW.c2 ?_ ?_
        · intro h42
          refine AW.dSC [(0, 0), (1, 0), (2, 0), (3, 0), (4, 1), (5, 0), (6, 0), (7, 1), (8, 2)] ?_
          refine awPlan.only rfl ?_
          refine awGuard.cpF (es.length - i) ?_ ?_ ?_ ?_
          · first | omega | (simp; done) | (simp; omega)
          · first | omega | (simp; done) | (simp; omega)
          · exact ⟨by omega, fun x hx => hes x (mem_mid hse hx)⟩
          refine awPlan.rn ?_
          have hsl : (splice sp (i + 1) (List.take (es.length - i) (List.drop i sp))).length = sp.length := splice_len (by simp; omega)
          refine AW.rSC ?_
          refine awOps.cons ?_
          refine awGuard.cpF 1 ?_ ?_ ?_ ?_
          · first | omega | (simp; done) | (simp; omega)
          · first | omega | (simp; done) | (simp; omega)
          · simp [he]
          refine awOps.rn ?_
          refine AW.rS ?_
          refine AW.uf 0 (es.length + 1) ?_
          refine AW.rnm 6 ?_
          refine AW.rt ?_
          rw [ins_in hse rfl (by omega) (by omega)]
        · intro h42
          cases h42
end Go.Proofs

namespace Go.Proofs
open Go Aw
set_option linter.unusedSimpArgs false
set_option linter.unusedVariables false
set_option maxRecDepth 100000
set_option maxHeartbeats 4000000

theorem h_Delete_string (gl : List (Nat × AV)) (es : List (List AV)) (i j : Nat) (hes : ∀ e ∈ es, okRow 1 e = true) (hij : i < j) (hj : j ≤ es.length) (hl : es.length ≤ 16777216) : FnH Tryz.prog (gl) 141 [.row 0 0 es.length, .int .i64 i, .int .i64 j] ([(0, .row 1 es true)]) 1 (fun r h n => r = .ret (.row 0 0 (i + (es.length - j))) ∧ h = [(0, .row 1 (es.take i ++ es.drop j) true)] ∧ n = 1) := by
  refine FnH.intro Tryz.func141 rfl rfl (by simp [Tryz.ntmps141]) ?_
  simp only [argEnv, Tryz.ntmps141, Tryz.results141]
  refine AW.rS ?_
  refine AW.rSC ?_
  refine awOps.cons ?_
  refine awGuard.s3 ?_ ?_
  · first | omega | (simp; done) | (simp; omega)
  refine awOps.rn ?_
  refine AW.seq ?_
  refine AW.rS ?_
  refine AW.c2 ?_ ?_
  · intro h7
    refine AW.rS ?_
    refine AW.rt ?_
    all_goals first | contradiction | rfl | (simp; done) | (simp; omega)
  · intro h7
    refine AW.skip ?_
    refine AW.tf 0 (fun sp hsp hse => ?_)
    have htl : (List.take (es.length - j) (List.drop j sp)).length = es.length - j := by simp; omega
    have hsl : (splice sp i (List.take (es.length - j) (List.drop j sp))).length = sp.length := splice_len (by omega)
    refine AW.rS ?_
    refine AW.dSC [(0, 0), (1, 0), (2, 1), (3, 0), (4, 0), (5, 1), (6, 2), (7, 0)] ?_
    refine awPlan.only rfl ?_
    refine awGuard.apF ?_ ?_ ?_
    · exact ⟨by omega, fun x hx => hes x (mem_mid hse hx)⟩
    · omega
    refine awPlan.rn ?_
    refine AW.rSC ?_
    refine awOps.cons ?_
    refine awGuard.fcr ?_ ?_
    · omega
    refine awOps.rn ?_
    refine AW.uf 0 (i + (es.length - j)) ?_
    refine AW.rS ?_
    refine AW.rt ?_
    rw [htl, del_in hse rfl (by omega) hj rfl]
    exact ⟨rfl, rfl⟩
theorem h_Delete_Object (gl : List (Nat × AV)) (es : List (List AV)) (i j : Nat) (hes : ∀ e ∈ es, okRow 6 e = true) (hij : i < j) (hj : j ≤ es.length) (hl : es.length ≤ 16777216) : FnH Tryz.prog (gl) 142 [.row 0 0 es.length, .int .i64 i, .int .i64 j] ([(0, .row 6 es true)]) 1 (fun r h n => r = .ret (.row 0 0 (i + (es.length - j))) ∧ h = [(0, .row 6 (es.take i ++ es.drop j) true)] ∧ n = 1) := by
  refine FnH.intro Tryz.func142 rfl rfl (by simp [Tryz.ntmps142]) ?_
  simp only [argEnv, Tryz.ntmps142, Tryz.results142]
  refine AW.rS ?_
  refine AW.rSC ?_
  refine awOps.cons ?_
  refine awGuard.s3 ?_ ?_
  · first | omega | (simp; done) | (simp; omega)
  refine awOps.rn ?_
  refine AW.seq ?_
  refine AW.rS ?_
  refine AW.c2 ?_ ?_
  · intro h7
    refine AW.rS ?_
    refine AW.rt ?_
    all_goals first | contradiction | rfl | (simp; done) | (simp; omega)
  · intro h7
    refine AW.skip ?_
    refine AW.tf 0 (fun sp hsp hse => ?_)
    have htl : (List.take (es.length - j) (List.drop j sp)).length = es.length - j := by simp; omega
    have hsl : (splice sp i (List.take (es.length - j) (List.drop j sp))).length = sp.length := splice_len (by omega)
    refine AW.rS ?_
    refine AW.dSC [(0, 0), (1, 0), (2, 1), (3, 0), (4, 0), (5, 1), (6, 2), (7, 0)] ?_
    refine awPlan.only rfl ?_
    refine awGuard.apF ?_ ?_ ?_
    · exact ⟨by omega, fun x hx => hes x (mem_mid hse hx)⟩
    · omega
    refine awPlan.rn ?_
    refine AW.rSC ?_
    refine awOps.cons ?_
    refine awGuard.fcr ?_ ?_
    · omega
    refine awOps.rn ?_
    refine AW.uf 0 (i + (es.length - j)) ?_
    refine AW.rS ?_
    refine AW.rt ?_
    rw [htl, del_in hse rfl (by omega) hj rfl]
    exact ⟨rfl, rfl⟩
theorem h_Delete_Item (gl : List (Nat × AV)) (es : List (List AV)) (i j : Nat) (hes : ∀ e ∈ es, okRow 8 e = true) (hij : i < j) (hj : j ≤ es.length) (hl : es.length ≤ 16777216) : FnH Tryz.prog (gl) 122 [.row 0 0 es.length, .int .i64 i, .int .i64 j] ([(0, .row 8 es true)]) 1 (fun r h n => r = .ret (.row 0 0 (i + (es.length - j))) ∧ h = [(0, .row 8 (es.take i ++ es.drop j) true)] ∧ n = 1) := by
  refine FnH.intro Tryz.func122 rfl rfl (by simp [Tryz.ntmps122]) ?_
  simp only [argEnv, Tryz.ntmps122, Tryz.results122]
  refine AW.rS ?_
  refine AW.rSC ?_
  refine awOps.cons ?_
  refine awGuard.s3 ?_ ?_
  · first | omega | (simp; done) | (simp; omega)
  refine awOps.rn ?_
  refine AW.seq ?_
  refine AW.rS ?_
  refine AW.c2 ?_ ?_
  · intro h7
    refine AW.rS ?_
    refine AW.rt ?_
    all_goals first | contradiction | rfl | (simp; done) | (simp; omega)
  · intro h7
    refine AW.skip ?_
    refine AW.tf 0 (fun sp hsp hse => ?_)
    have htl : (List.take (es.length - j) (List.drop j sp)).length = es.length - j := by simp; omega
    have hsl : (splice sp i (List.take (es.length - j) (List.drop j sp))).length = sp.length := splice_len (by omega)
    refine AW.rS ?_
    refine AW.dSC [(0, 0), (1, 0), (2, 1), (3, 0), (4, 0), (5, 1), (6, 2), (7, 0)] ?_
    refine awPlan.only rfl ?_
    refine awGuard.apF ?_ ?_ ?_
    · exact ⟨by omega, fun x hx => hes x (mem_mid hse hx)⟩
    · omega
    refine awPlan.rn ?_
    refine AW.rSC ?_
    refine awOps.cons ?_
    refine awGuard.fcr ?_ ?_
    · omega
    refine awOps.rn ?_
    refine AW.uf 0 (i + (es.length - j)) ?_
    refine AW.rS ?_
    refine AW.rt ?_
    rw [htl, del_in hse rfl (by omega) hj rfl]
    exact ⟨rfl, rfl⟩
end Go.Proofs

namespace Go.Proofs
open Go Aw
set_option linter.unusedSimpArgs false
set_option linter.unusedVariables false
set_option maxRecDepth 100000
set_option maxHeartbeats 4000000

theorem c_cmp_isNaN_string (gl : List (Nat × AV)) (s : List UInt8) : FnP Tryz.prog (gl) 154 [.str s] fun r => r = .ret (.bool false) := by
  refine FnP.intro Tryz.func154 rfl rfl (by simp [Tryz.ntmps154]) ?_
  simp only [argEnv, Tryz.ntmps154, Tryz.results154]
  refine AW.rS ?_
  refine AW.rS ?_
  refine AW.rt ?_
  all_goals first | contradiction | rfl | (simp; done) | (simp; omega)
theorem c_slices_isNaN_string (gl : List (Nat × AV)) (s : List UInt8) : FnP Tryz.prog (gl) 140 [.str s] fun r => r = .ret (.bool false) := by
  refine FnP.intro Tryz.func140 rfl rfl (by simp [Tryz.ntmps140]) ?_
  simp only [argEnv, Tryz.ntmps140, Tryz.results140]
  refine AW.rS ?_
  refine AW.rS ?_
  refine AW.rt ?_
  all_goals first | contradiction | rfl | (simp; done) | (simp; omega)
theorem c_cmp_Less_string (gl : List (Nat × AV)) (s t : List UInt8) : FnP Tryz.prog (gl) 139 [.str s, .str t] fun r => r = .ret (.bool (Op.bytesLess s t)) := by
  refine FnP.intro Tryz.func139 rfl rfl (by simp [Tryz.ntmps139]) ?_
  simp only [argEnv, Tryz.ntmps139, Tryz.results139]
  refine AW.rS ?_
  refine AW.rSC ?_
  refine awOps.cons (awGuard.c1 (c_cmp_isNaN_string _ s) ?_)
  refine awOps.rn ?_
  refine awOps.cons (awGuard.cG (fun hg => c_cmp_isNaN_string _ t) ?_)
  refine awOps.rn ?_
  refine AW.rt ?_
  all_goals first | contradiction | rfl | (simp; done) | (simp; omega)
theorem c_slices_BinarySearch_string_string (gl : List (Nat × AV)) (ks : List (List UInt8)) (key : List UInt8) (hk : ks.length ≤ 16777216 := by first | omega | exact u8_le _ | assumption | (simp; done) | (simp; omega)) (hs : incr ks := by first | omega | exact u8_le _ | assumption | (simp; done) | (simp; omega)) : FnP Tryz.prog (gl) 124 [.sl (strsAV ks), .str key] fun r => r = .ret (.tup [.int .i64 (kplace ks key), .bool (kthere ks key)]) := by
  refine FnP.intro Tryz.func124 rfl rfl (by simp [Tryz.ntmps124]) ?_
  simp only [argEnv, Tryz.ntmps124, Tryz.results124]
  refine AW.rS ?_
  refine AW.rS ?_
  refine AW.rS ?_
  refine AW.seq ?_
  refine AW.block ?_
  refine AW.lk (S := { p : Nat × Nat // p.1 ≤ p.2 ∧ p.2 ≤ ks.length ∧ (∀ a, a < p.1 → Op.bytesLess (ks.getD a []) key = true) ∧ (∀ a, p.2 ≤ a → a < ks.length → Op.bytesLess (ks.getD a []) key = false) }) [0, 1, 6] (fun s_ => [(7, .int .i64 s_.1.1), (8, .int .i64 s_.1.2)]) (fun s_ => []) 0 (fun s_ => s_.1.2 - s_.1.1) ⟨(0, ks.length), Nat.zero_le _, Nat.le_refl _, fun a h => absurd h (by omega), fun a h h' => absurd h' (by omega)⟩ ?_ ?_
  · refine St.le.vw []
  rintro ⟨⟨i, j⟩, h1, h2, h3, h4⟩
  try dsimp only at h1
  try dsimp only at h2
  try dsimp only at h3
  try dsimp only at h4
  refine AW.seq ?_
  refine AW.rS ?_
  refine AW.c2 ?_ ?_
  · intro h9
    refine AW.skip ?_
    refine AW.block ?_
    refine AW.rS ?_
    refine AW.rSC ?_
    refine awOps.cons (awGuard.c1 (c_cmp_Less_string _ (ks.getD ((i + j) / 2) []) key) ?_)
    refine awOps.rn ?_
    refine AW.c2 ?_ ?_
    · intro h16
      refine AW.rL ?_
      refine ⟨⟨((i + j) / 2 + 1, j), by dsimp only; omega, h2, fun a ha => bs_lo hs h16 (by omega) (by dsimp only at ha; omega), h4⟩, ?_, ?_⟩
      · refine St.le.vw []
      · simp only []; omega
    · intro h16
      refine AW.rL ?_
      refine ⟨⟨(i, (i + j) / 2), by dsimp only; omega, by dsimp only; omega, h3, fun a ha hb => bs_hi hs h16 (by dsimp only at ha; omega) hb⟩, ?_, ?_⟩
      · refine St.le.vw []
      · simp only []; omega
  · intro h9
    refine AW.exit ?_
    obtain rfl : i = j := by omega
    have hkp := kplace_eq h2 h3 (fun h => h4 _ (Nat.le_refl _) h)
    by_cases hs22 : i < ks.length
    · skip
      refine AW.rSC ?_
      refine awOps.cons (awGuard.cG (fun hg => c_slices_isNaN_string ..) ?_)
      refine awOps.rn ?_
      refine awOps.cons (awGuard.cG (fun hg => c_slices_isNaN_string ..) ?_)
      refine awOps.rn ?_
      refine AW.rt ?_
      rw [kthere_eq hkp, hkp]
      simp [hs22]
    · skip
      refine AW.rSC ?_
      refine awOps.cons (awGuard.gF (.bool false) ?_ ?_)
      · simp [hs22]
      refine awOps.rn ?_
      refine awOps.cons (awGuard.cG (fun hg => c_slices_isNaN_string ..) ?_)
      refine awOps.rn ?_
      refine AW.rt ?_
      rw [kthere_eq hkp, hkp]
      simp [hs22]
end Go.Proofs

namespace Go.Proofs
open Go Aw
set_option linter.unusedSimpArgs false
set_option linter.unusedVariables false
set_option maxRecDepth 100000
set_option maxHeartbeats 4000000

theorem h_Clone_string (gl : List (Nat × AV)) (ks : List (List UInt8)) (hk : ks.length ≤ 16777216 := by first | omega | exact u8_le _ | assumption | (simp; done) | (simp; omega)) : FnH Tryz.prog (gl) 101 [.sl (strsAV ks)] ([]) 0 (fun r h n => r = .ret (.row 1 0 ks.length) ∧ h = [(1, .row 1 (strsAV ks) true)] ∧ n = 2) := by
  refine FnH.intro Tryz.func101 rfl rfl (by simp [Tryz.ntmps101]) ?_
  simp only [argEnv, Tryz.ntmps101, Tryz.results101]
  refine AW.rS ?_
  refine AW.seq ?_
  refine AW.rSC ?_
  refine awOps.cons (awGuard.nS ?_)
  intro b4 hb4
  simp only [nilBool]
  refine awOps.rn ?_
  refine AW.c2 ?_ ?_
  · intro h6
    refine AW.rS ?_
    refine AW.pre (St.le.nilrow 2 1 (by (simp only [go_sem, seval]; try (simp (disch := omega) only [zqa, zqb, zqc, zqd, zqe, zqf, zqg, zqh, zqi, zqj, zqk, zql, zqm, zqn, zqo, zqp, zqq, zqr, zqs]; try (simp only [go_sem, seval]; try (simp (disch := omega) only [zqa, zqb, zqc, zqd, zqe, zqf, zqg, zqh, zqi, zqj, zqk, zql, zqm, zqn, zqo, zqp, zqq, zqr, zqs]; try simp only [go_sem, seval])))))) ?_
    refine wk ?_
    refine AW.rnm 2 ?_
    refine wk ?_
    refine AW.rt ?_
    rw [nil_strs hb4 h6, strsAV_nil]; simp
  · intro h6
    refine AW.skip ?_
    refine AW.rS ?_
    refine AW.rt ?_
    all_goals first | contradiction | rfl | (simp; done) | (simp; omega)
theorem h_Clone_Object (gl : List (Nat × AV)) (ks : List Pob) (hk : ks.length ≤ 16777216 := by first | omega | exact u8_le _ | assumption | (simp; done) | (simp; omega)) : FnH Tryz.prog (gl) 126 [.sl (objsAV ks)] ([]) 0 (fun r h n => r = .ret (.row 1 0 ks.length) ∧ h = [(1, .row 6 (objsAV ks) true)] ∧ n = 2) := by
  refine FnH.intro Tryz.func126 rfl rfl (by simp [Tryz.ntmps126]) ?_
  simp only [argEnv, Tryz.ntmps126, Tryz.results126]
  refine AW.rS ?_
  refine AW.seq ?_
  refine AW.rSC ?_
  refine awOps.cons (awGuard.nS ?_)
  intro b4 hb4
  simp only [nilBool]
  refine awOps.rn ?_
  refine AW.c2 ?_ ?_
  · intro h6
    refine AW.rS ?_
    refine AW.pre (St.le.nilrow 2 6 (by (simp only [go_sem, seval]; try (simp (disch := omega) only [zqa, zqb, zqc, zqd, zqe, zqf, zqg, zqh, zqi, zqj, zqk, zql, zqm, zqn, zqo, zqp, zqq, zqr, zqs]; try (simp only [go_sem, seval]; try (simp (disch := omega) only [zqa, zqb, zqc, zqd, zqe, zqf, zqg, zqh, zqi, zqj, zqk, zql, zqm, zqn, zqo, zqp, zqq, zqr, zqs]; try simp only [go_sem, seval])))))) ?_
    refine wk ?_
    refine AW.rnm 2 ?_
    refine wk ?_
    refine AW.rt ?_
    rw [nil_objs hb4 h6, objsAV_nil]; simp
  · intro h6
    refine AW.skip ?_
    refine AW.rS ?_
    refine AW.rt ?_
    all_goals first | contradiction | rfl | (simp; done) | (simp; omega)
theorem h_Ins_str (gl : List (Nat × AV)) (ks : List (List UInt8)) (k : List UInt8) (i : Nat) (hi : i ≤ ks.length) (hl : ks.length ≤ 16777216 := by omega) : FnH Tryz.prog gl 127 [.row 0 0 ks.length, .int .i64 i, .row 1 0 1]
    [(0, .row 1 (strsAV ks) true), (1, .row 1 [[.str k]] true)] 2 fun r h n => r = .ret (.row 2 0 (ks.length + 1)) ∧ h = [(1, .row 1 [[.str k]] true), (2, .row 1 (strsAV (insAt ks i k)) true)] ∧ n = 3 := by
  have h := h_Insert_string gl (strsAV ks) [.str k] i (by rw [strsAV_ok]; trivial) rfl (by rw [strsAV_length]; exact hi) (by rw [strsAV_length]; exact hl)
  rw [strsAV_length, strsAV_insAt] at h
  exact h
theorem h_Ins_obj (gl : List (Nat × AV)) (l : List Pob) (o : Pob) (i : Nat) (hi : i ≤ l.length) (hl : l.length ≤ 16777216 := by omega) : FnH Tryz.prog gl 128 [.row 0 0 l.length, .int .i64 i, .row 1 0 1]
    [(0, .row 6 (objsAV l) true), (1, .row 6 [o.cells] true)] 2 fun r h n => r = .ret (.row 2 0 (l.length + 1)) ∧ h = [(1, .row 6 [o.cells] true), (2, .row 6 (objsAV (insAt l i o)) true)] ∧ n = 3 := by
  have h := h_Insert_Object gl (objsAV l) o.cells i (by rw [objsAV_ok]; trivial) (cells_ok o) (by rw [objsAV_length]; exact hi) (by rw [objsAV_length]; exact hl)
  rw [objsAV_length, objsAV_insAt] at h
  exact h
theorem h_Ins_itm (gl : List (Nat × AV)) (l : List Itm) (o : Itm) (i : Nat) (hi : i ≤ l.length) (hl : l.length ≤ 16777216 := by omega) : FnH Tryz.prog gl 123 [.row 0 0 l.length, .int .i64 i, .row 1 0 1]
    [(0, .row 8 (itemsAV l) true), (1, .row 8 [o.cells] true)] 2 fun r h n => r = .ret (.row 2 0 (l.length + 1)) ∧ h = [(1, .row 8 [o.cells] true), (2, .row 8 (itemsAV (insAt l i o)) true)] ∧ n = 3 := by
  have h := h_Insert_Item gl (itemsAV l) o.cells i (by rw [itemsAV_ok]; trivial) rfl (by rw [itemsAV_length]; exact hi) (by rw [itemsAV_length]; exact hl)
  rw [itemsAV_length, itemsAV_insAt] at h
  exact h
theorem h_Del_str (gl : List (Nat × AV)) (ks : List (List UInt8)) (i : Nat) (hi : i < ks.length) (hl : ks.length ≤ 16777216 := by omega) : FnH Tryz.prog gl 141 [.row 0 0 ks.length, .int .i64 i, .int .i64 ((i : Int) + 1)]
    [(0, .row 1 (strsAV ks) true)] 1 fun r h n => r = .ret (.row 0 0 (i + (ks.length - (i + 1)))) ∧ h = [(0, .row 1 (strsAV (delAt ks i)) true)] ∧ n = 1 := by
  have h := h_Delete_string gl (strsAV ks) i (i + 1) (by rw [strsAV_ok]; trivial) (by omega) (by rw [strsAV_length]; omega) (by rw [strsAV_length]; exact hl)
  rw [strsAV_length, strsAV_delAt] at h
  exact h
theorem h_Del_obj (gl : List (Nat × AV)) (ks : List Pob) (i : Nat) (hi : i < ks.length) (hl : ks.length ≤ 16777216 := by omega) : FnH Tryz.prog gl 142 [.row 0 0 ks.length, .int .i64 i, .int .i64 ((i : Int) + 1)]
    [(0, .row 6 (objsAV ks) true)] 1 fun r h n => r = .ret (.row 0 0 (i + (ks.length - (i + 1)))) ∧ h = [(0, .row 6 (objsAV (delAt ks i)) true)] ∧ n = 1 := by
  have h := h_Delete_Object gl (objsAV ks) i (i + 1) (by rw [objsAV_ok]; trivial) (by omega) (by rw [objsAV_length]; omega) (by rw [objsAV_length]; exact hl)
  rw [objsAV_length, objsAV_delAt] at h
  exact h
theorem h_Del_itm (gl : List (Nat × AV)) (ks : List Itm) (i : Nat) (hi : i < ks.length) (hl : ks.length ≤ 16777216 := by omega) : FnH Tryz.prog gl 122 [.row 0 0 ks.length, .int .i64 i, .int .i64 ((i : Int) + 1)]
    [(0, .row 8 (itemsAV ks) true)] 1 fun r h n => r = .ret (.row 0 0 (i + (ks.length - (i + 1)))) ∧ h = [(0, .row 8 (itemsAV (delAt ks i)) true)] ∧ n = 1 := by
  have h := h_Delete_Item gl (itemsAV ks) i (i + 1) (by rw [itemsAV_ok]; trivial) (by omega) (by rw [itemsAV_length]; omega) (by rw [itemsAV_length]; exact hl)
  rw [itemsAV_length, itemsAV_delAt] at h
  exact h
theorem c_value_with (gl : List (Nat × AV)) (o : Pob) (key : List UInt8) (v : Pob) (h : o.bulk ≤ 16777216) (hs : incr o.keys) (hl : o.keys.length = o.kids.length) : FnP Tryz.prog (gl) 96 [.agg o.cells, .str key, .agg v.cells] fun r => r = .ret (.agg (o.withK key v).cells) := by
  refine FnP.intro Tryz.func96 rfl rfl (by simp [Tryz.ntmps96]) ?_
  simp only [argEnv, Tryz.ntmps96, Tryz.results96]
  have hb := Pob.bulk_eq o
  have hkp := kplace_le o.keys key
  refine AW.rS ?_
  refine AW.rSC ?_
  refine awOps.cons (awGuard.c1 (c_slices_BinarySearch_string_string _ o.keys key (by omega) hs) ?_)
  refine awOps.rn ?_
  refine AW.rSC ?_
  refine awOps.cons (awGuard.cH [] (h_Clone_string _ o.keys) ?_)
  refine awOps.rn ?_
  refine AW.rSC ?_
  refine awOps.cons (awGuard.cH [] (h_Clone_Object _ o.kids) ?_)
  refine awOps.rn ?_
  refine AW.seq ?_
  refine AW.rS ?_
  refine AW.c2 ?_ ?_
  · intro h13
    have hkl := kthere_lt h13
    refine AW.rL ?_
    refine AW.rS ?_
    refine AW.rt ?_
    rw [withK_there h13]
    refine ⟨by simp [objsAV_length], ?_⟩
    rw [← Pob.cells_eq v, objsAV_set, List.take_of_length_le (by simp [objsAV_length])]
    rfl
  · intro h13
    refine AW.rSC ?_
    refine awOps.cons (awGuard.cH [4, 7] (h_Ins_str _ o.keys key (kplace o.keys key) hkp) ?_)
    refine awOps.rn ?_
    refine AW.rLC ?_
    refine awOps.cons (awGuard.cH [6, 9] (h_Ins_obj _ o.kids v (kplace o.keys key) (by omega)) ?_)
    refine awOps.rn ?_
    refine AW.rS ?_
    refine AW.rt ?_
    rw [withK_new h13]
    refine ⟨⟨by rw [insAt_length]; exact Nat.le_refl _, by rw [insAt_length]; exact Nat.le_refl _⟩, ?_⟩
    rw [List.take_of_length_le (by rw [strsAV_length, insAt_length]; exact Nat.le_refl _), List.take_of_length_le (by rw [objsAV_length, insAt_length]; exact Nat.le_refl _)]
    rfl
end Go.Proofs

namespace Go.Proofs
open Go Aw
set_option linter.unusedSimpArgs false
set_option linter.unusedVariables false
set_option maxRecDepth 100000
set_option maxHeartbeats 4000000

theorem c_value_without (gl : List (Nat × AV)) (o : Pob) (i : Nat) (h : o.bulk ≤ 16777216) (hi : i < o.keys.length) (hl : o.keys.length = o.kids.length) : FnP Tryz.prog (gl) 125 [.agg o.cells, .int .i64 i] fun r => r = .ret (.agg (o.lessK i).cells) := by
  refine FnP.intro Tryz.func125 rfl rfl (by simp [Tryz.ntmps125]) ?_
  simp only [argEnv, Tryz.ntmps125, Tryz.results125]
  have hb := Pob.bulk_eq o
  refine AW.rS ?_
  refine AW.rSC ?_
  refine awOps.cons (awGuard.cH [] (h_Clone_string _ o.keys) ?_)
  refine awOps.rn ?_
  refine awOps.cons (awGuard.cH [3] (h_Del_str _ o.keys i hi) ?_)
  refine awOps.rn ?_
  refine AW.rSC ?_
  refine awOps.cons (awGuard.cH [] (h_Clone_Object _ o.kids) ?_)
  refine awOps.rn ?_
  refine awOps.cons (awGuard.cH [5] (h_Del_obj _ o.kids i (by omega)) ?_)
  refine awOps.rn ?_
  refine AW.rS ?_
  refine AW.rt ?_
  have e1 : i + (o.keys.length - (i + 1)) = (delAt o.keys i).length := by rw [delAt_length hi]; omega
  have e2 : i + (o.kids.length - (i + 1)) = (delAt o.kids i).length := by rw [delAt_length (by omega)]; omega
  rw [e1, e2, strsAV_take_len, objsAV_take_len]
  exact ⟨⟨Nat.le_refl _, Nat.le_refl _⟩, rfl⟩
theorem c_value_Drop (gl : List (Nat × AV)) (o : Pob) (key : List UInt8) (h : o.bulk ≤ 16777216) : FnP Tryz.prog (gl) 94 [.agg o.cells, .str key] fun r => r = .ret (.agg (dropO o key).cells) := by
  refine FnP.intro Tryz.func94 rfl rfl (by simp [Tryz.ntmps94]) ?_
  simp only [argEnv, Tryz.ntmps94, Tryz.results94]
  have hlk := dropO_bulk o key
  refine AW.rS ?_
  refine AW.seq ?_
  refine AW.rSC ?_
  refine awOps.cons (awGuard.c1 (c_value_keyed _ o) ?_)
  refine awOps.rn ?_
  refine awOps.cons (awGuard.cG (fun hg => c_value_Check _ o) ?_)
  refine awOps.rn ?_
  refine AW.c2 ?_ ?_
  · intro h8
    have hr := chk_rising h8.2 h8.1
    have hb := Pob.bulk_eq o
    refine AW.rSC ?_
    refine awOps.cons (awGuard.c1 (c_slices_BinarySearch_string_string _ o.keys key (by omega) (rising_incr hr)) ?_)
    refine awOps.rn ?_
    refine AW.rS ?_
    refine AW.c2 ?_ ?_
    · intro h13
      refine AW.rLC ?_
      refine awOps.cons (awGuard.c1 (c_value_without _ o (kplace o.keys key) h (kthere_lt h13) hr.1) ?_)
      refine awOps.rn ?_
      refine AW.rSC ?_
      refine awOps.cons (awGuard.c1 (c_value_Clone _ (o.lessK (kplace o.keys key)) (Nat.le_trans (Pob.lessK_bulk _ _) h)) ?_)
      refine awOps.rn ?_
      refine AW.rt ?_
      rw [dropO_yes (by simp [dropB, h8, h13])]
    · intro h13
      refine AW.skip ?_
      refine AW.rSC ?_
      refine awOps.cons (awGuard.c1 (c_value_Clone _ o h) ?_)
      refine awOps.rn ?_
      refine AW.rt ?_
      rw [dropO_no (by simp [dropB, h8, h13])]
  · intro h8
    refine AW.skip ?_
    refine AW.rSC ?_
    refine awOps.cons (awGuard.c1 (c_value_Clone _ o h) ?_)
    refine awOps.rn ?_
    refine AW.rt ?_
    rw [dropO_no (by simp only [dropB]; rcases h8 with h8 | h8 <;> simp [h8])]
theorem c_value_sound2 (gl : List (Nat × AV)) (o : Pob) (h : o.bulk ≤ 16777216) : FnP Tryz.prog (gl) 95 [.agg o.cells] fun r => r = .ret (.tup [.agg (if chk o 1 = 0 then o else Pob.null).cells, .int .i64 (chk o 1)]) := by
  refine FnP.intro Tryz.func95 rfl rfl (by simp [Tryz.ntmps95]) ?_
  simp only [argEnv, Tryz.ntmps95, Tryz.results95]
  refine AW.rS ?_
  refine AW.seq ?_
  refine AW.rSC ?_
  refine awOps.cons (awGuard.c1 (c_value_Check _ o) ?_)
  refine awOps.rn ?_
  refine AW.rS ?_
  refine AW.c2 ?_ ?_
  · intro h7
    refine AW.rS ?_
    refine AW.rt ?_
    rw [if_neg h7]; rfl
  · intro h7
    refine AW.skip ?_
    refine AW.rS ?_
    refine AW.rt ?_
    rw [if_pos h7, h7]
theorem c_value_Set (gl : List (Nat × AV)) (o : Pob) (key : List UInt8) (v : Pob) (h : o.bulk + v.bulk ≤ 16777200) : FnP Tryz.prog (gl) 56 [.agg o.cells, .str key, .agg v.cells] fun r => r = .ret (.tup [.agg (setO o key v).cells, .int .i64 (setE o key v)]) := by
  refine FnP.intro Tryz.func56 rfl rfl (by simp [Tryz.ntmps56]) ?_
  simp only [argEnv, Tryz.ntmps56, Tryz.results56]
  have hb := Pob.bulk_eq o
  have hw := Pob.withK_bulk o key v
  refine AW.rS ?_
  refine AW.seq ?_
  refine AW.rSC ?_
  refine awOps.cons (awGuard.c1 (c_value_keyed _ o) ?_)
  refine awOps.rn ?_
  refine AW.c2 ?_ ?_
  · intro h6
    refine AW.rS ?_
    refine AW.rt ?_
    rw [(set_unkeyed h6).1, (set_unkeyed h6).2]; rfl
  · intro h6
    refine AW.skip ?_
    refine AW.seq ?_
    refine AW.rSC ?_
    refine awOps.cons (awGuard.c1 (c_value_Check _ o) ?_)
    refine awOps.rn ?_
    refine AW.rS ?_
    refine AW.c2 ?_ ?_
    · intro h16
      refine AW.rS ?_
      refine AW.rt ?_
      rw [(set_bad h6 h16).1, (set_bad h6 h16).2]; rfl
    · intro h16
      refine AW.skip ?_
      refine AW.seq ?_
      refine AW.rS ?_
      refine AW.c2 ?_ ?_
      · intro h23
        refine AW.rSC ?_
        refine awOps.cons (awGuard.c1 (c_value_Drop _ o key (by omega)) ?_)
        refine awOps.rn ?_
        refine AW.rt ?_
        rw [(set_null h6 h16 h23).1, (set_null h6 h16 h23).2]
      · intro h23
        refine AW.skip ?_
        have hr := chk_rising h16 (by simpa using h6)
        refine AW.rSC ?_
        refine awOps.cons (awGuard.c1 (c_value_with _ o key v (by omega) (rising_incr hr) hr.1) ?_)
        refine awOps.rn ?_
        refine awOps.cons (awGuard.c1 (c_value_Clone _ (o.withK key v) (by omega)) ?_)
        refine awOps.rn ?_
        refine awOps.cons (awGuard.c1 (c_value_sound2 _ (o.withK key v) (by omega)) ?_)
        refine awOps.rn ?_
        refine AW.rt ?_
        rw [(set_val h6 h16 h23).1, (set_val h6 h16 h23).2]
end Go.Proofs
