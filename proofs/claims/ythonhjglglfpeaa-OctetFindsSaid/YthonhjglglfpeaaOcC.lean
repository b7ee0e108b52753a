/- A part of the proof of a law of the seat: no condition of its own. -/
import Derived.Test.YthonhjglglfpeaaOcA
import Derived.Test.YthonhjglglfpeaaOcShelf
namespace Go.Proofs
open Go Aw
set_option linter.unusedSimpArgs false

theorem c_strings_IndexByte (gl : List (Nat × AV)) (s : List UInt8) (c : Int) : FnP Try.prog gl 30 [.str s, .int .u8 c] fun r => r = .ret (.int .i64 (Lib.indexByte s c.toNat.toUInt8)) := by
  refine FnP.same (enters_of Try.func30 rfl rfl) ?_
  intro m vs _ hv
  simp only [RepL, Rep] at hv
  obtain ⟨_, _, rfl, rfl, _, _, rfl, rfl, rfl⟩ := hv
  refine (Try.strings_IndexByte ⟨s.toArray⟩ c m.w).mono ?_
  rintro e w' ⟨rfl, rfl⟩
  exact ⟨⟨_, rfl, fun m => by simp only [Rep]⟩, rfl⟩

theorem c_octet_ends (gl : List (Nat × AV)) (c : Int) : FnP Try.prog gl 34 [.int .u8 c] fun r => r = .ret (.bool (decide (c = 13) || decide (c = 10))) := by
  refine FnP.intro Try.func34 rfl rfl (by simp [Try.ntmps34]) ?_
  simp only [argEnv, Try.ntmps34, Try.results34]
  refine AW.seqReg (by simp only [go_sem, seval]; exact rfl) (by ((try simp only [go_sem, seval]); try (first | trivial | omega | (simp only [decide_eq_true_eq, decide_eq_false_iff_not, Bool.cond_false_right, Bool.cond_true_left, Bool.and_eq_true, Bool.or_eq_true, Bool.and_eq_false_iff, Bool.or_eq_false_iff, Bool.not_eq_true', Bool.not_eq_false', Bool.not_eq_eq_eq_not, Bool.not_true, Bool.not_false, beq_true, beq_false, Int.not_lt, Int.not_le, Int.ofNat_lt, Int.ofNat_le]; omega) | (simp; done) | (simp; omega)))) ?_
  refine AW.seqReg (by simp only [go_sem, seval]; exact rfl) (by ((try simp only [go_sem, seval]); try (first | trivial | omega | (simp only [decide_eq_true_eq, decide_eq_false_iff_not, Bool.cond_false_right, Bool.cond_true_left, Bool.and_eq_true, Bool.or_eq_true, Bool.and_eq_false_iff, Bool.or_eq_false_iff, Bool.not_eq_true', Bool.not_eq_false', Bool.not_eq_eq_eq_not, Bool.not_true, Bool.not_false, beq_true, beq_false, Int.not_lt, Int.not_le, Int.ofNat_lt, Int.ofNat_le]; omega) | (simp; done) | (simp; omega)))) ?_
  refine AW.ret ?_
  repeat (with_reducible first | refine ret_unblock ?_ | refine ret_andThen ?_)
  refine ret_fin ?_
  simp only [go_sem, seval]
  simp

def whiteL (c : Int) : Bool := decide (0 ≤ Lib.indexByte [0, 9, 10, 12, 13, 32] c.toNat.toUInt8)
def delimL (c : Int) : Bool := decide (0 ≤ Lib.indexByte [40, 41, 60, 62, 91, 93, 123, 125, 47, 37] c.toNat.toUInt8)
theorem c_octet_White (gl : List (Nat × AV)) (c : Int) : FnP Try.prog gl 10 [.int .u8 c] fun r => r = .ret (.bool (whiteL c)) := by
  refine FnP.intro Try.func10 rfl rfl (by simp [Try.ntmps10]) ?_
  simp only [argEnv, Try.ntmps10, Try.results10]
  refine AW.seqReg (by simp only [go_sem, seval]; exact rfl) (by ((try simp only [go_sem, seval]); try (first | trivial | omega | (simp only [decide_eq_true_eq, decide_eq_false_iff_not, Bool.cond_false_right, Bool.cond_true_left, Bool.and_eq_true, Bool.or_eq_true, Bool.and_eq_false_iff, Bool.or_eq_false_iff, Bool.not_eq_true', Bool.not_eq_false', Bool.not_eq_eq_eq_not, Bool.not_true, Bool.not_false, beq_true, beq_false, Int.not_lt, Int.not_le, Int.ofNat_lt, Int.ofNat_le]; omega) | (simp; done) | (simp; omega)))) ?_
  refine AW.seqRegN (by simp only [go_sem, seval]; exact rfl) (by ((try simp only [go_sem, seval]); try (first | trivial | omega | (simp only [decide_eq_true_eq, decide_eq_false_iff_not, Bool.cond_false_right, Bool.cond_true_left, Bool.and_eq_true, Bool.or_eq_true, Bool.and_eq_false_iff, Bool.or_eq_false_iff, Bool.not_eq_true', Bool.not_eq_false', Bool.not_eq_eq_eq_not, Bool.not_true, Bool.not_false, beq_true, beq_false, Int.not_lt, Int.not_le, Int.ofNat_lt, Int.ofNat_le]; omega) | (simp; done) | (simp; omega)))) ?_
  refine awOps.cons (awGuard.call1 rfl (by simp only [go_sem, seval]; exact rfl) (by simp only [go_sem, seval]; exact rfl) (by simp only [go_sem, seval]) (by ((try simp only [go_sem, seval]); try (first | trivial | omega | (simp only [decide_eq_true_eq, decide_eq_false_iff_not, Bool.cond_false_right, Bool.cond_true_left, Bool.and_eq_true, Bool.or_eq_true, Bool.and_eq_false_iff, Bool.or_eq_false_iff, Bool.not_eq_true', Bool.not_eq_false', Bool.not_eq_eq_eq_not, Bool.not_true, Bool.not_false, beq_true, beq_false, Int.not_lt, Int.not_le, Int.ofNat_lt, Int.ofNat_le]; omega) | (simp; done) | (simp; omega)))) (by ((try simp only [go_sem, seval]); try (first | trivial | omega | (simp only [decide_eq_true_eq, decide_eq_false_iff_not, Bool.cond_false_right, Bool.cond_true_left, Bool.and_eq_true, Bool.or_eq_true, Bool.and_eq_false_iff, Bool.or_eq_false_iff, Bool.not_eq_true', Bool.not_eq_false', Bool.not_eq_eq_eq_not, Bool.not_true, Bool.not_false, beq_true, beq_false, Int.not_lt, Int.not_le, Int.ofNat_lt, Int.ofNat_le]; omega) | (simp; done) | (simp; omega)))) (c_strings_IndexByte _ _ _) ?_)
  refine awOps.run (by simp only [go_sem, seval]; exact rfl) (by ((try simp only [go_sem, seval]); try (first | trivial | omega | (simp only [decide_eq_true_eq, decide_eq_false_iff_not, Bool.cond_false_right, Bool.cond_true_left, Bool.and_eq_true, Bool.or_eq_true, Bool.and_eq_false_iff, Bool.or_eq_false_iff, Bool.not_eq_true', Bool.not_eq_false', Bool.not_eq_eq_eq_not, Bool.not_true, Bool.not_false, beq_true, beq_false, Int.not_lt, Int.not_le, Int.ofNat_lt, Int.ofNat_le]; omega) | (simp; done) | (simp; omega)))) ?_
  refine AW.ret ?_
  repeat (with_reducible first | refine ret_unblock ?_ | refine ret_andThen ?_)
  refine ret_fin ?_
  simp only [go_sem, seval]
  rfl
theorem c_octet_Delim (gl : List (Nat × AV)) (c : Int) : FnP Try.prog gl 12 [.int .u8 c] fun r => r = .ret (.bool (delimL c)) := by
  refine FnP.intro Try.func12 rfl rfl (by simp [Try.ntmps12]) ?_
  simp only [argEnv, Try.ntmps12, Try.results12]
  refine AW.seqReg (by simp only [go_sem, seval]; exact rfl) (by ((try simp only [go_sem, seval]); try (first | trivial | omega | (simp only [decide_eq_true_eq, decide_eq_false_iff_not, Bool.cond_false_right, Bool.cond_true_left, Bool.and_eq_true, Bool.or_eq_true, Bool.and_eq_false_iff, Bool.or_eq_false_iff, Bool.not_eq_true', Bool.not_eq_false', Bool.not_eq_eq_eq_not, Bool.not_true, Bool.not_false, beq_true, beq_false, Int.not_lt, Int.not_le, Int.ofNat_lt, Int.ofNat_le]; omega) | (simp; done) | (simp; omega)))) ?_
  refine AW.seqRegN (by simp only [go_sem, seval]; exact rfl) (by ((try simp only [go_sem, seval]); try (first | trivial | omega | (simp only [decide_eq_true_eq, decide_eq_false_iff_not, Bool.cond_false_right, Bool.cond_true_left, Bool.and_eq_true, Bool.or_eq_true, Bool.and_eq_false_iff, Bool.or_eq_false_iff, Bool.not_eq_true', Bool.not_eq_false', Bool.not_eq_eq_eq_not, Bool.not_true, Bool.not_false, beq_true, beq_false, Int.not_lt, Int.not_le, Int.ofNat_lt, Int.ofNat_le]; omega) | (simp; done) | (simp; omega)))) ?_
  refine awOps.cons (awGuard.call1 rfl (by simp only [go_sem, seval]; exact rfl) (by simp only [go_sem, seval]; exact rfl) (by simp only [go_sem, seval]) (by ((try simp only [go_sem, seval]); try (first | trivial | omega | (simp only [decide_eq_true_eq, decide_eq_false_iff_not, Bool.cond_false_right, Bool.cond_true_left, Bool.and_eq_true, Bool.or_eq_true, Bool.and_eq_false_iff, Bool.or_eq_false_iff, Bool.not_eq_true', Bool.not_eq_false', Bool.not_eq_eq_eq_not, Bool.not_true, Bool.not_false, beq_true, beq_false, Int.not_lt, Int.not_le, Int.ofNat_lt, Int.ofNat_le]; omega) | (simp; done) | (simp; omega)))) (by ((try simp only [go_sem, seval]); try (first | trivial | omega | (simp only [decide_eq_true_eq, decide_eq_false_iff_not, Bool.cond_false_right, Bool.cond_true_left, Bool.and_eq_true, Bool.or_eq_true, Bool.and_eq_false_iff, Bool.or_eq_false_iff, Bool.not_eq_true', Bool.not_eq_false', Bool.not_eq_eq_eq_not, Bool.not_true, Bool.not_false, beq_true, beq_false, Int.not_lt, Int.not_le, Int.ofNat_lt, Int.ofNat_le]; omega) | (simp; done) | (simp; omega)))) (c_strings_IndexByte _ _ _) ?_)
  refine awOps.run (by simp only [go_sem, seval]; exact rfl) (by ((try simp only [go_sem, seval]); try (first | trivial | omega | (simp only [decide_eq_true_eq, decide_eq_false_iff_not, Bool.cond_false_right, Bool.cond_true_left, Bool.and_eq_true, Bool.or_eq_true, Bool.and_eq_false_iff, Bool.or_eq_false_iff, Bool.not_eq_true', Bool.not_eq_false', Bool.not_eq_eq_eq_not, Bool.not_true, Bool.not_false, beq_true, beq_false, Int.not_lt, Int.not_le, Int.ofNat_lt, Int.ofNat_le]; omega) | (simp; done) | (simp; omega)))) ?_
  refine AW.ret ?_
  repeat (with_reducible first | refine ret_unblock ?_ | refine ret_andThen ?_)
  refine ret_fin ?_
  simp only [go_sem, seval]
  rfl
theorem c_octet_Regular (gl : List (Nat × AV)) (c : Int) : FnP Try.prog gl 14 [.int .u8 c] fun r => r = .ret (.bool (!whiteL c && !delimL c)) := by
  refine FnP.intro Try.func14 rfl rfl (by simp [Try.ntmps14]) ?_
  simp only [argEnv, Try.ntmps14, Try.results14]
  refine AW.seqReg (by simp only [go_sem, seval]; exact rfl) (by ((try simp only [go_sem, seval]); try (first | trivial | omega | (simp only [decide_eq_true_eq, decide_eq_false_iff_not, Bool.cond_false_right, Bool.cond_true_left, Bool.and_eq_true, Bool.or_eq_true, Bool.and_eq_false_iff, Bool.or_eq_false_iff, Bool.not_eq_true', Bool.not_eq_false', Bool.not_eq_eq_eq_not, Bool.not_true, Bool.not_false, beq_true, beq_false, Int.not_lt, Int.not_le, Int.ofNat_lt, Int.ofNat_le]; omega) | (simp; done) | (simp; omega)))) ?_
  refine AW.seqRegN (by simp only [go_sem, seval]; exact rfl) (by ((try simp only [go_sem, seval]); try (first | trivial | omega | (simp only [decide_eq_true_eq, decide_eq_false_iff_not, Bool.cond_false_right, Bool.cond_true_left, Bool.and_eq_true, Bool.or_eq_true, Bool.and_eq_false_iff, Bool.or_eq_false_iff, Bool.not_eq_true', Bool.not_eq_false', Bool.not_eq_eq_eq_not, Bool.not_true, Bool.not_false, beq_true, beq_false, Int.not_lt, Int.not_le, Int.ofNat_lt, Int.ofNat_le]; omega) | (simp; done) | (simp; omega)))) ?_
  refine awOps.cons (awGuard.call1 rfl (by simp only [go_sem, seval]; exact rfl) (by simp only [go_sem, seval]; exact rfl) (by simp only [go_sem, seval]) (by ((try simp only [go_sem, seval]); try (first | trivial | omega | (simp only [decide_eq_true_eq, decide_eq_false_iff_not, Bool.cond_false_right, Bool.cond_true_left, Bool.and_eq_true, Bool.or_eq_true, Bool.and_eq_false_iff, Bool.or_eq_false_iff, Bool.not_eq_true', Bool.not_eq_false', Bool.not_eq_eq_eq_not, Bool.not_true, Bool.not_false, beq_true, beq_false, Int.not_lt, Int.not_le, Int.ofNat_lt, Int.ofNat_le]; omega) | (simp; done) | (simp; omega)))) (by ((try simp only [go_sem, seval]); try (first | trivial | omega | (simp only [decide_eq_true_eq, decide_eq_false_iff_not, Bool.cond_false_right, Bool.cond_true_left, Bool.and_eq_true, Bool.or_eq_true, Bool.and_eq_false_iff, Bool.or_eq_false_iff, Bool.not_eq_true', Bool.not_eq_false', Bool.not_eq_eq_eq_not, Bool.not_true, Bool.not_false, beq_true, beq_false, Int.not_lt, Int.not_le, Int.ofNat_lt, Int.ofNat_le]; omega) | (simp; done) | (simp; omega)))) (c_octet_White _ _) ?_)
  refine awOps.run (by simp only [go_sem, seval]; exact rfl) (by ((try simp only [go_sem, seval]); try (first | trivial | omega | (simp only [decide_eq_true_eq, decide_eq_false_iff_not, Bool.cond_false_right, Bool.cond_true_left, Bool.and_eq_true, Bool.or_eq_true, Bool.and_eq_false_iff, Bool.or_eq_false_iff, Bool.not_eq_true', Bool.not_eq_false', Bool.not_eq_eq_eq_not, Bool.not_true, Bool.not_false, beq_true, beq_false, Int.not_lt, Int.not_le, Int.ofNat_lt, Int.ofNat_le]; omega) | (simp; done) | (simp; omega)))) ?_
  refine awOps.cons (awGuard.callG rfl (by simp only [go_sem, seval]; exact rfl) (by simp only [go_sem, seval]; exact rfl) (by simp only [go_sem, seval]; exact rfl) (by simp only [go_sem, seval]) (by simp only [go_sem, seval]) (by ((try simp only [go_sem, seval]); try (first | trivial | omega | (simp only [decide_eq_true_eq, decide_eq_false_iff_not, Bool.cond_false_right, Bool.cond_true_left, Bool.and_eq_true, Bool.or_eq_true, Bool.and_eq_false_iff, Bool.or_eq_false_iff, Bool.not_eq_true', Bool.not_eq_false', Bool.not_eq_eq_eq_not, Bool.not_true, Bool.not_false, beq_true, beq_false, Int.not_lt, Int.not_le, Int.ofNat_lt, Int.ofNat_le]; omega) | (simp; done) | (simp; omega)))) (fun hg => c_octet_Delim _ _) ?_)
  refine awOps.run (by simp only [go_sem, seval]; exact rfl) (by ((try simp only [go_sem, seval]); try (first | trivial | omega | (simp only [decide_eq_true_eq, decide_eq_false_iff_not, Bool.cond_false_right, Bool.cond_true_left, Bool.and_eq_true, Bool.or_eq_true, Bool.and_eq_false_iff, Bool.or_eq_false_iff, Bool.not_eq_true', Bool.not_eq_false', Bool.not_eq_eq_eq_not, Bool.not_true, Bool.not_false, beq_true, beq_false, Int.not_lt, Int.not_le, Int.ofNat_lt, Int.ofNat_le]; omega) | (simp; done) | (simp; omega)))) ?_
  refine AW.ret ?_
  repeat (with_reducible first | refine ret_unblock ?_ | refine ret_andThen ?_)
  refine ret_fin ?_
  simp only [go_sem, seval]
  simp
end Go.Proofs
