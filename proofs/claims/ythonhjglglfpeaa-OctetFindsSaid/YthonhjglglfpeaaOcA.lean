/- A part of the proof of a law of the seat: no condition of its own. -/
import Derived.Test.YthonhjglglfpeaaOcBase
import Derived.Test.YthonhjglglfpeaaCore12
namespace Go.Proofs
open Go Aw
set_option linter.unusedSimpArgs false


theorem c_stringslite_HasPrefix (gl : List (Nat × AV)) (s p : List UInt8) : FnP Try.prog gl 39 [.str s, .str p] fun r => r = .ret (.bool (p.isPrefixOf s)) := by
  refine FnP.intro Try.func39 rfl rfl (by simp [Try.ntmps39]) ?_
  simp only [argEnv, Try.ntmps39, Try.results39]
  refine AW.seqReg (by simp only [go_sem, seval]; exact rfl) (by simp only [go_sem, seval]) ?_
  refine AW.seqReg (by simp only [go_sem, seval]; exact rfl) ?_ ?_
  · simp
  refine AW.ret (ret_fin ?_)
  simp only [go_sem, seval]
  rw [isPrefixOf_take]

theorem c_strings_HasPrefix (gl : List (Nat × AV)) (s p : List UInt8) : FnP Try.prog gl 33 [.str s, .str p] fun r => r = .ret (.bool (p.isPrefixOf s)) := by
  refine FnP.intro Try.func33 rfl rfl (by simp [Try.ntmps33]) ?_
  simp only [argEnv, Try.ntmps33, Try.results33]
  refine AW.seqReg (by simp only [go_sem, seval]; exact rfl) (by simp only [go_sem, seval]) ?_
  refine AW.seqRegN (by simp only [go_sem, seval]; exact rfl) (by simp only [go_sem, seval]) ?_
  refine awOps.cons (awGuard.call1 rfl (by simp only [go_sem, seval]; exact rfl) (by simp only [go_sem, seval]; exact rfl) (by simp only [go_sem, seval]) (by simp only [go_sem, seval]) (by simp only [go_sem, seval]) (c_stringslite_HasPrefix _ _ _) ?_)
  refine awOps.run (by simp only [go_sem, seval]; exact rfl) (by simp only [go_sem, seval]) ?_
  refine AW.ret (ret_fin ?_)
  simp only [go_sem, seval]

def beginsL (s p : List UInt8) (at_ : Int) : Bool := decide (0 ≤ at_) && decide (at_ ≤ s.length) && p.isPrefixOf (s.drop at_.toNat)
theorem c_octet_Begins (gl : List (Nat × AV)) (s p : List UInt8) (at_ : Int) : FnP Try.prog gl 24 [.str s, .str p, .int .i64 at_] fun r => r = .ret (.bool (beginsL s p at_)) := by
  refine FnP.intro Try.func24 rfl rfl (by simp [Try.ntmps24]) ?_
  simp only [argEnv, Try.ntmps24, Try.results24]
  refine AW.seqReg (by simp only [go_sem, seval]; exact rfl) (by ((try simp only [go_sem, seval]); try (first | trivial | omega | (simp only [decide_eq_true_eq, decide_eq_false_iff_not, Bool.cond_false_right, Bool.cond_true_left, Bool.and_eq_true, Bool.or_eq_true, Bool.and_eq_false_iff, Bool.or_eq_false_iff, Bool.not_eq_true', Bool.not_eq_false', Bool.not_eq_eq_eq_not, Bool.not_true, Bool.not_false, beq_true, beq_false, Int.not_lt, Int.not_le, Int.ofNat_lt, Int.ofNat_le]; omega) | (simp; done) | (simp; omega)))) ?_
  refine AW.seqRegN (by simp only [go_sem, seval]; exact rfl) ?_ ?_
  · intro h
    simp only [Bool.cond_false_right, Bool.and_eq_true, decide_eq_true_eq] at h
    omega
  refine awOps.cons (awGuard.callG rfl (by simp only [go_sem, seval]; exact rfl) (by simp only [go_sem, seval]; exact rfl) (by simp only [go_sem, seval]; exact rfl) (by simp only [go_sem, seval]) (by simp only [go_sem, seval]) ?_ (fun hg => c_strings_HasPrefix _ _ _) ?_)
  · exact fun h => ⟨h, trivial⟩
  refine awOps.run (by simp only [go_sem, seval]; exact rfl) (by ((try simp only [go_sem, seval]); try (first | trivial | omega | (simp only [decide_eq_true_eq, decide_eq_false_iff_not, Bool.cond_false_right, Bool.cond_true_left, Bool.and_eq_true, Bool.or_eq_true, Bool.and_eq_false_iff, Bool.or_eq_false_iff, Bool.not_eq_true', Bool.not_eq_false', Bool.not_eq_eq_eq_not, Bool.not_true, Bool.not_false, beq_true, beq_false, Int.not_lt, Int.not_le, Int.ofNat_lt, Int.ofNat_le]; omega) | (simp; done) | (simp; omega)))) ?_
  refine AW.ret ?_
  repeat (with_reducible first | refine ret_unblock ?_ | refine ret_andThen ?_)
  refine ret_fin ?_
  simp only [go_sem, seval]
  simp [beginsL]

def digitL (c : Int) : Int := if 48 ≤ c ∧ c ≤ 57 then c - 48 else if 65 ≤ c ∧ c ≤ 70 then c - 55 else if 97 ≤ c ∧ c ≤ 102 then c - 87 else -1
theorem c_octet_Digit (gl : List (Nat × AV)) (c : Int) (h0 : 0 ≤ c := by first | omega | exact u8_le _ | assumption | (simp; done) | (simp; omega)) (h1 : c ≤ 255 := by first | omega | exact u8_le _ | assumption | (simp; done) | (simp; omega)) : FnP Try.prog gl 16 [.int .u8 c] fun r => r = .ret (.int .i64 (digitL c)) := by
  refine FnP.intro Try.func16 rfl rfl (by simp [Try.ntmps16]) ?_
  simp only [argEnv, Try.ntmps16, Try.results16]
  refine AW.seqReg (by simp only [go_sem, seval]; exact rfl) (by ((try simp only [go_sem, seval]); try (first | trivial | omega | (simp only [decide_eq_true_eq, decide_eq_false_iff_not, Bool.cond_false_right, Bool.cond_true_left, Bool.and_eq_true, Bool.or_eq_true, Bool.and_eq_false_iff, Bool.or_eq_false_iff, Bool.not_eq_true', Bool.not_eq_false', Bool.not_eq_eq_eq_not, Bool.not_true, Bool.not_false, beq_true, beq_false, Int.not_lt, Int.not_le, Int.ofNat_lt, Int.ofNat_le]; omega) | (simp; done) | (simp; omega)))) ?_
  refine AW.seq ?_
  refine AW.block ?_
  refine AW.seqReg (by simp only [go_sem, seval]; exact rfl) (by ((try simp only [go_sem, seval]); try (first | trivial | omega | (simp only [decide_eq_true_eq, decide_eq_false_iff_not, Bool.cond_false_right, Bool.cond_true_left, Bool.and_eq_true, Bool.or_eq_true, Bool.and_eq_false_iff, Bool.or_eq_false_iff, Bool.not_eq_true', Bool.not_eq_false', Bool.not_eq_eq_eq_not, Bool.not_true, Bool.not_false, beq_true, beq_false, Int.not_lt, Int.not_le, Int.ofNat_lt, Int.ofNat_le]; omega) | (simp; done) | (simp; omega)))) ?_
  refine AW.cond (by simp only [go_sem, seval]; exact rfl) (by ((try simp only [go_sem, seval]); try (first | trivial | omega | (simp only [decide_eq_true_eq, decide_eq_false_iff_not, Bool.cond_false_right, Bool.cond_true_left, Bool.and_eq_true, Bool.or_eq_true, Bool.and_eq_false_iff, Bool.or_eq_false_iff, Bool.not_eq_true', Bool.not_eq_false', Bool.not_eq_eq_eq_not, Bool.not_true, Bool.not_false, beq_true, beq_false, Int.not_lt, Int.not_le, Int.ofNat_lt, Int.ofNat_le]; omega) | (simp; done) | (simp; omega)))) ?_ ?_
  · intro hc
    try simp only [decide_eq_true_eq, decide_eq_false_iff_not, Bool.cond_false_right, Bool.cond_true_left, Bool.and_eq_true, Bool.or_eq_true, Bool.and_eq_false_iff, Bool.or_eq_false_iff, Bool.not_eq_true', Bool.not_eq_false', Bool.not_eq_eq_eq_not, Bool.not_true, Bool.not_false, beq_true, beq_false, Int.not_lt, Int.not_le, Int.ofNat_lt, Int.ofNat_le] at hc
    refine AW.seqReg (by simp only [go_sem, seval]; exact rfl) (by ((try simp only [go_sem, seval]); try (first | trivial | omega | (simp only [decide_eq_true_eq, decide_eq_false_iff_not, Bool.cond_false_right, Bool.cond_true_left, Bool.and_eq_true, Bool.or_eq_true, Bool.and_eq_false_iff, Bool.or_eq_false_iff, Bool.not_eq_true', Bool.not_eq_false', Bool.not_eq_eq_eq_not, Bool.not_true, Bool.not_false, beq_true, beq_false, Int.not_lt, Int.not_le, Int.ofNat_lt, Int.ofNat_le]; omega) | (simp; done) | (simp; omega)))) ?_
    refine AW.ret ?_
    repeat (with_reducible first | refine ret_unblock ?_ | refine ret_andThen ?_)
    refine ret_fin ?_
    simp only [go_sem, seval]
    simp (disch := omega) only [IntWalk.i64_in, IntWalk.u8_in, IntWalk.u64_in]
    rw [digitL, if_pos hc]
  · intro hc
    try simp only [decide_eq_true_eq, decide_eq_false_iff_not, Bool.cond_false_right, Bool.cond_true_left, Bool.and_eq_true, Bool.or_eq_true, Bool.and_eq_false_iff, Bool.or_eq_false_iff, Bool.not_eq_true', Bool.not_eq_false', Bool.not_eq_eq_eq_not, Bool.not_true, Bool.not_false, beq_true, beq_false, Int.not_lt, Int.not_le, Int.ofNat_lt, Int.ofNat_le] at hc
    refine AW.seqReg (by simp only [go_sem, seval]; exact rfl) (by ((try simp only [go_sem, seval]); try (first | trivial | omega | (simp only [decide_eq_true_eq, decide_eq_false_iff_not, Bool.cond_false_right, Bool.cond_true_left, Bool.and_eq_true, Bool.or_eq_true, Bool.and_eq_false_iff, Bool.or_eq_false_iff, Bool.not_eq_true', Bool.not_eq_false', Bool.not_eq_eq_eq_not, Bool.not_true, Bool.not_false, beq_true, beq_false, Int.not_lt, Int.not_le, Int.ofNat_lt, Int.ofNat_le]; omega) | (simp; done) | (simp; omega)))) ?_
    refine AW.cond (by simp only [go_sem, seval]; exact rfl) (by ((try simp only [go_sem, seval]); try (first | trivial | omega | (simp only [decide_eq_true_eq, decide_eq_false_iff_not, Bool.cond_false_right, Bool.cond_true_left, Bool.and_eq_true, Bool.or_eq_true, Bool.and_eq_false_iff, Bool.or_eq_false_iff, Bool.not_eq_true', Bool.not_eq_false', Bool.not_eq_eq_eq_not, Bool.not_true, Bool.not_false, beq_true, beq_false, Int.not_lt, Int.not_le, Int.ofNat_lt, Int.ofNat_le]; omega) | (simp; done) | (simp; omega)))) ?_ ?_
    · intro hc
      try simp only [decide_eq_true_eq, decide_eq_false_iff_not, Bool.cond_false_right, Bool.cond_true_left, Bool.and_eq_true, Bool.or_eq_true, Bool.and_eq_false_iff, Bool.or_eq_false_iff, Bool.not_eq_true', Bool.not_eq_false', Bool.not_eq_eq_eq_not, Bool.not_true, Bool.not_false, beq_true, beq_false, Int.not_lt, Int.not_le, Int.ofNat_lt, Int.ofNat_le] at hc
      refine AW.seqReg (by simp only [go_sem, seval]; exact rfl) (by ((try simp only [go_sem, seval]); try (first | trivial | omega | (simp only [decide_eq_true_eq, decide_eq_false_iff_not, Bool.cond_false_right, Bool.cond_true_left, Bool.and_eq_true, Bool.or_eq_true, Bool.and_eq_false_iff, Bool.or_eq_false_iff, Bool.not_eq_true', Bool.not_eq_false', Bool.not_eq_eq_eq_not, Bool.not_true, Bool.not_false, beq_true, beq_false, Int.not_lt, Int.not_le, Int.ofNat_lt, Int.ofNat_le]; omega) | (simp; done) | (simp; omega)))) ?_
      refine AW.ret ?_
      repeat (with_reducible first | refine ret_unblock ?_ | refine ret_andThen ?_)
      refine ret_fin ?_
      simp only [go_sem, seval]
      simp (disch := omega) only [IntWalk.i64_in, IntWalk.u8_in, IntWalk.u64_in]
      rw [digitL, if_neg (by omega), if_pos hc, show c - 65 + 10 = c - 55 from by omega]
    · intro hc
      try simp only [decide_eq_true_eq, decide_eq_false_iff_not, Bool.cond_false_right, Bool.cond_true_left, Bool.and_eq_true, Bool.or_eq_true, Bool.and_eq_false_iff, Bool.or_eq_false_iff, Bool.not_eq_true', Bool.not_eq_false', Bool.not_eq_eq_eq_not, Bool.not_true, Bool.not_false, beq_true, beq_false, Int.not_lt, Int.not_le, Int.ofNat_lt, Int.ofNat_le] at hc
      refine AW.seqReg (by simp only [go_sem, seval]; exact rfl) (by ((try simp only [go_sem, seval]); try (first | trivial | omega | (simp only [decide_eq_true_eq, decide_eq_false_iff_not, Bool.cond_false_right, Bool.cond_true_left, Bool.and_eq_true, Bool.or_eq_true, Bool.and_eq_false_iff, Bool.or_eq_false_iff, Bool.not_eq_true', Bool.not_eq_false', Bool.not_eq_eq_eq_not, Bool.not_true, Bool.not_false, beq_true, beq_false, Int.not_lt, Int.not_le, Int.ofNat_lt, Int.ofNat_le]; omega) | (simp; done) | (simp; omega)))) ?_
      refine AW.cond (by simp only [go_sem, seval]; exact rfl) (by ((try simp only [go_sem, seval]); try (first | trivial | omega | (simp only [decide_eq_true_eq, decide_eq_false_iff_not, Bool.cond_false_right, Bool.cond_true_left, Bool.and_eq_true, Bool.or_eq_true, Bool.and_eq_false_iff, Bool.or_eq_false_iff, Bool.not_eq_true', Bool.not_eq_false', Bool.not_eq_eq_eq_not, Bool.not_true, Bool.not_false, beq_true, beq_false, Int.not_lt, Int.not_le, Int.ofNat_lt, Int.ofNat_le]; omega) | (simp; done) | (simp; omega)))) ?_ ?_
      · intro hc
        try simp only [decide_eq_true_eq, decide_eq_false_iff_not, Bool.cond_false_right, Bool.cond_true_left, Bool.and_eq_true, Bool.or_eq_true, Bool.and_eq_false_iff, Bool.or_eq_false_iff, Bool.not_eq_true', Bool.not_eq_false', Bool.not_eq_eq_eq_not, Bool.not_true, Bool.not_false, beq_true, beq_false, Int.not_lt, Int.not_le, Int.ofNat_lt, Int.ofNat_le] at hc
        refine AW.seqReg (by simp only [go_sem, seval]; exact rfl) (by ((try simp only [go_sem, seval]); try (first | trivial | omega | (simp only [decide_eq_true_eq, decide_eq_false_iff_not, Bool.cond_false_right, Bool.cond_true_left, Bool.and_eq_true, Bool.or_eq_true, Bool.and_eq_false_iff, Bool.or_eq_false_iff, Bool.not_eq_true', Bool.not_eq_false', Bool.not_eq_eq_eq_not, Bool.not_true, Bool.not_false, beq_true, beq_false, Int.not_lt, Int.not_le, Int.ofNat_lt, Int.ofNat_le]; omega) | (simp; done) | (simp; omega)))) ?_
        refine AW.ret ?_
        repeat (with_reducible first | refine ret_unblock ?_ | refine ret_andThen ?_)
        refine ret_fin ?_
        simp only [go_sem, seval]
        simp (disch := omega) only [IntWalk.i64_in, IntWalk.u8_in, IntWalk.u64_in]
        rw [digitL, if_neg (by omega), if_neg (by omega), if_pos hc, show c - 97 + 10 = c - 87 from by omega]
      · intro hc
        try simp only [decide_eq_true_eq, decide_eq_false_iff_not, Bool.cond_false_right, Bool.cond_true_left, Bool.and_eq_true, Bool.or_eq_true, Bool.and_eq_false_iff, Bool.or_eq_false_iff, Bool.not_eq_true', Bool.not_eq_false', Bool.not_eq_eq_eq_not, Bool.not_true, Bool.not_false, beq_true, beq_false, Int.not_lt, Int.not_le, Int.ofNat_lt, Int.ofNat_le] at hc
        refine AW.skip ?_
        refine AW.seqReg (by simp only [go_sem, seval]; exact rfl) (by ((try simp only [go_sem, seval]); try (first | trivial | omega | (simp only [decide_eq_true_eq, decide_eq_false_iff_not, Bool.cond_false_right, Bool.cond_true_left, Bool.and_eq_true, Bool.or_eq_true, Bool.and_eq_false_iff, Bool.or_eq_false_iff, Bool.not_eq_true', Bool.not_eq_false', Bool.not_eq_eq_eq_not, Bool.not_true, Bool.not_false, beq_true, beq_false, Int.not_lt, Int.not_le, Int.ofNat_lt, Int.ofNat_le]; omega) | (simp; done) | (simp; omega)))) ?_
        refine AW.ret ?_
        repeat (with_reducible first | refine ret_unblock ?_ | refine ret_andThen ?_)
        refine ret_fin ?_
        simp only [go_sem, seval]
        rw [digitL, if_neg (by omega), if_neg (by omega), if_neg (by omega)]
end Go.Proofs
