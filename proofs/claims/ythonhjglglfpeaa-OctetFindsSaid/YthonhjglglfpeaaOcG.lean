/- A part of the proof of a law of the seat: no condition of its own. -/
import Derived.Test.YthonhjglglfpeaaOcF
namespace Go.Proofs
open Go Aw
set_option linter.unusedSimpArgs false
set_option maxRecDepth 100000
set_option maxHeartbeats 4000000

def skipN : Bool → List UInt8 → Nat
  | _, [] => 0
  | r, c :: l => if r = true then skipN (!(decide ((c.toNat : Int) = 13) || decide ((c.toNat : Int) = 10))) l + 1 else if (c.toNat : Int) = 37 then skipN true l + 1 else if whiteL c.toNat = true then skipN false l + 1 else 0
def skipL (s : List UInt8) (k : Int) : Int := if k < 0 ∨ (s.length : Int) < k then k else k + skipN false (s.drop k.toNat)

theorem c_octet_Skip (gl : List (Nat × AV)) (s : List UInt8) (k : Int) (hs : s.length ≤ 1000000 := by first | omega | exact u8_le _ | assumption | (simp; done) | (simp; omega)) : FnP Try.prog gl 26 [.str s, .int .i64 k] fun r => r = .ret (.int .i64 (skipL s k)) := by
  refine FnP.intro Try.func26 rfl rfl (by simp [Try.ntmps26]) ?_
  simp only [argEnv, Try.ntmps26, Try.results26]
  refine AW.seqReg (by simp only [go_sem, seval]; exact rfl) (by ((try simp only [go_sem, seval]); try (first | trivial | omega | (simp only [decide_eq_true_eq, decide_eq_false_iff_not, Bool.cond_false_right, Bool.cond_true_left, Bool.and_eq_true, Bool.or_eq_true, Bool.and_eq_false_iff, Bool.or_eq_false_iff, Bool.not_eq_true', Bool.not_eq_false', Bool.not_eq_eq_eq_not, Bool.not_true, Bool.not_false, beq_true, beq_false, Int.not_lt, Int.not_le, Int.ofNat_lt, Int.ofNat_le]; omega) | (simp; done) | (simp; omega)))) ?_
  refine AW.seq ?_
  refine AW.seqReg (by simp only [go_sem, seval]; exact rfl) (by ((try simp only [go_sem, seval]); try (first | trivial | omega | (simp only [decide_eq_true_eq, decide_eq_false_iff_not, Bool.cond_false_right, Bool.cond_true_left, Bool.and_eq_true, Bool.or_eq_true, Bool.and_eq_false_iff, Bool.or_eq_false_iff, Bool.not_eq_true', Bool.not_eq_false', Bool.not_eq_eq_eq_not, Bool.not_true, Bool.not_false, beq_true, beq_false, Int.not_lt, Int.not_le, Int.ofNat_lt, Int.ofNat_le]; omega) | (simp; done) | (simp; omega)))) ?_
  refine AW.cond (by simp only [go_sem, seval]; exact rfl) (by ((try simp only [go_sem, seval]); try (first | trivial | omega | (simp only [decide_eq_true_eq, decide_eq_false_iff_not, Bool.cond_false_right, Bool.cond_true_left, Bool.and_eq_true, Bool.or_eq_true, Bool.and_eq_false_iff, Bool.or_eq_false_iff, Bool.not_eq_true', Bool.not_eq_false', Bool.not_eq_eq_eq_not, Bool.not_true, Bool.not_false, beq_true, beq_false, Int.not_lt, Int.not_le, Int.ofNat_lt, Int.ofNat_le]; omega) | (simp; done) | (simp; omega)))) ?_ ?_
  · intro hc
    try simp only [decide_eq_true_eq, decide_eq_false_iff_not, Bool.cond_false_right, Bool.cond_true_left, Bool.and_eq_true, Bool.or_eq_true, Bool.and_eq_false_iff, Bool.or_eq_false_iff, Bool.not_eq_true', Bool.not_eq_false', Bool.not_eq_eq_eq_not, Bool.not_true, Bool.not_false, beq_true, beq_false, Int.not_lt, Int.not_le, Int.ofNat_lt, Int.ofNat_le] at hc
    refine AW.seqReg (by simp only [go_sem, seval]; exact rfl) (by ((try simp only [go_sem, seval]); try (first | trivial | omega | (simp only [decide_eq_true_eq, decide_eq_false_iff_not, Bool.cond_false_right, Bool.cond_true_left, Bool.and_eq_true, Bool.or_eq_true, Bool.and_eq_false_iff, Bool.or_eq_false_iff, Bool.not_eq_true', Bool.not_eq_false', Bool.not_eq_eq_eq_not, Bool.not_true, Bool.not_false, beq_true, beq_false, Int.not_lt, Int.not_le, Int.ofNat_lt, Int.ofNat_le]; omega) | (simp; done) | (simp; omega)))) ?_
    refine AW.ret ?_
    repeat (with_reducible first | refine ret_unblock ?_ | refine ret_andThen ?_)
    refine ret_fin ?_
    simp only [go_sem, seval]
    rw [skipL, if_pos hc]
  · intro hk
    try simp only [decide_eq_true_eq, decide_eq_false_iff_not, Bool.cond_false_right, Bool.cond_true_left, Bool.and_eq_true, Bool.or_eq_true, Bool.and_eq_false_iff, Bool.or_eq_false_iff, Bool.not_eq_true', Bool.not_eq_false', Bool.not_eq_eq_eq_not, Bool.not_true, Bool.not_false, beq_true, beq_false, Int.not_lt, Int.not_le, Int.ofNat_lt, Int.ofNat_le] at hk
    refine AW.skip ?_
    refine AW.seq ?_
    refine AW.seqReg (by simp only [go_sem, seval]; exact rfl) (by ((try simp only [go_sem, seval]); try (first | trivial | omega | (simp only [decide_eq_true_eq, decide_eq_false_iff_not, Bool.cond_false_right, Bool.cond_true_left, Bool.and_eq_true, Bool.or_eq_true, Bool.and_eq_false_iff, Bool.or_eq_false_iff, Bool.not_eq_true', Bool.not_eq_false', Bool.not_eq_eq_eq_not, Bool.not_true, Bool.not_false, beq_true, beq_false, Int.not_lt, Int.not_le, Int.ofNat_lt, Int.ofNat_le]; omega) | (simp; done) | (simp; omega)))) ?_
    refine AW.block ?_
    obtain ⟨k, rfl⟩ : ∃ i : Nat, k = i := ⟨k.toNat, by omega⟩
    refine AW.loop (S := { p : Nat × Bool // p.1 ≤ s.length ∧ p.1 + skipN p.2 (s.drop p.1) = k + skipN false (s.drop k) }) (fun i => ⟨40, [(0, .str s), (1, .int .i64 i.1.1), (5, .bool i.1.2)], [], 0, gl, 0⟩) (fun i => s.length - i.1.1) ⟨(k, false), by show k ≤ s.length; omega, rfl⟩ ?_ ?_
    · refine St.le.view [] rfl rfl rfl rfl (by simp) (by decide) (by simp only [go_sem, seval]; and_intros <;> first | exact Less.refl _ | trivial | (refine Less.int ?_; omega) | (refine Less.row ?_; first | omega | (simp; done) | (simp; omega)) | (refine Less.of_eq ?_; simp; done)) (by simp only [go_sem, seval])
    rintro ⟨⟨i, r⟩, hi, hsp⟩
    simp only at hi hsp
    have hres : (skipL s k : Int) = ((i + skipN r (s.drop i) : Nat) : Int) := by
      rw [skipL, if_neg (by omega), Int.toNat_natCast, hsp]
      omega
    refine AW.seq ?_
    refine AW.seqReg (by simp only [go_sem, seval]; exact rfl) (by ((try simp only [go_sem, seval]); try (first | trivial | omega | (simp only [decide_eq_true_eq, decide_eq_false_iff_not, Bool.cond_false_right, Bool.cond_true_left, Bool.and_eq_true, Bool.or_eq_true, Bool.and_eq_false_iff, Bool.or_eq_false_iff, Bool.not_eq_true', Bool.not_eq_false', Bool.not_eq_eq_eq_not, Bool.not_true, Bool.not_false, beq_true, beq_false, Int.not_lt, Int.not_le, Int.ofNat_lt, Int.ofNat_le]; omega) | (simp; done) | (simp; omega)))) ?_
    refine AW.cond (by simp only [go_sem, seval]; exact rfl) (by ((try simp only [go_sem, seval]); try (first | trivial | omega | (simp only [decide_eq_true_eq, decide_eq_false_iff_not, Bool.cond_false_right, Bool.cond_true_left, Bool.and_eq_true, Bool.or_eq_true, Bool.and_eq_false_iff, Bool.or_eq_false_iff, Bool.not_eq_true', Bool.not_eq_false', Bool.not_eq_eq_eq_not, Bool.not_true, Bool.not_false, beq_true, beq_false, Int.not_lt, Int.not_le, Int.ofNat_lt, Int.ofNat_le]; omega) | (simp; done) | (simp; omega)))) ?_ ?_
    · intro hlt
      try simp only [decide_eq_true_eq, decide_eq_false_iff_not, Bool.cond_false_right, Bool.cond_true_left, Bool.and_eq_true, Bool.or_eq_true, Bool.and_eq_false_iff, Bool.or_eq_false_iff, Bool.not_eq_true', Bool.not_eq_false', Bool.not_eq_eq_eq_not, Bool.not_true, Bool.not_false, beq_true, beq_false, Int.not_lt, Int.not_le, Int.ofNat_lt, Int.ofNat_le] at hlt
      refine AW.skip ?_
      refine AW.seq ?_
      refine AW.block ?_
      refine AW.seqReg (by simp only [go_sem, seval]; exact rfl) (by ((try simp only [go_sem, seval]); try (first | trivial | omega | (simp only [decide_eq_true_eq, decide_eq_false_iff_not, Bool.cond_false_right, Bool.cond_true_left, Bool.and_eq_true, Bool.or_eq_true, Bool.and_eq_false_iff, Bool.or_eq_false_iff, Bool.not_eq_true', Bool.not_eq_false', Bool.not_eq_eq_eq_not, Bool.not_true, Bool.not_false, beq_true, beq_false, Int.not_lt, Int.not_le, Int.ofNat_lt, Int.ofNat_le]; omega) | (simp; done) | (simp; omega)))) ?_
      have hd := getD_drop s i (by omega)
      generalize s.getD i 0 = b at hd
      refine AW.block ?_
      refine AW.seqReg (by simp only [go_sem, seval]; exact rfl) (by ((try simp only [go_sem, seval]); try (first | trivial | omega | (simp only [decide_eq_true_eq, decide_eq_false_iff_not, Bool.cond_false_right, Bool.cond_true_left, Bool.and_eq_true, Bool.or_eq_true, Bool.and_eq_false_iff, Bool.or_eq_false_iff, Bool.not_eq_true', Bool.not_eq_false', Bool.not_eq_eq_eq_not, Bool.not_true, Bool.not_false, beq_true, beq_false, Int.not_lt, Int.not_le, Int.ofNat_lt, Int.ofNat_le]; omega) | (simp; done) | (simp; omega)))) ?_
      refine AW.cond (by simp only [go_sem, seval]; exact rfl) (by ((try simp only [go_sem, seval]); try (first | trivial | omega | (simp only [decide_eq_true_eq, decide_eq_false_iff_not, Bool.cond_false_right, Bool.cond_true_left, Bool.and_eq_true, Bool.or_eq_true, Bool.and_eq_false_iff, Bool.or_eq_false_iff, Bool.not_eq_true', Bool.not_eq_false', Bool.not_eq_eq_eq_not, Bool.not_true, Bool.not_false, beq_true, beq_false, Int.not_lt, Int.not_le, Int.ofNat_lt, Int.ofNat_le]; omega) | (simp; done) | (simp; omega)))) ?_ ?_
      · intro hr
        try simp only [decide_eq_true_eq, decide_eq_false_iff_not, Bool.cond_false_right, Bool.cond_true_left, Bool.and_eq_true, Bool.or_eq_true, Bool.and_eq_false_iff, Bool.or_eq_false_iff, Bool.not_eq_true', Bool.not_eq_false', Bool.not_eq_eq_eq_not, Bool.not_true, Bool.not_false, beq_true, beq_false, Int.not_lt, Int.not_le, Int.ofNat_lt, Int.ofNat_le] at hr
        refine AW.reg (by simp only [go_sem, seval]; exact rfl) (by ((try simp only [go_sem, seval]); try (first | trivial | omega | (simp only [decide_eq_true_eq, decide_eq_false_iff_not, Bool.cond_false_right, Bool.cond_true_left, Bool.and_eq_true, Bool.or_eq_true, Bool.and_eq_false_iff, Bool.or_eq_false_iff, Bool.not_eq_true', Bool.not_eq_false', Bool.not_eq_eq_eq_not, Bool.not_true, Bool.not_false, beq_true, beq_false, Int.not_lt, Int.not_le, Int.ofNat_lt, Int.ofNat_le]; omega) | (simp; done) | (simp; omega)))) ?_
        refine awOps.cons (awGuard.call1 rfl (by simp only [go_sem, seval]; exact rfl) (by simp only [go_sem, seval]; exact rfl) (by simp only [go_sem, seval]) (by ((try simp only [go_sem, seval]); try (first | trivial | omega | (simp only [decide_eq_true_eq, decide_eq_false_iff_not, Bool.cond_false_right, Bool.cond_true_left, Bool.and_eq_true, Bool.or_eq_true, Bool.and_eq_false_iff, Bool.or_eq_false_iff, Bool.not_eq_true', Bool.not_eq_false', Bool.not_eq_eq_eq_not, Bool.not_true, Bool.not_false, beq_true, beq_false, Int.not_lt, Int.not_le, Int.ofNat_lt, Int.ofNat_le]; omega) | (simp; done) | (simp; omega)))) (by ((try simp only [go_sem, seval]); try (first | trivial | omega | (simp only [decide_eq_true_eq, decide_eq_false_iff_not, Bool.cond_false_right, Bool.cond_true_left, Bool.and_eq_true, Bool.or_eq_true, Bool.and_eq_false_iff, Bool.or_eq_false_iff, Bool.not_eq_true', Bool.not_eq_false', Bool.not_eq_eq_eq_not, Bool.not_true, Bool.not_false, beq_true, beq_false, Int.not_lt, Int.not_le, Int.ofNat_lt, Int.ofNat_le]; omega) | (simp; done) | (simp; omega)))) (c_octet_ends _ _) ?_)
        refine awOps.run (by simp only [go_sem, seval]; exact rfl) (by ((try simp only [go_sem, seval]); try (first | trivial | omega | (simp only [decide_eq_true_eq, decide_eq_false_iff_not, Bool.cond_false_right, Bool.cond_true_left, Bool.and_eq_true, Bool.or_eq_true, Bool.and_eq_false_iff, Bool.or_eq_false_iff, Bool.not_eq_true', Bool.not_eq_false', Bool.not_eq_eq_eq_not, Bool.not_true, Bool.not_false, beq_true, beq_false, Int.not_lt, Int.not_le, Int.ofNat_lt, Int.ofNat_le]; omega) | (simp; done) | (simp; omega)))) ?_
        refine AW.regAll (by simp only [go_sem, seval]; exact rfl) (by ((try simp only [go_sem, seval]); try (first | trivial | omega | (simp only [decide_eq_true_eq, decide_eq_false_iff_not, Bool.cond_false_right, Bool.cond_true_left, Bool.and_eq_true, Bool.or_eq_true, Bool.and_eq_false_iff, Bool.or_eq_false_iff, Bool.not_eq_true', Bool.not_eq_false', Bool.not_eq_eq_eq_not, Bool.not_true, Bool.not_false, beq_true, beq_false, Int.not_lt, Int.not_le, Int.ofNat_lt, Int.ofNat_le]; omega) | (simp; done) | (simp; omega)))) ?_
        refine ⟨⟨(i + 1, !(decide ((b.toNat : Int) = 13) || decide ((b.toNat : Int) = 10))), hlt, ?_⟩, ?_, ?_⟩
        · simp only
          rw [← hsp, hd, skipN, if_pos hr]
          omega
        · simp (disch := omega) only [IntWalk.i64_in, IntWalk.u8_in, IntWalk.u64_in]
          refine St.le.view [] rfl rfl rfl rfl (by simp) (by decide) (by simp only [go_sem, seval]; and_intros <;> first | exact Less.refl _ | trivial | (refine Less.int ?_; omega) | (refine Less.row ?_; first | omega | (simp; done) | (simp; omega)) | (refine Less.of_eq ?_; simp; done)) (by simp only [go_sem, seval])
        · show s.length - (i + 1) < s.length - i
          omega
      · intro hr
        try simp only [decide_eq_true_eq, decide_eq_false_iff_not, Bool.cond_false_right, Bool.cond_true_left, Bool.and_eq_true, Bool.or_eq_true, Bool.and_eq_false_iff, Bool.or_eq_false_iff, Bool.not_eq_true', Bool.not_eq_false', Bool.not_eq_eq_eq_not, Bool.not_true, Bool.not_false, beq_true, beq_false, Int.not_lt, Int.not_le, Int.ofNat_lt, Int.ofNat_le] at hr
        refine AW.seqReg (by simp only [go_sem, seval]; exact rfl) (by ((try simp only [go_sem, seval]); try (first | trivial | omega | (simp only [decide_eq_true_eq, decide_eq_false_iff_not, Bool.cond_false_right, Bool.cond_true_left, Bool.and_eq_true, Bool.or_eq_true, Bool.and_eq_false_iff, Bool.or_eq_false_iff, Bool.not_eq_true', Bool.not_eq_false', Bool.not_eq_eq_eq_not, Bool.not_true, Bool.not_false, beq_true, beq_false, Int.not_lt, Int.not_le, Int.ofNat_lt, Int.ofNat_le]; omega) | (simp; done) | (simp; omega)))) ?_
        refine AW.cond (by simp only [go_sem, seval]; exact rfl) (by ((try simp only [go_sem, seval]); try (first | trivial | omega | (simp only [decide_eq_true_eq, decide_eq_false_iff_not, Bool.cond_false_right, Bool.cond_true_left, Bool.and_eq_true, Bool.or_eq_true, Bool.and_eq_false_iff, Bool.or_eq_false_iff, Bool.not_eq_true', Bool.not_eq_false', Bool.not_eq_eq_eq_not, Bool.not_true, Bool.not_false, beq_true, beq_false, Int.not_lt, Int.not_le, Int.ofNat_lt, Int.ofNat_le]; omega) | (simp; done) | (simp; omega)))) ?_ ?_
        · intro h37
          try simp only [decide_eq_true_eq, decide_eq_false_iff_not, Bool.cond_false_right, Bool.cond_true_left, Bool.and_eq_true, Bool.or_eq_true, Bool.and_eq_false_iff, Bool.or_eq_false_iff, Bool.not_eq_true', Bool.not_eq_false', Bool.not_eq_eq_eq_not, Bool.not_true, Bool.not_false, beq_true, beq_false, Int.not_lt, Int.not_le, Int.ofNat_lt, Int.ofNat_le] at h37
          refine AW.regAll (by simp only [go_sem, seval]; exact rfl) (by ((try simp only [go_sem, seval]); try (first | trivial | omega | (simp only [decide_eq_true_eq, decide_eq_false_iff_not, Bool.cond_false_right, Bool.cond_true_left, Bool.and_eq_true, Bool.or_eq_true, Bool.and_eq_false_iff, Bool.or_eq_false_iff, Bool.not_eq_true', Bool.not_eq_false', Bool.not_eq_eq_eq_not, Bool.not_true, Bool.not_false, beq_true, beq_false, Int.not_lt, Int.not_le, Int.ofNat_lt, Int.ofNat_le]; omega) | (simp; done) | (simp; omega)))) ?_
          refine AW.regAll (by simp only [go_sem, seval]; exact rfl) (by ((try simp only [go_sem, seval]); try (first | trivial | omega | (simp only [decide_eq_true_eq, decide_eq_false_iff_not, Bool.cond_false_right, Bool.cond_true_left, Bool.and_eq_true, Bool.or_eq_true, Bool.and_eq_false_iff, Bool.or_eq_false_iff, Bool.not_eq_true', Bool.not_eq_false', Bool.not_eq_eq_eq_not, Bool.not_true, Bool.not_false, beq_true, beq_false, Int.not_lt, Int.not_le, Int.ofNat_lt, Int.ofNat_le]; omega) | (simp; done) | (simp; omega)))) ?_
          refine ⟨⟨(i + 1, true), hlt, ?_⟩, ?_, ?_⟩
          · simp only
            rw [← hsp, hd, skipN, if_neg (by rw [hr]; decide), if_pos h37]
            omega
          · simp (disch := omega) only [IntWalk.i64_in, IntWalk.u8_in, IntWalk.u64_in]
            refine St.le.view [] rfl rfl rfl rfl (by simp) (by decide) (by simp only [go_sem, seval]; and_intros <;> first | exact Less.refl _ | trivial | (refine Less.int ?_; omega) | (refine Less.row ?_; first | omega | (simp; done) | (simp; omega)) | (refine Less.of_eq ?_; simp; done)) (by simp only [go_sem, seval])
          · show s.length - (i + 1) < s.length - i
            omega
        · intro h37
          try simp only [decide_eq_true_eq, decide_eq_false_iff_not, Bool.cond_false_right, Bool.cond_true_left, Bool.and_eq_true, Bool.or_eq_true, Bool.and_eq_false_iff, Bool.or_eq_false_iff, Bool.not_eq_true', Bool.not_eq_false', Bool.not_eq_eq_eq_not, Bool.not_true, Bool.not_false, beq_true, beq_false, Int.not_lt, Int.not_le, Int.ofNat_lt, Int.ofNat_le] at h37
          refine AW.seqRegN (by simp only [go_sem, seval]; exact rfl) (by ((try simp only [go_sem, seval]); try (first | trivial | omega | (simp only [decide_eq_true_eq, decide_eq_false_iff_not, Bool.cond_false_right, Bool.cond_true_left, Bool.and_eq_true, Bool.or_eq_true, Bool.and_eq_false_iff, Bool.or_eq_false_iff, Bool.not_eq_true', Bool.not_eq_false', Bool.not_eq_eq_eq_not, Bool.not_true, Bool.not_false, beq_true, beq_false, Int.not_lt, Int.not_le, Int.ofNat_lt, Int.ofNat_le]; omega) | (simp; done) | (simp; omega)))) ?_
          refine awOps.cons (awGuard.call1 rfl (by simp only [go_sem, seval]; exact rfl) (by simp only [go_sem, seval]; exact rfl) (by simp only [go_sem, seval]) (by ((try simp only [go_sem, seval]); try (first | trivial | omega | (simp only [decide_eq_true_eq, decide_eq_false_iff_not, Bool.cond_false_right, Bool.cond_true_left, Bool.and_eq_true, Bool.or_eq_true, Bool.and_eq_false_iff, Bool.or_eq_false_iff, Bool.not_eq_true', Bool.not_eq_false', Bool.not_eq_eq_eq_not, Bool.not_true, Bool.not_false, beq_true, beq_false, Int.not_lt, Int.not_le, Int.ofNat_lt, Int.ofNat_le]; omega) | (simp; done) | (simp; omega)))) (by ((try simp only [go_sem, seval]); try (first | trivial | omega | (simp only [decide_eq_true_eq, decide_eq_false_iff_not, Bool.cond_false_right, Bool.cond_true_left, Bool.and_eq_true, Bool.or_eq_true, Bool.and_eq_false_iff, Bool.or_eq_false_iff, Bool.not_eq_true', Bool.not_eq_false', Bool.not_eq_eq_eq_not, Bool.not_true, Bool.not_false, beq_true, beq_false, Int.not_lt, Int.not_le, Int.ofNat_lt, Int.ofNat_le]; omega) | (simp; done) | (simp; omega)))) (c_octet_White _ _) ?_)
          refine awOps.run (by simp only [go_sem, seval]; exact rfl) (by ((try simp only [go_sem, seval]); try (first | trivial | omega | (simp only [decide_eq_true_eq, decide_eq_false_iff_not, Bool.cond_false_right, Bool.cond_true_left, Bool.and_eq_true, Bool.or_eq_true, Bool.and_eq_false_iff, Bool.or_eq_false_iff, Bool.not_eq_true', Bool.not_eq_false', Bool.not_eq_eq_eq_not, Bool.not_true, Bool.not_false, beq_true, beq_false, Int.not_lt, Int.not_le, Int.ofNat_lt, Int.ofNat_le]; omega) | (simp; done) | (simp; omega)))) ?_
          refine AW.cond (by simp only [go_sem, seval]; exact rfl) (by ((try simp only [go_sem, seval]); try (first | trivial | omega | (simp only [decide_eq_true_eq, decide_eq_false_iff_not, Bool.cond_false_right, Bool.cond_true_left, Bool.and_eq_true, Bool.or_eq_true, Bool.and_eq_false_iff, Bool.or_eq_false_iff, Bool.not_eq_true', Bool.not_eq_false', Bool.not_eq_eq_eq_not, Bool.not_true, Bool.not_false, beq_true, beq_false, Int.not_lt, Int.not_le, Int.ofNat_lt, Int.ofNat_le]; omega) | (simp; done) | (simp; omega)))) ?_ ?_
          · intro hw
            try simp only [decide_eq_true_eq, decide_eq_false_iff_not, Bool.cond_false_right, Bool.cond_true_left, Bool.and_eq_true, Bool.or_eq_true, Bool.and_eq_false_iff, Bool.or_eq_false_iff, Bool.not_eq_true', Bool.not_eq_false', Bool.not_eq_eq_eq_not, Bool.not_true, Bool.not_false, beq_true, beq_false, Int.not_lt, Int.not_le, Int.ofNat_lt, Int.ofNat_le] at hw
            refine AW.seqReg (by simp only [go_sem, seval]; exact rfl) (by ((try simp only [go_sem, seval]); try (first | trivial | omega | (simp only [decide_eq_true_eq, decide_eq_false_iff_not, Bool.cond_false_right, Bool.cond_true_left, Bool.and_eq_true, Bool.or_eq_true, Bool.and_eq_false_iff, Bool.or_eq_false_iff, Bool.not_eq_true', Bool.not_eq_false', Bool.not_eq_eq_eq_not, Bool.not_true, Bool.not_false, beq_true, beq_false, Int.not_lt, Int.not_le, Int.ofNat_lt, Int.ofNat_le]; omega) | (simp; done) | (simp; omega)))) ?_
            refine AW.ret ?_
            repeat (with_reducible first | refine ret_unblock ?_ | refine ret_andThen ?_)
            refine ret_fin ?_
            simp only [go_sem, seval]
            rw [hres, hd, skipN, if_neg (by rw [hr]; decide), if_neg h37, if_neg (by rw [hw]; decide)]
            rfl
          · intro hw
            try simp only [decide_eq_true_eq, decide_eq_false_iff_not, Bool.cond_false_right, Bool.cond_true_left, Bool.and_eq_true, Bool.or_eq_true, Bool.and_eq_false_iff, Bool.or_eq_false_iff, Bool.not_eq_true', Bool.not_eq_false', Bool.not_eq_eq_eq_not, Bool.not_true, Bool.not_false, beq_true, beq_false, Int.not_lt, Int.not_le, Int.ofNat_lt, Int.ofNat_le] at hw
            refine AW.skip ?_
            refine AW.regAll (by simp only [go_sem, seval]; exact rfl) (by ((try simp only [go_sem, seval]); try (first | trivial | omega | (simp only [decide_eq_true_eq, decide_eq_false_iff_not, Bool.cond_false_right, Bool.cond_true_left, Bool.and_eq_true, Bool.or_eq_true, Bool.and_eq_false_iff, Bool.or_eq_false_iff, Bool.not_eq_true', Bool.not_eq_false', Bool.not_eq_eq_eq_not, Bool.not_true, Bool.not_false, beq_true, beq_false, Int.not_lt, Int.not_le, Int.ofNat_lt, Int.ofNat_le]; omega) | (simp; done) | (simp; omega)))) ?_
            refine ⟨⟨(i + 1, false), hlt, ?_⟩, ?_, ?_⟩
            · simp only
              rw [← hsp, hd, skipN, if_neg (by rw [hr]; decide), if_neg h37, if_pos hw]
              omega
            · simp (disch := omega) only [IntWalk.i64_in, IntWalk.u8_in, IntWalk.u64_in]
              rw [hr]
              refine St.le.view [] rfl rfl rfl rfl (by simp) (by decide) (by simp only [go_sem, seval]; and_intros <;> first | exact Less.refl _ | trivial | (refine Less.int ?_; omega) | (refine Less.row ?_; first | omega | (simp; done) | (simp; omega)) | (refine Less.of_eq ?_; simp; done)) (by simp only [go_sem, seval])
            · show s.length - (i + 1) < s.length - i
              omega
    · intro hc
      try simp only [decide_eq_true_eq, decide_eq_false_iff_not, Bool.cond_false_right, Bool.cond_true_left, Bool.and_eq_true, Bool.or_eq_true, Bool.and_eq_false_iff, Bool.or_eq_false_iff, Bool.not_eq_true', Bool.not_eq_false', Bool.not_eq_eq_eq_not, Bool.not_true, Bool.not_false, beq_true, beq_false, Int.not_lt, Int.not_le, Int.ofNat_lt, Int.ofNat_le] at hc
      refine AW.exit ?_
      refine AW.seqReg (by simp only [go_sem, seval]; exact rfl) (by ((try simp only [go_sem, seval]); try (first | trivial | omega | (simp only [decide_eq_true_eq, decide_eq_false_iff_not, Bool.cond_false_right, Bool.cond_true_left, Bool.and_eq_true, Bool.or_eq_true, Bool.and_eq_false_iff, Bool.or_eq_false_iff, Bool.not_eq_true', Bool.not_eq_false', Bool.not_eq_eq_eq_not, Bool.not_true, Bool.not_false, beq_true, beq_false, Int.not_lt, Int.not_le, Int.ofNat_lt, Int.ofNat_le]; omega) | (simp; done) | (simp; omega)))) ?_
      refine AW.ret ?_
      repeat (with_reducible first | refine ret_unblock ?_ | refine ret_andThen ?_)
      refine ret_fin ?_
      simp only [go_sem, seval]
      rw [hres, List.drop_eq_nil_of_le (by omega), skipN]
      congr 2
      omega
end Go.Proofs
