/- A part of the proof of a law of the seat: no condition of its own. -/
import Derived.Test.YthonhjglglfpeaaOcC
import Derived.Lib.Index
namespace Go.Proofs
open Go Aw
set_option linter.unusedSimpArgs false

/-- what is known of the library's own variable -/
def G (n : Int) : List (Nat × AV) := [(0, .cptr [.int .i64 n])]

theorem c_strings_Index (n : Int) (s p : List UInt8) (hs : s.length < 4294967281 := by first | omega | exact u8_le _ | assumption | (simp; done) | (simp; omega)) : FnP Try.prog (G n) 31 [.str s, .str p] fun r => r = .ret (.int .i64 (Lib.index s p)) := by
  refine FnP.same (enters_of Try.func31 rfl rfl) ?_
  intro m vs hm hv
  simp only [RepL, Rep] at hv
  obtain ⟨_, _, rfl, rfl, _, _, rfl, rfl, rfl⟩ := hv
  have hg := hm.gl 0 (.cptr [.int .i64 n]) rfl
  simp only [Rep, RepC, Value.pointer.injEq, Option.some.injEq, Addr.mk.injEq] at hg
  obtain ⟨b, o, ⟨rfl, rfl, _⟩, _, ⟨v, hc, rfl⟩, _⟩ := hg
  refine (Try.strings_Index ⟨s.toArray⟩ ⟨p.toArray⟩ n m.w (by simpa [ByteArray.size] using hs) hc).mono ?_
  rintro e w' ⟨rfl, rfl⟩
  exact ⟨⟨_, rfl, fun m => by simp only [Rep]⟩, rfl⟩
theorem c_strings_LastIndex (gl : List (Nat × AV)) (s p : List UInt8) (hs : s.length < 4294967281 := by first | omega | exact u8_le _ | assumption | (simp; done) | (simp; omega)) : FnP Try.prog gl 32 [.str s, .str p] fun r => r = .ret (.int .i64 (Lib.lastIndex s p)) := by
  refine FnP.same (enters_of Try.func32 rfl rfl) ?_
  intro m vs hm hv
  simp only [RepL, Rep] at hv
  obtain ⟨_, _, rfl, rfl, _, _, rfl, rfl, rfl⟩ := hv
  refine (Try.strings_LastIndex ⟨s.toArray⟩ ⟨p.toArray⟩ (by simp [ByteArray.size]; omega) m.w).mono ?_
  rintro e w' ⟨rfl, rfl⟩
  exact ⟨⟨_, rfl, fun m => by simp only [Rep]⟩, rfl⟩

def lastL (s p : List UInt8) : Int := if p = [] then -1 else Lib.lastIndex s p
theorem c_octet_Last (gl : List (Nat × AV)) (s p : List UInt8) (hs : s.length < 4294967281 := by first | omega | exact u8_le _ | assumption | (simp; done) | (simp; omega)) : FnP Try.prog gl 22 [.str s, .str p] fun r => r = .ret (.int .i64 (lastL s p)) := by
  refine FnP.intro Try.func22 rfl rfl (by simp [Try.ntmps22]) ?_
  simp only [argEnv, Try.ntmps22, Try.results22]
  refine AW.seqReg (by simp only [go_sem, seval]; exact rfl) (by ((try simp only [go_sem, seval]); try (first | trivial | omega | (simp only [decide_eq_true_eq, decide_eq_false_iff_not, Bool.cond_false_right, Bool.cond_true_left, Bool.and_eq_true, Bool.or_eq_true, Bool.and_eq_false_iff, Bool.or_eq_false_iff, Bool.not_eq_true', Bool.not_eq_false', Bool.not_eq_eq_eq_not, Bool.not_true, Bool.not_false, beq_true, beq_false, Int.not_lt, Int.not_le, Int.ofNat_lt, Int.ofNat_le]; omega) | (simp; done) | (simp; omega)))) ?_
  refine AW.seq ?_
  refine AW.seqReg (by simp only [go_sem, seval]; exact rfl) (by ((try simp only [go_sem, seval]); try (first | trivial | omega | (simp only [decide_eq_true_eq, decide_eq_false_iff_not, Bool.cond_false_right, Bool.cond_true_left, Bool.and_eq_true, Bool.or_eq_true, Bool.and_eq_false_iff, Bool.or_eq_false_iff, Bool.not_eq_true', Bool.not_eq_false', Bool.not_eq_eq_eq_not, Bool.not_true, Bool.not_false, beq_true, beq_false, Int.not_lt, Int.not_le, Int.ofNat_lt, Int.ofNat_le]; omega) | (simp; done) | (simp; omega)))) ?_
  refine AW.cond (by simp only [go_sem, seval]; exact rfl) (by ((try simp only [go_sem, seval]); try (first | trivial | omega | (simp only [decide_eq_true_eq, decide_eq_false_iff_not, Bool.cond_false_right, Bool.cond_true_left, Bool.and_eq_true, Bool.or_eq_true, Bool.and_eq_false_iff, Bool.or_eq_false_iff, Bool.not_eq_true', Bool.not_eq_false', Bool.not_eq_eq_eq_not, Bool.not_true, Bool.not_false, beq_true, beq_false, Int.not_lt, Int.not_le, Int.ofNat_lt, Int.ofNat_le]; omega) | (simp; done) | (simp; omega)))) ?_ ?_
  · intro hc
    try simp only [decide_eq_true_eq, decide_eq_false_iff_not, Bool.cond_false_right, Bool.cond_true_left, Bool.and_eq_true, Bool.or_eq_true, Bool.and_eq_false_iff, Bool.or_eq_false_iff, Bool.not_eq_true', Bool.not_eq_false', Bool.not_eq_eq_eq_not, Bool.not_true, Bool.not_false, beq_true, beq_false, Int.not_lt, Int.not_le, Int.ofNat_lt, Int.ofNat_le] at hc
    refine AW.seqReg (by simp only [go_sem, seval]; exact rfl) (by ((try simp only [go_sem, seval]); try (first | trivial | omega | (simp only [decide_eq_true_eq, decide_eq_false_iff_not, Bool.cond_false_right, Bool.cond_true_left, Bool.and_eq_true, Bool.or_eq_true, Bool.and_eq_false_iff, Bool.or_eq_false_iff, Bool.not_eq_true', Bool.not_eq_false', Bool.not_eq_eq_eq_not, Bool.not_true, Bool.not_false, beq_true, beq_false, Int.not_lt, Int.not_le, Int.ofNat_lt, Int.ofNat_le]; omega) | (simp; done) | (simp; omega)))) ?_
    refine AW.ret ?_
    repeat (with_reducible first | refine ret_unblock ?_ | refine ret_andThen ?_)
    refine ret_fin ?_
    simp only [go_sem, seval]
    rw [lastL, if_pos hc]
  · intro hc
    try simp only [decide_eq_true_eq, decide_eq_false_iff_not, Bool.cond_false_right, Bool.cond_true_left, Bool.and_eq_true, Bool.or_eq_true, Bool.and_eq_false_iff, Bool.or_eq_false_iff, Bool.not_eq_true', Bool.not_eq_false', Bool.not_eq_eq_eq_not, Bool.not_true, Bool.not_false, beq_true, beq_false, Int.not_lt, Int.not_le, Int.ofNat_lt, Int.ofNat_le] at hc
    refine AW.skip ?_
    refine AW.seqRegN (by simp only [go_sem, seval]; exact rfl) (by ((try simp only [go_sem, seval]); try (first | trivial | omega | (simp only [decide_eq_true_eq, decide_eq_false_iff_not, Bool.cond_false_right, Bool.cond_true_left, Bool.and_eq_true, Bool.or_eq_true, Bool.and_eq_false_iff, Bool.or_eq_false_iff, Bool.not_eq_true', Bool.not_eq_false', Bool.not_eq_eq_eq_not, Bool.not_true, Bool.not_false, beq_true, beq_false, Int.not_lt, Int.not_le, Int.ofNat_lt, Int.ofNat_le]; omega) | (simp; done) | (simp; omega)))) ?_
    refine awOps.cons (awGuard.call1 rfl (by simp only [go_sem, seval]; exact rfl) (by simp only [go_sem, seval]; exact rfl) (by simp only [go_sem, seval]) (by ((try simp only [go_sem, seval]); try (first | trivial | omega | (simp only [decide_eq_true_eq, decide_eq_false_iff_not, Bool.cond_false_right, Bool.cond_true_left, Bool.and_eq_true, Bool.or_eq_true, Bool.and_eq_false_iff, Bool.or_eq_false_iff, Bool.not_eq_true', Bool.not_eq_false', Bool.not_eq_eq_eq_not, Bool.not_true, Bool.not_false, beq_true, beq_false, Int.not_lt, Int.not_le, Int.ofNat_lt, Int.ofNat_le]; omega) | (simp; done) | (simp; omega)))) (by ((try simp only [go_sem, seval]); try (first | trivial | omega | (simp only [decide_eq_true_eq, decide_eq_false_iff_not, Bool.cond_false_right, Bool.cond_true_left, Bool.and_eq_true, Bool.or_eq_true, Bool.and_eq_false_iff, Bool.or_eq_false_iff, Bool.not_eq_true', Bool.not_eq_false', Bool.not_eq_eq_eq_not, Bool.not_true, Bool.not_false, beq_true, beq_false, Int.not_lt, Int.not_le, Int.ofNat_lt, Int.ofNat_le]; omega) | (simp; done) | (simp; omega)))) (c_strings_LastIndex _ _ _ hs) ?_)
    refine awOps.run (by simp only [go_sem, seval]; exact rfl) (by ((try simp only [go_sem, seval]); try (first | trivial | omega | (simp only [decide_eq_true_eq, decide_eq_false_iff_not, Bool.cond_false_right, Bool.cond_true_left, Bool.and_eq_true, Bool.or_eq_true, Bool.and_eq_false_iff, Bool.or_eq_false_iff, Bool.not_eq_true', Bool.not_eq_false', Bool.not_eq_eq_eq_not, Bool.not_true, Bool.not_false, beq_true, beq_false, Int.not_lt, Int.not_le, Int.ofNat_lt, Int.ofNat_le]; omega) | (simp; done) | (simp; omega)))) ?_
    refine AW.ret ?_
    repeat (with_reducible first | refine ret_unblock ?_ | refine ret_andThen ?_)
    refine ret_fin ?_
    simp only [go_sem, seval]
    rw [lastL, if_neg hc]

def findL (s p : List UInt8) (k : Int) : Int :=
  if p = [] ∨ (s.length : Int) < max k 0 then -1 else if 0 ≤ Lib.index (s.drop (max k 0).toNat) p then max k 0 + Lib.index (s.drop (max k 0).toNat) p else -1
theorem c_octet_Find (n : Int) (s p : List UInt8) (k : Int) (hs : s.length < 4294967281 := by first | omega | exact u8_le _ | assumption | (simp; done) | (simp; omega)) : FnP Try.prog (G n) 20 [.str s, .str p, .int .i64 k] fun r => r = .ret (.int .i64 (findL s p k)) := by
  refine FnP.intro Try.func20 rfl rfl (by simp [Try.ntmps20]) ?_
  simp only [argEnv, Try.ntmps20, Try.results20]
  refine AW.seqReg (by simp only [go_sem, seval]; exact rfl) (by ((try simp only [go_sem, seval]); try (first | trivial | omega | (simp only [decide_eq_true_eq, decide_eq_false_iff_not, Bool.cond_false_right, Bool.cond_true_left, Bool.and_eq_true, Bool.or_eq_true, Bool.and_eq_false_iff, Bool.or_eq_false_iff, Bool.not_eq_true', Bool.not_eq_false', Bool.not_eq_eq_eq_not, Bool.not_true, Bool.not_false, beq_true, beq_false, Int.not_lt, Int.not_le, Int.ofNat_lt, Int.ofNat_le]; omega) | (simp; done) | (simp; omega)))) ?_
  refine AW.seqReg (by simp only [go_sem, seval]; exact rfl) (by ((try simp only [go_sem, seval]); try (first | trivial | omega | (simp only [decide_eq_true_eq, decide_eq_false_iff_not, Bool.cond_false_right, Bool.cond_true_left, Bool.and_eq_true, Bool.or_eq_true, Bool.and_eq_false_iff, Bool.or_eq_false_iff, Bool.not_eq_true', Bool.not_eq_false', Bool.not_eq_eq_eq_not, Bool.not_true, Bool.not_false, beq_true, beq_false, Int.not_lt, Int.not_le, Int.ofNat_lt, Int.ofNat_le]; omega) | (simp; done) | (simp; omega)))) ?_
  refine AW.seq ?_
  refine AW.seqReg (by simp only [go_sem, seval]; exact rfl) (by ((try simp only [go_sem, seval]); try (first | trivial | omega | (simp only [decide_eq_true_eq, decide_eq_false_iff_not, Bool.cond_false_right, Bool.cond_true_left, Bool.and_eq_true, Bool.or_eq_true, Bool.and_eq_false_iff, Bool.or_eq_false_iff, Bool.not_eq_true', Bool.not_eq_false', Bool.not_eq_eq_eq_not, Bool.not_true, Bool.not_false, beq_true, beq_false, Int.not_lt, Int.not_le, Int.ofNat_lt, Int.ofNat_le]; omega) | (simp; done) | (simp; omega)))) ?_
  refine AW.cond (by simp only [go_sem, seval]; exact rfl) (by ((try simp only [go_sem, seval]); try (first | trivial | omega | (simp only [decide_eq_true_eq, decide_eq_false_iff_not, Bool.cond_false_right, Bool.cond_true_left, Bool.and_eq_true, Bool.or_eq_true, Bool.and_eq_false_iff, Bool.or_eq_false_iff, Bool.not_eq_true', Bool.not_eq_false', Bool.not_eq_eq_eq_not, Bool.not_true, Bool.not_false, beq_true, beq_false, Int.not_lt, Int.not_le, Int.ofNat_lt, Int.ofNat_le]; omega) | (simp; done) | (simp; omega)))) ?_ ?_
  · intro hc
    try simp only [decide_eq_true_eq, decide_eq_false_iff_not, Bool.cond_false_right, Bool.cond_true_left, Bool.and_eq_true, Bool.or_eq_true, Bool.and_eq_false_iff, Bool.or_eq_false_iff, Bool.not_eq_true', Bool.not_eq_false', Bool.not_eq_eq_eq_not, Bool.not_true, Bool.not_false, beq_true, beq_false, Int.not_lt, Int.not_le, Int.ofNat_lt, Int.ofNat_le] at hc
    refine AW.seqReg (by simp only [go_sem, seval]; exact rfl) (by ((try simp only [go_sem, seval]); try (first | trivial | omega | (simp only [decide_eq_true_eq, decide_eq_false_iff_not, Bool.cond_false_right, Bool.cond_true_left, Bool.and_eq_true, Bool.or_eq_true, Bool.and_eq_false_iff, Bool.or_eq_false_iff, Bool.not_eq_true', Bool.not_eq_false', Bool.not_eq_eq_eq_not, Bool.not_true, Bool.not_false, beq_true, beq_false, Int.not_lt, Int.not_le, Int.ofNat_lt, Int.ofNat_le]; omega) | (simp; done) | (simp; omega)))) ?_
    refine AW.ret ?_
    repeat (with_reducible first | refine ret_unblock ?_ | refine ret_andThen ?_)
    refine ret_fin ?_
    simp only [go_sem, seval]
    rw [findL, if_pos hc]
  · intro hn
    try simp only [decide_eq_true_eq, decide_eq_false_iff_not, Bool.cond_false_right, Bool.cond_true_left, Bool.and_eq_true, Bool.or_eq_true, Bool.and_eq_false_iff, Bool.or_eq_false_iff, Bool.not_eq_true', Bool.not_eq_false', Bool.not_eq_eq_eq_not, Bool.not_true, Bool.not_false, beq_true, beq_false, Int.not_lt, Int.not_le, Int.ofNat_lt, Int.ofNat_le] at hn
    refine AW.skip ?_
    refine AW.seq ?_
    refine AW.seqRegN (by simp only [go_sem, seval]; exact rfl) (by ((try simp only [go_sem, seval]); try (first | trivial | omega | (simp only [decide_eq_true_eq, decide_eq_false_iff_not, Bool.cond_false_right, Bool.cond_true_left, Bool.and_eq_true, Bool.or_eq_true, Bool.and_eq_false_iff, Bool.or_eq_false_iff, Bool.not_eq_true', Bool.not_eq_false', Bool.not_eq_eq_eq_not, Bool.not_true, Bool.not_false, beq_true, beq_false, Int.not_lt, Int.not_le, Int.ofNat_lt, Int.ofNat_le]; omega) | (simp; done) | (simp; omega)))) ?_
    refine awOps.cons (awGuard.call1 rfl (by simp only [go_sem, seval]; exact rfl) (by simp only [go_sem, seval]; exact rfl) (by simp only [go_sem, seval]) (by ((try simp only [go_sem, seval]); try (first | trivial | omega | (simp only [decide_eq_true_eq, decide_eq_false_iff_not, Bool.cond_false_right, Bool.cond_true_left, Bool.and_eq_true, Bool.or_eq_true, Bool.and_eq_false_iff, Bool.or_eq_false_iff, Bool.not_eq_true', Bool.not_eq_false', Bool.not_eq_eq_eq_not, Bool.not_true, Bool.not_false, beq_true, beq_false, Int.not_lt, Int.not_le, Int.ofNat_lt, Int.ofNat_le]; omega) | (simp; done) | (simp; omega)))) (by ((try simp only [go_sem, seval]); try (first | trivial | omega | (simp only [decide_eq_true_eq, decide_eq_false_iff_not, Bool.cond_false_right, Bool.cond_true_left, Bool.and_eq_true, Bool.or_eq_true, Bool.and_eq_false_iff, Bool.or_eq_false_iff, Bool.not_eq_true', Bool.not_eq_false', Bool.not_eq_eq_eq_not, Bool.not_true, Bool.not_false, beq_true, beq_false, Int.not_lt, Int.not_le, Int.ofNat_lt, Int.ofNat_le]; omega) | (simp; done) | (simp; omega)))) (c_strings_Index _ _ _ (by simp; omega)) ?_)
    refine awOps.run (by simp only [go_sem, seval]; exact rfl) (by ((try simp only [go_sem, seval]); try (first | trivial | omega | (simp only [decide_eq_true_eq, decide_eq_false_iff_not, Bool.cond_false_right, Bool.cond_true_left, Bool.and_eq_true, Bool.or_eq_true, Bool.and_eq_false_iff, Bool.or_eq_false_iff, Bool.not_eq_true', Bool.not_eq_false', Bool.not_eq_eq_eq_not, Bool.not_true, Bool.not_false, beq_true, beq_false, Int.not_lt, Int.not_le, Int.ofNat_lt, Int.ofNat_le]; omega) | (simp; done) | (simp; omega)))) ?_
    refine AW.seqReg (by simp only [go_sem, seval]; exact rfl) (by ((try simp only [go_sem, seval]); try (first | trivial | omega | (simp only [decide_eq_true_eq, decide_eq_false_iff_not, Bool.cond_false_right, Bool.cond_true_left, Bool.and_eq_true, Bool.or_eq_true, Bool.and_eq_false_iff, Bool.or_eq_false_iff, Bool.not_eq_true', Bool.not_eq_false', Bool.not_eq_eq_eq_not, Bool.not_true, Bool.not_false, beq_true, beq_false, Int.not_lt, Int.not_le, Int.ofNat_lt, Int.ofNat_le]; omega) | (simp; done) | (simp; omega)))) ?_
    have hn' : ¬ (p = [] ∨ (s.length : Int) < max k 0) := by
      rintro (h | h)
      · exact hn.1 h
      · omega
    refine AW.cond (by simp only [go_sem, seval]; exact rfl) (by ((try simp only [go_sem, seval]); try (first | trivial | omega | (simp only [decide_eq_true_eq, decide_eq_false_iff_not, Bool.cond_false_right, Bool.cond_true_left, Bool.and_eq_true, Bool.or_eq_true, Bool.and_eq_false_iff, Bool.or_eq_false_iff, Bool.not_eq_true', Bool.not_eq_false', Bool.not_eq_eq_eq_not, Bool.not_true, Bool.not_false, beq_true, beq_false, Int.not_lt, Int.not_le, Int.ofNat_lt, Int.ofNat_le]; omega) | (simp; done) | (simp; omega)))) ?_ ?_
    · intro hc
      try simp only [decide_eq_true_eq, decide_eq_false_iff_not, Bool.cond_false_right, Bool.cond_true_left, Bool.and_eq_true, Bool.or_eq_true, Bool.and_eq_false_iff, Bool.or_eq_false_iff, Bool.not_eq_true', Bool.not_eq_false', Bool.not_eq_eq_eq_not, Bool.not_true, Bool.not_false, beq_true, beq_false, Int.not_lt, Int.not_le, Int.ofNat_lt, Int.ofNat_le] at hc
      refine AW.seqReg (by simp only [go_sem, seval]; exact rfl) (by ((try simp only [go_sem, seval]); try (first | trivial | omega | (simp only [decide_eq_true_eq, decide_eq_false_iff_not, Bool.cond_false_right, Bool.cond_true_left, Bool.and_eq_true, Bool.or_eq_true, Bool.and_eq_false_iff, Bool.or_eq_false_iff, Bool.not_eq_true', Bool.not_eq_false', Bool.not_eq_eq_eq_not, Bool.not_true, Bool.not_false, beq_true, beq_false, Int.not_lt, Int.not_le, Int.ofNat_lt, Int.ofNat_le]; omega) | (simp; done) | (simp; omega)))) ?_
      refine AW.ret ?_
      repeat (with_reducible first | refine ret_unblock ?_ | refine ret_andThen ?_)
      refine ret_fin ?_
      simp only [go_sem, seval]
      rw [findL, if_neg hn', if_pos hc, IntWalk.i64_in]
      have h1 := Lib.index_le (s.drop (max k 0).toNat) p
      simp only [List.length_drop] at h1
      omega
    · intro hc
      try simp only [decide_eq_true_eq, decide_eq_false_iff_not, Bool.cond_false_right, Bool.cond_true_left, Bool.and_eq_true, Bool.or_eq_true, Bool.and_eq_false_iff, Bool.or_eq_false_iff, Bool.not_eq_true', Bool.not_eq_false', Bool.not_eq_eq_eq_not, Bool.not_true, Bool.not_false, beq_true, beq_false, Int.not_lt, Int.not_le, Int.ofNat_lt, Int.ofNat_le] at hc
      refine AW.skip ?_
      refine AW.seqReg (by simp only [go_sem, seval]; exact rfl) (by ((try simp only [go_sem, seval]); try (first | trivial | omega | (simp only [decide_eq_true_eq, decide_eq_false_iff_not, Bool.cond_false_right, Bool.cond_true_left, Bool.and_eq_true, Bool.or_eq_true, Bool.and_eq_false_iff, Bool.or_eq_false_iff, Bool.not_eq_true', Bool.not_eq_false', Bool.not_eq_eq_eq_not, Bool.not_true, Bool.not_false, beq_true, beq_false, Int.not_lt, Int.not_le, Int.ofNat_lt, Int.ofNat_le]; omega) | (simp; done) | (simp; omega)))) ?_
      refine AW.ret ?_
      repeat (with_reducible first | refine ret_unblock ?_ | refine ret_andThen ?_)
      refine ret_fin ?_
      simp only [go_sem, seval]
      rw [findL, if_neg hn', if_neg (by omega)]
end Go.Proofs
