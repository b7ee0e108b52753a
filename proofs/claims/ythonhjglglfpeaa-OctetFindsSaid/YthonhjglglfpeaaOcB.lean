/- A part of the proof of a law of the seat: no condition of its own. -/
import Derived.Test.YthonhjglglfpeaaOcG
namespace Go.Proofs
open Go Aw
set_option linter.unusedSimpArgs false


def digs : List UInt8 := [48, 49, 50, 51, 52, 53, 54, 55, 56, 57, 65, 66, 67, 68, 69, 70]
def hexL (s : List UInt8) : List UInt8 := s.flatMap fun b => [digs.getD (b.toNat / 16) 0, digs.getD (b.toNat % 16) 0]

theorem shr4_n : ∀ n : Nat, n < 256 → bitShr .u8 (n : Int) 4 = ((n / 16 : Nat) : Int) := by decide +kernel
theorem shr4 (b : UInt8) : bitShr .u8 (b.toNat : Int) 4 = ((b.toNat / 16 : Nat) : Int) := shr4_n _ b.toNat_lt
theorem and15_n : ∀ n : Nat, n < 256 → bitAnd .u8 (n : Int) 15 = ((n % 16 : Nat) : Int) := by decide +kernel
theorem and15 (b : UInt8) : bitAnd .u8 (b.toNat : Int) 15 = ((b.toNat % 16 : Nat) : Int) := and15_n _ b.toNat_lt
theorem hexL_succ (s : List UInt8) (i : Nat) (h : i < s.length) : hexL (s.take (i + 1)) = hexL (s.take i) ++ [digs.getD ((s.getD i 0).toNat / 16) 0, digs.getD ((s.getD i 0).toNat % 16) 0] := by
  rw [List.take_succ_eq_append_getElem h]
  simp only [hexL, List.flatMap_append, List.flatMap_cons, List.flatMap_nil, List.append_nil, List.getD, List.getElem?_eq_getElem h, Option.getD_some]
theorem hexL_length (s : List UInt8) : (hexL s).length = 2 * s.length := by
  induction s with
  | nil => rfl
  | cons b s ih => simp only [hexL, List.flatMap_cons, List.length_append, List.length_cons, List.length_nil] at ih ⊢; omega

theorem c_octet_Hex (gl : List (Nat × AV)) (s : List UInt8) (hs : s.length ≤ 1000000 := by first | omega | exact u8_le _ | assumption | (simp; done) | (simp; omega)) : FnP Try.prog gl 18 [.str s] fun r => r = .ret (.str (hexL s)) := by
  refine FnP.intro Try.func18 rfl rfl (by simp [Try.ntmps18]) ?_
  simp only [argEnv, Try.ntmps18, Try.results18]
  refine AW.seqReg (by simp only [go_sem, seval]; exact rfl) (by simp only [go_sem, seval]) ?_
  refine AW.seqReg (by simp only [go_sem, seval]; exact rfl) ?_ ?_
  · rw [i64_wrap (by omega) (by omega)]
    omega
  rw [i64_wrap (by omega) (by omega)]
  refine AW.seq (AW.seqReg (by simp only [go_sem, seval]; exact rfl) (by simp only [go_sem, seval]) ?_)
  refine AW.block ?_
  refine AW.loop (S := { i : Nat // i ≤ s.length }) (fun i => ⟨30, [(0, .str s), (3, .row 0 0 (hexL (s.take i.1)).length), (10, .int .i64 s.length), (11, .int .i64 i.1)], [(0, .row 1 (bytesAV (hexL (s.take i.1))) true)], 1, gl, 0⟩)
    (fun i => s.length - i.1) ⟨0, Nat.zero_le _⟩ ?_ ?_
  · refine St.le.view [0] rfl rfl rfl rfl (by simp) (by decide) ?_ ?_
    · simp only [go_sem, seval]
      exact ⟨.refl _, .refl _, .refl _, .refl _⟩
    · simp only [go_sem, seval]
      rfl
  rintro ⟨i, hi⟩
  refine AW.seqReg (by simp only [go_sem, seval]; exact rfl) (by simp only [go_sem, seval]) ?_
  refine AW.seq (AW.cond (by simp only [go_sem, seval]; exact rfl) (by simp only [go_sem, seval]) ?_ ?_)
  · intro hlt
    have hlt : i < s.length := by simpa using hlt
    refine AW.skip ?_
    refine AW.seq (AW.block ?_)
    refine AW.seqReg (by simp only [go_sem, seval]; exact rfl) (by simp only [go_sem, seval]) ?_
    refine AW.drawAll [(0, 0), (1, 0), (2, 0), (3, 0), (4, 0), (5, 0), (6, 0), (7, 0), (8, 0), (9, 0), (10, 0), (11, 2), (12, 2), (13, 2)] (by kernel_rfl) (by kernel_rfl) (by kernel_rfl) ?_ (by simp only [go_sem, seval]; simp only [shr4, and15, Int.toNat_natCast]; exact rfl) ?_ ?_
    · repeat (first | exact PI.fin | refine PI.unblock ?_ | refine PI.andThen ?_)
    · have h16 : (s.getD i 0).toNat / 16 < 16 := by have := (s.getD i 0).toNat_lt; omega
      have hl := hexL_length (s.take i)
      have hl2 : (s.take i).length = i := by simp; omega
      refine ⟨by omega, by omega, by omega, by omega, by omega⟩
    refine AW.regAll (by simp only [go_sem, seval]; exact rfl) (by simp only [go_sem, seval]) ?_
    refine ⟨⟨i + 1, hlt⟩, ?_, ?_⟩
    · refine St.le.view [2] rfl rfl rfl rfl (by simp) (by decide) ?_ ?_
      · simp only [go_sem, seval]
        rw [i64_wrap (by omega) (by omega), hexL_succ s i hlt]
        simp only [List.length_append, List.length_cons, List.length_nil, List.take, Nat.reduceAdd]
        exact ⟨.refl _, .refl _, .refl _, .refl _⟩
      · simp only [go_sem, seval]
        rw [hexL_succ s i hlt, ← bytesAV_append]
        rfl
    · show s.length - (i + 1) < s.length - i
      omega
  intro hge
  have hge : i = s.length := by
    have : ¬ i < s.length := by simpa using hge
    omega
  subst hge
  refine AW.exit ?_
  refine AW.seqReg (by simp only [go_sem, seval]; exact rfl) (by ((try simp only [go_sem, seval]); try (first | trivial | omega | (simp only [decide_eq_true_eq, decide_eq_false_iff_not, Bool.cond_false_right, Bool.cond_true_left, Bool.and_eq_true, Bool.or_eq_true, Bool.and_eq_false_iff, Bool.or_eq_false_iff, Bool.not_eq_true', Bool.not_eq_false', Bool.not_eq_eq_eq_not, Bool.not_true, Bool.not_false, beq_true, beq_false, Int.not_lt, Int.not_le, Int.ofNat_lt, Int.ofNat_le]; omega) | (simp; done) | (simp; omega)))) ?_
  refine AW.ret ?_
  simp only [go_sem, seval]

end Go.Proofs
