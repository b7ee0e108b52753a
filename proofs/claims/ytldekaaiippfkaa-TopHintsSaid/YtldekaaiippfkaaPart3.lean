/- A part of the proof: no condition of its own. -/
import Derived.Test.YtldekaaiippfkaaPart2
namespace Go.Proofs
open Go Aw
set_option linter.unusedSimpArgs false
set_option linter.unusedVariables false
set_option maxRecDepth 100000
set_option maxHeartbeats 4000000
attribute [local go_sem] hintsAV_length hintsAV_len3 hintsAV_at mkH_len hintsAV_mk_at
theorem h_cell0 (gl : List (Nat × AV)) (l : List Hn) (i : Nat) (hi : i < l.length) (hl : l.length ≤ 16777216) : FnH Try.prog (gl) 32 [.rptr 0 i 0, .int .i64 0] ([(0, .row 3 (hintsAV l) true)]) 1 (fun r h n => r = .ret (.rptr 0 i 0) ∧ h = [(0, .row 3 (hintsAV l) true)] ∧ n = 1) := by
 refine FnH.intro Try.func32 rfl rfl (by simp [Try.ntmps32]) ?_
 simp only [argEnv, Try.ntmps32, Try.results32]
 refine AW.rS ?_
 refine AW.seq ?_
 refine AW.rS ?_
 refine AW.block ?_
 refine AW.rS ?_
 refine AW.c2 ?_ ?_
 ·intro h6
  refine AW.rS ?_
  refine AW.rt ?_
  all_goals first | contradiction | rfl | (simp; done) | (simp; omega)
 ·intro h6
  refine AW.rS ?_
  refine AW.c2 ?_ ?_
  ·intro h11
   refine AW.rS ?_
   refine AW.rt ?_
   all_goals first | contradiction | rfl | (simp; done) | (simp; omega)
  ·intro h11
   refine AW.skip ?_
   refine AW.rS ?_
   refine AW.rt ?_
   all_goals first | contradiction | rfl | (simp; done) | (simp; omega)
theorem h_cell1 (gl : List (Nat × AV)) (l : List Hn) (i : Nat) (hi : i < l.length) (hl : l.length ≤ 16777216) : FnH Try.prog (gl) 32 [.rptr 0 i 0, .int .i64 1] ([(0, .row 3 (hintsAV l) true)]) 1 (fun r h n => r = .ret (.rptr 0 i 1) ∧ h = [(0, .row 3 (hintsAV l) true)] ∧ n = 1) := by
 refine FnH.intro Try.func32 rfl rfl (by simp [Try.ntmps32]) ?_
 simp only [argEnv, Try.ntmps32, Try.results32]
 refine AW.rS ?_
 refine AW.seq ?_
 refine AW.rS ?_
 refine AW.block ?_
 refine AW.rS ?_
 refine AW.c2 ?_ ?_
 ·intro h6
  refine AW.rS ?_
  refine AW.rt ?_
  all_goals first | contradiction | rfl | (simp; done) | (simp; omega)
 ·intro h6
  refine AW.rS ?_
  refine AW.c2 ?_ ?_
  ·intro h11
   refine AW.rS ?_
   refine AW.rt ?_
   all_goals first | contradiction | rfl | (simp; done) | (simp; omega)
  ·intro h11
   refine AW.skip ?_
   refine AW.rS ?_
   refine AW.rt ?_
   all_goals first | contradiction | rfl | (simp; done) | (simp; omega)
theorem h_cell2 (gl : List (Nat × AV)) (l : List Hn) (i : Nat) (hi : i < l.length) (hl : l.length ≤ 16777216) : FnH Try.prog (gl) 32 [.rptr 0 i 0, .int .i64 2] ([(0, .row 3 (hintsAV l) true)]) 1 (fun r h n => r = .ret (.rptr 0 i 2) ∧ h = [(0, .row 3 (hintsAV l) true)] ∧ n = 1) := by
 refine FnH.intro Try.func32 rfl rfl (by simp [Try.ntmps32]) ?_
 simp only [argEnv, Try.ntmps32, Try.results32]
 refine AW.rS ?_
 refine AW.seq ?_
 refine AW.rS ?_
 refine AW.block ?_
 refine AW.rS ?_
 refine AW.c2 ?_ ?_
 ·intro h6
  refine AW.rS ?_
  refine AW.rt ?_
  all_goals first | contradiction | rfl | (simp; done) | (simp; omega)
 ·intro h6
  refine AW.rS ?_
  refine AW.c2 ?_ ?_
  ·intro h11
   refine AW.rS ?_
   refine AW.rt ?_
   all_goals first | contradiction | rfl | (simp; done) | (simp; omega)
  ·intro h11
   refine AW.skip ?_
   refine AW.rS ?_
   refine AW.rt ?_
   all_goals first | contradiction | rfl | (simp; done) | (simp; omega)
theorem h_eye_read (gl : List (Nat × AV)) (s : List UInt8) (hl : s.length ≤ 16777216) : FnK Try.prog (gl) 37 [.agg [.ptr 0 0]] ([(0, .cells [.int .i64 0, .int .i64 0, .str s, .int .i64 0])]) 1 0 (fun r h n => (readOk s ∧ r = .ret (.row 0 0 (readV s 0 32)) ∧ h = [(0, .row 3 (hintsAV (readL s)) true)] ∧ n = 1) ∨ (¬ readOk s ∧ r = .panic (.iface 79 (.agg [])) ∧ 0 ≤ n)) := by
 refine FnK.intro Try.func37 rfl rfl (by simp [Try.ntmps37]) ?_
 simp only [argEnv, Try.ntmps37, Try.results37]
 refine AW.rS ?_
 refine AW.trim [1] ?_
 refine AW.rSC ?_
 refine awOps.cons (awGuard.cKM 1 [0] (h_eye_num _ 0 s 0 32 2048 (.inl rfl) (by decide) (by omega) hl (by decide)) ?_ ?_)
 ·intro hp3 n3 hn3
  refine wk ?_
  exact .inr ⟨fun hk => hp3 ⟨by have := hk.1.1; omega, hk.1.2.1⟩, Nat.zero_le _⟩
 intro hm3
 refine awOps.rn ?_
 rw [rep_hints]
 refine AW.trim [1, 3] ?_
 refine AW.rS ?_
 refine AW.trim [1, 3, 4, 5] ?_
 refine AW.seq ?_
 refine AW.rS ?_
 refine AW.trim [1, 3, 4, 5, 13] ?_
 refine AW.block ?_
 refine AW.un 3 ?_
 refine AW.rS ?_
 refine AW.trim [1, 3, 4, 5, 13, 14] ?_
 refine AW.seq ?_
 refine AW.c2 ?_ ?_
 ·intro h12
  refine AW.skip ?_
  refine AW.seq ?_
  refine AW.block ?_
  refine AW.rS ?_
  refine AW.trim [1, 3, 4, 5, 6, 13] ?_
  refine AW.zL (σf := ?sf17) (32 + 32 ≤ 8 * s.length ∧ readV s 32 32 ≤ 8191) [0] [1, 2, 3] (.fork 4 (.fork 5 (.fork 6 .done .stop) .stop) .stop) 3 ?tree17 ?rest17
  case tree17 =>
   refine awPlan.rn ?_
   rw [Aw.awPlan_nil]
   refine awFun.rn ?_
   refine awFun.c1 [18] (c_most0 _) ?_
   refine awFun.rn ?_
   rw [Aw.awFun_nil]
   refine awTree.fH rfl (awGuard.cKM 1 [0] (h_eye_num _ 2 s 32 32 8191 (.inr rfl) (by decide) (by omega) hl (by decide)) ?_ ?_) ?_
   ·intro hp n hn
    refine wk ?_
    exact .inr ⟨fun hk => hp ⟨by have := hk.1.1; omega, hk.1.2.2.1.1⟩, Nat.zero_le _⟩
   ·intro hm
    refine awTree.fA ?_ ?_
    ·refine awTree.fA ?_ ?_
     ·exact awTree.dnC hm
     ·exact trivial
    ·exact trivial
   ·exact trivial
  case rest17 =>
  intro hm17
  skip
  skip
  skip
  skip
  refine AW.rL ?_
  refine AWR.s ?_
  refine AW.rS ?_
  refine AW.trim [1, 3, 4, 5, 13, 14] ?_
  refine AW.seq ?_
  refine AW.c2 ?_ ?_
  ·intro h26
   refine AW.skip ?_
   refine AW.seq ?_
   refine AW.block ?_
   refine AW.rS ?_
   refine AW.trim [1, 3, 4, 5, 6, 13] ?_
   refine AW.zL (σf := ?sf31) (64 + 32 ≤ 8 * s.length ∧ readV s 64 32 ≤ 1048576) [0] [1, 2, 3] (.fork 4 (.fork 5 (.fork 6 .done .stop) .stop) .stop) 3 ?tree31 ?rest31
   case tree31 =>
    refine awPlan.rn ?_
    rw [Aw.awPlan_nil]
    refine awFun.rn ?_
    refine awFun.c1 [18] (c_most1 _) ?_
    refine awFun.rn ?_
    rw [Aw.awFun_nil]
    refine awTree.fH rfl (awGuard.cKM 1 [0] (h_eye_num _ 2 s 64 32 1048576 (.inr rfl) (by decide) (by omega) hl (by decide)) ?_ ?_) ?_
    ·intro hp n hn
     refine wk ?_
     exact .inr ⟨fun hk => hp ⟨by have := hk.1.1; omega, hk.1.2.2.1.2.1⟩, Nat.zero_le _⟩
    ·intro hm
     refine awTree.fA ?_ ?_
     ·refine awTree.fA ?_ ?_
      ·exact awTree.dnC hm
      ·exact trivial
     ·exact trivial
    ·exact trivial
   case rest31 =>
   intro hm31
   skip
   skip
   skip
   skip
   refine AW.rL ?_
   refine AWR.s ?_
   refine AW.rS ?_
   refine AW.trim [1, 3, 4, 5, 13, 14] ?_
   refine AW.seq ?_
   refine AW.c2 ?_ ?_
   ·intro h40
    refine AW.skip ?_
    refine AW.seq ?_
    refine AW.block ?_
    refine AW.rS ?_
    refine AW.trim [1, 3, 4, 5, 6, 13] ?_
    refine AW.zL (σf := ?sf45) (96 + 32 ≤ 8 * s.length ∧ readV s 96 32 ≤ 1048576) [0] [1, 2, 3] (.fork 4 (.fork 5 (.fork 6 .done .stop) .stop) .stop) 3 ?tree45 ?rest45
    case tree45 =>
     refine awPlan.rn ?_
     rw [Aw.awPlan_nil]
     refine awFun.rn ?_
     refine awFun.c1 [18] (c_most2 _) ?_
     refine awFun.rn ?_
     rw [Aw.awFun_nil]
     refine awTree.fH rfl (awGuard.cKM 1 [0] (h_eye_num _ 2 s 96 32 1048576 (.inr rfl) (by decide) (by omega) hl (by decide)) ?_ ?_) ?_
     ·intro hp n hn
      refine wk ?_
      exact .inr ⟨fun hk => hp ⟨by have := hk.1.1; omega, hk.1.2.2.1.2.2⟩, Nat.zero_le _⟩
     ·intro hm
      refine awTree.fA ?_ ?_
      ·refine awTree.fA ?_ ?_
       ·exact awTree.dnC hm
       ·exact trivial
      ·exact trivial
     ·exact trivial
    case rest45 =>
    intro hm45
    skip
    skip
    skip
    skip
    refine AW.rL ?_
    refine AWR.s ?_
    refine AW.rS ?_
    refine AW.trim [1, 3, 4, 5, 13, 14] ?_
    refine AW.seq ?_
    refine AW.c2 ?_ ?_
    ·intro h54
     first | contradiction | (simp at h54; done) | (exfalso; omega) | (exfalso; revert h54; decide)
    ·intro h54
     refine AW.exit ?_
     refine AW.seq ?_
     refine AW.rS ?_
     refine AW.trim [1, 3, 4, 5, 23] ?_
     refine AW.block ?_
     refine AW.un 3 ?_
     refine AW.rS ?_
     refine AW.trim [1, 3, 4, 5, 23, 24] ?_
     refine AW.seq ?_
     refine AW.c2 ?_ ?_
     ·intro h62
      refine AW.skip ?_
      refine AW.seq ?_
      refine AW.block ?_
      refine AW.rS ?_
      refine AW.trim [1, 3, 4, 5, 7, 23] ?_
      refine AW.rLC ?_
      refine awOps.cons (awGuard.cKM 1 [0] (h_eye_num _ 2 s 128 16 24 (.inr rfl) (by decide) (by omega) hl (by decide)) ?_ ?_)
      ·intro hp68 n68 hn68
       refine wk ?_
       exact .inr ⟨fun hk => hp68 ⟨by have := hk.1.1; omega, hk.1.2.2.2.1⟩, Nat.zero_le _⟩
      intro hm68
      refine awOps.rn ?_
      refine AW.rL ?_
      refine AWR.s ?_
      refine AW.rS ?_
      refine AW.trim [1, 3, 4, 5, 23, 24] ?_
      refine AW.seq ?_
      refine AW.c2 ?_ ?_
      ·intro h74
       refine AW.skip ?_
       refine AW.seq ?_
       refine AW.block ?_
       refine AW.rS ?_
       refine AW.trim [1, 3, 4, 5, 7, 23] ?_
       refine AW.rLC ?_
       refine awOps.cons (awGuard.cKM 1 [0] (h_eye_num _ 2 s 144 16 24 (.inr rfl) (by decide) (by omega) hl (by decide)) ?_ ?_)
       ·intro hp80 n80 hn80
        refine wk ?_
        exact .inr ⟨fun hk => hp80 ⟨by have := hk.1.1; omega, hk.1.2.2.2.2.1⟩, Nat.zero_le _⟩
       intro hm80
       refine awOps.rn ?_
       refine AW.rL ?_
       refine AWR.s ?_
       refine AW.rS ?_
       refine AW.trim [1, 3, 4, 5, 23, 24] ?_
       refine AW.seq ?_
       refine AW.c2 ?_ ?_
       ·intro h86
        refine AW.skip ?_
        refine AW.seq ?_
        refine AW.block ?_
        refine AW.rS ?_
        refine AW.trim [1, 3, 4, 5, 7, 23] ?_
        refine AW.rLC ?_
        refine awOps.cons (awGuard.cKM 1 [0] (h_eye_num _ 2 s 160 16 24 (.inr rfl) (by decide) (by omega) hl (by decide)) ?_ ?_)
        ·intro hp92 n92 hn92
         refine wk ?_
         exact .inr ⟨fun hk => hp92 ⟨by have := hk.1.1; omega, hk.1.2.2.2.2.2⟩, Nat.zero_le _⟩
        intro hm92
        refine awOps.rn ?_
        refine AW.rL ?_
        refine AWR.s ?_
        refine AW.rS ?_
        refine AW.trim [1, 3, 4, 5, 23, 24] ?_
        refine AW.seq ?_
        refine AW.c2 ?_ ?_
        ·intro h98
         first | contradiction | (simp at h98; done) | (exfalso; omega) | (exfalso; revert h98; decide)
        ·intro h98
         refine AW.exit ?_
         refine AW.seq ?_
         refine AW.rS ?_
         refine AW.trim [1, 3, 4, 5, 31] ?_
         refine AW.block ?_
         refine AW.un 3 ?_
         refine AW.rS ?_
         refine AW.trim [1, 3, 4, 5, 31, 32] ?_
         refine AW.seq ?_
         refine AW.c2 ?_ ?_
         ·intro h106
          refine AW.skip ?_
          refine AW.seq ?_
          refine AW.block ?_
          refine AW.rS ?_
          refine AW.trim [1, 3, 4, 5, 8, 31] ?_
          refine AW.seq ?_
          refine AW.rS ?_
          refine AW.trim [1, 3, 4, 5, 8, 31, 35, 36] ?_
          refine AW.block ?_
          refine AW.lk (S := { i : Nat // i ≤ readV s 0 32 ∧ colOk s 176 (readV s 128 16) 8191 i }) [1, 3, 4, 5, 8, 31, 35] (fun s_ => [(36, .int .i64 s_.1)]) (fun s_ => [(0, .cells [.int .i64 (wayI 2 (readV s 128 16) s_.1), .int .i64 ((176 + s_.1 * (readV s 128 16)) % 8 : Nat), .str s, .int .i64 ((176 + s_.1 * (readV s 128 16)) / 8 : Nat)]), (1, .cells [.ptr 0 0]), (3, .cells [.int .i64 (readV s 32 32 : Nat), .int .i64 (readV s 64 32 : Nat), .int .i64 (readV s 96 32 : Nat)]), (4, .cells [.int .i64 (readV s 128 16 : Nat), .int .i64 (readV s 144 16 : Nat), .int .i64 (readV s 160 16 : Nat)]), (2, .row 3 (hintsAV (mkH (readV s 0 32) (upTo s_.1 (colV s (readV s 32 32) 176 (readV s 128 16))) (fun _ => 0) (fun _ => 0))) true)]) 5 (fun s_ => readV s 0 32 - s_.1) ⟨0, Nat.zero_le _, fun j h => absurd h (by omega)⟩ ?_ ?_
          ·refine St.le.vx [0, 1, 2, 3, 4] ?_; rw [wayI_zero, upTo_zero, Nat.zero_mul, Nat.add_zero] <;> exact ⟨rfl, rfl⟩
          rintro ⟨i, hi, hc0⟩
          try dsimp only at hi
          try dsimp only at hc0
          have hpe := colOk_end (s := s) (P := 176) (by omega) hc0
          have hws := wayI_succ 2 (readV s 128 16) i
          have hsm : 176 + i * (readV s 128 16) + (readV s 128 16) = 176 + (i + 1) * (readV s 128 16) := by rw [Nat.succ_mul, Nat.add_assoc]
          refine AW.rS ?_
          refine AW.trim [1, 3, 4, 5, 8, 31, 35, 36, 37] ?_
          refine AW.seq ?_
          refine AW.c2 ?_ ?_
          ·intro h117
           obtain ⟨j, rfl⟩ : ∃ j : { k : Nat // k < readV s 0 32 }, i = j.1 := ⟨⟨i, h117⟩, rfl⟩
           have hset := setA (n := readV s 0 32) (i := j.1) (fa := (colV s (readV s 32 32) 176 (readV s 128 16))) (fb := (fun _ => 0)) (fd := (fun _ => 0))
           rw [colV_def s (readV s 32 32) 176 (readV s 128 16) j.1] at hset
           try dsimp only at hset
           refine AW.skip ?_
           refine AW.seq ?_
           refine AW.block ?_
           refine AW.rS ?_
           refine AW.trim [1, 3, 4, 5, 8, 9, 31, 35, 36] ?_
           refine AW.qL (σf := ?sf122) ((176 + j.1 * (readV s 128 16)) + (readV s 128 16) ≤ 8 * s.length ∧ readV s (176 + j.1 * (readV s 128 16)) (readV s 128 16) ≤ 8191) [5, 6] [0, 1, 2, 3, 4, 8, 9, 10, 11, 12, 13] 7 (.fork 14 (.fork 15 (.fork 16 (.fork 17 .done .stop) .stop) .stop) .stop) (.fork 7 (.fork 14 (.fork 15 (.fork 16 (.fork 17 .done .stop) .stop) .stop) .stop) (.fork 14 (.fork 7 (.fork 15 (.fork 16 (.fork 17 .done .stop) .stop) .stop) .stop) .stop)) 4 ?tree122 ?rest122
           case tree122 =>
            refine awPlan.rn ?_
            rw [Aw.awPlan_nil]
            refine awFun.rn ?_
            refine awFun.cH [41, 42] [2] (h_cell0 _ (mkH (readV s 0 32) (upTo j.1 (colV s (readV s 32 32) 176 (readV s 128 16))) (fun _ => 0) (fun _ => 0)) j.1 (by rw [mkH_len]; exact j.2) (by rw [mkH_len]; omega)) ?_
            refine awFun.rn ?_
            refine awFun.c1 [51] (c_most0 _) ?_
            refine awFun.rn ?_
            rw [Aw.awFun_nil]
            refine ⟨?_, ?_⟩
            ·refine awTree.fA ?_ ?_
             ·refine awTree.fH rfl (awGuard.cKM 1 [0] (h_eye_num _ (wayI 2 (readV s 128 16) j.1) s (176 + j.1 * (readV s 128 16)) (readV s 128 16) 8191 (wayI_ok (.inr rfl)) (by omega) hpe hl (by decide)) ?_ ?_) ?_
              ·intro hp n hn
               refine wk ?_
               exact .inr ⟨fun hk => hp ((colAt_def ..).1 (hk.2.1 j.1 j.2)), Nat.zero_le _⟩
              ·intro hm
               refine awTree.fA ?_ ?_
               ·refine awTree.fA ?_ ?_
                ·refine awTree.fH rfl (awGuard.sF ?_) ?_
                 ·exact awTree.dnC hm
                 ·exact trivial
                ·exact trivial
               ·exact trivial
              ·exact trivial
             ·refine awTree.fH rfl (awGuard.cKM 1 [0] (h_eye_num _ (wayI 2 (readV s 128 16) j.1) s (176 + j.1 * (readV s 128 16)) (readV s 128 16) 8191 (wayI_ok (.inr rfl)) (by omega) hpe hl (by decide)) ?_ ?_) ?_
              ·intro hp n hn
               refine wk ?_
               exact .inr ⟨fun hk => hp ((colAt_def ..).1 (hk.2.1 j.1 j.2)), Nat.zero_le _⟩
              ·intro hm
               refine awTree.fA ?_ ?_
               ·refine awTree.fA ?_ ?_
                ·refine awTree.fA ?_ ?_
                 ·refine awTree.fH rfl (awGuard.sF ?_) ?_
                  ·exact awTree.dnC hm
                  ·exact trivial
                 ·exact trivial
                ·exact trivial
               ·exact trivial
              ·exact trivial
            ·refine awFun.rn ?_
             rw [Aw.awFun_nil]
             refine awTree.fH rfl (awGuard.cKM 1 [0] (h_eye_num _ (wayI 2 (readV s 128 16) j.1) s (176 + j.1 * (readV s 128 16)) (readV s 128 16) 8191 (wayI_ok (.inr rfl)) (by omega) hpe hl (by decide)) ?_ ?_) ?_
             ·intro hp n hn
              refine wk ?_
              exact .inr ⟨fun hk => hp ((colAt_def ..).1 (hk.2.1 j.1 j.2)), Nat.zero_le _⟩
             ·intro hm
              refine awTree.fA ?_ ?_
              ·refine awTree.fA ?_ ?_
               ·refine awTree.fH rfl (awGuard.sF ?_) ?_
                ·exact awTree.dnC hm
                ·exact trivial
               ·exact trivial
              ·exact trivial
             ·exact trivial
           case rest122 =>
           intro hm122
           skip
           skip
           skip
           skip
           skip
           skip
           refine AW.rL ?_
           refine ⟨⟨j.1 + 1, by omega, colOk_succ hc0 ((colAt_def ..).2 hm122)⟩, ?_, ?_⟩
           ·refine St.le.vx [0, 1, 2, 3, 4] ?_
            rw [hws, hsm, hset] <;> exact ⟨rfl, rfl⟩
           ·simp only []; omega
          ·intro h117
           obtain rfl : i = readV s 0 32 := by omega
           rw [upTo_all]
           refine AW.exit ?_
           refine AW.rLC ?_
           refine awOps.cons (awGuard.cH [0] (h_Reader_Align _ (wayI 2 (readV s 128 16) (readV s 0 32)) s (176 + readV s 0 32 * (readV s 128 16)) hpe hl) ?_)
           refine awOps.rn ?_
           rw [p1S_def]
           have hP1 : p1S s ≤ 8 * s.length := by rw [← p1S_def]; omega
           refine AW.rL ?_
           refine AWR.s ?_
           refine AW.rS ?_
           refine AW.trim [1, 3, 4, 5, 31, 32] ?_
           refine AW.seq ?_
           refine AW.c2 ?_ ?_
           ·intro h139
            refine AW.skip ?_
            refine AW.seq ?_
            refine AW.block ?_
            refine AW.rS ?_
            refine AW.trim [1, 3, 4, 5, 8, 31] ?_
            refine AW.seq ?_
            refine AW.rS ?_
            refine AW.trim [1, 3, 4, 5, 8, 31, 35, 36] ?_
            refine AW.block ?_
            refine AW.lk (S := { i : Nat // i ≤ readV s 0 32 ∧ colOk s (p1S s) (readV s 144 16) 1048576 i }) [1, 3, 4, 5, 8, 31, 35] (fun s_ => [(36, .int .i64 s_.1)]) (fun s_ => [(0, .cells [.int .i64 (wayI 0 (readV s 144 16) s_.1), .int .i64 (((p1S s) + s_.1 * (readV s 144 16)) % 8 : Nat), .str s, .int .i64 (((p1S s) + s_.1 * (readV s 144 16)) / 8 : Nat)]), (1, .cells [.ptr 0 0]), (3, .cells [.int .i64 (readV s 32 32 : Nat), .int .i64 (readV s 64 32 : Nat), .int .i64 (readV s 96 32 : Nat)]), (4, .cells [.int .i64 (readV s 128 16 : Nat), .int .i64 (readV s 144 16 : Nat), .int .i64 (readV s 160 16 : Nat)]), (2, .row 3 (hintsAV (mkH (readV s 0 32) (colV s (readV s 32 32) 176 (readV s 128 16)) (upTo s_.1 (colV s (readV s 64 32) (p1S s) (readV s 144 16))) (fun _ => 0))) true)]) 5 (fun s_ => readV s 0 32 - s_.1) ⟨0, Nat.zero_le _, fun j h => absurd h (by omega)⟩ ?_ ?_
            ·refine St.le.vx [0, 1, 2, 3, 4] ?_; rw [wayI_zero, upTo_zero, Nat.zero_mul, Nat.add_zero] <;> exact ⟨rfl, rfl⟩
            rintro ⟨i, hi, hc1⟩
            try dsimp only at hi
            try dsimp only at hc1
            have hpe := colOk_end (s := s) (P := (p1S s)) (by omega) hc1
            have hws := wayI_succ 0 (readV s 144 16) i
            have hsm : (p1S s) + i * (readV s 144 16) + (readV s 144 16) = (p1S s) + (i + 1) * (readV s 144 16) := by rw [Nat.succ_mul, Nat.add_assoc]
            refine AW.rS ?_
            refine AW.trim [1, 3, 4, 5, 8, 31, 35, 36, 37] ?_
            refine AW.seq ?_
            refine AW.c2 ?_ ?_
            ·intro h150
             obtain ⟨j, rfl⟩ : ∃ j : { k : Nat // k < readV s 0 32 }, i = j.1 := ⟨⟨i, h150⟩, rfl⟩
             have hset := setB (n := readV s 0 32) (i := j.1) (fa := (colV s (readV s 32 32) 176 (readV s 128 16))) (fb := (colV s (readV s 64 32) (p1S s) (readV s 144 16))) (fd := (fun _ => 0))
             rw [colV_def s (readV s 64 32) (p1S s) (readV s 144 16) j.1] at hset
             try dsimp only at hset
             refine AW.skip ?_
             refine AW.seq ?_
             refine AW.block ?_
             refine AW.rS ?_
             refine AW.trim [1, 3, 4, 5, 8, 9, 31, 35, 36] ?_
             refine AW.qL (σf := ?sf155) (((p1S s) + j.1 * (readV s 144 16)) + (readV s 144 16) ≤ 8 * s.length ∧ readV s ((p1S s) + j.1 * (readV s 144 16)) (readV s 144 16) ≤ 1048576) [5, 6] [0, 1, 2, 3, 4, 8, 9, 10, 11, 12, 13] 7 (.fork 14 (.fork 15 (.fork 16 (.fork 17 .done .stop) .stop) .stop) .stop) (.fork 7 (.fork 14 (.fork 15 (.fork 16 (.fork 17 .done .stop) .stop) .stop) .stop) (.fork 14 (.fork 7 (.fork 15 (.fork 16 (.fork 17 .done .stop) .stop) .stop) .stop) .stop)) 4 ?tree155 ?rest155
             case tree155 =>
              refine awPlan.rn ?_
              rw [Aw.awPlan_nil]
              refine awFun.rn ?_
              refine awFun.cH [41, 42] [2] (h_cell1 _ (mkH (readV s 0 32) (colV s (readV s 32 32) 176 (readV s 128 16)) (upTo j.1 (colV s (readV s 64 32) (p1S s) (readV s 144 16))) (fun _ => 0)) j.1 (by rw [mkH_len]; exact j.2) (by rw [mkH_len]; omega)) ?_
              refine awFun.rn ?_
              refine awFun.c1 [51] (c_most1 _) ?_
              refine awFun.rn ?_
              rw [Aw.awFun_nil]
              refine ⟨?_, ?_⟩
              ·refine awTree.fA ?_ ?_
               ·refine awTree.fH rfl (awGuard.cKM 1 [0] (h_eye_num _ (wayI 0 (readV s 144 16) j.1) s ((p1S s) + j.1 * (readV s 144 16)) (readV s 144 16) 1048576 (wayI_ok (.inl rfl)) (by omega) hpe hl (by decide)) ?_ ?_) ?_
                ·intro hp n hn
                 refine wk ?_
                 exact .inr ⟨fun hk => hp ((colAt_def ..).1 (hk.2.2.1 j.1 j.2)), Nat.zero_le _⟩
                ·intro hm
                 refine awTree.fA ?_ ?_
                 ·refine awTree.fA ?_ ?_
                  ·refine awTree.fH rfl (awGuard.sF ?_) ?_
                   ·exact awTree.dnC hm
                   ·exact trivial
                  ·exact trivial
                 ·exact trivial
                ·exact trivial
               ·refine awTree.fH rfl (awGuard.cKM 1 [0] (h_eye_num _ (wayI 0 (readV s 144 16) j.1) s ((p1S s) + j.1 * (readV s 144 16)) (readV s 144 16) 1048576 (wayI_ok (.inl rfl)) (by omega) hpe hl (by decide)) ?_ ?_) ?_
                ·intro hp n hn
                 refine wk ?_
                 exact .inr ⟨fun hk => hp ((colAt_def ..).1 (hk.2.2.1 j.1 j.2)), Nat.zero_le _⟩
                ·intro hm
                 refine awTree.fA ?_ ?_
                 ·refine awTree.fA ?_ ?_
                  ·refine awTree.fA ?_ ?_
                   ·refine awTree.fH rfl (awGuard.sF ?_) ?_
                    ·exact awTree.dnC hm
                    ·exact trivial
                   ·exact trivial
                  ·exact trivial
                 ·exact trivial
                ·exact trivial
              ·refine awFun.rn ?_
               rw [Aw.awFun_nil]
               refine awTree.fH rfl (awGuard.cKM 1 [0] (h_eye_num _ (wayI 0 (readV s 144 16) j.1) s ((p1S s) + j.1 * (readV s 144 16)) (readV s 144 16) 1048576 (wayI_ok (.inl rfl)) (by omega) hpe hl (by decide)) ?_ ?_) ?_
               ·intro hp n hn
                refine wk ?_
                exact .inr ⟨fun hk => hp ((colAt_def ..).1 (hk.2.2.1 j.1 j.2)), Nat.zero_le _⟩
               ·intro hm
                refine awTree.fA ?_ ?_
                ·refine awTree.fA ?_ ?_
                 ·refine awTree.fH rfl (awGuard.sF ?_) ?_
                  ·exact awTree.dnC hm
                  ·exact trivial
                 ·exact trivial
                ·exact trivial
               ·exact trivial
             case rest155 =>
             intro hm155
             skip
             skip
             skip
             skip
             skip
             skip
             refine AW.rL ?_
             refine ⟨⟨j.1 + 1, by omega, colOk_succ hc1 ((colAt_def ..).2 hm155)⟩, ?_, ?_⟩
             ·refine St.le.vx [0, 1, 2, 3, 4] ?_
              rw [hws, hsm, hset] <;> exact ⟨rfl, rfl⟩
             ·simp only []; omega
            ·intro h150
             obtain rfl : i = readV s 0 32 := by omega
             rw [upTo_allB]
             refine AW.exit ?_
             refine AW.rLC ?_
             refine awOps.cons (awGuard.cH [0] (h_Reader_Align _ (wayI 0 (readV s 144 16) (readV s 0 32)) s ((p1S s) + readV s 0 32 * (readV s 144 16)) hpe hl) ?_)
             refine awOps.rn ?_
             rw [p2S_def]
             have hP2 : p2S s ≤ 8 * s.length := by rw [← p2S_def]; omega
             refine AW.rL ?_
             refine AWR.s ?_
             refine AW.rS ?_
             refine AW.trim [1, 3, 4, 5, 31, 32] ?_
             refine AW.seq ?_
             refine AW.c2 ?_ ?_
             ·intro h172
              refine AW.skip ?_
              refine AW.seq ?_
              refine AW.block ?_
              refine AW.rS ?_
              refine AW.trim [1, 3, 4, 5, 8, 31] ?_
              refine AW.seq ?_
              refine AW.rS ?_
              refine AW.trim [1, 3, 4, 5, 8, 31, 35, 36] ?_
              refine AW.block ?_
              refine AW.lk (S := { i : Nat // i ≤ readV s 0 32 ∧ colOk s (p2S s) (readV s 160 16) 1048576 i }) [1, 3, 4, 5, 8, 31, 35] (fun s_ => [(36, .int .i64 s_.1)]) (fun s_ => [(0, .cells [.int .i64 (wayI 0 (readV s 160 16) s_.1), .int .i64 (((p2S s) + s_.1 * (readV s 160 16)) % 8 : Nat), .str s, .int .i64 (((p2S s) + s_.1 * (readV s 160 16)) / 8 : Nat)]), (1, .cells [.ptr 0 0]), (3, .cells [.int .i64 (readV s 32 32 : Nat), .int .i64 (readV s 64 32 : Nat), .int .i64 (readV s 96 32 : Nat)]), (4, .cells [.int .i64 (readV s 128 16 : Nat), .int .i64 (readV s 144 16 : Nat), .int .i64 (readV s 160 16 : Nat)]), (2, .row 3 (hintsAV (mkH (readV s 0 32) (colV s (readV s 32 32) 176 (readV s 128 16)) (colV s (readV s 64 32) (p1S s) (readV s 144 16)) (upTo s_.1 (colV s (readV s 96 32) (p2S s) (readV s 160 16))))) true)]) 5 (fun s_ => readV s 0 32 - s_.1) ⟨0, Nat.zero_le _, fun j h => absurd h (by omega)⟩ ?_ ?_
              ·refine St.le.vx [0, 1, 2, 3, 4] ?_; rw [wayI_zero, upTo_zero, Nat.zero_mul, Nat.add_zero] <;> exact ⟨rfl, rfl⟩
              rintro ⟨i, hi, hc2⟩
              try dsimp only at hi
              try dsimp only at hc2
              have hpe := colOk_end (s := s) (P := (p2S s)) (by omega) hc2
              have hws := wayI_succ 0 (readV s 160 16) i
              have hsm : (p2S s) + i * (readV s 160 16) + (readV s 160 16) = (p2S s) + (i + 1) * (readV s 160 16) := by rw [Nat.succ_mul, Nat.add_assoc]
              refine AW.rS ?_
              refine AW.trim [1, 3, 4, 5, 8, 31, 35, 36, 37] ?_
              refine AW.seq ?_
              refine AW.c2 ?_ ?_
              ·intro h183
               obtain ⟨j, rfl⟩ : ∃ j : { k : Nat // k < readV s 0 32 }, i = j.1 := ⟨⟨i, h183⟩, rfl⟩
               have hset := setD (n := readV s 0 32) (i := j.1) (fa := (colV s (readV s 32 32) 176 (readV s 128 16))) (fb := (colV s (readV s 64 32) (p1S s) (readV s 144 16))) (fd := (colV s (readV s 96 32) (p2S s) (readV s 160 16)))
               rw [colV_def s (readV s 96 32) (p2S s) (readV s 160 16) j.1] at hset
               try dsimp only at hset
               refine AW.skip ?_
               refine AW.seq ?_
               refine AW.block ?_
               refine AW.rS ?_
               refine AW.trim [1, 3, 4, 5, 8, 9, 31, 35, 36] ?_
               refine AW.qL (σf := ?sf188) (((p2S s) + j.1 * (readV s 160 16)) + (readV s 160 16) ≤ 8 * s.length ∧ readV s ((p2S s) + j.1 * (readV s 160 16)) (readV s 160 16) ≤ 1048576) [5, 6] [0, 1, 2, 3, 4, 8, 9, 10, 11, 12, 13] 7 (.fork 14 (.fork 15 (.fork 16 (.fork 17 .done .stop) .stop) .stop) .stop) (.fork 7 (.fork 14 (.fork 15 (.fork 16 (.fork 17 .done .stop) .stop) .stop) .stop) (.fork 14 (.fork 7 (.fork 15 (.fork 16 (.fork 17 .done .stop) .stop) .stop) .stop) .stop)) 4 ?tree188 ?rest188
               case tree188 =>
                refine awPlan.rn ?_
                rw [Aw.awPlan_nil]
                refine awFun.rn ?_
                refine awFun.cH [41, 42] [2] (h_cell2 _ (mkH (readV s 0 32) (colV s (readV s 32 32) 176 (readV s 128 16)) (colV s (readV s 64 32) (p1S s) (readV s 144 16)) (upTo j.1 (colV s (readV s 96 32) (p2S s) (readV s 160 16)))) j.1 (by rw [mkH_len]; exact j.2) (by rw [mkH_len]; omega)) ?_
                refine awFun.rn ?_
                refine awFun.c1 [51] (c_most2 _) ?_
                refine awFun.rn ?_
                rw [Aw.awFun_nil]
                refine ⟨?_, ?_⟩
                ·refine awTree.fA ?_ ?_
                 ·refine awTree.fH rfl (awGuard.cKM 1 [0] (h_eye_num _ (wayI 0 (readV s 160 16) j.1) s ((p2S s) + j.1 * (readV s 160 16)) (readV s 160 16) 1048576 (wayI_ok (.inl rfl)) (by omega) hpe hl (by decide)) ?_ ?_) ?_
                  ·intro hp n hn
                   refine wk ?_
                   exact .inr ⟨fun hk => hp ((colAt_def ..).1 (hk.2.2.2 j.1 j.2)), Nat.zero_le _⟩
                  ·intro hm
                   refine awTree.fA ?_ ?_
                   ·refine awTree.fA ?_ ?_
                    ·refine awTree.fH rfl (awGuard.sF ?_) ?_
                     ·exact awTree.dnC hm
                     ·exact trivial
                    ·exact trivial
                   ·exact trivial
                  ·exact trivial
                 ·refine awTree.fH rfl (awGuard.cKM 1 [0] (h_eye_num _ (wayI 0 (readV s 160 16) j.1) s ((p2S s) + j.1 * (readV s 160 16)) (readV s 160 16) 1048576 (wayI_ok (.inl rfl)) (by omega) hpe hl (by decide)) ?_ ?_) ?_
                  ·intro hp n hn
                   refine wk ?_
                   exact .inr ⟨fun hk => hp ((colAt_def ..).1 (hk.2.2.2 j.1 j.2)), Nat.zero_le _⟩
                  ·intro hm
                   refine awTree.fA ?_ ?_
                   ·refine awTree.fA ?_ ?_
                    ·refine awTree.fA ?_ ?_
                     ·refine awTree.fH rfl (awGuard.sF ?_) ?_
                      ·exact awTree.dnC hm
                      ·exact trivial
                     ·exact trivial
                    ·exact trivial
                   ·exact trivial
                  ·exact trivial
                ·refine awFun.rn ?_
                 rw [Aw.awFun_nil]
                 refine awTree.fH rfl (awGuard.cKM 1 [0] (h_eye_num _ (wayI 0 (readV s 160 16) j.1) s ((p2S s) + j.1 * (readV s 160 16)) (readV s 160 16) 1048576 (wayI_ok (.inl rfl)) (by omega) hpe hl (by decide)) ?_ ?_) ?_
                 ·intro hp n hn
                  refine wk ?_
                  exact .inr ⟨fun hk => hp ((colAt_def ..).1 (hk.2.2.2 j.1 j.2)), Nat.zero_le _⟩
                 ·intro hm
                  refine awTree.fA ?_ ?_
                  ·refine awTree.fA ?_ ?_
                   ·refine awTree.fH rfl (awGuard.sF ?_) ?_
                    ·exact awTree.dnC hm
                    ·exact trivial
                   ·exact trivial
                  ·exact trivial
                 ·exact trivial
               case rest188 =>
               intro hm188
               skip
               skip
               skip
               skip
               skip
               skip
               refine AW.rL ?_
               refine ⟨⟨j.1 + 1, by omega, colOk_succ hc2 ((colAt_def ..).2 hm188)⟩, ?_, ?_⟩
               ·refine St.le.vx [0, 1, 2, 3, 4] ?_
                rw [hws, hsm, hset] <;> exact ⟨rfl, rfl⟩
               ·simp only []; omega
              ·intro h183
               obtain rfl : i = readV s 0 32 := by omega
               rw [upTo_allD]
               refine AW.exit ?_
               refine AW.rLC ?_
               refine awOps.cons (awGuard.cH [0] (h_Reader_Align _ (wayI 0 (readV s 160 16) (readV s 0 32)) s ((p2S s) + readV s 0 32 * (readV s 160 16)) hpe hl) ?_)
               refine awOps.rn ?_
               refine AW.rL ?_
               refine AWR.s ?_
               refine AW.rS ?_
               refine AW.trim [1, 3, 4, 5, 31, 32] ?_
               refine AW.seq ?_
               refine AW.c2 ?_ ?_
               ·intro h205
                first | contradiction | (simp at h205; done) | (exfalso; omega) | (exfalso; revert h205; decide)
               ·intro h205
                refine AW.exit ?_
                refine AW.rS ?_
                refine AW.trim [2] ?_
                refine AW.vw [2] [(2, .row 0 0 (readV s 0 32))] [(0, .row 3 (hintsAV (readL s)) true)] ?_
                refine AW.rt ?_
                exact .inl ⟨⟨by omega, hm3.2, ⟨hm17.2, hm31.2, hm45.2⟩, hm68.2, hm80.2, hm92.2⟩, hc0, hc1, hc2⟩
             ·intro h172
              first | contradiction | (simp at h172; done) | (exfalso; omega) | (exfalso; revert h172; decide)
           ·intro h139
            first | contradiction | (simp at h139; done) | (exfalso; omega) | (exfalso; revert h139; decide)
         ·intro h106
          first | contradiction | (simp at h106; done) | (exfalso; omega) | (exfalso; revert h106; decide)
       ·intro h86
        first | contradiction | (simp at h86; done) | (exfalso; omega) | (exfalso; revert h86; decide)
      ·intro h74
       first | contradiction | (simp at h74; done) | (exfalso; omega) | (exfalso; revert h74; decide)
     ·intro h62
      first | contradiction | (simp at h62; done) | (exfalso; omega) | (exfalso; revert h62; decide)
   ·intro h40
    first | contradiction | (simp at h40; done) | (exfalso; omega) | (exfalso; revert h40; decide)
  ·intro h26
   first | contradiction | (simp at h26; done) | (exfalso; omega) | (exfalso; revert h26; decide)
 ·intro h12
  first | contradiction | (simp at h12; done) | (exfalso; omega) | (exfalso; revert h12; decide)
end Go.Proofs

namespace Aw
open Go
def Holds (s : List UInt8) (p : Nat) (l : List Bool) : Prop := ∀ i, i < l.length → bitS s (p + i) = l.getD i false
theorem Holds.app {s : List UInt8} {p : Nat} {a b : List Bool} (h : Holds s p (a ++ b)) : Holds s p a ∧ Holds s (p + a.length) b := by
 constructor
 ·intro i hi
  rw [h i (by rw [List.length_append]; omega), List.getD_eq_getElem?_getD, List.getElem?_append_left hi, ← List.getD_eq_getElem?_getD]
 ·intro i hi
  have := h (a.length + i) (by rw [List.length_append]; omega)
  rw [List.getD_eq_getElem?_getD, List.getElem?_append_right (by omega), Nat.add_sub_cancel_left, ← List.getD_eq_getElem?_getD, ← Nat.add_assoc] at this
  exact this
theorem bitsN_getD {v k i : Nat} (h : i < k) : (bitsN v k).getD i false = v.testBit (k - 1 - i) := by
 simp [bitsN, List.getD, h]
theorem read_holds {s : List UInt8} {p v k : Nat} (hv : v < 2 ^ k) (h : Holds s p (bitsN v k)) : readV s p k = v := by
 have key : ∀ j, j ≤ k → readV s p j = v / 2 ^ (k - j) := by
  intro j
  induction j with
  | zero => intro _; rw [readV, Nat.sub_zero, Nat.div_eq_of_lt hv]
  | succ j ih =>
   intro hj
   have hb := h j (by rw [bitsN_len]; omega)
   rw [bitsN_getD (by omega)] at hb
   rw [readV, ih (by omega), hb, Nat.testBit_eq_decide_div_mod_eq]
   have e1 : k - j = (k - (j + 1)) + 1 := by omega
   have e2 : k - 1 - j = k - (j + 1) := by omega
   rw [e1, e2, Nat.pow_succ, ← Nat.div_div_eq_div_mul]
   generalize v / 2 ^ (k - (j + 1)) = w
   rcases Nat.mod_two_eq_zero_or_one w with hw | hw
   ·rw [hw]; simp; omega
   ·rw [hw]; simp; omega
 have := key k (Nat.le_refl k)
 rw [this, Nat.sub_self, Nat.pow_zero, Nat.div_one]
/-- where the next bit is written -/
def posW (s : List UInt8 × Nat) : Nat := 8 * s.1.length - (if s.2 = 0 then 0 else 8 - s.2)
def ZOk (s : List UInt8 × Nat) : Prop := ∀ p, posW s ≤ p → bitS s.1 p = false
theorem bit_or (u : Fin 8) (x : Bool) (y : Fin 256) (q : Fin 8) : ((UInt8.ofNat y.1) ||| bitB x (7 - u.1)).toNat.testBit (7 - q.1) = ((UInt8.ofNat y.1).toNat.testBit (7 - q.1) || (x && decide (q = u))) := by
 revert q y x u
 decide +kernel
theorem bit_or' {u q : Nat} (hu : u < 8) (hq : q < 8) (x : Bool) (y : UInt8) : (y ||| bitB x (7 - u)).toNat.testBit (7 - q) = (y.toNat.testBit (7 - q) || (x && decide (q = u))) := by
 have h := bit_or ⟨u, hu⟩ x ⟨y.toNat, y.toNat_lt⟩ ⟨q, hq⟩
 simpa using h
theorem bitS_app (b : List UInt8) (y : UInt8) (p : Nat) : bitS (b ++ [y]) p = if p / 8 < b.length then bitS b p else if p / 8 = b.length then y.toNat.testBit (7 - p % 8) else false := by
 unfold bitS
 rw [List.getD_eq_getElem?_getD, List.getD_eq_getElem?_getD]
 by_cases h1 : p / 8 < b.length
 ·rw [if_pos h1, List.getElem?_append_left h1]
 ·rw [if_neg h1, List.getElem?_append_right (by omega)]
  by_cases h2 : p / 8 = b.length
  ·rw [if_pos h2, h2, Nat.sub_self]
   simp
  ·rw [if_neg h2, List.getElem?_eq_none (by simp; omega)]
   simp
theorem bitS_out {b : List UInt8} {p : Nat} (h : b.length ≤ p / 8) : bitS b p = false := by
 unfold bitS
 rw [List.getD_eq_getElem?_getD, List.getElem?_eq_none h]
 simp
theorem wOne_bits (b : List UInt8) (u : Nat) (x : Bool) (hs : WOk (b, u)) (hz : ZOk (b, u)) : posW (wOne b u x, (u + 1) % 8) = posW (b, u) + 1 ∧ ZOk (wOne b u x, (u + 1) % 8) ∧ ∀ p, bitS (wOne b u x) p = if p = posW (b, u) then x else bitS b p := by
 obtain ⟨hu, hn⟩ := hs
 simp only at hu hn
 have hpos : posW (wOne b u x, (u + 1) % 8) = posW (b, u) + 1 ∧ ∀ p, bitS (wOne b u x) p = if p = posW (b, u) then x else bitS b p := by
  by_cases h0 : u = 0
  ·subst h0
   rw [wOne_zero]
   refine ⟨by simp only [posW, List.length_append, List.length_cons, List.length_nil]; simp; omega, fun p => ?_⟩
   have e : posW (b, 0) = 8 * b.length := by simp [posW]
   rw [e, bitS_app]
   by_cases h1 : p / 8 < b.length
   ·rw [if_pos h1, if_neg (by omega)]
   ·rw [if_neg h1]
    by_cases h2 : p / 8 = b.length
    ·rw [if_pos h2, bit_or' (u := 0) (by decide) (Nat.mod_lt _ (by decide)), bitS_out (by omega)]
     by_cases h3 : p = 8 * b.length
     ·rw [if_pos h3, show p % 8 = 0 by omega]; simp
     ·rw [if_neg h3]
      have : ¬ p % 8 = 0 := by omega
      simp [this]
    ·rw [if_neg h2, if_neg (by omega), bitS_out (by omega)]
  ·obtain ⟨c, y, rfl⟩ : ∃ c y, b = c ++ [y] := by
    have := hn h0
    exact ⟨b.dropLast, b.getLast this, (List.dropLast_concat_getLast this).symm⟩
   rw [wOne_pos c y h0]
   have e : posW (c ++ [y], u) = 8 * c.length + u := by simp only [posW, List.length_append, List.length_cons, List.length_nil, if_neg h0]; omega
   refine ⟨?_, fun p => ?_⟩
   ·rw [e]
    simp only [posW, List.length_append, List.length_cons, List.length_nil]
    split <;> omega
   ·rw [e, bitS_app, bitS_app]
    by_cases h1 : p / 8 < c.length
    ·rw [if_pos h1, if_pos h1, if_neg (by omega)]
    ·rw [if_neg h1, if_neg h1]
     by_cases h2 : p / 8 = c.length
     ·rw [if_pos h2, if_pos h2, bit_or' hu (Nat.mod_lt _ (by decide))]
      by_cases h3 : p = 8 * c.length + u
      ·rw [if_pos h3]
       have hzz := hz p (by rw [e]; omega)
       simp only at hzz
       rw [bitS_app, if_neg h1, if_pos h2] at hzz
       rw [hzz, show p % 8 = u by omega]
       simp
      ·rw [if_neg h3]
       have : ¬ p % 8 = u := by omega
       simp [this]
     ·rw [if_neg h2, if_neg h2, if_neg (by omega)]
 refine ⟨hpos.1, fun p hp => ?_, hpos.2⟩
 rw [hpos.1] at hp
 show bitS (wOne b u x) p = false
 rw [hpos.2, if_neg (by omega)]
 exact hz p (by omega)
theorem wAll_bits : ∀ (l : List Bool) (s : List UInt8 × Nat), WOk s → ZOk s → posW (wAll l s) = posW s + l.length ∧ ZOk (wAll l s) ∧ (∀ p, p < posW s → bitS (wAll l s).1 p = bitS s.1 p) ∧ Holds (wAll l s).1 (posW s) l
 | [], s, _, hz => ⟨rfl, hz, fun _ _ => rfl, fun i hi => absurd hi (by simp)⟩
 | x :: l, s, hs, hz => by
  obtain ⟨h1, h2, h3⟩ := wOne_bits s.1 s.2 x hs hz
  obtain ⟨g1, g2, g3, g4⟩ := wAll_bits l (wOne s.1 s.2 x, (s.2 + 1) % 8) (wOne_ok x) h2
  have e : wAll (x :: l) s = wAll l (wOne s.1 s.2 x, (s.2 + 1) % 8) := rfl
  have es : posW (s.1, s.2) = posW s := rfl
  rw [e]
  rw [h1, es] at g1 g3 g4
  refine ⟨by rw [g1, List.length_cons]; omega, g2, fun p hp => ?_, fun i hi => ?_⟩
  ·rw [g3 p (by omega)]
   show bitS (wOne s.1 s.2 x) p = _
   rw [h3, es, if_neg (by omega)]
  ·cases i with
   | zero =>
    rw [Nat.add_zero, g3 _ (by omega)]
    show bitS (wOne s.1 s.2 x) _ = _
    rw [h3, es, if_pos (Nat.add_zero _)]
    rfl
   | succ i =>
    have := g4 i (by simpa using hi)
    rw [show posW s + (i + 1) = posW s + 1 + i by omega, this]
    rfl
end Aw

namespace Aw
open Go
def textL : List Hn → List UInt8
 | [] => []
 | x :: t => textS x t
def goodH (s : List UInt8) : Prop := readOk s ∧ checkH (readL s) = 0 ∧ textL (readL s) = s
theorem checkH_zero {l : List Hn} (h : checkH l = 0) : l.length ≠ 0 ∧ l.length ≤ 2048 ∧ okH l = true := by
 unfold checkH at h
 split at h
 ·cases h
 ·split at h
  ·cases h
  ·split at h
   ·exact ⟨by omega, by omega, by assumption⟩
   ·cases h
theorem okH_mem {l : List Hn} (h : okH l = true) : ∀ y ∈ l, y.ok := by
 intro y hy
 rw [okH, List.all_eq_true] at h
 exact of_decide_eq_true (h y hy)
theorem readL_len (s : List UInt8) : (readL s).length = readV s 0 32 := mkH_len ..
theorem take_readL (s : List UInt8) : (hintsAV (readL s)).take (readV s 0 32) = hintsAV (readL s) := List.take_of_length_le (by rw [hintsAV_length, readL_len]; exact Nat.le_refl _)
end Aw

namespace Go.Proofs
open Go Aw
set_option linter.unusedSimpArgs false
set_option linter.unusedVariables false
set_option maxRecDepth 100000
set_option maxHeartbeats 4000000
attribute [local go_sem] hintsAV_length hintsAV_len3 readL_len take_readL
theorem d_read_ret (gl : List (Nat × AV)) (k : Nat) (es : List (List AV)) (ow : Bool) : FnD Try.prog gl 35 [.ptr 0 0, .ptr 1 0] [(0, .cells [.row 2 0 k]), (1, .cells [.int .i64 0]), (2, .row 3 es ow)] 3 .ret (fun u hp nx => u = .ret ∧ hp = [(0, .cells [.row 2 0 k]), (1, .cells [.int .i64 0]), (2, .row 3 es ow)] ∧ nx = 3) := by
 refine FnD.intro Try.func35 rfl rfl (by simp [Try.ntmps35]) ?_
 simp only [argEnv, Try.ntmps35, Try.results35]
 refine AWD.seq (AWD.regRecover rfl rfl rfl rfl (by simp only [go_sem, seval]) ?_)
 refine awOps.rn ?_
 refine AWD.of ?_
 refine AW.block ?_
 refine AW.rS ?_
 refine AW.c2 ?_ ?_
 ·intro h4
  refine AW.rL ?_
  refine wk ?_
  trivial
 ·intro h4
  simp at h4
theorem d_read_pan (gl : List (Nat × AV)) (x : AV) (hx : x = .raw (.slice none 0 0)) : FnD Try.prog gl 35 [.ptr 0 0, .ptr 1 0] [(0, .cells [x]), (1, .cells [.int .i64 0])] 2 (.pan (.iface 79 (.agg []))) (fun u hp nx => u = .ret ∧ hp = [(0, .cells [.raw (.slice none 0 0)]), (1, .cells [.int .i64 32]), (2, .cells [])] ∧ nx = 3) := by
 subst hx
 refine FnD.intro Try.func35 rfl rfl (by simp [Try.ntmps35]) ?_
 simp only [argEnv, Try.ntmps35, Try.results35]
 refine AWD.seq (AWD.regRecover rfl rfl rfl rfl (by simp only [go_sem, seval]) ?_)
 refine awOps.rn ?_
 refine AWD.of ?_
 refine AW.block ?_
 refine AW.rS ?_
 refine AW.c2 ?_ ?_
 ·intro h4
  simp at h4
 ·intro h4
  refine AW.rS ?_
  refine AW.c2 ?_ ?_
  ·intro h9
   refine AW.rS ?_
   refine AW.rL ?_
   refine wk ?_
   trivial
  ·intro h9
   simp at h9
theorem d_read_pan2 (gl : List (Nat × AV)) (k : Nat) (es : List (List AV)) (ow : Bool) : FnD Try.prog gl 35 [.ptr 0 0, .ptr 1 0] [(0, .cells [.row 2 0 k]), (1, .cells [.int .i64 0]), (2, .row 3 es ow)] 3 (.pan (.iface 79 (.agg []))) (fun u hp nx => u = .ret ∧ hp = [(0, .cells [.raw (.slice none 0 0)]), (1, .cells [.int .i64 32]), (2, .row 3 es ow), (3, .cells [])] ∧ nx = 4) := by
 refine FnD.intro Try.func35 rfl rfl (by simp [Try.ntmps35]) ?_
 simp only [argEnv, Try.ntmps35, Try.results35]
 refine AWD.seq (AWD.regRecover rfl rfl rfl rfl (by simp only [go_sem, seval]) ?_)
 refine awOps.rn ?_
 refine AWD.of ?_
 refine AW.block ?_
 refine AW.rS ?_
 refine AW.c2 ?_ ?_
 ·intro h4
  simp at h4
 ·intro h4
  refine AW.rS ?_
  refine AW.c2 ?_ ?_
  ·intro h9
   refine AW.rS ?_
   refine AW.rL ?_
   refine wk ?_
   trivial
  ·intro h9
   simp at h9
theorem c_hint_Text_L (gl : List (Nat × AV)) (l : List Hn) (hk : checkH l = 0) : FnP Try.prog gl 12 [.sl (hintsAV l)] fun r => r = .ret (.tup [.str (textL l), .int .i64 0]) := by
 obtain ⟨h1, h2, h3⟩ := checkH_zero hk
 have h4 := okH_mem h3
 match l, h1 with
 | x :: t, _ => exact c_hint_Text_ok gl x t h2 hk (fun y hy => by have := (h4 y hy).1; omega) (fun y hy => (h4 y hy).2.1) (fun y hy => (h4 y hy).2.2)
theorem c_hint_Read (gl : List (Nat × AV)) (s : List UInt8) (hl : s.length ≤ 16777216) : FnP Try.prog (gl) 13 [.str s] fun r => (goodH s ∧ r = .ret (.tup [.sl (hintsAV (readL s)), .int .i64 0])) ∨ (¬ goodH s ∧ r = .ret (.tup [.sl [], .int .i64 32])) := by
 refine FnP.introD Try.func13 rfl rfl (by simp [Try.ntmps13]) ?_
 simp only [argEnv, Try.ntmps13]
 refine AW.rS ?_
 refine AW.df ?_
 refine AW.rSC ?_
 refine awOps.cons (awGuard.cH [] (h_bit_From _ s) ?_)
 refine awOps.rn ?_
 refine awOps.cons (awGuard.cKM 0 [2] (h_eye_read _ s hl) ?_ ?_)
 ·intro hp6 n6 hn6
  refine wk ?_
  refine finD_pan ?_
  refine LeaveS.c1 [0, 1] (d_read_pan _ _ rfl) ?_
  refine LeaveS.rt Try.results13 ?_
  exact .inr fun h => hp6 h.1
 intro hm6
 refine awOps.rn ?_
 have hln : readV s 0 32 ≤ 2048 := hm6.1.2.1
 refine AW.seq ?_
 by_cases hs9 : checkH (readL s) = 0
 ·skip
  refine AW.rSC ?_
  refine awOps.cons (awGuard.c1 (c_hint_Text_L _ (readL s) hs9) ?_)
  refine awOps.rn ?_
  refine AW.rS ?_
  refine AW.c2 ?_ ?_
  ·intro h13
   refine AW.rLC ?_
   refine awOps.cons (awGuard.pn ?_)
   refine wk ?_
   refine finD_pan ?_
   refine LeaveS.c1 [0, 1, 3] (d_read_pan2 _ _ _ _) ?_
   refine LeaveS.rt Try.results13 ?_
   exact .inr fun h => h13.elim (fun e => by cases e) (fun e => e h.2.2)
  ·intro h13
   refine AW.skip ?_
   refine AW.rS ?_
   refine AW.rt ?_
   refine LeaveS.c1 [0, 1, 3] (d_read_ret _ _ _ _) ?_
   refine LeaveS.rt Try.results13 ?_
   exact .inl ⟨hm6, hs9, h13.2⟩
 ·skip
  refine AW.rSC ?_
  refine awOps.cons (awGuard.c1 (c_hint_Text_bad _ (readL s) (by rw [readL_len]; omega) hs9) ?_)
  refine awOps.rn ?_
  refine AW.rS ?_
  refine AW.c2 ?_ ?_
  ·intro h13
   refine AW.rLC ?_
   refine awOps.cons (awGuard.pn ?_)
   refine wk ?_
   refine finD_pan ?_
   refine LeaveS.c1 [0, 1, 3] (d_read_pan2 _ _ _ _) ?_
   refine LeaveS.rt Try.results13 ?_
   exact .inr fun h => hs9 h.2.1
  ·intro h13
   refine AW.skip ?_
   refine AW.rS ?_
   refine AW.rt ?_
   exact absurd h13.1 hs9
end Go.Proofs

namespace Aw
open Go
theorem Holds.mono {s s' : List UInt8} {P q : Nat} {l : List Bool} (h : Holds s q l) (hs : ∀ p, p < P → bitS s' p = bitS s p) (hl : q + l.length ≤ P) : Holds s' q l := fun i hi => by
 rw [hs _ (by omega)]
 exact h i hi
theorem posW_nil : posW ([], 0) = 0 := rfl
theorem zok_nil : ZOk ([], 0) := fun p _ => bitS_out (Nat.zero_le _)
theorem wok_nil : WOk ([], 0) := ⟨by decide, fun h => absurd rfl h⟩
theorem colS_bits (f : Hn → Int) (x : Hn) (t : List Hn) (s : List UInt8 × Nat) (hs : WOk s) (hz : ZOk s) : posW (colS f x t s) = nextP (posW s) (x :: t).length (wdN f x t) ∧ ZOk (colS f x t s) ∧ (∀ p, p < posW s → bitS (colS f x t s).1 p = bitS s.1 p) ∧ Holds (colS f x t s).1 (posW s) (colBits f (loN f x t) (wdN f x t) (x :: t)) ∧ posW s + (x :: t).length * wdN f x t ≤ posW (colS f x t s) ∧ posW (colS f x t s) = 8 * (colS f x t s).1.length := by
 obtain ⟨h1, h2, h3, h4⟩ := wAll_bits (colBits f (loN f x t) (wdN f x t) (x :: t)) s hs hz
 have hok := wAll_ok (colBits f (loN f x t) (wdN f x t) (x :: t)) s hs
 rw [colBits_len] at h1
 unfold colS
 generalize wAll (colBits f (loN f x t) (wdN f x t) (x :: t)) s = w at h1 h2 h3 h4 hok
 have e : posW (w.1, 0) = 8 * w.1.length := by simp [posW]
 have e2 : posW w = 8 * w.1.length - (if w.2 = 0 then 0 else 8 - w.2) := rfl
 have hle : posW w ≤ 8 * w.1.length := by rw [e2]; exact Nat.sub_le _ _
 have hlen : w.2 ≠ 0 → 0 < w.1.length := fun h => List.length_pos_iff.2 (hok.2 h)
 have hu := hok.1
 refine ⟨?_, fun p hp => h2 p (by rw [e] at hp; omega), h3, h4, by rw [e, ← h1]; exact hle, e⟩
 rw [e, nextP, ← h1, e2]
 split
 ·omega
 ·have := hlen (by assumption)
  omega
def headB (x : Hn) (t : List Hn) : List Bool := bitsN (x :: t).length 32 ++ (bitsN (loN Hn.a x t) 32 ++ (bitsN (loN Hn.b x t) 32 ++ (bitsN (loN Hn.d x t) 32 ++ (bitsN (wdN Hn.a x t) 16 ++ (bitsN (wdN Hn.b x t) 16 ++ bitsN (wdN Hn.d x t) 16)))))
theorem headS_eq (x : Hn) (t : List Hn) : headS x t = wAll (headB x t) ([], 0) := by
 simp only [headS, headB, wAll_app]
theorem headB_len (x : Hn) (t : List Hn) : (headB x t).length = 176 := by
 simp only [headB, List.length_append, bitsN_len]
theorem col_at (f : Hn → Int) (lo k : Nat) (l : List Hn) {s : List UInt8} {P i : Nat} (h : Holds s P (colBits f lo k l)) (hi : i < l.length) : Holds s (P + i * k) (bitsN (f (l.getD i Hn.zero) - lo).toNat k) := by
 have e : colBits f lo k l = colBits f lo k (l.take (i + 1)) ++ colBits f lo k (l.drop (i + 1)) := by
  unfold colBits
  rw [← List.flatten_append, ← List.map_append, List.take_append_drop]
 rw [e, colBits_take hi] at h
 have h1 := h.app.1.app.2
 rw [colBits_len, List.length_take, Nat.min_eq_left (by omega)] at h1
 exact h1
theorem col_read (f : Hn → Int) (x : Hn) (t : List Hn) (hf : ∀ y ∈ x :: t, 0 ≤ f y ∧ f y ≤ 1048576) {s : List UInt8} {P i : Nat} (h : Holds s P (colBits f (loN f x t) (wdN f x t) (x :: t))) (hi : i < (x :: t).length) : readV s (P + i * wdN f x t) (wdN f x t) = (f ((x :: t).getD i Hn.zero) - loN f x t).toNat ∧ (loN f x t : Int) ≤ f ((x :: t).getD i Hn.zero) := by
 obtain ⟨⟨p1, p2⟩, p3, p4, p5⟩ := span_facts f x t hf
 have hm : (x :: t).getD i Hn.zero ∈ x :: t := by
  rw [List.getD_eq_getElem?_getD, List.getElem?_eq_getElem hi]
  exact List.getElem_mem _
 have hn : loL f (f x) (x :: t) = (loN f x t : Int) := by unfold loN; omega
 have hb := p5 _ hm
 rw [hn] at hb
 refine ⟨read_holds (Nat.lt_of_le_of_lt (by omega) (bitLen_lt p4)) (col_at f _ _ _ h hi), hb.1⟩
theorem mkH_eq {l : List Hn} {fa fb fd : Nat → Int} (h : ∀ i, i < l.length → fa i = (l.getD i Hn.zero).a ∧ fb i = (l.getD i Hn.zero).b ∧ fd i = (l.getD i Hn.zero).d) : mkH l.length fa fb fd = l := by
 refine List.ext_getElem (mkH_len ..) fun i h1 h2 => ?_
 have hg := mkH_getD (fa := fa) (fb := fb) (fd := fd) h2
 rw [List.getD_eq_getElem?_getD, List.getElem?_eq_getElem h1] at hg
 obtain ⟨e1, e2, e3⟩ := h i h2
 rw [List.getD_eq_getElem?_getD, List.getElem?_eq_getElem h2] at e1 e2 e3
 simp only [Option.getD_some] at hg e1 e2 e3
 rw [hg, e1, e2, e3]
theorem text_read (x : Hn) (t : List Hn) (hk : checkH (x :: t) = 0) : goodH (textS x t) ∧ readL (textS x t) = x :: t := by
 obtain ⟨-, hn, hok⟩ := checkH_zero hk
 have hmem := okH_mem hok
 have ha : ∀ y ∈ x :: t, 0 ≤ y.a ∧ y.a ≤ 1048576 := fun y hy => by have := (hmem y hy).1; omega
 have ha2 : ∀ y ∈ x :: t, y.a ≤ 8191 := fun y hy => (hmem y hy).1.2
 have hb : ∀ y ∈ x :: t, 0 ≤ y.b ∧ y.b ≤ 1048576 := fun y hy => (hmem y hy).2.1
 have hd : ∀ y ∈ x :: t, 0 ≤ y.d ∧ y.d ≤ 1048576 := fun y hy => (hmem y hy).2.2
 have lim : ∀ (f : Hn → Int), (∀ y ∈ x :: t, 0 ≤ f y ∧ f y ≤ 1048576) → wdN f x t ≤ 21 ∧ loN f x t ≤ 1048576 ∧ (loN f x t : Int) ≤ f x := fun f hf => by
  obtain ⟨⟨p1, p2⟩, p3, p4, p5⟩ := span_facts f x t hf
  have hn : loL f (f x) (x :: t) = (loN f x t : Int) := by unfold loN; omega
  have := p5 x (List.mem_cons_self ..)
  exact ⟨bitLen_le p4, by omega, by omega⟩
 obtain ⟨wa, la, xa⟩ := lim Hn.a ha
 obtain ⟨wb, lb, xb⟩ := lim Hn.b hb
 obtain ⟨wd, ld, xd⟩ := lim Hn.d hd
 have xa2 := ha2 x (List.mem_cons_self ..)
 obtain ⟨h1, h2, -, h4⟩ := wAll_bits (headB x t) ([], 0) wok_nil zok_nil
 have hwk := wAll_ok (headB x t) ([], 0) wok_nil
 rw [← headS_eq, posW_nil, headB_len, Nat.zero_add] at h1
 rw [← headS_eq] at h2 h4 hwk
 rw [posW_nil] at h4
 obtain ⟨a1, a2, a3, a4, a5, a6⟩ := colS_bits Hn.a x t (headS x t) hwk h2
 have ak := colS_ok Hn.a x t (headS x t)
 obtain ⟨b1, b2, b3, b4, b5, b6⟩ := colS_bits Hn.b x t _ ak a2
 have bk := colS_ok Hn.b x t (colS Hn.a x t (headS x t))
 obtain ⟨d1, d2, d3, d4, d5, d6⟩ := colS_bits Hn.d x t _ bk b2
 rw [h1] at a1 a3 a4 a5
 have hT : textS x t = (colS Hn.d x t (colS Hn.b x t (colS Hn.a x t (headS x t)))).1 := rfl
 rw [← hT] at d3 d4 d6
 generalize textS x t = S at hT d3 d4 d6 ⊢
 have kA : Holds S 176 (colBits Hn.a (loN Hn.a x t) (wdN Hn.a x t) (x :: t)) := (a4.mono b3 (by rw [colBits_len]; exact a5)).mono d3 (by rw [colBits_len]; omega)
 have kB := b4.mono d3 (by rw [colBits_len]; exact b5)
 have kH : Holds S 0 (headB x t) := ((h4.mono a3 (by rw [headB_len]; omega)).mono b3 (by rw [headB_len]; omega)).mono d3 (by rw [headB_len]; omega)
 unfold headB at kH
 have k1 := kH.app.1
 have k2 := kH.app.2.app.1
 have k3 := kH.app.2.app.2.app.1
 have k4 := kH.app.2.app.2.app.2.app.1
 have k5 := kH.app.2.app.2.app.2.app.2.app.1
 have k6 := kH.app.2.app.2.app.2.app.2.app.2.app.1
 have k7 := kH.app.2.app.2.app.2.app.2.app.2.app.2
 simp only [bitsN_len, Nat.zero_add, Nat.reduceAdd] at k2 k3 k4 k5 k6 k7
 have r1 := read_holds (by omega) k1
 have r2 := read_holds (by omega) k2
 have r3 := read_holds (by omega) k3
 have r4 := read_holds (by omega) k4
 have r5 := read_holds (by omega) k5
 have r6 := read_holds (by omega) k6
 have r7 := read_holds (by omega) k7
 have q1 : p1S S = posW (colS Hn.a x t (headS x t)) := by rw [← p1S_def, r1, r5, a1, nextP]
 have q2 : p2S S = posW (colS Hn.b x t (colS Hn.a x t (headS x t))) := by rw [← p2S_def, r1, r6, b1, q1, nextP]
 rw [← q1] at kB b5
 rw [← q2] at d4 d5
 have hcol : ∀ (f : Hn → Int) (P M : Nat), (∀ y ∈ x :: t, 0 ≤ f y ∧ f y ≤ 1048576) → (∀ y ∈ x :: t, f y ≤ (M : Int)) → Holds S P (colBits f (loN f x t) (wdN f x t) (x :: t)) → P + (x :: t).length * wdN f x t ≤ 8 * S.length → colOk S P (wdN f x t) M (x :: t).length := fun f P M hf hM hh hle i hi => by
  obtain ⟨e1, e2⟩ := col_read f x t hf hh hi
  have hm : (x :: t).getD i Hn.zero ∈ x :: t := by
   rw [List.getD_eq_getElem?_getD, List.getElem?_eq_getElem hi]
   exact List.getElem_mem _
  have := hM _ hm
  refine (colAt_def ..).2 ⟨?_, by rw [e1]; omega⟩
  have : (i + 1) * wdN f x t ≤ (x :: t).length * wdN f x t := Nat.mul_le_mul_right _ hi
  rw [Nat.succ_mul] at this
  omega
 have hL : readL S = x :: t := by
  unfold readL
  rw [r1, r2, r3, r4, r5, r6, r7]
  refine mkH_eq fun i hi => ?_
  have ea := col_read Hn.a x t ha kA hi
  have eb := col_read Hn.b x t hb kB hi
  have ed := col_read Hn.d x t hd d4 hi
  rw [colV_def, colV_def, colV_def, ea.1, eb.1, ed.1]
  omega
 refine ⟨⟨⟨⟨by omega, by omega, ⟨by omega, by omega, by omega⟩, by omega, by omega, by omega⟩, ?_, ?_, ?_⟩, by rw [hL]; exact hk, ?_⟩, hL⟩
 ·rw [r1, r5]
  exact hcol Hn.a 176 8191 ha ha2 kA (by omega)
 ·rw [r1, r6]
  exact hcol Hn.b _ 1048576 hb (fun y hy => (hb y hy).2) kB (by omega)
 ·rw [r1, r7]
  exact hcol Hn.d _ 1048576 hd (fun y hy => (hd y hy).2) d4 (by omega)
 ·rw [hL, hT]
  rfl
theorem textL_len {l : List Hn} (hk : checkH l = 0) : 0 < (textL l).length ∧ (textL l).length ≤ 200000 := by
 obtain ⟨h1, h2, h3⟩ := checkH_zero hk
 match l, h1 with
 | x :: t, _ =>
  have hmem := okH_mem h3
  have hg := (text_read x t hk).1.1.1.1
  have lim : ∀ (f : Hn → Int), (∀ y ∈ x :: t, 0 ≤ f y ∧ f y ≤ 1048576) → wdN f x t ≤ 21 := fun f hf => bitLen_le (span_facts f x t hf).2.2.1
  have wa := lim Hn.a (fun y hy => by have := (hmem y hy).1; omega)
  have wb := lim Hn.b (fun y hy => (hmem y hy).2.1)
  have wd := lim Hn.d (fun y hy => (hmem y hy).2.2)
  have k0 := wAll_ok (headB x t) ([], 0) wok_nil
  have e0 := wAll_le (headB x t) ([], 0) wok_nil
  rw [headB_len] at e0
  rw [← headS_eq] at k0 e0
  have z : ([] : List UInt8).length = 0 := rfl
  simp only [z] at e0
  have c1 := colS_le (f := Hn.a) k0 h2 wa
  have c2 := colS_le (f := Hn.b) (colS_ok Hn.a x t (headS x t)) h2 wb
  have c3 := colS_le (f := Hn.d) (colS_ok Hn.b x t (colS Hn.a x t (headS x t))) h2 wd
  have e : textL (x :: t) = (colS Hn.d x t (colS Hn.b x t (colS Hn.a x t (headS x t)))).1 := rfl
  have e' : textL (x :: t) = textS x t := rfl
  refine ⟨by rw [e']; omega, by rw [e]; omega⟩
theorem text_goodL {l : List Hn} (hk : checkH l = 0) : goodH (textL l) ∧ readL (textL l) = l := by
 obtain ⟨h1, -, -⟩ := checkH_zero hk
 match l, h1 with
 | x :: t, _ => exact text_read x t hk
/-- a text with one byte changed -/
def flipS (s : List UInt8) (k : Nat) (y : UInt8) : List UInt8 := s.take k ++ [s.getD k 0 ^^^ y] ++ s.drop (k + 1)
theorem flip_len {s : List UInt8} {k : Nat} (h : k < s.length) (y : UInt8) : (flipS s k y).length = s.length := by
 simp only [flipS, List.length_append, List.length_take, List.length_cons, List.length_nil, List.length_drop]
 omega
theorem flip_zero {s : List UInt8} {k : Nat} (h : k < s.length) : flipS s k 0 = s := by
 have e : s.getD k 0 = s[k] := by rw [List.getD_eq_getElem?_getD, List.getElem?_eq_getElem h] <;> rfl
 rw [flipS, e, UInt8.xor_zero, ← List.take_succ_eq_append_getElem h, List.take_append_drop]
theorem xor_u8 (x y : UInt8) : bitXor .u8 (x.toNat : Int) (y.toNat : Int) = ((x ^^^ y).toNat : Int) := by
 have hb : ∀ x : UInt8, (BitVec.ofInt 8 (x.toNat : Int)).toNat = x.toNat := fun x => by
  rw [BitVec.toNat_ofInt]
  have := x.toNat_lt
  omega
 unfold bitXor
 have e : (BitVec.ofInt IntKind.u8.bits (x.toNat : Int) ^^^ BitVec.ofInt IntKind.u8.bits (y.toNat : Int)).toNat = (x ^^^ y).toNat := by
  rw [BitVec.toNat_xor, UInt8.toNat_xor]
  have h1 : (BitVec.ofInt IntKind.u8.bits (x.toNat : Int)).toNat = x.toNat := hb x
  have h2 : (BitVec.ofInt IntKind.u8.bits (y.toNat : Int)).toNat = y.toNat := hb y
  rw [h1, h2]
 rw [e]
 have := (x ^^^ y).toNat_lt
 exact IntWalk.u8_in _ (by omega)
end Aw

namespace Go.Proofs
open Go Aw
set_option linter.unusedSimpArgs false
set_option linter.unusedVariables false
set_option maxRecDepth 100000
set_option maxHeartbeats 4000000
attribute [local go_sem] hintsAV_length hintsAV_len3 hintsAV_at xor_u8
theorem FnP.monoR {P : Program} {gl : List (Nat × AV)} {f : FuncId} {xs : List AV} {R R' : AE → Prop} (h : FnP P gl f xs R) (hr : ∀ r, R r → R' r) : FnP P gl f xs R' := h.mono hr
theorem c_hint_Read_ok (gl : List (Nat × AV)) (s : List UInt8) (hl : s.length ≤ 16777216) (h : goodH s) : FnP Try.prog gl 13 [.str s] fun r => r = .ret (.tup [.sl (hintsAV (readL s)), .int .i64 0]) :=
 FnP.monoR (c_hint_Read gl s hl) fun r hr => hr.elim (fun h => h.2) (fun h' => absurd h h'.1)
theorem c_hint_Read_bad (gl : List (Nat × AV)) (s : List UInt8) (hl : s.length ≤ 16777216) (h : ¬ goodH s) : FnP Try.prog gl 13 [.str s] fun r => r = .ret (.tup [.sl [], .int .i64 32]) :=
 FnP.monoR (c_hint_Read gl s hl) fun r hr => hr.elim (fun h' => absurd h'.1 h) (fun h => h.2)
theorem nes_hn (h : Hn) (hk : h.ok) : NeS Try.prog 44 (.agg h.cells) (.agg h.cells) false := by
 have hc : Try.prog.cellsOf 44 = 3 := by kernel_rfl
 have hi : Try.prog.cellsOf 3 = 1 := by kernel_rfl
 have w : ∀ x : Int, 0 ≤ x ∧ x ≤ 1048576 → (Lit.int .i64 x).wf = true := fun x hx => by
  obtain ⟨h1, h2⟩ := hx
  have e1 : IntKind.i64.min = -9223372036854775808 := by decide
  have e2 : IntKind.i64.max = 9223372036854775807 := by decide
  simp only [Lit.wf, e1, e2, Bool.and_eq_true, decide_eq_true_eq]
  omega
 obtain ⟨k1, k2, k3⟩ := hk
 have hw : ∀ x ∈ [h.a, h.b, h.d], (Lit.int .i64 x).wf = true := by
  intro x hx
  simp only [List.mem_cons, List.not_mem_nil, or_false] at hx
  rcases hx with rfl | rfl | rfl
  ·exact w _ (by omega)
  ·exact w _ k2
  ·exact w _ k3
 have h := NeS.of (P := Try.prog) (t := 44) (l1 := [h.a, h.b, h.d]) (l2 := [h.a, h.b, h.d]) (by kernel_rfl) (by kernel_rfl)
  (fun l hl => by simp [Value.formed, Try.underlying44, hc, hl])
  (fun l hl hl2 => by
   match l, hl with
   | [a, b, d], _ =>
    simp only [List.mem_cons, List.not_mem_nil, or_false, forall_eq_or_imp, forall_eq] at hl2
    obtain ⟨k1, k2, k3⟩ := hl2
    simp [Program.keyLits, Try.underlying44, Try.underlying3, hc, hi, k1, k2, k3])
  rfl hw hw
 simpa [Hn.cells] using h
theorem getD_mem {l : List Hn} {i : Nat} (h : i < l.length) : l.getD i Hn.zero ∈ l := by
 rw [List.getD_eq_getElem?_getD, List.getElem?_eq_getElem h]
 exact List.getElem_mem h
theorem bytesOf_u8 (z : UInt8) : bytesOf [[.int .u8 (z.toNat : Int)]] = [z] := by
 simp [bytesOf]
theorem u8_of {x : Int} (h : 0 ≤ x ∧ x ≤ 255) : ∃ y : UInt8, x = (y.toNat : Int) := by
 refine ⟨UInt8.ofNat x.toNat, ?_⟩
 have h2 : x.toNat < 256 := by omega
 rw [UInt8.toNat_ofNat', Nat.mod_eq_of_lt h2]
 omega
theorem one_u8 (z : UInt8) : ([[.int .u8 (z.toNat : Int)]] = bytesAV [z]) = True := by simp [bytesAV]
attribute [local go_sem] bytesOf_u8 one_u8 List.length_take List.length_drop List.length_append
theorem c_law_TopHints (gl : List (Nat × AV)) (l : List Hn) (at0 : Int) (by0 : Int) (hby : 0 ≤ by0 ∧ by0 ≤ 255) : FnP Try.prog (gl) 4 [.sl (hintsAV l), .int .i64 at0, .int .u8 by0] fun r => r = .ret (.bool true) := by
 refine FnP.intro Try.func4 rfl rfl (by simp [Try.ntmps4]) ?_
 simp only [argEnv, Try.ntmps4, Try.results4]
 obtain ⟨y, rfl⟩ := u8_of hby
 have hT0 := c_hint_Text_L gl [⟨1, 2, 3⟩] (by decide)
 obtain ⟨hg0, hr0⟩ := text_goodL (l := [⟨1, 2, 3⟩]) (by decide)
 have hl0 := textL_len (l := [⟨1, 2, 3⟩]) (by decide)
 have hR0 := c_hint_Read_ok gl _ (by omega) hg0
 rw [hr0] at hR0
 generalize textL [⟨1, 2, 3⟩] = s0 at hT0 hg0 hr0 hl0 hR0
 simp only [hintsAV, List.map, Hn.cells] at hT0 hR0
 refine AW.rS ?_
 refine AW.trim [0, 1, 2] ?_
 refine AW.rSC ?_
 refine awOps.cons (awGuard.c1 (hT0) ?_)
 refine awOps.rn ?_
 refine AW.trim [0, 1, 2, 7, 8] ?_
 refine AW.rSC ?_
 refine awOps.cons (awGuard.c1 (hR0) ?_)
 refine awOps.rn ?_
 refine AW.trim [0, 1, 2, 8, 9, 10] ?_
 refine AW.seq ?_
 refine AW.rSC ?_
 refine awOps.cons (awGuard.gT ?_)
 refine awOps.rn ?_
 refine awOps.cons ?_
 refine awGuard.neG (nes_hn ⟨1, 2, 3⟩ (by decide)) ?_
 refine awOps.rn ?_
 refine AW.trim [0, 1, 2, 50] ?_
 refine AW.c2 ?_ ?_
 ·intro h12
  simp at h12
 ·intro h12
  refine AW.skip ?_
  refine AW.seq ?_
  refine AW.rS ?_
  refine AW.trim [0, 1, 2, 57] ?_
  refine AW.c2 ?_ ?_
  ·intro h19
   refine AW.rS ?_
   refine AW.trim [6] ?_
   refine AW.rt ?_
   trivial
  ·intro h19
   obtain ⟨h100, hat⟩ : l.length ≤ 100 ∧ 0 ≤ at0 := ⟨by omega, by omega⟩
   obtain ⟨p, rfl⟩ : ∃ p : Nat, at0 = (p : Int) := ⟨at0.toNat, by omega⟩
   by_cases hs23 : checkH l = 0
   ·skip
    refine AW.skip ?_
    refine AW.rSC ?_
    refine awOps.cons (awGuard.c1 (c_hint_Text_L _ l hs23) ?_)
    refine awOps.rn ?_
    refine AW.trim [0, 1, 2, 11, 12] ?_
    refine AW.seq ?_
    refine AW.rS ?_
    refine AW.trim [0, 1, 2, 11, 64] ?_
    refine AW.c2 ?_ ?_
    ·intro h29
     simp at h29
    ·intro h29
     obtain ⟨hg, hr⟩ := text_goodL hs23
     obtain ⟨hs0, hs1⟩ := textL_len hs23
     have hR := c_hint_Read_ok gl (textL l) (by omega) hg
     rw [hr] at hR
     have hmem := okH_mem (checkH_zero hs23).2.2
     generalize textL l = s at hg hr hs0 hs1 hR
     refine AW.skip ?_
     refine AW.rSC ?_
     refine awOps.cons (awGuard.c1 (hR) ?_)
     refine awOps.rn ?_
     refine AW.trim [0, 1, 2, 11, 13, 14] ?_
     refine AW.seq ?_
     refine AW.rS ?_
     refine AW.trim [0, 1, 2, 11, 13, 80] ?_
     refine AW.c2 ?_ ?_
     ·intro h39
      cases h39.1
     ·intro h39
      refine AW.skip ?_
      refine AW.seq ?_
      refine AW.rS ?_
      refine AW.trim [0, 1, 2, 11, 13, 82, 83] ?_
      refine AW.block ?_
      refine AW.lk (S := { i : Nat // i ≤ l.length }) [0, 1, 2, 11, 13, 82] (fun s_ => [(83, .int .i64 s_.1)]) (fun s_ => []) 0 (fun s_ => l.length - s_.1) ⟨0, Nat.zero_le _⟩ ?_ ?_
      ·refine St.le.vw []
      rintro ⟨i, hi⟩
      try dsimp only at hi
      refine AW.rS ?_
      refine AW.trim [0, 1, 2, 11, 13, 82, 83, 84] ?_
      refine AW.seq ?_
      refine AW.c2 ?_ ?_
      ·intro h50
       obtain ⟨j, rfl⟩ : ∃ j : { k : Nat // k < l.length }, i = j.1 := ⟨⟨i, h50⟩, rfl⟩
       refine AW.skip ?_
       refine AW.seq ?_
       refine AW.block ?_
       refine AW.rS ?_
       refine AW.trim [0, 1, 2, 11, 13, 15, 82, 83] ?_
       refine AW.dSC [(0, 0), (1, 0), (2, 0), (3, 1), (4, 0), (5, 0), (6, 0), (7, 1), (8, 2)] ?_
       refine awPlan.only rfl ?_
       refine awGuard.neS (nes_hn (l.getD j.1 Hn.zero) (hmem _ (getD_mem j.2))) ?_
       refine awPlan.rn ?_
       refine AW.trim [0, 1, 2, 11, 13, 82, 83, 94] ?_
       refine AW.c2 ?_ ?_
       ·intro h58
        simp at h58
       ·intro h58
        refine AW.skip ?_
        refine AW.rL ?_
        refine ⟨⟨j.1 + 1, by omega⟩, ?_, ?_⟩
        ·refine St.le.vw []
        ·simp only []; omega
      ·intro h50
       refine AW.exit ?_
       refine AW.rS ?_
       obtain ⟨k, hk, hke⟩ : ∃ k : Nat, k < s.length ∧ (p : Int) % s.length = (k : Int) := ⟨p % s.length, Nat.mod_lt _ hs0, by omega⟩
       refine AW.trim [2, 11, 16] ?_
       rw [hke]
       refine AW.dS [(0, 0), (1, 0), (2, 0), (3, 0), (4, 0), (5, 0), (6, 0), (7, 0), (11, 0), (12, 0), (13, 0), (14, 0), (8, 2), (9, 2), (10, 0), (15, 0), (16, 0)] ?_
       have hfe : List.take k s ++ [s.getD k 0 ^^^ y] ++ List.drop (k + 1) s = flipS s k y := rfl
       rw [hfe]
       have hfl := flip_len hk y
       have hf0 : y = 0 → flipS s k y = s := fun h => by rw [h]; exact flip_zero hk
       generalize flipS s k y = T at hfl hf0
       refine AW.trim [2, 17] ?_
       by_cases hs68 : goodH T
       ·skip
        refine AW.rSC ?_
        refine awOps.cons (awGuard.c1 (c_hint_Read_ok gl T (by omega) hs68) ?_)
        refine awOps.rn ?_
        refine AW.trim [2, 17, 18, 19] ?_
        refine AW.seq ?_
        refine AW.rS ?_
        refine AW.trim [2, 17, 18, 122] ?_
        refine AW.c2 ?_ ?_
        ·intro h73
         simp at h73
        ·intro h73
         refine AW.skip ?_
         refine AW.rSC ?_
         refine awOps.cons (awGuard.c1 (c_hint_Text_L gl (readL T) hs68.2.1) ?_)
         refine awOps.rn ?_
         rw [hs68.2.2]
         refine AW.trim [17, 20, 21] ?_
         refine AW.rS ?_
         refine AW.trim [6] ?_
         refine AW.rt ?_
         all_goals first | contradiction | rfl | (simp; done) | (simp; omega)
       ·skip
        refine AW.rSC ?_
        refine awOps.cons (awGuard.c1 (c_hint_Read_bad gl T (by omega) hs68) ?_)
        refine awOps.rn ?_
        refine AW.trim [2, 17, 18, 19] ?_
        refine AW.seq ?_
        refine AW.rS ?_
        refine AW.trim [2, 17, 18, 122] ?_
        refine AW.c2 ?_ ?_
        ·intro h73
         refine AW.rS ?_
         refine AW.trim [6] ?_
         refine AW.rt ?_
         skip
         have hy : y.toNat ≠ 0 := fun h => hs68 (by
          have : y = 0 := UInt8.toNat_inj.1 (by simpa using h)
          rw [hf0 this]; exact hg)
         simp [hy]
        ·intro h73
         simp at h73
   ·skip
    refine AW.skip ?_
    refine AW.rSC ?_
    refine awOps.cons (awGuard.c1 (c_hint_Text_bad _ l (by omega) hs23) ?_)
    refine awOps.rn ?_
    refine AW.trim [0, 1, 2, 11, 12] ?_
    refine AW.seq ?_
    refine AW.rS ?_
    refine AW.trim [0, 1, 2, 11, 64] ?_
    refine AW.c2 ?_ ?_
    ·intro h29
     refine AW.rS ?_
     refine AW.trim [6] ?_
     refine AW.rt ?_
     trivial
    ·intro h29
     exact absurd h29 hs23
end Go.Proofs
