/- A part of the proof of a law of the seat: no condition of its own. -/
import Derived.Test.YtncdpaekhhcjoaaGreatPart9
namespace Go.Proofs
open Go Aw
set_option linter.unusedSimpArgs false
set_option linter.unusedVariables false
set_option maxRecDepth 100000
set_option maxHeartbeats 2000000

theorem c_foliantref05_Name (gl : List (Nat × AV)) (s : List UInt8) (hl : s.length ≤ 16777216 := by first | omega | exact u8_le _ | assumption | (simp; done) | (simp; omega)) : FnP Tryz.prog (gl) 189 [.str s] fun r => r = .ret (.bool (nameB s)) := by
  refine FnP.intro Tryz.func189 rfl rfl (by simp [Tryz.ntmps189]) ?_
  simp only [argEnv, Tryz.ntmps189, Tryz.results189]
  refine AW.rS ?_
  refine AW.seq ?_
  refine AW.rS ?_
  refine AW.block ?_
  refine AW.lk (S := { i : Nat // i ≤ s.length ∧ ∀ j, j < i → s.getD j 0 ≠ 0 }) [0] (fun s_ => [(3, .int .i64 s_.1)]) (fun s_ => []) 0 (fun s_ => s.length - s_.1) ⟨0, Nat.zero_le _, fun j h => absurd h (by omega)⟩ ?_ ?_
  · refine St.le.vw []
  rintro ⟨i, hi, hs⟩
  try dsimp only at hi
  try dsimp only at hs
  refine AW.seq ?_
  refine AW.rS ?_
  refine AW.c2 ?_ ?_
  · intro h8
    refine AW.skip ?_
    refine AW.seq ?_
    refine AW.block ?_
    refine AW.rS ?_
    refine AW.c2 ?_ ?_
    · intro h13
      refine AW.rS ?_
      refine AW.rt ?_
      rw [nameB_no h8 (by simpa [← UInt8.toNat_inj] using h13)]
    · intro h13
      refine AW.skip ?_
      refine AW.rL ?_
      refine ⟨⟨i + 1, by omega, fun j hj => (Nat.lt_or_ge j i).elim (hs j) (fun h => (show j = i by omega) ▸ (by simpa [← UInt8.toNat_inj] using h13))⟩, ?_, ?_⟩
      · refine St.le.vw []
      · simp only []; omega
  · intro h8
    refine AW.exit ?_
    refine AW.rS ?_
    refine AW.rt ?_
    rw [nameB_all (fun j hj => hs j (by omega))]
theorem c_foliantref05_zero (gl : List (Nat × AV)) (o : Pob) (n g s l : Bool) : FnP Tryz.prog (gl) 188 [.agg o.cells, .bool n, .bool g, .bool s, .bool l] fun r => r = .ret (.bool ((n || decide (o.num = 0)) && (g || decide (o.gen = 0)) && (s || decide (o.str = [])) && (l || (decide ((o.keys.length : Int) = 0) && decide ((o.kids.length : Int) = 0))))) := by
  refine FnP.intro Tryz.func188 rfl rfl (by simp [Tryz.ntmps188]) ?_
  simp only [argEnv, Tryz.ntmps188, Tryz.results188]
  refine AW.rS ?_
  refine AW.rS ?_
  refine AW.rt ?_
  cases n <;> cases g <;> cases s <;> cases l <;> simp
theorem c_foliantref05_uses (gl : List (Nat × AV)) (o : Pob) : FnP Tryz.prog (gl) 164 [.agg o.cells] fun r => r = .ret (.bool (useB o 1)) := by
  refine FnP.intro Tryz.func164 rfl rfl (by simp [Tryz.ntmps164]) ?_
  simp only [argEnv, Tryz.ntmps164, Tryz.results164]
  refine AW.rS ?_
  refine AW.seq ?_
  refine AW.rS ?_
  refine AW.block ?_
  refine AW.rS ?_
  refine AW.c2 ?_ ?_
  · intro h6
    refine AW.rSC ?_
    refine awOps.cons (awGuard.c1 (c_foliantref05_zero _ o false false false false) ?_)
    refine awOps.rn ?_
    refine AW.rt ?_
    first | (simp_all [useB, uN, uG, uS, uKeys, uKids, uOk, Bool.and_assoc]; done) | (simp_all [useB, uN, uG, uS, uKeys, uKids, uOk]; omega)
  · intro h6
    refine AW.seq ?_
    refine AW.rS ?_
    refine AW.c2 ?_ ?_
    · intro h14
      refine AW.skip ?_
      refine AW.c2 ?_ ?_
      · intro h16
        refine AW.rSC ?_
        refine awOps.cons (awGuard.c1 (c_foliantref05_zero _ o true false false false) ?_)
        refine awOps.rn ?_
        refine AW.rt ?_
        first | (simp_all [useB, uN, uG, uS, uKeys, uKids, uOk, Bool.and_assoc]; done) | (simp_all [useB, uN, uG, uS, uKeys, uKids, uOk]; omega)
      · intro h16
        refine AW.seq ?_
        refine AW.rS ?_
        refine AW.c2 ?_ ?_
        · intro h24
          refine AW.skip ?_
          refine AW.c2 ?_ ?_
          · intro h26
            refine AW.rSC ?_
            refine awOps.cons (awGuard.c1 (c_foliantref05_zero _ o false false true false) ?_)
            refine awOps.rn ?_
            refine AW.rt ?_
            first | (simp_all [useB, uN, uG, uS, uKeys, uKids, uOk, Bool.and_assoc]; done) | (simp_all [useB, uN, uG, uS, uKeys, uKids, uOk]; omega)
          · intro h26
            refine AW.rS ?_
            refine AW.c2 ?_ ?_
            · intro h33
              refine AW.rSC ?_
              refine awOps.cons (awGuard.c1 (c_foliantref05_zero _ o false false false true) ?_)
              refine awOps.rn ?_
              refine AW.rt ?_
              first | (simp_all [useB, uN, uG, uS, uKeys, uKids, uOk, Bool.and_assoc]; done) | (simp_all [useB, uN, uG, uS, uKeys, uKids, uOk]; omega)
            · intro h33
              refine AW.rS ?_
              refine AW.c2 ?_ ?_
              · intro h40
                refine AW.rSC ?_
                refine awOps.cons (awGuard.c1 (c_foliantref05_zero ..) ?_)
                refine awOps.rn ?_
                refine AW.rt ?_
                first | (simp_all [useB, uN, uG, uS, uKeys, uKids, uOk, Bool.and_assoc]; done) | (simp_all [useB, uN, uG, uS, uKeys, uKids, uOk]; omega)
              · intro h40
                refine AW.rS ?_
                refine AW.c2 ?_ ?_
                · intro h47
                  refine AW.rSC ?_
                  refine awOps.cons (awGuard.c1 (c_foliantref05_zero ..) ?_)
                  refine awOps.rn ?_
                  refine AW.rt ?_
                  first | (simp_all [useB, uN, uG, uS, uKeys, uKids, uOk, Bool.and_assoc]; done) | (simp_all [useB, uN, uG, uS, uKeys, uKids, uOk]; omega)
                · intro h47
                  refine AW.rS ?_
                  refine AW.c2 ?_ ?_
                  · intro h54
                    refine AW.rSC ?_
                    refine awOps.cons (awGuard.c1 (c_foliantref05_zero ..) ?_)
                    refine awOps.rn ?_
                    refine AW.rt ?_
                    first | (simp_all [useB, uN, uG, uS, uKeys, uKids, uOk, Bool.and_assoc]; done) | (simp_all [useB, uN, uG, uS, uKeys, uKids, uOk]; omega)
                  · intro h54
                    refine AW.skip ?_
                    refine AW.rS ?_
                    refine AW.rt ?_
                    first | (simp_all [useB, uN, uG, uS, uKeys, uKids, uOk, Bool.and_assoc]; done) | (simp_all [useB, uN, uG, uS, uKeys, uKids, uOk]; omega)
        · intro h24
          refine AW.rL ?_
          refine AW.c2 ?_ ?_
          · intro h65
            refine AW.rSC ?_
            refine awOps.cons (awGuard.c1 (c_foliantref05_zero ..) ?_)
            refine awOps.rn ?_
            refine AW.rt ?_
            first | (simp_all [useB, uN, uG, uS, uKeys, uKids, uOk, Bool.and_assoc]; done) | (simp_all [useB, uN, uG, uS, uKeys, uKids, uOk]; omega)
          · intro h65
            refine AW.rS ?_
            refine AW.c2 ?_ ?_
            · intro h72
              refine AW.rSC ?_
              refine awOps.cons (awGuard.c1 (c_foliantref05_zero ..) ?_)
              refine awOps.rn ?_
              refine AW.rt ?_
              first | (simp_all [useB, uN, uG, uS, uKeys, uKids, uOk, Bool.and_assoc]; done) | (simp_all [useB, uN, uG, uS, uKeys, uKids, uOk]; omega)
            · intro h72
              refine AW.rS ?_
              refine AW.c2 ?_ ?_
              · intro h79
                refine AW.rSC ?_
                refine awOps.cons (awGuard.c1 (c_foliantref05_zero ..) ?_)
                refine awOps.rn ?_
                refine AW.rt ?_
                first | (simp_all [useB, uN, uG, uS, uKeys, uKids, uOk, Bool.and_assoc]; done) | (simp_all [useB, uN, uG, uS, uKeys, uKids, uOk]; omega)
              · intro h79
                refine AW.rS ?_
                refine AW.c2 ?_ ?_
                · intro h86
                  refine AW.rSC ?_
                  refine awOps.cons (awGuard.c1 (c_foliantref05_zero ..) ?_)
                  refine awOps.rn ?_
                  refine AW.rt ?_
                  first | (simp_all [useB, uN, uG, uS, uKeys, uKids, uOk, Bool.and_assoc]; done) | (simp_all [useB, uN, uG, uS, uKeys, uKids, uOk]; omega)
                · intro h86
                  refine AW.rS ?_
                  refine AW.c2 ?_ ?_
                  · intro h93
                    refine AW.rSC ?_
                    refine awOps.cons (awGuard.c1 (c_foliantref05_zero ..) ?_)
                    refine awOps.rn ?_
                    refine AW.rt ?_
                    first | (simp_all [useB, uN, uG, uS, uKeys, uKids, uOk, Bool.and_assoc]; done) | (simp_all [useB, uN, uG, uS, uKeys, uKids, uOk]; omega)
                  · intro h93
                    refine AW.skip ?_
                    refine AW.rS ?_
                    refine AW.rt ?_
                    first | (simp_all [useB, uN, uG, uS, uKeys, uKids, uOk, Bool.and_assoc]; done) | (simp_all [useB, uN, uG, uS, uKeys, uKids, uOk]; omega)
    · intro h14
      refine AW.rS ?_
      refine AW.c2 ?_ ?_
      · intro h104
        refine AW.skip ?_
        refine AW.c2 ?_ ?_
        · intro h106
          refine AW.rSC ?_
          refine awOps.cons (awGuard.c1 (c_foliantref05_zero ..) ?_)
          refine awOps.rn ?_
          refine AW.rt ?_
          first | (simp_all [useB, uN, uG, uS, uKeys, uKids, uOk, Bool.and_assoc]; done) | (simp_all [useB, uN, uG, uS, uKeys, uKids, uOk]; omega)
        · intro h106
          refine AW.seq ?_
          refine AW.rS ?_
          refine AW.c2 ?_ ?_
          · intro h114
            refine AW.skip ?_
            refine AW.c2 ?_ ?_
            · intro h116
              refine AW.rSC ?_
              refine awOps.cons (awGuard.c1 (c_foliantref05_zero ..) ?_)
              refine awOps.rn ?_
              refine AW.rt ?_
              first | (simp_all [useB, uN, uG, uS, uKeys, uKids, uOk, Bool.and_assoc]; done) | (simp_all [useB, uN, uG, uS, uKeys, uKids, uOk]; omega)
            · intro h116
              refine AW.rS ?_
              refine AW.c2 ?_ ?_
              · intro h123
                refine AW.rSC ?_
                refine awOps.cons (awGuard.c1 (c_foliantref05_zero ..) ?_)
                refine awOps.rn ?_
                refine AW.rt ?_
                first | (simp_all [useB, uN, uG, uS, uKeys, uKids, uOk, Bool.and_assoc]; done) | (simp_all [useB, uN, uG, uS, uKeys, uKids, uOk]; omega)
              · intro h123
                refine AW.rS ?_
                refine AW.c2 ?_ ?_
                · intro h130
                  refine AW.rSC ?_
                  refine awOps.cons (awGuard.c1 (c_foliantref05_zero ..) ?_)
                  refine awOps.rn ?_
                  refine AW.rt ?_
                  first | (simp_all [useB, uN, uG, uS, uKeys, uKids, uOk, Bool.and_assoc]; done) | (simp_all [useB, uN, uG, uS, uKeys, uKids, uOk]; omega)
                · intro h130
                  refine AW.rS ?_
                  refine AW.c2 ?_ ?_
                  · intro h137
                    refine AW.rSC ?_
                    refine awOps.cons (awGuard.c1 (c_foliantref05_zero ..) ?_)
                    refine awOps.rn ?_
                    refine AW.rt ?_
                    first | (simp_all [useB, uN, uG, uS, uKeys, uKids, uOk, Bool.and_assoc]; done) | (simp_all [useB, uN, uG, uS, uKeys, uKids, uOk]; omega)
                  · intro h137
                    refine AW.rS ?_
                    refine AW.c2 ?_ ?_
                    · intro h144
                      refine AW.rSC ?_
                      refine awOps.cons (awGuard.c1 (c_foliantref05_zero ..) ?_)
                      refine awOps.rn ?_
                      refine AW.rt ?_
                      first | (simp_all [useB, uN, uG, uS, uKeys, uKids, uOk, Bool.and_assoc]; done) | (simp_all [useB, uN, uG, uS, uKeys, uKids, uOk]; omega)
                    · intro h144
                      refine AW.skip ?_
                      refine AW.rS ?_
                      refine AW.rt ?_
                      first | (simp_all [useB, uN, uG, uS, uKeys, uKids, uOk, Bool.and_assoc]; done) | (simp_all [useB, uN, uG, uS, uKeys, uKids, uOk]; omega)
          · intro h114
            refine AW.rL ?_
            refine AW.c2 ?_ ?_
            · intro h155
              refine AW.rSC ?_
              refine awOps.cons (awGuard.c1 (c_foliantref05_zero ..) ?_)
              refine awOps.rn ?_
              refine AW.rt ?_
              first | (simp_all [useB, uN, uG, uS, uKeys, uKids, uOk, Bool.and_assoc]; done) | (simp_all [useB, uN, uG, uS, uKeys, uKids, uOk]; omega)
            · intro h155
              refine AW.rS ?_
              refine AW.c2 ?_ ?_
              · intro h162
                refine AW.rSC ?_
                refine awOps.cons (awGuard.c1 (c_foliantref05_zero ..) ?_)
                refine awOps.rn ?_
                refine AW.rt ?_
                first | (simp_all [useB, uN, uG, uS, uKeys, uKids, uOk, Bool.and_assoc]; done) | (simp_all [useB, uN, uG, uS, uKeys, uKids, uOk]; omega)
              · intro h162
                refine AW.rS ?_
                refine AW.c2 ?_ ?_
                · intro h169
                  refine AW.rSC ?_
                  refine awOps.cons (awGuard.c1 (c_foliantref05_zero ..) ?_)
                  refine awOps.rn ?_
                  refine AW.rt ?_
                  first | (simp_all [useB, uN, uG, uS, uKeys, uKids, uOk, Bool.and_assoc]; done) | (simp_all [useB, uN, uG, uS, uKeys, uKids, uOk]; omega)
                · intro h169
                  refine AW.rS ?_
                  refine AW.c2 ?_ ?_
                  · intro h176
                    refine AW.rSC ?_
                    refine awOps.cons (awGuard.c1 (c_foliantref05_zero ..) ?_)
                    refine awOps.rn ?_
                    refine AW.rt ?_
                    first | (simp_all [useB, uN, uG, uS, uKeys, uKids, uOk, Bool.and_assoc]; done) | (simp_all [useB, uN, uG, uS, uKeys, uKids, uOk]; omega)
                  · intro h176
                    refine AW.rS ?_
                    refine AW.c2 ?_ ?_
                    · intro h183
                      refine AW.rSC ?_
                      refine awOps.cons (awGuard.c1 (c_foliantref05_zero ..) ?_)
                      refine awOps.rn ?_
                      refine AW.rt ?_
                      first | (simp_all [useB, uN, uG, uS, uKeys, uKids, uOk, Bool.and_assoc]; done) | (simp_all [useB, uN, uG, uS, uKeys, uKids, uOk]; omega)
                    · intro h183
                      refine AW.skip ?_
                      refine AW.rS ?_
                      refine AW.rt ?_
                      first | (simp_all [useB, uN, uG, uS, uKeys, uKids, uOk, Bool.and_assoc]; done) | (simp_all [useB, uN, uG, uS, uKeys, uKids, uOk]; omega)
      · intro h104
        refine AW.rL ?_
        refine AW.c2 ?_ ?_
        · intro h194
          refine AW.rSC ?_
          refine awOps.cons (awGuard.c1 (c_foliantref05_zero ..) ?_)
          refine awOps.rn ?_
          refine AW.rt ?_
          first | (simp_all [useB, uN, uG, uS, uKeys, uKids, uOk, Bool.and_assoc]; done) | (simp_all [useB, uN, uG, uS, uKeys, uKids, uOk]; omega)
        · intro h194
          refine AW.seq ?_
          refine AW.rS ?_
          refine AW.c2 ?_ ?_
          · intro h202
            refine AW.skip ?_
            refine AW.c2 ?_ ?_
            · intro h204
              refine AW.rSC ?_
              refine awOps.cons (awGuard.c1 (c_foliantref05_zero ..) ?_)
              refine awOps.rn ?_
              refine AW.rt ?_
              first | (simp_all [useB, uN, uG, uS, uKeys, uKids, uOk, Bool.and_assoc]; done) | (simp_all [useB, uN, uG, uS, uKeys, uKids, uOk]; omega)
            · intro h204
              refine AW.rS ?_
              refine AW.c2 ?_ ?_
              · intro h211
                refine AW.rSC ?_
                refine awOps.cons (awGuard.c1 (c_foliantref05_zero ..) ?_)
                refine awOps.rn ?_
                refine AW.rt ?_
                first | (simp_all [useB, uN, uG, uS, uKeys, uKids, uOk, Bool.and_assoc]; done) | (simp_all [useB, uN, uG, uS, uKeys, uKids, uOk]; omega)
              · intro h211
                refine AW.rS ?_
                refine AW.c2 ?_ ?_
                · intro h218
                  refine AW.rSC ?_
                  refine awOps.cons (awGuard.c1 (c_foliantref05_zero ..) ?_)
                  refine awOps.rn ?_
                  refine AW.rt ?_
                  first | (simp_all [useB, uN, uG, uS, uKeys, uKids, uOk, Bool.and_assoc]; done) | (simp_all [useB, uN, uG, uS, uKeys, uKids, uOk]; omega)
                · intro h218
                  refine AW.rS ?_
                  refine AW.c2 ?_ ?_
                  · intro h225
                    refine AW.rSC ?_
                    refine awOps.cons (awGuard.c1 (c_foliantref05_zero ..) ?_)
                    refine awOps.rn ?_
                    refine AW.rt ?_
                    first | (simp_all [useB, uN, uG, uS, uKeys, uKids, uOk, Bool.and_assoc]; done) | (simp_all [useB, uN, uG, uS, uKeys, uKids, uOk]; omega)
                  · intro h225
                    refine AW.rS ?_
                    refine AW.c2 ?_ ?_
                    · intro h232
                      refine AW.rSC ?_
                      refine awOps.cons (awGuard.c1 (c_foliantref05_zero ..) ?_)
                      refine awOps.rn ?_
                      refine AW.rt ?_
                      first | (simp_all [useB, uN, uG, uS, uKeys, uKids, uOk, Bool.and_assoc]; done) | (simp_all [useB, uN, uG, uS, uKeys, uKids, uOk]; omega)
                    · intro h232
                      refine AW.skip ?_
                      refine AW.rS ?_
                      refine AW.rt ?_
                      first | (simp_all [useB, uN, uG, uS, uKeys, uKids, uOk, Bool.and_assoc]; done) | (simp_all [useB, uN, uG, uS, uKeys, uKids, uOk]; omega)
          · intro h202
            refine AW.rL ?_
            refine AW.c2 ?_ ?_
            · intro h243
              refine AW.rSC ?_
              refine awOps.cons (awGuard.c1 (c_foliantref05_zero ..) ?_)
              refine awOps.rn ?_
              refine AW.rt ?_
              first | (simp_all [useB, uN, uG, uS, uKeys, uKids, uOk, Bool.and_assoc]; done) | (simp_all [useB, uN, uG, uS, uKeys, uKids, uOk]; omega)
            · intro h243
              refine AW.rS ?_
              refine AW.c2 ?_ ?_
              · intro h250
                refine AW.rSC ?_
                refine awOps.cons (awGuard.c1 (c_foliantref05_zero ..) ?_)
                refine awOps.rn ?_
                refine AW.rt ?_
                first | (simp_all [useB, uN, uG, uS, uKeys, uKids, uOk, Bool.and_assoc]; done) | (simp_all [useB, uN, uG, uS, uKeys, uKids, uOk]; omega)
              · intro h250
                refine AW.rS ?_
                refine AW.c2 ?_ ?_
                · intro h257
                  refine AW.rSC ?_
                  refine awOps.cons (awGuard.c1 (c_foliantref05_zero ..) ?_)
                  refine awOps.rn ?_
                  refine AW.rt ?_
                  first | (simp_all [useB, uN, uG, uS, uKeys, uKids, uOk, Bool.and_assoc]; done) | (simp_all [useB, uN, uG, uS, uKeys, uKids, uOk]; omega)
                · intro h257
                  refine AW.rS ?_
                  refine AW.c2 ?_ ?_
                  · intro h264
                    refine AW.rSC ?_
                    refine awOps.cons (awGuard.c1 (c_foliantref05_zero ..) ?_)
                    refine awOps.rn ?_
                    refine AW.rt ?_
                    first | (simp_all [useB, uN, uG, uS, uKeys, uKids, uOk, Bool.and_assoc]; done) | (simp_all [useB, uN, uG, uS, uKeys, uKids, uOk]; omega)
                  · intro h264
                    refine AW.rS ?_
                    refine AW.c2 ?_ ?_
                    · intro h271
                      refine AW.rSC ?_
                      refine awOps.cons (awGuard.c1 (c_foliantref05_zero ..) ?_)
                      refine awOps.rn ?_
                      refine AW.rt ?_
                      first | (simp_all [useB, uN, uG, uS, uKeys, uKids, uOk, Bool.and_assoc]; done) | (simp_all [useB, uN, uG, uS, uKeys, uKids, uOk]; omega)
                    · intro h271
                      refine AW.skip ?_
                      refine AW.rS ?_
                      refine AW.rt ?_
                      first | (simp_all [useB, uN, uG, uS, uKeys, uKids, uOk, Bool.and_assoc]; done) | (simp_all [useB, uN, uG, uS, uKeys, uKids, uOk]; omega)
theorem c_foliantref05_fits (gl : List (Nat × AV)) (o : Pob) : FnP Tryz.prog (gl) 165 [.agg o.cells] fun r => r = .ret (.bool (fitsB o)) := by
  refine FnP.intro Tryz.func165 rfl rfl (by simp [Tryz.ntmps165]) ?_
  simp only [argEnv, Tryz.ntmps165, Tryz.results165]
  refine AW.rS ?_
  refine AW.seq ?_
  refine AW.rS ?_
  refine AW.block ?_
  refine AW.rS ?_
  refine AW.c2 ?_ ?_
  · intro h6
    refine AW.rS ?_
    refine AW.rt ?_
    first | (simp_all [fitsB, Bool.and_assoc]; done) | (simp_all only [fitsB]; simp; rw [Bool.eq_iff_iff]; simp; omega)
  · intro h6
    refine AW.rS ?_
    refine AW.c2 ?_ ?_
    · intro h11
      refine AW.rS ?_
      refine AW.rt ?_
      first | (simp_all [fitsB, Bool.and_assoc]; done) | (simp_all only [fitsB]; simp; rw [Bool.eq_iff_iff]; simp; omega)
    · intro h11
      refine AW.rS ?_
      refine AW.c2 ?_ ?_
      · intro h16
        refine AW.rS ?_
        refine AW.rt ?_
        first | (simp_all [fitsB, Bool.and_assoc]; done) | (simp_all only [fitsB]; simp; rw [Bool.eq_iff_iff]; simp; omega)
      · intro h16
        refine AW.rS ?_
        refine AW.c2 ?_ ?_
        · intro h21
          refine AW.rS ?_
          refine AW.rt ?_
          first | (simp_all [fitsB, Bool.and_assoc]; done) | (simp_all only [fitsB]; simp; rw [Bool.eq_iff_iff]; simp; omega)
        · intro h21
          refine AW.skip ?_
          refine AW.rS ?_
          refine AW.rt ?_
          first | (simp_all [fitsB, Bool.and_assoc]; done) | (simp_all only [fitsB]; simp; rw [Bool.eq_iff_iff]; simp; omega)
theorem c_foliantref05_long (gl : List (Nat × AV)) (k : Int) : FnP Tryz.prog (gl) 166 [.int .i64 k] fun r => r = .ret (.int .i64 (longN k)) := by
  refine FnP.intro Tryz.func166 rfl rfl (by simp [Tryz.ntmps166]) ?_
  simp only [argEnv, Tryz.ntmps166, Tryz.results166]
  refine AW.rS ?_
  refine AW.seq ?_
  refine AW.rS ?_
  refine AW.c2 ?_ ?_
  · intro h4
    refine AW.rS ?_
    refine AW.rt ?_
    simp_all [longN]
  · intro h4
    refine AW.skip ?_
    refine AW.seq ?_
    refine AW.rS ?_
    refine AW.c2 ?_ ?_
    · intro h11
      refine AW.rS ?_
      refine AW.rt ?_
      simp_all [longN]
    · intro h11
      refine AW.skip ?_
      refine AW.rS ?_
      refine AW.rt ?_
      simp_all [longN]
end Go.Proofs

namespace Go.Proofs
open Go Aw
set_option linter.unusedSimpArgs false
set_option linter.unusedVariables false
set_option maxRecDepth 100000
set_option maxHeartbeats 2000000
attribute [local go_sem] take_strsAV drop_strsAV app_strsAV app1_strsAV take_intsAV drop_intsAV app_intsAV app1_intsAV take_objsAV drop_objsAV app_objsAV app1_objsAV

theorem c_foliantref05_keys (gl : List (Nat × AV)) (o : Pob) (h : o.tot ≤ 16777216) : FnP Tryz.prog (gl) 167 [.agg o.cells] fun r => r = .ret (.bool (formB o)) := by
  refine FnP.intro Tryz.func167 rfl rfl (by simp [Tryz.ntmps167]) ?_
  simp only [argEnv, Tryz.ntmps167, Tryz.results167]
  have hb := Pob.bulk_tot o
  have hbe := Pob.bulk_eq o
  have hts := Pob.tot_str o
  refine AW.rS ?_
  refine AW.seq ?_
  refine AW.rS ?_
  refine AW.c2 ?_ ?_
  · intro h4
    refine AW.rSC ?_
    refine awOps.cons (awGuard.c1 (c_foliantref05_Name _ o.str (by omega)) ?_)
    refine awOps.rn ?_
    refine AW.rt ?_
    rw [form_name h4]
  · intro h4
    refine AW.skip ?_
    refine AW.seq ?_
    refine AW.rS ?_
    refine AW.c2 ?_ ?_
    · intro h13
      refine AW.rS ?_
      refine AW.rt ?_
      · rw [form_none h4 h13.1 h13.2]
      all_goals first | contradiction | rfl | (simp; done) | (simp; omega)
    · intro h13
      have h79 : o.kind = 7 ∨ o.kind = 9 := by omega
      rw [form_keys h79]
      refine AW.skip ?_
      refine AW.seq ?_
      refine AW.rS ?_
      refine AW.c2 ?_ ?_
      · intro h20
        refine AW.rS ?_
        refine AW.rt ?_
        rw [rising_no (fun h' => h20 (by have := h'.1; omega))]
      · intro h20
        refine AW.skip ?_
        refine AW.seq ?_
        refine AW.rS ?_
        refine AW.block ?_
        refine AW.lk (S := { i : Nat // i ≤ o.keys.length ∧ ∀ j, j < i → okKey o j }) [1, 27, 28] (fun s_ => [(29, .int .i64 s_.1)]) (fun s_ => [(0, .cells o.cells)]) 1 (fun s_ => o.keys.length - s_.1) ⟨0, Nat.zero_le _, fun j h => absurd h (by omega)⟩ ?_ ?_
        · refine St.le.vw [0]
        rintro ⟨i, hi, hs⟩
        try dsimp only at hi
        try dsimp only at hs
        refine AW.rS ?_
        refine AW.seq ?_
        refine AW.c2 ?_ ?_
        · intro h31
          have hkt := Pob.tot_key (o := o) h31
          refine AW.skip ?_
          refine AW.seq ?_
          refine AW.block ?_
          refine AW.rS ?_
          refine AW.rSC ?_
          refine awOps.cons (awGuard.c1 (c_foliantref05_Name _ (o.keys.getD i []) (by omega)) ?_)
          refine awOps.rn ?_
          refine AW.c2 ?_ ?_
          · intro h39
            refine AW.rS ?_
            refine AW.rt ?_
            rw [rising_no (fun h' => ?_)]
            obtain ⟨k1, k2, k3, k4⟩ := h'.2 i h31
            rcases h39 with ((h | ⟨hi0, h | h⟩) | ⟨h, h9⟩) | h
            · rw [k1] at h; cases h
            · have := bl_asymm (k2 (by omega)); rw [h] at this; cases this
            · have := k2 (by omega); rw [← h, bl_irrefl] at this; cases this
            · exact k3 ⟨h9, h⟩
            · exact k4 h
          · intro h39
            have hok : okKey o i := by
              refine ⟨h39.1.1.1, fun hi0 => ?_, ?_, h39.2⟩
              · rcases h39.1.1.2 with h | ⟨h, h'⟩
                · omega
                · rcases bl_total (o.keys.getD (i - 1) []) (o.keys.getD i []) with e | e | e
                  · exact absurd e.symm h'
                  · exact e
                  · rw [h] at e; cases e
              · rintro ⟨h9, hL⟩
                rcases h39.1.2 with h | h
                · exact h hL
                · exact h h9
            refine AW.skip ?_
            refine AW.rL ?_
            refine ⟨⟨i + 1, by omega, fun j hj => (Nat.lt_or_ge j i).elim (hs j) (fun h => (show j = i by omega) ▸ hok)⟩, ?_, ?_⟩
            · refine St.le.vw [0]
            · simp only []; omega
        · intro h31
          refine AW.exit ?_
          refine AW.rS ?_
          refine AW.rt ?_
          rw [rising_yes ⟨by omega, fun j hj => hs j (by omega)⟩]
theorem rcheck_step (gl : List (Nat × AV)) (N : Nat) (hN : N ≤ 16777216) (ih : ∀ (o' : Pob) (d' : Int), o'.tot < N → 1 ≤ d' → d' ≤ 25 → FnP Tryz.prog gl 128 [.agg o'.cells, .int .i64 d'] fun r => r = .ret (.int .i64 (chk o' d'))) (o : Pob) (d : Int) (ho : o.tot ≤ N) (hd : 1 ≤ d) (hd2 : d ≤ 25) : FnP Tryz.prog (gl) 128 [.agg o.cells, .int .i64 d] fun r => r = .ret (.int .i64 (chk o d)) := by
  refine FnP.intro Tryz.func128 rfl rfl (by simp [Tryz.ntmps128]) ?_
  simp only [argEnv, Tryz.ntmps128, Tryz.results128]
  have hb := Pob.bulk_tot o
  have hbe := Pob.bulk_eq o
  have hts := Pob.tot_str o
  refine AW.rS ?_
  refine AW.seq ?_
  refine AW.rS ?_
  refine AW.c2 ?_ ?_
  · intro h4
    refine AW.rS ?_
    refine AW.rt ?_
    rw [own_deep (by omega)]
  · intro h4
    refine AW.skip ?_
    refine AW.seq ?_
    refine AW.rSC ?_
    refine awOps.cons (awGuard.c1 (c_foliantref05_uses _ o) ?_)
    refine awOps.rn ?_
    refine AW.c2 ?_ ?_
    · intro h13
      refine AW.rS ?_
      refine AW.rt ?_
      rw [own_use (by omega) (by rw [use_split]; rcases h13 with h | ⟨h, h'⟩; simp [h]; simp [h, show ¬ d = 1 by omega])]
    · intro h13
      have hu : useB o d = true := by rw [use_split, h13.1]; rcases h13.2 with h | h; simp [h]; simp [show d = 1 by omega]
      have hu1 : useB o 1 = true := h13.1
      refine AW.skip ?_
      refine AW.seq ?_
      refine AW.rSC ?_
      refine awOps.cons (awGuard.c1 (c_foliantref05_fits _ o) ?_)
      refine awOps.rn ?_
      refine AW.c2 ?_ ?_
      · intro h22
        refine AW.rS ?_
        refine AW.rt ?_
        rw [own_fits (by omega) hu h22]
      · intro h22
        have hf : fitsB o = true := h22
        refine AW.skip ?_
        refine AW.seq ?_
        refine AW.fS [0, 1, 2, 3, 4, 5, 6] [] ?_
        refine awFun.rn ?_
        refine awFun.c1 [29] (c_foliantref05_long _ o.kind) ?_
        refine awFun.rn ?_
        rw [Aw.awFun_nil, Aw.awPlan_nil]
        refine AW.c2 ?_ ?_
        · intro h33
          refine AW.rS ?_
          refine AW.rt ?_
          rw [own_long (by omega) hu hf (by rw [short_ref hu1]; simp; omega)]
        · intro h33
          have hsh : shortB o = true := by rw [short_ref hu1]; simpa using h33
          refine AW.skip ?_
          refine AW.seq ?_
          refine AW.rS ?_
          refine AW.c2 ?_ ?_
          · intro h40
            refine AW.rS ?_
            refine AW.rt ?_
            rw [own_many (by omega) hu hf hsh (by omega)]
          · intro h40
            refine AW.skip ?_
            refine AW.seq ?_
            refine AW.rSC ?_
            refine awOps.cons (awGuard.c1 (c_foliantref05_keys _ o (by omega)) ?_)
            refine awOps.rn ?_
            refine AW.c2 ?_ ?_
            · intro h49
              refine AW.rS ?_
              refine AW.rt ?_
              rw [own_form (by omega) hu hf hsh (by omega) h49]
            · intro h49
              have hfo : formB o = true := h49
              refine AW.skip ?_
              refine AW.seq ?_
              refine AW.rS ?_
              refine AW.block ?_
              refine AW.lk (S := { i : Nat // i ≤ o.kids.length ∧ chkL o.kids (d + 1) = chkL (o.kids.drop i) (d + 1) }) [1, 40, 41] (fun s_ => [(42, .int .i64 s_.1)]) (fun s_ => [(0, .cells o.cells)]) 1 (fun s_ => o.kids.length - s_.1) ⟨0, Nat.zero_le _, rfl⟩ ?_ ?_
              · refine St.le.vw [0]
              rintro ⟨i, hi, hs⟩
              try dsimp only at hi
              try dsimp only at hs
              refine AW.rS ?_
              refine AW.seq ?_
              refine AW.c2 ?_ ?_
              · intro h60
                have hkt := Pob.tot_kid (o := o) h60
                refine AW.skip ?_
                refine AW.seq ?_
                refine AW.block ?_
                refine AW.rS ?_
                refine AW.rSC ?_
                refine awOps.cons (awGuard.c1 (ih (o.kids.getD i Pob.null) (d + 1) (by omega) (by omega) (by omega)) ?_)
                refine awOps.rn ?_
                refine AW.rS ?_
                refine AW.c2 ?_ ?_
                · intro h69
                  refine AW.rS ?_
                  refine AW.rt ?_
                  rw [own_ok (by omega) hu hf hsh (by omega) hfo, hs, chkL_drop h60, if_neg h69]
                · intro h69
                  refine AW.skip ?_
                  refine AW.rL ?_
                  refine ⟨⟨i + 1, by omega, by rw [hs, chkL_drop h60, if_pos h69]⟩, ?_, ?_⟩
                  · refine St.le.vw [0]
                  · simp only []; omega
              · intro h60
                refine AW.exit ?_
                refine AW.rS ?_
                refine AW.rt ?_
                rw [own_ok (by omega) hu hf hsh (by omega) hfo, hs, List.drop_of_length_le (by omega)]
                with_unfolding_all rfl
theorem rcheck_all (gl : List (Nat × AV)) (N : Nat) : N ≤ 16777216 → ∀ (o : Pob) (d : Int), o.tot ≤ N → 1 ≤ d → d ≤ 25 → FnP Tryz.prog gl 128 [.agg o.cells, .int .i64 d] fun r => r = .ret (.int .i64 (chk o d)) := by
  induction N using Nat.strongRecOn with
  | ind N IH => exact fun hN o d ho hd hd2 => rcheck_step gl N hN (fun o' d' h h1 h2 => IH o'.tot h (by omega) o' d' (Nat.le_refl _) h1 h2) o d ho hd hd2
theorem c_foliantref05_Check (gl : List (Nat × AV)) (o : Pob) (h : o.tot ≤ 16777216) : FnP Tryz.prog (gl) 60 [.agg o.cells] fun r => r = .ret (.int .i64 (chk o 1)) := by
  refine FnP.intro Tryz.func60 rfl rfl (by simp [Tryz.ntmps60]) ?_
  simp only [argEnv, Tryz.ntmps60, Tryz.results60]
  refine AW.rS ?_
  refine AW.rSC ?_
  refine awOps.cons (awGuard.c1 (rcheck_all _ 16777216 (Nat.le_refl _) o 1 h (by omega) (by omega)) ?_)
  refine awOps.rn ?_
  refine AW.rt ?_
  all_goals first | contradiction | rfl | (simp; done) | (simp; omega)
theorem c_foliantref05_right (gl : List (Nat × AV)) (o : Pob) (h : o.tot ≤ 16777216) : FnP Tryz.prog (gl) 120 [.agg o.cells] fun r => r = .ret (.tup [.agg (if chk o 1 = 0 then o else Pob.null).cells, .int .i64 (chk o 1)]) := by
  refine FnP.intro Tryz.func120 rfl rfl (by simp [Tryz.ntmps120]) ?_
  simp only [argEnv, Tryz.ntmps120, Tryz.results120]
  refine AW.rS ?_
  refine AW.seq ?_
  refine AW.rSC ?_
  refine awOps.cons (awGuard.c1 (c_foliantref05_Check _ o h) ?_)
  refine awOps.rn ?_
  refine AW.rS ?_
  refine AW.c2 ?_ ?_
  · intro h7
    refine AW.rS ?_
    refine AW.rt ?_
    rw [if_neg h7]; rfl
  · intro h7
    refine AW.skip ?_
    refine AW.rS ?_
    refine AW.rt ?_
    rw [if_pos h7, h7]
theorem c_foliantref05_put (gl : List (Nat × AV)) (o : Pob) (key : List UInt8) (v : Pob) (h : o.bulk ≤ 16777000) (hl : o.keys.length = o.kids.length) : FnP Tryz.prog (gl) 119 [.agg o.cells, .str key, .agg v.cells] fun r => r = .ret (.agg (o.withK key v).cells) := by
  refine FnP.intro Tryz.func119 rfl rfl (by simp [Tryz.ntmps119]) ?_
  simp only [argEnv, Tryz.ntmps119, Tryz.results119]
  have hbe := Pob.bulk_eq o
  have hkp := kplace_le o.keys key
  refine AW.rS ?_
  refine AW.rSC ?_
  refine awOps.cons (awGuard.c1 (c_foliantref05_place _ o.keys key (by omega)) ?_)
  refine awOps.rn ?_
  refine AW.rS ?_
  refine AW.rS ?_
  refine AW.rS ?_
  refine AW.rS ?_
  refine AW.seq ?_
  refine AW.rS ?_
  refine AW.c2 ?_ ?_
  · intro h11
    have hkl := kthere_lt h11
    refine AW.rL ?_
    refine AW.rS ?_
    refine AW.rS ?_
    refine AW.rS ?_
    refine AW.rt ?_
    rw [put_there hl h11, take_len2, take_len2]
    exact ⟨⟨by simp, by simp⟩, rfl⟩
  · intro h11
    refine AW.skip ?_
    refine AW.rS ?_
    refine AW.rS ?_
    refine AW.rS ?_
    refine AW.rt ?_
    rw [put_new (by simpa using h11), take_len2, take_len2]
    exact ⟨⟨by simp, by simp⟩, rfl⟩
attribute [local go_sem] woK_zero
theorem c_foliantref05_without (gl : List (Nat × AV)) (o : Pob) (key : List UInt8) (h : o.bulk ≤ 16777000) (hs : o.kvOk) : FnP Tryz.prog (gl) 121 [.agg o.cells, .str key] fun r => r = .ret (.agg (Pob.mk o.kind o.num o.gen o.str (woK o.keys key o.keys o.keys.length) (woK o.keys key o.kids o.keys.length)).cells) := by
  refine FnP.intro Tryz.func121 rfl rfl (by simp [Tryz.ntmps121]) ?_
  simp only [argEnv, Tryz.ntmps121, Tryz.results121]
  have hbe := Pob.bulk_eq o
  have hl := hs.2
  refine AW.rS ?_
  refine AW.rS ?_
  refine AW.rS ?_
  refine AW.seq ?_
  refine AW.rS ?_
  refine AW.block ?_
  refine AW.pre (St.le.nilrow 5 1 (by (simp only [go_sem, seval]; try (simp (disch := omega) only [wrap_i64, wrap_u8, wrap_u64, tdiv_nn, tmod_nn, Int.toNat_natCast_add_one, toNat_sub1, Int.toNat_sub, Int.toNat_natCast, intsAV_getD, strsAV_getD, objsAV_getD, itemsAV_getD, intsAV_out, strsAV_out, objsAV_out, itemsAV_out, fillO_length, fillO_set]; try (simp only [go_sem, seval]; try (simp (disch := omega) only [wrap_i64, wrap_u8, wrap_u64, tdiv_nn, tmod_nn, Int.toNat_natCast_add_one, toNat_sub1, Int.toNat_sub, Int.toNat_natCast, intsAV_getD, strsAV_getD, objsAV_getD, itemsAV_getD, intsAV_out, strsAV_out, objsAV_out, itemsAV_out, fillO_length, fillO_set]; try simp only [go_sem, seval])))))) ?_
  refine wk ?_
  refine AW.pre (St.le.nilrow 6 6 (by (simp only [go_sem, seval]; try (simp (disch := omega) only [wrap_i64, wrap_u8, wrap_u64, tdiv_nn, tmod_nn, Int.toNat_natCast_add_one, toNat_sub1, Int.toNat_sub, Int.toNat_natCast, intsAV_getD, strsAV_getD, objsAV_getD, itemsAV_getD, intsAV_out, strsAV_out, objsAV_out, itemsAV_out, fillO_length, fillO_set]; try (simp only [go_sem, seval]; try (simp (disch := omega) only [wrap_i64, wrap_u8, wrap_u64, tdiv_nn, tmod_nn, Int.toNat_natCast_add_one, toNat_sub1, Int.toNat_sub, Int.toNat_natCast, intsAV_getD, strsAV_getD, objsAV_getD, itemsAV_getD, intsAV_out, strsAV_out, objsAV_out, itemsAV_out, fillO_length, fillO_set]; try simp only [go_sem, seval])))))) ?_
  refine wk ?_
  refine AW.lk (S := { i : Nat // i ≤ o.keys.length }) [1, 2, 4, 10] (fun s_ => [(5, .row 2 0 (woK o.keys key o.keys s_.1).length), (6, .row 3 0 (woK o.keys key o.kids s_.1).length), (11, .int .i64 s_.1)]) (fun s_ => [(0, .cells o.cells), (1, .cells [.int .i64 0, .int .i64 0, .int .i64 0, .str [], .raw (.slice none 0 0), .raw (.slice none 0 0)]), (2, .row 1 (strsAV (woK o.keys key o.keys s_.1)) true), (3, .row 6 (objsAV (woK o.keys key o.kids s_.1)) true)]) 4 (fun s_ => o.keys.length - s_.1) ⟨0, Nat.zero_le _⟩ ?_ ?_
  · refine St.le.vw [0, 1, 2, 3]
  rintro ⟨i, hi⟩
  try dsimp only at hi
  refine AW.rS ?_
  refine AW.seq ?_
  refine AW.c2 ?_ ?_
  · intro h10
    have w1 := woK_len o.keys key o.keys i
    have w2 := woK_len o.keys key o.kids i
    refine AW.skip ?_
    refine AW.seq ?_
    refine AW.block ?_
    refine AW.rS ?_
    refine AW.rS ?_
    refine AW.c2 ?_ ?_
    · intro h16
      have e1 := woK_keep (l := o.keys) (x := []) hs.1 (i := i) (key := key) h10 h10 (by first | exact h16.1 | exact h16)
      have e2 := woK_keep (l := o.kids) (x := Pob.null) hs.1 (i := i) (key := key) h10 (by omega) (by first | exact h16.1 | exact h16)
      have f1 := congrArg List.length e1
      have f2 := congrArg List.length e2
      rw [List.length_append, List.length_singleton] at f1 f2
      refine AW.rS ?_
      refine AW.rL ?_
      refine AW.rL ?_
      refine ⟨⟨i + 1, by omega⟩, ?_, ?_⟩
      · refine St.le.vx [0, 1, 5, 7] ?_
        rw [e1, e2]; simp [strsAV, objsAV]
      · simp only []; omega
    · intro h16
      have e1 := woK_skip (l := o.keys) hs.1 (i := i) (key := key) h10 (by rcases h16 with h | h; exact h; omega)
      have e2 := woK_skip (l := o.kids) hs.1 (i := i) (key := key) h10 (by rcases h16 with h | h; exact h; omega)
      have f1 := congrArg List.length e1
      have f2 := congrArg List.length e2
      refine AW.skip ?_
      refine AW.rL ?_
      refine ⟨⟨i + 1, by omega⟩, ?_, ?_⟩
      · refine St.le.vx [0, 1, 2, 3] ?_
        rw [e1, e2]; exact ⟨rfl, rfl⟩
      · simp only []; omega
  · intro h10
    refine AW.exit ?_
    refine AW.rS ?_
    refine AW.rS ?_
    refine AW.rS ?_
    refine AW.rt ?_
    obtain rfl : i = o.keys.length := by omega
    rfl
end Go.Proofs
