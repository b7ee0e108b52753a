/- A part of the proof of a law of the seat: no condition of its own. -/
import Derived.Test.YtokikpiffafajaaGreatPart12
namespace Go.Proofs
open Go Aw
set_option linter.unusedSimpArgs false
set_option linter.unusedVariables false
set_option maxRecDepth 100000
set_option maxHeartbeats 2000000

theorem c_foliantref05_Name (gl : List (Nat × AV)) (s : List UInt8) (hl : s.length ≤ 16777216 := by first | omega | exact u8_le _ | assumption | (simp; done) | (simp; omega)) : FnP Tryz.prog (gl) 135 [.str s] fun r => r = .ret (.bool (nameB s)) := by
  refine FnP.intro Tryz.func135 rfl rfl (by simp [Tryz.ntmps135]) ?_
  simp only [argEnv, Tryz.ntmps135, Tryz.results135]
  refine AW.rS ?_
  refine AW.seq ?_
  refine AW.rS ?_
  refine AW.block ?_
  refine AW.lk (S := { i : Nat // i ≤ s.length ∧ ∀ j, j < i → s.getD j 0 ≠ 0 }) [0] (fun s_ => [(3, .int .i64 s_.1)]) (fun s_ => []) 0 (fun s_ => s.length - s_.1) ⟨0, Nat.zero_le _, fun j h => absurd h (by omega)⟩ ?_ ?_
  · refine St.le.vw []
  rintro ⟨i, hi, hs⟩
  try dsimp only at hi
  try dsimp only at hs
  refine AW.seq ?_
  refine AW.rS ?_
  refine AW.c2 ?_ ?_
  · intro h8
    refine AW.skip ?_
    refine AW.seq ?_
    refine AW.block ?_
    refine AW.rS ?_
    refine AW.c2 ?_ ?_
    · intro h13
      refine AW.rS ?_
      refine AW.rt ?_
      rw [nameB_no h8 (by simpa [← UInt8.toNat_inj] using h13)]
    · intro h13
      refine AW.skip ?_
      refine AW.rL ?_
      refine ⟨⟨i + 1, by omega, fun j hj => (Nat.lt_or_ge j i).elim (hs j) (fun h => (show j = i by omega) ▸ (by simpa [← UInt8.toNat_inj] using h13))⟩, ?_, ?_⟩
      · refine St.le.vw []
      · simp only []; omega
  · intro h8
    refine AW.exit ?_
    refine AW.rS ?_
    refine AW.rt ?_
    rw [nameB_all (fun j hj => hs j (by omega))]
theorem c_foliantref05_zero (gl : List (Nat × AV)) (o : Pob) (n g s l : Bool) : FnP Tryz.prog (gl) 134 [.agg o.cells, .bool n, .bool g, .bool s, .bool l] fun r => r = .ret (.bool ((n || decide (o.num = 0)) && (g || decide (o.gen = 0)) && (s || decide (o.str = [])) && (l || (decide ((o.keys.length : Int) = 0) && decide ((o.kids.length : Int) = 0))))) := by
  refine FnP.intro Tryz.func134 rfl rfl (by simp [Tryz.ntmps134]) ?_
  simp only [argEnv, Tryz.ntmps134, Tryz.results134]
  refine AW.rS ?_
  refine AW.rS ?_
  refine AW.rt ?_
  cases n <;> cases g <;> cases s <;> cases l <;> simp
theorem c_foliantref05_uses (gl : List (Nat × AV)) (o : Pob) : FnP Tryz.prog (gl) 115 [.agg o.cells] fun r => r = .ret (.bool (useB o 1)) := by
  refine FnP.intro Tryz.func115 rfl rfl (by simp [Tryz.ntmps115]) ?_
  simp only [argEnv, Tryz.ntmps115, Tryz.results115]
  refine AW.rS ?_
  refine AW.seq ?_
  refine AW.rS ?_
  refine AW.block ?_
  refine AW.rS ?_
  refine AW.c2 ?_ ?_
  · intro h6
    refine AW.rSC ?_
    refine awOps.cons (awGuard.c1 (c_foliantref05_zero _ o false false false false) ?_)
    refine awOps.rn ?_
    refine AW.rt ?_
    first | (simp_all [useB, uN, uG, uS, uKeys, uKids, uOk, Bool.and_assoc]; done) | (simp_all [useB, uN, uG, uS, uKeys, uKids, uOk]; omega)
  · intro h6
    refine AW.seq ?_
    refine AW.rS ?_
    refine AW.c2 ?_ ?_
    · intro h14
      refine AW.skip ?_
      refine AW.c2 ?_ ?_
      · intro h16
        refine AW.rSC ?_
        refine awOps.cons (awGuard.c1 (c_foliantref05_zero _ o true false false false) ?_)
        refine awOps.rn ?_
        refine AW.rt ?_
        first | (simp_all [useB, uN, uG, uS, uKeys, uKids, uOk, Bool.and_assoc]; done) | (simp_all [useB, uN, uG, uS, uKeys, uKids, uOk]; omega)
      · intro h16
        refine AW.seq ?_
        refine AW.rS ?_
        refine AW.c2 ?_ ?_
        · intro h24
          refine AW.skip ?_
          refine AW.c2 ?_ ?_
          · intro h26
            refine AW.rSC ?_
            refine awOps.cons (awGuard.c1 (c_foliantref05_zero _ o false false true false) ?_)
            refine awOps.rn ?_
            refine AW.rt ?_
            first | (simp_all [useB, uN, uG, uS, uKeys, uKids, uOk, Bool.and_assoc]; done) | (simp_all [useB, uN, uG, uS, uKeys, uKids, uOk]; omega)
          · intro h26
            refine AW.rS ?_
            refine AW.c2 ?_ ?_
            · intro h33
              refine AW.rSC ?_
              refine awOps.cons (awGuard.c1 (c_foliantref05_zero _ o false false false true) ?_)
              refine awOps.rn ?_
              refine AW.rt ?_
              first | (simp_all [useB, uN, uG, uS, uKeys, uKids, uOk, Bool.and_assoc]; done) | (simp_all [useB, uN, uG, uS, uKeys, uKids, uOk]; omega)
            · intro h33
              refine AW.rS ?_
              refine AW.c2 ?_ ?_
              · intro h40
                refine AW.rSC ?_
                refine awOps.cons (awGuard.c1 (c_foliantref05_zero ..) ?_)
                refine awOps.rn ?_
                refine AW.rt ?_
                first | (simp_all [useB, uN, uG, uS, uKeys, uKids, uOk, Bool.and_assoc]; done) | (simp_all [useB, uN, uG, uS, uKeys, uKids, uOk]; omega)
              · intro h40
                refine AW.rS ?_
                refine AW.c2 ?_ ?_
                · intro h47
                  refine AW.rSC ?_
                  refine awOps.cons (awGuard.c1 (c_foliantref05_zero ..) ?_)
                  refine awOps.rn ?_
                  refine AW.rt ?_
                  first | (simp_all [useB, uN, uG, uS, uKeys, uKids, uOk, Bool.and_assoc]; done) | (simp_all [useB, uN, uG, uS, uKeys, uKids, uOk]; omega)
                · intro h47
                  refine AW.rS ?_
                  refine AW.c2 ?_ ?_
                  · intro h54
                    refine AW.rSC ?_
                    refine awOps.cons (awGuard.c1 (c_foliantref05_zero ..) ?_)
                    refine awOps.rn ?_
                    refine AW.rt ?_
                    first | (simp_all [useB, uN, uG, uS, uKeys, uKids, uOk, Bool.and_assoc]; done) | (simp_all [useB, uN, uG, uS, uKeys, uKids, uOk]; omega)
                  · intro h54
                    refine AW.skip ?_
                    refine AW.rS ?_
                    refine AW.rt ?_
                    first | (simp_all [useB, uN, uG, uS, uKeys, uKids, uOk, Bool.and_assoc]; done) | (simp_all [useB, uN, uG, uS, uKeys, uKids, uOk]; omega)
        · intro h24
          refine AW.rL ?_
          refine AW.c2 ?_ ?_
          · intro h65
            refine AW.rSC ?_
            refine awOps.cons (awGuard.c1 (c_foliantref05_zero ..) ?_)
            refine awOps.rn ?_
            refine AW.rt ?_
            first | (simp_all [useB, uN, uG, uS, uKeys, uKids, uOk, Bool.and_assoc]; done) | (simp_all [useB, uN, uG, uS, uKeys, uKids, uOk]; omega)
          · intro h65
            refine AW.rS ?_
            refine AW.c2 ?_ ?_
            · intro h72
              refine AW.rSC ?_
              refine awOps.cons (awGuard.c1 (c_foliantref05_zero ..) ?_)
              refine awOps.rn ?_
              refine AW.rt ?_
              first | (simp_all [useB, uN, uG, uS, uKeys, uKids, uOk, Bool.and_assoc]; done) | (simp_all [useB, uN, uG, uS, uKeys, uKids, uOk]; omega)
            · intro h72
              refine AW.rS ?_
              refine AW.c2 ?_ ?_
              · intro h79
                refine AW.rSC ?_
                refine awOps.cons (awGuard.c1 (c_foliantref05_zero ..) ?_)
                refine awOps.rn ?_
                refine AW.rt ?_
                first | (simp_all [useB, uN, uG, uS, uKeys, uKids, uOk, Bool.and_assoc]; done) | (simp_all [useB, uN, uG, uS, uKeys, uKids, uOk]; omega)
              · intro h79
                refine AW.rS ?_
                refine AW.c2 ?_ ?_
                · intro h86
                  refine AW.rSC ?_
                  refine awOps.cons (awGuard.c1 (c_foliantref05_zero ..) ?_)
                  refine awOps.rn ?_
                  refine AW.rt ?_
                  first | (simp_all [useB, uN, uG, uS, uKeys, uKids, uOk, Bool.and_assoc]; done) | (simp_all [useB, uN, uG, uS, uKeys, uKids, uOk]; omega)
                · intro h86
                  refine AW.rS ?_
                  refine AW.c2 ?_ ?_
                  · intro h93
                    refine AW.rSC ?_
                    refine awOps.cons (awGuard.c1 (c_foliantref05_zero ..) ?_)
                    refine awOps.rn ?_
                    refine AW.rt ?_
                    first | (simp_all [useB, uN, uG, uS, uKeys, uKids, uOk, Bool.and_assoc]; done) | (simp_all [useB, uN, uG, uS, uKeys, uKids, uOk]; omega)
                  · intro h93
                    refine AW.skip ?_
                    refine AW.rS ?_
                    refine AW.rt ?_
                    first | (simp_all [useB, uN, uG, uS, uKeys, uKids, uOk, Bool.and_assoc]; done) | (simp_all [useB, uN, uG, uS, uKeys, uKids, uOk]; omega)
    · intro h14
      refine AW.rS ?_
      refine AW.c2 ?_ ?_
      · intro h104
        refine AW.skip ?_
        refine AW.c2 ?_ ?_
        · intro h106
          refine AW.rSC ?_
          refine awOps.cons (awGuard.c1 (c_foliantref05_zero ..) ?_)
          refine awOps.rn ?_
          refine AW.rt ?_
          first | (simp_all [useB, uN, uG, uS, uKeys, uKids, uOk, Bool.and_assoc]; done) | (simp_all [useB, uN, uG, uS, uKeys, uKids, uOk]; omega)
        · intro h106
          refine AW.seq ?_
          refine AW.rS ?_
          refine AW.c2 ?_ ?_
          · intro h114
            refine AW.skip ?_
            refine AW.c2 ?_ ?_
            · intro h116
              refine AW.rSC ?_
              refine awOps.cons (awGuard.c1 (c_foliantref05_zero ..) ?_)
              refine awOps.rn ?_
              refine AW.rt ?_
              first | (simp_all [useB, uN, uG, uS, uKeys, uKids, uOk, Bool.and_assoc]; done) | (simp_all [useB, uN, uG, uS, uKeys, uKids, uOk]; omega)
            · intro h116
              refine AW.rS ?_
              refine AW.c2 ?_ ?_
              · intro h123
                refine AW.rSC ?_
                refine awOps.cons (awGuard.c1 (c_foliantref05_zero ..) ?_)
                refine awOps.rn ?_
                refine AW.rt ?_
                first | (simp_all [useB, uN, uG, uS, uKeys, uKids, uOk, Bool.and_assoc]; done) | (simp_all [useB, uN, uG, uS, uKeys, uKids, uOk]; omega)
              · intro h123
                refine AW.rS ?_
                refine AW.c2 ?_ ?_
                · intro h130
                  refine AW.rSC ?_
                  refine awOps.cons (awGuard.c1 (c_foliantref05_zero ..) ?_)
                  refine awOps.rn ?_
                  refine AW.rt ?_
                  first | (simp_all [useB, uN, uG, uS, uKeys, uKids, uOk, Bool.and_assoc]; done) | (simp_all [useB, uN, uG, uS, uKeys, uKids, uOk]; omega)
                · intro h130
                  refine AW.rS ?_
                  refine AW.c2 ?_ ?_
                  · intro h137
                    refine AW.rSC ?_
                    refine awOps.cons (awGuard.c1 (c_foliantref05_zero ..) ?_)
                    refine awOps.rn ?_
                    refine AW.rt ?_
                    first | (simp_all [useB, uN, uG, uS, uKeys, uKids, uOk, Bool.and_assoc]; done) | (simp_all [useB, uN, uG, uS, uKeys, uKids, uOk]; omega)
                  · intro h137
                    refine AW.rS ?_
                    refine AW.c2 ?_ ?_
                    · intro h144
                      refine AW.rSC ?_
                      refine awOps.cons (awGuard.c1 (c_foliantref05_zero ..) ?_)
                      refine awOps.rn ?_
                      refine AW.rt ?_
                      first | (simp_all [useB, uN, uG, uS, uKeys, uKids, uOk, Bool.and_assoc]; done) | (simp_all [useB, uN, uG, uS, uKeys, uKids, uOk]; omega)
                    · intro h144
                      refine AW.skip ?_
                      refine AW.rS ?_
                      refine AW.rt ?_
                      first | (simp_all [useB, uN, uG, uS, uKeys, uKids, uOk, Bool.and_assoc]; done) | (simp_all [useB, uN, uG, uS, uKeys, uKids, uOk]; omega)
          · intro h114
            refine AW.rL ?_
            refine AW.c2 ?_ ?_
            · intro h155
              refine AW.rSC ?_
              refine awOps.cons (awGuard.c1 (c_foliantref05_zero ..) ?_)
              refine awOps.rn ?_
              refine AW.rt ?_
              first | (simp_all [useB, uN, uG, uS, uKeys, uKids, uOk, Bool.and_assoc]; done) | (simp_all [useB, uN, uG, uS, uKeys, uKids, uOk]; omega)
            · intro h155
              refine AW.rS ?_
              refine AW.c2 ?_ ?_
              · intro h162
                refine AW.rSC ?_
                refine awOps.cons (awGuard.c1 (c_foliantref05_zero ..) ?_)
                refine awOps.rn ?_
                refine AW.rt ?_
                first | (simp_all [useB, uN, uG, uS, uKeys, uKids, uOk, Bool.and_assoc]; done) | (simp_all [useB, uN, uG, uS, uKeys, uKids, uOk]; omega)
              · intro h162
                refine AW.rS ?_
                refine AW.c2 ?_ ?_
                · intro h169
                  refine AW.rSC ?_
                  refine awOps.cons (awGuard.c1 (c_foliantref05_zero ..) ?_)
                  refine awOps.rn ?_
                  refine AW.rt ?_
                  first | (simp_all [useB, uN, uG, uS, uKeys, uKids, uOk, Bool.and_assoc]; done) | (simp_all [useB, uN, uG, uS, uKeys, uKids, uOk]; omega)
                · intro h169
                  refine AW.rS ?_
                  refine AW.c2 ?_ ?_
                  · intro h176
                    refine AW.rSC ?_
                    refine awOps.cons (awGuard.c1 (c_foliantref05_zero ..) ?_)
                    refine awOps.rn ?_
                    refine AW.rt ?_
                    first | (simp_all [useB, uN, uG, uS, uKeys, uKids, uOk, Bool.and_assoc]; done) | (simp_all [useB, uN, uG, uS, uKeys, uKids, uOk]; omega)
                  · intro h176
                    refine AW.rS ?_
                    refine AW.c2 ?_ ?_
                    · intro h183
                      refine AW.rSC ?_
                      refine awOps.cons (awGuard.c1 (c_foliantref05_zero ..) ?_)
                      refine awOps.rn ?_
                      refine AW.rt ?_
                      first | (simp_all [useB, uN, uG, uS, uKeys, uKids, uOk, Bool.and_assoc]; done) | (simp_all [useB, uN, uG, uS, uKeys, uKids, uOk]; omega)
                    · intro h183
                      refine AW.skip ?_
                      refine AW.rS ?_
                      refine AW.rt ?_
                      first | (simp_all [useB, uN, uG, uS, uKeys, uKids, uOk, Bool.and_assoc]; done) | (simp_all [useB, uN, uG, uS, uKeys, uKids, uOk]; omega)
      · intro h104
        refine AW.rL ?_
        refine AW.c2 ?_ ?_
        · intro h194
          refine AW.rSC ?_
          refine awOps.cons (awGuard.c1 (c_foliantref05_zero ..) ?_)
          refine awOps.rn ?_
          refine AW.rt ?_
          first | (simp_all [useB, uN, uG, uS, uKeys, uKids, uOk, Bool.and_assoc]; done) | (simp_all [useB, uN, uG, uS, uKeys, uKids, uOk]; omega)
        · intro h194
          refine AW.seq ?_
          refine AW.rS ?_
          refine AW.c2 ?_ ?_
          · intro h202
            refine AW.skip ?_
            refine AW.c2 ?_ ?_
            · intro h204
              refine AW.rSC ?_
              refine awOps.cons (awGuard.c1 (c_foliantref05_zero ..) ?_)
              refine awOps.rn ?_
              refine AW.rt ?_
              first | (simp_all [useB, uN, uG, uS, uKeys, uKids, uOk, Bool.and_assoc]; done) | (simp_all [useB, uN, uG, uS, uKeys, uKids, uOk]; omega)
            · intro h204
              refine AW.rS ?_
              refine AW.c2 ?_ ?_
              · intro h211
                refine AW.rSC ?_
                refine awOps.cons (awGuard.c1 (c_foliantref05_zero ..) ?_)
                refine awOps.rn ?_
                refine AW.rt ?_
                first | (simp_all [useB, uN, uG, uS, uKeys, uKids, uOk, Bool.and_assoc]; done) | (simp_all [useB, uN, uG, uS, uKeys, uKids, uOk]; omega)
              · intro h211
                refine AW.rS ?_
                refine AW.c2 ?_ ?_
                · intro h218
                  refine AW.rSC ?_
                  refine awOps.cons (awGuard.c1 (c_foliantref05_zero ..) ?_)
                  refine awOps.rn ?_
                  refine AW.rt ?_
                  first | (simp_all [useB, uN, uG, uS, uKeys, uKids, uOk, Bool.and_assoc]; done) | (simp_all [useB, uN, uG, uS, uKeys, uKids, uOk]; omega)
                · intro h218
                  refine AW.rS ?_
                  refine AW.c2 ?_ ?_
                  · intro h225
                    refine AW.rSC ?_
                    refine awOps.cons (awGuard.c1 (c_foliantref05_zero ..) ?_)
                    refine awOps.rn ?_
                    refine AW.rt ?_
                    first | (simp_all [useB, uN, uG, uS, uKeys, uKids, uOk, Bool.and_assoc]; done) | (simp_all [useB, uN, uG, uS, uKeys, uKids, uOk]; omega)
                  · intro h225
                    refine AW.rS ?_
                    refine AW.c2 ?_ ?_
                    · intro h232
                      refine AW.rSC ?_
                      refine awOps.cons (awGuard.c1 (c_foliantref05_zero ..) ?_)
                      refine awOps.rn ?_
                      refine AW.rt ?_
                      first | (simp_all [useB, uN, uG, uS, uKeys, uKids, uOk, Bool.and_assoc]; done) | (simp_all [useB, uN, uG, uS, uKeys, uKids, uOk]; omega)
                    · intro h232
                      refine AW.skip ?_
                      refine AW.rS ?_
                      refine AW.rt ?_
                      first | (simp_all [useB, uN, uG, uS, uKeys, uKids, uOk, Bool.and_assoc]; done) | (simp_all [useB, uN, uG, uS, uKeys, uKids, uOk]; omega)
          · intro h202
            refine AW.rL ?_
            refine AW.c2 ?_ ?_
            · intro h243
              refine AW.rSC ?_
              refine awOps.cons (awGuard.c1 (c_foliantref05_zero ..) ?_)
              refine awOps.rn ?_
              refine AW.rt ?_
              first | (simp_all [useB, uN, uG, uS, uKeys, uKids, uOk, Bool.and_assoc]; done) | (simp_all [useB, uN, uG, uS, uKeys, uKids, uOk]; omega)
            · intro h243
              refine AW.rS ?_
              refine AW.c2 ?_ ?_
              · intro h250
                refine AW.rSC ?_
                refine awOps.cons (awGuard.c1 (c_foliantref05_zero ..) ?_)
                refine awOps.rn ?_
                refine AW.rt ?_
                first | (simp_all [useB, uN, uG, uS, uKeys, uKids, uOk, Bool.and_assoc]; done) | (simp_all [useB, uN, uG, uS, uKeys, uKids, uOk]; omega)
              · intro h250
                refine AW.rS ?_
                refine AW.c2 ?_ ?_
                · intro h257
                  refine AW.rSC ?_
                  refine awOps.cons (awGuard.c1 (c_foliantref05_zero ..) ?_)
                  refine awOps.rn ?_
                  refine AW.rt ?_
                  first | (simp_all [useB, uN, uG, uS, uKeys, uKids, uOk, Bool.and_assoc]; done) | (simp_all [useB, uN, uG, uS, uKeys, uKids, uOk]; omega)
                · intro h257
                  refine AW.rS ?_
                  refine AW.c2 ?_ ?_
                  · intro h264
                    refine AW.rSC ?_
                    refine awOps.cons (awGuard.c1 (c_foliantref05_zero ..) ?_)
                    refine awOps.rn ?_
                    refine AW.rt ?_
                    first | (simp_all [useB, uN, uG, uS, uKeys, uKids, uOk, Bool.and_assoc]; done) | (simp_all [useB, uN, uG, uS, uKeys, uKids, uOk]; omega)
                  · intro h264
                    refine AW.rS ?_
                    refine AW.c2 ?_ ?_
                    · intro h271
                      refine AW.rSC ?_
                      refine awOps.cons (awGuard.c1 (c_foliantref05_zero ..) ?_)
                      refine awOps.rn ?_
                      refine AW.rt ?_
                      first | (simp_all [useB, uN, uG, uS, uKeys, uKids, uOk, Bool.and_assoc]; done) | (simp_all [useB, uN, uG, uS, uKeys, uKids, uOk]; omega)
                    · intro h271
                      refine AW.skip ?_
                      refine AW.rS ?_
                      refine AW.rt ?_
                      first | (simp_all [useB, uN, uG, uS, uKeys, uKids, uOk, Bool.and_assoc]; done) | (simp_all [useB, uN, uG, uS, uKeys, uKids, uOk]; omega)
theorem c_foliantref05_fits (gl : List (Nat × AV)) (o : Pob) : FnP Tryz.prog (gl) 116 [.agg o.cells] fun r => r = .ret (.bool (fitsB o)) := by
  refine FnP.intro Tryz.func116 rfl rfl (by simp [Tryz.ntmps116]) ?_
  simp only [argEnv, Tryz.ntmps116, Tryz.results116]
  refine AW.rS ?_
  refine AW.seq ?_
  refine AW.rS ?_
  refine AW.block ?_
  refine AW.rS ?_
  refine AW.c2 ?_ ?_
  · intro h6
    refine AW.rS ?_
    refine AW.rt ?_
    first | (simp_all [fitsB, Bool.and_assoc]; done) | (simp_all only [fitsB]; simp; rw [Bool.eq_iff_iff]; simp; omega)
  · intro h6
    refine AW.rS ?_
    refine AW.c2 ?_ ?_
    · intro h11
      refine AW.rS ?_
      refine AW.rt ?_
      first | (simp_all [fitsB, Bool.and_assoc]; done) | (simp_all only [fitsB]; simp; rw [Bool.eq_iff_iff]; simp; omega)
    · intro h11
      refine AW.rS ?_
      refine AW.c2 ?_ ?_
      · intro h16
        refine AW.rS ?_
        refine AW.rt ?_
        first | (simp_all [fitsB, Bool.and_assoc]; done) | (simp_all only [fitsB]; simp; rw [Bool.eq_iff_iff]; simp; omega)
      · intro h16
        refine AW.rS ?_
        refine AW.c2 ?_ ?_
        · intro h21
          refine AW.rS ?_
          refine AW.rt ?_
          first | (simp_all [fitsB, Bool.and_assoc]; done) | (simp_all only [fitsB]; simp; rw [Bool.eq_iff_iff]; simp; omega)
        · intro h21
          refine AW.skip ?_
          refine AW.rS ?_
          refine AW.rt ?_
          first | (simp_all [fitsB, Bool.and_assoc]; done) | (simp_all only [fitsB]; simp; rw [Bool.eq_iff_iff]; simp; omega)
theorem c_foliantref05_long (gl : List (Nat × AV)) (k : Int) : FnP Tryz.prog (gl) 117 [.int .i64 k] fun r => r = .ret (.int .i64 (longN k)) := by
  refine FnP.intro Tryz.func117 rfl rfl (by simp [Tryz.ntmps117]) ?_
  simp only [argEnv, Tryz.ntmps117, Tryz.results117]
  refine AW.rS ?_
  refine AW.seq ?_
  refine AW.rS ?_
  refine AW.c2 ?_ ?_
  · intro h4
    refine AW.rS ?_
    refine AW.rt ?_
    simp_all [longN]
  · intro h4
    refine AW.skip ?_
    refine AW.seq ?_
    refine AW.rS ?_
    refine AW.c2 ?_ ?_
    · intro h11
      refine AW.rS ?_
      refine AW.rt ?_
      simp_all [longN]
    · intro h11
      refine AW.skip ?_
      refine AW.rS ?_
      refine AW.rt ?_
      simp_all [longN]
end Go.Proofs

namespace Go.Proofs
open Go Aw
set_option linter.unusedSimpArgs false
set_option linter.unusedVariables false
set_option maxRecDepth 100000
set_option maxHeartbeats 2000000
attribute [local go_sem] take_strsAV drop_strsAV app_strsAV app1_strsAV take_intsAV drop_intsAV app_intsAV app1_intsAV take_objsAV drop_objsAV app_objsAV app1_objsAV

theorem c_foliantref05_keys (gl : List (Nat × AV)) (o : Pob) (h : o.tot ≤ 16777216) : FnP Tryz.prog (gl) 118 [.agg o.cells] fun r => r = .ret (.bool (formB o)) := by
  refine FnP.intro Tryz.func118 rfl rfl (by simp [Tryz.ntmps118]) ?_
  simp only [argEnv, Tryz.ntmps118, Tryz.results118]
  have hb := Pob.bulk_tot o
  have hbe := Pob.bulk_eq o
  have hts := Pob.tot_str o
  refine AW.rS ?_
  refine AW.seq ?_
  refine AW.rS ?_
  refine AW.c2 ?_ ?_
  · intro h4
    refine AW.rSC ?_
    refine awOps.cons (awGuard.c1 (c_foliantref05_Name _ o.str (by omega)) ?_)
    refine awOps.rn ?_
    refine AW.rt ?_
    rw [form_name h4]
  · intro h4
    refine AW.skip ?_
    refine AW.seq ?_
    refine AW.rS ?_
    refine AW.c2 ?_ ?_
    · intro h13
      refine AW.rS ?_
      refine AW.rt ?_
      · rw [form_none h4 h13.1 h13.2]
      all_goals first | contradiction | rfl | (simp; done) | (simp; omega)
    · intro h13
      have h79 : o.kind = 7 ∨ o.kind = 9 := by omega
      rw [form_keys h79]
      refine AW.skip ?_
      refine AW.seq ?_
      refine AW.rS ?_
      refine AW.c2 ?_ ?_
      · intro h20
        refine AW.rS ?_
        refine AW.rt ?_
        rw [rising_no (fun h' => h20 (by have := h'.1; omega))]
      · intro h20
        refine AW.skip ?_
        refine AW.seq ?_
        refine AW.rS ?_
        refine AW.block ?_
        refine AW.lk (S := { i : Nat // i ≤ o.keys.length ∧ ∀ j, j < i → okKey o j }) [1, 27, 28] (fun s_ => [(29, .int .i64 s_.1)]) (fun s_ => [(0, .cells o.cells)]) 1 (fun s_ => o.keys.length - s_.1) ⟨0, Nat.zero_le _, fun j h => absurd h (by omega)⟩ ?_ ?_
        · refine St.le.vw [0]
        rintro ⟨i, hi, hs⟩
        try dsimp only at hi
        try dsimp only at hs
        refine AW.rS ?_
        refine AW.seq ?_
        refine AW.c2 ?_ ?_
        · intro h31
          have hkt := Pob.tot_key (o := o) h31
          refine AW.skip ?_
          refine AW.seq ?_
          refine AW.block ?_
          refine AW.rS ?_
          refine AW.rSC ?_
          refine awOps.cons (awGuard.c1 (c_foliantref05_Name _ (o.keys.getD i []) (by omega)) ?_)
          refine awOps.rn ?_
          refine AW.c2 ?_ ?_
          · intro h39
            refine AW.rS ?_
            refine AW.rt ?_
            rw [rising_no (fun h' => ?_)]
            obtain ⟨k1, k2, k3, k4⟩ := h'.2 i h31
            rcases h39 with ((h | ⟨hi0, h | h⟩) | ⟨h, h9⟩) | h
            · rw [k1] at h; cases h
            · have := bl_asymm (k2 (by omega)); rw [h] at this; cases this
            · have := k2 (by omega); rw [← h, bl_irrefl] at this; cases this
            · exact k3 ⟨h9, h⟩
            · exact k4 h
          · intro h39
            have hok : okKey o i := by
              refine ⟨h39.1.1.1, fun hi0 => ?_, ?_, h39.2⟩
              · rcases h39.1.1.2 with h | ⟨h, h'⟩
                · omega
                · rcases bl_total (o.keys.getD (i - 1) []) (o.keys.getD i []) with e | e | e
                  · exact absurd e.symm h'
                  · exact e
                  · rw [h] at e; cases e
              · rintro ⟨h9, hL⟩
                rcases h39.1.2 with h | h
                · exact h hL
                · exact h h9
            refine AW.skip ?_
            refine AW.rL ?_
            refine ⟨⟨i + 1, by omega, fun j hj => (Nat.lt_or_ge j i).elim (hs j) (fun h => (show j = i by omega) ▸ hok)⟩, ?_, ?_⟩
            · refine St.le.vw [0]
            · simp only []; omega
        · intro h31
          refine AW.exit ?_
          refine AW.rS ?_
          refine AW.rt ?_
          rw [rising_yes ⟨by omega, fun j hj => hs j (by omega)⟩]
theorem rcheck_step (gl : List (Nat × AV)) (N : Nat) (hN : N ≤ 16777216) (ih : ∀ (o' : Pob) (d' : Int), o'.tot < N → 1 ≤ d' → d' ≤ 25 → FnP Tryz.prog gl 83 [.agg o'.cells, .int .i64 d'] fun r => r = .ret (.int .i64 (chk o' d'))) (o : Pob) (d : Int) (ho : o.tot ≤ N) (hd : 1 ≤ d) (hd2 : d ≤ 25) : FnP Tryz.prog (gl) 83 [.agg o.cells, .int .i64 d] fun r => r = .ret (.int .i64 (chk o d)) := by
  refine FnP.intro Tryz.func83 rfl rfl (by simp [Tryz.ntmps83]) ?_
  simp only [argEnv, Tryz.ntmps83, Tryz.results83]
  have hb := Pob.bulk_tot o
  have hbe := Pob.bulk_eq o
  have hts := Pob.tot_str o
  refine AW.rS ?_
  refine AW.seq ?_
  refine AW.rS ?_
  refine AW.c2 ?_ ?_
  · intro h4
    refine AW.rS ?_
    refine AW.rt ?_
    rw [own_deep (by omega)]
  · intro h4
    refine AW.skip ?_
    refine AW.seq ?_
    refine AW.rSC ?_
    refine awOps.cons (awGuard.c1 (c_foliantref05_uses _ o) ?_)
    refine awOps.rn ?_
    refine AW.c2 ?_ ?_
    · intro h13
      refine AW.rS ?_
      refine AW.rt ?_
      rw [own_use (by omega) (by rw [use_split]; rcases h13 with h | ⟨h, h'⟩; simp [h]; simp [h, show ¬ d = 1 by omega])]
    · intro h13
      have hu : useB o d = true := by rw [use_split, h13.1]; rcases h13.2 with h | h; simp [h]; simp [show d = 1 by omega]
      have hu1 : useB o 1 = true := h13.1
      refine AW.skip ?_
      refine AW.seq ?_
      refine AW.rSC ?_
      refine awOps.cons (awGuard.c1 (c_foliantref05_fits _ o) ?_)
      refine awOps.rn ?_
      refine AW.c2 ?_ ?_
      · intro h22
        refine AW.rS ?_
        refine AW.rt ?_
        rw [own_fits (by omega) hu h22]
      · intro h22
        have hf : fitsB o = true := h22
        refine AW.skip ?_
        refine AW.seq ?_
        refine AW.fS [0, 1, 2, 3, 4, 5, 6] [] ?_
        refine awFun.rn ?_
        refine awFun.c1 [29] (c_foliantref05_long _ o.kind) ?_
        refine awFun.rn ?_
        rw [Aw.awFun_nil, Aw.awPlan_nil]
        refine AW.c2 ?_ ?_
        · intro h33
          refine AW.rS ?_
          refine AW.rt ?_
          rw [own_long (by omega) hu hf (by rw [short_ref hu1]; simp; omega)]
        · intro h33
          have hsh : shortB o = true := by rw [short_ref hu1]; simpa using h33
          refine AW.skip ?_
          refine AW.seq ?_
          refine AW.rS ?_
          refine AW.c2 ?_ ?_
          · intro h40
            refine AW.rS ?_
            refine AW.rt ?_
            rw [own_many (by omega) hu hf hsh (by omega)]
          · intro h40
            refine AW.skip ?_
            refine AW.seq ?_
            refine AW.rSC ?_
            refine awOps.cons (awGuard.c1 (c_foliantref05_keys _ o (by omega)) ?_)
            refine awOps.rn ?_
            refine AW.c2 ?_ ?_
            · intro h49
              refine AW.rS ?_
              refine AW.rt ?_
              rw [own_form (by omega) hu hf hsh (by omega) h49]
            · intro h49
              have hfo : formB o = true := h49
              refine AW.skip ?_
              refine AW.seq ?_
              refine AW.rS ?_
              refine AW.block ?_
              refine AW.lk (S := { i : Nat // i ≤ o.kids.length ∧ chkL o.kids (d + 1) = chkL (o.kids.drop i) (d + 1) }) [1, 40, 41] (fun s_ => [(42, .int .i64 s_.1)]) (fun s_ => [(0, .cells o.cells)]) 1 (fun s_ => o.kids.length - s_.1) ⟨0, Nat.zero_le _, rfl⟩ ?_ ?_
              · refine St.le.vw [0]
              rintro ⟨i, hi, hs⟩
              try dsimp only at hi
              try dsimp only at hs
              refine AW.rS ?_
              refine AW.seq ?_
              refine AW.c2 ?_ ?_
              · intro h60
                have hkt := Pob.tot_kid (o := o) h60
                refine AW.skip ?_
                refine AW.seq ?_
                refine AW.block ?_
                refine AW.rS ?_
                refine AW.rSC ?_
                refine awOps.cons (awGuard.c1 (ih (o.kids.getD i Pob.null) (d + 1) (by omega) (by omega) (by omega)) ?_)
                refine awOps.rn ?_
                refine AW.rS ?_
                refine AW.c2 ?_ ?_
                · intro h69
                  refine AW.rS ?_
                  refine AW.rt ?_
                  rw [own_ok (by omega) hu hf hsh (by omega) hfo, hs, chkL_drop h60, if_neg h69]
                · intro h69
                  refine AW.skip ?_
                  refine AW.rL ?_
                  refine ⟨⟨i + 1, by omega, by rw [hs, chkL_drop h60, if_pos h69]⟩, ?_, ?_⟩
                  · refine St.le.vw [0]
                  · simp only []; omega
              · intro h60
                refine AW.exit ?_
                refine AW.rS ?_
                refine AW.rt ?_
                rw [own_ok (by omega) hu hf hsh (by omega) hfo, hs, List.drop_of_length_le (by omega)]
                with_unfolding_all rfl
theorem rcheck_all (gl : List (Nat × AV)) (N : Nat) : N ≤ 16777216 → ∀ (o : Pob) (d : Int), o.tot ≤ N → 1 ≤ d → d ≤ 25 → FnP Tryz.prog gl 83 [.agg o.cells, .int .i64 d] fun r => r = .ret (.int .i64 (chk o d)) := by
  induction N using Nat.strongRecOn with
  | ind N IH => exact fun hN o d ho hd hd2 => rcheck_step gl N hN (fun o' d' h h1 h2 => IH o'.tot h (by omega) o' d' (Nat.le_refl _) h1 h2) o d ho hd hd2
theorem c_foliantref05_Check (gl : List (Nat × AV)) (o : Pob) (h : o.tot ≤ 16777216) : FnP Tryz.prog (gl) 49 [.agg o.cells] fun r => r = .ret (.int .i64 (chk o 1)) := by
  refine FnP.intro Tryz.func49 rfl rfl (by simp [Tryz.ntmps49]) ?_
  simp only [argEnv, Tryz.ntmps49, Tryz.results49]
  refine AW.rS ?_
  refine AW.rSC ?_
  refine awOps.cons (awGuard.c1 (rcheck_all _ 16777216 (Nat.le_refl _) o 1 h (by omega) (by omega)) ?_)
  refine awOps.rn ?_
  refine AW.rt ?_
  all_goals first | contradiction | rfl | (simp; done) | (simp; omega)
theorem c_foliantref05_right (gl : List (Nat × AV)) (o : Pob) (h : o.tot ≤ 16777216) : FnP Tryz.prog (gl) 84 [.agg o.cells] fun r => r = .ret (.tup [.agg (if chk o 1 = 0 then o else Pob.null).cells, .int .i64 (chk o 1)]) := by
  refine FnP.intro Tryz.func84 rfl rfl (by simp [Tryz.ntmps84]) ?_
  simp only [argEnv, Tryz.ntmps84, Tryz.results84]
  refine AW.rS ?_
  refine AW.seq ?_
  refine AW.rSC ?_
  refine awOps.cons (awGuard.c1 (c_foliantref05_Check _ o h) ?_)
  refine awOps.rn ?_
  refine AW.rS ?_
  refine AW.c2 ?_ ?_
  · intro h7
    refine AW.rS ?_
    refine AW.rt ?_
    rw [if_neg h7]; rfl
  · intro h7
    refine AW.skip ?_
    refine AW.rS ?_
    refine AW.rt ?_
    rw [if_pos h7, h7]
theorem c_foliantref05_put (gl : List (Nat × AV)) (o : Pob) (key : List UInt8) (v : Pob) (h : o.bulk ≤ 16777000) (hl : o.keys.length = o.kids.length) : FnP Tryz.prog (gl) 85 [.agg o.cells, .str key, .agg v.cells] fun r => r = .ret (.agg (o.withK key v).cells) := by
  refine FnP.intro Tryz.func85 rfl rfl (by simp [Tryz.ntmps85]) ?_
  simp only [argEnv, Tryz.ntmps85, Tryz.results85]
  have hbe := Pob.bulk_eq o
  have hkp := kplace_le o.keys key
  refine AW.rS ?_
  refine AW.rSC ?_
  refine awOps.cons (awGuard.c1 (c_foliantref05_place _ o.keys key (by omega)) ?_)
  refine awOps.rn ?_
  refine AW.rS ?_
  refine AW.rS ?_
  refine AW.rS ?_
  refine AW.rS ?_
  refine AW.seq ?_
  refine AW.rS ?_
  refine AW.c2 ?_ ?_
  · intro h11
    have hkl := kthere_lt h11
    refine AW.rL ?_
    refine AW.rS ?_
    refine AW.rS ?_
    refine AW.rS ?_
    refine AW.rt ?_
    rw [put_there hl h11, take_len2, take_len2]
    exact ⟨⟨by simp, by simp⟩, rfl⟩
  · intro h11
    refine AW.skip ?_
    refine AW.rS ?_
    refine AW.rS ?_
    refine AW.rS ?_
    refine AW.rt ?_
    rw [put_new (by simpa using h11), take_len2, take_len2]
    exact ⟨⟨by simp, by simp⟩, rfl⟩
attribute [local go_sem] woK_zero
theorem c_foliantref05_without (gl : List (Nat × AV)) (o : Pob) (key : List UInt8) (h : o.bulk ≤ 16777000) (hs : o.kvOk) : FnP Tryz.prog (gl) 66 [.agg o.cells, .str key] fun r => r = .ret (.agg (Pob.mk o.kind o.num o.gen o.str (woK o.keys key o.keys o.keys.length) (woK o.keys key o.kids o.keys.length)).cells) := by
  refine FnP.intro Tryz.func66 rfl rfl (by simp [Tryz.ntmps66]) ?_
  simp only [argEnv, Tryz.ntmps66, Tryz.results66]
  have hbe := Pob.bulk_eq o
  have hl := hs.2
  refine AW.rS ?_
  refine AW.rS ?_
  refine AW.rS ?_
  refine AW.seq ?_
  refine AW.rS ?_
  refine AW.block ?_
  refine AW.pre (St.le.nilrow 5 1 (by (simp only [go_sem, seval]; try (simp (disch := omega) only [zqa, zqb, zqc, zqd, zqe, zqf, zqg, zqh, zqi, zqj, zqk, zql, zqm, zqn, zqo, zqp, zqq, zqr, zqs]; try (simp only [go_sem, seval]; try (simp (disch := omega) only [zqa, zqb, zqc, zqd, zqe, zqf, zqg, zqh, zqi, zqj, zqk, zql, zqm, zqn, zqo, zqp, zqq, zqr, zqs]; try simp only [go_sem, seval])))))) ?_
  refine wk ?_
  refine AW.pre (St.le.nilrow 6 6 (by (simp only [go_sem, seval]; try (simp (disch := omega) only [zqa, zqb, zqc, zqd, zqe, zqf, zqg, zqh, zqi, zqj, zqk, zql, zqm, zqn, zqo, zqp, zqq, zqr, zqs]; try (simp only [go_sem, seval]; try (simp (disch := omega) only [zqa, zqb, zqc, zqd, zqe, zqf, zqg, zqh, zqi, zqj, zqk, zql, zqm, zqn, zqo, zqp, zqq, zqr, zqs]; try simp only [go_sem, seval])))))) ?_
  refine wk ?_
  refine AW.lk (S := { i : Nat // i ≤ o.keys.length }) [1, 2, 4, 10] (fun s_ => [(5, .row 2 0 (woK o.keys key o.keys s_.1).length), (6, .row 3 0 (woK o.keys key o.kids s_.1).length), (11, .int .i64 s_.1)]) (fun s_ => [(0, .cells o.cells), (1, .cells [.int .i64 0, .int .i64 0, .int .i64 0, .str [], .raw (.slice none 0 0), .raw (.slice none 0 0)]), (2, .row 1 (strsAV (woK o.keys key o.keys s_.1)) true), (3, .row 6 (objsAV (woK o.keys key o.kids s_.1)) true)]) 4 (fun s_ => o.keys.length - s_.1) ⟨0, Nat.zero_le _⟩ ?_ ?_
  · refine St.le.vw [0, 1, 2, 3]
  rintro ⟨i, hi⟩
  try dsimp only at hi
  refine AW.rS ?_
  refine AW.seq ?_
  refine AW.c2 ?_ ?_
  · intro h10
    have w1 := woK_len o.keys key o.keys i
    have w2 := woK_len o.keys key o.kids i
    refine AW.skip ?_
    refine AW.seq ?_
    refine AW.block ?_
    refine AW.rS ?_
    refine AW.rS ?_
    refine AW.c2 ?_ ?_
    · intro h16
      have e1 := woK_keep (l := o.keys) (x := []) hs.1 (i := i) (key := key) h10 h10 (by first | exact h16.1 | exact h16)
      have e2 := woK_keep (l := o.kids) (x := Pob.null) hs.1 (i := i) (key := key) h10 (by omega) (by first | exact h16.1 | exact h16)
      have f1 := congrArg List.length e1
      have f2 := congrArg List.length e2
      rw [List.length_append, List.length_singleton] at f1 f2
      refine AW.rS ?_
      refine AW.rL ?_
      refine AW.rL ?_
      refine ⟨⟨i + 1, by omega⟩, ?_, ?_⟩
      · refine St.le.vx [0, 1, 5, 7] ?_
        rw [e1, e2]; simp [strsAV, objsAV]
      · simp only []; omega
    · intro h16
      have e1 := woK_skip (l := o.keys) hs.1 (i := i) (key := key) h10 (by rcases h16 with h | h; exact h; omega)
      have e2 := woK_skip (l := o.kids) hs.1 (i := i) (key := key) h10 (by rcases h16 with h | h; exact h; omega)
      have f1 := congrArg List.length e1
      have f2 := congrArg List.length e2
      refine AW.skip ?_
      refine AW.rL ?_
      refine ⟨⟨i + 1, by omega⟩, ?_, ?_⟩
      · refine St.le.vx [0, 1, 2, 3] ?_
        rw [e1, e2]; exact ⟨rfl, rfl⟩
      · simp only []; omega
  · intro h10
    refine AW.exit ?_
    refine AW.rS ?_
    refine AW.rS ?_
    refine AW.rS ?_
    refine AW.rt ?_
    obtain rfl : i = o.keys.length := by omega
    rfl
end Go.Proofs

namespace Go.Proofs
open Go Aw
set_option linter.unusedSimpArgs false
set_option linter.unusedVariables false
set_option maxRecDepth 100000
set_option maxHeartbeats 2000000
attribute [local go_sem] take_strsAV drop_strsAV app_strsAV app1_strsAV take_intsAV drop_intsAV app_intsAV app1_intsAV take_objsAV drop_objsAV app_objsAV app1_objsAV

theorem c_foliantref05_Get (gl : List (Nat × AV)) (o : Pob) (key : List UInt8) (h : o.bulk ≤ 16777216) : FnP Tryz.prog (gl) 24 [.agg o.cells, .str key] fun r => r = .ret (.tup [.agg (getO o key).cells, .bool (getB o key)]) := by
  refine FnP.intro Tryz.func24 rfl rfl (by simp [Tryz.ntmps24]) ?_
  simp only [argEnv, Tryz.ntmps24, Tryz.results24]
  have hbe := Pob.bulk_eq o
  refine AW.rS ?_
  refine AW.seq ?_
  refine AW.rS ?_
  refine AW.c2 ?_ ?_
  · intro h4
    refine AW.rS ?_
    refine AW.rt ?_
    have hg := get_unkeyed (o := o) (key := key) (by simp [keyedB, h4.1, h4.2])
    rw [hg.1, hg.2]; rfl
  · intro h4
    refine AW.skip ?_
    refine AW.seq ?_
    refine AW.rS ?_
    refine AW.block ?_
    refine AW.lk (S := { i : Nat // i ≤ o.keys.length ∧ ∀ j, j < i → o.keys.getD j [] ≠ key }) [1, 2, 4, 18, 19] (fun s_ => [(20, .int .i64 s_.1)]) (fun s_ => [(0, .cells o.cells), (1, .cells [.int .i64 0, .int .i64 0, .int .i64 0, .str [], .raw (.slice none 0 0), .raw (.slice none 0 0)])]) 2 (fun s_ => o.keys.length - s_.1) ⟨0, Nat.zero_le _, fun j h => absurd h (by omega)⟩ ?_ ?_
    · refine St.le.vw [0, 1]
    rintro ⟨i, hi, hs⟩
    try dsimp only at hi
    try dsimp only at hs
    refine AW.rS ?_
    refine AW.seq ?_
    refine AW.c2 ?_ ?_
    · intro h15
      refine AW.skip ?_
      refine AW.seq ?_
      refine AW.block ?_
      refine AW.rS ?_
      refine AW.rS ?_
      refine AW.c2 ?_ ?_
      · intro h21
        have hkx := kidx_hit h15 hs h21.symm
        refine AW.seq ?_
        refine AW.rS ?_
        refine AW.c2 ?_ ?_
        · intro h24
          refine AW.rS ?_
          refine AW.rt ?_
          have hg := get_miss (o := o) (key := key) (by rw [hkx]; omega)
          rw [hg.1, hg.2]; rfl
        · intro h24
          refine AW.skip ?_
          refine AW.rS ?_
          refine AW.rt ?_
          have hg := get_hit (o := o) (key := key) (by simp only [keyedB]; simp; omega) (by rw [hkx]; omega)
          rw [hg.1, hg.2, hkx]
          rfl
      · intro h21
        refine AW.skip ?_
        refine AW.rL ?_
        refine ⟨⟨i + 1, by omega, fun j hj => (Nat.lt_or_ge j i).elim (hs j) (fun h => (show j = i by omega) ▸ h21)⟩, ?_, ?_⟩
        · refine St.le.vw [0, 1]
        · simp only []; omega
    · intro h15
      refine AW.exit ?_
      refine AW.rS ?_
      refine AW.rt ?_
      have hg := get_miss (o := o) (key := key) (by rw [kidx_miss (fun j hj => hs j (by omega))]; omega)
      rw [hg.1, hg.2]; rfl
theorem c_ref_lessO (gl : List (Nat × AV)) (o : Pob) (key : List UInt8) (h : o.bulk ≤ 16777000) (hk : keyedB o.kind = true) (hc : chk o 1 = 0) : FnP Tryz.prog gl 66 [.agg o.cells, .str key] fun r => r = .ret (.agg (dropO o key).cells) := by
  rw [← woK_all (key := key) (kvOk_of_chk hc hk) (by simp [dropB, hk, hc])]
  exact c_foliantref05_without gl o key h (kvOk_of_chk hc hk)
theorem c_foliantref05_Drop (gl : List (Nat × AV)) (o : Pob) (key : List UInt8) (h : o.tot ≤ 16777000) : FnP Tryz.prog (gl) 26 [.agg o.cells, .str key] fun r => r = .ret (.agg (dropO o key).cells) := by
  refine FnP.intro Tryz.func26 rfl rfl (by simp [Tryz.ntmps26]) ?_
  simp only [argEnv, Tryz.ntmps26, Tryz.results26]
  have hb := Pob.bulk_tot o
  refine AW.rS ?_
  refine AW.seq ?_
  refine AW.rSC ?_
  refine awOps.cons (awGuard.cG (fun hg => c_foliantref05_Check _ o (by omega)) ?_)
  refine awOps.rn ?_
  refine AW.c2 ?_ ?_
  · intro h6
    refine AW.rS ?_
    refine AW.rt ?_
    rw [dropO_no (by rcases h6 with h | h; simp [dropB, keyedB, h.1, h.2]; simp [dropB, h])]
  · intro h6
    have hk : keyedB o.kind = true := by simp only [keyedB]; simp; exact h6.1
    refine AW.skip ?_
    refine AW.rSC ?_
    refine awOps.cons (awGuard.c1 (c_ref_lessO _ o key (by omega) hk h6.2) ?_)
    refine awOps.rn ?_
    refine AW.rt ?_
    all_goals first | contradiction | rfl | (simp; done) | (simp; omega)
theorem c_foliantref05_Set (gl : List (Nat × AV)) (o : Pob) (key : List UInt8) (v : Pob) (h : o.tot + v.tot + key.length ≤ 16777000) : FnP Tryz.prog (gl) 50 [.agg o.cells, .str key, .agg v.cells] fun r => r = .ret (.tup [.agg (setO o key v).cells, .int .i64 (setE o key v)]) := by
  refine FnP.intro Tryz.func50 rfl rfl (by simp [Tryz.ntmps50]) ?_
  simp only [argEnv, Tryz.ntmps50, Tryz.results50]
  have hb := Pob.bulk_tot o
  have hwt := withK_tot o key v
  refine AW.rS ?_
  refine AW.seq ?_
  refine AW.rS ?_
  refine AW.c2 ?_ ?_
  · intro h4
    refine AW.rS ?_
    refine AW.rt ?_
    have hu := set_unkeyed (o := o) (v := v) (key := key) (by simp [keyedB, h4.1, h4.2])
    rw [hu.1, hu.2]; rfl
  · intro h4
    have hk : keyedB o.kind = true := by simp only [keyedB]; simp; omega
    refine AW.skip ?_
    refine AW.seq ?_
    refine AW.rSC ?_
    refine awOps.cons (awGuard.c1 (c_foliantref05_Check _ o (by omega)) ?_)
    refine awOps.rn ?_
    refine AW.rS ?_
    refine AW.c2 ?_ ?_
    · intro h14
      refine AW.rS ?_
      refine AW.rt ?_
      have hu := set_bad (v := v) (key := key) hk h14
      rw [hu.1, hu.2]; rfl
    · intro h14
      have hs := kvOk_of_chk h14 hk
      refine AW.skip ?_
      refine AW.seq ?_
      refine AW.rS ?_
      refine AW.c2 ?_ ?_
      · intro h21
        refine AW.rSC ?_
        refine awOps.cons (awGuard.c1 (c_ref_lessO _ o key (by omega) hk h14) ?_)
        refine awOps.rn ?_
        refine AW.rt ?_
        have hu := set_null (v := v) (key := key) hk h14 h21
        rw [hu.1, hu.2]
      · intro h21
        refine AW.skip ?_
        refine AW.rSC ?_
        refine awOps.cons (awGuard.c1 (c_foliantref05_put _ o key v (by omega) hs.2) ?_)
        refine awOps.rn ?_
        refine awOps.cons (awGuard.c1 (c_foliantref05_right _ (o.withK key v) (by omega)) ?_)
        refine awOps.rn ?_
        refine AW.rt ?_
        have hu := set_val (key := key) hk h14 h21
        rw [hu.1, hu.2]
end Go.Proofs
