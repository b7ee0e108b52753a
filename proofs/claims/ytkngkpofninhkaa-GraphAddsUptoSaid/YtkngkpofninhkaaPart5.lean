/- A part of the proof: no condition of its own. -/
import Derived.Test.YtkngkpofninhkaaPart4
namespace Go.Proofs
open Go Aw
set_option linter.unusedSimpArgs false
set_option linter.unusedVariables false
set_option maxRecDepth 100000
set_option maxHeartbeats 1000000
attribute [local go_sem ↓ high] noTBm_net
theorem wu_step (gl : List (Nat × AV)) (l : List Itm) (num user : Int) (o0 : Pob) (stp : List Int → Pob → List Int × Bool) (c0 : Code) (I : List Int → Prop) (hI : ∀ s o, I s → I (stp s o).1) (lq : Nat) (rc : Option Code → Loop) {Ω : Mem → Prop} [LastsU Ω]
    (hY : ∀ s o, I s → RoundU Ω Try.prog gl lq [.agg (Pob.cells o)] ([(0, .cells [.map 1]), (1, mapOf KI VI (netL l)), (2, .cells [.int .i64 num]), (3, .cells [.map 4]), (4, setOf (fun n => AV.int .i64 n) s), (5, .cells [.int .i64 user]), (6, .cells (Pob.cells o0)), (7, .lp lq (rc none))]) 8 8 fun r h n => r = .ret (.bool (!(stp s o).2)) ∧ h = [(0, .cells [.map 1]), (1, mapOf KI VI (netL l)), (2, .cells [.int .i64 num]), (3, .cells [.map 4]), (4, setOf (fun n => AV.int .i64 n) (stp s o).1), (5, .cells [.int .i64 user]), (6, .cells (Pob.cells o0)), (7, .lp lq (rc (if (stp s o).2 then some c0 else none)))] ∧ n = 8)
    (N : Nat) (hN : N ≤ 16777216) (ih : ∀ s (o' : Pob), I s → o'.bulk < N → FnU Ω Try.prog gl 45 [.agg (Pob.cells o'), .raw (.func (.yield lq) #[] #[])] ([(0, .cells [.map 1]), (1, mapOf KI VI (netL l)), (2, .cells [.int .i64 num]), (3, .cells [.map 4]), (4, setOf (fun n => AV.int .i64 n) s), (5, .cells [.int .i64 user]), (6, .cells (Pob.cells o0)), (7, .lp lq (rc none))]) 8 8 (fun r h n => r = .ret (.bool (!(walkR stp s (Pob.pre o')).2)) ∧ h = [(0, .cells [.map 1]), (1, mapOf KI VI (netL l)), (2, .cells [.int .i64 num]), (3, .cells [.map 4]), (4, setOf (fun n => AV.int .i64 n) (walkR stp s (Pob.pre o')).1), (5, .cells [.int .i64 user]), (6, .cells (Pob.cells o0)), (7, .lp lq (rc (if (walkR stp s (Pob.pre o')).2 then some c0 else none)))] ∧ n = 8))
    (s : List Int) (hs : I s) (o : Pob) (hl : o.kids.length ≤ 16777216) (hb : ∀ i, i < o.kids.length → (o.kids.getD i Pob.null).bulk < N) :
    FnU Ω Try.prog gl 45 [.agg (Pob.cells o), .raw (.func (.yield lq) #[] #[])] ([(0, .cells [.map 1]), (1, mapOf KI VI (netL l)), (2, .cells [.int .i64 num]), (3, .cells [.map 4]), (4, setOf (fun n => AV.int .i64 n) s), (5, .cells [.int .i64 user]), (6, .cells (Pob.cells o0)), (7, .lp lq (rc none))]) 8 8 (fun r h n => r = .ret (.bool (!(walkR stp s (Pob.pre o)).2)) ∧ h = [(0, .cells [.map 1]), (1, mapOf KI VI (netL l)), (2, .cells [.int .i64 num]), (3, .cells [.map 4]), (4, setOf (fun n => AV.int .i64 n) (walkR stp s (Pob.pre o)).1), (5, .cells [.int .i64 user]), (6, .cells (Pob.cells o0)), (7, .lp lq (rc (if (walkR stp s (Pob.pre o)).2 then some c0 else none)))] ∧ n = 8) := by
  have hpre := Pob.pre_eq o
  refine FnU.intro Try.func45 rfl rfl (by simp [Try.ntmps45]) ?_ ?_
  · rintro q hp' nx' ⟨rfl, rfl, rfl⟩
    exact ⟨by simp only [↓noTHm_cons, noTHm, ↓noTBm_ints, ↓noTBm_net, noTBm, noTL, noT, noTL_cells, Bool.and_self], _, rfl, rfl⟩
  intro B_
  simp only [argEnv, Try.ntmps45, Try.results45]
  refine AWT.rS ?_
  refine AWT.seq ?_
  refine AWT.rSC ?_
  by_cases hk : o.kind = 8
  · have hy := hY s o hs
    cases hst : (stp s o).2
    · simp only [hst, Bool.not_false, Bool.false_eq_true, if_false] at hy
      have hw_stop : ∀ i, i < o.kids.length → (walkR stp (stp s o).1 (pres (o.kids.take i))).2 = false → (walkR stp (walkR stp (stp s o).1 (pres (o.kids.take i))).1 (o.kids.getD i Pob.null).pre).2 = true → walkR stp s (o :: pres o.kids) = ((walkR stp (walkR stp (stp s o).1 (pres (o.kids.take i))).1 (o.kids.getD i Pob.null).pre).1, true) := fun i hi hg hh => by rw [walkR_go hk hst]; exact walkR_kid hi hg hh
      have hw_end : ∀ i, ¬ i < o.kids.length → (walkR stp (stp s o).1 (pres (o.kids.take i))).2 = false → walkR stp s (o :: pres o.kids) = ((walkR stp (stp s o).1 (pres (o.kids.take i))).1, false) := fun i hi hg => by rw [walkR_go hk hst, ← hg]; rw [List.take_of_length_le (by omega)]
      refine OpsT.cYG [0, 1, 2, 3, 4, 5, 6, 7] hy (hgv := by simp only [go_sem, seval]; simp [hk]) ?_
      refine OpsT.rn ?_
      refine OpsT.nil ?_
      refine AWT.c2 ?_ ?_
      · intro h
        simp at h
      · intro _
        refine AWT.skip ?_
        refine AWT.seq ?_
        refine AWT.rS ?_
        refine AWT.block ?_
        refine AWT.lk (S := { i : Nat // i ≤ o.kids.length ∧ (walkR stp (stp s o).1 (pres (o.kids.take i))).2 = false }) [1, 17, 18] (fun s_ => [(19, .int .i64 s_.1)]) (fun s_ => [(0, .cells [.map 1]), (1, mapOf KI VI (netL l)), (2, .cells [.int .i64 num]), (3, .cells [.map 4]), (4, setOf (fun n => AV.int .i64 n) (walkR stp (stp s o).1 (pres (o.kids.take s_.1))).1), (5, .cells [.int .i64 user]), (6, .cells (Pob.cells o0)), (7, .lp lq (rc none))]) 8 (fun s_ => o.kids.length - s_.1) ⟨0, Nat.zero_le _, by simp [pres_nil, walkR_nil]⟩ ?_ ?_
        · refine St.le.vx [0, 1, 2, 3, 4, 5, 6, 7] (hpre := (by decide : ∀ i, i < 8 → nth [0, 1, 2, 3, 4, 5, 6, 7] i = some i)) ?_
          simp [pres_nil, walkR_nil]
        rintro ⟨i, hi, hgo⟩
        try dsimp only at hi
        try dsimp only at hgo
        have hsi : I (walkR stp (stp s o).1 (pres (o.kids.take i))).1 := walkR_inv hI _ _ (hI _ _ hs)
        refine AWT.rS ?_
        refine AWT.seq ?_
        refine AWT.c2 ?_ ?_
        · intro h17
          refine AWT.skip ?_
          refine AWT.seq ?_
          refine AWT.block ?_
          refine AWT.rS ?_
          refine AWT.rSC ?_
          have hc := ih _ (o.kids.getD i Pob.null) hsi (hb i (by omega))
          have htk := pres_take (l := o.kids) (i := i) (by omega)
          cases hst : (walkR stp (walkR stp (stp s o).1 (pres (o.kids.take i))).1 (o.kids.getD i Pob.null).pre).2
          · simp only [hst, Bool.not_false, Bool.false_eq_true, if_false] at hc
            refine OpsT.cTU [0, 1, 2, 3, 4, 5, 6, 7] hc ?_
            refine OpsT.rn ?_
            refine OpsT.nil ?_
            refine AWT.c2 ?_ ?_
            · intro h
              simp at h
            · intro _
              refine AWT.skip ?_
              refine AWT.rL ?_
              have e1 : walkR stp (stp s o).1 (pres (o.kids.take (i + 1))) = ((walkR stp (walkR stp (stp s o).1 (pres (o.kids.take i))).1 (o.kids.getD i Pob.null).pre).1, false) := walkR_more (by omega) hgo hst
              refine ⟨⟨i + 1, by omega, by rw [e1]⟩, ?_, ?_⟩
              · refine St.le.vx [0, 1, 2, 3, 4, 5, 6, 7] (hpre := (by decide : ∀ i, i < 8 → nth [0, 1, 2, 3, 4, 5, 6, 7] i = some i)) ?_
                rw [e1]
                all_goals simp
              · simp only []; omega
          · simp only [hst, Bool.not_true, if_true] at hc
            refine OpsT.cTU [0, 1, 2, 3, 4, 5, 6, 7] hc ?_
            refine OpsT.rn ?_
            refine OpsT.nil ?_
            refine AWT.c2 ?_ ?_
            · intro h
              refine AWT.rS ?_
              refine AWT.pre (σ' := ⟨28, [(4, .bool false)], [(0, .cells [.map 1]), (1, mapOf KI VI (netL l)), (2, .cells [.int .i64 num]), (3, .cells [.map 4]), (4, setOf (fun n => AV.int .i64 n) (walkR stp (walkR stp (stp s o).1 (pres (o.kids.take i))).1 (o.kids.getD i Pob.null).pre).1), (5, .cells [.int .i64 user]), (6, .cells (Pob.cells o0)), (7, .lp lq (rc (some c0)))], 8, gl, 8, []⟩) (St.le.vw [0, 1, 2, 3, 4, 5, 6, 7] (hpre := (by decide : ∀ i, i < 8 → nth [0, 1, 2, 3, 4, 5, 6, 7] i = some i))) ?_
              refine AWT.rt ?_
              have e := hw_stop  i (by omega) hgo hst
              rw [hpre, e]
              simp
            · intro h
              simp at h
        · intro h17
          refine AWT.exit ?_
          refine AWT.rS ?_
          refine AWT.pre (σ' := ⟨28, [(4, .bool true)], [(0, .cells [.map 1]), (1, mapOf KI VI (netL l)), (2, .cells [.int .i64 num]), (3, .cells [.map 4]), (4, setOf (fun n => AV.int .i64 n) (walkR stp (stp s o).1 (pres (o.kids.take i))).1), (5, .cells [.int .i64 user]), (6, .cells (Pob.cells o0)), (7, .lp lq (rc none))], 8, gl, 8, []⟩) (St.le.vw [0, 1, 2, 3, 4, 5, 6, 7] (hpre := (by decide : ∀ i, i < 8 → nth [0, 1, 2, 3, 4, 5, 6, 7] i = some i))) ?_
          refine AWT.rt ?_
          have e := hw_end i (by omega) hgo
          rw [hpre, e]
          simp
    · simp only [hst, Bool.not_true, if_true] at hy
      refine OpsT.cYG [0, 1, 2, 3, 4, 5, 6, 7] hy (hgv := by simp only [go_sem, seval]; simp [hk]) ?_
      refine OpsT.rn ?_
      refine OpsT.nil ?_
      refine AWT.c2 ?_ ?_
      · intro h
        refine AWT.rS ?_
        refine AWT.pre (σ' := ⟨28, [(4, .bool false)], [(0, .cells [.map 1]), (1, mapOf KI VI (netL l)), (2, .cells [.int .i64 num]), (3, .cells [.map 4]), (4, setOf (fun n => AV.int .i64 n) (stp s o).1), (5, .cells [.int .i64 user]), (6, .cells (Pob.cells o0)), (7, .lp lq (rc (some c0)))], 8, gl, 8, []⟩) (St.le.vw [0, 1, 2, 3, 4, 5, 6, 7] (hpre := (by decide : ∀ i, i < 8 → nth [0, 1, 2, 3, 4, 5, 6, 7] i = some i))) ?_
        refine AWT.rt ?_
        rw [hpre, walkR_stop hk hst]
        simp
      · intro h
        simp [hk] at h
  · skip
    have hw_stop : ∀ i, i < o.kids.length → (walkR stp s (pres (o.kids.take i))).2 = false → (walkR stp (walkR stp s (pres (o.kids.take i))).1 (o.kids.getD i Pob.null).pre).2 = true → walkR stp s (o :: pres o.kids) = ((walkR stp (walkR stp s (pres (o.kids.take i))).1 (o.kids.getD i Pob.null).pre).1, true) := fun i hi hg hh => by rw [walkR_no hk]; exact walkR_kid hi hg hh
    have hw_end : ∀ i, ¬ i < o.kids.length → (walkR stp s (pres (o.kids.take i))).2 = false → walkR stp s (o :: pres o.kids) = ((walkR stp s (pres (o.kids.take i))).1, false) := fun i hi hg => by rw [walkR_no hk, ← hg]; rw [List.take_of_length_le (by omega)]
    refine OpsT.gN (.bool true) ?_ (hgv := by simp only [go_sem, seval]; simp [hk])
    refine OpsT.rn ?_
    refine OpsT.nil ?_
    refine AWT.c2 ?_ ?_
    · intro h
      simp [hk] at h
    · intro _
      refine AWT.skip ?_
      refine AWT.seq ?_
      refine AWT.rS ?_
      refine AWT.block ?_
      refine AWT.lk (S := { i : Nat // i ≤ o.kids.length ∧ (walkR stp s (pres (o.kids.take i))).2 = false }) [1, 17, 18] (fun s_ => [(19, .int .i64 s_.1)]) (fun s_ => [(0, .cells [.map 1]), (1, mapOf KI VI (netL l)), (2, .cells [.int .i64 num]), (3, .cells [.map 4]), (4, setOf (fun n => AV.int .i64 n) (walkR stp s (pres (o.kids.take s_.1))).1), (5, .cells [.int .i64 user]), (6, .cells (Pob.cells o0)), (7, .lp lq (rc none))]) 8 (fun s_ => o.kids.length - s_.1) ⟨0, Nat.zero_le _, by simp [pres_nil, walkR_nil]⟩ ?_ ?_
      · refine St.le.vx [0, 1, 2, 3, 4, 5, 6, 7] (hpre := (by decide : ∀ i, i < 8 → nth [0, 1, 2, 3, 4, 5, 6, 7] i = some i)) ?_
        simp [pres_nil, walkR_nil]
      rintro ⟨i, hi, hgo⟩
      try dsimp only at hi
      try dsimp only at hgo
      have hsi : I (walkR stp s (pres (o.kids.take i))).1 := walkR_inv hI _ _ hs
      refine AWT.rS ?_
      refine AWT.seq ?_
      refine AWT.c2 ?_ ?_
      · intro h17
        refine AWT.skip ?_
        refine AWT.seq ?_
        refine AWT.block ?_
        refine AWT.rS ?_
        refine AWT.rSC ?_
        have hc := ih _ (o.kids.getD i Pob.null) hsi (hb i (by omega))
        have htk := pres_take (l := o.kids) (i := i) (by omega)
        cases hst : (walkR stp (walkR stp s (pres (o.kids.take i))).1 (o.kids.getD i Pob.null).pre).2
        · simp only [hst, Bool.not_false, Bool.false_eq_true, if_false] at hc
          refine OpsT.cTU [0, 1, 2, 3, 4, 5, 6, 7] hc ?_
          refine OpsT.rn ?_
          refine OpsT.nil ?_
          refine AWT.c2 ?_ ?_
          · intro h
            simp at h
          · intro _
            refine AWT.skip ?_
            refine AWT.rL ?_
            have e1 : walkR stp s (pres (o.kids.take (i + 1))) = ((walkR stp (walkR stp s (pres (o.kids.take i))).1 (o.kids.getD i Pob.null).pre).1, false) := walkR_more (by omega) hgo hst
            refine ⟨⟨i + 1, by omega, by rw [e1]⟩, ?_, ?_⟩
            · refine St.le.vx [0, 1, 2, 3, 4, 5, 6, 7] (hpre := (by decide : ∀ i, i < 8 → nth [0, 1, 2, 3, 4, 5, 6, 7] i = some i)) ?_
              rw [e1]
              all_goals simp
            · simp only []; omega
        · simp only [hst, Bool.not_true, if_true] at hc
          refine OpsT.cTU [0, 1, 2, 3, 4, 5, 6, 7] hc ?_
          refine OpsT.rn ?_
          refine OpsT.nil ?_
          refine AWT.c2 ?_ ?_
          · intro h
            refine AWT.rS ?_
            refine AWT.pre (σ' := ⟨28, [(4, .bool false)], [(0, .cells [.map 1]), (1, mapOf KI VI (netL l)), (2, .cells [.int .i64 num]), (3, .cells [.map 4]), (4, setOf (fun n => AV.int .i64 n) (walkR stp (walkR stp s (pres (o.kids.take i))).1 (o.kids.getD i Pob.null).pre).1), (5, .cells [.int .i64 user]), (6, .cells (Pob.cells o0)), (7, .lp lq (rc (some c0)))], 8, gl, 8, []⟩) (St.le.vw [0, 1, 2, 3, 4, 5, 6, 7] (hpre := (by decide : ∀ i, i < 8 → nth [0, 1, 2, 3, 4, 5, 6, 7] i = some i))) ?_
            refine AWT.rt ?_
            have e := hw_stop  i (by omega) hgo hst
            rw [hpre, e]
            simp
          · intro h
            simp at h
      · intro h17
        refine AWT.exit ?_
        refine AWT.rS ?_
        refine AWT.pre (σ' := ⟨28, [(4, .bool true)], [(0, .cells [.map 1]), (1, mapOf KI VI (netL l)), (2, .cells [.int .i64 num]), (3, .cells [.map 4]), (4, setOf (fun n => AV.int .i64 n) (walkR stp s (pres (o.kids.take i))).1), (5, .cells [.int .i64 user]), (6, .cells (Pob.cells o0)), (7, .lp lq (rc none))], 8, gl, 8, []⟩) (St.le.vw [0, 1, 2, 3, 4, 5, 6, 7] (hpre := (by decide : ∀ i, i < 8 → nth [0, 1, 2, 3, 4, 5, 6, 7] i = some i))) ?_
        refine AWT.rt ?_
        have e := hw_end i (by omega) hgo
        rw [hpre, e]
        simp
theorem wu_all (gl : List (Nat × AV)) (l : List Itm) (num user : Int) (o0 : Pob) (stp : List Int → Pob → List Int × Bool) (c0 : Code) (I : List Int → Prop) (hI : ∀ s o, I s → I (stp s o).1) (lq : Nat) (rc : Option Code → Loop) {Ω : Mem → Prop} [LastsU Ω]
    (hY : ∀ s o, I s → RoundU Ω Try.prog gl lq [.agg (Pob.cells o)] ([(0, .cells [.map 1]), (1, mapOf KI VI (netL l)), (2, .cells [.int .i64 num]), (3, .cells [.map 4]), (4, setOf (fun n => AV.int .i64 n) s), (5, .cells [.int .i64 user]), (6, .cells (Pob.cells o0)), (7, .lp lq (rc none))]) 8 8 fun r h n => r = .ret (.bool (!(stp s o).2)) ∧ h = [(0, .cells [.map 1]), (1, mapOf KI VI (netL l)), (2, .cells [.int .i64 num]), (3, .cells [.map 4]), (4, setOf (fun n => AV.int .i64 n) (stp s o).1), (5, .cells [.int .i64 user]), (6, .cells (Pob.cells o0)), (7, .lp lq (rc (if (stp s o).2 then some c0 else none)))] ∧ n = 8) (N : Nat) :
    N ≤ 16777216 → ∀ s (o : Pob), I s → o.bulk ≤ N → FnU Ω Try.prog gl 45 [.agg (Pob.cells o), .raw (.func (.yield lq) #[] #[])] ([(0, .cells [.map 1]), (1, mapOf KI VI (netL l)), (2, .cells [.int .i64 num]), (3, .cells [.map 4]), (4, setOf (fun n => AV.int .i64 n) s), (5, .cells [.int .i64 user]), (6, .cells (Pob.cells o0)), (7, .lp lq (rc none))]) 8 8 (fun r h n => r = .ret (.bool (!(walkR stp s (Pob.pre o)).2)) ∧ h = [(0, .cells [.map 1]), (1, mapOf KI VI (netL l)), (2, .cells [.int .i64 num]), (3, .cells [.map 4]), (4, setOf (fun n => AV.int .i64 n) (walkR stp s (Pob.pre o)).1), (5, .cells [.int .i64 user]), (6, .cells (Pob.cells o0)), (7, .lp lq (rc (if (walkR stp s (Pob.pre o)).2 then some c0 else none)))] ∧ n = 8) := by
  induction N using Nat.strongRecOn with
  | ind N IH =>
    intro hN s o hs ho
    have hb := Pob.bulk_eq o
    exact wu_step gl l num user o0 stp c0 I hI lq rc hY N hN (fun s o' hs h => IH o'.bulk h (by omega) s o' hs (Nat.le_refl _)) s hs o (by omega) (fun i hi => Nat.lt_of_lt_of_le (Pob.bulk_kid hi) ho)

theorem wu_refs (gl : List (Nat × AV)) (l : List Itm) (num user : Int) (o0 : Pob) (stp : List Int → Pob → List Int × Bool) (c0 : Code) (I : List Int → Prop) (hI : ∀ s o, I s → I (stp s o).1) (lq : Nat) (rc : Option Code → Loop) {Ω : Mem → Prop} [LastsU Ω]
    (hY : ∀ s o, I s → RoundU Ω Try.prog gl lq [.agg (Pob.cells o)] ([(0, .cells [.map 1]), (1, mapOf KI VI (netL l)), (2, .cells [.int .i64 num]), (3, .cells [.map 4]), (4, setOf (fun n => AV.int .i64 n) s), (5, .cells [.int .i64 user]), (6, .cells (Pob.cells o0)), (7, .lp lq (rc none))]) 8 8 fun r h n => r = .ret (.bool (!(stp s o).2)) ∧ h = [(0, .cells [.map 1]), (1, mapOf KI VI (netL l)), (2, .cells [.int .i64 num]), (3, .cells [.map 4]), (4, setOf (fun n => AV.int .i64 n) (stp s o).1), (5, .cells [.int .i64 user]), (6, .cells (Pob.cells o0)), (7, .lp lq (rc (if (stp s o).2 then some c0 else none)))] ∧ n = 8)
    (s : List Int) (hs : I s) (h : (Pob.bulk o0) ≤ 16777216) : FnU Ω Try.prog gl 44 [.raw (.func (.yield lq) #[] #[]), .ptr 6 0] ([(0, .cells [.map 1]), (1, mapOf KI VI (netL l)), (2, .cells [.int .i64 num]), (3, .cells [.map 4]), (4, setOf (fun n => AV.int .i64 n) s), (5, .cells [.int .i64 user]), (6, .cells (Pob.cells o0)), (7, .lp lq (rc none))]) 8 8 (fun r h n => r = .ret (.tup []) ∧ h = [(0, .cells [.map 1]), (1, mapOf KI VI (netL l)), (2, .cells [.int .i64 num]), (3, .cells [.map 4]), (4, setOf (fun n => AV.int .i64 n) (walkR stp s (Pob.pre o0)).1), (5, .cells [.int .i64 user]), (6, .cells (Pob.cells o0)), (7, .lp lq (rc (if (walkR stp s (Pob.pre o0)).2 then some c0 else none)))] ∧ n = 8) := by
  refine FnU.intro Try.func44 rfl rfl (by simp [Try.ntmps44]) ?_ ?_
  · rintro q hp' nx' ⟨rfl, rfl, rfl⟩
    exact ⟨by simp only [↓noTHm_cons, noTHm, ↓noTBm_ints, ↓noTBm_net, noTBm, noTL, noT, noTL_cells, noTL_dcells, Bool.and_self], _, rfl, rfl⟩
  intro B_
  simp only [argEnv, Try.ntmps44, Try.results44]
  refine AWT.rLC ?_
  refine OpsT.cTU [0, 1, 2, 3, 4, 5, 6, 7] (wu_all gl l num user o0 stp c0 I hI lq rc hY 16777216 (Nat.le_refl _) s o0 hs h) ?_
  refine OpsT.rn ?_
  refine OpsT.nil ?_
  refine wk ?_
  all_goals first | contradiction | rfl | (simp; done) | (simp; omega)

theorem au_all (gl : List (Nat × AV)) (d : Dc) (l : List Itm) (num : Int) (stp : List Int → Int → Pob → List Int) (I : List Int → Prop) (hI : ∀ s n o, I s → (n, o) ∈ allL d → I (stp s n o)) (lq : Nat) (rc : Option Code → Loop) {Ω : Mem → Prop} [LastsU Ω]
    (hY : ∀ s (n : Int) o, I s → (n, o) ∈ allL d → RoundU Ω Try.prog gl lq [.int .i64 n, .agg (Pob.cells o)] ([(0, .cells [.map 1]), (1, mapOf KI VI (netL l)), (2, .cells [.int .i64 num]), (3, .cells [.map 4]), (4, setOf (fun n => AV.int .i64 n) s), (5, .cells (Dc.cells d)), (6, .lp lq (rc none))]) 7 7 fun r h k => r = .ret (.bool true) ∧ h = [(0, .cells [.map 1]), (1, mapOf KI VI (netL l)), (2, .cells [.int .i64 num]), (3, .cells [.map 4]), (4, setOf (fun n => AV.int .i64 n) (stp s n o)), (5, .cells (Dc.cells d)), (6, .lp lq (rc none))] ∧ k = 7)
    (s : List Int) (hs : I s) (h : d.bulk ≤ 16777216) : FnU Ω Try.prog gl 43 [.raw (.func (.yield lq) #[] #[]), .ptr 5 0] ([(0, .cells [.map 1]), (1, mapOf KI VI (netL l)), (2, .cells [.int .i64 num]), (3, .cells [.map 4]), (4, setOf (fun n => AV.int .i64 n) s), (5, .cells (Dc.cells d)), (6, .lp lq (rc none))]) 7 7 (fun r h n => r = .ret (.tup []) ∧ h = [(0, .cells [.map 1]), (1, mapOf KI VI (netL l)), (2, .cells [.int .i64 num]), (3, .cells [.map 4]), (4, setOf (fun n => AV.int .i64 n) (foldI stp (stp s 0 d.trailer) d.items)), (5, .cells (Dc.cells d)), (6, .lp lq (rc none))] ∧ n = 7) := by
  have hb : d.bulk = ibulk d.items + d.trailer.bulk := rfl
  have hlen := ibulk_len d.items
  refine FnU.intro Try.func43 rfl rfl (by simp [Try.ntmps43]) ?_ ?_
  · rintro q hp' nx' ⟨rfl, rfl, rfl⟩
    exact ⟨by simp only [↓noTHm_cons, noTHm, ↓noTBm_ints, ↓noTBm_net, noTBm, noTL, noT, noTL_cells, noTL_dcells, Bool.and_self], _, rfl, rfl⟩
  intro B_
  simp only [argEnv, Try.ntmps43, Try.results43]
  refine AWT.seq ?_
  refine AWT.rSC ?_
  refine OpsT.cYU [0, 1, 2, 3, 4, 5, 6] (hY s 0 d.trailer hs allL_top) ?_
  refine OpsT.rn ?_
  refine OpsT.nil ?_
  have hs1 := hI s 0 d.trailer hs allL_top
  refine AWT.c2 ?_ ?_
  · intro h
    simp at h
  · intro _
    refine AWT.skip ?_
    refine AWT.rS ?_
    refine AWT.block ?_
    refine AWT.lk (S := { i : Nat // i ≤ d.items.length }) [0, 11, 12] (fun s_ => [(13, .int .i64 s_.1)]) (fun s_ => [(0, .cells [.map 1]), (1, mapOf KI VI (netL l)), (2, .cells [.int .i64 num]), (3, .cells [.map 4]), (4, setOf (fun n => AV.int .i64 n) (foldI stp (stp s 0 d.trailer) (d.items.take s_.1))), (5, .cells (Dc.cells d)), (6, .lp lq (rc none))]) 7 (fun s_ => d.items.length - s_.1) ⟨0, Nat.zero_le _⟩ ?_ ?_
    · refine St.le.vx [0, 1, 2, 3, 4, 5, 6] (hpre := (by decide : ∀ i, i < 7 → nth [0, 1, 2, 3, 4, 5, 6] i = some i)) ?_
      simp [foldI]
    rintro ⟨i, hi⟩
    try dsimp only at hi
    have hsi : I (foldI stp (stp s 0 d.trailer) (d.items.take i)) := foldI_inv hI hs1 i
    refine AWT.rS ?_
    refine AWT.seq ?_
    refine AWT.c2 ?_ ?_
    · intro h14
      have hi2 : i < d.items.length := by first | exact h14 | omega | simpa using h14
      refine AWT.skip ?_
      refine AWT.seq ?_
      refine AWT.block ?_
      refine AWT.rS ?_
      refine AWT.rSC ?_
      refine OpsT.cYU [0, 1, 2, 3, 4, 5, 6] (hY _ (d.items.getD i Itm.zero).num (d.items.getD i Itm.zero).obj hsi (allL_mem hi2)) ?_
      refine OpsT.rn ?_
      refine OpsT.nil ?_
      refine AWT.c2 ?_ ?_
      · intro h
        simp at h
      · intro _
        refine AWT.skip ?_
        refine AWT.rL ?_
        refine ⟨⟨i + 1, by omega⟩, ?_, ?_⟩
        · refine St.le.vx [0, 1, 2, 3, 4, 5, 6] (hpre := (by decide : ∀ i, i < 7 → nth [0, 1, 2, 3, 4, 5, 6] i = some i)) ?_
          rw [foldI_succ hi2]
        · simp only []; omega
    · intro h14
      refine AWT.exit ?_
      obtain rfl : i = d.items.length := by omega
      rw [List.take_length]
      refine wk ?_
      all_goals first | contradiction | rfl | (simp; done) | (simp; omega)

end Go.Proofs

namespace Go.Proofs
open Go Aw
set_option linter.unusedSimpArgs false
set_option linter.unusedVariables false
set_option maxRecDepth 100000
set_option maxHeartbeats 1000000
attribute [local go_sem ↓ high] noTBm_net
theorem wr_step (gl : List (Nat × AV)) (l : List Itm) (o0 : Pob) (stp : (List Int × List Pob) → Pob → (List Int × List Pob) × Bool) (c0 : Code) (I : (List Int × List Pob) → Prop) (hI : ∀ s o, I s → I (stp s o).1) (lq : Nat) (rc : Option Code → Loop) {Ω : Mem → Prop} [LastsU Ω]
    (hY : ∀ s o, I s → RoundU Ω Try.prog gl lq [.agg (Pob.cells o)] ([(0, .cells [.map 1]), (1, mapOf KI VI (netL l)), (2, .cells [.map 3]), (3, setOf (fun n => AV.int .i64 n) (s).1), (4, .cells [.row 7 0 (s).2.length]), (5, .cells (Pob.cells o0)), (7, .row 6 (objsAV (s).2) true), (6, .lp lq (rc none))]) 8 7 fun r h n => r = .ret (.bool (!(stp s o).2)) ∧ h = [(0, .cells [.map 1]), (1, mapOf KI VI (netL l)), (2, .cells [.map 3]), (3, setOf (fun n => AV.int .i64 n) ((stp s o).1).1), (4, .cells [.row 7 0 ((stp s o).1).2.length]), (5, .cells (Pob.cells o0)), (7, .row 6 (objsAV ((stp s o).1).2) true), (6, .lp lq (rc (if (stp s o).2 then some c0 else none)))] ∧ n = 8)
    (N : Nat) (hN : N ≤ 16777216) (ih : ∀ s (o' : Pob), I s → o'.bulk < N → FnU Ω Try.prog gl 45 [.agg (Pob.cells o'), .raw (.func (.yield lq) #[] #[])] ([(0, .cells [.map 1]), (1, mapOf KI VI (netL l)), (2, .cells [.map 3]), (3, setOf (fun n => AV.int .i64 n) (s).1), (4, .cells [.row 7 0 (s).2.length]), (5, .cells (Pob.cells o0)), (7, .row 6 (objsAV (s).2) true), (6, .lp lq (rc none))]) 8 7 (fun r h n => r = .ret (.bool (!(walkR stp s (Pob.pre o')).2)) ∧ h = [(0, .cells [.map 1]), (1, mapOf KI VI (netL l)), (2, .cells [.map 3]), (3, setOf (fun n => AV.int .i64 n) ((walkR stp s (Pob.pre o')).1).1), (4, .cells [.row 7 0 ((walkR stp s (Pob.pre o')).1).2.length]), (5, .cells (Pob.cells o0)), (7, .row 6 (objsAV ((walkR stp s (Pob.pre o')).1).2) true), (6, .lp lq (rc (if (walkR stp s (Pob.pre o')).2 then some c0 else none)))] ∧ n = 8))
    (s : (List Int × List Pob)) (hs : I s) (o : Pob) (hl : o.kids.length ≤ 16777216) (hb : ∀ i, i < o.kids.length → (o.kids.getD i Pob.null).bulk < N) :
    FnU Ω Try.prog gl 45 [.agg (Pob.cells o), .raw (.func (.yield lq) #[] #[])] ([(0, .cells [.map 1]), (1, mapOf KI VI (netL l)), (2, .cells [.map 3]), (3, setOf (fun n => AV.int .i64 n) (s).1), (4, .cells [.row 7 0 (s).2.length]), (5, .cells (Pob.cells o0)), (7, .row 6 (objsAV (s).2) true), (6, .lp lq (rc none))]) 8 7 (fun r h n => r = .ret (.bool (!(walkR stp s (Pob.pre o)).2)) ∧ h = [(0, .cells [.map 1]), (1, mapOf KI VI (netL l)), (2, .cells [.map 3]), (3, setOf (fun n => AV.int .i64 n) ((walkR stp s (Pob.pre o)).1).1), (4, .cells [.row 7 0 ((walkR stp s (Pob.pre o)).1).2.length]), (5, .cells (Pob.cells o0)), (7, .row 6 (objsAV ((walkR stp s (Pob.pre o)).1).2) true), (6, .lp lq (rc (if (walkR stp s (Pob.pre o)).2 then some c0 else none)))] ∧ n = 8) := by
  have hpre := Pob.pre_eq o
  refine FnU.intro Try.func45 rfl rfl (by simp [Try.ntmps45]) ?_ ?_
  · rintro q hp' nx' ⟨rfl, rfl, rfl⟩
    exact ⟨by simp only [↓noTHm_cons, noTHm, ↓noTBm_ints, ↓noTBm_net, noTBm, noTL, noT, noTL_cells, Bool.and_self], _, rfl, rfl⟩
  intro B_
  simp only [argEnv, Try.ntmps45, Try.results45]
  refine AWT.rS ?_
  refine AWT.seq ?_
  refine AWT.rSC ?_
  by_cases hk : o.kind = 8
  · have hy := hY s o hs
    cases hst : (stp s o).2
    · simp only [hst, Bool.not_false, Bool.false_eq_true, if_false] at hy
      have hw_stop : ∀ i, i < o.kids.length → (walkR stp (stp s o).1 (pres (o.kids.take i))).2 = false → (walkR stp (walkR stp (stp s o).1 (pres (o.kids.take i))).1 (o.kids.getD i Pob.null).pre).2 = true → walkR stp s (o :: pres o.kids) = ((walkR stp (walkR stp (stp s o).1 (pres (o.kids.take i))).1 (o.kids.getD i Pob.null).pre).1, true) := fun i hi hg hh => by rw [walkR_go hk hst]; exact walkR_kid hi hg hh
      have hw_end : ∀ i, ¬ i < o.kids.length → (walkR stp (stp s o).1 (pres (o.kids.take i))).2 = false → walkR stp s (o :: pres o.kids) = ((walkR stp (stp s o).1 (pres (o.kids.take i))).1, false) := fun i hi hg => by rw [walkR_go hk hst, ← hg]; rw [List.take_of_length_le (by omega)]
      refine OpsT.cYG [0, 1, 2, 3, 4, 5, 6, 7] hy (hgv := by simp only [go_sem, seval]; simp [hk]) ?_
      refine OpsT.rn ?_
      refine OpsT.nil ?_
      refine AWT.c2 ?_ ?_
      · intro h
        simp at h
      · intro _
        refine AWT.skip ?_
        refine AWT.seq ?_
        refine AWT.rS ?_
        refine AWT.block ?_
        refine AWT.lk (S := { i : Nat // i ≤ o.kids.length ∧ (walkR stp (stp s o).1 (pres (o.kids.take i))).2 = false }) [1, 17, 18] (fun s_ => [(19, .int .i64 s_.1)]) (fun s_ => [(0, .cells [.map 1]), (1, mapOf KI VI (netL l)), (2, .cells [.map 3]), (3, setOf (fun n => AV.int .i64 n) ((walkR stp (stp s o).1 (pres (o.kids.take s_.1))).1).1), (4, .cells [.row 7 0 ((walkR stp (stp s o).1 (pres (o.kids.take s_.1))).1).2.length]), (5, .cells (Pob.cells o0)), (7, .row 6 (objsAV ((walkR stp (stp s o).1 (pres (o.kids.take s_.1))).1).2) true), (6, .lp lq (rc none))]) 8 (fun s_ => o.kids.length - s_.1) ⟨0, Nat.zero_le _, by simp [pres_nil, walkR_nil]⟩ ?_ ?_
        · refine St.le.vx [0, 1, 2, 3, 4, 5, 6, 9] (hpre := (by decide : ∀ i, i < 7 → nth [0, 1, 2, 3, 4, 5, 6, 9] i = some i)) ?_
          simp [pres_nil, walkR_nil]
        rintro ⟨i, hi, hgo⟩
        try dsimp only at hi
        try dsimp only at hgo
        have hsi : I (walkR stp (stp s o).1 (pres (o.kids.take i))).1 := walkR_inv hI _ _ (hI _ _ hs)
        refine AWT.rS ?_
        refine AWT.seq ?_
        refine AWT.c2 ?_ ?_
        · intro h17
          refine AWT.skip ?_
          refine AWT.seq ?_
          refine AWT.block ?_
          refine AWT.rS ?_
          refine AWT.rSC ?_
          have hc := ih _ (o.kids.getD i Pob.null) hsi (hb i (by omega))
          have htk := pres_take (l := o.kids) (i := i) (by omega)
          cases hst : (walkR stp (walkR stp (stp s o).1 (pres (o.kids.take i))).1 (o.kids.getD i Pob.null).pre).2
          · simp only [hst, Bool.not_false, Bool.false_eq_true, if_false] at hc
            refine OpsT.cTU [0, 1, 2, 3, 4, 5, 6, 7] hc ?_
            refine OpsT.rn ?_
            refine OpsT.nil ?_
            refine AWT.c2 ?_ ?_
            · intro h
              simp at h
            · intro _
              refine AWT.skip ?_
              refine AWT.rL ?_
              have e1 : walkR stp (stp s o).1 (pres (o.kids.take (i + 1))) = ((walkR stp (walkR stp (stp s o).1 (pres (o.kids.take i))).1 (o.kids.getD i Pob.null).pre).1, false) := walkR_more (by omega) hgo hst
              refine ⟨⟨i + 1, by omega, by rw [e1]⟩, ?_, ?_⟩
              · refine St.le.vx [0, 1, 2, 3, 4, 5, 6, 9] (hpre := (by decide : ∀ i, i < 7 → nth [0, 1, 2, 3, 4, 5, 6, 9] i = some i)) ?_
                rw [e1]
                all_goals simp
              · simp only []; omega
          · simp only [hst, Bool.not_true, if_true] at hc
            refine OpsT.cTU [0, 1, 2, 3, 4, 5, 6, 7] hc ?_
            refine OpsT.rn ?_
            refine OpsT.nil ?_
            refine AWT.c2 ?_ ?_
            · intro h
              refine AWT.rS ?_
              refine AWT.pre (σ' := ⟨28, [(4, .bool false)], [(0, .cells [.map 1]), (1, mapOf KI VI (netL l)), (2, .cells [.map 3]), (3, setOf (fun n => AV.int .i64 n) ((walkR stp (walkR stp (stp s o).1 (pres (o.kids.take i))).1 (o.kids.getD i Pob.null).pre).1).1), (4, .cells [.row 7 0 ((walkR stp (walkR stp (stp s o).1 (pres (o.kids.take i))).1 (o.kids.getD i Pob.null).pre).1).2.length]), (5, .cells (Pob.cells o0)), (7, .row 6 (objsAV ((walkR stp (walkR stp (stp s o).1 (pres (o.kids.take i))).1 (o.kids.getD i Pob.null).pre).1).2) true), (6, .lp lq (rc (some c0)))], 8, gl, 7, []⟩) (St.le.vw [0, 1, 2, 3, 4, 5, 6, 9] (hpre := (by decide : ∀ i, i < 7 → nth [0, 1, 2, 3, 4, 5, 6, 9] i = some i))) ?_
              refine AWT.rt ?_
              have e := hw_stop  i (by omega) hgo hst
              rw [hpre, e]
              simp
            · intro h
              simp at h
        · intro h17
          refine AWT.exit ?_
          refine AWT.rS ?_
          refine AWT.pre (σ' := ⟨28, [(4, .bool true)], [(0, .cells [.map 1]), (1, mapOf KI VI (netL l)), (2, .cells [.map 3]), (3, setOf (fun n => AV.int .i64 n) ((walkR stp (stp s o).1 (pres (o.kids.take i))).1).1), (4, .cells [.row 7 0 ((walkR stp (stp s o).1 (pres (o.kids.take i))).1).2.length]), (5, .cells (Pob.cells o0)), (7, .row 6 (objsAV ((walkR stp (stp s o).1 (pres (o.kids.take i))).1).2) true), (6, .lp lq (rc none))], 8, gl, 7, []⟩) (St.le.vw [0, 1, 2, 3, 4, 5, 6, 7] (hpre := (by decide : ∀ i, i < 7 → nth [0, 1, 2, 3, 4, 5, 6, 7] i = some i))) ?_
          refine AWT.rt ?_
          have e := hw_end i (by omega) hgo
          rw [hpre, e]
          simp
    · simp only [hst, Bool.not_true, if_true] at hy
      refine OpsT.cYG [0, 1, 2, 3, 4, 5, 6, 7] hy (hgv := by simp only [go_sem, seval]; simp [hk]) ?_
      refine OpsT.rn ?_
      refine OpsT.nil ?_
      refine AWT.c2 ?_ ?_
      · intro h
        refine AWT.rS ?_
        refine AWT.pre (σ' := ⟨28, [(4, .bool false)], [(0, .cells [.map 1]), (1, mapOf KI VI (netL l)), (2, .cells [.map 3]), (3, setOf (fun n => AV.int .i64 n) ((stp s o).1).1), (4, .cells [.row 7 0 ((stp s o).1).2.length]), (5, .cells (Pob.cells o0)), (7, .row 6 (objsAV ((stp s o).1).2) true), (6, .lp lq (rc (some c0)))], 8, gl, 7, []⟩) (St.le.vw [0, 1, 2, 3, 4, 5, 6, 9] (hpre := (by decide : ∀ i, i < 7 → nth [0, 1, 2, 3, 4, 5, 6, 9] i = some i))) ?_
        refine AWT.rt ?_
        rw [hpre, walkR_stop hk hst]
        simp
      · intro h
        simp [hk] at h
  · skip
    have hw_stop : ∀ i, i < o.kids.length → (walkR stp s (pres (o.kids.take i))).2 = false → (walkR stp (walkR stp s (pres (o.kids.take i))).1 (o.kids.getD i Pob.null).pre).2 = true → walkR stp s (o :: pres o.kids) = ((walkR stp (walkR stp s (pres (o.kids.take i))).1 (o.kids.getD i Pob.null).pre).1, true) := fun i hi hg hh => by rw [walkR_no hk]; exact walkR_kid hi hg hh
    have hw_end : ∀ i, ¬ i < o.kids.length → (walkR stp s (pres (o.kids.take i))).2 = false → walkR stp s (o :: pres o.kids) = ((walkR stp s (pres (o.kids.take i))).1, false) := fun i hi hg => by rw [walkR_no hk, ← hg]; rw [List.take_of_length_le (by omega)]
    refine OpsT.gN (.bool true) ?_ (hgv := by simp only [go_sem, seval]; simp [hk])
    refine OpsT.rn ?_
    refine OpsT.nil ?_
    refine AWT.c2 ?_ ?_
    · intro h
      simp [hk] at h
    · intro _
      refine AWT.skip ?_
      refine AWT.seq ?_
      refine AWT.rS ?_
      refine AWT.block ?_
      refine AWT.lk (S := { i : Nat // i ≤ o.kids.length ∧ (walkR stp s (pres (o.kids.take i))).2 = false }) [1, 17, 18] (fun s_ => [(19, .int .i64 s_.1)]) (fun s_ => [(0, .cells [.map 1]), (1, mapOf KI VI (netL l)), (2, .cells [.map 3]), (3, setOf (fun n => AV.int .i64 n) ((walkR stp s (pres (o.kids.take s_.1))).1).1), (4, .cells [.row 7 0 ((walkR stp s (pres (o.kids.take s_.1))).1).2.length]), (5, .cells (Pob.cells o0)), (7, .row 6 (objsAV ((walkR stp s (pres (o.kids.take s_.1))).1).2) true), (6, .lp lq (rc none))]) 8 (fun s_ => o.kids.length - s_.1) ⟨0, Nat.zero_le _, by simp [pres_nil, walkR_nil]⟩ ?_ ?_
      · refine St.le.vx [0, 1, 2, 3, 4, 5, 6, 7] (hpre := (by decide : ∀ i, i < 7 → nth [0, 1, 2, 3, 4, 5, 6, 7] i = some i)) ?_
        simp [pres_nil, walkR_nil]
      rintro ⟨i, hi, hgo⟩
      try dsimp only at hi
      try dsimp only at hgo
      have hsi : I (walkR stp s (pres (o.kids.take i))).1 := walkR_inv hI _ _ hs
      refine AWT.rS ?_
      refine AWT.seq ?_
      refine AWT.c2 ?_ ?_
      · intro h17
        refine AWT.skip ?_
        refine AWT.seq ?_
        refine AWT.block ?_
        refine AWT.rS ?_
        refine AWT.rSC ?_
        have hc := ih _ (o.kids.getD i Pob.null) hsi (hb i (by omega))
        have htk := pres_take (l := o.kids) (i := i) (by omega)
        cases hst : (walkR stp (walkR stp s (pres (o.kids.take i))).1 (o.kids.getD i Pob.null).pre).2
        · simp only [hst, Bool.not_false, Bool.false_eq_true, if_false] at hc
          refine OpsT.cTU [0, 1, 2, 3, 4, 5, 6, 7] hc ?_
          refine OpsT.rn ?_
          refine OpsT.nil ?_
          refine AWT.c2 ?_ ?_
          · intro h
            simp at h
          · intro _
            refine AWT.skip ?_
            refine AWT.rL ?_
            have e1 : walkR stp s (pres (o.kids.take (i + 1))) = ((walkR stp (walkR stp s (pres (o.kids.take i))).1 (o.kids.getD i Pob.null).pre).1, false) := walkR_more (by omega) hgo hst
            refine ⟨⟨i + 1, by omega, by rw [e1]⟩, ?_, ?_⟩
            · refine St.le.vx [0, 1, 2, 3, 4, 5, 6, 9] (hpre := (by decide : ∀ i, i < 7 → nth [0, 1, 2, 3, 4, 5, 6, 9] i = some i)) ?_
              rw [e1]
              all_goals simp
            · simp only []; omega
        · simp only [hst, Bool.not_true, if_true] at hc
          refine OpsT.cTU [0, 1, 2, 3, 4, 5, 6, 7] hc ?_
          refine OpsT.rn ?_
          refine OpsT.nil ?_
          refine AWT.c2 ?_ ?_
          · intro h
            refine AWT.rS ?_
            refine AWT.pre (σ' := ⟨28, [(4, .bool false)], [(0, .cells [.map 1]), (1, mapOf KI VI (netL l)), (2, .cells [.map 3]), (3, setOf (fun n => AV.int .i64 n) ((walkR stp (walkR stp s (pres (o.kids.take i))).1 (o.kids.getD i Pob.null).pre).1).1), (4, .cells [.row 7 0 ((walkR stp (walkR stp s (pres (o.kids.take i))).1 (o.kids.getD i Pob.null).pre).1).2.length]), (5, .cells (Pob.cells o0)), (7, .row 6 (objsAV ((walkR stp (walkR stp s (pres (o.kids.take i))).1 (o.kids.getD i Pob.null).pre).1).2) true), (6, .lp lq (rc (some c0)))], 8, gl, 7, []⟩) (St.le.vw [0, 1, 2, 3, 4, 5, 6, 9] (hpre := (by decide : ∀ i, i < 7 → nth [0, 1, 2, 3, 4, 5, 6, 9] i = some i))) ?_
            refine AWT.rt ?_
            have e := hw_stop  i (by omega) hgo hst
            rw [hpre, e]
            simp
          · intro h
            simp at h
      · intro h17
        refine AWT.exit ?_
        refine AWT.rS ?_
        refine AWT.pre (σ' := ⟨28, [(4, .bool true)], [(0, .cells [.map 1]), (1, mapOf KI VI (netL l)), (2, .cells [.map 3]), (3, setOf (fun n => AV.int .i64 n) ((walkR stp s (pres (o.kids.take i))).1).1), (4, .cells [.row 7 0 ((walkR stp s (pres (o.kids.take i))).1).2.length]), (5, .cells (Pob.cells o0)), (7, .row 6 (objsAV ((walkR stp s (pres (o.kids.take i))).1).2) true), (6, .lp lq (rc none))], 8, gl, 7, []⟩) (St.le.vw [0, 1, 2, 3, 4, 5, 6, 7] (hpre := (by decide : ∀ i, i < 7 → nth [0, 1, 2, 3, 4, 5, 6, 7] i = some i))) ?_
        refine AWT.rt ?_
        have e := hw_end i (by omega) hgo
        rw [hpre, e]
        simp
theorem wr_all (gl : List (Nat × AV)) (l : List Itm) (o0 : Pob) (stp : (List Int × List Pob) → Pob → (List Int × List Pob) × Bool) (c0 : Code) (I : (List Int × List Pob) → Prop) (hI : ∀ s o, I s → I (stp s o).1) (lq : Nat) (rc : Option Code → Loop) {Ω : Mem → Prop} [LastsU Ω]
    (hY : ∀ s o, I s → RoundU Ω Try.prog gl lq [.agg (Pob.cells o)] ([(0, .cells [.map 1]), (1, mapOf KI VI (netL l)), (2, .cells [.map 3]), (3, setOf (fun n => AV.int .i64 n) (s).1), (4, .cells [.row 7 0 (s).2.length]), (5, .cells (Pob.cells o0)), (7, .row 6 (objsAV (s).2) true), (6, .lp lq (rc none))]) 8 7 fun r h n => r = .ret (.bool (!(stp s o).2)) ∧ h = [(0, .cells [.map 1]), (1, mapOf KI VI (netL l)), (2, .cells [.map 3]), (3, setOf (fun n => AV.int .i64 n) ((stp s o).1).1), (4, .cells [.row 7 0 ((stp s o).1).2.length]), (5, .cells (Pob.cells o0)), (7, .row 6 (objsAV ((stp s o).1).2) true), (6, .lp lq (rc (if (stp s o).2 then some c0 else none)))] ∧ n = 8) (N : Nat) :
    N ≤ 16777216 → ∀ s (o : Pob), I s → o.bulk ≤ N → FnU Ω Try.prog gl 45 [.agg (Pob.cells o), .raw (.func (.yield lq) #[] #[])] ([(0, .cells [.map 1]), (1, mapOf KI VI (netL l)), (2, .cells [.map 3]), (3, setOf (fun n => AV.int .i64 n) (s).1), (4, .cells [.row 7 0 (s).2.length]), (5, .cells (Pob.cells o0)), (7, .row 6 (objsAV (s).2) true), (6, .lp lq (rc none))]) 8 7 (fun r h n => r = .ret (.bool (!(walkR stp s (Pob.pre o)).2)) ∧ h = [(0, .cells [.map 1]), (1, mapOf KI VI (netL l)), (2, .cells [.map 3]), (3, setOf (fun n => AV.int .i64 n) ((walkR stp s (Pob.pre o)).1).1), (4, .cells [.row 7 0 ((walkR stp s (Pob.pre o)).1).2.length]), (5, .cells (Pob.cells o0)), (7, .row 6 (objsAV ((walkR stp s (Pob.pre o)).1).2) true), (6, .lp lq (rc (if (walkR stp s (Pob.pre o)).2 then some c0 else none)))] ∧ n = 8) := by
  induction N using Nat.strongRecOn with
  | ind N IH =>
    intro hN s o hs ho
    have hb := Pob.bulk_eq o
    exact wr_step gl l o0 stp c0 I hI lq rc hY N hN (fun s o' hs h => IH o'.bulk h (by omega) s o' hs (Nat.le_refl _)) s hs o (by omega) (fun i hi => Nat.lt_of_lt_of_le (Pob.bulk_kid hi) ho)

theorem wr_refs (gl : List (Nat × AV)) (l : List Itm) (o0 : Pob) (stp : (List Int × List Pob) → Pob → (List Int × List Pob) × Bool) (c0 : Code) (I : (List Int × List Pob) → Prop) (hI : ∀ s o, I s → I (stp s o).1) (lq : Nat) (rc : Option Code → Loop) {Ω : Mem → Prop} [LastsU Ω]
    (hY : ∀ s o, I s → RoundU Ω Try.prog gl lq [.agg (Pob.cells o)] ([(0, .cells [.map 1]), (1, mapOf KI VI (netL l)), (2, .cells [.map 3]), (3, setOf (fun n => AV.int .i64 n) (s).1), (4, .cells [.row 7 0 (s).2.length]), (5, .cells (Pob.cells o0)), (7, .row 6 (objsAV (s).2) true), (6, .lp lq (rc none))]) 8 7 fun r h n => r = .ret (.bool (!(stp s o).2)) ∧ h = [(0, .cells [.map 1]), (1, mapOf KI VI (netL l)), (2, .cells [.map 3]), (3, setOf (fun n => AV.int .i64 n) ((stp s o).1).1), (4, .cells [.row 7 0 ((stp s o).1).2.length]), (5, .cells (Pob.cells o0)), (7, .row 6 (objsAV ((stp s o).1).2) true), (6, .lp lq (rc (if (stp s o).2 then some c0 else none)))] ∧ n = 8)
    (s : (List Int × List Pob)) (hs : I s) (h : (Pob.bulk o0) ≤ 16777216) : FnU Ω Try.prog gl 44 [.raw (.func (.yield lq) #[] #[]), .ptr 5 0] ([(0, .cells [.map 1]), (1, mapOf KI VI (netL l)), (2, .cells [.map 3]), (3, setOf (fun n => AV.int .i64 n) (s).1), (4, .cells [.row 7 0 (s).2.length]), (5, .cells (Pob.cells o0)), (7, .row 6 (objsAV (s).2) true), (6, .lp lq (rc none))]) 8 7 (fun r h n => r = .ret (.tup []) ∧ h = [(0, .cells [.map 1]), (1, mapOf KI VI (netL l)), (2, .cells [.map 3]), (3, setOf (fun n => AV.int .i64 n) ((walkR stp s (Pob.pre o0)).1).1), (4, .cells [.row 7 0 ((walkR stp s (Pob.pre o0)).1).2.length]), (5, .cells (Pob.cells o0)), (7, .row 6 (objsAV ((walkR stp s (Pob.pre o0)).1).2) true), (6, .lp lq (rc (if (walkR stp s (Pob.pre o0)).2 then some c0 else none)))] ∧ n = 8) := by
  refine FnU.intro Try.func44 rfl rfl (by simp [Try.ntmps44]) ?_ ?_
  · rintro q hp' nx' ⟨rfl, rfl, rfl⟩
    exact ⟨by simp only [↓noTHm_cons, noTHm, ↓noTBm_ints, ↓noTBm_net, noTBm, noTL, noT, noTL_cells, noTL_dcells, Bool.and_self], _, rfl, rfl⟩
  intro B_
  simp only [argEnv, Try.ntmps44, Try.results44]
  refine AWT.post ?_
  refine AWT.rLC ?_
  refine OpsT.cTU [0, 1, 2, 3, 4, 5, 6, 7] (wr_all gl l o0 stp c0 I hI lq rc hY 16777216 (Nat.le_refl _) s o0 hs h) ?_
  refine OpsT.rn ?_
  refine OpsT.nil ?_
  refine ⟨rfl, ⟨6, [], [(0, .cells [.map 1]), (1, mapOf KI VI (netL l)), (2, .cells [.map 3]), (3, setOf (fun n => AV.int .i64 n) ((walkR stp s (Pob.pre o0)).1).1), (4, .cells [.row 7 0 ((walkR stp s (Pob.pre o0)).1).2.length]), (5, .cells (Pob.cells o0)), (7, .row 6 (objsAV ((walkR stp s (Pob.pre o0)).1).2) true), (6, .lp lq (rc (if (walkR stp s (Pob.pre o0)).2 then some c0 else none)))], 8, gl, 7, []⟩, (St.le.vw [0, 1, 2, 3, 4, 5, 6, 8] (hpre := (by decide : ∀ i, i < 7 → nth [0, 1, 2, 3, 4, 5, 6, 8] i = some i))), ?_⟩
  refine wk ?_
  all_goals first | contradiction | rfl | (simp; done) | (simp; omega)

end Go.Proofs

namespace Go.Proofs
open Go Aw
set_option linter.unusedSimpArgs false
set_option linter.unusedVariables false
set_option maxRecDepth 100000
set_option maxHeartbeats 1000000
attribute [local go_sem ↓ high] noTBm_net
attribute [local go_sem] mres netL_nil
theorem c_graph_of_bad (gl : List (Nat × AV)) (d : Dc) (hv : ¬ docE d = 0) (h : d.bulk ≤ 16777216) : FnP Try.prog (gl) 23 [.agg d.cells] fun r => r = .ret (.tup [.raw (.map none), .bool false]) := by
  refine FnP.intro Try.func23 rfl rfl (by simp [Try.ntmps23]) ?_
  simp only [argEnv, Try.ntmps23, Try.results23]
  refine AW.rS ?_
  refine AW.seq ?_
  refine AW.rSC ?_
  refine awOps.cons (awGuard.c1 (c_docs_Check _ d h) ?_)
  refine awOps.rn ?_
  refine AW.c2 ?_ ?_
  · intro h6
    refine AW.rS ?_
    refine AW.rt ?_
    all_goals first | contradiction | rfl | (simp; done) | (simp; omega)
  · intro h6
    exact absurd h6 hv
theorem h_graph_rising (gl : List (Nat × AV)) (s : List Int) (hwf : ∀ x ∈ s, (Lit.int .i64 x).wf = true) (hl : s.length ≤ 16777216) :
    FnT (fun _ => True) Try.prog gl 25 [.map 0] [(0, setOf (fun n => AV.int .i64 n) s)] 1 fun r h n => r = .ret (.sl (intsAV (sortI s))) ∧ h = [(0, setOf (fun n => AV.int .i64 n) s)] ∧ n = 1 := by
  refine FnT.intro Try.func25 rfl rfl (by simp [Try.ntmps25]) ?_ ?_
  · rintro q hp' nx' ⟨rfl, rfl, rfl⟩
    exact ⟨by simp only [↓noTHm_cons, noTHm, ↓noTBm_ints, Bool.and_self], _, rfl, rfl⟩
  intro B_
  simp only [argEnv, Try.ntmps25, Try.results25]
  refine AWT.rS ?_
  refine AWT.rSC ?_
  refine OpsT.cN [0] (FnT.ofH (h_maps_Keys _ _)) ?_
  refine OpsT.rn ?_
  refine OpsT.cN [0, 1] (h_slices_Sorted _ s hwf hl) ?_
  refine OpsT.rn ?_
  refine OpsT.nil ?_
  refine AWT.pre (σ' := ⟨6, [(2, .sl (intsAV (sortI s)))], [(0, setOf (fun n => AV.int .i64 n) s)], 1, gl, 1, []⟩) (St.le.vw [0] (hpre := (by decide : ∀ i, i < 1 → nth [0] i = some i))) ?_
  refine AWT.rt ?_
  trivial
end Go.Proofs

namespace Aw
open Go
def dangStp (l : List Itm) (s : List Int) (r : Pob) : List Int × Bool := (if leadB l r then s else setAdd s r.num, false)
def dangAll (d : Dc) (s : List Int) (_ : Int) (o : Pob) : List Int := (walkR (dangStp d.items) s o.pre).1
def dangS (d : Dc) : List Int := foldI (dangAll d) (dangAll d [] 0 d.trailer) d.items
def danglingP (d : Dc) : List Int := if docE d = 0 then sortI (dangS d) else []
section
variable {S : Type} {stp : S → Pob → S × Bool}
theorem walkR_cons (s : S) (o : Pob) (l : List Pob) : walkR stp s (o :: l) = if o.kind = 8 then (if (stp s o).2 then ((stp s o).1, true) else walkR stp (stp s o).1 l) else walkR stp s l := by
  by_cases hk : o.kind = 8
  · simp only [walkR, runL, refW, if_pos hk]
  · simp only [walkR, runL, refW, if_neg hk, Bool.false_eq_true, if_false]
theorem walkR_last (h : ∀ s o, (stp s o).2 = false) (l : List Pob) (s : S) : (walkR stp s l).2 = false := by
  induction l generalizing s with
  | nil => rfl
  | cons o l ih =>
    rw [walkR_cons]
    split
    · rw [if_neg (by rw [h]; simp)]; exact ih _
    · exact ih _
theorem walkR_len {f : S → Nat} (h : ∀ s o, f (stp s o).1 ≤ f s + 1) (l : List Pob) (s : S) : f (walkR stp s l).1 ≤ f s + l.length := by
  induction l generalizing s with
  | nil => simp [walkR_nil]
  | cons o l ih =>
    rw [walkR_cons]
    simp only [List.length_cons]
    split
    · split
      · have := h s o; simp only; omega
      · have := h s o; have := ih (stp s o).1; omega
    · have := ih s; omega
theorem foldI_len {S : Type} {f : S → Nat} {g : S → Int → Pob → S} (h : ∀ s n o, f (g s n o) ≤ f s + o.bulk) (l : List Itm) (s : S) : f (foldI g s l) ≤ f s + ibulk l := by
  induction l generalizing s with
  | nil => simp [foldI, ibulk]
  | cons i l ih =>
    have h1 := h s i.num i.obj
    have h2 := ih (g s i.num i.obj)
    simp only [foldI, List.foldl_cons, ibulk, List.map_cons, List.sum_cons] at h2 ⊢
    omega
theorem foldI_mem {S : Type} {g : S → Int → Pob → S} {M : S → Int → Prop} {A : Int → Pob → Int → Prop} (h : ∀ s n o x, M (g s n o) x ↔ M s x ∨ A n o x) (l : List Itm) (s : S) (x : Int) : M (foldI g s l) x ↔ M s x ∨ ∃ i ∈ l, A i.num i.obj x := by
  induction l generalizing s with
  | nil => simp [foldI]
  | cons i l ih =>
    have e : foldI g s (i :: l) = foldI g (g s i.num i.obj) l := rfl
    rw [e, ih, h]
    simp only [List.mem_cons, exists_eq_or_imp, or_assoc]
end
theorem dang_last (l : List Itm) (s : List Int) (o : Pob) : (dangStp l s o).2 = false := rfl
theorem dang_len1 (l : List Itm) (s : List Int) (o : Pob) : (dangStp l s o).1.length ≤ s.length + 1 := by
  simp only [dangStp]
  split
  · omega
  · unfold setAdd
    split
    · omega
    · simp
theorem dangAll_len (d : Dc) (s : List Int) (n : Int) (o : Pob) : (dangAll d s n o).length ≤ s.length + o.bulk := by
  have h1 := walkR_len (f := List.length) (dang_len1 d.items) o.pre s
  have h2 := Pob.pre_le o
  unfold dangAll
  omega
theorem dangS_len (d : Dc) : (dangS d).length ≤ d.bulk := by
  have h1 := foldI_len (f := List.length) (dangAll_len d) d.items (dangAll d [] 0 d.trailer)
  have h2 := dangAll_len d [] 0 d.trailer
  have hb : d.bulk = ibulk d.items + d.trailer.bulk := rfl
  unfold dangS
  simp only [List.length_nil] at h2
  omega
theorem dangW_mem (l : List Itm) (L : List Pob) (s : List Int) (x : Int) : x ∈ (walkR (dangStp l) s L).1 ↔ x ∈ s ∨ ∃ p ∈ L, p.kind = 8 ∧ leadB l p = false ∧ p.num = x := by
  induction L generalizing s with
  | nil => simp [walkR_nil]
  | cons o L ih =>
    rw [walkR_cons]
    by_cases hk : o.kind = 8
    · rw [if_pos hk, if_neg (by simp [dangStp]), ih]
      simp only [dangStp, List.mem_cons, exists_eq_or_imp, hk, true_and]
      cases hl : leadB l o
      · simp only [Bool.false_eq_true, if_false, mem_setAdd, true_and]
        constructor
        · rintro ((h | rfl) | h)
          · exact .inl h
          · exact .inr (.inl rfl)
          · exact .inr (.inr h)
        · rintro (h | rfl | h)
          · exact .inl (.inl h)
          · exact .inl (.inr rfl)
          · exact .inr h
      · simp
    · rw [if_neg hk, ih]
      simp [hk]
theorem dangS_mem (d : Dc) (x : Int) : x ∈ dangS d ↔ ∃ q ∈ allL d, ∃ p ∈ q.2.pre, p.kind = 8 ∧ leadB d.items p = false ∧ p.num = x := by
  have h := foldI_mem (g := dangAll d) (M := fun s x => x ∈ s) (A := fun _ o x => ∃ p ∈ o.pre, p.kind = 8 ∧ leadB d.items p = false ∧ p.num = x) (fun s n o x => dangW_mem d.items o.pre s x) d.items (dangAll d [] 0 d.trailer) x
  unfold dangS
  rw [h, dangAll, dangW_mem]
  simp only [List.not_mem_nil, false_or, allL, List.mem_cons, List.mem_map]
  constructor
  · rintro (h | ⟨i, hi, h⟩)
    · exact ⟨_, .inl rfl, h⟩
    · exact ⟨_, .inr ⟨i, hi, rfl⟩, h⟩
  · rintro ⟨q, rfl | ⟨i, hi, rfl⟩, h⟩
    · exact .inl h
    · exact .inr ⟨i, hi, h⟩
theorem doc_chk {d : Dc} (h : docE d = 0) : ∀ q ∈ allL d, ∃ k, chk q.2 k = 0 := by
  intro q hq
  rcases List.mem_cons.1 hq with rfl | hq
  · refine ⟨1, ?_⟩
    have h1 := docE_trail h
    by_cases hc : chk d.trailer 1 = 0
    · exact hc
    · rw [trail_bad hc] at h1
      exact absurd h1 hc
  · obtain ⟨i, hi, rfl⟩ := List.mem_map.1 hq
    obtain ⟨j, hj, rfl⟩ := List.mem_iff_getElem.1 hi
    have h1 := (items_ok.1 (docE_items h) j hj).2.2
    rw [List.getD_eq_getElem?_getD, List.getElem?_eq_getElem hj] at h1
    simp only [Option.getD_some] at h1
    refine ⟨1, ?_⟩
    by_cases hc : chk d.items[j].obj 1 = 0
    · exact hc
    · exfalso
      unfold contentE at h1
      simp_all
theorem dangS_wf {d : Dc} (h : docE d = 0) : ∀ x ∈ dangS d, 1 ≤ x ∧ x ≤ 8191 := by
  intro x hx
  obtain ⟨q, hq, p, hp, hk, _, rfl⟩ := (dangS_mem d x).1 hx
  obtain ⟨k, hc⟩ := doc_chk h q hq
  have := chk_pre q.2 k hc p hp hk
  simpa [refB, hk] using this
theorem litwf {x : Int} (h : 1 ≤ x ∧ x ≤ 8191) : (Lit.int .i64 x).wf = true := by
  have e1 : IntKind.i64.min = -9223372036854775808 := by decide
  have e2 : IntKind.i64.max = 9223372036854775807 := by decide
  simp only [Lit.wf, e1, e2, Bool.and_eq_true, decide_eq_true_eq]
  omega
end Aw

namespace Aw
open Go
def usesB (l : List Itm) (num : Int) (r : Pob) : Bool := leadB l r && decide ((leadI l r).num = num)
def usesStp (l : List Itm) (num user : Int) (s : List Int) (r : Pob) : List Int × Bool := if usesB l num r then (setAdd s user, true) else (s, false)
def usersAll (d : Dc) (num : Int) (s : List Int) (user : Int) (o : Pob) : List Int := (walkR (usesStp d.items num user) s o.pre).1
def usersS (d : Dc) (num : Int) : List Int := foldI (usersAll d num) (usersAll d num [] 0 d.trailer) d.items
def thereB (d : Dc) (num : Int) : Bool := (mfind (netL d.items) num).isSome
def usersP (d : Dc) (num : Int) : List Int := if docE d = 0 then (if thereB d num then sortI (usersS d num) else []) else []
theorem usesW_res (l : List Itm) (num user : Int) (L : List Pob) (s : List Int) : (walkR (usesStp l num user) s L).1 = if L.any (fun p => decide (p.kind = 8) && usesB l num p) then setAdd s user else s := by
  induction L generalizing s with
  | nil => simp [walkR_nil]
  | cons o L ih =>
    rw [walkR_cons]
    by_cases hk : o.kind = 8
    · rw [if_pos hk]
      cases hu : usesB l num o
      · simp [usesStp, hu, ih, hk]
      · simp [usesStp, hu, hk]
    · rw [if_neg hk, ih]
      simp [hk]
theorem users_len1 (l : List Itm) (num user : Int) (s : List Int) (o : Pob) : (usesStp l num user s o).1.length ≤ s.length + 1 := by
  simp only [usesStp]
  split
  · unfold setAdd
    split
    · exact Nat.le_succ _
    · simp
  · exact Nat.le_succ _
theorem usersAll_len (d : Dc) (num : Int) (s : List Int) (n : Int) (o : Pob) : (usersAll d num s n o).length ≤ s.length + o.bulk := by
  have h1 := walkR_len (f := List.length) (users_len1 d.items num n) o.pre s
  have h2 := Pob.pre_le o
  unfold usersAll
  omega
theorem usersS_len (d : Dc) (num : Int) : (usersS d num).length ≤ d.bulk := by
  have h1 := foldI_len (f := List.length) (usersAll_len d num) d.items (usersAll d num [] 0 d.trailer)
  have h2 := usersAll_len d num [] 0 d.trailer
  have hb : d.bulk = ibulk d.items + d.trailer.bulk := rfl
  unfold usersS
  simp only [List.length_nil] at h2
  omega
theorem usersW_mem (d : Dc) (num : Int) (s : List Int) (n : Int) (o : Pob) (x : Int) : x ∈ usersAll d num s n o ↔ x ∈ s ∨ (o.pre.any (fun p => decide (p.kind = 8) && usesB d.items num p) = true ∧ x = n) := by
  unfold usersAll
  rw [usesW_res]
  cases h : o.pre.any (fun p => decide (p.kind = 8) && usesB d.items num p)
  · simp
  · simp [mem_setAdd]
theorem usersS_mem (d : Dc) (num x : Int) : x ∈ usersS d num ↔ ∃ q ∈ allL d, q.2.pre.any (fun p => decide (p.kind = 8) && usesB d.items num p) = true ∧ x = q.1 := by
  have h := foldI_mem (g := usersAll d num) (M := fun s x => x ∈ s) (A := fun n o x => o.pre.any (fun p => decide (p.kind = 8) && usesB d.items num p) = true ∧ x = n) (fun s n o x => usersW_mem d num s n o x) d.items (usersAll d num [] 0 d.trailer) x
  unfold usersS
  rw [h, usersW_mem]
  simp only [List.not_mem_nil, false_or, allL, List.mem_cons, List.mem_map]
  constructor
  · rintro (h | ⟨i, hi, h⟩)
    · exact ⟨_, .inl rfl, h⟩
    · exact ⟨_, .inr ⟨i, hi, rfl⟩, h⟩
  · rintro ⟨q, rfl | ⟨i, hi, rfl⟩, h⟩
    · exact .inl h
    · exact .inr ⟨i, hi, h⟩
theorem items_num {d : Dc} (h : docE d = 0) : ∀ i ∈ d.items, 1 ≤ i.num ∧ i.num ≤ 8191 := by
  intro i hi
  obtain ⟨j, hj, rfl⟩ := List.mem_iff_getElem.1 hi
  have h1 := (items_ok.1 (docE_items h) j hj).1
  rw [List.getD_eq_getElem?_getD, List.getElem?_eq_getElem hj] at h1
  simp only [Option.getD_some, numsB, Bool.and_eq_true, decide_eq_true_eq] at h1
  omega
theorem usersS_wf {d : Dc} (h : docE d = 0) (num : Int) : ∀ x ∈ usersS d num, 0 ≤ x ∧ x ≤ 8191 := by
  intro x hx
  obtain ⟨q, hq, _, rfl⟩ := (usersS_mem d num x).1 hx
  rcases List.mem_cons.1 hq with rfl | hq
  · simp
  · obtain ⟨i, hi, rfl⟩ := List.mem_map.1 hq
    have := items_num h i hi
    exact ⟨by simp only; omega, this.2⟩
theorem litwf0 {x : Int} (h : 0 ≤ x ∧ x ≤ 8191) : (Lit.int .i64 x).wf = true := by
  have e1 : IntKind.i64.min = -9223372036854775808 := by decide
  have e2 : IntKind.i64.max = 9223372036854775807 := by decide
  simp only [Lit.wf, e1, e2, Bool.and_eq_true, decide_eq_true_eq]
  omega
end Aw

namespace Aw
open Go
def reachB (l : List Itm) (m : List Int) (r : Pob) : Bool := leadB l r && !decide ((leadI l r).num ∈ m)
def reachStp (l : List Itm) (s : List Int × List Pob) (r : Pob) : (List Int × List Pob) × Bool :=
  (if reachB l s.1 r then (setAdd s.1 (leadI l r).num, s.2 ++ [(leadI l r).obj]) else s, false)
theorem reach_last (l : List Itm) (s : List Int × List Pob) (o : Pob) : (reachStp l s o).2 = false := rfl
/-- the numbers met so far are numbers of items -/
def reachI (l : List Itm) (s : List Int × List Pob) : Prop := s.1.Nodup ∧ (∀ n ∈ s.1, n ∈ l.map (·.num)) ∧ s.2.length ≤ 1 + s.1.length
theorem nodup_le {α : Type} [DecidableEq α] : ∀ {a b : List α}, a.Nodup → (∀ x ∈ a, x ∈ b) → a.length ≤ b.length
  | [], b, _, _ => by simp
  | x :: a, b, hn, hs => by
    have hx := hs x List.mem_cons_self
    obtain ⟨b1, b2, rfl⟩ := List.append_of_mem hx
    rw [List.nodup_cons] at hn
    have := nodup_le (a := a) (b := b1 ++ b2) hn.2 (fun y hy => by
      have := hs y (List.mem_cons_of_mem _ hy)
      simp only [List.mem_append, List.mem_cons] at this ⊢
      rcases this with h | rfl | h
      · exact .inl h
      · exact absurd hy hn.1
      · exact .inr h)
    simp only [List.length_append, List.length_cons] at this ⊢
    omega
theorem mfind_mem {κ ν : Type} [DecidableEq κ] {l : List (κ × ν)} {k : κ} {v : ν} (h : mfind l k = some v) : (k, v) ∈ l := by
  induction l with
  | nil => simp [mfind] at h
  | cons p l ih =>
    simp only [mfind] at h
    split at h
    · rename_i e
      injection h with h
      rw [← e, ← h]
      exact List.mem_cons_self
    · exact List.mem_cons_of_mem _ (ih h)
theorem lead_mem {l : List Itm} {r : Pob} (h : leadB l r = true) : leadI l r ∈ l ∧ (leadI l r).num = r.num ∧ (leadI l r).gen = r.gen := by
  unfold leadB at h
  simp only [Bool.and_eq_true, decide_eq_true_eq] at h
  obtain ⟨v, hv⟩ := Option.isSome_iff_exists.1 h.1
  have hi : leadI l r = v := by unfold leadI; rw [hv]; rfl
  have hm := mfind_mem hv
  simp only [netL, List.mem_map, Prod.mk.injEq] at hm
  obtain ⟨i, hi1, e1, rfl⟩ := hm
  rw [hi]
  exact ⟨hi1, e1, by rw [← hi]; exact h.2⟩
theorem reachI_stp {l : List Itm} (s : List Int × List Pob) (o : Pob) (h : reachI l s) : reachI l (reachStp l s o).1 := by
  simp only [reachStp]
  split
  · rename_i hb
    simp only [reachB, Bool.and_eq_true, Bool.not_eq_true', decide_eq_false_iff_not] at hb
    obtain ⟨h1, h2, h3⟩ := h
    have e : setAdd s.1 (leadI l o).num = s.1 ++ [(leadI l o).num] := by rw [setAdd, if_neg hb.2]
    rw [e]
    refine ⟨?_, ?_, ?_⟩
    · rw [List.nodup_append]
      refine ⟨h1, by simp, fun x hx y hy => ?_⟩
      simp only [List.mem_singleton] at hy
      subst hy
      intro e
      subst e
      exact hb.2 hx
    · intro n hn
      rcases List.mem_append.1 hn with hn | hn
      · exact h2 n hn
      · simp only [List.mem_singleton] at hn
        subst hn
        exact List.mem_map.2 ⟨_, (lead_mem hb.1).1, rfl⟩
    · simp only [List.length_append, List.length_cons, List.length_nil]
      omega
  · exact h
theorem reachI_len {l : List Itm} {s : List Int × List Pob} (h : reachI l s) : s.1.length ≤ l.length ∧ s.2.length ≤ 1 + l.length := by
  have := nodup_le h.1 h.2.1
  simp only [List.length_map] at this
  have := h.2.2
  omega
def reachM (l : List Itm) (s : List Int × List Pob) : Nat := 2 * (l.length - s.1.length) + s.2.length
/-- one more object is looked through -/
def popS (l : List Itm) (s : List Int × List Pob) : List Int × List Pob := (walkR (reachStp l) (s.1, s.2.take (s.2.length - 1)) (s.2.getD (s.2.length - 1) Pob.null).pre).1
theorem pop_inv {l : List Itm} {s : List Int × List Pob} (h : reachI l s) : reachI l (s.1, s.2.take (s.2.length - 1)) :=
  ⟨h.1, h.2.1, by have := h.2.2; simp only [List.length_take]; omega⟩
theorem popS_inv {l : List Itm} {s : List Int × List Pob} (h : reachI l s) : reachI l (popS l s) := walkR_inv (fun s o => reachI_stp s o) _ _ (pop_inv h)
theorem walk_M {l : List Itm} (L : List Pob) (s : List Int × List Pob) (h : reachI l s) : reachM l (walkR (reachStp l) s L).1 ≤ reachM l s := by
  induction L generalizing s with
  | nil => simp [walkR_nil]
  | cons o L ih =>
    rw [walkR_cons]
    split
    · rw [if_neg (by rw [reach_last]; simp)]
      refine Nat.le_trans (ih _ (reachI_stp s o h)) ?_
      have hl := reachI_len (reachI_stp s o h)
      simp only [reachStp] at hl ⊢
      split
      · rename_i hb
        rw [if_pos hb] at hl
        simp only [reachB, Bool.and_eq_true, Bool.not_eq_true', decide_eq_false_iff_not] at hb
        have e : setAdd s.1 (leadI l o).num = s.1 ++ [(leadI l o).num] := by rw [setAdd, if_neg hb.2]
        rw [e] at hl ⊢
        simp only [reachM, List.length_append, List.length_cons, List.length_nil] at hl ⊢
        omega
      · exact Nat.le_refl _
    · exact ih s h
theorem popS_M {l : List Itm} {s : List Int × List Pob} (h : reachI l s) (hn : 0 < s.2.length) : reachM l (popS l s) < reachM l s := by
  have := walk_M (s.2.getD (s.2.length - 1) Pob.null).pre _ (pop_inv h)
  unfold popS
  refine Nat.lt_of_le_of_lt this ?_
  simp only [reachM, List.length_take]
  omega
def reachF (l : List Itm) : Nat → List Int × List Pob → List Int
  | 0, s => s.1
  | f + 1, s => if 0 < s.2.length then reachF l f (popS l s) else s.1
theorem reachF_more {l : List Itm} : ∀ (f g : Nat) (s : List Int × List Pob), reachI l s → reachM l s ≤ f → reachM l s ≤ g → reachF l f s = reachF l g s
  | f, g, s, hi, hf, hg => by
    by_cases hn : 0 < s.2.length
    · have hm := popS_M hi hn
      obtain ⟨f', rfl⟩ : ∃ f', f = f' + 1 := ⟨f - 1, by omega⟩
      obtain ⟨g', rfl⟩ : ∃ g', g = g' + 1 := ⟨g - 1, by omega⟩
      simp only [reachF, if_pos hn]
      exact reachF_more f' g' _ (popS_inv hi) (by omega) (by omega)
    · have e : ∀ h, reachF l h s = s.1 := fun h => by cases h <;> simp [reachF, hn]
      rw [e, e]
/-- the numbers reached from an object, as they are met -/
def reachS (l : List Itm) (o : Pob) : List Int := reachF l (2 * l.length + 1) ([], [o])
theorem reachI_top (l : List Itm) (o : Pob) : reachI l ([], [o]) := ⟨List.nodup_nil, by simp, by simp⟩
def reachJ (l : List Itm) (o : Pob) (s : List Int × List Pob) : Prop := reachI l s ∧ reachF l (reachM l s) s = reachS l o
theorem reachJ_top (l : List Itm) (o : Pob) : reachJ l o ([], [o]) := ⟨reachI_top l o, by
  unfold reachS
  exact reachF_more _ _ _ (reachI_top l o) (Nat.le_refl _) (by simp [reachM])⟩
theorem reachJ_pop {l : List Itm} {o : Pob} {s : List Int × List Pob} (h : reachJ l o s) (hn : 0 < s.2.length) : reachJ l o (popS l s) := by
  refine ⟨popS_inv h.1, ?_⟩
  rw [← h.2]
  have hm := popS_M h.1 hn
  obtain ⟨f, hf⟩ : ∃ f, reachM l s = f + 1 := ⟨reachM l s - 1, by omega⟩
  rw [hf]
  simp only [reachF, if_pos hn]
  exact reachF_more _ _ _ (popS_inv h.1) (Nat.le_refl _) (by omega)
theorem reachJ_end {l : List Itm} {o : Pob} {s : List Int × List Pob} (h : reachJ l o s) (hn : ¬ 0 < s.2.length) : s.1 = reachS l o := by
  rw [← h.2]
  cases reachM l s <;> simp [reachF, hn]
/-- what is still to be looked through is of some size -/
def reachK (k : Nat) (s : List Int × List Pob) : Prop := ∀ p ∈ s.2, p.bulk ≤ k
theorem reachK_stp {l : List Itm} {k : Nat} (hb : ∀ i ∈ l, i.obj.bulk ≤ k) (s : List Int × List Pob) (o : Pob) (h : reachK k s) : reachK k (reachStp l s o).1 := by
  simp only [reachStp]
  split
  · rename_i hr
    simp only [reachB, Bool.and_eq_true] at hr
    intro p hp
    rcases List.mem_append.1 hp with hp | hp
    · exact h p hp
    · simp only [List.mem_singleton] at hp
      subst hp
      exact hb _ (lead_mem hr.1).1
  · exact h
theorem popK {k : Nat} {s : List Int × List Pob} (h : reachK k s) : reachK k (s.1, s.2.take (s.2.length - 1)) := fun p hp => h p (List.mem_of_mem_take hp)
theorem popS_K {l : List Itm} {k : Nat} (hb : ∀ i ∈ l, i.obj.bulk ≤ k) {s : List Int × List Pob} (h : reachK k s) : reachK k (popS l s) := walkR_inv (fun s o => reachK_stp hb s o) _ _ (popK h)
theorem reachK_at {k : Nat} {s : List Int × List Pob} (h : reachK k s) (hn : 0 < s.2.length) : (s.2.getD (s.2.length - 1) Pob.null).bulk ≤ k := by
  rw [List.getD_eq_getElem?_getD, List.getElem?_eq_getElem (by omega)]
  exact h _ (List.getElem_mem _)
end Aw
