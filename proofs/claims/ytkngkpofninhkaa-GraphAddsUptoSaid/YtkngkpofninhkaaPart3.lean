/- A part of the proof: no condition of its own. -/
import Derived.Test.YtkngkpofninhkaaPart2
import Derived.JoinedCond
import Derived.Test.YtkngkpofninhkaaRows
import Derived.Shelf.Small.Strs
import Derived.Test.YtkngkpofninhkaaProg
import Derived.Shelf.SlIterI.Sorted
import Derived.Shelf.Sort.Plain
import Derived.Shelf.Slices.In.SortNone
namespace Go.Proofs.Ytkngkpofninhkaa
open Go Aw
theorem own : ownKnob Try.prog.godebug = none := by kernel_rfl
theorem laidOut : laidOutB Try.prog = true := by kernel_rfl
theorem objT : ObjT Try.prog 26 3 2 9 23 24 where
  o := ⟨_, Try.underlying26, rfl⟩
  i := Try.underlying3
  l := Try.underlying2
  s := Try.underlying9
  ks := Try.underlying23
  os := Try.underlying24
  c := by and_intros <;> kernel_rfl
theorem docT : DocT Try.prog 26 3 2 9 23 24 36 22 28 where
  o := objT
  it := ⟨_, Try.underlying36, rfl⟩
  its := Try.underlying22
  d := ⟨_, Try.underlying28, rfl⟩
  c := by and_intros <;> kernel_rfl
mutual
theorem dle_upto {H : Type} : ∀ d : DataW H, dbulk d ≤ Rows.uptoBulk d
  | .lit (.string _) => by simp only [dbulk, Rows.uptoBulk]; omega
  | .lit (.bool _) => by simp only [dbulk, Rows.uptoBulk]; omega
  | .lit (.int _ _) => by simp only [dbulk, Rows.uptoBulk]; omega
  | .lit (.float _ _) => by simp only [dbulk, Rows.uptoBulk]; omega
  | .lit .nil => by simp only [dbulk, Rows.uptoBulk]; omega
  | .nil => by simp only [dbulk, Rows.uptoBulk]; omega
  | .ptr d => by have := dle_upto d; simp only [dbulk, Rows.uptoBulk]; omega
  | .slice es sp => by have := dles_upto es; have := dles_upto sp; simp only [dbulk, Rows.uptoBulk]; omega
  | .agg ps => by have := dles_upto ps; simp only [dbulk, Rows.uptoBulk]; omega
  | .iface _ d => by have := dle_upto d; simp only [dbulk, Rows.uptoBulk]; omega
  | .map _ => by simp only [dbulk, Rows.uptoBulk]; omega
  | .held _ => by simp only [dbulk, Rows.uptoBulk]; omega
theorem dles_upto {H : Type} : ∀ l : List (DataW H), dbulks l ≤ Rows.uptoBulkAll l
  | [] => by simp only [dbulks, Rows.uptoBulkAll]; omega
  | d :: r => by have := dle_upto d; have := dles_upto r; simp only [dbulks, Rows.uptoBulkAll]; omega
end
end Go.Proofs.Ytkngkpofninhkaa

namespace Go.Proofs
open Go Aw
set_option linter.unusedSimpArgs false
set_option maxRecDepth 100000
set_option maxHeartbeats 4000000
theorem c_slices_Clone_string_string (gl : List (Nat × AV)) (ks : List (List UInt8)) (hk : ks.length ≤ 16777216 := by first | omega | exact u8_le _ | assumption | (simp; done) | (simp; omega)) : FnP Try.prog (gl) 82 [.sl (strsAV ks)] fun r => r = .ret (.sl (strsAV ks)) := by
  refine FnP.intro Try.func82 rfl rfl (by simp [Try.ntmps82]) ?_
  simp only [argEnv, Try.ntmps82, Try.results82]
  refine AW.rS ?_
  refine AW.seq ?_
  refine AW.rSC ?_
  refine awOps.cons (awGuard.nS ?_)
  intro b4 hb4
  simp only [nilBool]
  refine awOps.rn ?_
  refine AW.c2 ?_ ?_
  · intro h6
    refine AW.rS ?_
    refine AW.pre (St.le.nilrow 2 1 (by (simp only [go_sem, seval]; try (simp (disch := omega) only [zq]; try (simp only [go_sem, seval]; try (simp (disch := omega) only [zq]; try simp only [go_sem, seval])))))) ?_
    refine wk ?_
    refine AW.rt ?_
    rw [nil_strs hb4 h6, strsAV_nil]
  · intro h6
    refine AW.skip ?_
    refine AW.rS ?_
    refine AW.rt ?_
    all_goals first | contradiction | rfl | (simp; done) | (simp; omega)
theorem c_value_Clone_1 (gl : List (Nat × AV)) (o : Pob) : FnP Try.prog (gl) 72 [.agg o.cells] fun r => r = .ret (.agg o.cells) := by
  refine FnP.intro Try.func72 rfl rfl (by simp [Try.ntmps72]) ?_
  simp only [argEnv, Try.ntmps72, Try.results72]
  refine AW.rS ?_
  refine AW.rS ?_
  refine AW.rt ?_
  all_goals first | contradiction | rfl | (simp; done) | (simp; omega)
end Go.Proofs

namespace Go.Proofs
open Go Aw
set_option linter.unusedSimpArgs false
set_option maxRecDepth 100000
set_option maxHeartbeats 4000000
theorem changed_step (gl : List (Nat × AV)) (N : Nat) (hN : N ≤ 16777216) (ih : ∀ o' : Pob, o'.bulk < N → FnP Try.prog gl 71 [.agg o'.cells, .clos 72 []] fun r => r = .ret (.agg o'.cells)) (o : Pob) (_ : o.bulk ≤ N) (hk : o.keys.length ≤ N) (hl : o.kids.length ≤ N) (hb : ∀ i, i < o.kids.length → (o.kids.getD i Pob.null).bulk < N) : FnP Try.prog (gl) 71 [.agg o.cells, .clos 72 []] fun r => r = .ret (.agg o.cells) := by
  refine FnP.intro Try.func71 rfl rfl (by simp [Try.ntmps71]) ?_
  simp only [argEnv, Try.ntmps71, Try.results71]
  refine AW.rS ?_
  refine AW.rSC ?_
  refine awOps.cons (awGuard.c1 (c_value_Clone_1 _ o) ?_)
  refine awOps.rn ?_
  refine AW.rSC ?_
  refine awOps.cons (awGuard.c1 (c_slices_Clone_string_string _ o.keys) ?_)
  refine awOps.rn ?_
  refine AW.seq ?_
  refine AW.rSC ?_
  refine awOps.cons (awGuard.nS ?_)
  intro b10 hb10
  simp only [nilBool]
  refine awOps.rn ?_
  refine AW.c2 ?_ ?_
  · intro h12
    refine AW.rS ?_
    refine AW.seq ?_
    refine AW.rS ?_
    refine AW.block ?_
    refine AW.lk (S := { i : Nat // i ≤ o.kids.length }) [1, 2, 4, 5, 23, 24] (fun s_ => [(25, .int .i64 s_.1)]) (fun s_ => [(0, .cells [.int .i64 o.kind, .int .i64 o.num, .int .i64 o.gen, .str o.str, .sl (strsAV o.keys), .sl (objsAV o.kids)]), (1, .cells [.int .i64 0, .int .i64 0, .int .i64 0, .str [], .raw (.slice none 0 0), .raw (.slice none 0 0)]), (2, .row 6 (fillO o.kids s_.1) true)]) 3 (fun s_ => o.kids.length - s_.1) ⟨0, Nat.zero_le _⟩ ?_ ?_
    · refine St.le.vw [0, 1, 2]
    rintro ⟨i, hi⟩
    try dsimp only at hi
    refine AW.rS ?_
    refine AW.seq ?_
    refine AW.c2 ?_ ?_
    · intro h20
      refine AW.skip ?_
      refine AW.seq ?_
      refine AW.block ?_
      refine AW.rS ?_
      refine AW.rLC ?_
      refine awOps.cons (awGuard.c1 (ih (o.kids.getD i Pob.null) (hb i (by omega))) ?_)
      refine awOps.rn ?_
      refine AW.rL ?_
      refine ⟨⟨i + 1, by omega⟩, ?_, ?_⟩
      · refine St.le.vw [0, 1, 2]
      · simp only []; omega
    · intro h20
      refine AW.exit ?_
      refine AW.rL ?_
      refine AW.rS ?_
      refine AW.rt ?_
      rw [fillO_all hi h20, objsAV_take_len]
  · intro h12
    refine AW.skip ?_
    refine AW.rS ?_
    refine AW.rt ?_
    all_goals first | contradiction | rfl | (simp; done) | (simp; omega)
theorem changed_clone (gl : List (Nat × AV)) (N : Nat) : N ≤ 16777216 → ∀ o : Pob, o.bulk ≤ N → FnP Try.prog gl 71 [.agg o.cells, .clos 72 []] fun r => r = .ret (.agg o.cells) := by
  induction N using Nat.strongRecOn with
  | ind N IH =>
    intro hN o ho
    have hb := Pob.bulk_eq o
    exact changed_step gl N hN (fun o' h => IH o'.bulk h (by omega) o' (Nat.le_refl _)) o ho (by omega) (by omega) (fun i hi => Nat.lt_of_lt_of_le (Pob.bulk_kid hi) ho)
theorem c_value_changed (gl : List (Nat × AV)) (o : Pob) (h : o.bulk ≤ 16777216 := by assumption) : FnP Try.prog gl 71 [.agg o.cells, .clos 72 []] fun r => r = .ret (.agg o.cells) := changed_clone gl 16777216 (Nat.le_refl _) o h
theorem c_value_Clone (gl : List (Nat × AV)) (o : Pob) (h : o.bulk ≤ 16777216 := by first | omega | exact u8_le _ | assumption | (simp; done) | (simp; omega)) : FnP Try.prog (gl) 49 [.agg o.cells] fun r => r = .ret (.agg o.cells) := by
  refine FnP.intro Try.func49 rfl rfl (by simp [Try.ntmps49]) ?_
  simp only [argEnv, Try.ntmps49, Try.results49]
  refine AW.rS ?_
  refine AW.rSC ?_
  refine awOps.cons (awGuard.c1 (c_value_changed _ o) ?_)
  refine awOps.rn ?_
  refine AW.rt ?_
  all_goals first | contradiction | rfl | (simp; done) | (simp; omega)
theorem c_value_keyed (gl : List (Nat × AV)) (o : Pob) : FnP Try.prog (gl) 58 [.agg o.cells] fun r => r = .ret (.bool (keyedB o.kind)) := by
  refine FnP.intro Try.func58 rfl rfl (by simp [Try.ntmps58]) ?_
  simp only [argEnv, Try.ntmps58, Try.results58]
  refine AW.rS ?_
  refine AW.rS ?_
  refine AW.rt ?_
  all_goals first | contradiction | rfl | (simp; done) | (simp; omega)
theorem c_slices_Index_string_string (gl : List (Nat × AV)) (ks : List (List UInt8)) (k : List UInt8) (hk : ks.length ≤ 16777216 := by first | omega | exact u8_le _ | assumption | (simp; done) | (simp; omega)) : FnP Try.prog (gl) 57 [.sl (strsAV ks), .str k] fun r => r = .ret (.int .i64 (kidxI ks k)) := by
  refine FnP.intro Try.func57 rfl rfl (by simp [Try.ntmps57]) ?_
  simp only [argEnv, Try.ntmps57, Try.results57]
  refine AW.rS ?_
  refine AW.seq ?_
  refine AW.rS ?_
  refine AW.block ?_
  refine AW.lk (S := { i : Nat // i ≤ ks.length ∧ ∀ j, j < i → ks.getD j [] ≠ k }) [0, 1, 7] (fun s_ => [(8, .int .i64 s_.1)]) (fun s_ => []) 0 (fun s_ => ks.length - s_.1) ⟨0, Nat.zero_le _, fun j h => absurd h (by omega)⟩ ?_ ?_
  · refine St.le.vw []
  rintro ⟨i, hi, hs⟩
  try dsimp only at hi
  try dsimp only at hs
  refine AW.rS ?_
  refine AW.seq ?_
  refine AW.c2 ?_ ?_
  · intro h8
    refine AW.skip ?_
    refine AW.seq ?_
    refine AW.block ?_
    refine AW.rS ?_
    refine AW.rS ?_
    refine AW.c2 ?_ ?_
    · intro h14
      refine AW.rS ?_
      refine AW.rt ?_
      rw [kidx_hit h8 hs h14]
    · intro h14
      refine AW.skip ?_
      refine AW.rL ?_
      refine ⟨⟨i + 1, by omega, fun j hj => by rcases Nat.lt_succ_iff_lt_or_eq.1 hj with h | rfl; exact hs j h; exact fun e => h14 e.symm⟩, ?_, ?_⟩
      · refine St.le.vw []
      · simp only []; omega
  · intro h8
    refine AW.exit ?_
    refine AW.rS ?_
    refine AW.rt ?_
    rw [kidx_miss (fun j hj => hs j (by omega))]
end Go.Proofs

namespace Go.Proofs
open Go Aw
set_option linter.unusedSimpArgs false
set_option maxRecDepth 100000
set_option maxHeartbeats 4000000
theorem c_value_Get (gl : List (Nat × AV)) (o : Pob) (key : List UInt8) (h : o.bulk ≤ 16777216 := by first | omega | exact u8_le _ | assumption | (simp; done) | (simp; omega)) : FnP Try.prog (gl) 39 [.agg o.cells, .str key] fun r => r = .ret (.tup [.agg (getO o key).cells, .bool (getB o key)]) := by
  refine FnP.intro Try.func39 rfl rfl (by simp [Try.ntmps39]) ?_
  simp only [argEnv, Try.ntmps39, Try.results39]
  have hb := Pob.bulk_eq o
  refine AW.rS ?_
  refine AW.seq ?_
  refine AW.rSC ?_
  refine awOps.cons (awGuard.c1 (c_value_keyed _ o) ?_)
  refine awOps.rn ?_
  refine AW.c2 ?_ ?_
  · intro h6
    refine AW.rS ?_
    refine AW.rt ?_
    rw [(get_unkeyed h6).1, (get_unkeyed h6).2]; rfl
  · intro h6
    refine AW.skip ?_
    refine AW.rSC ?_
    refine awOps.cons (awGuard.c1 (c_slices_Index_string_string _ o.keys key (by omega)) ?_)
    refine awOps.rn ?_
    refine AW.seq ?_
    refine AW.rS ?_
    refine AW.c2 ?_ ?_
    · intro h16
      refine AW.rS ?_
      refine AW.rt ?_
      rw [(get_miss h16).1, (get_miss h16).2]; rfl
    · intro h16
      refine AW.skip ?_
      refine AW.rSC ?_
      refine awOps.cons (awGuard.c1 (c_value_Clone _ (o.kids.getD (kidxI o.keys key).toNat Pob.null) (by have := Pob.bulk_kid (o := o) (i := (kidxI o.keys key).toNat) (by omega); omega)) ?_)
      refine awOps.rn ?_
      refine AW.rt ?_
      rw [(get_hit h6 h16).1, (get_hit h6 h16).2, ← Pob.cells_eq]
end Go.Proofs

namespace Go.Proofs
open Go Aw
set_option linter.unusedSimpArgs false
set_option linter.unusedVariables false
set_option maxRecDepth 100000
set_option maxHeartbeats 4000000
theorem c_docs_numbers (gl : List (Nat × AV)) (i : Itm) : FnP Try.prog (gl) 35 [.agg i.cells] fun r => r = .ret (.bool (decide (1 ≤ i.num) && decide (i.num ≤ 8191) && decide (0 ≤ i.gen) && decide (i.gen ≤ 65535))) := by
  refine FnP.intro Try.func35 rfl rfl (by simp [Try.ntmps35]) ?_
  simp only [argEnv, Try.ntmps35, Try.results35]
  refine AW.rS ?_
  refine AW.rS ?_
  refine AW.rt ?_
  simp only [Bool.cond_false_right]
theorem c_docs_copied (gl : List (Nat × AV)) (i : Itm) (h : i.obj.bulk ≤ 16777216 := by first | omega | exact u8_le _ | assumption | (simp; done) | (simp; omega)) : FnP Try.prog (gl) 50 [.agg i.cells] fun r => r = .ret (.agg i.cells) := by
  refine FnP.intro Try.func50 rfl rfl (by simp [Try.ntmps50]) ?_
  simp only [argEnv, Try.ntmps50, Try.results50]
  refine AW.rS ?_
  refine AW.rSC ?_
  refine awOps.cons (awGuard.c1 (c_value_Clone _ i.obj) ?_)
  refine awOps.rn ?_
  refine AW.rS ?_
  refine AW.rt ?_
  all_goals first | contradiction | rfl | (simp; done) | (simp; omega)
end Go.Proofs

namespace Go.Proofs
open Go Aw
set_option linter.unusedSimpArgs false
set_option linter.unusedVariables false
set_option maxRecDepth 100000
set_option maxHeartbeats 4000000

def badAV (e : Int) : AV := .iface 103 (.agg [.int .i64 e])
attribute [go_sem] badAV
theorem c_value_must (gl : List (Nat × AV)) (b : Bool) (e : Int) : FnP Try.prog (gl) 65 [.bool b, .int .i64 e] fun r => r = if b = true then .ret (.tup []) else .panic (badAV e) := by
  refine FnP.intro Try.func65 rfl rfl (by simp [Try.ntmps65]) ?_
  simp only [argEnv, Try.ntmps65, Try.results65]
  refine AW.rS ?_
  refine AW.c2 ?_ ?_
  · intro h2
    refine AW.rLC ?_
    refine awOps.cons (awGuard.pn ?_)
    refine wk ?_
    rw [if_neg (by simp [h2])]
  · intro h2
    refine AW.skip ?_
    refine wk ?_
    rw [if_pos h2]
end Go.Proofs

namespace Go.Proofs
open Go Aw
set_option linter.unusedSimpArgs false
set_option linter.unusedVariables false
set_option maxRecDepth 100000
set_option maxHeartbeats 4000000
theorem c_value_within_int64 (gl : List (Nat × AV)) (n a b : Int) : FnP Try.prog (gl) 79 [.int .i64 n, .int .i64 a, .int .i64 b] fun r => r = .ret (.bool (decide (a ≤ n) && decide (n ≤ b))) := by
  refine FnP.intro Try.func79 rfl rfl (by simp [Try.ntmps79]) ?_
  simp only [argEnv, Try.ntmps79, Try.results79]
  refine AW.rS ?_
  refine AW.rS ?_
  refine AW.rt ?_
  simp only [Bool.cond_false_right]
theorem c_value_within_int (gl : List (Nat × AV)) (n a b : Int) : FnP Try.prog (gl) 80 [.int .i64 n, .int .i64 a, .int .i64 b] fun r => r = .ret (.bool (decide (a ≤ n) && decide (n ≤ b))) := by
  refine FnP.intro Try.func80 rfl rfl (by simp [Try.ntmps80]) ?_
  simp only [argEnv, Try.ntmps80, Try.results80]
  refine AW.rS ?_
  refine AW.rS ?_
  refine AW.rt ?_
  simp only [Bool.cond_false_right]
theorem c_value_fits (gl : List (Nat × AV)) (o : Pob) : FnP Try.prog (gl) 67 [.agg o.cells] fun r => r = .ret (.bool (fitsB o)) := by
  refine FnP.intro Try.func67 rfl rfl (by simp [Try.ntmps67]) ?_
  simp only [argEnv, Try.ntmps67, Try.results67]
  refine AW.rS ?_
  refine AW.seq ?_
  refine AW.rS ?_
  refine AW.block ?_
  refine AW.rS ?_
  refine AW.c2 ?_ ?_
  · intro h6
    refine AW.rSC ?_
    refine awOps.cons (awGuard.c1 (c_value_within_int64 _ o.num 0 1) ?_)
    refine awOps.rn ?_
    refine AW.rt ?_
    simp_all [fitsB]
  · intro h6
    refine AW.rS ?_
    refine AW.c2 ?_ ?_
    · intro h13
      refine AW.rSC ?_
      refine awOps.cons (awGuard.c1 (c_value_within_int64 _ o.num (-2147483647) 2147483647) ?_)
      refine awOps.rn ?_
      refine AW.rt ?_
      simp_all [fitsB]
    · intro h13
      refine AW.rS ?_
      refine AW.c2 ?_ ?_
      · intro h20
        refine AW.rSC ?_
        refine awOps.cons (awGuard.c1 (c_value_within_int64 _ o.num (-1073741824) 1073741824) ?_)
        refine awOps.rn ?_
        refine AW.rt ?_
        simp_all [fitsB]
      · intro h20
        refine AW.rS ?_
        refine AW.c2 ?_ ?_
        · intro h27
          refine AW.rSC ?_
          refine awOps.cons (awGuard.c1 (c_value_within_int64 _ o.num 1 8191) ?_)
          refine awOps.rn ?_
          refine awOps.cons (awGuard.cG (fun hg => c_value_within_int _ o.gen 0 65535) ?_)
          refine awOps.rn ?_
          refine AW.rt ?_
          simp_all [fitsB]
        · intro h27
          refine AW.skip ?_
          refine AW.rS ?_
          refine AW.rt ?_
          simp_all [fitsB]
theorem c_value_short (gl : List (Nat × AV)) (o : Pob) : FnP Try.prog (gl) 68 [.agg o.cells] fun r => r = .ret (.bool (shortB o)) := by
  refine FnP.intro Try.func68 rfl rfl (by simp [Try.ntmps68]) ?_
  simp only [argEnv, Try.ntmps68, Try.results68]
  refine AW.rS ?_
  refine AW.seq ?_
  refine AW.rS ?_
  refine AW.block ?_
  refine AW.rS ?_
  refine AW.c2 ?_ ?_
  · intro h6
    refine AW.rS ?_
    refine AW.rt ?_
    simp_all [shortB]
  · intro h6
    refine AW.rS ?_
    refine AW.c2 ?_ ?_
    · intro h11
      refine AW.rS ?_
      refine AW.rt ?_
      simp_all [shortB]
    · intro h11
      refine AW.skip ?_
      refine AW.rS ?_
      refine AW.rt ?_
      simp_all [shortB]
end Go.Proofs

namespace Go.Proofs
open Go Aw
set_option linter.unusedSimpArgs false
set_option linter.unusedVariables false
set_option maxRecDepth 100000
set_option maxHeartbeats 4000000
theorem c_value_used (gl : List (Nat × AV)) (k : Int) : FnP Try.prog (gl) 66 [.int .i64 k] fun r => r = .ret (.tup [.agg [.bool (uN k), .bool (uG k), .bool (uS k), .bool (uKeys k), .bool (uKids k)], .bool (uOk k)]) := by
  refine FnP.intro Try.func66 rfl rfl (by simp [Try.ntmps66]) ?_
  simp only [argEnv, Try.ntmps66, Try.results66]
  refine AW.rS ?_
  refine AW.seq ?_
  refine AW.rS ?_
  refine AW.block ?_
  refine AW.rS ?_
  refine AW.c2 ?_ ?_
  · intro h6
    refine AW.rS ?_
    refine AW.rt ?_
    first | (exfalso; omega) | (refine used_eq ?_ ?_ ?_ ?_ ?_ ?_ <;> simp only [uN, uG, uS, uKeys, uKids, uOk] <;> first | (subst_vars; rfl) | grind)
  · intro h6
    refine AW.seq ?_
    refine AW.rS ?_
    refine AW.c2 ?_ ?_
    · intro h12
      refine AW.skip ?_
      refine AW.c2 ?_ ?_
      · intro h14
        refine AW.rS ?_
        refine AW.rt ?_
        first | (exfalso; omega) | (refine used_eq ?_ ?_ ?_ ?_ ?_ ?_ <;> simp only [uN, uG, uS, uKeys, uKids, uOk] <;> first | (subst_vars; rfl) | grind)
      · intro h14
        refine AW.seq ?_
        refine AW.rS ?_
        refine AW.c2 ?_ ?_
        · intro h20
          refine AW.skip ?_
          refine AW.c2 ?_ ?_
          · intro h22
            refine AW.rS ?_
            refine AW.rt ?_
            first | (exfalso; omega) | (refine used_eq ?_ ?_ ?_ ?_ ?_ ?_ <;> simp only [uN, uG, uS, uKeys, uKids, uOk] <;> first | (subst_vars; rfl) | grind)
          · intro h22
            refine AW.rS ?_
            refine AW.c2 ?_ ?_
            · intro h27
              refine AW.rS ?_
              refine AW.rt ?_
              first | (exfalso; omega) | (refine used_eq ?_ ?_ ?_ ?_ ?_ ?_ <;> simp only [uN, uG, uS, uKeys, uKids, uOk] <;> first | (subst_vars; rfl) | grind)
            · intro h27
              refine AW.rS ?_
              refine AW.c2 ?_ ?_
              · intro h32
                refine AW.rS ?_
                refine AW.rt ?_
                first | (exfalso; omega) | (refine used_eq ?_ ?_ ?_ ?_ ?_ ?_ <;> simp only [uN, uG, uS, uKeys, uKids, uOk] <;> first | (subst_vars; rfl) | grind)
              · intro h32
                refine AW.rS ?_
                refine AW.c2 ?_ ?_
                · intro h37
                  refine AW.rS ?_
                  refine AW.rt ?_
                  first | (exfalso; omega) | (refine used_eq ?_ ?_ ?_ ?_ ?_ ?_ <;> simp only [uN, uG, uS, uKeys, uKids, uOk] <;> first | (subst_vars; rfl) | grind)
                · intro h37
                  refine AW.rS ?_
                  refine AW.c2 ?_ ?_
                  · intro h42
                    refine AW.rS ?_
                    refine AW.rt ?_
                    first | (exfalso; omega) | (refine used_eq ?_ ?_ ?_ ?_ ?_ ?_ <;> simp only [uN, uG, uS, uKeys, uKids, uOk] <;> first | (subst_vars; rfl) | grind)
                  · intro h42
                    refine AW.skip ?_
                    refine AW.rS ?_
                    refine AW.rt ?_
                    first | (exfalso; omega) | (refine used_eq ?_ ?_ ?_ ?_ ?_ ?_ <;> simp only [uN, uG, uS, uKeys, uKids, uOk] <;> first | (subst_vars; rfl) | grind)
        · intro h20
          refine AW.rL ?_
          refine AW.c2 ?_ ?_
          · intro h51
            refine AW.rS ?_
            refine AW.rt ?_
            first | (exfalso; omega) | (refine used_eq ?_ ?_ ?_ ?_ ?_ ?_ <;> simp only [uN, uG, uS, uKeys, uKids, uOk] <;> first | (subst_vars; rfl) | grind)
          · intro h51
            refine AW.rS ?_
            refine AW.c2 ?_ ?_
            · intro h56
              refine AW.rS ?_
              refine AW.rt ?_
              first | (exfalso; omega) | (refine used_eq ?_ ?_ ?_ ?_ ?_ ?_ <;> simp only [uN, uG, uS, uKeys, uKids, uOk] <;> first | (subst_vars; rfl) | grind)
            · intro h56
              refine AW.rS ?_
              refine AW.c2 ?_ ?_
              · intro h61
                refine AW.rS ?_
                refine AW.rt ?_
                first | (exfalso; omega) | (refine used_eq ?_ ?_ ?_ ?_ ?_ ?_ <;> simp only [uN, uG, uS, uKeys, uKids, uOk] <;> first | (subst_vars; rfl) | grind)
              · intro h61
                refine AW.rS ?_
                refine AW.c2 ?_ ?_
                · intro h66
                  refine AW.rS ?_
                  refine AW.rt ?_
                  first | (exfalso; omega) | (refine used_eq ?_ ?_ ?_ ?_ ?_ ?_ <;> simp only [uN, uG, uS, uKeys, uKids, uOk] <;> first | (subst_vars; rfl) | grind)
                · intro h66
                  refine AW.rS ?_
                  refine AW.c2 ?_ ?_
                  · intro h71
                    refine AW.rS ?_
                    refine AW.rt ?_
                    first | (exfalso; omega) | (refine used_eq ?_ ?_ ?_ ?_ ?_ ?_ <;> simp only [uN, uG, uS, uKeys, uKids, uOk] <;> first | (subst_vars; rfl) | grind)
                  · intro h71
                    refine AW.skip ?_
                    refine AW.rS ?_
                    refine AW.rt ?_
                    first | (exfalso; omega) | (refine used_eq ?_ ?_ ?_ ?_ ?_ ?_ <;> simp only [uN, uG, uS, uKeys, uKids, uOk] <;> first | (subst_vars; rfl) | grind)
    · intro h12
      refine AW.rS ?_
      refine AW.c2 ?_ ?_
      · intro h80
        refine AW.skip ?_
        refine AW.c2 ?_ ?_
        · intro h82
          refine AW.rS ?_
          refine AW.rt ?_
          first | (exfalso; omega) | (refine used_eq ?_ ?_ ?_ ?_ ?_ ?_ <;> simp only [uN, uG, uS, uKeys, uKids, uOk] <;> first | (subst_vars; rfl) | grind)
        · intro h82
          refine AW.seq ?_
          refine AW.rS ?_
          refine AW.c2 ?_ ?_
          · intro h88
            refine AW.skip ?_
            refine AW.c2 ?_ ?_
            · intro h90
              refine AW.rS ?_
              refine AW.rt ?_
              first | (exfalso; omega) | (refine used_eq ?_ ?_ ?_ ?_ ?_ ?_ <;> simp only [uN, uG, uS, uKeys, uKids, uOk] <;> first | (subst_vars; rfl) | grind)
            · intro h90
              refine AW.rS ?_
              refine AW.c2 ?_ ?_
              · intro h95
                refine AW.rS ?_
                refine AW.rt ?_
                first | (exfalso; omega) | (refine used_eq ?_ ?_ ?_ ?_ ?_ ?_ <;> simp only [uN, uG, uS, uKeys, uKids, uOk] <;> first | (subst_vars; rfl) | grind)
              · intro h95
                refine AW.rS ?_
                refine AW.c2 ?_ ?_
                · intro h100
                  refine AW.rS ?_
                  refine AW.rt ?_
                  first | (exfalso; omega) | (refine used_eq ?_ ?_ ?_ ?_ ?_ ?_ <;> simp only [uN, uG, uS, uKeys, uKids, uOk] <;> first | (subst_vars; rfl) | grind)
                · intro h100
                  refine AW.rS ?_
                  refine AW.c2 ?_ ?_
                  · intro h105
                    refine AW.rS ?_
                    refine AW.rt ?_
                    first | (exfalso; omega) | (refine used_eq ?_ ?_ ?_ ?_ ?_ ?_ <;> simp only [uN, uG, uS, uKeys, uKids, uOk] <;> first | (subst_vars; rfl) | grind)
                  · intro h105
                    refine AW.rS ?_
                    refine AW.c2 ?_ ?_
                    · intro h110
                      refine AW.rS ?_
                      refine AW.rt ?_
                      first | (exfalso; omega) | (refine used_eq ?_ ?_ ?_ ?_ ?_ ?_ <;> simp only [uN, uG, uS, uKeys, uKids, uOk] <;> first | (subst_vars; rfl) | grind)
                    · intro h110
                      refine AW.skip ?_
                      refine AW.rS ?_
                      refine AW.rt ?_
                      first | (exfalso; omega) | (refine used_eq ?_ ?_ ?_ ?_ ?_ ?_ <;> simp only [uN, uG, uS, uKeys, uKids, uOk] <;> first | (subst_vars; rfl) | grind)
          · intro h88
            refine AW.rL ?_
            refine AW.c2 ?_ ?_
            · intro h119
              refine AW.rS ?_
              refine AW.rt ?_
              first | (exfalso; omega) | (refine used_eq ?_ ?_ ?_ ?_ ?_ ?_ <;> simp only [uN, uG, uS, uKeys, uKids, uOk] <;> first | (subst_vars; rfl) | grind)
            · intro h119
              refine AW.rS ?_
              refine AW.c2 ?_ ?_
              · intro h124
                refine AW.rS ?_
                refine AW.rt ?_
                first | (exfalso; omega) | (refine used_eq ?_ ?_ ?_ ?_ ?_ ?_ <;> simp only [uN, uG, uS, uKeys, uKids, uOk] <;> first | (subst_vars; rfl) | grind)
              · intro h124
                refine AW.rS ?_
                refine AW.c2 ?_ ?_
                · intro h129
                  refine AW.rS ?_
                  refine AW.rt ?_
                  first | (exfalso; omega) | (refine used_eq ?_ ?_ ?_ ?_ ?_ ?_ <;> simp only [uN, uG, uS, uKeys, uKids, uOk] <;> first | (subst_vars; rfl) | grind)
                · intro h129
                  refine AW.rS ?_
                  refine AW.c2 ?_ ?_
                  · intro h134
                    refine AW.rS ?_
                    refine AW.rt ?_
                    first | (exfalso; omega) | (refine used_eq ?_ ?_ ?_ ?_ ?_ ?_ <;> simp only [uN, uG, uS, uKeys, uKids, uOk] <;> first | (subst_vars; rfl) | grind)
                  · intro h134
                    refine AW.rS ?_
                    refine AW.c2 ?_ ?_
                    · intro h139
                      refine AW.rS ?_
                      refine AW.rt ?_
                      first | (exfalso; omega) | (refine used_eq ?_ ?_ ?_ ?_ ?_ ?_ <;> simp only [uN, uG, uS, uKeys, uKids, uOk] <;> first | (subst_vars; rfl) | grind)
                    · intro h139
                      refine AW.skip ?_
                      refine AW.rS ?_
                      refine AW.rt ?_
                      first | (exfalso; omega) | (refine used_eq ?_ ?_ ?_ ?_ ?_ ?_ <;> simp only [uN, uG, uS, uKeys, uKids, uOk] <;> first | (subst_vars; rfl) | grind)
      · intro h80
        refine AW.rL ?_
        refine AW.c2 ?_ ?_
        · intro h148
          refine AW.rS ?_
          refine AW.rt ?_
          first | (exfalso; omega) | (refine used_eq ?_ ?_ ?_ ?_ ?_ ?_ <;> simp only [uN, uG, uS, uKeys, uKids, uOk] <;> first | (subst_vars; rfl) | grind)
        · intro h148
          refine AW.seq ?_
          refine AW.rS ?_
          refine AW.c2 ?_ ?_
          · intro h154
            refine AW.skip ?_
            refine AW.c2 ?_ ?_
            · intro h156
              refine AW.rS ?_
              refine AW.rt ?_
              first | (exfalso; omega) | (refine used_eq ?_ ?_ ?_ ?_ ?_ ?_ <;> simp only [uN, uG, uS, uKeys, uKids, uOk] <;> first | (subst_vars; rfl) | grind)
            · intro h156
              refine AW.rS ?_
              refine AW.c2 ?_ ?_
              · intro h161
                refine AW.rS ?_
                refine AW.rt ?_
                first | (exfalso; omega) | (refine used_eq ?_ ?_ ?_ ?_ ?_ ?_ <;> simp only [uN, uG, uS, uKeys, uKids, uOk] <;> first | (subst_vars; rfl) | grind)
              · intro h161
                refine AW.rS ?_
                refine AW.c2 ?_ ?_
                · intro h166
                  refine AW.rS ?_
                  refine AW.rt ?_
                  first | (exfalso; omega) | (refine used_eq ?_ ?_ ?_ ?_ ?_ ?_ <;> simp only [uN, uG, uS, uKeys, uKids, uOk] <;> first | (subst_vars; rfl) | grind)
                · intro h166
                  refine AW.rS ?_
                  refine AW.c2 ?_ ?_
                  · intro h171
                    refine AW.rS ?_
                    refine AW.rt ?_
                    first | (exfalso; omega) | (refine used_eq ?_ ?_ ?_ ?_ ?_ ?_ <;> simp only [uN, uG, uS, uKeys, uKids, uOk] <;> first | (subst_vars; rfl) | grind)
                  · intro h171
                    refine AW.rS ?_
                    refine AW.c2 ?_ ?_
                    · intro h176
                      refine AW.rS ?_
                      refine AW.rt ?_
                      first | (exfalso; omega) | (refine used_eq ?_ ?_ ?_ ?_ ?_ ?_ <;> simp only [uN, uG, uS, uKeys, uKids, uOk] <;> first | (subst_vars; rfl) | grind)
                    · intro h176
                      refine AW.skip ?_
                      refine AW.rS ?_
                      refine AW.rt ?_
                      first | (exfalso; omega) | (refine used_eq ?_ ?_ ?_ ?_ ?_ ?_ <;> simp only [uN, uG, uS, uKeys, uKids, uOk] <;> first | (subst_vars; rfl) | grind)
          · intro h154
            refine AW.rL ?_
            refine AW.c2 ?_ ?_
            · intro h185
              refine AW.rS ?_
              refine AW.rt ?_
              first | (exfalso; omega) | (refine used_eq ?_ ?_ ?_ ?_ ?_ ?_ <;> simp only [uN, uG, uS, uKeys, uKids, uOk] <;> first | (subst_vars; rfl) | grind)
            · intro h185
              refine AW.rS ?_
              refine AW.c2 ?_ ?_
              · intro h190
                refine AW.rS ?_
                refine AW.rt ?_
                first | (exfalso; omega) | (refine used_eq ?_ ?_ ?_ ?_ ?_ ?_ <;> simp only [uN, uG, uS, uKeys, uKids, uOk] <;> first | (subst_vars; rfl) | grind)
              · intro h190
                refine AW.rS ?_
                refine AW.c2 ?_ ?_
                · intro h195
                  refine AW.rS ?_
                  refine AW.rt ?_
                  first | (exfalso; omega) | (refine used_eq ?_ ?_ ?_ ?_ ?_ ?_ <;> simp only [uN, uG, uS, uKeys, uKids, uOk] <;> first | (subst_vars; rfl) | grind)
                · intro h195
                  refine AW.rS ?_
                  refine AW.c2 ?_ ?_
                  · intro h200
                    refine AW.rS ?_
                    refine AW.rt ?_
                    first | (exfalso; omega) | (refine used_eq ?_ ?_ ?_ ?_ ?_ ?_ <;> simp only [uN, uG, uS, uKeys, uKids, uOk] <;> first | (subst_vars; rfl) | grind)
                  · intro h200
                    refine AW.rS ?_
                    refine AW.c2 ?_ ?_
                    · intro h205
                      refine AW.rS ?_
                      refine AW.rt ?_
                      first | (exfalso; omega) | (refine used_eq ?_ ?_ ?_ ?_ ?_ ?_ <;> simp only [uN, uG, uS, uKeys, uKids, uOk] <;> first | (subst_vars; rfl) | grind)
                    · intro h205
                      refine AW.skip ?_
                      refine AW.rS ?_
                      refine AW.rt ?_
                      first | (exfalso; omega) | (refine used_eq ?_ ?_ ?_ ?_ ?_ ?_ <;> simp only [uN, uG, uS, uKeys, uKids, uOk] <;> first | (subst_vars; rfl) | grind)
end Go.Proofs

namespace Go.Proofs
open Go.Shelf
def Try.lays137_ren : Go.Shelf.Ren := ⟨fun | 137 => 81 | 217 => 97 | 266 => 104 | n => n, fun | 9 => 9 | 5 => 5 | 3 => 3 | n => n, fun | n => n⟩
theorem Try.lays137 : Go.Proofs.Lays.n137 Try.prog Try.lays137_ren := {
  mixed := by kernel_rfl
  f137 := Try.func81.trans (congrArg some (by kernel_rfl))
  f217 := Try.func97.trans (congrArg some (by kernel_rfl))
  f266 := Try.func104.trans (congrArg some (by kernel_rfl))
  t3 := Try.underlying3
  a3 := Try.isAgg3
  z3 := Try.sizeOf3
  v3 := Try.zeroValue3
  t5 := Try.underlying5
  a5 := Try.isAgg5
  z5 := Try.sizeOf5
  v5 := Try.zeroValue5
  t9 := Try.underlying9
  a9 := Try.isAgg9
  z9 := Try.sizeOf9
  v9 := Try.zeroValue9 }
open Go.RowKit in
theorem Try.strings_IndexByte (s : ByteArray) (c : Int) (w : World) :
    Calls Try.prog 81 #[.string s, .int .u8 c] w fun e w' => e = .returned (.int .i64 (Lib.indexByte s.data.toList c.toNat.toUInt8)) ∧ w' = w := Any.strings_IndexByte Try.lays137 s c w
end Go.Proofs

namespace Go.Proofs
open Go Aw
set_option linter.unusedSimpArgs false
set_option linter.unusedVariables false
set_option maxRecDepth 100000
set_option maxHeartbeats 4000000
theorem c_strings_IndexByte (gl : List (Nat × AV)) (s : List UInt8) (c : Int) : FnP Try.prog gl 81 [.str s, .int .u8 c] fun r => r = .ret (.int .i64 (Lib.indexByte s c.toNat.toUInt8)) := by
  refine FnP.same (enters_of Try.func81 rfl rfl) ?_
  intro m vs _ hv
  simp only [RepL, Rep] at hv
  obtain ⟨_, _, rfl, rfl, _, _, rfl, rfl, rfl⟩ := hv
  refine (Try.strings_IndexByte ⟨s.toArray⟩ c m.w).mono ?_
  rintro e w' ⟨rfl, rfl⟩
  exact ⟨⟨_, rfl, fun m => by simp only [Rep]⟩, rfl⟩
theorem c_value_key (gl : List (Nat × AV)) (s : List UInt8) : FnP Try.prog (gl) 69 [.str s] fun r => r = .ret (.bool (nameB s)) := by
  refine FnP.intro Try.func69 rfl rfl (by simp [Try.ntmps69]) ?_
  simp only [argEnv, Try.ntmps69, Try.results69]
  refine AW.rS ?_
  refine AW.rSC ?_
  refine awOps.cons (awGuard.cG (fun hg => c_strings_IndexByte _ s 0) ?_)
  refine awOps.rn ?_
  refine AW.rt ?_
  simp only [nameB, Bool.cond_false_right]; rfl
end Go.Proofs

namespace Go.Proofs
open Go Aw
set_option linter.unusedSimpArgs false
set_option linter.unusedVariables false
set_option maxRecDepth 100000
set_option maxHeartbeats 4000000
theorem c_value_rising (gl : List (Nat × AV)) (o : Pob) (hk : o.keys.length ≤ 16777216 := by first | omega | exact u8_le _ | assumption | (simp; done) | (simp; omega)) : FnP Try.prog (gl) 70 [.agg o.cells] fun r => r = .ret (.bool (risingB o)) := by
  refine FnP.intro Try.func70 rfl rfl (by simp [Try.ntmps70]) ?_
  simp only [argEnv, Try.ntmps70, Try.results70]
  refine AW.rS ?_
  refine AW.seq ?_
  refine AW.rS ?_
  refine AW.c2 ?_ ?_
  · intro h4
    refine AW.rS ?_
    refine AW.rt ?_
    rw [rising_no (fun h => by have := h.1; omega)]
  · intro h4
    refine AW.skip ?_
    refine AW.seq ?_
    refine AW.rS ?_
    refine AW.block ?_
    refine AW.lk (S := { i : Nat // i ≤ o.keys.length ∧ ∀ j, j < i → okKey o j }) [1, 13, 14] (fun s_ => [(15, .int .i64 s_.1)]) (fun s_ => [(0, .cells [.int .i64 o.kind, .int .i64 o.num, .int .i64 o.gen, .str o.str, .sl (strsAV o.keys), .sl (objsAV o.kids)])]) 1 (fun s_ => o.keys.length - s_.1) ⟨0, Nat.zero_le _, fun j h => absurd h (by omega)⟩ ?_ ?_
    · refine St.le.vw [0]
    rintro ⟨i, hi, hs⟩
    try dsimp only at hi
    try dsimp only at hs
    refine AW.rS ?_
    refine AW.seq ?_
    refine AW.c2 ?_ ?_
    · intro h15
      refine AW.skip ?_
      refine AW.seq ?_
      refine AW.block ?_
      refine AW.rS ?_
      refine AW.rSC ?_
      refine awOps.cons (awGuard.c1 (c_value_key _ (o.keys.getD i [])) ?_)
      refine awOps.rn ?_
      refine AW.c2 ?_ ?_
      · intro h23
        refine AW.rS ?_
        refine AW.rt ?_
        rw [rising_no (fun h => by have := h.2 i h15; simp only [okKey] at this; grind)]
      · intro h23
        refine AW.skip ?_
        have hok : okKey o i := by simp only [okKey]; grind
        refine AW.rL ?_
        refine ⟨⟨i + 1, by omega, fun j hj => by rcases Nat.lt_succ_iff_lt_or_eq.1 hj with h | rfl; exact hs j h; exact hok⟩, ?_, ?_⟩
        · refine St.le.vw [0]
        · simp only []; omega
    · intro h15
      refine AW.exit ?_
      refine AW.rS ?_
      refine AW.rt ?_
      rw [rising_yes ⟨by omega, fun j hj => hs j (by omega)⟩]
end Go.Proofs

namespace Go.Proofs
open Go Aw
set_option linter.unusedSimpArgs false
set_option linter.unusedVariables false
set_option maxRecDepth 100000
set_option maxHeartbeats 4000000
theorem check_step (gl : List (Nat × AV)) (N : Nat) (hN : N ≤ 16777216) (ih : ∀ (o' : Pob) (d : Int), o'.bulk < N → 0 ≤ d → FnP Try.prog gl 48 [.agg o'.cells, .int .i64 d] fun r => r = if decide (chk o' d = 0) = true then .ret (.tup []) else .panic (badAV (chk o' d))) (o : Pob) (d : Int) (ho : o.bulk ≤ N) (hd : 0 ≤ d) : FnP Try.prog (gl) 48 [.agg o.cells, .int .i64 d] fun r => r = if decide (chk o d = 0) = true then .ret (.tup []) else .panic (badAV (chk o d)) := by
  refine FnP.intro Try.func48 rfl rfl (by simp [Try.ntmps48]) ?_
  simp only [argEnv, Try.ntmps48, Try.results48]
  have hbulk := Pob.bulk_eq o
  refine AW.rS ?_
  refine AW.rSC ?_
  refine awOps.cons (awGuard.cM (c_value_must _ (decide (d ≤ 24)) 7) ?_ ?_)
  · intro hp3
    refine wk ?_
    rw [chk_bad (e := 7) (by simp [ownE, hp3]) (by omega)]; simp
  intro hm3
  refine awOps.rn ?_
  refine AW.rSC ?_
  refine awOps.cons (awGuard.c1 (c_value_used _ o.kind) ?_)
  refine awOps.rn ?_
  refine AW.rSC ?_
  refine awOps.cons (awGuard.cM (c_value_must _ (useB o d) 10) ?_ ?_)
  · intro hp9
    refine wk ?_
    rw [chk_bad (e := 10) (by simp [ownE, hm3, hp9]) (by omega)]; simp
  intro hm9
  refine awOps.rn ?_
  refine AW.rSC ?_
  refine awOps.cons (awGuard.c1 (c_value_fits _ o) ?_)
  refine awOps.rn ?_
  refine awOps.cons (awGuard.cM (c_value_must _ (fitsB o) 2) ?_ ?_)
  · intro hp14
    refine wk ?_
    rw [chk_bad (e := 2) (by simp [ownE, hm3, hm9, hp14]) (by omega)]; simp
  intro hm14
  refine awOps.rn ?_
  refine AW.rSC ?_
  refine awOps.cons (awGuard.c1 (c_value_short _ o) ?_)
  refine awOps.rn ?_
  refine awOps.cons (awGuard.cM (c_value_must _ (shortB o) 5) ?_ ?_)
  · intro hp19
    refine wk ?_
    rw [chk_bad (e := 5) (by simp [ownE, hm3, hm9, hm14, hp19]) (by omega)]; simp
  intro hm19
  refine awOps.rn ?_
  refine AW.rSC ?_
  refine awOps.cons (awGuard.cM (c_value_must _ (decide ((o.kids.length : Int) ≤ 8191)) 6) ?_ ?_)
  · intro hp22
    refine wk ?_
    rw [chk_bad (e := 6) (by simp [ownE, hm3, hm9, hm14, hm19, hp22]) (by omega)]; simp
  intro hm22
  refine awOps.rn ?_
  refine AW.rSC ?_
  refine awOps.cons (awGuard.cG (fun hg => c_value_key _ o.str) ?_)
  refine awOps.rn ?_
  refine awOps.cons (awGuard.cG (fun hg => c_value_rising _ o (by omega)) ?_)
  refine awOps.rn ?_
  refine awOps.cons (awGuard.cM (c_value_must _ (formB o) 3) ?_ ?_)
  · intro hp29
    refine wk ?_
    rw [chk_bad (e := 3) (by simp [ownE, hm3, hm9, hm14, hm19, hm22, hp29]) (by omega)]; simp
  intro hm29
  refine awOps.rn ?_
  refine AW.rS ?_
  refine AW.block ?_
  have hown : ownE o d = 0 := by simp [ownE, hm3, hm9, hm14, hm19, hm22, hm29]
  refine AW.lk (S := { i : Nat // i ≤ o.kids.length ∧ chkL o.kids (d + 1) = chkL (o.kids.drop i) (d + 1) }) [1, 105, 106] (fun s_ => [(107, .int .i64 s_.1)]) (fun s_ => []) 0 (fun s_ => o.kids.length - s_.1) ⟨0, Nat.zero_le _, rfl⟩ ?_ ?_
  · refine St.le.vw []
  rintro ⟨i, hi, hs⟩
  try dsimp only at hi
  try dsimp only at hs
  refine AW.rS ?_
  refine AW.seq ?_
  refine AW.c2 ?_ ?_
  · intro h36
    refine AW.skip ?_
    refine AW.seq ?_
    refine AW.block ?_
    refine AW.rS ?_
    refine AW.rLC ?_
    refine awOps.cons (awGuard.cM (ih (o.kids.getD i Pob.null) (d + 1) (Nat.lt_of_lt_of_le (Pob.bulk_kid (by omega)) ho) (by omega)) ?_ ?_)
    · intro hp42
      refine wk ?_
      rw [chk_eq o d, hown, if_pos rfl, hs, chkL_drop (by omega), if_neg hp42, decide_eq_false hp42]; rfl
    intro hm42
    refine awOps.rn ?_
    refine AW.rL ?_
    refine ⟨⟨i + 1, by omega, by rw [hs, chkL_drop (by omega), if_pos hm42]⟩, ?_, ?_⟩
    · refine St.le.vw []
    · simp only []; omega
  · intro h36
    refine AW.exit ?_
    refine wk ?_
    rw [chk_eq o d, hown, if_pos rfl, hs, List.drop_of_length_le (by omega)]; simp [chkL]
theorem check_all (gl : List (Nat × AV)) (N : Nat) : N ≤ 16777216 → ∀ (o : Pob) (d : Int), 0 ≤ d → o.bulk ≤ N → FnP Try.prog gl 48 [.agg o.cells, .int .i64 d] fun r => r = if decide (chk o d = 0) = true then .ret (.tup []) else .panic (badAV (chk o d)) := by
  induction N using Nat.strongRecOn with
  | ind N IH => exact fun hN o d hd ho => check_step gl N hN (fun o' d' h hd' => IH o'.bulk h (by omega) o' d' hd' (Nat.le_refl _)) o d ho hd
theorem c_value_check (gl : List (Nat × AV)) (o : Pob) (d : Int) (hd : 0 ≤ d) (h : o.bulk ≤ 16777216 := by assumption) : FnP Try.prog gl 48 [.agg o.cells, .int .i64 d] fun r => r = if decide (chk o d = 0) = true then .ret (.tup []) else .panic (badAV (chk o d)) := check_all gl 16777216 (Nat.le_refl _) o d hd h
end Go.Proofs

namespace Go.Proofs
open Go Aw
set_option linter.unusedSimpArgs false
set_option linter.unusedVariables false
set_option maxRecDepth 100000
set_option maxHeartbeats 4000000

theorem d_caught_ret (gl : List (Nat × AV)) (e : Int) : FnD Try.prog gl 64 [.ptr 0 0] [(0, .cells [.int .i64 e])] 1 .ret (fun u hp nx => u = .ret ∧ hp = [(0, .cells [.int .i64 e])] ∧ nx = 1) := by
  refine FnD.intro Try.func64 rfl rfl (by simp [Try.ntmps64]) ?_
  simp only [argEnv, Try.ntmps64, Try.results64]
  refine AWD.seq (AWD.regRecover rfl rfl rfl rfl (by simp only [go_sem, seval]) ?_)
  refine awOps.rn ?_
  refine AWD.of ?_
  refine AW.block ?_
  refine AW.rS ?_
  refine AW.c2 ?_ ?_
  · intro h4
    refine AW.rL ?_
    refine wk ?_
    trivial
  · intro h4
    simp at h4
theorem d_caught_pan (gl : List (Nat × AV)) (e0 e : Int) : FnD Try.prog gl 64 [.ptr 0 0] [(0, .cells [.int .i64 e0])] 1 (.pan (badAV e)) (fun u hp nx => u = .ret ∧ hp = [(0, .cells [.int .i64 e]), (1, .cells [.int .i64 e])] ∧ nx = 2) := by
  refine FnD.intro Try.func64 rfl rfl (by simp [Try.ntmps64]) ?_
  simp only [argEnv, Try.ntmps64, Try.results64]
  refine AWD.seq (AWD.regRecover rfl rfl rfl rfl (by simp only [go_sem, seval]) ?_)
  refine awOps.rn ?_
  refine AWD.of ?_
  refine AW.block ?_
  simp only [badAV]
  refine AW.rS ?_
  refine AW.c2 ?_ ?_
  · intro h4
    simp at h4
  · intro h4
    refine AW.rS ?_
    refine AW.c2 ?_ ?_
    · intro h9
      refine AW.rS ?_
      refine AW.rL ?_
      refine wk ?_
      trivial
    · intro h9
      simp at h9
theorem c_value_caught (gl : List (Nat × AV)) (f : FuncId) (cs : List AV) (e : Int) (hc : FnP Try.prog gl f [.tptr cs] fun r => r = if decide (e = 0) = true then .ret (.tup []) else .panic (badAV e)) : FnP Try.prog (gl) 46 [.clos f [.tptr cs]] fun r => r = .ret (.int .i64 e) := by
  refine FnP.introD Try.func46 rfl rfl (by simp [Try.ntmps46]) ?_
  simp only [argEnv, Try.ntmps46]
  refine AW.rS ?_
  refine AW.df ?_
  refine AW.rSC ?_
  refine awOps.cons (awGuard.cM (hc) ?_ ?_)
  · intro hp4
    refine wk ?_
    refine finD_pan ?_
    refine LeaveS.c1 [0] (d_caught_pan _ 0 e) ?_
    refine LeaveS.rt Try.results46 ?_
    trivial
  intro hm4
  refine awOps.rn ?_
  refine AW.rS ?_
  refine AW.rt ?_
  refine LeaveS.c1 [0] (d_caught_ret _ 0) ?_
  refine LeaveS.rt Try.results46 ?_
  rw [hm4]
end Go.Proofs

namespace Go.Proofs
open Go Aw
set_option linter.unusedSimpArgs false
set_option linter.unusedVariables false
set_option maxRecDepth 100000
set_option maxHeartbeats 4000000

theorem c_value_Check_1 (gl : List (Nat × AV)) (o : Pob) (h : o.bulk ≤ 16777216 := by first | omega | exact u8_le _ | assumption | (simp; done) | (simp; omega)) : FnP Try.prog (gl) 47 [.tptr o.cells] fun r => r = if decide (chk o 1 = 0) = true then .ret (.tup []) else .panic (badAV (chk o 1)) := by
  refine FnP.intro Try.func47 rfl rfl (by simp [Try.ntmps47]) ?_
  simp only [argEnv, Try.ntmps47, Try.results47]
  refine AW.rLC ?_
  refine awOps.cons (awGuard.cM (c_value_check _ o 1 (by omega)) ?_ ?_)
  · intro hp2
    refine wk ?_
    rw [decide_eq_false hp2]; simp
  intro hm2
  refine awOps.rn ?_
  refine wk ?_
  rw [decide_eq_true hm2]; simp
theorem c_value_Check (gl : List (Nat × AV)) (o : Pob) (h : o.bulk ≤ 16777216 := by first | omega | exact u8_le _ | assumption | (simp; done) | (simp; omega)) : FnP Try.prog (gl) 29 [.agg o.cells] fun r => r = .ret (.int .i64 (chk o 1)) := by
  refine FnP.intro Try.func29 rfl rfl (by simp [Try.ntmps29]) ?_
  simp only [argEnv, Try.ntmps29, Try.results29]
  refine AW.rS ?_
  refine AW.rSC ?_
  refine awOps.cons (awGuard.c1 (c_value_caught _ 47 o.cells (chk o 1) (c_value_Check_1 _ o)) ?_)
  refine awOps.rn ?_
  refine AW.rt ?_
  all_goals first | contradiction | rfl | (simp; done) | (simp; omega)
end Go.Proofs

namespace Go.Proofs
open Go Aw
set_option linter.unusedSimpArgs false
set_option linter.unusedVariables false
set_option maxRecDepth 100000
set_option maxHeartbeats 4000000

end Go.Proofs

namespace Aw
open Go
mutual
def Pob.pre : Pob → List Pob
  | .mk k n g s ks l => .mk k n g s ks l :: pres l
def pres : List Pob → List Pob
  | [] => []
  | o :: l => o.pre ++ pres l
end
theorem pres_nil : pres [] = [] := by simp only [pres]
theorem Pob.pre_eq (o : Pob) : o.pre = o :: pres o.kids := by cases o; simp only [Pob.pre, Pob.kids]
theorem pres_append (a b : List Pob) : pres (a ++ b) = pres a ++ pres b := by
  induction a with
  | nil => simp [pres]
  | cons x a ih => simp only [List.cons_append, pres, ih, List.append_assoc]
theorem pres_take {l : List Pob} {i : Nat} (h : i < l.length) : pres (l.take (i + 1)) = pres (l.take i) ++ (l.getD i Pob.null).pre := by
  rw [List.take_succ_eq_append_getElem h, pres_append]
  simp [pres, List.getD, h]
mutual
theorem Pob.pre_le : ∀ o : Pob, o.pre.length ≤ o.bulk
  | .mk k n g s ks l => by simp only [Pob.pre, Pob.bulk, List.length_cons]; have := pres_le l; omega
theorem pres_le : ∀ l : List Pob, (pres l).length ≤ bulks l
  | [] => by simp [pres]
  | o :: l => by simp only [pres, bulks, List.length_append]; have := Pob.pre_le o; have := pres_le l; omega
end
attribute [irreducible] Pob.pre pres
end Aw

namespace Aw
open Go
/-- the key 'k' lies in the object with the value 'v' -/
def Pob.has (o : Pob) (k : List UInt8) (v : Pob) : Prop := ∃ i, i < o.keys.length ∧ o.keys.getD i [] = k ∧ o.kids.getD i Pob.null = v
theorem chkL_iff {l : List Pob} {d : Int} : chkL l d = 0 ↔ ∀ x ∈ l, chk x d = 0 := by
  induction l with
  | nil => simp [chkL]
  | cons o l ih =>
    simp only [chkL, List.mem_cons]
    constructor
    · intro h
      split at h
      · rename_i h1
        rintro x (rfl | hx)
        · exact h1
        · exact ih.1 h x hx
      · rename_i h1; exact absurd h h1
    · intro h
      rw [if_pos (h o (.inl rfl))]
      exact ih.2 fun x hx => h x (.inr hx)
theorem chk_iff {o : Pob} {d : Int} : chk o d = 0 ↔ ownE o d = 0 ∧ ∀ x ∈ o.kids, chk x (d + 1) = 0 := by
  rw [chk_eq]
  constructor
  · intro h
    split at h
    · rename_i h1; exact ⟨h1, chkL_iff.1 h⟩
    · rename_i h1; exact absurd h h1
  · rintro ⟨h1, h2⟩
    rw [if_pos h1, chkL_iff.2 h2]
theorem ownE_iff {o : Pob} {d : Int} : ownE o d = 0 ↔ d ≤ 24 ∧ useB o d = true ∧ fitsB o = true ∧ shortB o = true ∧ (o.kids.length : Int) ≤ 8191 ∧ formB o = true := by
  refine ⟨ownE_spec, fun ⟨h1, h2, h3, h4, h5, h6⟩ => ?_⟩
  unfold ownE
  simp [h1, h2, h3, h4, h5, h6]
end Aw

namespace Aw
open Go
end Aw

namespace Aw
open Go
def refB (o : Pob) : Bool := decide (o.kind = 8) && (decide (1 ≤ o.num) && decide (o.num ≤ 8191))
def refStp (s : List Int) (o : Pob) : List Int := if refB o = true then setAdd s o.num else s
def sortI (s : List Int) : List Int := s.mergeSort fun x y => decide (x ≤ y)
/-- value.Refs -/
def refsO (o : Pob) : List Int := sortI (o.pre.foldl refStp [])
theorem refStp_mem (l : List Pob) : ∀ (s : List Int) (n : Int), n ∈ l.foldl refStp s ↔ n ∈ s ∨ ∃ p ∈ l, refB p = true ∧ p.num = n := by
  induction l with
  | nil => intro s n; simp
  | cons o l ih =>
    intro s n
    rw [List.foldl_cons, ih]
    have h1 : n ∈ refStp s o ↔ n ∈ s ∨ (refB o = true ∧ o.num = n) := by
      simp only [refStp, setAdd]
      split
      · rename_i h
        split
        · rename_i h2
          constructor
          · exact .inl
          · rintro (g | ⟨_, rfl⟩)
            · exact g
            · exact h2
        · simp only [List.mem_append, List.mem_singleton]
          constructor
          · rintro (g | rfl)
            · exact .inl g
            · exact .inr ⟨h, rfl⟩
          · rintro (g | ⟨_, rfl⟩)
            · exact .inl g
            · exact .inr rfl
      · rename_i h
        simp [h]
    rw [h1]
    simp only [List.mem_cons, exists_eq_or_imp]
    grind
theorem sortI_pairwise (s : List Int) : (sortI s).Pairwise (· ≤ ·) := by
  have := List.pairwise_mergeSort (le := fun x y : Int => decide (x ≤ y)) (fun a b c h1 h2 => by simp only [decide_eq_true_eq] at h1 h2 ⊢; omega) (fun a b => by simp only [Bool.or_eq_true, decide_eq_true_eq]; omega) s
  exact this.imp fun h => by simpa using h
/-- lists that increase and have the same members are the same -/
theorem lt_ext : ∀ {a b : List Int}, a.Pairwise (· < ·) → b.Pairwise (· < ·) → (∀ n, n ∈ a ↔ n ∈ b) → a = b
  | [], [], _, _, _ => rfl
  | [], y :: b, _, _, h => by have := (h y).2 (by simp); simp at this
  | x :: a, [], _, _, h => by have := (h x).1 (by simp); simp at this
  | x :: a, y :: b, ha, hb, h => by
    rw [List.pairwise_cons] at ha hb
    have hxy : x = y := by
      have h1 := (h x).1 (by simp)
      have h2 := (h y).2 (by simp)
      rcases List.mem_cons.1 h1 with g | g
      · exact g
      · rcases List.mem_cons.1 h2 with g' | g'
        · exact g'.symm
        · have := hb.1 x g; have := ha.1 y g'; omega
    subst hxy
    congr 1
    refine lt_ext ha.2 hb.2 fun n => ?_
    have h1 := h n
    simp only [List.mem_cons] at h1
    constructor
    · intro g
      rcases h1.1 (.inr g) with rfl | g'
      · have := ha.1 n g; omega
      · exact g'
    · intro g
      rcases h1.2 (.inr g) with rfl | g'
      · have := hb.1 n g; omega
      · exact g'
mutual
theorem chk_pre : ∀ (o : Pob) (d : Int), chk o d = 0 → ∀ p ∈ o.pre, p.kind = 8 → refB p = true
  | .mk k n g s ks l, d, h, p, hp, h8 => by
    rw [Pob.pre_eq] at hp
    rcases List.mem_cons.1 hp with rfl | hp
    · have := (ownE_iff.1 (chk_iff.1 h).1).2.2.1
      simp only [Pob.kind_mk] at h8
      simp only [fitsB, Pob.kind_mk, h8, Pob.num_mk, Pob.gen_mk] at this
      simp only [refB, Pob.kind_mk, Pob.num_mk, h8]
      simp at this ⊢
      exact this.1
    · exact chks_pre l (d + 1) (fun x hx => (chk_iff.1 h).2 x hx) p hp h8
theorem chks_pre : ∀ (l : List Pob) (d : Int), (∀ x ∈ l, chk x d = 0) → ∀ p ∈ pres l, p.kind = 8 → refB p = true
  | [], _, _, p, hp, _ => by rw [pres_nil] at hp; cases hp
  | o :: l, d, h, p, hp, h8 => by
    rw [pres, List.mem_append] at hp
    rcases hp with hp | hp
    · exact chk_pre o d (h o (List.mem_cons_self)) p hp h8
    · exact chks_pre l d (fun x hx => h x (List.mem_cons_of_mem _ hx)) p hp h8
end
end Aw

namespace Go.Proofs
open Go Aw
set_option linter.unusedSimpArgs false
set_option linter.unusedVariables false
set_option maxRecDepth 100000
set_option maxHeartbeats 4000000

theorem noTL_cells (z : Pob) : noTL z.cells = true := by cases z; rfl
theorem h_maps_Keys (gl : List (Nat × AV)) (s : List Int) : FnH Try.prog (gl) 42 [.map 0] ([(0, setOf (fun n => AV.int .i64 n) s)]) 1 (fun r h n => r = .ret (.clos 63 [.ptr 1 0]) ∧ h = [(0, setOf (fun n => AV.int .i64 n) s), (1, .cells [.map 0])] ∧ n = 2) := by
  refine FnH.intro Try.func42 rfl rfl (by simp [Try.ntmps42]) ?_
  simp only [argEnv, Try.ntmps42, Try.results42]
  refine AW.rS ?_
  refine AW.rS ?_
  refine AW.rt ?_
  all_goals first | contradiction | rfl | (simp; done) | (simp; omega)
end Go.Proofs

namespace Go.Proofs
open Go.RowKit Go.Maps Go.Sort Go.Shelf
def Try.lays189_ren : Go.Shelf.Ren := ⟨fun | 189 => 62 | 125 => 78 | 257 => 77 | 128 => 95 | 129 => 96 | 294 => 86 | 295 => 87 | 296 => 88 | 297 => 89 | 298 => 90 | 299 => 91 | 216 => 92 | 300 => 93 | 301 => 94 | 328 => 99 | 329 => 100 | 330 => 101 | 331 => 102 | 332 => 103 | 215 => 83 | 343 => 106 | n => n, fun | 28 => 33 | 3 => 3 | 46 => 111 | 0 => 0 | 51 => 133 | 53 => 135 | 4 => 4 | 183 => 126 | 182 => 125 | 131 => 93 | 5 => 5 | 9 => 9 | 218 => 136 | 222 => 140 | 228 => 143 | 229 => 144 | n => n, fun | n => n⟩
theorem Try.lays189 : Go.Proofs.Lays.n189 Try.prog Try.lays189_ren := {
  mixed := by kernel_rfl
  f125 := Try.func78.trans (congrArg some (by kernel_rfl))
  f128 := Try.func95.trans (congrArg some (by kernel_rfl))
  f129 := Try.func96.trans (congrArg some (by kernel_rfl))
  f189 := Try.func62.trans (congrArg some (by kernel_rfl))
  f215 := Try.func83.trans (congrArg some (by kernel_rfl))
  f216 := Try.func92.trans (congrArg some (by kernel_rfl))
  f257 := Try.func77.trans (congrArg some (by kernel_rfl))
  f294 := Try.func86.trans (congrArg some (by kernel_rfl))
  f295 := Try.func87.trans (congrArg some (by kernel_rfl))
  f296 := Try.func88.trans (congrArg some (by kernel_rfl))
  f297 := Try.func89.trans (congrArg some (by kernel_rfl))
  f298 := Try.func90.trans (congrArg some (by kernel_rfl))
  f299 := Try.func91.trans (congrArg some (by kernel_rfl))
  f300 := Try.func93.trans (congrArg some (by kernel_rfl))
  f301 := Try.func94.trans (congrArg some (by kernel_rfl))
  f328 := Try.func99.trans (congrArg some (by kernel_rfl))
  f329 := Try.func100.trans (congrArg some (by kernel_rfl))
  f330 := Try.func101.trans (congrArg some (by kernel_rfl))
  f331 := Try.func102.trans (congrArg some (by kernel_rfl))
  f332 := Try.func103.trans (congrArg some (by kernel_rfl))
  f343 := Try.func106.trans (congrArg some (by kernel_rfl))
  t0 := Try.underlying0
  a0 := Try.isAgg0
  z0 := Try.sizeOf0
  v0 := Try.zeroValue0
  t3 := Try.underlying3
  a3 := Try.isAgg3
  z3 := Try.sizeOf3
  v3 := Try.zeroValue3
  t4 := Try.underlying4
  a4 := Try.isAgg4
  z4 := Try.sizeOf4
  v4 := Try.zeroValue4
  t5 := Try.underlying5
  a5 := Try.isAgg5
  z5 := Try.sizeOf5
  v5 := Try.zeroValue5
  t9 := Try.underlying9
  a9 := Try.isAgg9
  z9 := Try.sizeOf9
  v9 := Try.zeroValue9
  t28 := Try.underlying33
  a28 := Try.isAgg33
  z28 := Try.sizeOf33
  v28 := Try.zeroValue33
  t46 := Try.underlying111
  a46 := Try.isAgg111
  z46 := Try.sizeOf111
  v46 := Try.zeroValue111
  t51 := Try.underlying133
  a51 := Try.isAgg133
  z51 := Try.sizeOf133
  v51 := Try.zeroValue133
  t53 := Try.underlying135
  a53 := Try.isAgg135
  z53 := Try.sizeOf135
  v53 := Try.zeroValue135
  t131 := Try.underlying93
  a131 := Try.isAgg93
  z131 := Try.sizeOf93
  v131 := Try.zeroValue93
  t182 := Try.underlying125
  a182 := Try.isAgg125
  z182 := Try.sizeOf125
  v182 := Try.zeroValue125
  t183 := Try.underlying126
  a183 := Try.isAgg126
  z183 := Try.sizeOf126
  v183 := Try.zeroValue126
  t218 := Try.underlying136
  a218 := Try.isAgg136
  z218 := Try.sizeOf136
  v218 := Try.zeroValue136
  t222 := Try.underlying140
  a222 := Try.isAgg140
  z222 := Try.sizeOf140
  v222 := Try.zeroValue140
  t228 := Try.underlying143
  a228 := Try.isAgg143
  z228 := Try.sizeOf143
  v228 := Try.zeroValue143
  t229 := Try.underlying144
  a229 := Try.isAgg144
  z229 := Try.sizeOf144
  v229 := Try.zeroValue144 }
open Go.Sort Go.RowKit in
theorem Try.slices_Sort_int (blk off cap : Nat) (zs : List Int) (w : World) (hH : Holds (Value.int .i64) w blk off zs.toArray) (hblk : blk < w.heap.size) (hsz : zs.length < 4611686018427387904) :
    Calls Try.prog 62 #[.slice (some ⟨blk, off, none⟩) zs.length cap] w fun e w' =>
      e = .returned (.tuple #[]) ∧ ∃ n os, w' = grow (putRow (Value.int .i64) (Sort.ahead w n) blk off (zs.mergeSort fun x y => decide (x ≤ y)).toArray) os := Any.slices_Sort_int Try.lays189 blk off cap zs w hH hblk hsz
theorem Try.slices_Sort_int_none (p : Option Addr) (cap : Nat) (w : World) :
    Calls Try.prog 62 #[.slice p 0 cap] w fun e w' => e = .returned (.tuple #[]) ∧ w' = w := Any.slices_Sort_int_none Try.lays189 p cap w
def Try.keysA_ren : Go.Shelf.Ren := ⟨fun | 7 => 42 | 10 => 63 | n => n, fun | 23 => 56 | 26 => 3 | 3 => 4 | 28 => 84 | 0 => 0 | 27 => 83 | 33 => 101 | 4 => 4 | n => n, fun n => n⟩
def Try.sortedA_ren : Go.Shelf.Ren := ⟨fun | 6 => 41 | 8 => 61 | 9 => 62 | 11 => 76 | 13 => 78 | 12 => 77 | 23 => 95 | 24 => 96 | 14 => 86 | 15 => 87 | 16 => 88 | 17 => 89 | 18 => 90 | 19 => 91 | 20 => 92 | 21 => 93 | 22 => 94 | 25 => 99 | 26 => 100 | 27 => 101 | 28 => 102 | 29 => 103 | 30 => 83 | 31 => 106 | n => n, fun | 26 => 3 | 28 => 84 | 24 => 33 | 0 => 0 | 3 => 3 | 37 => 111 | 48 => 133 | 50 => 135 | 4 => 4 | 40 => 126 | 39 => 125 | 45 => 93 | 5 => 5 | 9 => 9 | 51 => 136 | 55 => 140 | 57 => 143 | 58 => 144 | 33 => 101 | n => n, fun n => n⟩
theorem Try.keysA : SlLaysZI.n7 Try.prog Try.keysA_ren := {
  mixed := by kernel_rfl
  f7 := ⟨"maps.Keys[map[int]bool,int,bool]", by decide, Try.func42.trans (congrArg some (by kernel_rfl))⟩
  f10 := ⟨"maps.Keys[map[int]bool,int,bool]$1", by decide, Try.func63.trans (congrArg some (by kernel_rfl))⟩
  t0 := Try.underlying0
  a0 := Try.isAgg0
  z0 := Try.sizeOf0
  v0 := Try.zeroValue0
  t4 := Try.underlying4
  a4 := Try.isAgg4
  z4 := Try.sizeOf4
  v4 := Try.zeroValue4
  t23 := Try.underlying56
  a23 := Try.isAgg56
  z23 := Try.sizeOf56
  v23 := Try.zeroValue56
  t26 := Try.underlying3
  a26 := Try.isAgg3
  z26 := Try.sizeOf3
  v26 := Try.zeroValue3
  t27 := Try.underlying83
  a27 := Try.isAgg83
  z27 := Try.sizeOf83
  v27 := Try.zeroValue83
  t28 := Try.underlying84
  a28 := Try.isAgg84
  z28 := Try.sizeOf84
  v28 := Try.zeroValue84
  t33 := Try.underlying101
  a33 := Try.isAgg101
  z33 := Try.sizeOf101
  v33 := Try.zeroValue101 }
theorem Try.sortedA : SlLaysZI.n6 Try.prog Try.sortedA_ren := {
  mixed := by kernel_rfl
  f6 := ⟨"slices.Sorted[int]", by decide, Try.func41.trans (congrArg some (by kernel_rfl))⟩
  f8 := ⟨"slices.Collect[int]", by decide, Try.func61.trans (congrArg some (by kernel_rfl))⟩
  f11 := ⟨"slices.AppendSeq[[]int,int]", by decide, Try.func76.trans (congrArg some (by kernel_rfl))⟩
  t0 := Try.underlying0
  a0 := Try.isAgg0
  z0 := Try.sizeOf0
  v0 := Try.zeroValue0
  t24 := Try.underlying33
  a24 := Try.isAgg33
  z24 := Try.sizeOf33
  v24 := Try.zeroValue33
  t26 := Try.underlying3
  a26 := Try.isAgg3
  z26 := Try.sizeOf3
  v26 := Try.zeroValue3
  t28 := Try.underlying84
  a28 := Try.isAgg84
  z28 := Try.sizeOf84
  v28 := Try.zeroValue84
  i26 := by kernel_rfl }

/-- slices.Sort at int: what slices.Sorted asks for -/
theorem Try.sortsA (m : Nat) : AnyZI.SortsIn Try.prog Try.sortedA_ren Fence.wide m :=
  ⟨fun blk off cap ss W hH hblk hsz => callsIn_wide.2 (Try.slices_Sort_int blk off cap ss W hH hblk hsz),
   fun p cap W => callsIn_wide.2 (Try.slices_Sort_int_none p cap W)⟩
/-- slices.Sorted(maps.Keys(m)): the second call -/
theorem Try.sortedKeys {H : Type} (bm b nn : Nat) (D0 : DataW H) (R : Value → Option (DataW H × List MemPlace)) (w : World) (hbm : bm < w.heap.size) (hm : w.cell? ⟨bm, 0, none⟩ = some (.map (some b))) (hown : w.ownsMap Try.prog 3 R b nn D0) (hmax : Maps.size D0 ≤ maxLen) (hbytes : Maps.size D0 * 8 ≤ 140737488355328) :
    Calls Try.prog 41 #[.func (.func 63) #[] #[.pointer (some ⟨bm, 0, none⟩)]] w fun e w' => ∃ (v : Value) (ss : List Int), e = .returned v ∧ ss.Perm (intKeys D0) ∧
      w'.ownsRow w.heap.size 3 1 v ss.length ((ss.mergeSort (fun x y => decide (x ≤ y))).map encZ) ∧ (v = .slice none 0 0 ↔ ss = []) ∧ Below w.heap.size w w' := by
  have hseq : SeqGives Fence.wide 2 Try.prog 63 #[.pointer (some ⟨bm, 0, none⟩)] encZ (fun ss => ss.Perm (intKeys D0)) (Maps.size D0) w :=
    AnyZI.keys_gives (ρ := Try.keysA_ren) { Try.keysA with } Fence.wide _ trivial rfl (by omega) bm b nn D0 _ hbm hm hown
  have cS := AnyZI.sorted_in Try.sortedA Fence.wide 5 trivial trivial trivial trivial rfl (by omega) (Try.sortsA _) (enters_of Try.func62 (by kernel_rfl) rfl) 63 #[.pointer (some ⟨bm, 0, none⟩)] trivial (enters_of Try.func63 (by kernel_rfl) rfl) _ _ hmax hbytes _ hseq
  exact callsIn_wide.1 cS
end Go.Proofs

namespace Go.Proofs
open Go Aw Go.WideElems Go.Maps Go.RowKit
set_option linter.unusedSimpArgs false
set_option linter.unusedVariables false
set_option maxRecDepth 100000
set_option maxHeartbeats 4000000

def intV : Value → Int
  | .int _ n => n
  | _ => 0
theorem set_owns {m : Mem} {ri : RI} {s : List Int} (hb : BlkRep m ri (setOf (fun n => AV.int .i64 n) s)) (hwf : ∀ x ∈ s, (Lit.int .i64 x).wf = true) (hl : s.length ≤ 16777216) :
    ∃ D0 : DataW Unit, m.w.ownsMap Try.prog 3 (plainElem Try.prog 4) ri.b s.length D0 ∧ (intKeys D0).Perm s ∧ Maps.size D0 = s.length := by
  obtain ⟨h1, h2, h3, es, clock, h4, h5, h6, h7⟩ := set_blk (keyOk_int .i64) hb
  have hlen : es.size = s.length := by
    have := congrArg List.length h5
    simpa using this
  have hkey : ∀ x ∈ es.toList, x.key = .int .i64 (intV x.key) ∧ (Lit.int .i64 (intV x.key)).wf = true := by
    intro x hx
    have : x.key ∈ s.map (fun n : Int => Value.int .i64 n) := by rw [← h5]; exact List.mem_map_of_mem hx
    obtain ⟨n, hn, e⟩ := List.mem_map.1 this
    rw [← e]
    exact ⟨rfl, hwf n hn⟩
  have hval : ∀ x ∈ es.toList, x.val = .bool true := by
    intro x hx
    have : x.val ∈ s.map (fun _ : Int => Value.bool true) := by rw [← h6]; exact List.mem_map_of_mem hx
    obtain ⟨n, hn, e⟩ := List.mem_map.1 this
    exact e.symm
  have hrd : ∀ x ∈ es.toList, rd Try.prog 3 (plainElem (H := Unit) Try.prog 4) x = some (.int .i64 (intV x.key), .lit (.bool true)) := by
    intro x hx
    obtain ⟨k1, k2⟩ := hkey x hx
    have hk : keyOf Try.prog 3 x.key = some (.int .i64 (intV x.key)) := by
      generalize intV x.key = n at k1 k2
      rw [k1]
      simp [keyOf, Try.underlying3, mapKey, k2]
    have hv : plainElem (H := Unit) Try.prog 4 x.val = some (.lit (.bool true), []) := by rw [hval x hx]; exact plainElem_bool Try.underlying4 true
    exact rd_mk (born := x.born) hk hv
  refine ⟨.map ((es.toList.map (rg Try.prog 3 (plainElem Try.prog 4))).foldr DataW.insert []), ⟨es, clock, h4, ⟨by rw [hlen]; simp only [maxLen]; omega, h7, fun x hx => ⟨_, hrd x hx⟩⟩, by rw [hlen]; exact Nat.le_refl _, rfl⟩, ?_, ?_⟩
  · simp only [intKeys]
    refine ((Go.WideShapes.sorted_perm _).map _).trans ?_
    rw [List.map_map]
    have : es.toList.map ((fun p : Lit × DataW Unit => Go.intOf p.1) ∘ rg Try.prog 3 (plainElem Try.prog 4)) = s := by
      have e1 : es.toList.map ((fun p : Lit × DataW Unit => Go.intOf p.1) ∘ rg Try.prog 3 (plainElem Try.prog 4)) = (es.toList.map (·.key)).map intV := by
        rw [List.map_map]
        refine List.map_congr_left fun x hx => ?_
        simp only [Function.comp, rg_of (hrd x hx), Go.intOf]
      rw [e1, h5, List.map_map]
      have : (intV ∘ fun n : Int => Value.int .i64 n) = id := rfl
      rw [this, List.map_id]
    rw [this]
  · simp only [Maps.size, length_sorted, List.length_map]
    simpa using hlen
theorem repE_ints {m : Mem} {g : Nat} : ∀ (l : List Int) (o : Nat), (∀ i, i < l.length → m.F g (o + i) ∧ m.w.cell? ⟨g, o + i, none⟩ = some (.int .i64 (l.getD i 0))) → RepE m (intsAV l) g o 1
  | [], _, _ => by simp only [intsAV, List.map_nil, RepE]
  | x :: l, o, h => by
    simp only [intsAV, List.map_cons, RepE, RepC, Rep]
    have h0 := h 0 (by simp)
    refine ⟨rfl, ⟨by simpa using h0.1, ⟨_, by simpa using h0.2, rfl⟩, trivial⟩, ?_⟩
    refine repE_ints l (o + 1) fun i hi => ?_
    have := h (i + 1) (by simp; omega)
    rw [show o + (i + 1) = o + 1 + i from by omega] at this
    simpa using this
/-- the world behind a call that laid a new row at 'g' -/
def Mem.rowed (m : Mem) (w' : World) (g len : Nat) : Mem := { m with w := w', F := fun b o => m.F b o ∨ (b = g ∧ o < len) }
theorem rowed_ok {m : Mem} {hp : List (Nat × ABlk)} {nx : Nat} {w' : World} {g len : Nat} (hH : SimH m hp nx) (hbel : Below m.w.heap.size m.w w') (hg : 0 < len → m.w.heap.size ≤ g ∧ g < w'.heap.size) :
    m.le (Mem.rowed m w' g len) ∧ SimH (Mem.rowed m w' g len) hp nx := by
  have hcell : ∀ b o, m.F b o → w'.cell? ⟨b, o, none⟩ = m.w.cell? ⟨b, o, none⟩ := fun b o hf => cell?_of_block (hbel.block b (hH.Fold b o hf))
  refine ⟨⟨hbel.os, hbel.tape, hbel.output, hbel.size, rfl, fun b hb => hbel.block b (hH.Pold b hb), fun _ _ h => .inl h, hcell, fun b o hb hf => ?_, rfl, fun _ _ _ h => h⟩, ?_⟩
  · rcases hf with hf | ⟨rfl, ho⟩
    · exact hf
    · have := hH.Pold _ hb
      have := hg (by omega)
      omega
  · refine ⟨fun id x hx => ?_, hH.apart, hH.fresh, fun b o hf => ?_, fun b hb => Nat.lt_of_lt_of_le (hH.Pold b hb) hbel.size⟩
    · obtain ⟨ri, h1, h2⟩ := hH.blk id x hx
      refine ⟨ri, h1, ?_⟩
      have hm : MapOk m (Mem.rowed m w' g len) (fun i => i) := ⟨fun _ h => h, fun b hb => hbel.block b (hH.Pold b hb), fun _ _ h => .inl h, hcell, fun _ _ h => h⟩
      have := BlkRep.map hm (fun hn => hbel.block ri.b (h2.lt hn)) (fun hn => h2.noPr hn) (fun hn o hf => by
        rcases hf with hf | ⟨e, ho⟩
        · exact hf
        · have := h2.lt hn
          have := hg (by omega)
          omega) h2
      rw [renB_id] at this
      exact this
    · rcases hf with hf | ⟨rfl, ho⟩
      · exact Nat.lt_of_lt_of_le (hH.Fold b o hf) hbel.size
      · exact (hg (by omega)).2
theorem h_slices_Sorted (gl : List (Nat × AV)) (s : List Int) (hwf : ∀ x ∈ s, (Lit.int .i64 x).wf = true) (hl : s.length ≤ 16777216) :
    FnT (fun _ => True) Try.prog gl 41 [.clos 63 [.ptr 1 0]] [(0, setOf (fun n => AV.int .i64 n) s), (1, .cells [.map 0])] 2 fun r h n => r = .ret (.sl (intsAV (sortI s))) ∧ h = [(0, setOf (fun n => AV.int .i64 n) s), (1, .cells [.map 0])] ∧ n = 2 := by
  refine ⟨Aw.enters_of Try.func41 rfl rfl, fun m vs hm _ hv => ?_⟩
  obtain ⟨ri0, r0, b0⟩ := hm.h.blk 0 _ rfl
  obtain ⟨ri1, r1, b1⟩ := hm.h.blk 1 _ rfl
  obtain ⟨n1, _, f1, c, T, hc, hcl⟩ := b1
  simp only [RepL, Rep] at hcl hv
  obtain ⟨v0, rest0, hc0, ⟨_, ri0', r0', rfl⟩, rfl⟩ := hcl
  rw [r0] at r0'
  injection r0' with r0'
  subst r0'
  obtain ⟨v, rest, rfl, ⟨cv, rfl, v1, rest1, hcv, ⟨_, ri1', r1', rfl⟩, rfl⟩, rfl⟩ := hv
  rw [r1] at r1'
  injection r1' with r1'
  subst r1'
  have hcv' : cv = #[.pointer (some ⟨ri1.b, 0, none⟩)] := by
    apply Array.ext'
    exact hcv
  subst hcv'
  have hc' : c = #[.map (some ri0.b)] := by
    apply Array.ext'
    exact hc0
  subst hc'
  obtain ⟨D0, hown, hperm, hsize⟩ := set_owns b0 hwf hl
  have hb1 : ri1.b < m.w.heap.size := lt_of_getElem? hc
  have hcell : m.w.cell? ⟨ri1.b, 0, none⟩ = some (.map (some ri0.b)) := by simp [World.cell?, hc]
  have hcall := Try.sortedKeys ri1.b ri0.b s.length D0 (plainElem Try.prog 4) m.w hb1 hcell hown (by rw [hsize]; simp only [maxLen]; omega) (by rw [hsize]; omega)
  refine hcall.mono ?_
  rintro e w' ⟨v, ss, rfl, hp, hrow, _, hbel⟩
  have hss : ss.mergeSort (fun x y => decide (x ≤ y)) = sortI s := mergeSort_of_perm_i (hp.trans hperm)
  have hsl : ss.length = s.length := (hp.trans hperm).length_eq
  rw [hss] at hrow
  have hlen : (sortI s).length = ss.length := by rw [← hss]; exact (List.mergeSort_perm _ _).length_eq
  obtain ⟨_, ⟨rfl, h0⟩ | ⟨g, cap, cur, rfl, hgb, hgc, hcap, _, hcs, hct⟩⟩ := hrow
  · obtain ⟨h1, h2⟩ := rowed_ok (g := 0) (len := 0) hm.h hbel (fun h => by omega)
    have hnil : sortI s = [] := List.eq_nil_of_length_eq_zero (by omega)
    refine ⟨_, .ret (.sl (intsAV (sortI s))), _, _, rfl, h1, h2, ⟨_, rfl, ?_⟩, rfl, rfl, rfl⟩
    rw [hnil]
    simp only [Rep]
    exact .inl ⟨rfl, none, 0, rfl⟩
  · obtain ⟨h1, h2⟩ := rowed_ok (g := g) (len := ss.length) hm.h hbel (fun _ => ⟨hgb, lt_of_getElem? hgc⟩)
    refine ⟨_, .ret (.sl (intsAV (sortI s))), _, _, rfl, h1, h2, ⟨_, rfl, ?_⟩, rfl, rfl, rfl⟩
    simp only [Rep]
    refine .inr ⟨g, 0, cap, 1, by rw [show (intsAV (sortI s)).length = ss.length from by rw [← hlen]; simp [intsAV]], by rw [show (intsAV (sortI s)).length = ss.length from by rw [← hlen]; simp [intsAV]]; exact hcap, ?_⟩
    refine repE_ints _ 0 fun i hi => ⟨.inr ⟨rfl, by omega⟩, ?_⟩
    have hcur : cur[i]? = some (.int .i64 ((sortI s).getD i 0)) := by
      have e : (cur.toList.take (ss.length * 1))[i]? = ((sortI s).map encZ)[i]? := by rw [hct]
      rw [List.getElem?_take_of_lt (by omega), Array.getElem?_toList, List.getElem?_map, List.getElem?_eq_getElem hi] at e
      rw [e]
      simp [List.getD, hi]
    show w'.cell? ⟨g, 0 + i, none⟩ = _
    simp [World.cell?, hgc, hcur]
end Go.Proofs

namespace Go.Proofs
open Go Aw
set_option linter.unusedSimpArgs false
set_option linter.unusedVariables false
set_option maxRecDepth 100000
set_option maxHeartbeats 4000000

theorem h_Insert_Item (gl : List (Nat × AV)) (es : List (List AV)) (e : List AV) (i : Nat) (hes : ∀ e ∈ es, okRow 8 e = true) (he : okRow 8 e = true) (hi : i ≤ es.length) (hl : es.length ≤ 16777216) : FnH Try.prog (gl) 74 [.row 0 0 es.length, .int .i64 i, .row 1 0 1] ([(0, .row 8 es true), (1, .row 8 [e] true)]) 2 (fun r h n => r = .ret (.row 2 0 (es.length + 1)) ∧ h = [(1, .row 8 [e] true), (2, .row 8 (es.take i ++ e :: es.drop i) true)] ∧ n = 3) := by
  refine FnH.intro Try.func74 rfl rfl (by simp [Try.ntmps74]) ?_
  simp only [argEnv, Try.ntmps74, Try.results74]
  refine AW.rS ?_
  refine AW.rS ?_
  refine AW.rS ?_
  refine AW.seq ?_
  refine AW.rS ?_
  refine AW.c2 ?_ ?_
  · intro h6
    refine AW.rS ?_
    refine AW.rt ?_
    all_goals first | contradiction | rfl | (simp; done) | (simp; omega)
  · intro h6
    refine AW.skip ?_
    refine AW.rS ?_
    refine AW.seq ?_
    refine AW.rS ?_
    refine AW.c2 ?_ ?_
    · intro h14
      refine AW.rS ?_
      refine AW.rt ?_
      obtain rfl : i = es.length := by omega
      simp
    · intro h14
      refine AW.skip ?_
      refine AW.seq ?_
      refine AW.tf 0 (fun sp hsp hse => ?_)
      refine AW.rSC ?_
      refine awOps.cons ?_
      refine awGuard.fcp  ?_
      refine awOps.rn ?_
      refine AW.c2 ?_ ?_
      · intro h23
        refine AW.rSC ?_
        refine awOps.cons ?_
        refine awGuard.fzr (es.length + 1 - i) ?_ ?_ ?_ ?_ ?_ ?_
        · first | omega | (simp; done) | (simp; omega)
        · first | omega | (simp; done) | (simp; omega)
        · first | omega | (simp; done) | (simp; omega)
        · first | omega | (simp; done) | (simp; omega)
        · show (i + (es.length + 1 - i)) * 104 ≤ _; omega
        refine awOps.rn ?_
        refine AW.rSC ?_
        refine awOps.cons ?_
        refine awGuard.cpR 1 ?_ ?_ ?_ ?_
        · first | omega | (simp; done) | (simp; omega)
        · first | omega | (simp; done) | (simp; omega)
        · simp [he]
        refine awOps.rn ?_
        refine AW.dSC [(0, 0), (1, 0), (2, 0), (3, 0), (4, 1), (5, 0), (6, 0), (7, 1), (8, 2)] ?_
        refine awPlan.only rfl ?_
        refine awGuard.cpR (es.length - i) ?_ ?_ ?_ ?_
        · first | omega | (simp; done) | (simp; omega)
        · simp [splice]; omega
        · exact ⟨by omega, fun x hx => hes x (mem_mid hse hx)⟩
        refine awPlan.rn ?_
        refine AW.rS ?_
        refine AW.drop 0 ?_
        refine AW.rt ?_
        rw [ins_new hse rfl (by omega) (by simp), show i + (es.length + 1 - i) = es.length + 1 from by omega]
        exact ⟨rfl, rfl⟩
      · intro h23
        refine AW.skip ?_
        refine AW.rS ?_
        refine AW.seq ?_
        refine AW.rSC ?_
        refine awOps.cons ?_
        refine awGuard.ovr (tS := 22) (tR := 4) (e := 36) Try.func84 ?_ ?_
        · first | omega | (simp; done) | (simp; omega)
        refine awOps.rn ?_
        refine AW.c2 ?_ ?_
        · intro h42
          refine AW.dSC [(0, 0), (1, 0), (2, 0), (3, 0), (4, 1), (5, 0), (6, 0), (7, 1), (8, 2)] ?_
          refine awPlan.only rfl ?_
          refine awGuard.cpF (es.length - i) ?_ ?_ ?_ ?_
          · first | omega | (simp; done) | (simp; omega)
          · first | omega | (simp; done) | (simp; omega)
          · exact ⟨by omega, fun x hx => hes x (mem_mid hse hx)⟩
          refine awPlan.rn ?_
          have hsl : (splice sp (i + 1) (List.take (es.length - i) (List.drop i sp))).length = sp.length := splice_len (by simp; omega)
          refine AW.rSC ?_
          refine awOps.cons ?_
          refine awGuard.cpF 1 ?_ ?_ ?_ ?_
          · first | omega | (simp; done) | (simp; omega)
          · first | omega | (simp; done) | (simp; omega)
          · simp [he]
          refine awOps.rn ?_
          refine AW.rS ?_
          refine AW.uf 0 (es.length + 1) ?_
          refine AW.rnm 6 ?_
          refine AW.rt ?_
          rw [ins_in hse rfl (by omega) (by omega)]
        · intro h42
          cases h42
end Go.Proofs

namespace Go.Proofs
open Go Aw
set_option linter.unusedSimpArgs false
set_option linter.unusedVariables false
set_option maxRecDepth 100000
set_option maxHeartbeats 4000000

end Go.Proofs

namespace Go.Proofs
open Go Aw
set_option linter.unusedSimpArgs false
set_option linter.unusedVariables false
set_option maxRecDepth 100000
set_option maxHeartbeats 4000000

end Go.Proofs

namespace Go.Proofs
open Go Aw
set_option linter.unusedSimpArgs false
set_option linter.unusedVariables false
set_option maxRecDepth 100000
set_option maxHeartbeats 4000000

theorem h_Ins_itm (gl : List (Nat × AV)) (l : List Itm) (o : Itm) (i : Nat) (hi : i ≤ l.length) (hl : l.length ≤ 16777216 := by omega) : FnH Try.prog gl 74 [.row 0 0 l.length, .int .i64 i, .row 1 0 1]
    [(0, .row 8 (itemsAV l) true), (1, .row 8 [o.cells] true)] 2 fun r h n => r = .ret (.row 2 0 (l.length + 1)) ∧ h = [(1, .row 8 [o.cells] true), (2, .row 8 (itemsAV (insAt l i o)) true)] ∧ n = 3 := by
  have h := h_Insert_Item gl (itemsAV l) o.cells i (by rw [itemsAV_ok]; trivial) rfl (by rw [itemsAV_length]; exact hi) (by rw [itemsAV_length]; exact hl)
  rw [itemsAV_length, itemsAV_insAt] at h
  exact h
end Go.Proofs

namespace Go.Proofs
open Go Aw
set_option linter.unusedSimpArgs false
set_option linter.unusedVariables false
set_option maxRecDepth 100000
set_option maxHeartbeats 4000000

end Go.Proofs

namespace Go.Proofs
open Go Aw
set_option linter.unusedSimpArgs false
set_option linter.unusedVariables false
set_option maxRecDepth 100000
set_option maxHeartbeats 4000000

end Go.Proofs

namespace Go.Proofs
open Go Aw
set_option linter.unusedSimpArgs false
set_option linter.unusedVariables false
set_option maxRecDepth 100000
set_option maxHeartbeats 4000000

end Go.Proofs
