/- A part of the proof of a law of the seat: no condition of its own. -/
import Derived.Test.YtokikpiffafajaaGreatPart4
import Derived.JoinedCond
import Derived.Test.YtokikpiffafajaaGreatRows
import Derived.Shelf.Small.Strs
import Derived.Test.YtokikpiffafajaaGreatProg
namespace Go.Proofs.YtokikpiffafajaaGreat
open Go Aw
theorem own : ownKnob Tryz.prog.godebug = none := by kernel_rfl
theorem laidOut : laidOutB Tryz.prog = true := by kernel_rfl
theorem objT : ObjT Tryz.prog 27 3 2 9 24 25 where
  o := ⟨_, Tryz.underlying27, rfl⟩
  i := Tryz.underlying3
  l := Tryz.underlying2
  s := Tryz.underlying9
  ks := Tryz.underlying24
  os := Tryz.underlying25
  c := by and_intros <;> kernel_rfl
theorem docT : DocT Tryz.prog 27 3 2 9 24 25 39 23 29 where
  o := objT
  it := ⟨_, Tryz.underlying39, rfl⟩
  its := Tryz.underlying23
  d := ⟨_, Tryz.underlying29, rfl⟩
  c := by and_intros <;> kernel_rfl
mutual
theorem dle_upto {H : Type} : ∀ d : DataW H, dbulk d ≤ Rows.uptoBulk d
  | .lit (.string _) => by simp only [dbulk, Rows.uptoBulk]; omega
  | .lit (.bool _) => by simp only [dbulk, Rows.uptoBulk]; omega
  | .lit (.int _ _) => by simp only [dbulk, Rows.uptoBulk]; omega
  | .lit (.float _ _) => by simp only [dbulk, Rows.uptoBulk]; omega
  | .lit .nil => by simp only [dbulk, Rows.uptoBulk]; omega
  | .nil => by simp only [dbulk, Rows.uptoBulk]; omega
  | .ptr d => by have := dle_upto d; simp only [dbulk, Rows.uptoBulk]; omega
  | .slice es sp => by have := dles_upto es; have := dles_upto sp; simp only [dbulk, Rows.uptoBulk]; omega
  | .agg ps => by have := dles_upto ps; simp only [dbulk, Rows.uptoBulk]; omega
  | .iface _ d => by have := dle_upto d; simp only [dbulk, Rows.uptoBulk]; omega
  | .map _ => by simp only [dbulk, Rows.uptoBulk]; omega
  | .held _ => by simp only [dbulk, Rows.uptoBulk]; omega
theorem dles_upto {H : Type} : ∀ l : List (DataW H), dbulks l ≤ Rows.uptoBulkAll l
  | [] => by simp only [dbulks, Rows.uptoBulkAll]; omega
  | d :: r => by have := dle_upto d; have := dles_upto r; simp only [dbulks, Rows.uptoBulkAll]; omega
end
end Go.Proofs.YtokikpiffafajaaGreat

namespace Go.Proofs
open Go Aw
set_option linter.unusedSimpArgs false
set_option maxRecDepth 100000
set_option maxHeartbeats 4000000
theorem c_slices_Clone_string_string (gl : List (Nat × AV)) (ks : List (List UInt8)) (hk : ks.length ≤ 16777216 := by first | omega | exact u8_le _ | assumption | (simp; done) | (simp; omega)) : FnP Tryz.prog (gl) 101 [.sl (strsAV ks)] fun r => r = .ret (.sl (strsAV ks)) := by
  refine FnP.intro Tryz.func101 rfl rfl (by simp [Tryz.ntmps101]) ?_
  simp only [argEnv, Tryz.ntmps101, Tryz.results101]
  refine AW.rS ?_
  refine AW.seq ?_
  refine AW.rSC ?_
  refine awOps.cons (awGuard.nS ?_)
  intro b4 hb4
  simp only [nilBool]
  refine awOps.rn ?_
  refine AW.c2 ?_ ?_
  · intro h6
    refine AW.rS ?_
    refine AW.pre (St.le.nilrow 2 1 (by (simp only [go_sem, seval]; try (simp (disch := omega) only [zqa, zqb, zqc, zqd, zqe, zqf, zqg, zqh, zqi, zqj, zqk, zql, zqm, zqn, zqo, zqp, zqq, zqr, zqs]; try (simp only [go_sem, seval]; try (simp (disch := omega) only [zqa, zqb, zqc, zqd, zqe, zqf, zqg, zqh, zqi, zqj, zqk, zql, zqm, zqn, zqo, zqp, zqq, zqr, zqs]; try simp only [go_sem, seval])))))) ?_
    refine wk ?_
    refine AW.rt ?_
    rw [nil_strs hb4 h6, strsAV_nil]
  · intro h6
    refine AW.skip ?_
    refine AW.rS ?_
    refine AW.rt ?_
    all_goals first | contradiction | rfl | (simp; done) | (simp; omega)
theorem c_slices_Clone_api_Object_api_Object (gl : List (Nat × AV)) (ks : List Pob) (hk : ks.length ≤ 16777216 := by first | omega | exact u8_le _ | assumption | (simp; done) | (simp; omega)) : FnP Tryz.prog (gl) 126 [.sl (objsAV ks)] fun r => r = .ret (.sl (objsAV ks)) := by
  refine FnP.intro Tryz.func126 rfl rfl (by simp [Tryz.ntmps126]) ?_
  simp only [argEnv, Tryz.ntmps126, Tryz.results126]
  refine AW.rS ?_
  refine AW.seq ?_
  refine AW.rSC ?_
  refine awOps.cons (awGuard.nS ?_)
  intro b4 hb4
  simp only [nilBool]
  refine awOps.rn ?_
  refine AW.c2 ?_ ?_
  · intro h6
    refine AW.rS ?_
    refine AW.pre (St.le.nilrow 2 6 (by (simp only [go_sem, seval]; try (simp (disch := omega) only [zqa, zqb, zqc, zqd, zqe, zqf, zqg, zqh, zqi, zqj, zqk, zql, zqm, zqn, zqo, zqp, zqq, zqr, zqs]; try (simp only [go_sem, seval]; try (simp (disch := omega) only [zqa, zqb, zqc, zqd, zqe, zqf, zqg, zqh, zqi, zqj, zqk, zql, zqm, zqn, zqo, zqp, zqq, zqr, zqs]; try simp only [go_sem, seval])))))) ?_
    refine wk ?_
    refine AW.rt ?_
    rw [nil_objs hb4 h6, objsAV_nil]
  · intro h6
    refine AW.skip ?_
    refine AW.rS ?_
    refine AW.rt ?_
    all_goals first | contradiction | rfl | (simp; done) | (simp; omega)
theorem c_value_Clone_1 (gl : List (Nat × AV)) (o : Pob) : FnP Tryz.prog (gl) 69 [.agg o.cells] fun r => r = .ret (.agg o.cells) := by
  refine FnP.intro Tryz.func69 rfl rfl (by simp [Tryz.ntmps69]) ?_
  simp only [argEnv, Tryz.ntmps69, Tryz.results69]
  refine AW.rS ?_
  refine AW.rS ?_
  refine AW.rt ?_
  all_goals first | contradiction | rfl | (simp; done) | (simp; omega)
end Go.Proofs


namespace Go.Proofs
open Go Aw
set_option linter.unusedSimpArgs false
set_option maxRecDepth 100000
set_option maxHeartbeats 4000000
theorem changed_step (gl : List (Nat × AV)) (N : Nat) (hN : N ≤ 16777216) (ih : ∀ o' : Pob, o'.bulk < N → FnP Tryz.prog gl 68 [.agg o'.cells, .clos 69 []] fun r => r = .ret (.agg o'.cells)) (o : Pob) (_ : o.bulk ≤ N) (hk : o.keys.length ≤ N) (hl : o.kids.length ≤ N) (hb : ∀ i, i < o.kids.length → (o.kids.getD i Pob.null).bulk < N) : FnP Tryz.prog (gl) 68 [.agg o.cells, .clos 69 []] fun r => r = .ret (.agg o.cells) := by
  refine FnP.intro Tryz.func68 rfl rfl (by simp [Tryz.ntmps68]) ?_
  simp only [argEnv, Tryz.ntmps68, Tryz.results68]
  refine AW.rS ?_
  refine AW.rSC ?_
  refine awOps.cons (awGuard.c1 (c_value_Clone_1 _ o) ?_)
  refine awOps.rn ?_
  refine AW.rSC ?_
  refine awOps.cons (awGuard.c1 (c_slices_Clone_string_string _ o.keys) ?_)
  refine awOps.rn ?_
  refine AW.seq ?_
  refine AW.rSC ?_
  refine awOps.cons (awGuard.nS ?_)
  intro b10 hb10
  simp only [nilBool]
  refine awOps.rn ?_
  refine AW.c2 ?_ ?_
  · intro h12
    refine AW.rS ?_
    refine AW.seq ?_
    refine AW.rS ?_
    refine AW.block ?_
    refine AW.lk (S := { i : Nat // i ≤ o.kids.length }) [1, 2, 4, 5, 23, 24] (fun s_ => [(25, .int .i64 s_.1)]) (fun s_ => [(0, .cells [.int .i64 o.kind, .int .i64 o.num, .int .i64 o.gen, .str o.str, .sl (strsAV o.keys), .sl (objsAV o.kids)]), (1, .cells [.int .i64 0, .int .i64 0, .int .i64 0, .str [], .raw (.slice none 0 0), .raw (.slice none 0 0)]), (2, .row 6 (fillO o.kids s_.1) true)]) 3 (fun s_ => o.kids.length - s_.1) ⟨0, Nat.zero_le _⟩ ?_ ?_
    · refine St.le.vw [0, 1, 2]
    rintro ⟨i, hi⟩
    try dsimp only at hi
    refine AW.rS ?_
    refine AW.seq ?_
    refine AW.c2 ?_ ?_
    · intro h20
      refine AW.skip ?_
      refine AW.seq ?_
      refine AW.block ?_
      refine AW.rS ?_
      refine AW.rLC ?_
      refine awOps.cons (awGuard.c1 (ih (o.kids.getD i Pob.null) (hb i (by omega))) ?_)
      refine awOps.rn ?_
      refine AW.rL ?_
      refine ⟨⟨i + 1, by omega⟩, ?_, ?_⟩
      · refine St.le.vw [0, 1, 2]
      · simp only []; omega
    · intro h20
      refine AW.exit ?_
      refine AW.rL ?_
      refine AW.rS ?_
      refine AW.rt ?_
      rw [fillO_all hi h20, objsAV_take_len]
  · intro h12
    refine AW.skip ?_
    refine AW.rS ?_
    refine AW.rt ?_
    all_goals first | contradiction | rfl | (simp; done) | (simp; omega)
theorem changed_clone (gl : List (Nat × AV)) (N : Nat) : N ≤ 16777216 → ∀ o : Pob, o.bulk ≤ N → FnP Tryz.prog gl 68 [.agg o.cells, .clos 69 []] fun r => r = .ret (.agg o.cells) := by
  induction N using Nat.strongRecOn with
  | ind N IH =>
    intro hN o ho
    have hb := Pob.bulk_eq o
    exact changed_step gl N hN (fun o' h => IH o'.bulk h (by omega) o' (Nat.le_refl _)) o ho (by omega) (by omega) (fun i hi => Nat.lt_of_lt_of_le (Pob.bulk_kid hi) ho)
theorem c_value_changed (gl : List (Nat × AV)) (o : Pob) (h : o.bulk ≤ 16777216 := by assumption) : FnP Tryz.prog gl 68 [.agg o.cells, .clos 69 []] fun r => r = .ret (.agg o.cells) := changed_clone gl 16777216 (Nat.le_refl _) o h
theorem c_value_Clone (gl : List (Nat × AV)) (o : Pob) (h : o.bulk ≤ 16777216 := by first | omega | exact u8_le _ | assumption | (simp; done) | (simp; omega)) : FnP Tryz.prog (gl) 32 [.agg o.cells] fun r => r = .ret (.agg o.cells) := by
  refine FnP.intro Tryz.func32 rfl rfl (by simp [Tryz.ntmps32]) ?_
  simp only [argEnv, Tryz.ntmps32, Tryz.results32]
  refine AW.rS ?_
  refine AW.rSC ?_
  refine awOps.cons (awGuard.c1 (c_value_changed _ o) ?_)
  refine awOps.rn ?_
  refine AW.rt ?_
  all_goals first | contradiction | rfl | (simp; done) | (simp; omega)
theorem c_value_keyed (gl : List (Nat × AV)) (o : Pob) : FnP Tryz.prog (gl) 73 [.agg o.cells] fun r => r = .ret (.bool (keyedB o.kind)) := by
  refine FnP.intro Tryz.func73 rfl rfl (by simp [Tryz.ntmps73]) ?_
  simp only [argEnv, Tryz.ntmps73, Tryz.results73]
  refine AW.rS ?_
  refine AW.rS ?_
  refine AW.rt ?_
  all_goals first | contradiction | rfl | (simp; done) | (simp; omega)
theorem c_slices_Index_string_string (gl : List (Nat × AV)) (ks : List (List UInt8)) (k : List UInt8) (hk : ks.length ≤ 16777216 := by first | omega | exact u8_le _ | assumption | (simp; done) | (simp; omega)) : FnP Tryz.prog (gl) 74 [.sl (strsAV ks), .str k] fun r => r = .ret (.int .i64 (kidxI ks k)) := by
  refine FnP.intro Tryz.func74 rfl rfl (by simp [Tryz.ntmps74]) ?_
  simp only [argEnv, Tryz.ntmps74, Tryz.results74]
  refine AW.rS ?_
  refine AW.seq ?_
  refine AW.rS ?_
  refine AW.block ?_
  refine AW.lk (S := { i : Nat // i ≤ ks.length ∧ ∀ j, j < i → ks.getD j [] ≠ k }) [0, 1, 7] (fun s_ => [(8, .int .i64 s_.1)]) (fun s_ => []) 0 (fun s_ => ks.length - s_.1) ⟨0, Nat.zero_le _, fun j h => absurd h (by omega)⟩ ?_ ?_
  · refine St.le.vw []
  rintro ⟨i, hi, hs⟩
  try dsimp only at hi
  try dsimp only at hs
  refine AW.rS ?_
  refine AW.seq ?_
  refine AW.c2 ?_ ?_
  · intro h8
    refine AW.skip ?_
    refine AW.seq ?_
    refine AW.block ?_
    refine AW.rS ?_
    refine AW.rS ?_
    refine AW.c2 ?_ ?_
    · intro h14
      refine AW.rS ?_
      refine AW.rt ?_
      rw [kidx_hit h8 hs h14]
    · intro h14
      refine AW.skip ?_
      refine AW.rL ?_
      refine ⟨⟨i + 1, by omega, fun j hj => by rcases Nat.lt_succ_iff_lt_or_eq.1 hj with h | rfl; exact hs j h; exact fun e => h14 e.symm⟩, ?_, ?_⟩
      · refine St.le.vw []
      · simp only []; omega
  · intro h8
    refine AW.exit ?_
    refine AW.rS ?_
    refine AW.rt ?_
    rw [kidx_miss (fun j hj => hs j (by omega))]
end Go.Proofs


namespace Go.Proofs
open Go Aw
set_option linter.unusedSimpArgs false
set_option maxRecDepth 100000
set_option maxHeartbeats 4000000
theorem c_value_Get (gl : List (Nat × AV)) (o : Pob) (key : List UInt8) (h : o.bulk ≤ 16777216 := by first | omega | exact u8_le _ | assumption | (simp; done) | (simp; omega)) : FnP Tryz.prog (gl) 42 [.agg o.cells, .str key] fun r => r = .ret (.tup [.agg (getO o key).cells, .bool (getB o key)]) := by
  refine FnP.intro Tryz.func42 rfl rfl (by simp [Tryz.ntmps42]) ?_
  simp only [argEnv, Tryz.ntmps42, Tryz.results42]
  have hb := Pob.bulk_eq o
  refine AW.rS ?_
  refine AW.seq ?_
  refine AW.rSC ?_
  refine awOps.cons (awGuard.c1 (c_value_keyed _ o) ?_)
  refine awOps.rn ?_
  refine AW.c2 ?_ ?_
  · intro h6
    refine AW.rS ?_
    refine AW.rt ?_
    rw [(get_unkeyed h6).1, (get_unkeyed h6).2]; rfl
  · intro h6
    refine AW.skip ?_
    refine AW.rSC ?_
    refine awOps.cons (awGuard.c1 (c_slices_Index_string_string _ o.keys key (by omega)) ?_)
    refine awOps.rn ?_
    refine AW.seq ?_
    refine AW.rS ?_
    refine AW.c2 ?_ ?_
    · intro h16
      refine AW.rS ?_
      refine AW.rt ?_
      rw [(get_miss h16).1, (get_miss h16).2]; rfl
    · intro h16
      refine AW.skip ?_
      refine AW.rSC ?_
      refine awOps.cons (awGuard.c1 (c_value_Clone _ (o.kids.getD (kidxI o.keys key).toNat Pob.null) (by have := Pob.bulk_kid (o := o) (i := (kidxI o.keys key).toNat) (by omega); omega)) ?_)
      refine awOps.rn ?_
      refine AW.rt ?_
      rw [(get_hit h6 h16).1, (get_hit h6 h16).2, ← Pob.cells_eq]
end Go.Proofs


namespace Go.Proofs
open Go Aw
set_option linter.unusedSimpArgs false
set_option linter.unusedVariables false
set_option maxRecDepth 100000
set_option maxHeartbeats 4000000
theorem c_docs_numbers (gl : List (Nat × AV)) (i : Itm) : FnP Tryz.prog (gl) 103 [.agg i.cells] fun r => r = .ret (.bool (decide (1 ≤ i.num) && decide (i.num ≤ 8191) && decide (0 ≤ i.gen) && decide (i.gen ≤ 65535))) := by
  refine FnP.intro Tryz.func103 rfl rfl (by simp [Tryz.ntmps103]) ?_
  simp only [argEnv, Tryz.ntmps103, Tryz.results103]
  refine AW.rS ?_
  refine AW.rS ?_
  refine AW.rt ?_
  simp only [Bool.cond_false_right]
theorem c_docs_copied (gl : List (Nat × AV)) (i : Itm) (h : i.obj.bulk ≤ 16777216 := by first | omega | exact u8_le _ | assumption | (simp; done) | (simp; omega)) : FnP Tryz.prog (gl) 77 [.agg i.cells] fun r => r = .ret (.agg i.cells) := by
  refine FnP.intro Tryz.func77 rfl rfl (by simp [Tryz.ntmps77]) ?_
  simp only [argEnv, Tryz.ntmps77, Tryz.results77]
  refine AW.rS ?_
  refine AW.rSC ?_
  refine awOps.cons (awGuard.c1 (c_value_Clone _ i.obj) ?_)
  refine awOps.rn ?_
  refine AW.rS ?_
  refine AW.rt ?_
  all_goals first | contradiction | rfl | (simp; done) | (simp; omega)
end Go.Proofs


namespace Go.Proofs
open Go Aw
set_option linter.unusedSimpArgs false
set_option linter.unusedVariables false
set_option maxRecDepth 100000
set_option maxHeartbeats 4000000

def badAV (e : Int) : AV := .iface 113 (.agg [.int .i64 e])
attribute [go_sem] badAV
theorem c_value_must (gl : List (Nat × AV)) (b : Bool) (e : Int) : FnP Tryz.prog (gl) 109 [.bool b, .int .i64 e] fun r => r = if b = true then .ret (.tup []) else .panic (badAV e) := by
  refine FnP.intro Tryz.func109 rfl rfl (by simp [Tryz.ntmps109]) ?_
  simp only [argEnv, Tryz.ntmps109, Tryz.results109]
  refine AW.rS ?_
  refine AW.c2 ?_ ?_
  · intro h2
    refine AW.rLC ?_
    refine awOps.cons (awGuard.pn ?_)
    refine wk ?_
    rw [if_neg (by simp [h2])]
  · intro h2
    refine AW.skip ?_
    refine wk ?_
    rw [if_pos h2]
end Go.Proofs

namespace Go.Proofs
open Go Aw
set_option linter.unusedSimpArgs false
set_option linter.unusedVariables false
set_option maxRecDepth 100000
set_option maxHeartbeats 4000000
theorem c_value_within_int64 (gl : List (Nat × AV)) (n a b : Int) : FnP Tryz.prog (gl) 131 [.int .i64 n, .int .i64 a, .int .i64 b] fun r => r = .ret (.bool (decide (a ≤ n) && decide (n ≤ b))) := by
  refine FnP.intro Tryz.func131 rfl rfl (by simp [Tryz.ntmps131]) ?_
  simp only [argEnv, Tryz.ntmps131, Tryz.results131]
  refine AW.rS ?_
  refine AW.rS ?_
  refine AW.rt ?_
  simp only [Bool.cond_false_right]
theorem c_value_within_int (gl : List (Nat × AV)) (n a b : Int) : FnP Tryz.prog (gl) 132 [.int .i64 n, .int .i64 a, .int .i64 b] fun r => r = .ret (.bool (decide (a ≤ n) && decide (n ≤ b))) := by
  refine FnP.intro Tryz.func132 rfl rfl (by simp [Tryz.ntmps132]) ?_
  simp only [argEnv, Tryz.ntmps132, Tryz.results132]
  refine AW.rS ?_
  refine AW.rS ?_
  refine AW.rt ?_
  simp only [Bool.cond_false_right]
theorem c_value_fits (gl : List (Nat × AV)) (o : Pob) : FnP Tryz.prog (gl) 111 [.agg o.cells] fun r => r = .ret (.bool (fitsB o)) := by
  refine FnP.intro Tryz.func111 rfl rfl (by simp [Tryz.ntmps111]) ?_
  simp only [argEnv, Tryz.ntmps111, Tryz.results111]
  refine AW.rS ?_
  refine AW.seq ?_
  refine AW.rS ?_
  refine AW.block ?_
  refine AW.rS ?_
  refine AW.c2 ?_ ?_
  · intro h6
    refine AW.rSC ?_
    refine awOps.cons (awGuard.c1 (c_value_within_int64 _ o.num 0 1) ?_)
    refine awOps.rn ?_
    refine AW.rt ?_
    simp_all [fitsB]
  · intro h6
    refine AW.rS ?_
    refine AW.c2 ?_ ?_
    · intro h13
      refine AW.rSC ?_
      refine awOps.cons (awGuard.c1 (c_value_within_int64 _ o.num (-2147483647) 2147483647) ?_)
      refine awOps.rn ?_
      refine AW.rt ?_
      simp_all [fitsB]
    · intro h13
      refine AW.rS ?_
      refine AW.c2 ?_ ?_
      · intro h20
        refine AW.rSC ?_
        refine awOps.cons (awGuard.c1 (c_value_within_int64 _ o.num (-1073741824) 1073741824) ?_)
        refine awOps.rn ?_
        refine AW.rt ?_
        simp_all [fitsB]
      · intro h20
        refine AW.rS ?_
        refine AW.c2 ?_ ?_
        · intro h27
          refine AW.rSC ?_
          refine awOps.cons (awGuard.c1 (c_value_within_int64 _ o.num 1 8191) ?_)
          refine awOps.rn ?_
          refine awOps.cons (awGuard.cG (fun hg => c_value_within_int _ o.gen 0 65535) ?_)
          refine awOps.rn ?_
          refine AW.rt ?_
          simp_all [fitsB]
        · intro h27
          refine AW.skip ?_
          refine AW.rS ?_
          refine AW.rt ?_
          simp_all [fitsB]
theorem c_value_short (gl : List (Nat × AV)) (o : Pob) : FnP Tryz.prog (gl) 112 [.agg o.cells] fun r => r = .ret (.bool (shortB o)) := by
  refine FnP.intro Tryz.func112 rfl rfl (by simp [Tryz.ntmps112]) ?_
  simp only [argEnv, Tryz.ntmps112, Tryz.results112]
  refine AW.rS ?_
  refine AW.seq ?_
  refine AW.rS ?_
  refine AW.block ?_
  refine AW.rS ?_
  refine AW.c2 ?_ ?_
  · intro h6
    refine AW.rS ?_
    refine AW.rt ?_
    simp_all [shortB]
  · intro h6
    refine AW.rS ?_
    refine AW.c2 ?_ ?_
    · intro h11
      refine AW.rS ?_
      refine AW.rt ?_
      simp_all [shortB]
    · intro h11
      refine AW.skip ?_
      refine AW.rS ?_
      refine AW.rt ?_
      simp_all [shortB]
end Go.Proofs


namespace Go.Proofs
open Go Aw
set_option linter.unusedSimpArgs false
set_option linter.unusedVariables false
set_option maxRecDepth 100000
set_option maxHeartbeats 4000000
theorem c_value_used (gl : List (Nat × AV)) (k : Int) : FnP Tryz.prog (gl) 110 [.int .i64 k] fun r => r = .ret (.tup [.agg [.bool (uN k), .bool (uG k), .bool (uS k), .bool (uKeys k), .bool (uKids k)], .bool (uOk k)]) := by
  refine FnP.intro Tryz.func110 rfl rfl (by simp [Tryz.ntmps110]) ?_
  simp only [argEnv, Tryz.ntmps110, Tryz.results110]
  refine AW.rS ?_
  refine AW.seq ?_
  refine AW.rS ?_
  refine AW.block ?_
  refine AW.rS ?_
  refine AW.c2 ?_ ?_
  · intro h6
    refine AW.rS ?_
    refine AW.rt ?_
    first | (exfalso; omega) | (refine used_eq ?_ ?_ ?_ ?_ ?_ ?_ <;> simp only [uN, uG, uS, uKeys, uKids, uOk] <;> first | (subst_vars; rfl) | grind)
  · intro h6
    refine AW.seq ?_
    refine AW.rS ?_
    refine AW.c2 ?_ ?_
    · intro h12
      refine AW.skip ?_
      refine AW.c2 ?_ ?_
      · intro h14
        refine AW.rS ?_
        refine AW.rt ?_
        first | (exfalso; omega) | (refine used_eq ?_ ?_ ?_ ?_ ?_ ?_ <;> simp only [uN, uG, uS, uKeys, uKids, uOk] <;> first | (subst_vars; rfl) | grind)
      · intro h14
        refine AW.seq ?_
        refine AW.rS ?_
        refine AW.c2 ?_ ?_
        · intro h20
          refine AW.skip ?_
          refine AW.c2 ?_ ?_
          · intro h22
            refine AW.rS ?_
            refine AW.rt ?_
            first | (exfalso; omega) | (refine used_eq ?_ ?_ ?_ ?_ ?_ ?_ <;> simp only [uN, uG, uS, uKeys, uKids, uOk] <;> first | (subst_vars; rfl) | grind)
          · intro h22
            refine AW.rS ?_
            refine AW.c2 ?_ ?_
            · intro h27
              refine AW.rS ?_
              refine AW.rt ?_
              first | (exfalso; omega) | (refine used_eq ?_ ?_ ?_ ?_ ?_ ?_ <;> simp only [uN, uG, uS, uKeys, uKids, uOk] <;> first | (subst_vars; rfl) | grind)
            · intro h27
              refine AW.rS ?_
              refine AW.c2 ?_ ?_
              · intro h32
                refine AW.rS ?_
                refine AW.rt ?_
                first | (exfalso; omega) | (refine used_eq ?_ ?_ ?_ ?_ ?_ ?_ <;> simp only [uN, uG, uS, uKeys, uKids, uOk] <;> first | (subst_vars; rfl) | grind)
              · intro h32
                refine AW.rS ?_
                refine AW.c2 ?_ ?_
                · intro h37
                  refine AW.rS ?_
                  refine AW.rt ?_
                  first | (exfalso; omega) | (refine used_eq ?_ ?_ ?_ ?_ ?_ ?_ <;> simp only [uN, uG, uS, uKeys, uKids, uOk] <;> first | (subst_vars; rfl) | grind)
                · intro h37
                  refine AW.rS ?_
                  refine AW.c2 ?_ ?_
                  · intro h42
                    refine AW.rS ?_
                    refine AW.rt ?_
                    first | (exfalso; omega) | (refine used_eq ?_ ?_ ?_ ?_ ?_ ?_ <;> simp only [uN, uG, uS, uKeys, uKids, uOk] <;> first | (subst_vars; rfl) | grind)
                  · intro h42
                    refine AW.skip ?_
                    refine AW.rS ?_
                    refine AW.rt ?_
                    first | (exfalso; omega) | (refine used_eq ?_ ?_ ?_ ?_ ?_ ?_ <;> simp only [uN, uG, uS, uKeys, uKids, uOk] <;> first | (subst_vars; rfl) | grind)
        · intro h20
          refine AW.rL ?_
          refine AW.c2 ?_ ?_
          · intro h51
            refine AW.rS ?_
            refine AW.rt ?_
            first | (exfalso; omega) | (refine used_eq ?_ ?_ ?_ ?_ ?_ ?_ <;> simp only [uN, uG, uS, uKeys, uKids, uOk] <;> first | (subst_vars; rfl) | grind)
          · intro h51
            refine AW.rS ?_
            refine AW.c2 ?_ ?_
            · intro h56
              refine AW.rS ?_
              refine AW.rt ?_
              first | (exfalso; omega) | (refine used_eq ?_ ?_ ?_ ?_ ?_ ?_ <;> simp only [uN, uG, uS, uKeys, uKids, uOk] <;> first | (subst_vars; rfl) | grind)
            · intro h56
              refine AW.rS ?_
              refine AW.c2 ?_ ?_
              · intro h61
                refine AW.rS ?_
                refine AW.rt ?_
                first | (exfalso; omega) | (refine used_eq ?_ ?_ ?_ ?_ ?_ ?_ <;> simp only [uN, uG, uS, uKeys, uKids, uOk] <;> first | (subst_vars; rfl) | grind)
              · intro h61
                refine AW.rS ?_
                refine AW.c2 ?_ ?_
                · intro h66
                  refine AW.rS ?_
                  refine AW.rt ?_
                  first | (exfalso; omega) | (refine used_eq ?_ ?_ ?_ ?_ ?_ ?_ <;> simp only [uN, uG, uS, uKeys, uKids, uOk] <;> first | (subst_vars; rfl) | grind)
                · intro h66
                  refine AW.rS ?_
                  refine AW.c2 ?_ ?_
                  · intro h71
                    refine AW.rS ?_
                    refine AW.rt ?_
                    first | (exfalso; omega) | (refine used_eq ?_ ?_ ?_ ?_ ?_ ?_ <;> simp only [uN, uG, uS, uKeys, uKids, uOk] <;> first | (subst_vars; rfl) | grind)
                  · intro h71
                    refine AW.skip ?_
                    refine AW.rS ?_
                    refine AW.rt ?_
                    first | (exfalso; omega) | (refine used_eq ?_ ?_ ?_ ?_ ?_ ?_ <;> simp only [uN, uG, uS, uKeys, uKids, uOk] <;> first | (subst_vars; rfl) | grind)
    · intro h12
      refine AW.rS ?_
      refine AW.c2 ?_ ?_
      · intro h80
        refine AW.skip ?_
        refine AW.c2 ?_ ?_
        · intro h82
          refine AW.rS ?_
          refine AW.rt ?_
          first | (exfalso; omega) | (refine used_eq ?_ ?_ ?_ ?_ ?_ ?_ <;> simp only [uN, uG, uS, uKeys, uKids, uOk] <;> first | (subst_vars; rfl) | grind)
        · intro h82
          refine AW.seq ?_
          refine AW.rS ?_
          refine AW.c2 ?_ ?_
          · intro h88
            refine AW.skip ?_
            refine AW.c2 ?_ ?_
            · intro h90
              refine AW.rS ?_
              refine AW.rt ?_
              first | (exfalso; omega) | (refine used_eq ?_ ?_ ?_ ?_ ?_ ?_ <;> simp only [uN, uG, uS, uKeys, uKids, uOk] <;> first | (subst_vars; rfl) | grind)
            · intro h90
              refine AW.rS ?_
              refine AW.c2 ?_ ?_
              · intro h95
                refine AW.rS ?_
                refine AW.rt ?_
                first | (exfalso; omega) | (refine used_eq ?_ ?_ ?_ ?_ ?_ ?_ <;> simp only [uN, uG, uS, uKeys, uKids, uOk] <;> first | (subst_vars; rfl) | grind)
              · intro h95
                refine AW.rS ?_
                refine AW.c2 ?_ ?_
                · intro h100
                  refine AW.rS ?_
                  refine AW.rt ?_
                  first | (exfalso; omega) | (refine used_eq ?_ ?_ ?_ ?_ ?_ ?_ <;> simp only [uN, uG, uS, uKeys, uKids, uOk] <;> first | (subst_vars; rfl) | grind)
                · intro h100
                  refine AW.rS ?_
                  refine AW.c2 ?_ ?_
                  · intro h105
                    refine AW.rS ?_
                    refine AW.rt ?_
                    first | (exfalso; omega) | (refine used_eq ?_ ?_ ?_ ?_ ?_ ?_ <;> simp only [uN, uG, uS, uKeys, uKids, uOk] <;> first | (subst_vars; rfl) | grind)
                  · intro h105
                    refine AW.rS ?_
                    refine AW.c2 ?_ ?_
                    · intro h110
                      refine AW.rS ?_
                      refine AW.rt ?_
                      first | (exfalso; omega) | (refine used_eq ?_ ?_ ?_ ?_ ?_ ?_ <;> simp only [uN, uG, uS, uKeys, uKids, uOk] <;> first | (subst_vars; rfl) | grind)
                    · intro h110
                      refine AW.skip ?_
                      refine AW.rS ?_
                      refine AW.rt ?_
                      first | (exfalso; omega) | (refine used_eq ?_ ?_ ?_ ?_ ?_ ?_ <;> simp only [uN, uG, uS, uKeys, uKids, uOk] <;> first | (subst_vars; rfl) | grind)
          · intro h88
            refine AW.rL ?_
            refine AW.c2 ?_ ?_
            · intro h119
              refine AW.rS ?_
              refine AW.rt ?_
              first | (exfalso; omega) | (refine used_eq ?_ ?_ ?_ ?_ ?_ ?_ <;> simp only [uN, uG, uS, uKeys, uKids, uOk] <;> first | (subst_vars; rfl) | grind)
            · intro h119
              refine AW.rS ?_
              refine AW.c2 ?_ ?_
              · intro h124
                refine AW.rS ?_
                refine AW.rt ?_
                first | (exfalso; omega) | (refine used_eq ?_ ?_ ?_ ?_ ?_ ?_ <;> simp only [uN, uG, uS, uKeys, uKids, uOk] <;> first | (subst_vars; rfl) | grind)
              · intro h124
                refine AW.rS ?_
                refine AW.c2 ?_ ?_
                · intro h129
                  refine AW.rS ?_
                  refine AW.rt ?_
                  first | (exfalso; omega) | (refine used_eq ?_ ?_ ?_ ?_ ?_ ?_ <;> simp only [uN, uG, uS, uKeys, uKids, uOk] <;> first | (subst_vars; rfl) | grind)
                · intro h129
                  refine AW.rS ?_
                  refine AW.c2 ?_ ?_
                  · intro h134
                    refine AW.rS ?_
                    refine AW.rt ?_
                    first | (exfalso; omega) | (refine used_eq ?_ ?_ ?_ ?_ ?_ ?_ <;> simp only [uN, uG, uS, uKeys, uKids, uOk] <;> first | (subst_vars; rfl) | grind)
                  · intro h134
                    refine AW.rS ?_
                    refine AW.c2 ?_ ?_
                    · intro h139
                      refine AW.rS ?_
                      refine AW.rt ?_
                      first | (exfalso; omega) | (refine used_eq ?_ ?_ ?_ ?_ ?_ ?_ <;> simp only [uN, uG, uS, uKeys, uKids, uOk] <;> first | (subst_vars; rfl) | grind)
                    · intro h139
                      refine AW.skip ?_
                      refine AW.rS ?_
                      refine AW.rt ?_
                      first | (exfalso; omega) | (refine used_eq ?_ ?_ ?_ ?_ ?_ ?_ <;> simp only [uN, uG, uS, uKeys, uKids, uOk] <;> first | (subst_vars; rfl) | grind)
      · intro h80
        refine AW.rL ?_
        refine AW.c2 ?_ ?_
        · intro h148
          refine AW.rS ?_
          refine AW.rt ?_
          first | (exfalso; omega) | (refine used_eq ?_ ?_ ?_ ?_ ?_ ?_ <;> simp only [uN, uG, uS, uKeys, uKids, uOk] <;> first | (subst_vars; rfl) | grind)
        · intro h148
          refine AW.seq ?_
          refine AW.rS ?_
          refine AW.c2 ?_ ?_
          · intro h154
            refine AW.skip ?_
            refine AW.c2 ?_ ?_
            · intro h156
              refine AW.rS ?_
              refine AW.rt ?_
              first | (exfalso; omega) | (refine used_eq ?_ ?_ ?_ ?_ ?_ ?_ <;> simp only [uN, uG, uS, uKeys, uKids, uOk] <;> first | (subst_vars; rfl) | grind)
            · intro h156
              refine AW.rS ?_
              refine AW.c2 ?_ ?_
              · intro h161
                refine AW.rS ?_
                refine AW.rt ?_
                first | (exfalso; omega) | (refine used_eq ?_ ?_ ?_ ?_ ?_ ?_ <;> simp only [uN, uG, uS, uKeys, uKids, uOk] <;> first | (subst_vars; rfl) | grind)
              · intro h161
                refine AW.rS ?_
                refine AW.c2 ?_ ?_
                · intro h166
                  refine AW.rS ?_
                  refine AW.rt ?_
                  first | (exfalso; omega) | (refine used_eq ?_ ?_ ?_ ?_ ?_ ?_ <;> simp only [uN, uG, uS, uKeys, uKids, uOk] <;> first | (subst_vars; rfl) | grind)
                · intro h166
                  refine AW.rS ?_
                  refine AW.c2 ?_ ?_
                  · intro h171
                    refine AW.rS ?_
                    refine AW.rt ?_
                    first | (exfalso; omega) | (refine used_eq ?_ ?_ ?_ ?_ ?_ ?_ <;> simp only [uN, uG, uS, uKeys, uKids, uOk] <;> first | (subst_vars; rfl) | grind)
                  · intro h171
                    refine AW.rS ?_
                    refine AW.c2 ?_ ?_
                    · intro h176
                      refine AW.rS ?_
                      refine AW.rt ?_
                      first | (exfalso; omega) | (refine used_eq ?_ ?_ ?_ ?_ ?_ ?_ <;> simp only [uN, uG, uS, uKeys, uKids, uOk] <;> first | (subst_vars; rfl) | grind)
                    · intro h176
                      refine AW.skip ?_
                      refine AW.rS ?_
                      refine AW.rt ?_
                      first | (exfalso; omega) | (refine used_eq ?_ ?_ ?_ ?_ ?_ ?_ <;> simp only [uN, uG, uS, uKeys, uKids, uOk] <;> first | (subst_vars; rfl) | grind)
          · intro h154
            refine AW.rL ?_
            refine AW.c2 ?_ ?_
            · intro h185
              refine AW.rS ?_
              refine AW.rt ?_
              first | (exfalso; omega) | (refine used_eq ?_ ?_ ?_ ?_ ?_ ?_ <;> simp only [uN, uG, uS, uKeys, uKids, uOk] <;> first | (subst_vars; rfl) | grind)
            · intro h185
              refine AW.rS ?_
              refine AW.c2 ?_ ?_
              · intro h190
                refine AW.rS ?_
                refine AW.rt ?_
                first | (exfalso; omega) | (refine used_eq ?_ ?_ ?_ ?_ ?_ ?_ <;> simp only [uN, uG, uS, uKeys, uKids, uOk] <;> first | (subst_vars; rfl) | grind)
              · intro h190
                refine AW.rS ?_
                refine AW.c2 ?_ ?_
                · intro h195
                  refine AW.rS ?_
                  refine AW.rt ?_
                  first | (exfalso; omega) | (refine used_eq ?_ ?_ ?_ ?_ ?_ ?_ <;> simp only [uN, uG, uS, uKeys, uKids, uOk] <;> first | (subst_vars; rfl) | grind)
                · intro h195
                  refine AW.rS ?_
                  refine AW.c2 ?_ ?_
                  · intro h200
                    refine AW.rS ?_
                    refine AW.rt ?_
                    first | (exfalso; omega) | (refine used_eq ?_ ?_ ?_ ?_ ?_ ?_ <;> simp only [uN, uG, uS, uKeys, uKids, uOk] <;> first | (subst_vars; rfl) | grind)
                  · intro h200
                    refine AW.rS ?_
                    refine AW.c2 ?_ ?_
                    · intro h205
                      refine AW.rS ?_
                      refine AW.rt ?_
                      first | (exfalso; omega) | (refine used_eq ?_ ?_ ?_ ?_ ?_ ?_ <;> simp only [uN, uG, uS, uKeys, uKids, uOk] <;> first | (subst_vars; rfl) | grind)
                    · intro h205
                      refine AW.skip ?_
                      refine AW.rS ?_
                      refine AW.rt ?_
                      first | (exfalso; omega) | (refine used_eq ?_ ?_ ?_ ?_ ?_ ?_ <;> simp only [uN, uG, uS, uKeys, uKids, uOk] <;> first | (subst_vars; rfl) | grind)
end Go.Proofs


namespace Go.Proofs
open Go.Shelf
def Tryz.lays137_ren : Go.Shelf.Ren := ⟨fun | 137 => 133 | 217 => 148 | 266 => 157 | n => n, fun | 9 => 9 | 5 => 5 | 3 => 3 | n => n, fun | n => n⟩
theorem Tryz.lays137 : Go.Proofs.Lays.n137 Tryz.prog Tryz.lays137_ren := {
  mixed := by kernel_rfl
  f137 := Tryz.func133.trans (congrArg some (by kernel_rfl))
  f217 := Tryz.func148.trans (congrArg some (by kernel_rfl))
  f266 := Tryz.func157.trans (congrArg some (by kernel_rfl))
  t3 := Tryz.underlying3
  a3 := Tryz.isAgg3
  z3 := Tryz.sizeOf3
  v3 := Tryz.zeroValue3
  t5 := Tryz.underlying5
  a5 := Tryz.isAgg5
  z5 := Tryz.sizeOf5
  v5 := Tryz.zeroValue5
  t9 := Tryz.underlying9
  a9 := Tryz.isAgg9
  z9 := Tryz.sizeOf9
  v9 := Tryz.zeroValue9 }
open Go.RowKit in
theorem Tryz.strings_IndexByte (s : ByteArray) (c : Int) (w : World) :
    Calls Tryz.prog 133 #[.string s, .int .u8 c] w fun e w' => e = .returned (.int .i64 (Lib.indexByte s.data.toList c.toNat.toUInt8)) ∧ w' = w := Any.strings_IndexByte Tryz.lays137 s c w
end Go.Proofs

namespace Go.Proofs
open Go Aw
set_option linter.unusedSimpArgs false
set_option linter.unusedVariables false
set_option maxRecDepth 100000
set_option maxHeartbeats 4000000
theorem c_strings_IndexByte (gl : List (Nat × AV)) (s : List UInt8) (c : Int) : FnP Tryz.prog gl 133 [.str s, .int .u8 c] fun r => r = .ret (.int .i64 (Lib.indexByte s c.toNat.toUInt8)) := by
  refine FnP.same (enters_of Tryz.func133 rfl rfl) ?_
  intro m vs _ hv
  simp only [RepL, Rep] at hv
  obtain ⟨_, _, rfl, rfl, _, _, rfl, rfl, rfl⟩ := hv
  refine (Tryz.strings_IndexByte ⟨s.toArray⟩ c m.w).mono ?_
  rintro e w' ⟨rfl, rfl⟩
  exact ⟨⟨_, rfl, fun m => by simp only [Rep]⟩, rfl⟩
theorem c_value_key (gl : List (Nat × AV)) (s : List UInt8) : FnP Tryz.prog (gl) 113 [.str s] fun r => r = .ret (.bool (nameB s)) := by
  refine FnP.intro Tryz.func113 rfl rfl (by simp [Tryz.ntmps113]) ?_
  simp only [argEnv, Tryz.ntmps113, Tryz.results113]
  refine AW.rS ?_
  refine AW.rSC ?_
  refine awOps.cons (awGuard.cG (fun hg => c_strings_IndexByte _ s 0) ?_)
  refine awOps.rn ?_
  refine AW.rt ?_
  simp only [nameB, Bool.cond_false_right]; rfl
end Go.Proofs


namespace Go.Proofs
open Go Aw
set_option linter.unusedSimpArgs false
set_option linter.unusedVariables false
set_option maxRecDepth 100000
set_option maxHeartbeats 4000000
theorem c_value_rising (gl : List (Nat × AV)) (o : Pob) (hk : o.keys.length ≤ 16777216 := by first | omega | exact u8_le _ | assumption | (simp; done) | (simp; omega)) : FnP Tryz.prog (gl) 114 [.agg o.cells] fun r => r = .ret (.bool (risingB o)) := by
  refine FnP.intro Tryz.func114 rfl rfl (by simp [Tryz.ntmps114]) ?_
  simp only [argEnv, Tryz.ntmps114, Tryz.results114]
  refine AW.rS ?_
  refine AW.seq ?_
  refine AW.rS ?_
  refine AW.c2 ?_ ?_
  · intro h4
    refine AW.rS ?_
    refine AW.rt ?_
    rw [rising_no (fun h => by have := h.1; omega)]
  · intro h4
    refine AW.skip ?_
    refine AW.seq ?_
    refine AW.rS ?_
    refine AW.block ?_
    refine AW.lk (S := { i : Nat // i ≤ o.keys.length ∧ ∀ j, j < i → okKey o j }) [1, 13, 14] (fun s_ => [(15, .int .i64 s_.1)]) (fun s_ => [(0, .cells [.int .i64 o.kind, .int .i64 o.num, .int .i64 o.gen, .str o.str, .sl (strsAV o.keys), .sl (objsAV o.kids)])]) 1 (fun s_ => o.keys.length - s_.1) ⟨0, Nat.zero_le _, fun j h => absurd h (by omega)⟩ ?_ ?_
    · refine St.le.vw [0]
    rintro ⟨i, hi, hs⟩
    try dsimp only at hi
    try dsimp only at hs
    refine AW.rS ?_
    refine AW.seq ?_
    refine AW.c2 ?_ ?_
    · intro h15
      refine AW.skip ?_
      refine AW.seq ?_
      refine AW.block ?_
      refine AW.rS ?_
      refine AW.rSC ?_
      refine awOps.cons (awGuard.c1 (c_value_key _ (o.keys.getD i [])) ?_)
      refine awOps.rn ?_
      refine AW.c2 ?_ ?_
      · intro h23
        refine AW.rS ?_
        refine AW.rt ?_
        rw [rising_no (fun h => by have := h.2 i h15; simp only [okKey] at this; grind)]
      · intro h23
        refine AW.skip ?_
        have hok : okKey o i := by simp only [okKey]; grind
        refine AW.rL ?_
        refine ⟨⟨i + 1, by omega, fun j hj => by rcases Nat.lt_succ_iff_lt_or_eq.1 hj with h | rfl; exact hs j h; exact hok⟩, ?_, ?_⟩
        · refine St.le.vw [0]
        · simp only []; omega
    · intro h15
      refine AW.exit ?_
      refine AW.rS ?_
      refine AW.rt ?_
      rw [rising_yes ⟨by omega, fun j hj => hs j (by omega)⟩]
end Go.Proofs


namespace Go.Proofs
open Go Aw
set_option linter.unusedSimpArgs false
set_option linter.unusedVariables false
set_option maxRecDepth 100000
set_option maxHeartbeats 4000000
theorem check_step (gl : List (Nat × AV)) (N : Nat) (hN : N ≤ 16777216) (ih : ∀ (o' : Pob) (d : Int), o'.bulk < N → 0 ≤ d → FnP Tryz.prog gl 81 [.agg o'.cells, .int .i64 d] fun r => r = if decide (chk o' d = 0) = true then .ret (.tup []) else .panic (badAV (chk o' d))) (o : Pob) (d : Int) (ho : o.bulk ≤ N) (hd : 0 ≤ d) : FnP Tryz.prog (gl) 81 [.agg o.cells, .int .i64 d] fun r => r = if decide (chk o d = 0) = true then .ret (.tup []) else .panic (badAV (chk o d)) := by
  refine FnP.intro Tryz.func81 rfl rfl (by simp [Tryz.ntmps81]) ?_
  simp only [argEnv, Tryz.ntmps81, Tryz.results81]
  have hbulk := Pob.bulk_eq o
  refine AW.rS ?_
  refine AW.rSC ?_
  refine awOps.cons (awGuard.cM (c_value_must _ (decide (d ≤ 24)) 7) ?_ ?_)
  · intro hp3
    refine wk ?_
    rw [chk_bad (e := 7) (by simp [ownE, hp3]) (by omega)]; simp
  intro hm3
  refine awOps.rn ?_
  refine AW.rSC ?_
  refine awOps.cons (awGuard.c1 (c_value_used _ o.kind) ?_)
  refine awOps.rn ?_
  refine AW.rSC ?_
  refine awOps.cons (awGuard.cM (c_value_must _ (useB o d) 10) ?_ ?_)
  · intro hp9
    refine wk ?_
    rw [chk_bad (e := 10) (by simp [ownE, hm3, hp9]) (by omega)]; simp
  intro hm9
  refine awOps.rn ?_
  refine AW.rSC ?_
  refine awOps.cons (awGuard.c1 (c_value_fits _ o) ?_)
  refine awOps.rn ?_
  refine awOps.cons (awGuard.cM (c_value_must _ (fitsB o) 2) ?_ ?_)
  · intro hp14
    refine wk ?_
    rw [chk_bad (e := 2) (by simp [ownE, hm3, hm9, hp14]) (by omega)]; simp
  intro hm14
  refine awOps.rn ?_
  refine AW.rSC ?_
  refine awOps.cons (awGuard.c1 (c_value_short _ o) ?_)
  refine awOps.rn ?_
  refine awOps.cons (awGuard.cM (c_value_must _ (shortB o) 5) ?_ ?_)
  · intro hp19
    refine wk ?_
    rw [chk_bad (e := 5) (by simp [ownE, hm3, hm9, hm14, hp19]) (by omega)]; simp
  intro hm19
  refine awOps.rn ?_
  refine AW.rSC ?_
  refine awOps.cons (awGuard.cM (c_value_must _ (decide ((o.kids.length : Int) ≤ 8191)) 6) ?_ ?_)
  · intro hp22
    refine wk ?_
    rw [chk_bad (e := 6) (by simp [ownE, hm3, hm9, hm14, hm19, hp22]) (by omega)]; simp
  intro hm22
  refine awOps.rn ?_
  refine AW.rSC ?_
  refine awOps.cons (awGuard.cG (fun hg => c_value_key _ o.str) ?_)
  refine awOps.rn ?_
  refine awOps.cons (awGuard.cG (fun hg => c_value_rising _ o (by omega)) ?_)
  refine awOps.rn ?_
  refine awOps.cons (awGuard.cM (c_value_must _ (formB o) 3) ?_ ?_)
  · intro hp29
    refine wk ?_
    rw [chk_bad (e := 3) (by simp [ownE, hm3, hm9, hm14, hm19, hm22, hp29]) (by omega)]; simp
  intro hm29
  refine awOps.rn ?_
  refine AW.rS ?_
  refine AW.block ?_
  have hown : ownE o d = 0 := by simp [ownE, hm3, hm9, hm14, hm19, hm22, hm29]
  refine AW.lk (S := { i : Nat // i ≤ o.kids.length ∧ chkL o.kids (d + 1) = chkL (o.kids.drop i) (d + 1) }) [1, 105, 106] (fun s_ => [(107, .int .i64 s_.1)]) (fun s_ => []) 0 (fun s_ => o.kids.length - s_.1) ⟨0, Nat.zero_le _, rfl⟩ ?_ ?_
  · refine St.le.vw []
  rintro ⟨i, hi, hs⟩
  try dsimp only at hi
  try dsimp only at hs
  refine AW.rS ?_
  refine AW.seq ?_
  refine AW.c2 ?_ ?_
  · intro h36
    refine AW.skip ?_
    refine AW.seq ?_
    refine AW.block ?_
    refine AW.rS ?_
    refine AW.rLC ?_
    refine awOps.cons (awGuard.cM (ih (o.kids.getD i Pob.null) (d + 1) (Nat.lt_of_lt_of_le (Pob.bulk_kid (by omega)) ho) (by omega)) ?_ ?_)
    · intro hp42
      refine wk ?_
      rw [chk_eq o d, hown, if_pos rfl, hs, chkL_drop (by omega), if_neg hp42, decide_eq_false hp42]; rfl
    intro hm42
    refine awOps.rn ?_
    refine AW.rL ?_
    refine ⟨⟨i + 1, by omega, by rw [hs, chkL_drop (by omega), if_pos hm42]⟩, ?_, ?_⟩
    · refine St.le.vw []
    · simp only []; omega
  · intro h36
    refine AW.exit ?_
    refine wk ?_
    rw [chk_eq o d, hown, if_pos rfl, hs, List.drop_of_length_le (by omega)]; simp [chkL]
theorem check_all (gl : List (Nat × AV)) (N : Nat) : N ≤ 16777216 → ∀ (o : Pob) (d : Int), 0 ≤ d → o.bulk ≤ N → FnP Tryz.prog gl 81 [.agg o.cells, .int .i64 d] fun r => r = if decide (chk o d = 0) = true then .ret (.tup []) else .panic (badAV (chk o d)) := by
  induction N using Nat.strongRecOn with
  | ind N IH => exact fun hN o d hd ho => check_step gl N hN (fun o' d' h hd' => IH o'.bulk h (by omega) o' d' hd' (Nat.le_refl _)) o d ho hd
theorem c_value_check (gl : List (Nat × AV)) (o : Pob) (d : Int) (hd : 0 ≤ d) (h : o.bulk ≤ 16777216 := by assumption) : FnP Tryz.prog gl 81 [.agg o.cells, .int .i64 d] fun r => r = if decide (chk o d = 0) = true then .ret (.tup []) else .panic (badAV (chk o d)) := check_all gl 16777216 (Nat.le_refl _) o d hd h
end Go.Proofs


namespace Go.Proofs
open Go Aw
set_option linter.unusedSimpArgs false
set_option linter.unusedVariables false
set_option maxRecDepth 100000
set_option maxHeartbeats 4000000

theorem d_caught_ret (gl : List (Nat × AV)) (e : Int) : FnD Tryz.prog gl 108 [.ptr 0 0] [(0, .cells [.int .i64 e])] 1 .ret (fun u hp nx => u = .ret ∧ hp = [(0, .cells [.int .i64 e])] ∧ nx = 1) := by
  refine FnD.intro Tryz.func108 rfl rfl (by simp [Tryz.ntmps108]) ?_
  simp only [argEnv, Tryz.ntmps108, Tryz.results108]
  refine AWD.seq (AWD.regRecover rfl rfl rfl rfl (by simp only [go_sem, seval]) ?_)
  refine awOps.rn ?_
  refine AWD.of ?_
  refine AW.block ?_
  refine AW.rS ?_
  refine AW.c2 ?_ ?_
  · intro h4
    refine AW.rL ?_
    refine wk ?_
    trivial
  · intro h4
    simp at h4
theorem d_caught_pan (gl : List (Nat × AV)) (e0 e : Int) : FnD Tryz.prog gl 108 [.ptr 0 0] [(0, .cells [.int .i64 e0])] 1 (.pan (badAV e)) (fun u hp nx => u = .ret ∧ hp = [(0, .cells [.int .i64 e]), (1, .cells [.int .i64 e])] ∧ nx = 2) := by
  refine FnD.intro Tryz.func108 rfl rfl (by simp [Tryz.ntmps108]) ?_
  simp only [argEnv, Tryz.ntmps108, Tryz.results108]
  refine AWD.seq (AWD.regRecover rfl rfl rfl rfl (by simp only [go_sem, seval]) ?_)
  refine awOps.rn ?_
  refine AWD.of ?_
  refine AW.block ?_
  simp only [badAV]
  refine AW.rS ?_
  refine AW.c2 ?_ ?_
  · intro h4
    simp at h4
  · intro h4
    refine AW.rS ?_
    refine AW.c2 ?_ ?_
    · intro h9
      refine AW.rS ?_
      refine AW.rL ?_
      refine wk ?_
      trivial
    · intro h9
      simp at h9
theorem c_value_caught (gl : List (Nat × AV)) (f : FuncId) (cs : List AV) (e : Int) (hc : FnP Tryz.prog gl f [.tptr cs] fun r => r = if decide (e = 0) = true then .ret (.tup []) else .panic (badAV e)) : FnP Tryz.prog (gl) 79 [.clos f [.tptr cs]] fun r => r = .ret (.int .i64 e) := by
  refine FnP.introD Tryz.func79 rfl rfl (by simp [Tryz.ntmps79]) ?_
  simp only [argEnv, Tryz.ntmps79]
  refine AW.rS ?_
  refine AW.df ?_
  refine AW.rSC ?_
  refine awOps.cons (awGuard.cM (hc) ?_ ?_)
  · intro hp4
    refine wk ?_
    refine finD_pan ?_
    refine LeaveS.c1 [0] (d_caught_pan _ 0 e) ?_
    refine LeaveS.rt Tryz.results79 ?_
    trivial
  intro hm4
  refine awOps.rn ?_
  refine AW.rS ?_
  refine AW.rt ?_
  refine LeaveS.c1 [0] (d_caught_ret _ 0) ?_
  refine LeaveS.rt Tryz.results79 ?_
  rw [hm4]
end Go.Proofs
