/- A part of the proof: no condition of its own. -/
import Derived.Test.YtldekaaiippfkaaGreatPart1
import Derived.JoinedCond
import Derived.Test.YtldekaaiippfkaaGreatRows
import Derived.Shelf.Small.Strs
import Derived.Test.YtldekaaiippfkaaGreatProg
namespace Go.Proofs.YtldekaaiippfkaaGreat
open Go Aw
theorem own : ownKnob Tryz.prog.godebug = none := by kernel_rfl
theorem laidOut : laidOutB Tryz.prog = true := by kernel_rfl
theorem objT : ObjT Tryz.prog 25 3 2 9 22 23 where
 o := ⟨_, Tryz.underlying25, rfl⟩
 i := Tryz.underlying3
 l := Tryz.underlying2
 s := Tryz.underlying9
 ks := Tryz.underlying22
 os := Tryz.underlying23
 c := by and_intros <;> kernel_rfl
theorem docT : DocT Tryz.prog 25 3 2 9 22 23 47 32 34 where
 o := objT
 it := ⟨_, Tryz.underlying47, rfl⟩
 its := Tryz.underlying32
 d := ⟨_, Tryz.underlying34, rfl⟩
 c := by and_intros <;> kernel_rfl
mutual
theorem dle_upto {H : Type} : ∀ d : DataW H, dbulk d ≤ Rows.uptoBulk d
 | .lit (.string _) => by simp only [dbulk, Rows.uptoBulk]; omega
 | .lit (.bool _) => by simp only [dbulk, Rows.uptoBulk]; omega
 | .lit (.int _ _) => by simp only [dbulk, Rows.uptoBulk]; omega
 | .lit (.float _ _) => by simp only [dbulk, Rows.uptoBulk]; omega
 | .lit .nil => by simp only [dbulk, Rows.uptoBulk]; omega
 | .nil => by simp only [dbulk, Rows.uptoBulk]; omega
 | .ptr d => by have := dle_upto d; simp only [dbulk, Rows.uptoBulk]; omega
 | .slice es sp => by have := dles_upto es; have := dles_upto sp; simp only [dbulk, Rows.uptoBulk]; omega
 | .agg ps => by have := dles_upto ps; simp only [dbulk, Rows.uptoBulk]; omega
 | .iface _ d => by have := dle_upto d; simp only [dbulk, Rows.uptoBulk]; omega
 | .map _ => by simp only [dbulk, Rows.uptoBulk]; omega
 | .held _ => by simp only [dbulk, Rows.uptoBulk]; omega
theorem dles_upto {H : Type} : ∀ l : List (DataW H), dbulks l ≤ Rows.uptoBulkAll l
 | [] => by simp only [dbulks, Rows.uptoBulkAll]; omega
 | d :: r => by have := dle_upto d; have := dles_upto r; simp only [dbulks, Rows.uptoBulkAll]; omega
end
end Go.Proofs.YtldekaaiippfkaaGreat

namespace Go.Proofs
open Go Aw
set_option linter.unusedSimpArgs false
set_option maxRecDepth 100000
set_option maxHeartbeats 4000000
theorem c_slices_Clone_string_string (gl : List (Nat × AV)) (ks : List (List UInt8)) (hk : ks.length ≤ 16777216 := by first | omega | exact u8_le _ | assumption | (simp; done) | (simp; omega)) : FnP Tryz.prog (gl) 86 [.sl (strsAV ks)] fun r => r = .ret (.sl (strsAV ks)) := by
 refine FnP.intro Tryz.func86 rfl rfl (by simp [Tryz.ntmps86]) ?_
 simp only [argEnv, Tryz.ntmps86, Tryz.results86]
 refine AW.rS ?_
 refine AW.seq ?_
 refine AW.rSC ?_
 refine awOps.cons (awGuard.nS ?_)
 intro b4 hb4
 simp only [nilBool]
 refine awOps.rn ?_
 refine AW.c2 ?_ ?_
 ·intro h6
  refine AW.rS ?_
  refine AW.pre (St.le.nilrow 2 1 (by (simp only [go_sem, seval]; try (simp (disch := omega) only [zq]; try (simp only [go_sem, seval]; try (simp (disch := omega) only [zq]; try simp only [go_sem, seval])))))) ?_
  refine wk ?_
  refine AW.rt ?_
  rw [nil_strs hb4 h6, strsAV_nil]
 ·intro h6
  refine AW.skip ?_
  refine AW.rS ?_
  refine AW.rt ?_
  all_goals first | contradiction | rfl | (simp; done) | (simp; omega)
theorem c_value_Clone_1 (gl : List (Nat × AV)) (o : Pob) : FnP Tryz.prog (gl) 61 [.agg o.cells] fun r => r = .ret (.agg o.cells) := by
 refine FnP.intro Tryz.func61 rfl rfl (by simp [Tryz.ntmps61]) ?_
 simp only [argEnv, Tryz.ntmps61, Tryz.results61]
 refine AW.rS ?_
 refine AW.rS ?_
 refine AW.rt ?_
 all_goals first | contradiction | rfl | (simp; done) | (simp; omega)
end Go.Proofs

namespace Go.Proofs
open Go Aw
set_option linter.unusedSimpArgs false
set_option maxRecDepth 100000
set_option maxHeartbeats 4000000
theorem changed_step (gl : List (Nat × AV)) (N : Nat) (hN : N ≤ 16777216) (ih : ∀ o' : Pob, o'.bulk < N → FnP Tryz.prog gl 60 [.agg o'.cells, .clos 61 []] fun r => r = .ret (.agg o'.cells)) (o : Pob) (_ : o.bulk ≤ N) (hk : o.keys.length ≤ N) (hl : o.kids.length ≤ N) (hb : ∀ i, i < o.kids.length → (o.kids.getD i Pob.null).bulk < N) : FnP Tryz.prog (gl) 60 [.agg o.cells, .clos 61 []] fun r => r = .ret (.agg o.cells) := by
 refine FnP.intro Tryz.func60 rfl rfl (by simp [Tryz.ntmps60]) ?_
 simp only [argEnv, Tryz.ntmps60, Tryz.results60]
 refine AW.rS ?_
 refine AW.rSC ?_
 refine awOps.cons (awGuard.c1 (c_value_Clone_1 _ o) ?_)
 refine awOps.rn ?_
 refine AW.rSC ?_
 refine awOps.cons (awGuard.c1 (c_slices_Clone_string_string _ o.keys) ?_)
 refine awOps.rn ?_
 refine AW.seq ?_
 refine AW.rSC ?_
 refine awOps.cons (awGuard.nS ?_)
 intro b10 hb10
 simp only [nilBool]
 refine awOps.rn ?_
 refine AW.c2 ?_ ?_
 ·intro h12
  refine AW.rS ?_
  refine AW.seq ?_
  refine AW.rS ?_
  refine AW.block ?_
  refine AW.lk (S := { i : Nat // i ≤ o.kids.length }) [1, 2, 4, 5, 23, 24] (fun s_ => [(25, .int .i64 s_.1)]) (fun s_ => [(0, .cells [.int .i64 o.kind, .int .i64 o.num, .int .i64 o.gen, .str o.str, .sl (strsAV o.keys), .sl (objsAV o.kids)]), (1, .cells [.int .i64 0, .int .i64 0, .int .i64 0, .str [], .raw (.slice none 0 0), .raw (.slice none 0 0)]), (2, .row 6 (fillO o.kids s_.1) true)]) 3 (fun s_ => o.kids.length - s_.1) ⟨0, Nat.zero_le _⟩ ?_ ?_
  ·refine St.le.vw [0, 1, 2]
  rintro ⟨i, hi⟩
  try dsimp only at hi
  refine AW.rS ?_
  refine AW.seq ?_
  refine AW.c2 ?_ ?_
  ·intro h20
   refine AW.skip ?_
   refine AW.seq ?_
   refine AW.block ?_
   refine AW.rS ?_
   refine AW.rLC ?_
   refine awOps.cons (awGuard.c1 (ih (o.kids.getD i Pob.null) (hb i (by omega))) ?_)
   refine awOps.rn ?_
   refine AW.rL ?_
   refine ⟨⟨i + 1, by omega⟩, ?_, ?_⟩
   ·refine St.le.vw [0, 1, 2]
   ·simp only []; omega
  ·intro h20
   refine AW.exit ?_
   refine AW.rL ?_
   refine AW.rS ?_
   refine AW.rt ?_
   rw [fillO_all hi h20, objsAV_take_len]
 ·intro h12
  refine AW.skip ?_
  refine AW.rS ?_
  refine AW.rt ?_
  all_goals first | contradiction | rfl | (simp; done) | (simp; omega)
theorem changed_clone (gl : List (Nat × AV)) (N : Nat) : N ≤ 16777216 → ∀ o : Pob, o.bulk ≤ N → FnP Tryz.prog gl 60 [.agg o.cells, .clos 61 []] fun r => r = .ret (.agg o.cells) := by
 induction N using Nat.strongRecOn with
 | ind N IH =>
  intro hN o ho
  have hb := Pob.bulk_eq o
  exact changed_step gl N hN (fun o' h => IH o'.bulk h (by omega) o' (Nat.le_refl _)) o ho (by omega) (by omega) (fun i hi => Nat.lt_of_lt_of_le (Pob.bulk_kid hi) ho)
theorem c_value_changed (gl : List (Nat × AV)) (o : Pob) (h : o.bulk ≤ 16777216 := by assumption) : FnP Tryz.prog gl 60 [.agg o.cells, .clos 61 []] fun r => r = .ret (.agg o.cells) := changed_clone gl 16777216 (Nat.le_refl _) o h
theorem c_value_Clone (gl : List (Nat × AV)) (o : Pob) (h : o.bulk ≤ 16777216 := by first | omega | exact u8_le _ | assumption | (simp; done) | (simp; omega)) : FnP Tryz.prog (gl) 35 [.agg o.cells] fun r => r = .ret (.agg o.cells) := by
 refine FnP.intro Tryz.func35 rfl rfl (by simp [Tryz.ntmps35]) ?_
 simp only [argEnv, Tryz.ntmps35, Tryz.results35]
 refine AW.rS ?_
 refine AW.rSC ?_
 refine awOps.cons (awGuard.c1 (c_value_changed _ o) ?_)
 refine awOps.rn ?_
 refine AW.rt ?_
 all_goals first | contradiction | rfl | (simp; done) | (simp; omega)
theorem c_value_keyed (gl : List (Nat × AV)) (o : Pob) : FnP Tryz.prog (gl) 66 [.agg o.cells] fun r => r = .ret (.bool (keyedB o.kind)) := by
 refine FnP.intro Tryz.func66 rfl rfl (by simp [Tryz.ntmps66]) ?_
 simp only [argEnv, Tryz.ntmps66, Tryz.results66]
 refine AW.rS ?_
 refine AW.rS ?_
 refine AW.rt ?_
 all_goals first | contradiction | rfl | (simp; done) | (simp; omega)
theorem c_slices_Index_string_string (gl : List (Nat × AV)) (ks : List (List UInt8)) (k : List UInt8) (hk : ks.length ≤ 16777216 := by first | omega | exact u8_le _ | assumption | (simp; done) | (simp; omega)) : FnP Tryz.prog (gl) 112 [.sl (strsAV ks), .str k] fun r => r = .ret (.int .i64 (kidxI ks k)) := by
 refine FnP.intro Tryz.func112 rfl rfl (by simp [Tryz.ntmps112]) ?_
 simp only [argEnv, Tryz.ntmps112, Tryz.results112]
 refine AW.rS ?_
 refine AW.seq ?_
 refine AW.rS ?_
 refine AW.block ?_
 refine AW.lk (S := { i : Nat // i ≤ ks.length ∧ ∀ j, j < i → ks.getD j [] ≠ k }) [0, 1, 7] (fun s_ => [(8, .int .i64 s_.1)]) (fun s_ => []) 0 (fun s_ => ks.length - s_.1) ⟨0, Nat.zero_le _, fun j h => absurd h (by omega)⟩ ?_ ?_
 ·refine St.le.vw []
 rintro ⟨i, hi, hs⟩
 try dsimp only at hi
 try dsimp only at hs
 refine AW.rS ?_
 refine AW.seq ?_
 refine AW.c2 ?_ ?_
 ·intro h8
  refine AW.skip ?_
  refine AW.seq ?_
  refine AW.block ?_
  refine AW.rS ?_
  refine AW.rS ?_
  refine AW.c2 ?_ ?_
  ·intro h14
   refine AW.rS ?_
   refine AW.rt ?_
   rw [kidx_hit h8 hs h14]
  ·intro h14
   refine AW.skip ?_
   refine AW.rL ?_
   refine ⟨⟨i + 1, by omega, fun j hj => by rcases Nat.lt_succ_iff_lt_or_eq.1 hj with h | rfl; exact hs j h; exact fun e => h14 e.symm⟩, ?_, ?_⟩
   ·refine St.le.vw []
   ·simp only []; omega
 ·intro h8
  refine AW.exit ?_
  refine AW.rS ?_
  refine AW.rt ?_
  rw [kidx_miss (fun j hj => hs j (by omega))]
end Go.Proofs

namespace Go.Proofs
open Go Aw
set_option linter.unusedSimpArgs false
set_option maxRecDepth 100000
set_option maxHeartbeats 4000000
theorem c_value_Get (gl : List (Nat × AV)) (o : Pob) (key : List UInt8) (h : o.bulk ≤ 16777216 := by first | omega | exact u8_le _ | assumption | (simp; done) | (simp; omega)) : FnP Tryz.prog (gl) 95 [.agg o.cells, .str key] fun r => r = .ret (.tup [.agg (getO o key).cells, .bool (getB o key)]) := by
 refine FnP.intro Tryz.func95 rfl rfl (by simp [Tryz.ntmps95]) ?_
 simp only [argEnv, Tryz.ntmps95, Tryz.results95]
 have hb := Pob.bulk_eq o
 refine AW.rS ?_
 refine AW.seq ?_
 refine AW.rSC ?_
 refine awOps.cons (awGuard.c1 (c_value_keyed _ o) ?_)
 refine awOps.rn ?_
 refine AW.c2 ?_ ?_
 ·intro h6
  refine AW.rS ?_
  refine AW.rt ?_
  rw [(get_unkeyed h6).1, (get_unkeyed h6).2] <;> rfl
 ·intro h6
  refine AW.skip ?_
  refine AW.rSC ?_
  refine awOps.cons (awGuard.c1 (c_slices_Index_string_string _ o.keys key (by omega)) ?_)
  refine awOps.rn ?_
  refine AW.seq ?_
  refine AW.rS ?_
  refine AW.c2 ?_ ?_
  ·intro h16
   refine AW.rS ?_
   refine AW.rt ?_
   rw [(get_miss h16).1, (get_miss h16).2] <;> rfl
  ·intro h16
   refine AW.skip ?_
   refine AW.rSC ?_
   refine awOps.cons (awGuard.c1 (c_value_Clone _ (o.kids.getD (kidxI o.keys key).toNat Pob.null) (by have := Pob.bulk_kid (o := o) (i := (kidxI o.keys key).toNat) (by omega); omega)) ?_)
   refine awOps.rn ?_
   refine AW.rt ?_
   rw [(get_hit h6 h16).1, (get_hit h6 h16).2, ← Pob.cells_eq]
end Go.Proofs

namespace Go.Proofs
open Go Aw
set_option linter.unusedSimpArgs false
set_option linter.unusedVariables false
set_option maxRecDepth 100000
set_option maxHeartbeats 4000000
theorem c_docs_numbers (gl : List (Nat × AV)) (i : Itm) : FnP Tryz.prog (gl) 91 [.agg i.cells] fun r => r = .ret (.bool (decide (1 ≤ i.num) && decide (i.num ≤ 8191) && decide (0 ≤ i.gen) && decide (i.gen ≤ 65535))) := by
 refine FnP.intro Tryz.func91 rfl rfl (by simp [Tryz.ntmps91]) ?_
 simp only [argEnv, Tryz.ntmps91, Tryz.results91]
 refine AW.rS ?_
 refine AW.rS ?_
 refine AW.rt ?_
 simp only [Bool.cond_false_right]
theorem c_docs_copied (gl : List (Nat × AV)) (i : Itm) (h : i.obj.bulk ≤ 16777216 := by first | omega | exact u8_le _ | assumption | (simp; done) | (simp; omega)) : FnP Tryz.prog (gl) 75 [.agg i.cells] fun r => r = .ret (.agg i.cells) := by
 refine FnP.intro Tryz.func75 rfl rfl (by simp [Tryz.ntmps75]) ?_
 simp only [argEnv, Tryz.ntmps75, Tryz.results75]
 refine AW.rS ?_
 refine AW.rSC ?_
 refine awOps.cons (awGuard.c1 (c_value_Clone _ i.obj) ?_)
 refine awOps.rn ?_
 refine AW.rS ?_
 refine AW.rt ?_
 all_goals first | contradiction | rfl | (simp; done) | (simp; omega)
end Go.Proofs

namespace Go.Proofs
open Go Aw
set_option linter.unusedSimpArgs false
set_option linter.unusedVariables false
set_option maxRecDepth 100000
set_option maxHeartbeats 4000000

def badAV (e : Int) : AV := .iface 92 (.agg [.int .i64 e])
attribute [go_sem] badAV
theorem c_value_must (gl : List (Nat × AV)) (b : Bool) (e : Int) : FnP Tryz.prog (gl) 80 [.bool b, .int .i64 e] fun r => r = if b = true then .ret (.tup []) else .panic (badAV e) := by
 refine FnP.intro Tryz.func80 rfl rfl (by simp [Tryz.ntmps80]) ?_
 simp only [argEnv, Tryz.ntmps80, Tryz.results80]
 refine AW.rS ?_
 refine AW.c2 ?_ ?_
 ·intro h2
  refine AW.rLC ?_
  refine awOps.cons (awGuard.pn ?_)
  refine wk ?_
  rw [if_neg (by simp [h2])]
 ·intro h2
  refine AW.skip ?_
  refine wk ?_
  rw [if_pos h2]
end Go.Proofs

namespace Go.Proofs
open Go Aw
set_option linter.unusedSimpArgs false
set_option linter.unusedVariables false
set_option maxRecDepth 100000
set_option maxHeartbeats 4000000
theorem c_value_within_int64 (gl : List (Nat × AV)) (n a b : Int) : FnP Tryz.prog (gl) 106 [.int .i64 n, .int .i64 a, .int .i64 b] fun r => r = .ret (.bool (decide (a ≤ n) && decide (n ≤ b))) := by
 refine FnP.intro Tryz.func106 rfl rfl (by simp [Tryz.ntmps106]) ?_
 simp only [argEnv, Tryz.ntmps106, Tryz.results106]
 refine AW.rS ?_
 refine AW.rS ?_
 refine AW.rt ?_
 simp only [Bool.cond_false_right]
theorem c_value_within_int (gl : List (Nat × AV)) (n a b : Int) : FnP Tryz.prog (gl) 107 [.int .i64 n, .int .i64 a, .int .i64 b] fun r => r = .ret (.bool (decide (a ≤ n) && decide (n ≤ b))) := by
 refine FnP.intro Tryz.func107 rfl rfl (by simp [Tryz.ntmps107]) ?_
 simp only [argEnv, Tryz.ntmps107, Tryz.results107]
 refine AW.rS ?_
 refine AW.rS ?_
 refine AW.rt ?_
 simp only [Bool.cond_false_right]
theorem c_value_fits (gl : List (Nat × AV)) (o : Pob) : FnP Tryz.prog (gl) 82 [.agg o.cells] fun r => r = .ret (.bool (fitsB o)) := by
 refine FnP.intro Tryz.func82 rfl rfl (by simp [Tryz.ntmps82]) ?_
 simp only [argEnv, Tryz.ntmps82, Tryz.results82]
 refine AW.rS ?_
 refine AW.seq ?_
 refine AW.rS ?_
 refine AW.block ?_
 refine AW.rS ?_
 refine AW.c2 ?_ ?_
 ·intro h6
  refine AW.rSC ?_
  refine awOps.cons (awGuard.c1 (c_value_within_int64 _ o.num 0 1) ?_)
  refine awOps.rn ?_
  refine AW.rt ?_
  simp_all [fitsB]
 ·intro h6
  refine AW.rS ?_
  refine AW.c2 ?_ ?_
  ·intro h13
   refine AW.rSC ?_
   refine awOps.cons (awGuard.c1 (c_value_within_int64 _ o.num (-2147483647) 2147483647) ?_)
   refine awOps.rn ?_
   refine AW.rt ?_
   simp_all [fitsB]
  ·intro h13
   refine AW.rS ?_
   refine AW.c2 ?_ ?_
   ·intro h20
    refine AW.rSC ?_
    refine awOps.cons (awGuard.c1 (c_value_within_int64 _ o.num (-1073741824) 1073741824) ?_)
    refine awOps.rn ?_
    refine AW.rt ?_
    simp_all [fitsB]
   ·intro h20
    refine AW.rS ?_
    refine AW.c2 ?_ ?_
    ·intro h27
     refine AW.rSC ?_
     refine awOps.cons (awGuard.c1 (c_value_within_int64 _ o.num 1 8191) ?_)
     refine awOps.rn ?_
     refine awOps.cons (awGuard.cG (fun hg => c_value_within_int _ o.gen 0 65535) ?_)
     refine awOps.rn ?_
     refine AW.rt ?_
     simp_all [fitsB]
    ·intro h27
     refine AW.skip ?_
     refine AW.rS ?_
     refine AW.rt ?_
     simp_all [fitsB]
theorem c_value_short (gl : List (Nat × AV)) (o : Pob) : FnP Tryz.prog (gl) 83 [.agg o.cells] fun r => r = .ret (.bool (shortB o)) := by
 refine FnP.intro Tryz.func83 rfl rfl (by simp [Tryz.ntmps83]) ?_
 simp only [argEnv, Tryz.ntmps83, Tryz.results83]
 refine AW.rS ?_
 refine AW.seq ?_
 refine AW.rS ?_
 refine AW.block ?_
 refine AW.rS ?_
 refine AW.c2 ?_ ?_
 ·intro h6
  refine AW.rS ?_
  refine AW.rt ?_
  simp_all [shortB]
 ·intro h6
  refine AW.rS ?_
  refine AW.c2 ?_ ?_
  ·intro h11
   refine AW.rS ?_
   refine AW.rt ?_
   simp_all [shortB]
  ·intro h11
   refine AW.skip ?_
   refine AW.rS ?_
   refine AW.rt ?_
   simp_all [shortB]
end Go.Proofs

namespace Go.Proofs
open Go Aw
set_option linter.unusedSimpArgs false
set_option linter.unusedVariables false
set_option maxRecDepth 100000
set_option maxHeartbeats 4000000
theorem c_value_used (gl : List (Nat × AV)) (k : Int) : FnP Tryz.prog (gl) 81 [.int .i64 k] fun r => r = .ret (.tup [.agg [.bool (uN k), .bool (uG k), .bool (uS k), .bool (uKeys k), .bool (uKids k)], .bool (uOk k)]) := by
 refine FnP.intro Tryz.func81 rfl rfl (by simp [Tryz.ntmps81]) ?_
 simp only [argEnv, Tryz.ntmps81, Tryz.results81]
 refine AW.rS ?_
 refine AW.seq ?_
 refine AW.rS ?_
 refine AW.block ?_
 refine AW.rS ?_
 refine AW.c2 ?_ ?_
 ·intro h6
  refine AW.rS ?_
  refine AW.rt ?_
  first | (exfalso; omega) | (refine used_eq ?_ ?_ ?_ ?_ ?_ ?_ <;> simp only [uN, uG, uS, uKeys, uKids, uOk] <;> first | (subst_vars; rfl) | grind)
 ·intro h6
  refine AW.seq ?_
  refine AW.rS ?_
  refine AW.c2 ?_ ?_
  ·intro h12
   refine AW.skip ?_
   refine AW.c2 ?_ ?_
   ·intro h14
    refine AW.rS ?_
    refine AW.rt ?_
    first | (exfalso; omega) | (refine used_eq ?_ ?_ ?_ ?_ ?_ ?_ <;> simp only [uN, uG, uS, uKeys, uKids, uOk] <;> first | (subst_vars; rfl) | grind)
   ·intro h14
    refine AW.seq ?_
    refine AW.rS ?_
    refine AW.c2 ?_ ?_
    ·intro h20
     refine AW.skip ?_
     refine AW.c2 ?_ ?_
     ·intro h22
      refine AW.rS ?_
      refine AW.rt ?_
      first | (exfalso; omega) | (refine used_eq ?_ ?_ ?_ ?_ ?_ ?_ <;> simp only [uN, uG, uS, uKeys, uKids, uOk] <;> first | (subst_vars; rfl) | grind)
     ·intro h22
      refine AW.rS ?_
      refine AW.c2 ?_ ?_
      ·intro h27
       refine AW.rS ?_
       refine AW.rt ?_
       first | (exfalso; omega) | (refine used_eq ?_ ?_ ?_ ?_ ?_ ?_ <;> simp only [uN, uG, uS, uKeys, uKids, uOk] <;> first | (subst_vars; rfl) | grind)
      ·intro h27
       refine AW.rS ?_
       refine AW.c2 ?_ ?_
       ·intro h32
        refine AW.rS ?_
        refine AW.rt ?_
        first | (exfalso; omega) | (refine used_eq ?_ ?_ ?_ ?_ ?_ ?_ <;> simp only [uN, uG, uS, uKeys, uKids, uOk] <;> first | (subst_vars; rfl) | grind)
       ·intro h32
        refine AW.rS ?_
        refine AW.c2 ?_ ?_
        ·intro h37
         refine AW.rS ?_
         refine AW.rt ?_
         first | (exfalso; omega) | (refine used_eq ?_ ?_ ?_ ?_ ?_ ?_ <;> simp only [uN, uG, uS, uKeys, uKids, uOk] <;> first | (subst_vars; rfl) | grind)
        ·intro h37
         refine AW.rS ?_
         refine AW.c2 ?_ ?_
         ·intro h42
          refine AW.rS ?_
          refine AW.rt ?_
          first | (exfalso; omega) | (refine used_eq ?_ ?_ ?_ ?_ ?_ ?_ <;> simp only [uN, uG, uS, uKeys, uKids, uOk] <;> first | (subst_vars; rfl) | grind)
         ·intro h42
          refine AW.skip ?_
          refine AW.rS ?_
          refine AW.rt ?_
          first | (exfalso; omega) | (refine used_eq ?_ ?_ ?_ ?_ ?_ ?_ <;> simp only [uN, uG, uS, uKeys, uKids, uOk] <;> first | (subst_vars; rfl) | grind)
    ·intro h20
     refine AW.rL ?_
     refine AW.c2 ?_ ?_
     ·intro h51
      refine AW.rS ?_
      refine AW.rt ?_
      first | (exfalso; omega) | (refine used_eq ?_ ?_ ?_ ?_ ?_ ?_ <;> simp only [uN, uG, uS, uKeys, uKids, uOk] <;> first | (subst_vars; rfl) | grind)
     ·intro h51
      refine AW.rS ?_
      refine AW.c2 ?_ ?_
      ·intro h56
       refine AW.rS ?_
       refine AW.rt ?_
       first | (exfalso; omega) | (refine used_eq ?_ ?_ ?_ ?_ ?_ ?_ <;> simp only [uN, uG, uS, uKeys, uKids, uOk] <;> first | (subst_vars; rfl) | grind)
      ·intro h56
       refine AW.rS ?_
       refine AW.c2 ?_ ?_
       ·intro h61
        refine AW.rS ?_
        refine AW.rt ?_
        first | (exfalso; omega) | (refine used_eq ?_ ?_ ?_ ?_ ?_ ?_ <;> simp only [uN, uG, uS, uKeys, uKids, uOk] <;> first | (subst_vars; rfl) | grind)
       ·intro h61
        refine AW.rS ?_
        refine AW.c2 ?_ ?_
        ·intro h66
         refine AW.rS ?_
         refine AW.rt ?_
         first | (exfalso; omega) | (refine used_eq ?_ ?_ ?_ ?_ ?_ ?_ <;> simp only [uN, uG, uS, uKeys, uKids, uOk] <;> first | (subst_vars; rfl) | grind)
        ·intro h66
         refine AW.rS ?_
         refine AW.c2 ?_ ?_
         ·intro h71
          refine AW.rS ?_
          refine AW.rt ?_
          first | (exfalso; omega) | (refine used_eq ?_ ?_ ?_ ?_ ?_ ?_ <;> simp only [uN, uG, uS, uKeys, uKids, uOk] <;> first | (subst_vars; rfl) | grind)
         ·intro h71
          refine AW.skip ?_
          refine AW.rS ?_
          refine AW.rt ?_
          first | (exfalso; omega) | (refine used_eq ?_ ?_ ?_ ?_ ?_ ?_ <;> simp only [uN, uG, uS, uKeys, uKids, uOk] <;> first | (subst_vars; rfl) | grind)
  ·intro h12
   refine AW.rS ?_
   refine AW.c2 ?_ ?_
   ·intro h80
    refine AW.skip ?_
    refine AW.c2 ?_ ?_
    ·intro h82
     refine AW.rS ?_
     refine AW.rt ?_
     first | (exfalso; omega) | (refine used_eq ?_ ?_ ?_ ?_ ?_ ?_ <;> simp only [uN, uG, uS, uKeys, uKids, uOk] <;> first | (subst_vars; rfl) | grind)
    ·intro h82
     refine AW.seq ?_
     refine AW.rS ?_
     refine AW.c2 ?_ ?_
     ·intro h88
      refine AW.skip ?_
      refine AW.c2 ?_ ?_
      ·intro h90
       refine AW.rS ?_
       refine AW.rt ?_
       first | (exfalso; omega) | (refine used_eq ?_ ?_ ?_ ?_ ?_ ?_ <;> simp only [uN, uG, uS, uKeys, uKids, uOk] <;> first | (subst_vars; rfl) | grind)
      ·intro h90
       refine AW.rS ?_
       refine AW.c2 ?_ ?_
       ·intro h95
        refine AW.rS ?_
        refine AW.rt ?_
        first | (exfalso; omega) | (refine used_eq ?_ ?_ ?_ ?_ ?_ ?_ <;> simp only [uN, uG, uS, uKeys, uKids, uOk] <;> first | (subst_vars; rfl) | grind)
       ·intro h95
        refine AW.rS ?_
        refine AW.c2 ?_ ?_
        ·intro h100
         refine AW.rS ?_
         refine AW.rt ?_
         first | (exfalso; omega) | (refine used_eq ?_ ?_ ?_ ?_ ?_ ?_ <;> simp only [uN, uG, uS, uKeys, uKids, uOk] <;> first | (subst_vars; rfl) | grind)
        ·intro h100
         refine AW.rS ?_
         refine AW.c2 ?_ ?_
         ·intro h105
          refine AW.rS ?_
          refine AW.rt ?_
          first | (exfalso; omega) | (refine used_eq ?_ ?_ ?_ ?_ ?_ ?_ <;> simp only [uN, uG, uS, uKeys, uKids, uOk] <;> first | (subst_vars; rfl) | grind)
         ·intro h105
          refine AW.rS ?_
          refine AW.c2 ?_ ?_
          ·intro h110
           refine AW.rS ?_
           refine AW.rt ?_
           first | (exfalso; omega) | (refine used_eq ?_ ?_ ?_ ?_ ?_ ?_ <;> simp only [uN, uG, uS, uKeys, uKids, uOk] <;> first | (subst_vars; rfl) | grind)
          ·intro h110
           refine AW.skip ?_
           refine AW.rS ?_
           refine AW.rt ?_
           first | (exfalso; omega) | (refine used_eq ?_ ?_ ?_ ?_ ?_ ?_ <;> simp only [uN, uG, uS, uKeys, uKids, uOk] <;> first | (subst_vars; rfl) | grind)
     ·intro h88
      refine AW.rL ?_
      refine AW.c2 ?_ ?_
      ·intro h119
       refine AW.rS ?_
       refine AW.rt ?_
       first | (exfalso; omega) | (refine used_eq ?_ ?_ ?_ ?_ ?_ ?_ <;> simp only [uN, uG, uS, uKeys, uKids, uOk] <;> first | (subst_vars; rfl) | grind)
      ·intro h119
       refine AW.rS ?_
       refine AW.c2 ?_ ?_
       ·intro h124
        refine AW.rS ?_
        refine AW.rt ?_
        first | (exfalso; omega) | (refine used_eq ?_ ?_ ?_ ?_ ?_ ?_ <;> simp only [uN, uG, uS, uKeys, uKids, uOk] <;> first | (subst_vars; rfl) | grind)
       ·intro h124
        refine AW.rS ?_
        refine AW.c2 ?_ ?_
        ·intro h129
         refine AW.rS ?_
         refine AW.rt ?_
         first | (exfalso; omega) | (refine used_eq ?_ ?_ ?_ ?_ ?_ ?_ <;> simp only [uN, uG, uS, uKeys, uKids, uOk] <;> first | (subst_vars; rfl) | grind)
        ·intro h129
         refine AW.rS ?_
         refine AW.c2 ?_ ?_
         ·intro h134
          refine AW.rS ?_
          refine AW.rt ?_
          first | (exfalso; omega) | (refine used_eq ?_ ?_ ?_ ?_ ?_ ?_ <;> simp only [uN, uG, uS, uKeys, uKids, uOk] <;> first | (subst_vars; rfl) | grind)
         ·intro h134
          refine AW.rS ?_
          refine AW.c2 ?_ ?_
          ·intro h139
           refine AW.rS ?_
           refine AW.rt ?_
           first | (exfalso; omega) | (refine used_eq ?_ ?_ ?_ ?_ ?_ ?_ <;> simp only [uN, uG, uS, uKeys, uKids, uOk] <;> first | (subst_vars; rfl) | grind)
          ·intro h139
           refine AW.skip ?_
           refine AW.rS ?_
           refine AW.rt ?_
           first | (exfalso; omega) | (refine used_eq ?_ ?_ ?_ ?_ ?_ ?_ <;> simp only [uN, uG, uS, uKeys, uKids, uOk] <;> first | (subst_vars; rfl) | grind)
   ·intro h80
    refine AW.rL ?_
    refine AW.c2 ?_ ?_
    ·intro h148
     refine AW.rS ?_
     refine AW.rt ?_
     first | (exfalso; omega) | (refine used_eq ?_ ?_ ?_ ?_ ?_ ?_ <;> simp only [uN, uG, uS, uKeys, uKids, uOk] <;> first | (subst_vars; rfl) | grind)
    ·intro h148
     refine AW.seq ?_
     refine AW.rS ?_
     refine AW.c2 ?_ ?_
     ·intro h154
      refine AW.skip ?_
      refine AW.c2 ?_ ?_
      ·intro h156
       refine AW.rS ?_
       refine AW.rt ?_
       first | (exfalso; omega) | (refine used_eq ?_ ?_ ?_ ?_ ?_ ?_ <;> simp only [uN, uG, uS, uKeys, uKids, uOk] <;> first | (subst_vars; rfl) | grind)
      ·intro h156
       refine AW.rS ?_
       refine AW.c2 ?_ ?_
       ·intro h161
        refine AW.rS ?_
        refine AW.rt ?_
        first | (exfalso; omega) | (refine used_eq ?_ ?_ ?_ ?_ ?_ ?_ <;> simp only [uN, uG, uS, uKeys, uKids, uOk] <;> first | (subst_vars; rfl) | grind)
       ·intro h161
        refine AW.rS ?_
        refine AW.c2 ?_ ?_
        ·intro h166
         refine AW.rS ?_
         refine AW.rt ?_
         first | (exfalso; omega) | (refine used_eq ?_ ?_ ?_ ?_ ?_ ?_ <;> simp only [uN, uG, uS, uKeys, uKids, uOk] <;> first | (subst_vars; rfl) | grind)
        ·intro h166
         refine AW.rS ?_
         refine AW.c2 ?_ ?_
         ·intro h171
          refine AW.rS ?_
          refine AW.rt ?_
          first | (exfalso; omega) | (refine used_eq ?_ ?_ ?_ ?_ ?_ ?_ <;> simp only [uN, uG, uS, uKeys, uKids, uOk] <;> first | (subst_vars; rfl) | grind)
         ·intro h171
          refine AW.rS ?_
          refine AW.c2 ?_ ?_
          ·intro h176
           refine AW.rS ?_
           refine AW.rt ?_
           first | (exfalso; omega) | (refine used_eq ?_ ?_ ?_ ?_ ?_ ?_ <;> simp only [uN, uG, uS, uKeys, uKids, uOk] <;> first | (subst_vars; rfl) | grind)
          ·intro h176
           refine AW.skip ?_
           refine AW.rS ?_
           refine AW.rt ?_
           first | (exfalso; omega) | (refine used_eq ?_ ?_ ?_ ?_ ?_ ?_ <;> simp only [uN, uG, uS, uKeys, uKids, uOk] <;> first | (subst_vars; rfl) | grind)
     ·intro h154
      refine AW.rL ?_
      refine AW.c2 ?_ ?_
      ·intro h185
       refine AW.rS ?_
       refine AW.rt ?_
       first | (exfalso; omega) | (refine used_eq ?_ ?_ ?_ ?_ ?_ ?_ <;> simp only [uN, uG, uS, uKeys, uKids, uOk] <;> first | (subst_vars; rfl) | grind)
      ·intro h185
       refine AW.rS ?_
       refine AW.c2 ?_ ?_
       ·intro h190
        refine AW.rS ?_
        refine AW.rt ?_
        first | (exfalso; omega) | (refine used_eq ?_ ?_ ?_ ?_ ?_ ?_ <;> simp only [uN, uG, uS, uKeys, uKids, uOk] <;> first | (subst_vars; rfl) | grind)
       ·intro h190
        refine AW.rS ?_
        refine AW.c2 ?_ ?_
        ·intro h195
         refine AW.rS ?_
         refine AW.rt ?_
         first | (exfalso; omega) | (refine used_eq ?_ ?_ ?_ ?_ ?_ ?_ <;> simp only [uN, uG, uS, uKeys, uKids, uOk] <;> first | (subst_vars; rfl) | grind)
        ·intro h195
         refine AW.rS ?_
         refine AW.c2 ?_ ?_
         ·intro h200
          refine AW.rS ?_
          refine AW.rt ?_
          first | (exfalso; omega) | (refine used_eq ?_ ?_ ?_ ?_ ?_ ?_ <;> simp only [uN, uG, uS, uKeys, uKids, uOk] <;> first | (subst_vars; rfl) | grind)
         ·intro h200
          refine AW.rS ?_
          refine AW.c2 ?_ ?_
          ·intro h205
           refine AW.rS ?_
           refine AW.rt ?_
           first | (exfalso; omega) | (refine used_eq ?_ ?_ ?_ ?_ ?_ ?_ <;> simp only [uN, uG, uS, uKeys, uKids, uOk] <;> first | (subst_vars; rfl) | grind)
          ·intro h205
           refine AW.skip ?_
           refine AW.rS ?_
           refine AW.rt ?_
           first | (exfalso; omega) | (refine used_eq ?_ ?_ ?_ ?_ ?_ ?_ <;> simp only [uN, uG, uS, uKeys, uKids, uOk] <;> first | (subst_vars; rfl) | grind)
end Go.Proofs

namespace Go.Proofs
open Go.Shelf
def Tryz.lays137_ren : Go.Shelf.Ren := ⟨fun | 137 => 108 | 217 => 119 | 266 => 126 | n => n, fun | 9 => 9 | 5 => 5 | 3 => 3 | n => n, fun | n => n⟩
theorem Tryz.lays137 : Go.Proofs.Lays.n137 Tryz.prog Tryz.lays137_ren := {
 mixed := by kernel_rfl
 f137 := Tryz.func108.trans (congrArg some (by kernel_rfl))
 f217 := Tryz.func119.trans (congrArg some (by kernel_rfl))
 f266 := Tryz.func126.trans (congrArg some (by kernel_rfl))
 t3 := Tryz.underlying3
 a3 := Tryz.isAgg3
 z3 := Tryz.sizeOf3
 v3 := Tryz.zeroValue3
 t5 := Tryz.underlying5
 a5 := Tryz.isAgg5
 z5 := Tryz.sizeOf5
 v5 := Tryz.zeroValue5
 t9 := Tryz.underlying9
 a9 := Tryz.isAgg9
 z9 := Tryz.sizeOf9
 v9 := Tryz.zeroValue9 }
open Go.RowKit in
theorem Tryz.strings_IndexByte (s : ByteArray) (c : Int) (w : World) :
  Calls Tryz.prog 108 #[.string s, .int .u8 c] w fun e w' => e = .returned (.int .i64 (Lib.indexByte s.data.toList c.toNat.toUInt8)) ∧ w' = w := Any.strings_IndexByte Tryz.lays137 s c w
end Go.Proofs

namespace Go.Proofs
open Go Aw
set_option linter.unusedSimpArgs false
set_option linter.unusedVariables false
set_option maxRecDepth 100000
set_option maxHeartbeats 4000000
theorem c_strings_IndexByte (gl : List (Nat × AV)) (s : List UInt8) (c : Int) : FnP Tryz.prog gl 108 [.str s, .int .u8 c] fun r => r = .ret (.int .i64 (Lib.indexByte s c.toNat.toUInt8)) := by
 refine FnP.same (enters_of Tryz.func108 rfl rfl) ?_
 intro m vs _ hv
 simp only [RepL, Rep] at hv
 obtain ⟨_, _, rfl, rfl, _, _, rfl, rfl, rfl⟩ := hv
 refine (Tryz.strings_IndexByte ⟨s.toArray⟩ c m.w).mono ?_
 rintro e w' ⟨rfl, rfl⟩
 exact ⟨⟨_, rfl, fun m => by simp only [Rep]⟩, rfl⟩
theorem c_value_key (gl : List (Nat × AV)) (s : List UInt8) : FnP Tryz.prog (gl) 84 [.str s] fun r => r = .ret (.bool (nameB s)) := by
 refine FnP.intro Tryz.func84 rfl rfl (by simp [Tryz.ntmps84]) ?_
 simp only [argEnv, Tryz.ntmps84, Tryz.results84]
 refine AW.rS ?_
 refine AW.rSC ?_
 refine awOps.cons (awGuard.cG (fun hg => c_strings_IndexByte _ s 0) ?_)
 refine awOps.rn ?_
 refine AW.rt ?_
 simp only [nameB, Bool.cond_false_right]; rfl
end Go.Proofs

namespace Go.Proofs
open Go Aw
set_option linter.unusedSimpArgs false
set_option linter.unusedVariables false
set_option maxRecDepth 100000
set_option maxHeartbeats 4000000
theorem c_value_rising (gl : List (Nat × AV)) (o : Pob) (hk : o.keys.length ≤ 16777216 := by first | omega | exact u8_le _ | assumption | (simp; done) | (simp; omega)) : FnP Tryz.prog (gl) 85 [.agg o.cells] fun r => r = .ret (.bool (risingB o)) := by
 refine FnP.intro Tryz.func85 rfl rfl (by simp [Tryz.ntmps85]) ?_
 simp only [argEnv, Tryz.ntmps85, Tryz.results85]
 refine AW.rS ?_
 refine AW.seq ?_
 refine AW.rS ?_
 refine AW.c2 ?_ ?_
 ·intro h4
  refine AW.rS ?_
  refine AW.rt ?_
  rw [rising_no (fun h => by have := h.1; omega)]
 ·intro h4
  refine AW.skip ?_
  refine AW.seq ?_
  refine AW.rS ?_
  refine AW.block ?_
  refine AW.lk (S := { i : Nat // i ≤ o.keys.length ∧ ∀ j, j < i → okKey o j }) [1, 13, 14] (fun s_ => [(15, .int .i64 s_.1)]) (fun s_ => [(0, .cells [.int .i64 o.kind, .int .i64 o.num, .int .i64 o.gen, .str o.str, .sl (strsAV o.keys), .sl (objsAV o.kids)])]) 1 (fun s_ => o.keys.length - s_.1) ⟨0, Nat.zero_le _, fun j h => absurd h (by omega)⟩ ?_ ?_
  ·refine St.le.vw [0]
  rintro ⟨i, hi, hs⟩
  try dsimp only at hi
  try dsimp only at hs
  refine AW.rS ?_
  refine AW.seq ?_
  refine AW.c2 ?_ ?_
  ·intro h15
   refine AW.skip ?_
   refine AW.seq ?_
   refine AW.block ?_
   refine AW.rS ?_
   refine AW.rSC ?_
   refine awOps.cons (awGuard.c1 (c_value_key _ (o.keys.getD i [])) ?_)
   refine awOps.rn ?_
   refine AW.c2 ?_ ?_
   ·intro h23
    refine AW.rS ?_
    refine AW.rt ?_
    rw [rising_no (fun h => by have := h.2 i h15; simp only [okKey] at this; grind)]
   ·intro h23
    refine AW.skip ?_
    have hok : okKey o i := by simp only [okKey]; grind
    refine AW.rL ?_
    refine ⟨⟨i + 1, by omega, fun j hj => by rcases Nat.lt_succ_iff_lt_or_eq.1 hj with h | rfl; exact hs j h; exact hok⟩, ?_, ?_⟩
    ·refine St.le.vw [0]
    ·simp only []; omega
  ·intro h15
   refine AW.exit ?_
   refine AW.rS ?_
   refine AW.rt ?_
   rw [rising_yes ⟨by omega, fun j hj => hs j (by omega)⟩]
end Go.Proofs

namespace Go.Proofs
open Go Aw
set_option linter.unusedSimpArgs false
set_option linter.unusedVariables false
set_option maxRecDepth 100000
set_option maxHeartbeats 4000000
theorem check_step (gl : List (Nat × AV)) (N : Nat) (hN : N ≤ 16777216) (ih : ∀ (o' : Pob) (d : Int), o'.bulk < N → 0 ≤ d → FnP Tryz.prog gl 59 [.agg o'.cells, .int .i64 d] fun r => r = if decide (chk o' d = 0) = true then .ret (.tup []) else .panic (badAV (chk o' d))) (o : Pob) (d : Int) (ho : o.bulk ≤ N) (hd : 0 ≤ d) : FnP Tryz.prog (gl) 59 [.agg o.cells, .int .i64 d] fun r => r = if decide (chk o d = 0) = true then .ret (.tup []) else .panic (badAV (chk o d)) := by
 refine FnP.intro Tryz.func59 rfl rfl (by simp [Tryz.ntmps59]) ?_
 simp only [argEnv, Tryz.ntmps59, Tryz.results59]
 have hbulk := Pob.bulk_eq o
 refine AW.rS ?_
 refine AW.rSC ?_
 refine awOps.cons (awGuard.cM (c_value_must _ (decide (d ≤ 24)) 7) ?_ ?_)
 ·intro hp3
  refine wk ?_
  rw [chk_bad (e := 7) (by simp [ownE, hp3]) (by omega)]; simp
 intro hm3
 refine awOps.rn ?_
 refine AW.rSC ?_
 refine awOps.cons (awGuard.c1 (c_value_used _ o.kind) ?_)
 refine awOps.rn ?_
 refine AW.rSC ?_
 refine awOps.cons (awGuard.cM (c_value_must _ (useB o d) 10) ?_ ?_)
 ·intro hp9
  refine wk ?_
  rw [chk_bad (e := 10) (by simp [ownE, hm3, hp9]) (by omega)]; simp
 intro hm9
 refine awOps.rn ?_
 refine AW.rSC ?_
 refine awOps.cons (awGuard.c1 (c_value_fits _ o) ?_)
 refine awOps.rn ?_
 refine awOps.cons (awGuard.cM (c_value_must _ (fitsB o) 2) ?_ ?_)
 ·intro hp14
  refine wk ?_
  rw [chk_bad (e := 2) (by simp [ownE, hm3, hm9, hp14]) (by omega)]; simp
 intro hm14
 refine awOps.rn ?_
 refine AW.rSC ?_
 refine awOps.cons (awGuard.c1 (c_value_short _ o) ?_)
 refine awOps.rn ?_
 refine awOps.cons (awGuard.cM (c_value_must _ (shortB o) 5) ?_ ?_)
 ·intro hp19
  refine wk ?_
  rw [chk_bad (e := 5) (by simp [ownE, hm3, hm9, hm14, hp19]) (by omega)]; simp
 intro hm19
 refine awOps.rn ?_
 refine AW.rSC ?_
 refine awOps.cons (awGuard.cM (c_value_must _ (decide ((o.kids.length : Int) ≤ 8191)) 6) ?_ ?_)
 ·intro hp22
  refine wk ?_
  rw [chk_bad (e := 6) (by simp [ownE, hm3, hm9, hm14, hm19, hp22]) (by omega)]; simp
 intro hm22
 refine awOps.rn ?_
 refine AW.rSC ?_
 refine awOps.cons (awGuard.cG (fun hg => c_value_key _ o.str) ?_)
 refine awOps.rn ?_
 refine awOps.cons (awGuard.cG (fun hg => c_value_rising _ o (by omega)) ?_)
 refine awOps.rn ?_
 refine awOps.cons (awGuard.cM (c_value_must _ (formB o) 3) ?_ ?_)
 ·intro hp29
  refine wk ?_
  rw [chk_bad (e := 3) (by simp [ownE, hm3, hm9, hm14, hm19, hm22, hp29]) (by omega)]; simp
 intro hm29
 refine awOps.rn ?_
 refine AW.rS ?_
 refine AW.block ?_
 have hown : ownE o d = 0 := by simp [ownE, hm3, hm9, hm14, hm19, hm22, hm29]
 refine AW.lk (S := { i : Nat // i ≤ o.kids.length ∧ chkL o.kids (d + 1) = chkL (o.kids.drop i) (d + 1) }) [1, 105, 106] (fun s_ => [(107, .int .i64 s_.1)]) (fun s_ => []) 0 (fun s_ => o.kids.length - s_.1) ⟨0, Nat.zero_le _, rfl⟩ ?_ ?_
 ·refine St.le.vw []
 rintro ⟨i, hi, hs⟩
 try dsimp only at hi
 try dsimp only at hs
 refine AW.rS ?_
 refine AW.seq ?_
 refine AW.c2 ?_ ?_
 ·intro h36
  refine AW.skip ?_
  refine AW.seq ?_
  refine AW.block ?_
  refine AW.rS ?_
  refine AW.rLC ?_
  refine awOps.cons (awGuard.cM (ih (o.kids.getD i Pob.null) (d + 1) (Nat.lt_of_lt_of_le (Pob.bulk_kid (by omega)) ho) (by omega)) ?_ ?_)
  ·intro hp42
   refine wk ?_
   rw [chk_eq o d, hown, if_pos rfl, hs, chkL_drop (by omega), if_neg hp42, decide_eq_false hp42] <;> rfl
  intro hm42
  refine awOps.rn ?_
  refine AW.rL ?_
  refine ⟨⟨i + 1, by omega, by rw [hs, chkL_drop (by omega), if_pos hm42]⟩, ?_, ?_⟩
  ·refine St.le.vw []
  ·simp only []; omega
 ·intro h36
  refine AW.exit ?_
  refine wk ?_
  rw [chk_eq o d, hown, if_pos rfl, hs, List.drop_of_length_le (by omega)]; simp [chkL]
theorem check_all (gl : List (Nat × AV)) (N : Nat) : N ≤ 16777216 → ∀ (o : Pob) (d : Int), 0 ≤ d → o.bulk ≤ N → FnP Tryz.prog gl 59 [.agg o.cells, .int .i64 d] fun r => r = if decide (chk o d = 0) = true then .ret (.tup []) else .panic (badAV (chk o d)) := by
 induction N using Nat.strongRecOn with
 | ind N IH => exact fun hN o d hd ho => check_step gl N hN (fun o' d' h hd' => IH o'.bulk h (by omega) o' d' hd' (Nat.le_refl _)) o d ho hd
theorem c_value_check (gl : List (Nat × AV)) (o : Pob) (d : Int) (hd : 0 ≤ d) (h : o.bulk ≤ 16777216 := by assumption) : FnP Tryz.prog gl 59 [.agg o.cells, .int .i64 d] fun r => r = if decide (chk o d = 0) = true then .ret (.tup []) else .panic (badAV (chk o d)) := check_all gl 16777216 (Nat.le_refl _) o d hd h
end Go.Proofs

namespace Go.Proofs
open Go Aw
set_option linter.unusedSimpArgs false
set_option linter.unusedVariables false
set_option maxRecDepth 100000
set_option maxHeartbeats 4000000

theorem d_caught_ret (gl : List (Nat × AV)) (e : Int) : FnD Tryz.prog gl 79 [.ptr 0 0] [(0, .cells [.int .i64 e])] 1 .ret (fun u hp nx => u = .ret ∧ hp = [(0, .cells [.int .i64 e])] ∧ nx = 1) := by
 refine FnD.intro Tryz.func79 rfl rfl (by simp [Tryz.ntmps79]) ?_
 simp only [argEnv, Tryz.ntmps79, Tryz.results79]
 refine AWD.seq (AWD.regRecover rfl rfl rfl rfl (by simp only [go_sem, seval]) ?_)
 refine awOps.rn ?_
 refine AWD.of ?_
 refine AW.block ?_
 refine AW.rS ?_
 refine AW.c2 ?_ ?_
 ·intro h4
  refine AW.rL ?_
  refine wk ?_
  trivial
 ·intro h4
  simp at h4
theorem d_caught_pan (gl : List (Nat × AV)) (e0 e : Int) : FnD Tryz.prog gl 79 [.ptr 0 0] [(0, .cells [.int .i64 e0])] 1 (.pan (badAV e)) (fun u hp nx => u = .ret ∧ hp = [(0, .cells [.int .i64 e]), (1, .cells [.int .i64 e])] ∧ nx = 2) := by
 refine FnD.intro Tryz.func79 rfl rfl (by simp [Tryz.ntmps79]) ?_
 simp only [argEnv, Tryz.ntmps79, Tryz.results79]
 refine AWD.seq (AWD.regRecover rfl rfl rfl rfl (by simp only [go_sem, seval]) ?_)
 refine awOps.rn ?_
 refine AWD.of ?_
 refine AW.block ?_
 simp only [badAV]
 refine AW.rS ?_
 refine AW.c2 ?_ ?_
 ·intro h4
  simp at h4
 ·intro h4
  refine AW.rS ?_
  refine AW.c2 ?_ ?_
  ·intro h9
   refine AW.rS ?_
   refine AW.rL ?_
   refine wk ?_
   trivial
  ·intro h9
   simp at h9
theorem c_value_caught (gl : List (Nat × AV)) (f : FuncId) (cs : List AV) (e : Int) (hc : FnP Tryz.prog gl f [.tptr cs] fun r => r = if decide (e = 0) = true then .ret (.tup []) else .panic (badAV e)) : FnP Tryz.prog (gl) 57 [.clos f [.tptr cs]] fun r => r = .ret (.int .i64 e) := by
 refine FnP.introD Tryz.func57 rfl rfl (by simp [Tryz.ntmps57]) ?_
 simp only [argEnv, Tryz.ntmps57]
 refine AW.rS ?_
 refine AW.df ?_
 refine AW.rSC ?_
 refine awOps.cons (awGuard.cM (hc) ?_ ?_)
 ·intro hp4
  refine wk ?_
  refine finD_pan ?_
  refine LeaveS.c1 [0] (d_caught_pan _ 0 e) ?_
  refine LeaveS.rt Tryz.results57 ?_
  trivial
 intro hm4
 refine awOps.rn ?_
 refine AW.rS ?_
 refine AW.rt ?_
 refine LeaveS.c1 [0] (d_caught_ret _ 0) ?_
 refine LeaveS.rt Tryz.results57 ?_
 rw [hm4]
end Go.Proofs

namespace Go.Proofs
open Go Aw
set_option linter.unusedSimpArgs false
set_option linter.unusedVariables false
set_option maxRecDepth 100000
set_option maxHeartbeats 4000000

theorem c_value_Check_1 (gl : List (Nat × AV)) (o : Pob) (h : o.bulk ≤ 16777216 := by first | omega | exact u8_le _ | assumption | (simp; done) | (simp; omega)) : FnP Tryz.prog (gl) 58 [.tptr o.cells] fun r => r = if decide (chk o 1 = 0) = true then .ret (.tup []) else .panic (badAV (chk o 1)) := by
 refine FnP.intro Tryz.func58 rfl rfl (by simp [Tryz.ntmps58]) ?_
 simp only [argEnv, Tryz.ntmps58, Tryz.results58]
 refine AW.rLC ?_
 refine awOps.cons (awGuard.cM (c_value_check _ o 1 (by omega)) ?_ ?_)
 ·intro hp2
  refine wk ?_
  rw [decide_eq_false hp2]; simp
 intro hm2
 refine awOps.rn ?_
 refine wk ?_
 rw [decide_eq_true hm2]; simp
theorem c_value_Check (gl : List (Nat × AV)) (o : Pob) (h : o.bulk ≤ 16777216 := by first | omega | exact u8_le _ | assumption | (simp; done) | (simp; omega)) : FnP Tryz.prog (gl) 34 [.agg o.cells] fun r => r = .ret (.int .i64 (chk o 1)) := by
 refine FnP.intro Tryz.func34 rfl rfl (by simp [Tryz.ntmps34]) ?_
 simp only [argEnv, Tryz.ntmps34, Tryz.results34]
 refine AW.rS ?_
 refine AW.rSC ?_
 refine awOps.cons (awGuard.c1 (c_value_caught _ 58 o.cells (chk o 1) (c_value_Check_1 _ o)) ?_)
 refine awOps.rn ?_
 refine AW.rt ?_
 all_goals first | contradiction | rfl | (simp; done) | (simp; omega)
end Go.Proofs

namespace Go.Proofs
open Go Aw
set_option linter.unusedSimpArgs false
set_option linter.unusedVariables false
set_option maxRecDepth 100000
set_option maxHeartbeats 4000000

end Go.Proofs

namespace Go.Proofs
open Go Aw
set_option linter.unusedSimpArgs false
set_option linter.unusedVariables false
set_option maxRecDepth 100000
set_option maxHeartbeats 4000000

end Go.Proofs

namespace Go.Proofs
open Go Aw
set_option linter.unusedSimpArgs false
set_option linter.unusedVariables false
set_option maxRecDepth 100000
set_option maxHeartbeats 4000000

theorem h_Delete_string (gl : List (Nat × AV)) (es : List (List AV)) (i j : Nat) (hes : ∀ e ∈ es, okRow 1 e = true) (hij : i < j) (hj : j ≤ es.length) (hl : es.length ≤ 16777216) : FnH Tryz.prog (gl) 99 [.row 0 0 es.length, .int .i64 i, .int .i64 j] ([(0, .row 1 es true)]) 1 (fun r h n => r = .ret (.row 0 0 (i + (es.length - j))) ∧ h = [(0, .row 1 (es.take i ++ es.drop j) true)] ∧ n = 1) := by
 refine FnH.intro Tryz.func99 rfl rfl (by simp [Tryz.ntmps99]) ?_
 simp only [argEnv, Tryz.ntmps99, Tryz.results99]
 refine AW.rS ?_
 refine AW.rSC ?_
 refine awOps.cons ?_
 refine awGuard.s3 ?_ ?_
 ·first | omega | (simp; done) | (simp; omega)
 refine awOps.rn ?_
 refine AW.seq ?_
 refine AW.rS ?_
 refine AW.c2 ?_ ?_
 ·intro h7
  refine AW.rS ?_
  refine AW.rt ?_
  all_goals first | contradiction | rfl | (simp; done) | (simp; omega)
 ·intro h7
  refine AW.skip ?_
  refine AW.tf 0 (fun sp hsp hse => ?_)
  have htl : (List.take (es.length - j) (List.drop j sp)).length = es.length - j := by simp; omega
  have hsl : (splice sp i (List.take (es.length - j) (List.drop j sp))).length = sp.length := splice_len (by omega)
  refine AW.rS ?_
  refine AW.dSC [(0, 0), (1, 0), (2, 1), (3, 0), (4, 0), (5, 1), (6, 2), (7, 0)] ?_
  refine awPlan.only rfl ?_
  refine awGuard.apF ?_ ?_ ?_
  ·exact ⟨by omega, fun x hx => hes x (mem_mid hse hx)⟩
  ·omega
  refine awPlan.rn ?_
  refine AW.rSC ?_
  refine awOps.cons ?_
  refine awGuard.fcr ?_ ?_
  ·omega
  refine awOps.rn ?_
  refine AW.uf 0 (i + (es.length - j)) ?_
  refine AW.rS ?_
  refine AW.rt ?_
  rw [htl, del_in hse rfl (by omega) hj rfl]
  exact ⟨rfl, rfl⟩
theorem h_Delete_Object (gl : List (Nat × AV)) (es : List (List AV)) (i j : Nat) (hes : ∀ e ∈ es, okRow 6 e = true) (hij : i < j) (hj : j ≤ es.length) (hl : es.length ≤ 16777216) : FnH Tryz.prog (gl) 100 [.row 0 0 es.length, .int .i64 i, .int .i64 j] ([(0, .row 6 es true)]) 1 (fun r h n => r = .ret (.row 0 0 (i + (es.length - j))) ∧ h = [(0, .row 6 (es.take i ++ es.drop j) true)] ∧ n = 1) := by
 refine FnH.intro Tryz.func100 rfl rfl (by simp [Tryz.ntmps100]) ?_
 simp only [argEnv, Tryz.ntmps100, Tryz.results100]
 refine AW.rS ?_
 refine AW.rSC ?_
 refine awOps.cons ?_
 refine awGuard.s3 ?_ ?_
 ·first | omega | (simp; done) | (simp; omega)
 refine awOps.rn ?_
 refine AW.seq ?_
 refine AW.rS ?_
 refine AW.c2 ?_ ?_
 ·intro h7
  refine AW.rS ?_
  refine AW.rt ?_
  all_goals first | contradiction | rfl | (simp; done) | (simp; omega)
 ·intro h7
  refine AW.skip ?_
  refine AW.tf 0 (fun sp hsp hse => ?_)
  have htl : (List.take (es.length - j) (List.drop j sp)).length = es.length - j := by simp; omega
  have hsl : (splice sp i (List.take (es.length - j) (List.drop j sp))).length = sp.length := splice_len (by omega)
  refine AW.rS ?_
  refine AW.dSC [(0, 0), (1, 0), (2, 1), (3, 0), (4, 0), (5, 1), (6, 2), (7, 0)] ?_
  refine awPlan.only rfl ?_
  refine awGuard.apF ?_ ?_ ?_
  ·exact ⟨by omega, fun x hx => hes x (mem_mid hse hx)⟩
  ·omega
  refine awPlan.rn ?_
  refine AW.rSC ?_
  refine awOps.cons ?_
  refine awGuard.fcr ?_ ?_
  ·omega
  refine awOps.rn ?_
  refine AW.uf 0 (i + (es.length - j)) ?_
  refine AW.rS ?_
  refine AW.rt ?_
  rw [htl, del_in hse rfl (by omega) hj rfl]
  exact ⟨rfl, rfl⟩
end Go.Proofs

namespace Go.Proofs
open Go Aw
set_option linter.unusedSimpArgs false
set_option linter.unusedVariables false
set_option maxRecDepth 100000
set_option maxHeartbeats 4000000

theorem c_cmp_isNaN_string (gl : List (Nat × AV)) (s : List UInt8) : FnP Tryz.prog (gl) 114 [.str s] fun r => r = .ret (.bool false) := by
 refine FnP.intro Tryz.func114 rfl rfl (by simp [Tryz.ntmps114]) ?_
 simp only [argEnv, Tryz.ntmps114, Tryz.results114]
 refine AW.rS ?_
 refine AW.rS ?_
 refine AW.rt ?_
 all_goals first | contradiction | rfl | (simp; done) | (simp; omega)
theorem c_slices_isNaN_string (gl : List (Nat × AV)) (s : List UInt8) : FnP Tryz.prog (gl) 98 [.str s] fun r => r = .ret (.bool false) := by
 refine FnP.intro Tryz.func98 rfl rfl (by simp [Tryz.ntmps98]) ?_
 simp only [argEnv, Tryz.ntmps98, Tryz.results98]
 refine AW.rS ?_
 refine AW.rS ?_
 refine AW.rt ?_
 all_goals first | contradiction | rfl | (simp; done) | (simp; omega)
theorem c_cmp_Less_string (gl : List (Nat × AV)) (s t : List UInt8) : FnP Tryz.prog (gl) 97 [.str s, .str t] fun r => r = .ret (.bool (Op.bytesLess s t)) := by
 refine FnP.intro Tryz.func97 rfl rfl (by simp [Tryz.ntmps97]) ?_
 simp only [argEnv, Tryz.ntmps97, Tryz.results97]
 refine AW.rS ?_
 refine AW.rSC ?_
 refine awOps.cons (awGuard.c1 (c_cmp_isNaN_string _ s) ?_)
 refine awOps.rn ?_
 refine awOps.cons (awGuard.cG (fun hg => c_cmp_isNaN_string _ t) ?_)
 refine awOps.rn ?_
 refine AW.rt ?_
 all_goals first | contradiction | rfl | (simp; done) | (simp; omega)
theorem c_slices_BinarySearch_string_string (gl : List (Nat × AV)) (ks : List (List UInt8)) (key : List UInt8) (hk : ks.length ≤ 16777216 := by first | omega | exact u8_le _ | assumption | (simp; done) | (simp; omega)) (hs : incr ks := by first | omega | exact u8_le _ | assumption | (simp; done) | (simp; omega)) : FnP Tryz.prog (gl) 67 [.sl (strsAV ks), .str key] fun r => r = .ret (.tup [.int .i64 (kplace ks key), .bool (kthere ks key)]) := by
 refine FnP.intro Tryz.func67 rfl rfl (by simp [Tryz.ntmps67]) ?_
 simp only [argEnv, Tryz.ntmps67, Tryz.results67]
 refine AW.rS ?_
 refine AW.rS ?_
 refine AW.rS ?_
 refine AW.seq ?_
 refine AW.block ?_
 refine AW.lk (S := { p : Nat × Nat // p.1 ≤ p.2 ∧ p.2 ≤ ks.length ∧ (∀ a, a < p.1 → Op.bytesLess (ks.getD a []) key = true) ∧ (∀ a, p.2 ≤ a → a < ks.length → Op.bytesLess (ks.getD a []) key = false) }) [0, 1, 6] (fun s_ => [(7, .int .i64 s_.1.1), (8, .int .i64 s_.1.2)]) (fun s_ => []) 0 (fun s_ => s_.1.2 - s_.1.1) ⟨(0, ks.length), Nat.zero_le _, Nat.le_refl _, fun a h => absurd h (by omega), fun a h h' => absurd h' (by omega)⟩ ?_ ?_
 ·refine St.le.vw []
 rintro ⟨⟨i, j⟩, h1, h2, h3, h4⟩
 try dsimp only at h1
 try dsimp only at h2
 try dsimp only at h3
 try dsimp only at h4
 refine AW.seq ?_
 refine AW.rS ?_
 refine AW.c2 ?_ ?_
 ·intro h9
  refine AW.skip ?_
  refine AW.block ?_
  refine AW.rS ?_
  refine AW.rSC ?_
  refine awOps.cons (awGuard.c1 (c_cmp_Less_string _ (ks.getD ((i + j) / 2) []) key) ?_)
  refine awOps.rn ?_
  refine AW.c2 ?_ ?_
  ·intro h16
   refine AW.rL ?_
   refine ⟨⟨((i + j) / 2 + 1, j), by dsimp only; omega, h2, fun a ha => bs_lo hs h16 (by omega) (by dsimp only at ha; omega), h4⟩, ?_, ?_⟩
   ·refine St.le.vw []
   ·simp only []; omega
  ·intro h16
   refine AW.rL ?_
   refine ⟨⟨(i, (i + j) / 2), by dsimp only; omega, by dsimp only; omega, h3, fun a ha hb => bs_hi hs h16 (by dsimp only at ha; omega) hb⟩, ?_, ?_⟩
   ·refine St.le.vw []
   ·simp only []; omega
 ·intro h9
  refine AW.exit ?_
  obtain rfl : i = j := by omega
  have hkp := kplace_eq h2 h3 (fun h => h4 _ (Nat.le_refl _) h)
  by_cases hs22 : i < ks.length
  ·skip
   refine AW.rSC ?_
   refine awOps.cons (awGuard.cG (fun hg => c_slices_isNaN_string ..) ?_)
   refine awOps.rn ?_
   refine awOps.cons (awGuard.cG (fun hg => c_slices_isNaN_string ..) ?_)
   refine awOps.rn ?_
   refine AW.rt ?_
   rw [kthere_eq hkp, hkp]
   simp [hs22]
  ·skip
   refine AW.rSC ?_
   refine awOps.cons (awGuard.gF (.bool false) ?_ ?_)
   ·simp [hs22]
   refine awOps.rn ?_
   refine awOps.cons (awGuard.cG (fun hg => c_slices_isNaN_string ..) ?_)
   refine awOps.rn ?_
   refine AW.rt ?_
   rw [kthere_eq hkp, hkp]
   simp [hs22]
end Go.Proofs

namespace Go.Proofs
open Go Aw
set_option linter.unusedSimpArgs false
set_option linter.unusedVariables false
set_option maxRecDepth 100000
set_option maxHeartbeats 4000000

theorem h_Clone_string (gl : List (Nat × AV)) (ks : List (List UInt8)) (hk : ks.length ≤ 16777216 := by first | omega | exact u8_le _ | assumption | (simp; done) | (simp; omega)) : FnH Tryz.prog (gl) 86 [.sl (strsAV ks)] ([]) 0 (fun r h n => r = .ret (.row 1 0 ks.length) ∧ h = [(1, .row 1 (strsAV ks) true)] ∧ n = 2) := by
 refine FnH.intro Tryz.func86 rfl rfl (by simp [Tryz.ntmps86]) ?_
 simp only [argEnv, Tryz.ntmps86, Tryz.results86]
 refine AW.rS ?_
 refine AW.seq ?_
 refine AW.rSC ?_
 refine awOps.cons (awGuard.nS ?_)
 intro b4 hb4
 simp only [nilBool]
 refine awOps.rn ?_
 refine AW.c2 ?_ ?_
 ·intro h6
  refine AW.rS ?_
  refine AW.pre (St.le.nilrow 2 1 (by (simp only [go_sem, seval]; try (simp (disch := omega) only [zq]; try (simp only [go_sem, seval]; try (simp (disch := omega) only [zq]; try simp only [go_sem, seval])))))) ?_
  refine wk ?_
  refine AW.rnm 2 ?_
  refine wk ?_
  refine AW.rt ?_
  rw [nil_strs hb4 h6, strsAV_nil]; simp
 ·intro h6
  refine AW.skip ?_
  refine AW.rS ?_
  refine AW.rt ?_
  all_goals first | contradiction | rfl | (simp; done) | (simp; omega)
theorem h_Clone_Object (gl : List (Nat × AV)) (ks : List Pob) (hk : ks.length ≤ 16777216 := by first | omega | exact u8_le _ | assumption | (simp; done) | (simp; omega)) : FnH Tryz.prog (gl) 101 [.sl (objsAV ks)] ([]) 0 (fun r h n => r = .ret (.row 1 0 ks.length) ∧ h = [(1, .row 6 (objsAV ks) true)] ∧ n = 2) := by
 refine FnH.intro Tryz.func101 rfl rfl (by simp [Tryz.ntmps101]) ?_
 simp only [argEnv, Tryz.ntmps101, Tryz.results101]
 refine AW.rS ?_
 refine AW.seq ?_
 refine AW.rSC ?_
 refine awOps.cons (awGuard.nS ?_)
 intro b4 hb4
 simp only [nilBool]
 refine awOps.rn ?_
 refine AW.c2 ?_ ?_
 ·intro h6
  refine AW.rS ?_
  refine AW.pre (St.le.nilrow 2 6 (by (simp only [go_sem, seval]; try (simp (disch := omega) only [zq]; try (simp only [go_sem, seval]; try (simp (disch := omega) only [zq]; try simp only [go_sem, seval])))))) ?_
  refine wk ?_
  refine AW.rnm 2 ?_
  refine wk ?_
  refine AW.rt ?_
  rw [nil_objs hb4 h6, objsAV_nil]; simp
 ·intro h6
  refine AW.skip ?_
  refine AW.rS ?_
  refine AW.rt ?_
  all_goals first | contradiction | rfl | (simp; done) | (simp; omega)
theorem h_Del_str (gl : List (Nat × AV)) (ks : List (List UInt8)) (i : Nat) (hi : i < ks.length) (hl : ks.length ≤ 16777216 := by omega) : FnH Tryz.prog gl 99 [.row 0 0 ks.length, .int .i64 i, .int .i64 ((i : Int) + 1)]
  [(0, .row 1 (strsAV ks) true)] 1 fun r h n => r = .ret (.row 0 0 (i + (ks.length - (i + 1)))) ∧ h = [(0, .row 1 (strsAV (delAt ks i)) true)] ∧ n = 1 := by
 have h := h_Delete_string gl (strsAV ks) i (i + 1) (by rw [strsAV_ok]; trivial) (by omega) (by rw [strsAV_length]; omega) (by rw [strsAV_length]; exact hl)
 rw [strsAV_length, strsAV_delAt] at h
 exact h
theorem h_Del_obj (gl : List (Nat × AV)) (ks : List Pob) (i : Nat) (hi : i < ks.length) (hl : ks.length ≤ 16777216 := by omega) : FnH Tryz.prog gl 100 [.row 0 0 ks.length, .int .i64 i, .int .i64 ((i : Int) + 1)]
  [(0, .row 6 (objsAV ks) true)] 1 fun r h n => r = .ret (.row 0 0 (i + (ks.length - (i + 1)))) ∧ h = [(0, .row 6 (objsAV (delAt ks i)) true)] ∧ n = 1 := by
 have h := h_Delete_Object gl (objsAV ks) i (i + 1) (by rw [objsAV_ok]; trivial) (by omega) (by rw [objsAV_length]; omega) (by rw [objsAV_length]; exact hl)
 rw [objsAV_length, objsAV_delAt] at h
 exact h
end Go.Proofs

namespace Go.Proofs
open Go Aw
set_option linter.unusedSimpArgs false
set_option linter.unusedVariables false
set_option maxRecDepth 100000
set_option maxHeartbeats 4000000

theorem c_value_without (gl : List (Nat × AV)) (o : Pob) (i : Nat) (h : o.bulk ≤ 16777216) (hi : i < o.keys.length) (hl : o.keys.length = o.kids.length) : FnP Tryz.prog (gl) 68 [.agg o.cells, .int .i64 i] fun r => r = .ret (.agg (o.lessK i).cells) := by
 refine FnP.intro Tryz.func68 rfl rfl (by simp [Tryz.ntmps68]) ?_
 simp only [argEnv, Tryz.ntmps68, Tryz.results68]
 have hb := Pob.bulk_eq o
 refine AW.rS ?_
 refine AW.rSC ?_
 refine awOps.cons (awGuard.cH [] (h_Clone_string _ o.keys) ?_)
 refine awOps.rn ?_
 refine awOps.cons (awGuard.cH [3] (h_Del_str _ o.keys i hi) ?_)
 refine awOps.rn ?_
 refine AW.rSC ?_
 refine awOps.cons (awGuard.cH [] (h_Clone_Object _ o.kids) ?_)
 refine awOps.rn ?_
 refine awOps.cons (awGuard.cH [5] (h_Del_obj _ o.kids i (by omega)) ?_)
 refine awOps.rn ?_
 refine AW.rS ?_
 refine AW.rt ?_
 have e1 : i + (o.keys.length - (i + 1)) = (delAt o.keys i).length := by rw [delAt_length hi]; omega
 have e2 : i + (o.kids.length - (i + 1)) = (delAt o.kids i).length := by rw [delAt_length (by omega)]; omega
 rw [e1, e2, strsAV_take_len, objsAV_take_len]
 exact ⟨⟨Nat.le_refl _, Nat.le_refl _⟩, rfl⟩
theorem c_value_Drop (gl : List (Nat × AV)) (o : Pob) (key : List UInt8) (h : o.bulk ≤ 16777216) : FnP Tryz.prog (gl) 42 [.agg o.cells, .str key] fun r => r = .ret (.agg (dropO o key).cells) := by
 refine FnP.intro Tryz.func42 rfl rfl (by simp [Tryz.ntmps42]) ?_
 simp only [argEnv, Tryz.ntmps42, Tryz.results42]
 have hlk := dropO_bulk o key
 refine AW.rS ?_
 refine AW.seq ?_
 refine AW.rSC ?_
 refine awOps.cons (awGuard.c1 (c_value_keyed _ o) ?_)
 refine awOps.rn ?_
 refine awOps.cons (awGuard.cG (fun hg => c_value_Check _ o) ?_)
 refine awOps.rn ?_
 refine AW.c2 ?_ ?_
 ·intro h8
  have hr := chk_rising h8.2 h8.1
  have hb := Pob.bulk_eq o
  refine AW.rSC ?_
  refine awOps.cons (awGuard.c1 (c_slices_BinarySearch_string_string _ o.keys key (by omega) (rising_incr hr)) ?_)
  refine awOps.rn ?_
  refine AW.rS ?_
  refine AW.c2 ?_ ?_
  ·intro h13
   refine AW.rLC ?_
   refine awOps.cons (awGuard.c1 (c_value_without _ o (kplace o.keys key) h (kthere_lt h13) hr.1) ?_)
   refine awOps.rn ?_
   refine AW.rSC ?_
   refine awOps.cons (awGuard.c1 (c_value_Clone _ (o.lessK (kplace o.keys key)) (Nat.le_trans (Pob.lessK_bulk _ _) h)) ?_)
   refine awOps.rn ?_
   refine AW.rt ?_
   rw [dropO_yes (by simp [dropB, h8, h13])]
  ·intro h13
   refine AW.skip ?_
   refine AW.rSC ?_
   refine awOps.cons (awGuard.c1 (c_value_Clone _ o h) ?_)
   refine awOps.rn ?_
   refine AW.rt ?_
   rw [dropO_no (by simp [dropB, h8, h13])]
 ·intro h8
  refine AW.skip ?_
  refine AW.rSC ?_
  refine awOps.cons (awGuard.c1 (c_value_Clone _ o h) ?_)
  refine awOps.rn ?_
  refine AW.rt ?_
  rw [dropO_no (by simp only [dropB]; rcases h8 with h8 | h8 <;> simp [h8])]
end Go.Proofs

namespace Go.Proofs
open Go Aw
set_option linter.unusedSimpArgs false
set_option linter.unusedVariables false
set_option maxRecDepth 100000
set_option maxHeartbeats 4000000

end Go.Proofs

namespace Go.Proofs
open Go Aw
set_option linter.unusedSimpArgs false
set_option linter.unusedVariables false
set_option maxRecDepth 100000
set_option maxHeartbeats 4000000

end Go.Proofs

namespace Go.Proofs
open Go Aw
set_option linter.unusedSimpArgs false
set_option linter.unusedVariables false
set_option maxRecDepth 100000
set_option maxHeartbeats 4000000

theorem c_docs_kind (gl : List (Nat × AV)) (o : Pob) (h : o.bulk ≤ 16777216 := by first | omega | exact u8_le _ | assumption | (simp; done) | (simp; omega)) : FnP Tryz.prog (gl) 120 [.agg o.cells] fun r => r = .ret (.str (docKind o)) := by
 refine FnP.intro Tryz.func120 rfl rfl (by simp [Tryz.ntmps120]) ?_
 simp only [argEnv, Tryz.ntmps120, Tryz.results120]
 refine AW.rS ?_
 refine AW.rSC ?_
 refine awOps.cons (awGuard.c1 (c_value_Get ..) ?_)
 refine awOps.rn ?_
 refine AW.seq ?_
 refine AW.rS ?_
 refine AW.c2 ?_ ?_
 ·intro h7
  refine AW.rS ?_
  refine AW.rt ?_
  simp_all [docKind, typeK]
 ·intro h7
  refine AW.skip ?_
  refine AW.rS ?_
  refine AW.rt ?_
  simp_all [docKind, typeK]
theorem c_docs_holds (gl : List (Nat × AV)) (o : Pob) (h : o.bulk ≤ 16777216 := by first | omega | exact u8_le _ | assumption | (simp; done) | (simp; omega)) : FnP Tryz.prog (gl) 111 [.agg o.cells] fun r => r = .ret (.bool (holdsB o)) := by
 refine FnP.intro Tryz.func111 rfl rfl (by simp [Tryz.ntmps111]) ?_
 simp only [argEnv, Tryz.ntmps111, Tryz.results111]
 refine AW.rS ?_
 refine AW.rSC ?_
 refine awOps.cons (awGuard.cG (fun hg => c_docs_kind ..) ?_)
 refine awOps.rn ?_
 refine awOps.cons (awGuard.cG (fun hg => c_docs_kind ..) ?_)
 refine awOps.rn ?_
 refine AW.rt ?_
 simp_all [holdsB]
theorem c_docs_content (gl : List (Nat × AV)) (i : Itm) (h : i.obj.bulk ≤ 16777216 := by first | omega | exact u8_le _ | assumption | (simp; done) | (simp; omega)) : FnP Tryz.prog (gl) 92 [.agg i.cells] fun r => r = .ret (.int .i64 (contentE i)) := by
 refine FnP.intro Tryz.func92 rfl rfl (by simp [Tryz.ntmps92]) ?_
 simp only [argEnv, Tryz.ntmps92, Tryz.results92]
 refine AW.rS ?_
 refine AW.seq ?_
 refine AW.rSC ?_
 refine awOps.cons (awGuard.c1 (c_value_Check _ i.obj) ?_)
 refine awOps.rn ?_
 refine AW.rS ?_
 refine AW.c2 ?_ ?_
 ·intro h7
  refine AW.rS ?_
  refine AW.rt ?_
  ·rw [content_bad h7]
  all_goals first | contradiction | rfl | (simp; done) | (simp; omega)
 ·intro h7
  refine AW.skip ?_
  refine AW.seq ?_
  refine AW.rSC ?_
  refine awOps.cons (awGuard.cG (fun hg => c_docs_holds _ i.obj) ?_)
  refine awOps.rn ?_
  refine AW.c2 ?_ ?_
  ·intro h16
   refine AW.rS ?_
   refine AW.rt ?_
   simp only [contentE]; simp_all
  ·intro h16
   refine AW.skip ?_
   refine AW.rS ?_
   refine AW.rt ?_
   simp only [contentE]; simp_all
theorem c_docs_items (gl : List (Nat × AV)) (l : List Itm) (h : ibulk l ≤ 16777216) : FnP Tryz.prog (gl) 64 [.sl (itemsAV l)] fun r => r = .ret (.int .i64 (itemsE l)) := by
 refine FnP.intro Tryz.func64 rfl rfl (by simp [Tryz.ntmps64]) ?_
 simp only [argEnv, Tryz.ntmps64, Tryz.results64]
 have hlen := ibulk_len l
 refine AW.rS ?_
 refine AW.seq ?_
 refine AW.rS ?_
 refine AW.block ?_
 refine AW.lk (S := { k : Nat // k ≤ l.length ∧ itemsE l = itemsFrom l k (l.length - k) }) [0, 6, 7] (fun s_ => [(8, .int .i64 s_.1)]) (fun s_ => []) 0 (fun s_ => l.length - s_.1) ⟨0, Nat.zero_le _, rfl⟩ ?_ ?_
 ·refine St.le.vw []
 rintro ⟨k, hk, hs⟩
 try dsimp only at hk
 try dsimp only at hs
 refine AW.rS ?_
 refine AW.seq ?_
 refine AW.c2 ?_ ?_
 ·intro h8
  have hgb := ibulk_get (l := l) (i := k) (by omega)
  refine AW.skip ?_
  refine AW.seq ?_
  refine AW.block ?_
  refine AW.rS ?_
  refine AW.seq ?_
  refine AW.block ?_
  refine AW.rSC ?_
  refine awOps.cons (awGuard.c1 (c_docs_numbers _ (l.getD k Itm.zero)) ?_)
  refine awOps.rn ?_
  refine AW.c2 ?_ ?_
  ·intro h18
   refine AW.rS ?_
   refine AW.rt ?_
   rw [hs, itemsFrom_step h8, if_pos (nums_no h18)]
  ·intro h18
   refine AW.dS [(0, 0), (1, 0), (2, 0), (3, 0), (4, 1), (5, 0), (6, 0), (7, 0), (8, 1), (9, 0), (10, 1), (11, 0), (12, 0), (13, 0)] ?_
   refine AW.c2 ?_ ?_
   ·intro h23
    refine AW.rS ?_
    refine AW.rt ?_
    rw [hs, itemsFrom_step h8, if_neg (by rw [nums_yes h18]; simp), if_pos (by omega)]
   ·intro h23
    refine AW.skip ?_
    refine AW.rSC ?_
    refine awOps.cons (awGuard.c1 (c_docs_content _ (l.getD k Itm.zero)) ?_)
    refine awOps.rn ?_
    refine AW.rS ?_
    refine AW.c2 ?_ ?_
    ·intro h32
     refine AW.rS ?_
     refine AW.rt ?_
     rw [hs, itemsFrom_step h8, if_neg (by rw [nums_yes h18]; simp), if_neg (by omega), if_pos h32]
    ·intro h32
     refine AW.skip ?_
     refine AW.rL ?_
     refine ⟨⟨k + 1, by omega, by rw [hs, itemsFrom_step (by omega), if_neg (by rw [nums_yes h18]; simp), if_neg (by omega), if_neg (by simpa using h32)]⟩, ?_, ?_⟩
     ·refine St.le.vw []
     ·simp only []; omega
 ·intro h8
  refine AW.exit ?_
  refine AW.rS ?_
  refine AW.rt ?_
  rw [hs, show l.length - k = 0 from by omega, itemsFrom]
end Go.Proofs

namespace Go.Proofs
open Go Aw
set_option linter.unusedSimpArgs false
set_option linter.unusedVariables false
set_option maxRecDepth 100000
set_option maxHeartbeats 4000000

theorem c_docs_Follow_1 (gl : List (Nat × AV)) (i : Itm) (o : Pob) : FnP Tryz.prog (gl) 113 [.agg i.cells, .tptr o.cells] fun r => r = .ret (.bool (decide (i.num = o.num))) := by
 refine FnP.intro Tryz.func113 rfl rfl (by simp [Tryz.ntmps113]) ?_
 simp only [argEnv, Tryz.ntmps113, Tryz.results113]
 refine AW.rS ?_
 refine AW.rS ?_
 refine AW.rt ?_
 all_goals first | contradiction | rfl | (simp; done) | (simp; omega)
theorem c_IndexFunc_Follow (gl : List (Nat × AV)) (l : List Itm) (o : Pob) (hl : l.length ≤ 16777216 := by first | omega | exact u8_le _ | assumption | (simp; done) | (simp; omega)) : FnP Tryz.prog (gl) 70 [.sl (itemsAV l), .clos 113 [.tptr o.cells]] fun r => r = .ret (.int .i64 (iidxI l o.num)) := by
 refine FnP.intro Tryz.func70 rfl rfl (by simp [Tryz.ntmps70]) ?_
 simp only [argEnv, Tryz.ntmps70, Tryz.results70]
 refine AW.rS ?_
 refine AW.seq ?_
 refine AW.rS ?_
 refine AW.block ?_
 refine AW.lk (S := { i : Nat // i ≤ l.length ∧ ∀ j, j < i → (l.getD j Itm.zero).num ≠ o.num }) [0, 1, 7] (fun s_ => [(8, .int .i64 s_.1)]) (fun s_ => []) 0 (fun s_ => l.length - s_.1) ⟨0, Nat.zero_le _, fun j h => absurd h (by omega)⟩ ?_ ?_
 ·refine St.le.vw []
 rintro ⟨i, hi, hs⟩
 try dsimp only at hi
 try dsimp only at hs
 refine AW.rS ?_
 refine AW.seq ?_
 refine AW.c2 ?_ ?_
 ·intro h8
  refine AW.skip ?_
  refine AW.seq ?_
  refine AW.block ?_
  refine AW.rS ?_
  refine AW.rSC ?_
  refine awOps.cons (awGuard.c1 (c_docs_Follow_1 _ (l.getD i Itm.zero) o) ?_)
  refine awOps.rn ?_
  refine AW.c2 ?_ ?_
  ·intro h16
   refine AW.rS ?_
   refine AW.rt ?_
   rw [iidx_hit h8 hs h16]
  ·intro h16
   refine AW.skip ?_
   refine AW.rL ?_
   refine ⟨⟨i + 1, by omega, fun j hj => (Nat.lt_or_ge j i).elim (hs j) (fun h => (show j = i by omega) ▸ h16)⟩, ?_, ?_⟩
   ·refine St.le.vw []
   ·simp only []; omega
 ·intro h8
  refine AW.exit ?_
  refine AW.rS ?_
  refine AW.rt ?_
  rw [iidx_miss (fun j hj => hs j (by omega))]
theorem c_docs_Follow (gl : List (Nat × AV)) (d : Dc) (o : Pob) (h : d.bulk ≤ 16777216 := by first | omega | exact u8_le _ | assumption | (simp; done) | (simp; omega)) (ho : o.bulk ≤ 16777216 := by first | omega | exact u8_le _ | assumption | (simp; done) | (simp; omega)) : FnP Tryz.prog (gl) 96 [.agg d.cells, .agg o.cells] fun r => r = .ret (.agg (followO d o).cells) := by
 refine FnP.intro Tryz.func96 rfl rfl (by simp [Tryz.ntmps96]) ?_
 simp only [argEnv, Tryz.ntmps96, Tryz.results96]
 have hlen := ibulk_len d.items
 have hlt := iidxI_lt (l := d.items) (n := o.num)
 simp only [Dc.bulk] at h
 refine AW.rS ?_
 refine AW.seq ?_
 refine AW.rS ?_
 refine AW.c2 ?_ ?_
 ·intro h4
  refine AW.rSC ?_
  refine awOps.cons (awGuard.c1 (c_value_Clone _ o ho) ?_)
  refine awOps.rn ?_
  refine AW.rt ?_
  rw [followO, if_pos h4]
 ·intro h4
  refine AW.skip ?_
  refine AW.rSC ?_
  refine awOps.cons (awGuard.c1 (c_IndexFunc_Follow _ d.items o (by omega)) ?_)
  refine awOps.rn ?_
  refine AW.seq ?_
  by_cases hs15 : 0 ≤ iidxI d.items o.num
  ·skip
   refine AW.dS [(0, 0), (1, 0), (2, 0), (3, 0), (4, 1), (5, 0), (6, 1), (7, 0), (8, 1), (9, 0), (10, 1), (11, 0), (12, 0)] ?_
   refine AW.c2 ?_ ?_
   ·intro h16
    refine AW.rS ?_
    refine AW.rt ?_
    have hf : followO d o = Pob.null := by simp only [followO]; grind
    rw [hf] <;> rfl
   ·intro h16
    refine AW.skip ?_
    refine AW.rSC ?_
    refine awOps.cons (awGuard.c1 (c_value_Clone _ (d.items.getD (iidxI d.items o.num).toNat Itm.zero).obj (by have := ibulk_get (l := d.items) (i := (iidxI d.items o.num).toNat) (by omega); omega)) ?_)
    refine awOps.rn ?_
    refine AW.rt ?_
    have hf : followO d o = (d.items.getD (iidxI d.items o.num).toNat Itm.zero).obj := by simp only [followO]; grind
    rw [hf]
  ·skip
   by_cases hs15 : 0 < d.items.length
   ·skip
    refine AW.dS [(0, 0), (1, 0), (2, 0), (3, 0), (4, 1), (5, 0), (6, 1), (7, 0), (8, 1), (9, 0), (10, 1), (11, 0), (12, 0)] ?_
    refine AW.c2 ?_ ?_
    ·intro h16
     refine AW.rS ?_
     refine AW.rt ?_
     have hf : followO d o = Pob.null := by simp only [followO]; grind
     rw [hf] <;> rfl
    ·intro h16
     exfalso; first | omega | (simp at h16; omega)
   ·skip
    refine AW.dS [(0, 0), (1, 0), (2, 0), (3, 0), (4, 1), (5, 0), (6, 1), (7, 0), (8, 1), (9, 0), (10, 1), (11, 0), (12, 0)] ?_
    refine AW.c2 ?_ ?_
    ·intro h16
     refine AW.rS ?_
     refine AW.rt ?_
     have hf : followO d o = Pob.null := by simp only [followO]; grind
     rw [hf] <;> rfl
    ·intro h16
     exfalso; first | omega | (simp at h16; omega)
end Go.Proofs

namespace Go.Proofs
open Go Aw
set_option linter.unusedSimpArgs false
set_option linter.unusedVariables false
set_option maxRecDepth 100000
set_option maxHeartbeats 4000000

end Go.Proofs

namespace Go.Proofs
open Go Aw
set_option linter.unusedSimpArgs false
set_option linter.unusedVariables false
set_option maxRecDepth 100000
set_option maxHeartbeats 4000000

theorem c_docs_known (gl : List (Nat × AV))  : FnP Tryz.prog (gl) 94 [] fun r => r = .ret (.sl (strsAV trailK)) := by
 refine FnP.intro Tryz.func94 rfl rfl (by simp [Tryz.ntmps94]) ?_
 simp only [argEnv, Tryz.ntmps94, Tryz.results94]
 refine AW.rS ?_
 refine AW.rS ?_
 refine AW.rt ?_
 all_goals first | contradiction | rfl | (simp; done) | (simp; omega)
theorem c_slices_Contains_string_string (gl : List (Nat × AV)) (ks : List (List UInt8)) (k : List UInt8) (h : ks.length ≤ 16777216 := by first | omega | exact u8_le _ | assumption | (simp; done) | (simp; omega)) : FnP Tryz.prog (gl) 93 [.sl (strsAV ks), .str k] fun r => r = .ret (.bool (decide (0 ≤ kidxI ks k))) := by
 refine FnP.intro Tryz.func93 rfl rfl (by simp [Tryz.ntmps93]) ?_
 simp only [argEnv, Tryz.ntmps93, Tryz.results93]
 refine AW.rS ?_
 refine AW.rSC ?_
 refine awOps.cons (awGuard.c1 (c_slices_Index_string_string _ ks k) ?_)
 refine awOps.rn ?_
 refine AW.rt ?_
 all_goals first | contradiction | rfl | (simp; done) | (simp; omega)
theorem c_docs_trail (gl : List (Nat × AV)) (d : Dc) (h : d.bulk ≤ 16777216 := by first | omega | exact u8_le _ | assumption | (simp; done) | (simp; omega)) : FnP Tryz.prog (gl) 65 [.agg d.cells] fun r => r = .ret (.int .i64 (trailE d)) := by
 refine FnP.intro Tryz.func65 rfl rfl (by simp [Tryz.ntmps65]) ?_
 simp only [argEnv, Tryz.ntmps65, Tryz.results65]
 have h0 := h
 simp only [Dc.bulk] at h
 have hkb := Pob.bulk_eq d.trailer
 have hrb := get_bulk d.trailer rootK
 refine AW.rS ?_
 refine AW.seq ?_
 refine AW.rSC ?_
 refine awOps.cons (awGuard.c1 (c_value_Check _ d.trailer) ?_)
 refine awOps.rn ?_
 refine AW.rS ?_
 refine AW.c2 ?_ ?_
 ·intro h7
  refine AW.rS ?_
  refine AW.rt ?_
  rw [trail_bad h7]
 ·intro h7
  refine AW.skip ?_
  refine AW.seq ?_
  refine AW.rS ?_
  refine AW.c2 ?_ ?_
  ·intro h14
   refine AW.rS ?_
   refine AW.rt ?_
   rw [trail_kind h7 h14]
  ·intro h14
   refine AW.skip ?_
   refine AW.seq ?_
   refine AW.rS ?_
   refine AW.block ?_
   refine AW.lk (S := { i : Nat // i ≤ d.trailer.keys.length ∧ ∀ j, j < i → 0 ≤ kidxI trailK (d.trailer.keys.getD j []) }) [1, 20, 21] (fun s_ => [(22, .int .i64 s_.1)]) (fun s_ => [(0, .cells d.cells)]) 1 (fun s_ => d.trailer.keys.length - s_.1) ⟨0, Nat.zero_le _, fun j h => absurd h (by omega)⟩ ?_ ?_
   ·refine St.le.vw [0]
   rintro ⟨i, hi, hs⟩
   try dsimp only at hi
   try dsimp only at hs
   refine AW.rS ?_
   refine AW.seq ?_
   refine AW.c2 ?_ ?_
   ·intro h25
    refine AW.skip ?_
    refine AW.seq ?_
    refine AW.block ?_
    refine AW.rS ?_
    refine AW.rSC ?_
    refine awOps.cons (awGuard.c1 (c_docs_known ..) ?_)
    refine awOps.rn ?_
    refine awOps.cons (awGuard.c1 (c_slices_Contains_string_string _ trailK (d.trailer.keys.getD i []) (by decide)) ?_)
    refine awOps.rn ?_
    refine AW.c2 ?_ ?_
    ·intro h35
     refine AW.rS ?_
     refine AW.rt ?_
     rw [trail_key h7 h14 (fun hh => by have := hh i h25; omega)]
    ·intro h35
     refine AW.skip ?_
     refine AW.rL ?_
     refine ⟨⟨i + 1, by omega, fun j hj => (Nat.lt_or_ge j i).elim (hs j) (fun h => (show j = i by omega) ▸ h35)⟩, ?_, ?_⟩
     ·refine St.le.vw [0]
     ·simp only []; omega
   ·intro h25
    refine AW.exit ?_
    have htk : trailOk d.trailer.keys := fun j hj => hs j (by omega)
    refine AW.rSC ?_
    refine awOps.cons (awGuard.c1 (c_value_Get _ d.trailer rootK) ?_)
    refine awOps.rn ?_
    refine AW.seq ?_
    refine AW.rSC ?_
    refine awOps.cons (awGuard.cG (fun hg => c_docs_Follow _ d (getO d.trailer rootK) h0 (by omega)) ?_)
    refine awOps.rn ?_
    refine AW.c2 ?_ ?_
    ·intro h50
     refine AW.rS ?_
     refine AW.rt ?_
     rw [trail_root h7 h14 htk, if_pos h50]
    ·intro h50
     refine AW.skip ?_
     refine AW.rS ?_
     refine AW.rt ?_
     rw [trail_root h7 h14 htk, if_neg (by simp [h50])]
theorem c_docs_Check (gl : List (Nat × AV)) (d : Dc) (h : d.bulk ≤ 16777216 := by first | omega | exact u8_le _ | assumption | (simp; done) | (simp; omega)) : FnP Tryz.prog (gl) 41 [.agg d.cells] fun r => r = .ret (.int .i64 (docE d)) := by
 refine FnP.intro Tryz.func41 rfl rfl (by simp [Tryz.ntmps41]) ?_
 simp only [argEnv, Tryz.ntmps41, Tryz.results41]
 refine AW.rS ?_
 refine AW.seq ?_
 refine AW.rSC ?_
 refine awOps.cons (awGuard.c1 (c_docs_items _ d.items (by simp only [Dc.bulk] at h; omega)) ?_)
 refine awOps.rn ?_
 refine AW.rS ?_
 refine AW.c2 ?_ ?_
 ·intro h7
  refine AW.rS ?_
  refine AW.rt ?_
  rw [doc_bad h7]
 ·intro h7
  refine AW.skip ?_
  refine AW.rSC ?_
  refine awOps.cons (awGuard.c1 (c_docs_trail _ d h) ?_)
  refine awOps.rn ?_
  refine AW.rt ?_
  rw [doc_trail h7]
theorem c_docs_Get_1 (gl : List (Nat × AV)) (i : Itm) (n : Int) : FnP Tryz.prog (gl) 74 [.agg i.cells, .tptr [.int .i64 n]] fun r => r = .ret (.bool (decide (i.num = n))) := by
 refine FnP.intro Tryz.func74 rfl rfl (by simp [Tryz.ntmps74]) ?_
 simp only [argEnv, Tryz.ntmps74, Tryz.results74]
 refine AW.rS ?_
 refine AW.rS ?_
 refine AW.rt ?_
 all_goals first | contradiction | rfl | (simp; done) | (simp; omega)
theorem c_IndexFunc_Get (gl : List (Nat × AV)) (l : List Itm) (n : Int) (hl : l.length ≤ 16777216 := by first | omega | exact u8_le _ | assumption | (simp; done) | (simp; omega)) : FnP Tryz.prog (gl) 70 [.sl (itemsAV l), .clos 74 [.tptr [.int .i64 n]]] fun r => r = .ret (.int .i64 (iidxI l n)) := by
 refine FnP.intro Tryz.func70 rfl rfl (by simp [Tryz.ntmps70]) ?_
 simp only [argEnv, Tryz.ntmps70, Tryz.results70]
 refine AW.rS ?_
 refine AW.seq ?_
 refine AW.rS ?_
 refine AW.block ?_
 refine AW.lk (S := { i : Nat // i ≤ l.length ∧ ∀ j, j < i → (l.getD j Itm.zero).num ≠ n }) [0, 1, 7] (fun s_ => [(8, .int .i64 s_.1)]) (fun s_ => []) 0 (fun s_ => l.length - s_.1) ⟨0, Nat.zero_le _, fun j h => absurd h (by omega)⟩ ?_ ?_
 ·refine St.le.vw []
 rintro ⟨i, hi, hs⟩
 try dsimp only at hi
 try dsimp only at hs
 refine AW.rS ?_
 refine AW.seq ?_
 refine AW.c2 ?_ ?_
 ·intro h8
  refine AW.skip ?_
  refine AW.seq ?_
  refine AW.block ?_
  refine AW.rS ?_
  refine AW.rSC ?_
  refine awOps.cons (awGuard.c1 (c_docs_Get_1 _ (l.getD i Itm.zero) n) ?_)
  refine awOps.rn ?_
  refine AW.c2 ?_ ?_
  ·intro h16
   refine AW.rS ?_
   refine AW.rt ?_
   rw [iidx_hit h8 hs h16]
  ·intro h16
   refine AW.skip ?_
   refine AW.rL ?_
   refine ⟨⟨i + 1, by omega, fun j hj => (Nat.lt_or_ge j i).elim (hs j) (fun h => (show j = i by omega) ▸ h16)⟩, ?_, ?_⟩
   ·refine St.le.vw []
   ·simp only []; omega
 ·intro h8
  refine AW.exit ?_
  refine AW.rS ?_
  refine AW.rt ?_
  rw [iidx_miss (fun j hj => hs j (by omega))]
theorem c_docs_Get (gl : List (Nat × AV)) (d : Dc) (n : Int) (h : d.bulk ≤ 16777216 := by first | omega | exact u8_le _ | assumption | (simp; done) | (simp; omega)) : FnP Tryz.prog (gl) 50 [.agg d.cells, .int .i64 n] fun r => r = .ret (.tup [.agg ((lookI d.items n).getD Itm.zero).cells, .bool (lookI d.items n).isSome]) := by
 refine FnP.intro Tryz.func50 rfl rfl (by simp [Tryz.ntmps50]) ?_
 simp only [argEnv, Tryz.ntmps50, Tryz.results50]
 simp only [Dc.bulk] at h
 have hlen := ibulk_len d.items
 have hlt := iidxI_lt (l := d.items) (n := n)
 refine AW.rS ?_
 refine AW.rSC ?_
 refine awOps.cons (awGuard.c1 (c_IndexFunc_Get _ d.items n) ?_)
 refine awOps.rn ?_
 refine AW.seq ?_
 refine AW.rS ?_
 refine AW.c2 ?_ ?_
 ·intro h7
  refine AW.rS ?_
  refine AW.rt ?_
  rw [look_miss h7] <;> rfl
 ·intro h7
  refine AW.skip ?_
  have hgb := ibulk_get (l := d.items) (i := (iidxI d.items n).toNat) (by omega)
  refine AW.rSC ?_
  refine awOps.cons (awGuard.c1 (c_docs_copied _ (d.items.getD (iidxI d.items n).toNat Itm.zero)) ?_)
  refine awOps.rn ?_
  refine AW.rt ?_
  rw [look_hit (by omega)] <;> rfl
end Go.Proofs

namespace Go.Proofs
open Go Aw
set_option linter.unusedSimpArgs false
set_option linter.unusedVariables false
set_option maxRecDepth 100000
set_option maxHeartbeats 1000000

end Go.Proofs

namespace Go.Proofs
open Go Aw
set_option linter.unusedSimpArgs false
set_option linter.unusedVariables false
set_option maxRecDepth 100000
set_option maxHeartbeats 1000000

end Go.Proofs


namespace Aw
open Go
theorem takeItm_succ {a b : List Itm} {i : Nat} (h : i < a.length) (hl : a.length = b.length) (he : a.take i = b.take i) (hg : a.getD i Itm.zero = b.getD i Itm.zero) : a.take (i + 1) = b.take (i + 1) := by
 rw [List.take_succ_eq_append_getElem h, List.take_succ_eq_append_getElem (hl ▸ h), he]
 simp only [List.getD, List.getElem?_eq_getElem h, List.getElem?_eq_getElem (hl ▸ h), Option.getD_some] at hg
 rw [hg]
theorem Dc_eq (a b : Dc) : a = b ↔ a.items = b.items ∧ a.trailer = b.trailer := by cases a; cases b; simp
instance dcDec : DecidableEq Dc := fun a b => decidable_of_iff (a.items = b.items ∧ a.trailer = b.trailer) (Dc_eq a b).symm
end Aw

namespace Go.Proofs
open Go Aw
set_option linter.unusedSimpArgs false
set_option linter.unusedVariables false
set_option maxRecDepth 100000
set_option maxHeartbeats 1000000

end Go.Proofs

namespace Aw
open Go
end Aw
namespace Aw
open Go
end Aw

namespace Go.Proofs
open Go Aw
set_option linter.unusedSimpArgs false
set_option linter.unusedVariables false
set_option maxRecDepth 100000
set_option maxHeartbeats 1000000

theorem c_foliantref05_Texts (gl : List (Nat × AV)) (a b : List (List UInt8)) (ha : a.length ≤ 16777216 := by first | omega | exact u8_le _ | assumption | (simp; done) | (simp; omega)) : FnP Tryz.prog (gl) 31 [.sl (strsAV a), .sl (strsAV b)] fun r => r = .ret (.bool (decide (a = b))) := by
 refine FnP.intro Tryz.func31 rfl rfl (by simp [Tryz.ntmps31]) ?_
 simp only [argEnv, Tryz.ntmps31, Tryz.results31]
 refine AW.rS ?_
 refine AW.seq ?_
 refine AW.rS ?_
 refine AW.c2 ?_ ?_
 ·intro h4
  refine AW.rS ?_
  refine AW.rt ?_
  rw [decide_eq_false (fun e => h4 (by rw [e]))]
 ·intro h4
  refine AW.skip ?_
  refine AW.seq ?_
  refine AW.rS ?_
  refine AW.block ?_
  refine AW.lk (S := { i : Nat // i ≤ a.length ∧ a.take i = b.take i }) [0, 1, 12] (fun s_ => [(13, .int .i64 s_.1)]) (fun s_ => []) 0 (fun s_ => a.length - s_.1) ⟨0, Nat.zero_le _, rfl⟩ ?_ ?_
  ·refine St.le.vw []
  rintro ⟨i, hi, hs⟩
  try dsimp only at hi
  try dsimp only at hs
  refine AW.rS ?_
  refine AW.seq ?_
  refine AW.c2 ?_ ?_
  ·intro h15
   refine AW.skip ?_
   refine AW.seq ?_
   refine AW.block ?_
   refine AW.rS ?_
   refine AW.dS [(0, 0), (1, 0), (2, 1), (3, 1), (4, 0), (5, 0), (6, 1), (7, 1), (8, 0)] ?_
   refine AW.c2 ?_ ?_
   ·intro h21
    refine AW.rS ?_
    refine AW.rt ?_
    rw [decide_eq_false (fun e => h21 (by rw [e]))]
   ·intro h21
    refine AW.skip ?_
    refine AW.rL ?_
    refine ⟨⟨i + 1, by omega, takeS_succ h15 (by omega) hs h21⟩, ?_, ?_⟩
    ·refine St.le.vw []
    ·simp only []; omega
  ·intro h15
   refine AW.exit ?_
   refine AW.rS ?_
   refine AW.rt ?_
   rw [List.take_of_length_le (by omega), List.take_of_length_le (by omega)] at hs
   simp [hs]
theorem rlist_step (gl : List (Nat × AV)) (N : Nat) (ih : ∀ x y : Pob, x.bulk < N → FnP Tryz.prog gl 10 [.agg x.cells, .agg y.cells] fun r => r = .ret (.bool (decide (x = y)))) (a b : List Pob) (ha : a.length ≤ 16777216) (hb : ∀ i, i < a.length → (a.getD i Pob.null).bulk < N) : FnP Tryz.prog (gl) 33 [.sl (objsAV a), .sl (objsAV b)] fun r => r = .ret (.bool (decide (a = b))) := by
 refine FnP.intro Tryz.func33 rfl rfl (by simp [Tryz.ntmps33]) ?_
 simp only [argEnv, Tryz.ntmps33, Tryz.results33]
 refine AW.rS ?_
 refine AW.seq ?_
 refine AW.rS ?_
 refine AW.c2 ?_ ?_
 ·intro h4
  refine AW.rS ?_
  refine AW.rt ?_
  rw [decide_eq_false (fun e => h4 (by rw [e]))]
 ·intro h4
  refine AW.skip ?_
  refine AW.seq ?_
  refine AW.rS ?_
  refine AW.block ?_
  refine AW.lk (S := { i : Nat // i ≤ a.length ∧ a.take i = b.take i }) [0, 1, 12] (fun s_ => [(13, .int .i64 s_.1)]) (fun s_ => []) 0 (fun s_ => a.length - s_.1) ⟨0, Nat.zero_le _, rfl⟩ ?_ ?_
  ·refine St.le.vw []
  rintro ⟨i, hi, hs⟩
  try dsimp only at hi
  try dsimp only at hs
  refine AW.rS ?_
  refine AW.seq ?_
  refine AW.c2 ?_ ?_
  ·intro h15
   refine AW.skip ?_
   refine AW.seq ?_
   refine AW.block ?_
   refine AW.rS ?_
   refine AW.dSC [(0, 0), (1, 0), (2, 0), (3, 1), (4, 0), (5, 0), (6, 0), (7, 1), (8, 2), (9, 0)] ?_
   refine awPlan.only rfl ?_
   refine awGuard.c1 (ih (a.getD i Pob.null) (b.getD i Pob.null) (hb i (by omega))) ?_
   refine awPlan.rn ?_
   refine AW.c2 ?_ ?_
   ·intro h23
    refine AW.rS ?_
    refine AW.rt ?_
    rw [decide_eq_false (fun e => h23 (by rw [e]))]
   ·intro h23
    refine AW.skip ?_
    refine AW.rL ?_
    refine ⟨⟨i + 1, by omega, takeO_succ h15 (by omega) hs h23⟩, ?_, ?_⟩
    ·refine St.le.vw []
    ·simp only []; omega
  ·intro h15
   refine AW.exit ?_
   refine AW.rS ?_
   refine AW.rt ?_
   rw [List.take_of_length_le (by omega), List.take_of_length_le (by omega)] at hs
   simp [hs]
theorem rsame_step (gl : List (Nat × AV)) (N : Nat) (hN : N ≤ 16777216) (ih : ∀ x y : Pob, x.bulk < N → FnP Tryz.prog gl 10 [.agg x.cells, .agg y.cells] fun r => r = .ret (.bool (decide (x = y)))) (a b : Pob) (ha : a.bulk ≤ N) : FnP Tryz.prog (gl) 10 [.agg a.cells, .agg b.cells] fun r => r = .ret (.bool (decide (a = b))) := by
 refine FnP.intro Tryz.func10 rfl rfl (by simp [Tryz.ntmps10]) ?_
 simp only [argEnv, Tryz.ntmps10, Tryz.results10]
 have hbulk := Pob.bulk_eq a
 refine AW.rS ?_
 refine AW.rSC ?_
 refine awOps.cons (awGuard.cG (fun hg => c_foliantref05_Texts _ a.keys b.keys (by omega)) ?_)
 refine awOps.rn ?_
 refine awOps.cons (awGuard.cG (fun hg => rlist_step _ N ih a.kids b.kids (by omega) (fun i hi => Nat.lt_of_lt_of_le (Pob.bulk_kid hi) ha)) ?_)
 refine awOps.rn ?_
 refine AW.rt ?_
 rw [show ∀ x y : Bool, x = y → AE.ret (.bool x) = AE.ret (.bool y) from fun _ _ h => by rw [h]]
 rw [Bool.eq_iff_iff]
 simp only [decide_eq_true_eq, Bool.cond_false_right, Bool.and_eq_true, Pob_eq a b, and_assoc]
theorem rsame_all (gl : List (Nat × AV)) (N : Nat) : N ≤ 16777216 → ∀ x y : Pob, x.bulk ≤ N → FnP Tryz.prog gl 10 [.agg x.cells, .agg y.cells] fun r => r = .ret (.bool (decide (x = y))) := by
 induction N using Nat.strongRecOn with
 | ind N IH => exact fun hN x y hx => rsame_step gl N hN (fun x' y' h => IH x'.bulk h (by omega) x' y' (Nat.le_refl _)) x y hx
theorem c_foliantref05_Same (gl : List (Nat × AV)) (x y : Pob) (h : x.bulk ≤ 16777216 := by first | assumption | omega) : FnP Tryz.prog gl 10 [.agg x.cells, .agg y.cells] fun r => r = .ret (.bool (decide (x = y))) := rsame_all gl 16777216 (Nat.le_refl _) x y h
theorem size_step (gl : List (Nat × AV)) (N : Nat) (hN : N ≤ 16777216) (ih : ∀ o' : Pob, o'.bulk < N → o'.psize ≤ 4611686018427387904 → FnP Tryz.prog gl 8 [.agg o'.cells] fun r => r = .ret (.int .i64 o'.psize)) (o : Pob) (ho : o.bulk ≤ N) (hp : o.psize ≤ 4611686018427387904) : FnP Tryz.prog (gl) 8 [.agg o.cells] fun r => r = .ret (.int .i64 o.psize) := by
 refine FnP.intro Tryz.func8 rfl rfl (by simp [Tryz.ntmps8]) ?_
 simp only [argEnv, Tryz.ntmps8, Tryz.results8]
 have hb := Pob.bulk_eq o
 have hpe := Pob.psize_eq o
 have hk0 := ksize_nil
 have hp0 := psizes_nil
 refine AW.rS ?_
 refine AW.rS ?_
 refine AW.seq ?_
 refine AW.rS ?_
 refine AW.block ?_
 refine AW.lk (S := { i : Nat // i ≤ o.keys.length }) [1, 14, 15] (fun s_ => [(3, .int .i64 ((1 + o.str.length / 50 + ksize (o.keys.take s_.1) : Nat) : Int)), (16, .int .i64 s_.1)]) (fun s_ => [(0, .cells o.cells)]) 1 (fun s_ => o.keys.length - s_.1) ⟨0, Nat.zero_le _⟩ ?_ ?_
 ·refine St.le.vw [0]
 rintro ⟨i, hi⟩
 try dsimp only at hi
 refine AW.rS ?_
 refine AW.seq ?_
 refine AW.c2 ?_ ?_
 ·intro h9
  have h1 := ksize_take h9
  have h2 := ksize_take_le o.keys (i + 1)
  refine AW.skip ?_
  refine AW.seq ?_
  refine AW.block ?_
  refine AW.rS ?_
  refine AW.rL ?_
  refine AW.rL ?_
  refine ⟨⟨i + 1, by omega⟩, ?_, ?_⟩
  ·refine St.le.vw [0]
  ·simp only []; omega
 ·intro h9
  refine AW.exit ?_
  obtain rfl : i = o.keys.length := by omega
  rw [List.take_length]
  refine AW.seq ?_
  refine AW.rS ?_
  refine AW.block ?_
  refine AW.lk (S := { i : Nat // i ≤ o.kids.length }) [27, 28] (fun s_ => [(3, .int .i64 ((1 + o.str.length / 50 + ksize o.keys + psizes (o.kids.take s_.1) : Nat) : Int)), (29, .int .i64 s_.1)]) (fun s_ => [(0, .cells o.cells)]) 1 (fun s_ => o.kids.length - s_.1) ⟨0, Nat.zero_le _⟩ ?_ ?_
  ·refine St.le.vw [0]
  rintro ⟨j, hj⟩
  try dsimp only at hj
  refine AW.rS ?_
  refine AW.seq ?_
  refine AW.c2 ?_ ?_
  ·intro h24
   have h1 := psizes_take h24
   have h2 := psizes_take_le o.kids (j + 1)
   have h3 := psizes_get h24
   refine AW.skip ?_
   refine AW.seq ?_
   refine AW.block ?_
   refine AW.rS ?_
   refine AW.rLC ?_
   refine awOps.cons (awGuard.c1 (ih (o.kids.getD j Pob.null) (Nat.lt_of_lt_of_le (Pob.bulk_kid (by omega)) ho) (by omega)) ?_)
   refine awOps.rn ?_
   refine AW.rL ?_
   refine ⟨⟨j + 1, by omega⟩, ?_, ?_⟩
   ·refine St.le.vw [0]
   ·simp only []; omega
  ·intro h24
   refine AW.exit ?_
   refine AW.rS ?_
   refine AW.rt ?_
   obtain rfl : j = o.kids.length := by omega
   rw [List.take_length, hpe]
theorem size_all (gl : List (Nat × AV)) (N : Nat) : N ≤ 16777216 → ∀ o : Pob, o.bulk ≤ N → o.psize ≤ 4611686018427387904 → FnP Tryz.prog gl 8 [.agg o.cells] fun r => r = .ret (.int .i64 o.psize) := by
 induction N using Nat.strongRecOn with
 | ind N IH => exact fun hN x hx hp => size_step gl N hN (fun x' h hp' => IH x'.bulk h (by omega) x' (Nat.le_refl _) hp') x hx hp
theorem c_foliantref05_Size (gl : List (Nat × AV)) (o : Pob) (h : o.bulk ≤ 16777216) (hp : o.psize ≤ 4611686018427387904) : FnP Tryz.prog gl 8 [.agg o.cells] fun r => r = .ret (.int .i64 o.psize) := size_all gl 16777216 (Nat.le_refl _) o h hp
end Go.Proofs

namespace Go.Proofs
open Go Aw
set_option linter.unusedSimpArgs false
set_option linter.unusedVariables false
set_option maxRecDepth 100000
set_option maxHeartbeats 1000000

theorem c_foliantref19_SameItem (gl : List (Nat × AV)) (a b : Itm) (h : a.obj.bulk ≤ 16777216 := by first | omega | exact u8_le _ | assumption | (simp; done) | (simp; omega)) : FnP Tryz.prog (gl) 73 [.agg a.cells, .agg b.cells] fun r => r = .ret (.bool (decide (a = b))) := by
 refine FnP.intro Tryz.func73 rfl rfl (by simp [Tryz.ntmps73]) ?_
 simp only [argEnv, Tryz.ntmps73, Tryz.results73]
 refine AW.rS ?_
 refine AW.rSC ?_
 refine awOps.cons (awGuard.cG (fun hg => c_foliantref05_Same _ a.obj b.obj) ?_)
 refine awOps.rn ?_
 refine AW.rt ?_
 rw [show ∀ x y : Bool, x = y → AE.ret (.bool x) = AE.ret (.bool y) from fun _ _ h => by rw [h]]
 rw [Bool.eq_iff_iff]
 simp only [decide_eq_true_eq, Bool.cond_false_right, Bool.and_eq_true, Itm_eq a b, and_assoc]
theorem c_foliantref19_Size (gl : List (Nat × AV)) (d : Dc) (h : d.bulk ≤ 16777216) (hp : d.size ≤ 4611686018427387904) : FnP Tryz.prog (gl) 40 [.agg d.cells] fun r => r = .ret (.int .i64 d.size) := by
 refine FnP.intro Tryz.func40 rfl rfl (by simp [Tryz.ntmps40]) ?_
 simp only [argEnv, Tryz.ntmps40, Tryz.results40]
 have hlen := ibulk_len d.items
 have hdb : d.bulk = ibulk d.items + d.trailer.bulk := rfl
 have hds : d.size = d.trailer.psize + isize d.items := rfl
 have hk0 := isize_nil
 refine AW.rS ?_
 refine AW.rSC ?_
 refine awOps.cons (awGuard.c1 (c_foliantref05_Size _ d.trailer (by omega) (by omega)) ?_)
 refine awOps.rn ?_
 refine AW.seq ?_
 refine AW.rS ?_
 refine AW.block ?_
 refine AW.lk (S := { i : Nat // i ≤ d.items.length }) [10, 11] (fun s_ => [(3, .int .i64 ((d.trailer.psize + isize (d.items.take s_.1) : Nat) : Int)), (12, .int .i64 s_.1)]) (fun s_ => [(0, .cells d.cells)]) 1 (fun s_ => d.items.length - s_.1) ⟨0, Nat.zero_le _⟩ ?_ ?_
 ·refine St.le.vw [0]
 rintro ⟨i, hi⟩
 try dsimp only at hi
 refine AW.rS ?_
 refine AW.seq ?_
 refine AW.c2 ?_ ?_
 ·intro h11
  have h1 := isize_take h11
  have h2 := isize_take_le d.items (i + 1)
  have hgb := ibulk_get (l := d.items) (i := i) (by omega)
  refine AW.skip ?_
  refine AW.seq ?_
  refine AW.block ?_
  refine AW.rS ?_
  refine AW.rLC ?_
  refine awOps.cons (awGuard.c1 (c_foliantref05_Size _ (d.items.getD i Itm.zero).obj (by omega) (by omega)) ?_)
  refine awOps.rn ?_
  refine AW.rL ?_
  refine ⟨⟨i + 1, by omega⟩, ?_, ?_⟩
  ·refine St.le.vw [0]
  ·simp only []; omega
 ·intro h11
  refine AW.exit ?_
  refine AW.rS ?_
  refine AW.rt ?_
  obtain rfl : i = d.items.length := by omega
  rw [List.take_length, hds]
end Go.Proofs

namespace Aw
open Go
mutual
def Pob.pre : Pob → List Pob
 | .mk k n g s ks l => .mk k n g s ks l :: pres l
def pres : List Pob → List Pob
 | [] => []
 | o :: l => o.pre ++ pres l
end
theorem pres_nil : pres [] = [] := by simp only [pres]
theorem Pob.pre_eq (o : Pob) : o.pre = o :: pres o.kids := by cases o; simp only [Pob.pre, Pob.kids]
theorem pres_append (a b : List Pob) : pres (a ++ b) = pres a ++ pres b := by
 induction a with
 | nil => simp [pres]
 | cons x a ih => simp only [List.cons_append, pres, ih, List.append_assoc]
theorem pres_take {l : List Pob} {i : Nat} (h : i < l.length) : pres (l.take (i + 1)) = pres (l.take i) ++ (l.getD i Pob.null).pre := by
 rw [List.take_succ_eq_append_getElem h, pres_append]
 simp [pres, List.getD, h]
attribute [irreducible] Pob.pre pres
end Aw

namespace Aw
open Go
/-- the key 'k' lies in the object with the value 'v' -/
def Pob.has (o : Pob) (k : List UInt8) (v : Pob) : Prop := ∃ i, i < o.keys.length ∧ o.keys.getD i [] = k ∧ o.kids.getD i Pob.null = v
/-- keys that increase, each with its value -/
def Pob.kvOk (o : Pob) : Prop := incr o.keys ∧ o.keys.length = o.kids.length
theorem incr_inj {ks : List (List UInt8)} (hs : incr ks) {i j : Nat} (hi : i < ks.length) (hj : j < ks.length) (h : ks.getD i [] = ks.getD j []) : i = j := by
 rcases Nat.lt_trichotomy i j with g | g | g
 ·have := hs i j g hj; rw [h, bl_irrefl] at this; cases this
 ·exact g
 ·have := hs j i g hi; rw [h, bl_irrefl] at this; cases this
theorem kthere_at {ks : List (List UInt8)} {key : List UInt8} (h : kthere ks key = true) : ks.getD (kplace ks key) [] = key := by
 simp only [kthere, Bool.and_eq_true, decide_eq_true_eq] at h; exact h.2
theorem kthere_iff {ks : List (List UInt8)} {key : List UInt8} (hs : incr ks) : kthere ks key = true ↔ ∃ i, i < ks.length ∧ ks.getD i [] = key := by
 constructor
 ·intro h; exact ⟨_, kthere_lt h, kthere_at h⟩
 ·rintro ⟨i, hi, rfl⟩
  have e : kplace ks (ks.getD i []) = i := kplace_eq (Nat.le_of_lt hi) (fun a ha => hs a i ha hi) (fun _ => bl_irrefl _)
  rw [kthere_eq e]
  simp [hi]
theorem kvOk_of_chk {o : Pob} {d : Int} (h : chk o d = 0) (hk : keyedB o.kind = true) : o.kvOk := ⟨rising_incr (chk_rising h hk), (chk_rising h hk).1⟩
theorem getD_delAt' {α : Type} {l : List α} {i j : Nat} {d : α} : (delAt l i).getD j d = if j < i then l.getD j d else l.getD (j + 1) d := by
 simp only [delAt, List.getD, List.getElem?_append, List.getElem?_take, List.length_take, List.getElem?_drop]
 grind
theorem has_lessK {o : Pob} (hs : o.kvOk) {key : List UInt8} (h : kthere o.keys key = true) {k : List UInt8} {w : Pob} : (o.lessK (kplace o.keys key)).has k w ↔ k ≠ key ∧ o.has k w := by
 have hl := kthere_lt h
 have hat := kthere_at h
 simp only [Pob.has, Pob.lessK, Pob.keys_mk, Pob.kids_mk, delAt_length hl]
 constructor
 ·rintro ⟨i, hi, rfl, rfl⟩
  rw [getD_delAt', getD_delAt']
  by_cases e : i < kplace o.keys key
  ·rw [if_pos e, if_pos e]
   refine ⟨fun e2 => ?_, i, by omega, rfl, rfl⟩
   have := incr_inj hs.1 (by omega) hl (e2.trans hat.symm)
   omega
  ·rw [if_neg e, if_neg e]
   refine ⟨fun e2 => ?_, i + 1, by omega, rfl, rfl⟩
   have := incr_inj hs.1 (by omega) hl (e2.trans hat.symm)
   omega
 ·rintro ⟨hne, i, hi, rfl, rfl⟩
  have hne' : i ≠ kplace o.keys key := by rintro rfl; exact hne hat
  by_cases e : i < kplace o.keys key
  ·refine ⟨i, by omega, ?_, ?_⟩
   ·rw [getD_delAt', if_pos e]
   ·rw [getD_delAt', if_pos e]
  ·refine ⟨i - 1, by omega, ?_, ?_⟩
   ·rw [getD_delAt', if_neg (by omega), show i - 1 + 1 = i from by omega]
   ·rw [getD_delAt', if_neg (by omega), show i - 1 + 1 = i from by omega]
theorem lessK_kvOk {o : Pob} (hs : o.kvOk) {i : Nat} (h : i < o.keys.length) : (o.lessK i).kvOk := by
 constructor
 ·intro a b hab hb
  simp only [Pob.lessK, Pob.keys_mk] at hb ⊢
  rw [delAt_length h] at hb
  rw [getD_delAt', getD_delAt']
  split <;> split
  ·exact hs.1 a b hab (by omega)
  ·exact hs.1 a (b + 1) (by omega) (by omega)
  ·omega
  ·exact hs.1 (a + 1) (b + 1) (by omega) (by omega)
 ·simp only [Pob.lessK, Pob.keys_mk, Pob.kids_mk]
  rw [delAt_length h, delAt_length (by have := hs.2; omega), hs.2]
theorem kidxI_cases (ks : List (List UInt8)) (k : List UInt8) : (∃ i : Nat, i < ks.length ∧ kidxI ks k = i ∧ ks.getD i [] = k) ∨ (kidxI ks k = -1 ∧ ∀ j, j < ks.length → ks.getD j [] ≠ k) := by
 by_cases h : kidx ks k < ks.length
 ·left
  refine ⟨kidx ks k, h, by simp [kidxI, h], ?_⟩
  have h2 : decide (ks[kidx ks k] = k) = true := List.findIdx_getElem (p := fun x => decide (x = k)) (w := h)
  simpa [List.getD, h] using h2
 ·right
  refine ⟨by simp [kidxI, h], fun j hj e => h ?_⟩
  unfold kidx
  rw [List.findIdx_lt_length]
  refine ⟨ks[j], List.getElem_mem hj, ?_⟩
  simpa [List.getD, hj] using e
theorem get_has {o : Pob} (hs : o.kvOk) (hk : keyedB o.kind = true) {k : List UInt8} {v : Pob} : (getB o k = true ∧ getO o k = v) ↔ o.has k v := by
 rcases kidxI_cases o.keys k with ⟨i, hi, e, e2⟩ | ⟨e, h⟩
 ·have hg := get_hit (o := o) (key := k) hk (by rw [e]; have := hs.2; omega)
  rw [hg.1, hg.2, e]
  simp only [true_and, Int.toNat_natCast]
  constructor
  ·intro h; exact ⟨i, hi, e2, h⟩
  ·rintro ⟨j, hj, e3, rfl⟩
   rw [incr_inj hs.1 hi hj (e2.trans e3.symm)]
 ·have hg := get_miss (o := o) (key := k) (.inl (by omega))
  rw [hg.1]
  simp only [Bool.false_eq_true, false_and, false_iff]
  rintro ⟨j, hj, e3, _⟩
  exact h j hj e3
theorem get_no {o : Pob} (hs : o.kvOk) (hk : keyedB o.kind = true) {k : List UInt8} (h : ∀ v, ¬ o.has k v) : getB o k = false ∧ getO o k = Pob.null := by
 cases hb : getB o k with
 | true => exact absurd ((get_has hs hk).1 ⟨hb, rfl⟩) (h _)
 | false => exact ⟨rfl, by simp [getO, hb]⟩
theorem get_congr {a b : Pob} (ha : a.kvOk) (hb : b.kvOk) (ka : keyedB a.kind = true) (kb : keyedB b.kind = true) {k : List UInt8} (h : ∀ v, a.has k v ↔ b.has k v) : getB a k = getB b k ∧ getO a k = getO b k := by
 cases hg : getB b k with
 | true =>
  have := (get_has ha ka).2 ((h _).2 ((get_has hb kb).1 ⟨hg, rfl⟩))
  exact this
 | false =>
  have hn : getO b k = Pob.null := by simp [getO, hg]
  rw [hn]
  refine get_no ha ka fun v hv => ?_
  have := (get_has hb kb).2 ((h v).1 hv)
  rw [hg] at this
  cases this.1
theorem dropO_frame (o : Pob) (key : List UInt8) : (dropO o key).kind = o.kind ∧ (dropO o key).num = o.num ∧ (dropO o key).gen = o.gen ∧ (dropO o key).str = o.str := by
 unfold dropO
 split <;> exact ⟨rfl, rfl, rfl, rfl⟩
theorem dropO_has {o : Pob} {key : List UInt8} (h : chk o 1 = 0) (hk : keyedB o.kind = true) : (dropO o key).kvOk ∧ ∀ k v, (dropO o key).has k v ↔ k ≠ key ∧ o.has k v := by
 have hs := kvOk_of_chk h hk
 cases ht : kthere o.keys key with
 | true =>
  rw [dropO_yes (by simp [dropB, h, hk, ht])]
  exact ⟨lessK_kvOk hs (kthere_lt ht), fun k v => has_lessK hs ht⟩
 | false =>
  rw [dropO_no (by simp [dropB, ht])]
  refine ⟨hs, fun k v => ⟨fun hv => ⟨?_, hv⟩, fun hv => hv.2⟩⟩
  rintro rfl
  obtain ⟨i, hi, e, _⟩ := hv
  have := (kthere_iff hs.1).2 ⟨i, hi, e⟩
  rw [ht] at this; cases this
theorem chkL_iff {l : List Pob} {d : Int} : chkL l d = 0 ↔ ∀ x ∈ l, chk x d = 0 := by
 induction l with
 | nil => simp [chkL]
 | cons o l ih =>
  simp only [chkL, List.mem_cons]
  constructor
  ·intro h
   split at h
   ·rename_i h1
    rintro x (rfl | hx)
    ·exact h1
    ·exact ih.1 h x hx
   ·rename_i h1; exact absurd h h1
  ·intro h
   rw [if_pos (h o (.inl rfl))]
   exact ih.2 fun x hx => h x (.inr hx)
theorem chk_iff {o : Pob} {d : Int} : chk o d = 0 ↔ ownE o d = 0 ∧ ∀ x ∈ o.kids, chk x (d + 1) = 0 := by
 rw [chk_eq]
 constructor
 ·intro h
  split at h
  ·rename_i h1; exact ⟨h1, chkL_iff.1 h⟩
  ·rename_i h1; exact absurd h h1
 ·rintro ⟨h1, h2⟩
  rw [if_pos h1, chkL_iff.2 h2]
theorem ownE_iff {o : Pob} {d : Int} : ownE o d = 0 ↔ d ≤ 24 ∧ useB o d = true ∧ fitsB o = true ∧ shortB o = true ∧ (o.kids.length : Int) ≤ 8191 ∧ formB o = true := by
 refine ⟨ownE_spec, fun ⟨h1, h2, h3, h4, h5, h6⟩ => ?_⟩
 unfold ownE
 simp [h1, h2, h3, h4, h5, h6]
end Aw

namespace Aw
open Go
theorem rising_iff {o : Pob} : risingP o ↔ o.kvOk ∧ ∀ k v, o.has k v → nameB k = true ∧ ¬ (o.kind = 9 ∧ k = lengthK) ∧ v.kind ≠ 0 := by
 constructor
 ·intro h
  refine ⟨⟨rising_incr h, h.1⟩, ?_⟩
  rintro k v ⟨i, hi, rfl, rfl⟩
  have := h.2 i hi
  exact ⟨this.1, this.2.2.1, this.2.2.2⟩
 ·rintro ⟨h1, h2⟩
  refine ⟨h1.2, fun i hi => ?_⟩
  have := h2 _ _ ⟨i, hi, rfl, rfl⟩
  exact ⟨this.1, fun h0 => h1.1 (i - 1) i (by omega) hi, this.2.1, this.2.2⟩
theorem has_kid {o : Pob} (hs : o.kvOk) {x : Pob} : x ∈ o.kids ↔ ∃ k, o.has k x := by
 constructor
 ·intro h
  obtain ⟨i, hi, rfl⟩ := List.getElem_of_mem h
  exact ⟨o.keys.getD i [], i, by have := hs.2; omega, rfl, by simp [List.getD, hi]⟩
 ·rintro ⟨k, i, hi, _, rfl⟩
  have hi' : i < o.kids.length := by have := hs.2; omega
  simp only [List.getD, List.getElem?_eq_getElem hi', Option.getD_some]
  exact List.getElem_mem hi'
theorem keyed_cases {k : Int} (h : keyedB k = true) : k = 7 ∨ k = 9 := by simpa [keyedB] using h
theorem useB_keyed {o : Pob} (hk : keyedB o.kind = true) {d : Int} : useB o d = true ↔ o.num = 0 ∧ o.gen = 0 ∧ (o.kind = 9 ∨ o.str = []) ∧ (d = 1 ∨ o.kind = 7) := by
 rcases keyed_cases hk with h | h <;> simp [useB, uOk, uN, uG, uS, uKeys, uKids, h] <;> grind
theorem formB_keyed {o : Pob} (hk : keyedB o.kind = true) : formB o = true ↔ risingP o := by
 rcases keyed_cases hk with h | h <;> simp [formB, uKeys, h, risingB]
theorem fitsB_keyed {o : Pob} (hk : keyedB o.kind = true) : fitsB o = true := by
 rcases keyed_cases hk with h | h <;> simp [fitsB, h]
theorem shortB_keyed {o : Pob} (hk : keyedB o.kind = true) : shortB o = true ↔ (o.str.length : Int) ≤ 1048576 := by
 rcases keyed_cases hk with h | h <;> simp [shortB, h]
theorem chk_keyed {o : Pob} (hk : keyedB o.kind = true) {d : Int} : chk o d = 0 ↔ (d ≤ 24 ∧ o.num = 0 ∧ o.gen = 0 ∧ (o.kind = 9 ∨ o.str = []) ∧ (d = 1 ∨ o.kind = 7) ∧ (o.str.length : Int) ≤ 1048576 ∧ (o.kids.length : Int) ≤ 8191) ∧ o.kvOk ∧
  ∀ k v, o.has k v → nameB k = true ∧ ¬ (o.kind = 9 ∧ k = lengthK) ∧ v.kind ≠ 0 ∧ chk v (d + 1) = 0 := by
 rw [chk_iff, ownE_iff, useB_keyed hk, formB_keyed hk, shortB_keyed hk, rising_iff]
 constructor
 ·rintro ⟨⟨h1, ⟨h2, h3, h4, h5⟩, _, h6, h7, hs, h8⟩, h9⟩
  refine ⟨⟨h1, h2, h3, h4, h5, h6, h7⟩, hs, fun k v hv => ?_⟩
  obtain ⟨g1, g2, g3⟩ := h8 k v hv
  exact ⟨g1, g2, g3, h9 v ((has_kid hs).2 ⟨k, hv⟩)⟩
 ·rintro ⟨⟨h1, h2, h3, h4, h5, h6, h7⟩, hs, h8⟩
  refine ⟨⟨h1, ⟨h2, h3, h4, h5⟩, fitsB_keyed hk, h6, h7, hs, fun k v hv => ?_⟩, fun v hv => ?_⟩
  ·obtain ⟨g1, g2, g3, _⟩ := h8 k v hv
   exact ⟨g1, g2, g3⟩
  ·obtain ⟨k, hk'⟩ := (has_kid hs).1 hv
   exact (h8 k v hk').2.2.2
theorem dropO_len (o : Pob) (key : List UInt8) : (dropO o key).kids.length ≤ o.kids.length := by
 unfold dropO
 split
 ·simp only [Pob.lessK, Pob.kids_mk, delAt, List.length_append, List.length_take, List.length_drop]; omega
 ·exact Nat.le_refl _
theorem dropO_chk {o : Pob} {key : List UInt8} (h : chk o 1 = 0) (hk : keyedB o.kind = true) : chk (dropO o key) 1 = 0 := by
 obtain ⟨f1, f2, f3, f4⟩ := dropO_frame o key
 obtain ⟨hs, hh⟩ := dropO_has (key := key) h hk
 have hk' : keyedB (dropO o key).kind = true := by rw [f1]; exact hk
 have hl := dropO_len o key
 obtain ⟨⟨h1, h2, h3, h4, h5, h6, h7⟩, _, h8⟩ := (chk_keyed hk).1 h
 rw [chk_keyed hk', f1, f2, f3, f4]
 refine ⟨⟨h1, h2, h3, h4, h5, h6, by omega⟩, hs, fun k v hv => ?_⟩
 exact h8 k v ((hh k v).1 hv).2
end Aw

namespace Aw
open Go
def refB (o : Pob) : Bool := decide (o.kind = 8) && (decide (1 ≤ o.num) && decide (o.num ≤ 8191))
def refStp (s : List Int) (o : Pob) : List Int := if refB o = true then setAdd s o.num else s
def sortI (s : List Int) : List Int := s.mergeSort fun x y => decide (x ≤ y)
/-- value.Refs -/
def refsO (o : Pob) : List Int := sortI (o.pre.foldl refStp [])
theorem sortI_pairwise (s : List Int) : (sortI s).Pairwise (· ≤ ·) := by
 have := List.pairwise_mergeSort (le := fun x y : Int => decide (x ≤ y)) (fun a b c h1 h2 => by simp only [decide_eq_true_eq] at h1 h2 ⊢; omega) (fun a b => by simp only [Bool.or_eq_true, decide_eq_true_eq]; omega) s
 exact this.imp fun h => by simpa using h
/-- lists that increase and have the same members are the same -/
theorem lt_ext : ∀ {a b : List Int}, a.Pairwise (· < ·) → b.Pairwise (· < ·) → (∀ n, n ∈ a ↔ n ∈ b) → a = b
 | [], [], _, _, _ => rfl
 | [], y :: b, _, _, h => by have := (h y).2 (by simp); simp at this
 | x :: a, [], _, _, h => by have := (h x).1 (by simp); simp at this
 | x :: a, y :: b, ha, hb, h => by
  rw [List.pairwise_cons] at ha hb
  have hxy : x = y := by
   have h1 := (h x).1 (by simp)
   have h2 := (h y).2 (by simp)
   rcases List.mem_cons.1 h1 with g | g
   ·exact g
   ·rcases List.mem_cons.1 h2 with g' | g'
    ·exact g'.symm
    ·have := hb.1 x g; have := ha.1 y g'; omega
  subst hxy
  congr 1
  refine lt_ext ha.2 hb.2 fun n => ?_
  have h1 := h n
  simp only [List.mem_cons] at h1
  constructor
  ·intro g
   rcases h1.1 (.inr g) with rfl | g'
   ·have := ha.1 n g; omega
   ·exact g'
  ·intro g
   rcases h1.2 (.inr g) with rfl | g'
   ·have := hb.1 n g; omega
   ·exact g'
end Aw

namespace Aw
open Go
abbrev KI : Int → AV := fun n => .int .i64 n
def VI (i : Itm) : AV := .agg i.cells
def netL (l : List Itm) : List (Int × Itm) := l.map fun i => (i.num, i)
/-- the item that a reference names, and whether it is there -/
def leadI (l : List Itm) (r : Pob) : Itm := (mfind (netL l) r.num).getD Itm.zero
def leadB (l : List Itm) (r : Pob) : Bool := (mfind (netL l) r.num).isSome && decide ((leadI l r).gen = r.gen)
theorem netL_nil : netL [] = [] := rfl
theorem netL_take {l : List Itm} {k : Nat} (h : k < l.length) : netL (l.take (k + 1)) = netL (l.take k) ++ [((l.getD k Itm.zero).num, l.getD k Itm.zero)] := by
 simp only [netL, List.map_take]
 rw [List.take_add_one (l := l.map _)]
 simp [h, List.getD]
theorem netL_new {l : List Itm} {k : Nat} (hs : incrN l) (h : k < l.length) : mset (netL (l.take k)) (l.getD k Itm.zero).num (l.getD k Itm.zero) = netL (l.take (k + 1)) := by
 rw [netL_take h]
 apply mset_new
 intro hm
 simp only [netL, List.map_map, List.mem_map, Function.comp] at hm
 obtain ⟨x, hx, e⟩ := hm
 obtain ⟨j, hj, rfl⟩ := List.mem_iff_getElem.1 hx
 have hj' : j < k := by simp at hj; omega
 have := hs j k hj' h
 simp only [List.getElem_take] at e
 rw [List.getD_eq_getElem?_getD, List.getElem?_eq_getElem (by omega)] at this
 simp only [Option.getD_some] at this
 omega
theorem zero_itm : ∀ m : Mem, Rep m 1 (VI Itm.zero) (.agg #[.int .i64 0, .int .i64 0, .int .i64 0, .int .i64 0, .int .i64 0, .string ⟨#[]⟩, .slice none 0 0, .slice none 0 0]) := by
 intro m
 simp only [VI, Itm.cells, Rep, RepL]
 exact ⟨_, rfl, _, _, rfl, rfl, _, _, rfl, rfl, _, _, rfl, rfl, _, _, rfl, rfl, _, _, rfl, rfl, _, _, rfl, rfl, _, _, rfl, .inl ⟨rfl, none, 0, rfl⟩, _, _, rfl, .inl ⟨rfl, none, 0, rfl⟩, rfl⟩
end Aw

namespace Aw
open Go
section
variable {S α : Type} (stp : S → α → S × Bool)
def runL : S → List α → S × Bool
 | s, [] => (s, false)
 | s, x :: l => if (stp s x).2 then ((stp s x).1, true) else runL (stp s x).1 l
theorem runL_append (s : S) (a b : List α) : runL stp s (a ++ b) = if (runL stp s a).2 then ((runL stp s a).1, true) else runL stp (runL stp s a).1 b := by
 induction a generalizing s with
 | nil => simp [runL]
 | cons x a ih =>
  simp only [List.cons_append, runL]
  by_cases h : (stp s x).2 = true
  ·simp only [if_pos h, if_true]
  ·simp only [if_neg h]
   exact ih _
theorem runL_inv {I : S → Prop} (hI : ∀ s x, I s → I (stp s x).1) : ∀ (l : List α) (s : S), I s → I (runL stp s l).1
 | [], s, h => h
 | x :: l, s, h => by
  simp only [runL]
  split
  ·exact hI s x h
  ·exact runL_inv hI l _ (hI s x h)
end
/-- the visit of a reference; others are passed by -/
def refW {S : Type} (stp : S → Pob → S × Bool) (s : S) (o : Pob) : S × Bool := if o.kind = 8 then stp s o else (s, false)
def walkR {S : Type} (stp : S → Pob → S × Bool) (s : S) (l : List Pob) : S × Bool := runL (refW stp) s l
section
variable {S : Type} {stp : S → Pob → S × Bool}
theorem walkR_nil (s : S) : walkR stp s [] = (s, false) := rfl
theorem walkR_stop {s : S} {o : Pob} {l : List Pob} (hk : o.kind = 8) (h : (stp s o).2 = true) : walkR stp s (o :: l) = ((stp s o).1, true) := by
 simp [walkR, runL, refW, hk, h]
theorem walkR_go {s : S} {o : Pob} {l : List Pob} (hk : o.kind = 8) (h : (stp s o).2 = false) : walkR stp s (o :: l) = walkR stp (stp s o).1 l := by
 simp [walkR, runL, refW, hk, h]
theorem walkR_no {s : S} {o : Pob} {l : List Pob} (hk : ¬ o.kind = 8) : walkR stp s (o :: l) = walkR stp s l := by
 simp [walkR, runL, refW, hk]
theorem walkR_app (s : S) (a b : List Pob) : walkR stp s (a ++ b) = if (walkR stp s a).2 then ((walkR stp s a).1, true) else walkR stp (walkR stp s a).1 b := runL_append _ s a b
theorem walkR_inv {I : S → Prop} (hI : ∀ s x, I s → I (stp s x).1) (l : List Pob) (s : S) (h : I s) : I (walkR stp s l).1 :=
 runL_inv (refW stp) (fun s x h => by unfold refW; split; exact hI s x h; exact h) l s h
theorem walkR_kid {s : S} {l : List Pob} {i : Nat} (hi : i < l.length) (hg : (walkR stp s (pres (l.take i))).2 = false) (hh : (walkR stp (walkR stp s (pres (l.take i))).1 (l.getD i Pob.null).pre).2 = true) :
  walkR stp s (pres l) = ((walkR stp (walkR stp s (pres (l.take i))).1 (l.getD i Pob.null).pre).1, true) := by
 have e : pres l = (pres (l.take i) ++ (l.getD i Pob.null).pre) ++ pres (l.drop (i + 1)) := by
  rw [← pres_take hi, ← pres_append, List.take_append_drop]
 rw [e, walkR_app, walkR_app]
 simp only [hg, Bool.false_eq_true, if_false, hh, if_true]
theorem walkR_more {s : S} {l : List Pob} {i : Nat} (hi : i < l.length) (hg : (walkR stp s (pres (l.take i))).2 = false) (hh : (walkR stp (walkR stp s (pres (l.take i))).1 (l.getD i Pob.null).pre).2 = false) :
  walkR stp s (pres (l.take (i + 1))) = ((walkR stp (walkR stp s (pres (l.take i))).1 (l.getD i Pob.null).pre).1, false) := by
 rw [pres_take hi, walkR_app]
 simp only [hg, Bool.false_eq_true, if_false]
 rw [← hh]
end
/-- the trailer and the objects of all items, by number -/
def allL (d : Dc) : List (Int × Pob) := (0, d.trailer) :: d.items.map fun i => (i.num, i.obj)
theorem le_sum_mem : ∀ {l : List Nat} {x : Nat}, x ∈ l → x ≤ l.sum
 | [], _, h => by cases h
 | y :: l, x, h => by
  rw [List.sum_cons]
  rcases List.mem_cons.1 h with rfl | h
  ·omega
  ·have := le_sum_mem h; omega
theorem allL_bulk {d : Dc} {n : Int} {o : Pob} (hm : (n, o) ∈ allL d) {k : Nat} (h : d.bulk ≤ k) : o.bulk ≤ k := by
 have hb : d.bulk = ibulk d.items + d.trailer.bulk := rfl
 rcases List.mem_cons.1 hm with e | hm
 ·injection e with _ e
  subst e
  omega
 ·obtain ⟨i, hi, e⟩ := List.mem_map.1 hm
  injection e with _ e
  subst e
  have : i.obj.bulk + 1 ≤ ibulk d.items := by
   unfold ibulk
   exact le_sum_mem (List.mem_map.2 ⟨i, hi, rfl⟩)
  omega
end Aw

namespace Aw
open Go
section
variable {S : Type} {stp : S → Pob → S × Bool}
theorem walkR_cons (s : S) (o : Pob) (l : List Pob) : walkR stp s (o :: l) = if o.kind = 8 then (if (stp s o).2 then ((stp s o).1, true) else walkR stp (stp s o).1 l) else walkR stp s l := by
 by_cases hk : o.kind = 8
 ·simp only [walkR, runL, refW, if_pos hk]
 ·simp only [walkR, runL, refW, if_neg hk, Bool.false_eq_true, if_false]
theorem walkR_last (h : ∀ s o, (stp s o).2 = false) (l : List Pob) (s : S) : (walkR stp s l).2 = false := by
 induction l generalizing s with
 | nil => rfl
 | cons o l ih =>
  rw [walkR_cons]
  split
  ·rw [if_neg (by rw [h]; simp)]; exact ih _
  ·exact ih _
end
theorem doc_chk {d : Dc} (h : docE d = 0) : ∀ q ∈ allL d, ∃ k, chk q.2 k = 0 := by
 intro q hq
 rcases List.mem_cons.1 hq with rfl | hq
 ·refine ⟨1, ?_⟩
  have h1 := docE_trail h
  by_cases hc : chk d.trailer 1 = 0
  ·exact hc
  ·rw [trail_bad hc] at h1
   exact absurd h1 hc
 ·obtain ⟨i, hi, rfl⟩ := List.mem_map.1 hq
  obtain ⟨j, hj, rfl⟩ := List.mem_iff_getElem.1 hi
  have h1 := (items_ok.1 (docE_items h) j hj).2.2
  rw [List.getD_eq_getElem?_getD, List.getElem?_eq_getElem hj] at h1
  simp only [Option.getD_some] at h1
  refine ⟨1, ?_⟩
  by_cases hc : chk d.items[j].obj 1 = 0
  ·exact hc
  ·exfalso
   unfold contentE at h1
   simp_all
theorem litwf {x : Int} (h : 1 ≤ x ∧ x ≤ 8191) : (Lit.int .i64 x).wf = true := by
 have e1 : IntKind.i64.min = -9223372036854775808 := by decide
 have e2 : IntKind.i64.max = 9223372036854775807 := by decide
 simp only [Lit.wf, e1, e2, Bool.and_eq_true, decide_eq_true_eq]
 omega
end Aw

namespace Aw
open Go
theorem items_num {d : Dc} (h : docE d = 0) : ∀ i ∈ d.items, 1 ≤ i.num ∧ i.num ≤ 8191 := by
 intro i hi
 obtain ⟨j, hj, rfl⟩ := List.mem_iff_getElem.1 hi
 have h1 := (items_ok.1 (docE_items h) j hj).1
 rw [List.getD_eq_getElem?_getD, List.getElem?_eq_getElem hj] at h1
 simp only [Option.getD_some, numsB, Bool.and_eq_true, decide_eq_true_eq] at h1
 omega
end Aw

namespace Aw
open Go
def reachB (l : List Itm) (m : List Int) (r : Pob) : Bool := leadB l r && !decide ((leadI l r).num ∈ m)
def reachStp (l : List Itm) (s : List Int × List Pob) (r : Pob) : (List Int × List Pob) × Bool :=
 (if reachB l s.1 r then (setAdd s.1 (leadI l r).num, s.2 ++ [(leadI l r).obj]) else s, false)
theorem reach_last (l : List Itm) (s : List Int × List Pob) (o : Pob) : (reachStp l s o).2 = false := rfl
/-- the numbers met so far are numbers of items -/
def reachI (l : List Itm) (s : List Int × List Pob) : Prop := s.1.Nodup ∧ (∀ n ∈ s.1, n ∈ l.map (·.num)) ∧ s.2.length ≤ 1 + s.1.length
theorem nodup_le {α : Type} [DecidableEq α] : ∀ {a b : List α}, a.Nodup → (∀ x ∈ a, x ∈ b) → a.length ≤ b.length
 | [], b, _, _ => by simp
 | x :: a, b, hn, hs => by
  have hx := hs x List.mem_cons_self
  obtain ⟨b1, b2, rfl⟩ := List.append_of_mem hx
  rw [List.nodup_cons] at hn
  have := nodup_le (a := a) (b := b1 ++ b2) hn.2 (fun y hy => by
   have := hs y (List.mem_cons_of_mem _ hy)
   simp only [List.mem_append, List.mem_cons] at this ⊢
   rcases this with h | rfl | h
   ·exact .inl h
   ·exact absurd hy hn.1
   ·exact .inr h)
  simp only [List.length_append, List.length_cons] at this ⊢
  omega
theorem mfind_mem {κ ν : Type} [DecidableEq κ] {l : List (κ × ν)} {k : κ} {v : ν} (h : mfind l k = some v) : (k, v) ∈ l := by
 induction l with
 | nil => simp [mfind] at h
 | cons p l ih =>
  simp only [mfind] at h
  split at h
  ·rename_i e
   injection h with h
   rw [← e, ← h]
   exact List.mem_cons_self
  ·exact List.mem_cons_of_mem _ (ih h)
theorem lead_mem {l : List Itm} {r : Pob} (h : leadB l r = true) : leadI l r ∈ l ∧ (leadI l r).num = r.num ∧ (leadI l r).gen = r.gen := by
 unfold leadB at h
 simp only [Bool.and_eq_true, decide_eq_true_eq] at h
 obtain ⟨v, hv⟩ := Option.isSome_iff_exists.1 h.1
 have hi : leadI l r = v := by unfold leadI; rw [hv] <;> rfl
 have hm := mfind_mem hv
 simp only [netL, List.mem_map, Prod.mk.injEq] at hm
 obtain ⟨i, hi1, e1, rfl⟩ := hm
 rw [hi]
 exact ⟨hi1, e1, by rw [← hi]; exact h.2⟩
theorem reachI_stp {l : List Itm} (s : List Int × List Pob) (o : Pob) (h : reachI l s) : reachI l (reachStp l s o).1 := by
 simp only [reachStp]
 split
 ·rename_i hb
  simp only [reachB, Bool.and_eq_true, Bool.not_eq_true', decide_eq_false_iff_not] at hb
  obtain ⟨h1, h2, h3⟩ := h
  have e : setAdd s.1 (leadI l o).num = s.1 ++ [(leadI l o).num] := by rw [setAdd, if_neg hb.2]
  rw [e]
  refine ⟨?_, ?_, ?_⟩
  ·rw [List.nodup_append]
   refine ⟨h1, by simp, fun x hx y hy => ?_⟩
   simp only [List.mem_singleton] at hy
   subst hy
   intro e
   subst e
   exact hb.2 hx
  ·intro n hn
   rcases List.mem_append.1 hn with hn | hn
   ·exact h2 n hn
   ·simp only [List.mem_singleton] at hn
    subst hn
    exact List.mem_map.2 ⟨_, (lead_mem hb.1).1, rfl⟩
  ·simp only [List.length_append, List.length_cons, List.length_nil]
   omega
 ·exact h
theorem reachI_len {l : List Itm} {s : List Int × List Pob} (h : reachI l s) : s.1.length ≤ l.length ∧ s.2.length ≤ 1 + l.length := by
 have := nodup_le h.1 h.2.1
 simp only [List.length_map] at this
 have := h.2.2
 omega
def reachM (l : List Itm) (s : List Int × List Pob) : Nat := 2 * (l.length - s.1.length) + s.2.length
/-- one more object is looked through -/
def popS (l : List Itm) (s : List Int × List Pob) : List Int × List Pob := (walkR (reachStp l) (s.1, s.2.take (s.2.length - 1)) (s.2.getD (s.2.length - 1) Pob.null).pre).1
theorem pop_inv {l : List Itm} {s : List Int × List Pob} (h : reachI l s) : reachI l (s.1, s.2.take (s.2.length - 1)) :=
 ⟨h.1, h.2.1, by have := h.2.2; simp only [List.length_take]; omega⟩
theorem popS_inv {l : List Itm} {s : List Int × List Pob} (h : reachI l s) : reachI l (popS l s) := walkR_inv (fun s o => reachI_stp s o) _ _ (pop_inv h)
theorem walk_M {l : List Itm} (L : List Pob) (s : List Int × List Pob) (h : reachI l s) : reachM l (walkR (reachStp l) s L).1 ≤ reachM l s := by
 induction L generalizing s with
 | nil => simp [walkR_nil]
 | cons o L ih =>
  rw [walkR_cons]
  split
  ·rw [if_neg (by rw [reach_last]; simp)]
   refine Nat.le_trans (ih _ (reachI_stp s o h)) ?_
   have hl := reachI_len (reachI_stp s o h)
   simp only [reachStp] at hl ⊢
   split
   ·rename_i hb
    rw [if_pos hb] at hl
    simp only [reachB, Bool.and_eq_true, Bool.not_eq_true', decide_eq_false_iff_not] at hb
    have e : setAdd s.1 (leadI l o).num = s.1 ++ [(leadI l o).num] := by rw [setAdd, if_neg hb.2]
    rw [e] at hl ⊢
    simp only [reachM, List.length_append, List.length_cons, List.length_nil] at hl ⊢
    omega
   ·exact Nat.le_refl _
  ·exact ih s h
theorem popS_M {l : List Itm} {s : List Int × List Pob} (h : reachI l s) (hn : 0 < s.2.length) : reachM l (popS l s) < reachM l s := by
 have := walk_M (s.2.getD (s.2.length - 1) Pob.null).pre _ (pop_inv h)
 unfold popS
 refine Nat.lt_of_le_of_lt this ?_
 simp only [reachM, List.length_take]
 omega
def reachF (l : List Itm) : Nat → List Int × List Pob → List Int
 | 0, s => s.1
 | f + 1, s => if 0 < s.2.length then reachF l f (popS l s) else s.1
theorem reachF_more {l : List Itm} : ∀ (f g : Nat) (s : List Int × List Pob), reachI l s → reachM l s ≤ f → reachM l s ≤ g → reachF l f s = reachF l g s
 | f, g, s, hi, hf, hg => by
  by_cases hn : 0 < s.2.length
  ·have hm := popS_M hi hn
   obtain ⟨f', rfl⟩ : ∃ f', f = f' + 1 := ⟨f - 1, by omega⟩
   obtain ⟨g', rfl⟩ : ∃ g', g = g' + 1 := ⟨g - 1, by omega⟩
   simp only [reachF, if_pos hn]
   exact reachF_more f' g' _ (popS_inv hi) (by omega) (by omega)
  ·have e : ∀ h, reachF l h s = s.1 := fun h => by cases h <;> simp [reachF, hn]
   rw [e, e]
/-- the numbers reached from an object, as they are met -/
def reachS (l : List Itm) (o : Pob) : List Int := reachF l (2 * l.length + 1) ([], [o])
theorem reachI_top (l : List Itm) (o : Pob) : reachI l ([], [o]) := ⟨List.nodup_nil, by simp, by simp⟩
def reachJ (l : List Itm) (o : Pob) (s : List Int × List Pob) : Prop := reachI l s ∧ reachF l (reachM l s) s = reachS l o
theorem reachJ_top (l : List Itm) (o : Pob) : reachJ l o ([], [o]) := ⟨reachI_top l o, by
 unfold reachS
 exact reachF_more _ _ _ (reachI_top l o) (Nat.le_refl _) (by simp [reachM])⟩
theorem reachJ_pop {l : List Itm} {o : Pob} {s : List Int × List Pob} (h : reachJ l o s) (hn : 0 < s.2.length) : reachJ l o (popS l s) := by
 refine ⟨popS_inv h.1, ?_⟩
 rw [← h.2]
 have hm := popS_M h.1 hn
 obtain ⟨f, hf⟩ : ∃ f, reachM l s = f + 1 := ⟨reachM l s - 1, by omega⟩
 rw [hf]
 simp only [reachF, if_pos hn]
 exact reachF_more _ _ _ (popS_inv h.1) (Nat.le_refl _) (by omega)
theorem reachJ_end {l : List Itm} {o : Pob} {s : List Int × List Pob} (h : reachJ l o s) (hn : ¬ 0 < s.2.length) : s.1 = reachS l o := by
 rw [← h.2]
 cases reachM l s <;> simp [reachF, hn]
/-- what is still to be looked through is of some size -/
def reachK (k : Nat) (s : List Int × List Pob) : Prop := ∀ p ∈ s.2, p.bulk ≤ k
theorem reachK_stp {l : List Itm} {k : Nat} (hb : ∀ i ∈ l, i.obj.bulk ≤ k) (s : List Int × List Pob) (o : Pob) (h : reachK k s) : reachK k (reachStp l s o).1 := by
 simp only [reachStp]
 split
 ·rename_i hr
  simp only [reachB, Bool.and_eq_true] at hr
  intro p hp
  rcases List.mem_append.1 hp with hp | hp
  ·exact h p hp
  ·simp only [List.mem_singleton] at hp
   subst hp
   exact hb _ (lead_mem hr.1).1
 ·exact h
theorem popK {k : Nat} {s : List Int × List Pob} (h : reachK k s) : reachK k (s.1, s.2.take (s.2.length - 1)) := fun p hp => h p (List.mem_of_mem_take hp)
theorem popS_K {l : List Itm} {k : Nat} (hb : ∀ i ∈ l, i.obj.bulk ≤ k) {s : List Int × List Pob} (h : reachK k s) : reachK k (popS l s) := walkR_inv (fun s o => reachK_stp hb s o) _ _ (popK h)
theorem reachK_at {k : Nat} {s : List Int × List Pob} (h : reachK k s) (hn : 0 < s.2.length) : (s.2.getD (s.2.length - 1) Pob.null).bulk ≤ k := by
 rw [List.getD_eq_getElem?_getD, List.getElem?_eq_getElem (by omega)]
 exact h _ (List.getElem_mem _)
end Aw

namespace Aw
open Go
theorem nums_nodup {l : List Itm} (h : incrN l) : (l.map (·.num)).Nodup := by
 rw [incrN_iff] at h
 unfold List.Nodup
 rw [List.pairwise_map]
 exact h.imp fun h => Int.ne_of_lt h
theorem items_len {d : Dc} (h : docE d = 0) : d.items.length ≤ 8192 := by
 have h1 := nodup_le (nums_nodup (items_incr (docE_items h))) (b := (List.range 8192).map Int.ofNat) (fun x hx => by
  obtain ⟨i, hi, rfl⟩ := List.mem_map.1 hx
  have := items_num h i hi
  exact List.mem_map.2 ⟨i.num.toNat, by rw [List.mem_range]; omega, by show (i.num.toNat : Int) = i.num; omega⟩)
 simpa using h1
theorem items_bulk {d : Dc} {k : Nat} (h : d.bulk ≤ k) : ∀ i ∈ d.items, i.obj.bulk ≤ k := fun i hi =>
 allL_bulk (n := i.num) (List.mem_cons_of_mem _ (List.mem_map.2 ⟨i, hi, rfl⟩)) h
theorem reachF_inv {l : List Itm} : ∀ (f : Nat) (s : List Int × List Pob), reachI l s → (reachF l f s).Nodup ∧ ∀ n ∈ reachF l f s, n ∈ l.map (·.num)
 | 0, s, h => ⟨h.1, h.2.1⟩
 | f + 1, s, h => by
  simp only [reachF]
  split
  ·exact reachF_inv f _ (popS_inv h)
  ·exact ⟨h.1, h.2.1⟩
theorem reachS_inv (l : List Itm) (o : Pob) : (reachS l o).Nodup ∧ ∀ n ∈ reachS l o, n ∈ l.map (·.num) := reachF_inv _ _ (reachI_top l o)
theorem reachS_len (l : List Itm) (o : Pob) : (reachS l o).length ≤ l.length := by
 have := nodup_le (reachS_inv l o).1 (reachS_inv l o).2
 simpa using this
theorem nums_wf {d : Dc} (h : docE d = 0) : ∀ x ∈ d.items.map (·.num), 1 ≤ x ∧ x ≤ 8191 := by
 intro x hx
 obtain ⟨i, hi, rfl⟩ := List.mem_map.1 hx
 exact items_num h i hi
theorem reachS_wf {d : Dc} (h : docE d = 0) (o : Pob) : ∀ x ∈ reachS d.items o, 1 ≤ x ∧ x ≤ 8191 := fun x hx => nums_wf h x ((reachS_inv d.items o).2 x hx)
def fromP (d : Dc) (o : Pob) : List Int := if docE d = 0 ∧ chk o 1 = 0 then sortI (reachS d.items o) else []
end Aw

namespace Aw
open Go
end Aw

set_option linter.unusedVariables false
namespace Aw
open Go
end Aw

set_option linter.unusedVariables false
set_option linter.unusedSimpArgs false
namespace Aw
open Go
/-! a key less -/
/-! a key put -/
/-! numbers in order -/
def nplace (l : List Int) (n : Int) : Nat := l.findIdx (fun x => !decide (x < n))
def numIns (l : List Int) (n : Int) : List Int := if nplace l n < l.length ∧ l.getD (nplace l n) 0 = n then l else l.take (nplace l n) ++ [n] ++ l.drop (nplace l n)
def kidR (ks : List Pob) (s : List Int) : List Int := ks.foldl (fun s k => (refsO k).foldl numIns s) s
end Aw

namespace Aw
open Go
mutual
/-- foliantref29.Refs -/
def Pob.rr : Pob → List Pob
 | .mk k n g s ks l => if k = 8 then [.mk k n g s ks l] else rrs l
def rrs : List Pob → List Pob
 | [] => []
 | o :: l => o.rr ++ rrs l
end
theorem rr_eq (o : Pob) : o.rr = if o.kind = 8 then [o] else rrs o.kids := by cases o; simp only [Pob.rr, Pob.kind, Pob.kids]; rfl
theorem rrs_append (a b : List Pob) : rrs (a ++ b) = rrs a ++ rrs b := by
 induction a with
 | nil => simp [rrs]
 | cons o a ih => simp [rrs, ih]
theorem rrs_take {l : List Pob} {i : Nat} (h : i < l.length) : rrs (l.take (i + 1)) = rrs (l.take i) ++ (l.getD i Pob.null).rr := by
 rw [List.take_add_one, rrs_append, List.getElem?_eq_getElem h]
 simp [rrs, List.getD, List.getElem?_eq_getElem h]
mutual
theorem rr_len : ∀ o : Pob, o.rr.length ≤ o.bulk
 | .mk k n g s ks l => by
  have := rrs_len l
  simp only [Pob.rr, Pob.bulk]
  split <;> simp <;> omega
theorem rrs_len : ∀ l : List Pob, (rrs l).length ≤ bulks l
 | [] => by simp [rrs]
 | o :: l => by
  have h1 := rr_len o
  have h2 := rrs_len l
  simp only [rrs, List.length_append, bulks]
  omega
end
/-- foliantref29.Leads: the first item of the number and generation -/
def leadR (l : List Itm) (r : Pob) : Option Itm := l.find? fun i => decide (i.num = r.num) && decide (i.gen = r.gen)
end Aw

namespace Aw
open Go
def usesR (d : Dc) (num : Int) (o : Pob) : Bool := o.rr.any fun x => (leadR d.items x).isSome && decide (((leadR d.items x).getD Itm.zero).num = num)
def userL (d : Dc) (num : Int) (l : List Itm) : List Int := (l.filter fun i => usesR d num i.obj).map (·.num)
def lostI (met : List Int) (l : List Itm) : List Int := (l.filter fun i => !decide (i.num ∈ met)).map (·.num)
def lostR (d : Dc) : List Int := if docE d = 0 then lostI (fromP d d.trailer) d.items else []
def itemsRR (l : List Itm) : List Pob := rrs (l.map (·.obj))
def dangI (d : Dc) (l : List Pob) : List Int := (l.filter fun x => !(leadR d.items x).isSome).map (·.num)
def dangR (d : Dc) : List Int := if docE d = 0 then (dangI d (d.trailer.rr ++ itemsRR d.items)).foldl numIns [] else []
end Aw
