/- A part of the proof: no condition of its own. -/
import Derived.Test.YtldekaaiippfkaaPart1
import Derived.JoinedCond
import Derived.Test.YtldekaaiippfkaaRows
import Derived.Lib.Bytealg
namespace Go.Proofs.Ytldekaaiippfkaa
open Go Aw
theorem own : ownKnob Try.prog.godebug = none := by kernel_rfl
theorem laidOut : laidOutB Try.prog = true := by kernel_rfl
end Go.Proofs.Ytldekaaiippfkaa

namespace Aw
open Go
end Aw

namespace Aw
open Go
/-- where a key lies, or belongs -/
def kplace (ks : List (List UInt8)) (key : List UInt8) : Nat := ks.findIdx (fun k => !Op.bytesLess k key)
theorem headD_nil' {α : Type} (d : α) : ([] : List α).headD d = d := rfl
attribute [go_sem] headD_nil'
attribute [irreducible] kplace
end Aw

namespace Aw
open Go
set_option linter.unusedVariables false
theorem nil_strs {ks : List (List UInt8)} {b : Bool} (h : strsAV ks ≠ [] → b = false) (hb : b = true) : ks = [] := by
 subst hb
 cases ks with
 | nil => rfl
 | cons a l => exact absurd (h (by simp [strsAV])) (by simp)
def fitsB (o : Pob) : Bool :=
 if o.kind = 1 then decide (0 ≤ o.num) && decide (o.num ≤ 1)
 else if o.kind = 2 then decide (-2147483647 ≤ o.num) && decide (o.num ≤ 2147483647)
 else if o.kind = 3 then decide (-1073741824 ≤ o.num) && decide (o.num ≤ 1073741824)
 else if o.kind = 8 then (decide (1 ≤ o.num) && decide (o.num ≤ 8191)) && (decide (0 ≤ o.gen) && decide (o.gen ≤ 65535))
 else true
def shortB (o : Pob) : Bool :=
 if o.kind = 4 then decide ((o.str.length : Int) ≤ 32767) else if o.kind = 5 then decide ((o.str.length : Int) ≤ 127) else decide ((o.str.length : Int) ≤ 1048576)
def uN (k : Int) : Bool := decide (k = 1) || decide (k = 2) || decide (k = 3) || decide (k = 8)
def uG (k : Int) : Bool := decide (k = 8)
def uS (k : Int) : Bool := decide (k = 4) || decide (k = 5) || decide (k = 9)
def uKeys (k : Int) : Bool := decide (k = 7) || decide (k = 9)
def uKids (k : Int) : Bool := decide (k = 6) || decide (k = 7) || decide (k = 9)
def uOk (k : Int) : Bool := decide (0 ≤ k) && decide (k ≤ 9)
def nameB (s : List UInt8) : Bool := decide ((s.length : Int) ≤ 127) && decide (Lib.indexByte s 0 < 0)
def okKey (o : Pob) (i : Nat) : Prop :=
 nameB (o.keys.getD i []) = true ∧ (0 < i → Op.bytesLess (o.keys.getD (i - 1) []) (o.keys.getD i []) = true) ∧ ¬ (o.kind = 9 ∧ o.keys.getD i [] = [76, 101, 110, 103, 116, 104]) ∧ (o.kids.getD i Pob.null).kind ≠ 0
def risingP (o : Pob) : Prop := o.keys.length = o.kids.length ∧ ∀ i, i < o.keys.length → okKey o i
instance (o : Pob) (i : Nat) : Decidable (okKey o i) := by unfold okKey; infer_instance
instance (o : Pob) : Decidable (risingP o) := by unfold risingP; infer_instance
def risingB (o : Pob) : Bool := decide (risingP o)
def useB (o : Pob) (d : Int) : Bool :=
 bif bif bif bif bif bif uOk o.kind then bif uN o.kind then true else decide (o.num = 0) else false then bif uG o.kind then true else decide (o.gen = 0) else false then bif uS o.kind then true else decide (o.str = []) else false
  then bif uKeys o.kind then true else decide ((o.keys.length : Int) = 0) else false then bif uKids o.kind then true else decide ((o.kids.length : Int) = 0) else false then bif decide (d = 1) then true else !decide (o.kind = 9) else false
def formB (o : Pob) : Bool := bif bif !decide (o.kind = 5) then true else nameB o.str then bif !uKeys o.kind then true else risingB o else false
def ownE (o : Pob) (d : Int) : Int :=
 if ¬ d ≤ 24 then 7 else if useB o d = false then 10 else if fitsB o = false then 2 else if shortB o = false then 5 else if ¬ (o.kids.length : Int) ≤ 8191 then 6 else if formB o = false then 3 else 0
mutual
def chk : Pob → Int → Int
 | .mk k n g s ks l, d => if ownE (.mk k n g s ks l) d = 0 then chkL l (d + 1) else ownE (.mk k n g s ks l) d
def chkL : List Pob → Int → Int
 | [], _ => 0
 | o :: l, d => if chk o d = 0 then chkL l d else chk o d
end
attribute [irreducible] chk chkL ownE

/-! what validity gives -/
end Aw

namespace Go.Proofs
open Go Aw
set_option linter.unusedSimpArgs false
set_option maxRecDepth 100000
set_option maxHeartbeats 4000000
theorem c_slices_Clone_string_string (gl : List (Nat × AV)) (ks : List (List UInt8)) (hk : ks.length ≤ 16777216 := by first | omega | exact u8_le _ | assumption | (simp; done) | (simp; omega)) : FnP Try.prog (gl) 57 [.sl (strsAV ks)] fun r => r = .ret (.sl (strsAV ks)) := by
 refine FnP.intro Try.func57 rfl rfl (by simp [Try.ntmps57]) ?_
 simp only [argEnv, Try.ntmps57, Try.results57]
 refine AW.rS ?_
 refine AW.seq ?_
 refine AW.rSC ?_
 refine awOps.cons (awGuard.nS ?_)
 intro b4 hb4
 simp only [nilBool]
 refine awOps.rn ?_
 refine AW.c2 ?_ ?_
 ·intro h6
  refine AW.rS ?_
  refine AW.pre (St.le.nilrow 2 1 (by (simp only [go_sem, seval]; try (simp (disch := omega) only [zq]; try (simp only [go_sem, seval]; try (simp (disch := omega) only [zq]; try simp only [go_sem, seval])))))) ?_
  refine wk ?_
  refine AW.rt ?_
  rw [nil_strs hb4 h6, strsAV_nil]
 ·intro h6
  refine AW.skip ?_
  refine AW.rS ?_
  refine AW.rt ?_
  all_goals first | contradiction | rfl | (simp; done) | (simp; omega)
theorem c_value_Clone_1 (gl : List (Nat × AV)) (o : Pob) : FnP Try.prog (gl) 52 [.agg o.cells] fun r => r = .ret (.agg o.cells) := by
 refine FnP.intro Try.func52 rfl rfl (by simp [Try.ntmps52]) ?_
 simp only [argEnv, Try.ntmps52, Try.results52]
 refine AW.rS ?_
 refine AW.rS ?_
 refine AW.rt ?_
 all_goals first | contradiction | rfl | (simp; done) | (simp; omega)
end Go.Proofs

namespace Go.Proofs
open Go Aw
set_option linter.unusedSimpArgs false
set_option maxRecDepth 100000
set_option maxHeartbeats 4000000
theorem changed_step (gl : List (Nat × AV)) (N : Nat) (hN : N ≤ 16777216) (ih : ∀ o' : Pob, o'.bulk < N → FnP Try.prog gl 51 [.agg o'.cells, .clos 52 []] fun r => r = .ret (.agg o'.cells)) (o : Pob) (_ : o.bulk ≤ N) (hk : o.keys.length ≤ N) (hl : o.kids.length ≤ N) (hb : ∀ i, i < o.kids.length → (o.kids.getD i Pob.null).bulk < N) : FnP Try.prog (gl) 51 [.agg o.cells, .clos 52 []] fun r => r = .ret (.agg o.cells) := by
 refine FnP.intro Try.func51 rfl rfl (by simp [Try.ntmps51]) ?_
 simp only [argEnv, Try.ntmps51, Try.results51]
 refine AW.rS ?_
 refine AW.rSC ?_
 refine awOps.cons (awGuard.c1 (c_value_Clone_1 _ o) ?_)
 refine awOps.rn ?_
 refine AW.rSC ?_
 refine awOps.cons (awGuard.c1 (c_slices_Clone_string_string _ o.keys) ?_)
 refine awOps.rn ?_
 refine AW.seq ?_
 refine AW.rSC ?_
 refine awOps.cons (awGuard.nS ?_)
 intro b10 hb10
 simp only [nilBool]
 refine awOps.rn ?_
 refine AW.c2 ?_ ?_
 ·intro h12
  refine AW.rS ?_
  refine AW.seq ?_
  refine AW.rS ?_
  refine AW.block ?_
  refine AW.lk (S := { i : Nat // i ≤ o.kids.length }) [1, 2, 4, 5, 23, 24] (fun s_ => [(25, .int .i64 s_.1)]) (fun s_ => [(0, .cells [.int .i64 o.kind, .int .i64 o.num, .int .i64 o.gen, .str o.str, .sl (strsAV o.keys), .sl (objsAV o.kids)]), (1, .cells [.int .i64 0, .int .i64 0, .int .i64 0, .str [], .raw (.slice none 0 0), .raw (.slice none 0 0)]), (2, .row 6 (fillO o.kids s_.1) true)]) 3 (fun s_ => o.kids.length - s_.1) ⟨0, Nat.zero_le _⟩ ?_ ?_
  ·refine St.le.vw [0, 1, 2]
  rintro ⟨i, hi⟩
  try dsimp only at hi
  refine AW.rS ?_
  refine AW.seq ?_
  refine AW.c2 ?_ ?_
  ·intro h20
   refine AW.skip ?_
   refine AW.seq ?_
   refine AW.block ?_
   refine AW.rS ?_
   refine AW.rLC ?_
   refine awOps.cons (awGuard.c1 (ih (o.kids.getD i Pob.null) (hb i (by omega))) ?_)
   refine awOps.rn ?_
   refine AW.rL ?_
   refine ⟨⟨i + 1, by omega⟩, ?_, ?_⟩
   ·refine St.le.vw [0, 1, 2]
   ·simp only []; omega
  ·intro h20
   refine AW.exit ?_
   refine AW.rL ?_
   refine AW.rS ?_
   refine AW.rt ?_
   rw [fillO_all hi h20, objsAV_take_len]
 ·intro h12
  refine AW.skip ?_
  refine AW.rS ?_
  refine AW.rt ?_
  all_goals first | contradiction | rfl | (simp; done) | (simp; omega)
theorem changed_clone (gl : List (Nat × AV)) (N : Nat) : N ≤ 16777216 → ∀ o : Pob, o.bulk ≤ N → FnP Try.prog gl 51 [.agg o.cells, .clos 52 []] fun r => r = .ret (.agg o.cells) := by
 induction N using Nat.strongRecOn with
 | ind N IH =>
  intro hN o ho
  have hb := Pob.bulk_eq o
  exact changed_step gl N hN (fun o' h => IH o'.bulk h (by omega) o' (Nat.le_refl _)) o ho (by omega) (by omega) (fun i hi => Nat.lt_of_lt_of_le (Pob.bulk_kid hi) ho)
theorem c_value_changed (gl : List (Nat × AV)) (o : Pob) (h : o.bulk ≤ 16777216 := by assumption) : FnP Try.prog gl 51 [.agg o.cells, .clos 52 []] fun r => r = .ret (.agg o.cells) := changed_clone gl 16777216 (Nat.le_refl _) o h
theorem c_value_Clone (gl : List (Nat × AV)) (o : Pob) (h : o.bulk ≤ 16777216 := by first | omega | exact u8_le _ | assumption | (simp; done) | (simp; omega)) : FnP Try.prog (gl) 40 [.agg o.cells] fun r => r = .ret (.agg o.cells) := by
 refine FnP.intro Try.func40 rfl rfl (by simp [Try.ntmps40]) ?_
 simp only [argEnv, Try.ntmps40, Try.results40]
 refine AW.rS ?_
 refine AW.rSC ?_
 refine awOps.cons (awGuard.c1 (c_value_changed _ o) ?_)
 refine awOps.rn ?_
 refine AW.rt ?_
 all_goals first | contradiction | rfl | (simp; done) | (simp; omega)
end Go.Proofs

namespace Go.Proofs
open Go Aw
set_option linter.unusedSimpArgs false
set_option linter.unusedVariables false
set_option maxRecDepth 100000
set_option maxHeartbeats 4000000
theorem c_value_within_int64 (gl : List (Nat × AV)) (n a b : Int) : FnP Try.prog (gl) 39 [.int .i64 n, .int .i64 a, .int .i64 b] fun r => r = .ret (.bool (decide (a ≤ n) && decide (n ≤ b))) := by
 refine FnP.intro Try.func39 rfl rfl (by simp [Try.ntmps39]) ?_
 simp only [argEnv, Try.ntmps39, Try.results39]
 refine AW.rS ?_
 refine AW.rS ?_
 refine AW.rt ?_
 simp only [Bool.cond_false_right]
theorem c_value_Int (gl : List (Nat × AV)) (n : Int) : FnP Try.prog (gl) 24 [.int .i64 n] fun r => r = .ret (.agg (intO n).cells) := by
 refine FnP.intro Try.func24 rfl rfl (by simp [Try.ntmps24]) ?_
 simp only [argEnv, Try.ntmps24, Try.results24]
 refine AW.rS ?_
 refine AW.rS ?_
 refine AW.rt ?_
 all_goals first | contradiction | rfl | (simp; done) | (simp; omega)
theorem c_value_Real (gl : List (Nat × AV)) (n : Int) : FnP Try.prog (gl) 25 [.int .i64 n] fun r => r = .ret (.agg (realO n).cells) := by
 refine FnP.intro Try.func25 rfl rfl (by simp [Try.ntmps25]) ?_
 simp only [argEnv, Try.ntmps25, Try.results25]
 refine AW.rS ?_
 refine AW.rS ?_
 refine AW.rt ?_
 all_goals first | contradiction | rfl | (simp; done) | (simp; omega)
theorem c_value_Array (gl : List (Nat × AV)) (l : List Pob) (h : (arrO l).bulk ≤ 16777216 := by first | omega | exact u8_le _ | assumption | (simp; done) | (simp; omega)) : FnP Try.prog (gl) 26 [.sl (objsAV l)] fun r => r = .ret (.agg (arrO l).cells) := by
 refine FnP.intro Try.func26 rfl rfl (by simp [Try.ntmps26]) ?_
 simp only [argEnv, Try.ntmps26, Try.results26]
 refine AW.rS ?_
 refine AW.rSC ?_
 refine awOps.cons (awGuard.c1 (c_value_Clone _ (arrO l) h) ?_)
 refine awOps.rn ?_
 refine AW.rt ?_
 all_goals first | contradiction | rfl | (simp; done) | (simp; omega)
theorem c_value_Number (gl : List (Nat × AV)) (o : Pob) (h : -9223372036854775808 ≤ o.num ∧ o.num ≤ 9223372036854775807 := by first | omega | exact u8_le _ | assumption | (simp; done) | (simp; omega)) : FnP Try.prog (gl) 23 [.agg o.cells] fun r => r = .ret (.tup [.int .i64 (numI o), .bool (numB o)]) := by
 refine FnP.intro Try.func23 rfl rfl (by simp [Try.ntmps23]) ?_
 simp only [argEnv, Try.ntmps23, Try.results23]
 refine AW.rS ?_
 refine AW.rS ?_
 refine AW.seq ?_
 refine AW.rS ?_
 refine AW.block ?_
 refine AW.rS ?_
 refine AW.c2 ?_ ?_
 ·intro h7
  refine AW.seq ?_
  refine AW.rSC ?_
  refine awOps.cons (awGuard.c1 (c_value_within_int64 _ o.num (-107374) 107374) ?_)
  refine awOps.rn ?_
  refine AW.c2 ?_ ?_
  ·intro h12
   refine AW.rS ?_
   refine AW.rt ?_
   rw [numB_int h7, numI_int h7]; simp_all; omega
  ·intro h12
   refine AW.skip ?_
   refine AW.rL ?_
   refine AW.seq ?_
   refine AW.rSC ?_
   refine awOps.cons (awGuard.c1 (c_value_within_int64 _ (o.num * 10000) (-1073741824) 1073741824) ?_)
   refine awOps.rn ?_
   refine AW.c2 ?_ ?_
   ·intro h22
    refine AW.rS ?_
    refine AW.rt ?_
    ·omega
    all_goals first | contradiction | rfl | (simp; done) | (simp; omega)
   ·intro h22
    refine AW.skip ?_
    refine AW.rS ?_
    refine AW.rt ?_
    rw [numB_int h7, numI_int h7]; simp_all
 ·intro h7
  refine AW.rS ?_
  refine AW.c2 ?_ ?_
  ·intro h31
   refine AW.skip ?_
   refine AW.seq ?_
   refine AW.rSC ?_
   refine awOps.cons (awGuard.c1 (c_value_within_int64 _ o.num (-1073741824) 1073741824) ?_)
   refine awOps.rn ?_
   refine AW.c2 ?_ ?_
   ·intro h37
    refine AW.rS ?_
    refine AW.rt ?_
    ·rw [numB_real h31, numI_real h31]; simp_all; omega
    all_goals first | contradiction | rfl | (simp; done) | (simp; omega)
   ·intro h37
    refine AW.skip ?_
    refine AW.rS ?_
    refine AW.rt ?_
    rw [numB_real h31, numI_real h31]; simp_all
  ·intro h31
   refine AW.rS ?_
   refine AW.rt ?_
   rw [numB_no h7 h31, numI_no h7 h31]
end Go.Proofs

namespace Go.Proofs
open Go Aw
set_option linter.unusedSimpArgs false
set_option linter.unusedVariables false
set_option maxRecDepth 100000
set_option maxHeartbeats 1000000
attribute [local go_sem] Mx.cells
theorem c_matrix_out (gl : List (Nat × AV)) (n : Int) (h1 : -1073741824 ≤ n := by first | omega | exact u8_le _ | assumption | (simp; done) | (simp; omega)) (h2 : n ≤ 1073741824 := by first | omega | exact u8_le _ | assumption | (simp; done) | (simp; omega)) : FnP Try.prog (gl) 21 [.int .i64 n] fun r => r = .ret (.bool false) := by
 refine FnP.intro Try.func21 rfl rfl (by simp [Try.ntmps21]) ?_
 simp only [argEnv, Try.ntmps21, Try.results21]
 refine AW.rS ?_
 refine AW.rS ?_
 refine AW.rt ?_
 have e1 : decide (n < -1073741824) = false := decide_eq_false (by omega)
 have e2 : decide (n > 1073741824) = false := decide_eq_false (by omega)
 simp [e1, e2]
theorem c_matrix_need (gl : List (Nat × AV))  : FnP Try.prog (gl) 16 [.int .i64 0] fun r => r = .ret (.tup []) := by
 refine FnP.intro Try.func16 rfl rfl (by simp [Try.ntmps16]) ?_
 simp only [argEnv, Try.ntmps16, Try.results16]
 refine AW.rS ?_
 refine AW.c2 ?_ ?_
 ·intro h2
  refine AW.rLC ?_
  refine awOps.cons (awGuard.pn ?_)
  refine wk ?_
  all_goals first | contradiction | rfl | (simp; done) | (simp; omega)
 ·intro h2
  refine AW.skip ?_
  refine wk ?_
  all_goals first | contradiction | rfl | (simp; done) | (simp; omega)
theorem h_matrix_parts (gl : List (Nat × AV)) (m : Mx) : FnH Try.prog (gl) 22 [.ptr 0 0] ([(0, .cells m.cells)]) 1 (fun r h n => r = .ret (.agg [.ptr 0 0, .ptr 0 1, .ptr 0 2, .ptr 0 3, .ptr 0 4, .ptr 0 5]) ∧ h = [(0, .cells m.cells), (1, .cells [.ptr 0 0, .ptr 0 1, .ptr 0 2, .ptr 0 3, .ptr 0 4, .ptr 0 5])] ∧ n = 2) := by
 refine FnH.intro Try.func22 rfl rfl (by simp [Try.ntmps22]) ?_
 simp only [argEnv, Try.ntmps22, Try.results22]
 refine AW.rS ?_
 refine AW.dS [(0, 0), (1, 0), (2, 0), (3, 0), (4, 0), (5, 0), (6, 0), (7, 0), (8, 0), (9, 0), (10, 0), (11, 0), (12, 0), (13, 0), (14, 0), (15, 0), (16, 0), (17, 0), (18, 2), (19, 2)] ?_
 refine AW.rt ?_
 and_intros <;> first | rfl | trivial
theorem c_matrix_Check (gl : List (Nat × AV)) (m : Mx) (h : m.fixed) : FnP Try.prog (gl) 17 [.agg m.cells] fun r => r = .ret (.int .i64 0) := by
 refine FnP.intro Try.func17 rfl rfl (by simp [Try.ntmps17]) ?_
 simp only [argEnv, Try.ntmps17, Try.results17]
 obtain ⟨⟨ha1, ha2⟩, ⟨hb1, hb2⟩, ⟨hc1, hc2⟩, ⟨hd1, hd2⟩, ⟨he1, he2⟩, ⟨hf1, hf2⟩⟩ := h
 refine AW.rS ?_
 refine AW.seq ?_
 refine AW.rSC ?_
 refine awOps.cons (awGuard.cH [0] (h_matrix_parts _ m) ?_)
 refine awOps.rn ?_
 refine AW.block ?_
 refine AW.un 6 ?_
 refine AW.rS ?_
 refine AW.seq ?_
 refine AW.c2 ?_ ?_
 ·intro h10
  refine AW.skip ?_
  refine AW.seq ?_
  refine AW.block ?_
  refine AW.rS ?_
  refine AW.rSC ?_
  refine awOps.cons (awGuard.c1 (c_matrix_out _ m.a (by omega) (by omega)) ?_)
  refine awOps.rn ?_
  refine AW.c2 ?_ ?_
  ·intro h18
   refine AW.rS ?_
   refine AW.rt ?_
   all_goals first | contradiction | rfl | (simp; done) | (simp; omega)
  ·intro h18
   refine AW.skip ?_
   refine AW.rL ?_
   refine AWR.s ?_
   refine AW.rS ?_
   refine AW.seq ?_
   refine AW.c2 ?_ ?_
   ·intro h27
    refine AW.skip ?_
    refine AW.seq ?_
    refine AW.block ?_
    refine AW.rS ?_
    refine AW.rSC ?_
    refine awOps.cons (awGuard.c1 (c_matrix_out _ m.b (by omega) (by omega)) ?_)
    refine awOps.rn ?_
    refine AW.c2 ?_ ?_
    ·intro h35
     refine AW.rS ?_
     refine AW.rt ?_
     all_goals first | contradiction | rfl | (simp; done) | (simp; omega)
    ·intro h35
     refine AW.skip ?_
     refine AW.rL ?_
     refine AWR.s ?_
     refine AW.rS ?_
     refine AW.seq ?_
     refine AW.c2 ?_ ?_
     ·intro h44
      refine AW.skip ?_
      refine AW.seq ?_
      refine AW.block ?_
      refine AW.rS ?_
      refine AW.rSC ?_
      refine awOps.cons (awGuard.c1 (c_matrix_out _ m.c (by omega) (by omega)) ?_)
      refine awOps.rn ?_
      refine AW.c2 ?_ ?_
      ·intro h52
       refine AW.rS ?_
       refine AW.rt ?_
       all_goals first | contradiction | rfl | (simp; done) | (simp; omega)
      ·intro h52
       refine AW.skip ?_
       refine AW.rL ?_
       refine AWR.s ?_
       refine AW.rS ?_
       refine AW.seq ?_
       refine AW.c2 ?_ ?_
       ·intro h61
        refine AW.skip ?_
        refine AW.seq ?_
        refine AW.block ?_
        refine AW.rS ?_
        refine AW.rSC ?_
        refine awOps.cons (awGuard.c1 (c_matrix_out _ m.d (by omega) (by omega)) ?_)
        refine awOps.rn ?_
        refine AW.c2 ?_ ?_
        ·intro h69
         refine AW.rS ?_
         refine AW.rt ?_
         all_goals first | contradiction | rfl | (simp; done) | (simp; omega)
        ·intro h69
         refine AW.skip ?_
         refine AW.rL ?_
         refine AWR.s ?_
         refine AW.rS ?_
         refine AW.seq ?_
         refine AW.c2 ?_ ?_
         ·intro h78
          refine AW.skip ?_
          refine AW.seq ?_
          refine AW.block ?_
          refine AW.rS ?_
          refine AW.rSC ?_
          refine awOps.cons (awGuard.c1 (c_matrix_out _ m.e (by omega) (by omega)) ?_)
          refine awOps.rn ?_
          refine AW.c2 ?_ ?_
          ·intro h86
           refine AW.rS ?_
           refine AW.rt ?_
           all_goals first | contradiction | rfl | (simp; done) | (simp; omega)
          ·intro h86
           refine AW.skip ?_
           refine AW.rL ?_
           refine AWR.s ?_
           refine AW.rS ?_
           refine AW.seq ?_
           refine AW.c2 ?_ ?_
           ·intro h95
            refine AW.skip ?_
            refine AW.seq ?_
            refine AW.block ?_
            refine AW.rS ?_
            refine AW.rSC ?_
            refine awOps.cons (awGuard.c1 (c_matrix_out _ m.f (by omega) (by omega)) ?_)
            refine awOps.rn ?_
            refine AW.c2 ?_ ?_
            ·intro h103
             refine AW.rS ?_
             refine AW.rt ?_
             all_goals first | contradiction | rfl | (simp; done) | (simp; omega)
            ·intro h103
             refine AW.skip ?_
             refine AW.rL ?_
             refine AWR.s ?_
             refine AW.rS ?_
             refine AW.seq ?_
             refine AW.c2 ?_ ?_
             ·intro h112
              first | contradiction | (simp at h112; done) | (exfalso; omega) | (exfalso; revert h112; decide)
             ·intro h112
              refine AW.exit ?_
              refine AW.rS ?_
              refine AW.rt ?_
              all_goals first | contradiction | rfl | (simp; done) | (simp; omega)
           ·intro h95
            first | contradiction | (simp at h95; done) | (exfalso; omega) | (exfalso; revert h95; decide)
         ·intro h78
          first | contradiction | (simp at h78; done) | (exfalso; omega) | (exfalso; revert h78; decide)
       ·intro h61
        first | contradiction | (simp at h61; done) | (exfalso; omega) | (exfalso; revert h61; decide)
     ·intro h44
      first | contradiction | (simp at h44; done) | (exfalso; omega) | (exfalso; revert h44; decide)
   ·intro h27
    first | contradiction | (simp at h27; done) | (exfalso; omega) | (exfalso; revert h27; decide)
 ·intro h10
  first | contradiction | (simp at h10; done) | (exfalso; omega) | (exfalso; revert h10; decide)
end Go.Proofs

namespace Go.Proofs
open Go Aw
set_option linter.unusedSimpArgs false
set_option linter.unusedVariables false
set_option maxRecDepth 100000
set_option maxHeartbeats 1000000
theorem c_fix_within (gl : List (Nat × AV)) (n : Int) (h1 : -1073741824 ≤ n := by first | omega | exact u8_le _ | assumption | (simp; done) | (simp; omega)) (h2 : n ≤ 1073741824 := by first | omega | exact u8_le _ | assumption | (simp; done) | (simp; omega)) : FnP Try.prog (gl) 56 [.int .i64 n] fun r => r = .ret (.bool true) := by
 refine FnP.intro Try.func56 rfl rfl (by simp [Try.ntmps56]) ?_
 simp only [argEnv, Try.ntmps56, Try.results56]
 refine AW.rS ?_
 refine AW.rS ?_
 refine AW.rt ?_
 have e1 : decide (-1073741824 ≤ n) = true := decide_eq_true (by omega)
 have e2 : decide (n ≤ 1073741824) = true := decide_eq_true (by omega)
 simp [e1, e2]
theorem c_fix_bounded (gl : List (Nat × AV)) (l : List Int) (hl : l.length ≤ 16777216) (hb : ∀ x ∈ l, inFix x) : FnP Try.prog (gl) 48 [.sl (intsAV l)] fun r => r = .ret (.tup []) := by
 refine FnP.intro Try.func48 rfl rfl (by simp [Try.ntmps48]) ?_
 simp only [argEnv, Try.ntmps48, Try.results48]
 refine AW.rS ?_
 refine AW.block ?_
 refine AW.lk (S := { i : Nat // i ≤ l.length }) [4, 5] (fun s_ => [(6, .int .i64 s_.1)]) (fun s_ => []) 0 (fun s_ => l.length - s_.1) ⟨0, Nat.zero_le _⟩ ?_ ?_
 ·refine St.le.vw []
 rintro ⟨i, hi⟩
 try dsimp only at hi
 refine AW.rS ?_
 refine AW.seq ?_
 refine AW.c2 ?_ ?_
 ·intro h6
  have hg := inFix_get hb i
  refine AW.skip ?_
  refine AW.seq ?_
  refine AW.block ?_
  refine AW.rS ?_
  refine AW.rSC ?_
  refine awOps.cons (awGuard.c1 (c_fix_within _ (l.getD i 0) (by omega) (by omega)) ?_)
  refine awOps.rn ?_
  refine AW.c2 ?_ ?_
  ·intro h14
   refine AW.rLC ?_
   refine awOps.cons (awGuard.pn ?_)
   refine wk ?_
   all_goals first | contradiction | rfl | (simp; done) | (simp; omega)
  ·intro h14
   refine AW.skip ?_
   refine AW.rL ?_
   refine ⟨⟨i + 1, by omega⟩, ?_, ?_⟩
   ·refine St.le.vw []
   ·simp only []; omega
 ·intro h6
  refine AW.exit ?_
  refine wk ?_
  all_goals first | contradiction | rfl | (simp; done) | (simp; omega)
theorem c_fix_nearest (gl : List (Nat × AV)) (n : Int) (h1 : -4611686018427387904 ≤ n) (h2 : n ≤ 4611686018427387904) : FnP Try.prog (gl) 50 [.int .i64 n, .int .i64 10000] fun r => r = .ret (.int .i64 (near n 10000)) := by
 refine FnP.intro Try.func50 rfl rfl (by simp [Try.ntmps50]) ?_
 simp only [argEnv, Try.ntmps50, Try.results50]
 obtain ⟨⟨hq1, hq2⟩, hr1, hr2⟩ := tq_bnd h1 h2
 refine AW.rS ?_
 refine AW.dS [(0, 0), (1, 0), (2, 0), (3, 0), (4, 0), (5, 0), (6, 0), (7, 0)] ?_
 refine AW.seq ?_
 refine AW.rS ?_
 refine AW.c2 ?_ ?_
 ·intro h5
  refine AW.rL ?_
  refine AW.seq ?_
  refine AW.rS ?_
  refine AW.c2 ?_ ?_
  ·intro h9
   refine AW.rL ?_
   refine AW.rS ?_
   refine AW.rt ?_
   rw [near_p h5, if_pos (by omega)]
  ·intro h9
   refine AW.skip ?_
   refine AW.rS ?_
   refine AW.rt ?_
   rw [near_p h5, if_neg (by omega)]
 ·intro h5
  refine AW.skip ?_
  refine AW.seq ?_
  refine AW.rS ?_
  refine AW.c2 ?_ ?_
  ·intro h21
   refine AW.rL ?_
   refine AW.rS ?_
   refine AW.rt ?_
   rw [near_n (by omega), if_pos (by omega)]
  ·intro h21
   refine AW.skip ?_
   refine AW.rS ?_
   refine AW.rt ?_
   rw [near_n (by omega), if_neg (by omega)]
theorem c_fix_answer (gl : List (Nat × AV)) (n : Int) (h1 : -1073741824 ≤ n := by first | omega | exact u8_le _ | assumption | (simp; done) | (simp; omega)) (h2 : n ≤ 1073741824 := by first | omega | exact u8_le _ | assumption | (simp; done) | (simp; omega)) : FnP Try.prog (gl) 49 [.int .i64 n] fun r => r = .ret (.int .i64 n) := by
 refine FnP.intro Try.func49 rfl rfl (by simp [Try.ntmps49]) ?_
 simp only [argEnv, Try.ntmps49, Try.results49]
 refine AW.rS ?_
 refine AW.rSC ?_
 refine awOps.cons (awGuard.c1 (c_fix_bounded _ [n] (by simp) (fun x hx => by rw [List.mem_singleton.1 hx]; exact ⟨h1, h2⟩)) ?_)
 refine awOps.rn ?_
 refine AW.rS ?_
 refine AW.rt ?_
 all_goals first | contradiction | rfl | (simp; done) | (simp; omega)
theorem d_fix_face (gl : List (Nat × AV)) (n e : Int) : FnD Try.prog gl 47 [.ptr 0 0, .ptr 1 0] [(0, .cells [.int .i64 n]), (1, .cells [.int .i64 e])] 2 .ret (fun u hp nx => u = .ret ∧ hp = [(0, .cells [.int .i64 n]), (1, .cells [.int .i64 e])] ∧ nx = 2) := by
 refine FnD.intro Try.func47 rfl rfl (by simp [Try.ntmps47]) ?_
 simp only [argEnv, Try.ntmps47, Try.results47]
 refine AWD.seq (AWD.regRecover rfl rfl rfl rfl (by simp only [go_sem, seval]) ?_)
 refine awOps.rn ?_
 refine AWD.of ?_
 refine AW.block ?_
 refine AW.rS ?_
 refine AW.c2 ?_ ?_
 ·intro h4
  refine AW.rL ?_
  refine wk ?_
  trivial
 ·intro h4
  simp at h4
theorem c_fix_Dot (gl : List (Nat × AV)) (l : List Int) (hl : l.length ≤ 8) (he : l.length % 2 = 0) (hb : ∀ x ∈ l, inFix x) (hr : -1073741824 ≤ near (dotS l) 10000 ∧ near (dotS l) 10000 ≤ 1073741824) : FnP Try.prog (gl) 38 [.sl (intsAV l)] fun r => r = .ret (.tup [.int .i64 (near (dotS l) 10000), .int .i64 0]) := by
 refine FnP.introN Try.func38 rfl rfl (by simp [Try.ntmps38]) ?_
 simp only [argEnv, Try.ntmps38]
 refine AW.rS ?_
 refine AW.df ?_
 refine AW.seq ?_
 refine AW.rS ?_
 refine AW.c2 ?_ ?_
 ·intro h5
  exfalso
  omega
 ·intro h5
  refine AW.skip ?_
  refine AW.rSC ?_
  refine awOps.cons (awGuard.c1 (c_fix_bounded _ l (by omega) hb) ?_)
  refine awOps.rn ?_
  refine AW.seq ?_
  refine AW.rS ?_
  refine AW.block ?_
  refine AW.lk (S := { k : Nat // 2 * k ≤ l.length }) [0, 2, 3] (fun s_ => [(4, .int .i64 (2 * s_.1 : Nat))]) (fun s_ => [(0, .cells [.int .i64 (dotS (l.take (2 * s_.1)))]), (1, .cells [.int .i64 0])]) 2 (fun s_ => l.length - 2 * s_.1) ⟨0, Nat.zero_le _⟩ ?_ ?_
  ·refine St.le.vw [0, 1]
  rintro ⟨k, hk⟩
  try dsimp only at hk
  have hdb := dotS_bnd hb k hk
  refine AW.seq ?_
  refine AW.rS ?_
  refine AW.c2 ?_ ?_
  ·intro h19
   have hp := mulF (inFix_get hb (2 * k)) (inFix_get hb (2 * k + 1))
   have hdt := dotS_take (l := l) (k := k) (by omega)
   refine AW.skip ?_
   refine AW.seq ?_
   refine AW.block ?_
   refine AW.dL [(0, 1), (1, 0), (2, 0), (3, 1), (4, 1), (5, 0), (6, 0), (7, 0), (8, 1), (9, 1), (10, 0), (11, 0), (12, 2)] (hQ := by repeat (first | exact Aw.PI.finN | refine Aw.PI.unblock ?_ | refine Aw.PI.andThen ?_)) ?_
   refine AW.rL ?_
   refine ⟨⟨k + 1, by omega⟩, ?_, ?_⟩
   ·refine St.le.vx [0, 1] ?_
    rw [hdt]
   ·simp only []; omega
  ·intro h19
   obtain hk2 : 2 * k = l.length := by omega
   rw [hk2, List.take_length] at hdb
   rw [hk2, List.take_length]
   refine AW.exit ?_
   refine AW.rSC ?_
   refine awOps.cons (awGuard.c1 (c_fix_nearest _ (dotS l) (by omega) (by omega)) ?_)
   refine awOps.rn ?_
   refine awOps.cons (awGuard.c1 (c_fix_answer _ (near (dotS l) 10000) (by omega) (by omega)) ?_)
   refine awOps.rn ?_
   refine AW.rt ?_
   refine LeaveS.c1 [0, 1] (d_fix_face _ _ _) ?_
   refine LeaveS.rt Try.results38 ?_
   trivial
end Go.Proofs

namespace Go.Proofs
open Go Aw
set_option linter.unusedSimpArgs false
set_option linter.unusedVariables false
set_option maxRecDepth 100000
set_option maxHeartbeats 1000000
attribute [local go_sem] Mx.cells Pt.cells
theorem c_matrix_One (gl : List (Nat × AV))  : FnP Try.prog (gl) 19 [] fun r => r = .ret (.agg (Mx.mk 10000 0 0 10000 0 0).cells) := by
 refine FnP.intro Try.func19 rfl rfl (by simp [Try.ntmps19]) ?_
 simp only [argEnv, Try.ntmps19, Try.results19]
 refine AW.rS ?_
 refine AW.rS ?_
 refine AW.rt ?_
 all_goals first | contradiction | rfl | (simp; done) | (simp; omega)
theorem c_matrix_Move (gl : List (Nat × AV)) (x y : Int) : FnP Try.prog (gl) 6 [.int .i64 x, .int .i64 y] fun r => r = .ret (.agg (Mx.mk 10000 0 0 10000 x y).cells) := by
 refine FnP.intro Try.func6 rfl rfl (by simp [Try.ntmps6]) ?_
 simp only [argEnv, Try.ntmps6, Try.results6]
 refine AW.rS ?_
 refine AW.rSC ?_
 refine awOps.cons (awGuard.c1 (c_matrix_One _) ?_)
 refine awOps.rn ?_
 refine AW.rS ?_
 refine AW.rS ?_
 refine AW.rt ?_
 all_goals first | contradiction | rfl | (simp; done) | (simp; omega)
theorem c_matrix_Scale (gl : List (Nat × AV)) (x y : Int) : FnP Try.prog (gl) 7 [.int .i64 x, .int .i64 y] fun r => r = .ret (.agg (Mx.mk x 0 0 y 0 0).cells) := by
 refine FnP.intro Try.func7 rfl rfl (by simp [Try.ntmps7]) ?_
 simp only [argEnv, Try.ntmps7, Try.results7]
 refine AW.rS ?_
 refine AW.rS ?_
 refine AW.rt ?_
 all_goals first | contradiction | rfl | (simp; done) | (simp; omega)
theorem c_matrix_dot (gl : List (Nat × AV)) (l : List Int) (hl : l.length ≤ 8) (he : l.length % 2 = 0) (hb : ∀ x ∈ l, inFix x) (hr : inFix (near (dotS l) 10000)) : FnP Try.prog (gl) 18 [.sl (intsAV l)] fun r => r = .ret (.int .i64 (near (dotS l) 10000)) := by
 refine FnP.intro Try.func18 rfl rfl (by simp [Try.ntmps18]) ?_
 simp only [argEnv, Try.ntmps18, Try.results18]
 obtain ⟨hr1, hr2⟩ := hr
 refine AW.rS ?_
 refine AW.rSC ?_
 refine awOps.cons (awGuard.c1 (c_fix_Dot _ l hl he hb ⟨hr1, hr2⟩) ?_)
 refine awOps.rn ?_
 refine AW.rSC ?_
 refine awOps.cons (awGuard.c1 (c_matrix_need _) ?_)
 refine awOps.rn ?_
 refine AW.seq ?_
 refine AW.rSC ?_
 refine awOps.cons (awGuard.c1 (c_matrix_out _ (near (dotS l) 10000) (by omega) (by omega)) ?_)
 refine awOps.rn ?_
 refine AW.c2 ?_ ?_
 ·intro h12
  simp at h12
 ·intro h12
  refine AW.skip ?_
  refine AW.rS ?_
  refine AW.rt ?_
  all_goals first | contradiction | rfl | (simp; done) | (simp; omega)
theorem h_matrix_caught (gl : List (Nat × AV)) (e : Int) : FnH Try.prog (gl) 15 [.raw .nilIface, .ptr 0 0] ([(0, .cells [.int .i64 e])]) 1 (fun r h n => r = .ret (.tup []) ∧ h = [(0, .cells [.int .i64 e])] ∧ n = 1) := by
 refine FnH.intro Try.func15 rfl rfl (by simp [Try.ntmps15]) ?_
 simp only [argEnv, Try.ntmps15, Try.results15]
 refine AW.rS ?_
 refine AW.block ?_
 refine AW.rS ?_
 refine AW.c2 ?_ ?_
 ·intro h4
  refine AW.rL ?_
  refine wk ?_
  all_goals first | contradiction | rfl | (simp; done) | (simp; omega)
 ·intro h4
  simp at h4
theorem d_matrix_Mul_1 (gl : List (Nat × AV)) (m : Mx) : FnD Try.prog gl 14 [.ptr 1 0, .ptr 0 0] [(0, .cells m.cells), (1, .cells [.int .i64 0])] 2 .ret (fun u hp nx => u = .ret ∧ hp = [(0, .cells m.cells), (1, .cells [.int .i64 0])] ∧ nx = 2) := by
 refine FnD.intro Try.func14 rfl rfl (by simp [Try.ntmps14]) ?_
 simp only [argEnv, Try.ntmps14, Try.results14]
 refine AWD.seq (AWD.regRecover rfl rfl rfl rfl (by simp only [go_sem, seval]) ?_)
 refine awOps.cons (awGuard.cH [1] (h_matrix_caught _ 0) ?_)
 refine awOps.rn ?_
 refine AWD.of ?_
 refine AW.rS ?_
 refine AW.c2 ?_ ?_
 ·intro h5
  simp at h5
 ·intro h5
  refine AW.skip ?_
  refine wk ?_
  trivial
theorem d_matrix_Apply_1 (gl : List (Nat × AV)) (p : Pt) : FnD Try.prog gl 20 [.ptr 1 0, .ptr 0 0] [(0, .cells p.cells), (1, .cells [.int .i64 0])] 2 .ret (fun u hp nx => u = .ret ∧ hp = [(0, .cells p.cells), (1, .cells [.int .i64 0])] ∧ nx = 2) := by
 refine FnD.intro Try.func20 rfl rfl (by simp [Try.ntmps20]) ?_
 simp only [argEnv, Try.ntmps20, Try.results20]
 refine AWD.seq (AWD.regRecover rfl rfl rfl rfl (by simp only [go_sem, seval]) ?_)
 refine awOps.cons (awGuard.cH [1] (h_matrix_caught _ 0) ?_)
 refine awOps.rn ?_
 refine AWD.of ?_
 refine AW.rS ?_
 refine AW.c2 ?_ ?_
 ·intro h5
  simp at h5
 ·intro h5
  refine AW.skip ?_
  refine wk ?_
  trivial
theorem c_matrix_Mul (gl : List (Nat × AV)) (m q : Mx) (hm : m.fixed) (hq : q.fixed) (hr : (mulM m q).fixed) : FnP Try.prog (gl) 5 [.agg m.cells, .agg q.cells] fun r => r = .ret (.tup [.agg (mulM m q).cells, .int .i64 0]) := by
 refine FnP.introN Try.func5 rfl rfl (by simp [Try.ntmps5]) ?_
 simp only [argEnv, Try.ntmps5]
 obtain ⟨ma, mb, mc, md, me, mf⟩ := hm
 obtain ⟨qa, qb, qc, qd, qe, qf⟩ := hq
 obtain ⟨ra, rb, rc, rd, re, rf⟩ := hr
 have k := fix_k
 refine AW.rS ?_
 refine AW.df ?_
 refine AW.rSC ?_
 refine awOps.cons (awGuard.c1 (c_matrix_Check _ m ⟨ma, mb, mc, md, me, mf⟩) ?_)
 refine awOps.rn ?_
 refine awOps.cons (awGuard.c1 (c_matrix_need _) ?_)
 refine awOps.rn ?_
 refine AW.rSC ?_
 refine awOps.cons (awGuard.c1 (c_matrix_Check _ q ⟨qa, qb, qc, qd, qe, qf⟩) ?_)
 refine awOps.rn ?_
 refine awOps.cons (awGuard.c1 (c_matrix_need _) ?_)
 refine awOps.rn ?_
 refine AW.fS [0, 1, 2, 3, 4, 5, 6, 7, 10, 11, 12, 13, 14, 15, 16, 17, 20, 21, 22, 23, 24, 25, 26, 27, 30, 31, 32, 33, 34, 35, 36, 37, 40, 41, 42, 43, 44, 45, 46, 47, 48, 49, 52, 53, 54, 55, 56, 57, 58, 59, 60, 61, 8, 9, 18, 19, 28, 29, 38, 39, 50, 51, 62, 63] [(64, 2), (65, 2), (66, 2)] (hQ := by repeat (first | exact Aw.PI.finN | refine Aw.PI.unblock ?_ | refine Aw.PI.andThen ?_)) ?_
 refine awFun.rn ?_
 refine awFun.bs [14, 16, 18, 20] ?_
 refine awFun.rn ?_
 refine awFun.c1 [21] (c_matrix_dot _ [m.a, q.a, m.b, q.c] (by simp) (by simp) (by simp [ma, qa, mb, qc]) ra) ?_
 refine awFun.rn ?_
 refine awFun.bs [24, 26, 28, 30] ?_
 refine awFun.rn ?_
 refine awFun.c1 [31] (c_matrix_dot _ [m.a, q.b, m.b, q.d] (by simp) (by simp) (by simp [ma, qb, mb, qd]) rb) ?_
 refine awFun.rn ?_
 refine awFun.bs [34, 36, 38, 40] ?_
 refine awFun.rn ?_
 refine awFun.c1 [41] (c_matrix_dot _ [m.c, q.a, m.d, q.c] (by simp) (by simp) (by simp [mc, qa, md, qc]) rc) ?_
 refine awFun.rn ?_
 refine awFun.bs [44, 46, 48, 50] ?_
 refine awFun.rn ?_
 refine awFun.c1 [51] (c_matrix_dot _ [m.c, q.b, m.d, q.d] (by simp) (by simp) (by simp [mc, qb, md, qd]) rd) ?_
 refine awFun.rn ?_
 refine awFun.bs [54, 56, 58, 60, 62] ?_
 refine awFun.rn ?_
 refine awFun.c1 [63] (c_matrix_dot _ [m.e, q.a, m.f, q.c, q.e, 10000] (by simp) (by simp) (by simp [me, qa, mf, qc, qe, k]) re) ?_
 refine awFun.rn ?_
 refine awFun.bs [66, 68, 70, 72, 74] ?_
 refine awFun.rn ?_
 refine awFun.c1 [75] (c_matrix_dot _ [m.e, q.b, m.f, q.d, q.f, 10000] (by simp) (by simp) (by simp [me, qb, mf, qd, qf, k]) rf) ?_
 refine awFun.rn ?_
 rw [Aw.awFun_nil]
 refine awPlan.rn ?_
 refine AW.rt ?_
 refine LeaveS.c1 [2, 3] (d_matrix_Mul_1 _ (mulM m q)) ?_
 refine LeaveS.rt Try.results5 ?_
 trivial
theorem c_matrix_Apply (gl : List (Nat × AV)) (m : Mx) (p : Pt) (hm : m.fixed) (hp : p.fixed) (hr : (ptM m p).fixed) : FnP Try.prog (gl) 9 [.agg m.cells, .agg p.cells] fun r => r = .ret (.tup [.agg (ptM m p).cells, .int .i64 0]) := by
 refine FnP.introN Try.func9 rfl rfl (by simp [Try.ntmps9]) ?_
 simp only [argEnv, Try.ntmps9]
 obtain ⟨ma, mb, mc, md, me, mf⟩ := hm
 obtain ⟨⟨px1, px2⟩, ⟨py1, py2⟩⟩ := hp
 obtain ⟨ra, rb⟩ := hr
 have hpx : inFix p.x := ⟨px1, px2⟩
 have hpy : inFix p.y := ⟨py1, py2⟩
 have k := fix_k
 refine AW.rS ?_
 refine AW.df ?_
 refine AW.rSC ?_
 refine awOps.cons (awGuard.c1 (c_matrix_Check _ m ⟨ma, mb, mc, md, me, mf⟩) ?_)
 refine awOps.rn ?_
 refine awOps.cons (awGuard.c1 (c_matrix_need _) ?_)
 refine awOps.rn ?_
 refine AW.seq ?_
 refine AW.rSC ?_
 refine awOps.cons (awGuard.c1 (c_matrix_out _ p.x (by omega) (by omega)) ?_)
 refine awOps.rn ?_
 refine awOps.cons (awGuard.cG (fun hg => c_matrix_out _ p.y (by omega) (by omega)) ?_)
 refine awOps.rn ?_
 refine AW.c2 ?_ ?_
 ·intro h14
  simp at h14
 ·intro h14
  refine AW.skip ?_
  refine AW.fS [0, 1, 2, 3, 4, 5, 6, 7, 8, 9, 12, 13, 14, 15, 16, 17, 18, 19, 20, 21, 10, 11, 22, 23] [(24, 2), (25, 2), (26, 2)] (hQ := by repeat (first | exact Aw.PI.finN | refine Aw.PI.unblock ?_ | refine Aw.PI.andThen ?_)) ?_
  refine awFun.rn ?_
  refine awFun.bs [20, 22, 24, 26, 28] ?_
  refine awFun.rn ?_
  refine awFun.c1 [29] (c_matrix_dot _ [p.x, m.a, p.y, m.c, m.e, 10000] (by simp) (by simp) (by simp [ma, mc, me, k, hpx, hpy]) ra) ?_
  refine awFun.rn ?_
  refine awFun.bs [32, 34, 36, 38, 40] ?_
  refine awFun.rn ?_
  refine awFun.c1 [41] (c_matrix_dot _ [p.x, m.b, p.y, m.d, m.f, 10000] (by simp) (by simp) (by simp [mb, md, mf, k, hpx, hpy]) rb) ?_
  refine awFun.rn ?_
  rw [Aw.awFun_nil]
  refine awPlan.rn ?_
  refine AW.rt ?_
  refine LeaveS.c1 [2, 3] (d_matrix_Apply_1 _ (ptM m p)) ?_
  refine LeaveS.rt Try.results9 ?_
  trivial
theorem c_folianttop_whole7 (gl : List (Nat × AV)) (m : Mx) : FnP Try.prog (gl) 8 [.agg m.cells] fun r => r = .ret (.bool m.whole7) := by
 refine FnP.intro Try.func8 rfl rfl (by simp [Try.ntmps8]) ?_
 simp only [argEnv, Try.ntmps8, Try.results8]
 refine AW.rS ?_
 refine AW.seq ?_
 refine AW.rS ?_
 refine AW.block ?_
 refine AW.un 4 ?_
 refine AW.rS ?_
 refine AW.seq ?_
 refine AW.c2 ?_ ?_
 ·intro h8
  refine AW.skip ?_
  refine AW.seq ?_
  refine AW.block ?_
  refine AW.rS ?_
  refine AW.rS ?_
  refine AW.c2 ?_ ?_
  ·intro h14
   refine AW.rS ?_
   refine AW.rt ?_
   rw [Mx.whole7, w7_no (x := m.a) (by omega)]
   rfl
  ·intro h14
   refine AW.skip ?_
   refine AW.rL ?_
   refine AWR.s ?_
   refine AW.rS ?_
   refine AW.seq ?_
   refine AW.c2 ?_ ?_
   ·intro h23
    refine AW.skip ?_
    refine AW.seq ?_
    refine AW.block ?_
    refine AW.rS ?_
    refine AW.rS ?_
    refine AW.c2 ?_ ?_
    ·intro h29
     refine AW.rS ?_
     refine AW.rt ?_
     rw [Mx.whole7, w7_no (x := m.b) (by omega), Bool.and_false]
     rfl
    ·intro h29
     refine AW.skip ?_
     refine AW.rL ?_
     refine AWR.s ?_
     refine AW.rS ?_
     refine AW.seq ?_
     refine AW.c2 ?_ ?_
     ·intro h38
      refine AW.skip ?_
      refine AW.seq ?_
      refine AW.block ?_
      refine AW.rS ?_
      refine AW.rS ?_
      refine AW.c2 ?_ ?_
      ·intro h44
       refine AW.rS ?_
       refine AW.rt ?_
       rw [Mx.whole7, w7_no (x := m.c) (by omega), Bool.and_false]
       rfl
      ·intro h44
       refine AW.skip ?_
       refine AW.rL ?_
       refine AWR.s ?_
       refine AW.rS ?_
       refine AW.seq ?_
       refine AW.c2 ?_ ?_
       ·intro h53
        refine AW.skip ?_
        refine AW.seq ?_
        refine AW.block ?_
        refine AW.rS ?_
        refine AW.rS ?_
        refine AW.c2 ?_ ?_
        ·intro h59
         refine AW.rS ?_
         refine AW.rt ?_
         rw [Mx.whole7, w7_no (x := m.d) (by omega), Bool.and_false]
         rfl
        ·intro h59
         refine AW.skip ?_
         refine AW.rL ?_
         refine AWR.s ?_
         refine AW.rS ?_
         refine AW.seq ?_
         refine AW.c2 ?_ ?_
         ·intro h68
          first | contradiction | (simp at h68; done) | (exfalso; omega) | (exfalso; revert h68; decide)
         ·intro h68
          refine AW.exit ?_
          refine AW.rS ?_
          refine AW.rt ?_
          rw [Mx.whole7, w7_yes (x := m.a) (by omega), w7_yes (x := m.b) (by omega), w7_yes (x := m.c) (by omega), w7_yes (x := m.d) (by omega)]
          simp only [Bool.cond_false_right, Bool.true_and]
       ·intro h53
        first | contradiction | (simp at h53; done) | (exfalso; omega) | (exfalso; revert h53; decide)
     ·intro h38
      first | contradiction | (simp at h38; done) | (exfalso; omega) | (exfalso; revert h38; decide)
   ·intro h23
    first | contradiction | (simp at h23; done) | (exfalso; omega) | (exfalso; revert h23; decide)
 ·intro h8
  first | contradiction | (simp at h8; done) | (exfalso; omega) | (exfalso; revert h8; decide)
end Go.Proofs

namespace Aw
open Go
def numO (n : Int) : Pob := if n.tmod 10000 = 0 then intO (n.tdiv 10000) else realO n
def listM (m : Mx) : List Pob := [numO m.a, numO m.b, numO m.c, numO m.d, numO m.e, numO m.f]
def readM (l : List Pob) : Mx := ⟨numI (l.getD 0 Pob.null), numI (l.getD 1 Pob.null), numI (l.getD 2 Pob.null), numI (l.getD 3 Pob.null), numI (l.getD 4 Pob.null), numI (l.getD 5 Pob.null)⟩
theorem numO_ok {n : Int} (h : inFix n) : numB (numO n) = true ∧ numI (numO n) = n ∧ (-9223372036854775808 ≤ (numO n).num ∧ (numO n).num ≤ 9223372036854775807) := by
 obtain ⟨h1, h2⟩ := h
 unfold numO
 have hs : (10000 : Int).sign = 1 := rfl
 have hn : ((10000 : Int).natAbs : Int) = 10000 := rfl
 split
 ·rename_i h0
  have hq : n.tdiv 10000 * 10000 = n := by
   have := Int.mul_tdiv_add_tmod n 10000
   omega
  have hb : numB (intO (n.tdiv 10000)) = true := by
   rw [numB_int rfl, Bool.and_eq_true]
   exact ⟨decide_eq_true (by simp only [intO, Pob.num]; omega), decide_eq_true (by simp only [intO, Pob.num]; omega)⟩
  refine ⟨hb, ?_, ?_⟩
  ·rw [numI, if_pos hb, if_pos (show (intO (n.tdiv 10000)).kind = 2 from rfl)]
   exact hq
  ·simp only [intO, Pob.num]
   omega
 ·have hb : numB (realO n) = true := by
   rw [numB_real rfl, Bool.and_eq_true]
   exact ⟨decide_eq_true (by simp only [realO, Pob.num]; omega), decide_eq_true (by simp only [realO, Pob.num]; omega)⟩
  refine ⟨hb, ?_, ?_⟩
  ·rw [numI, if_pos hb, if_neg (show ¬ (realO n).kind = 2 from (by decide : ¬ (3 : Int) = 2))]
   rfl
  ·simp only [realO, Pob.num]
   omega
theorem readM_list {m : Mx} (h : m.fixed) : readM (listM m) = m := by
 obtain ⟨a, b, c, d, e, f⟩ := h
 simp only [readM, listM, List.getD_cons_zero, List.getD_cons_succ, (numO_ok a).2.1, (numO_ok b).2.1, (numO_ok c).2.1, (numO_ok d).2.1, (numO_ok e).2.1, (numO_ok f).2.1]
theorem listM_ok {m : Mx} (h : m.fixed) : ∀ o ∈ listM m, numB o = true ∧ (-9223372036854775808 ≤ o.num ∧ o.num ≤ 9223372036854775807) := by
 obtain ⟨a, b, c, d, e, f⟩ := h
 intro o ho
 simp only [listM, List.mem_cons, List.not_mem_nil, or_false] at ho
 rcases ho with rfl | rfl | rfl | rfl | rfl | rfl
 ·exact ⟨(numO_ok a).1, (numO_ok a).2.2⟩
 ·exact ⟨(numO_ok b).1, (numO_ok b).2.2⟩
 ·exact ⟨(numO_ok c).1, (numO_ok c).2.2⟩
 ·exact ⟨(numO_ok d).1, (numO_ok d).2.2⟩
 ·exact ⟨(numO_ok e).1, (numO_ok e).2.2⟩
 ·exact ⟨(numO_ok f).1, (numO_ok f).2.2⟩
theorem numO_pos {n : Int} (h : n.tmod 10000 = 0) : numO n = intO (n.tdiv 10000) := if_pos h
theorem numO_neg {n : Int} (h : ¬ n.tmod 10000 = 0) : numO n = realO n := if_neg h
theorem numO_bulk (n : Int) : (numO n).bulk = 1 := by
 unfold numO
 split <;> rfl
theorem listM_bulk (m : Mx) : (arrO (listM m)).bulk ≤ 16777216 := by
 rw [Pob.bulk_eq]
 simp only [arrO, Pob.keys, Pob.kids, listM, bulks, numO_bulk, List.length_cons, List.length_nil]
 omega
end Aw

namespace Go.Proofs
open Go Aw
set_option linter.unusedSimpArgs false
set_option linter.unusedVariables false
set_option maxRecDepth 100000
set_option maxHeartbeats 1000000
attribute [local go_sem] Mx.cells Pt.cells
theorem c_matrix_Object (gl : List (Nat × AV)) (m : Mx) (hm : m.fixed) (ha : m.a.tmod 10000 = 0) (hb : m.b.tmod 10000 = 0) (hc : m.c.tmod 10000 = 0) (hd : m.d.tmod 10000 = 0) : FnP Try.prog (gl) 11 [.agg m.cells] fun r => r = .ret (.agg (arrO (listM m)).cells) := by
 refine FnP.intro Try.func11 rfl rfl (by simp [Try.ntmps11]) ?_
 simp only [argEnv, Try.ntmps11, Try.results11]
 obtain ⟨⟨xa, ya⟩, ⟨xb, yb⟩, ⟨xc, yc⟩, ⟨xd, yd⟩, ⟨xe, ye⟩, ⟨xf, yf⟩⟩ := hm
 have qa := tq_bnd (n := m.a) (by omega) (by omega)
 have qb := tq_bnd (n := m.b) (by omega) (by omega)
 have qc := tq_bnd (n := m.c) (by omega) (by omega)
 have qd := tq_bnd (n := m.d) (by omega) (by omega)
 have qe := tq_bnd (n := m.e) (by omega) (by omega)
 have qf := tq_bnd (n := m.f) (by omega) (by omega)
 refine AW.rS ?_
 refine AW.rS ?_
 refine AW.seq ?_
 refine AW.rSC ?_
 refine awOps.cons (awGuard.cH [0] (h_matrix_parts _ m) ?_)
 refine awOps.rn ?_
 refine AW.block ?_
 refine AW.un 6 ?_
 refine AW.rS ?_
 refine AW.seq ?_
 refine AW.c2 ?_ ?_
 ·intro h11
  refine AW.skip ?_
  refine AW.seq ?_
  refine AW.block ?_
  refine AW.rS ?_
  refine AW.rS ?_
  refine AW.c2 ?_ ?_
  ·intro h17
   refine AW.rLC ?_
   refine awOps.cons (awGuard.c1 (c_value_Int ..) ?_)
   refine awOps.rn ?_
   refine AW.rL ?_
   refine AWR.s ?_
   refine AW.rS ?_
   refine AW.seq ?_
   refine AW.c2 ?_ ?_
   ·intro h25
    refine AW.skip ?_
    refine AW.seq ?_
    refine AW.block ?_
    refine AW.rS ?_
    refine AW.rS ?_
    refine AW.c2 ?_ ?_
    ·intro h31
     refine AW.rLC ?_
     refine awOps.cons (awGuard.c1 (c_value_Int ..) ?_)
     refine awOps.rn ?_
     refine AW.rL ?_
     refine AWR.s ?_
     refine AW.rS ?_
     refine AW.seq ?_
     refine AW.c2 ?_ ?_
     ·intro h39
      refine AW.skip ?_
      refine AW.seq ?_
      refine AW.block ?_
      refine AW.rS ?_
      refine AW.rS ?_
      refine AW.c2 ?_ ?_
      ·intro h45
       refine AW.rLC ?_
       refine awOps.cons (awGuard.c1 (c_value_Int ..) ?_)
       refine awOps.rn ?_
       refine AW.rL ?_
       refine AWR.s ?_
       refine AW.rS ?_
       refine AW.seq ?_
       refine AW.c2 ?_ ?_
       ·intro h53
        refine AW.skip ?_
        refine AW.seq ?_
        refine AW.block ?_
        refine AW.rS ?_
        refine AW.rS ?_
        refine AW.c2 ?_ ?_
        ·intro h59
         refine AW.rLC ?_
         refine awOps.cons (awGuard.c1 (c_value_Int ..) ?_)
         refine awOps.rn ?_
         refine AW.rL ?_
         refine AWR.s ?_
         refine AW.rS ?_
         refine AW.seq ?_
         refine AW.c2 ?_ ?_
         ·intro h67
          refine AW.skip ?_
          refine AW.seq ?_
          refine AW.block ?_
          refine AW.rS ?_
          refine AW.rS ?_
          refine AW.c2 ?_ ?_
          ·intro h73
           refine AW.rLC ?_
           refine awOps.cons (awGuard.c1 (c_value_Int ..) ?_)
           refine awOps.rn ?_
           refine AW.rL ?_
           refine AWR.s ?_
           refine AW.rS ?_
           refine AW.seq ?_
           refine AW.c2 ?_ ?_
           ·intro h81
            refine AW.skip ?_
            refine AW.seq ?_
            refine AW.block ?_
            refine AW.rS ?_
            refine AW.rS ?_
            refine AW.c2 ?_ ?_
            ·intro h87
             have hl : listM m = [intO (m.a.tdiv 10000), intO (m.b.tdiv 10000), intO (m.c.tdiv 10000), intO (m.d.tdiv 10000), intO (m.e.tdiv 10000), intO (m.f.tdiv 10000)] := by rw [listM, numO_pos ha, numO_pos hb, numO_pos hc, numO_pos hd, numO_pos h73, numO_pos h87]
             refine AW.rLC ?_
             refine awOps.cons (awGuard.c1 (c_value_Int ..) ?_)
             refine awOps.rn ?_
             refine AW.rL ?_
             refine AWR.s ?_
             refine AW.rS ?_
             refine AW.seq ?_
             refine AW.c2 ?_ ?_
             ·intro h95
              first | contradiction | (simp at h95; done) | (exfalso; omega) | (exfalso; revert h95; decide)
             ·intro h95
              refine AW.exit ?_
              refine AW.rSC ?_
              refine awOps.cons (awGuard.c1 (by have h := c_value_Array gl (listM m) (listM_bulk m); rw [hl] at h; exact h) ?_)
              refine awOps.rn ?_
              refine AW.rt ?_
              rw [hl]
            ·intro h87
             have hl : listM m = [intO (m.a.tdiv 10000), intO (m.b.tdiv 10000), intO (m.c.tdiv 10000), intO (m.d.tdiv 10000), intO (m.e.tdiv 10000), realO m.f] := by rw [listM, numO_pos ha, numO_pos hb, numO_pos hc, numO_pos hd, numO_pos h73, numO_neg h87]
             refine AW.rLC ?_
             refine awOps.cons (awGuard.c1 (c_value_Real ..) ?_)
             refine awOps.rn ?_
             refine AW.rL ?_
             refine AWR.s ?_
             refine AW.rS ?_
             refine AW.seq ?_
             refine AW.c2 ?_ ?_
             ·intro h109
              first | contradiction | (simp at h109; done) | (exfalso; omega) | (exfalso; revert h109; decide)
             ·intro h109
              refine AW.exit ?_
              refine AW.rSC ?_
              refine awOps.cons (awGuard.c1 (by have h := c_value_Array gl (listM m) (listM_bulk m); rw [hl] at h; exact h) ?_)
              refine awOps.rn ?_
              refine AW.rt ?_
              rw [hl]
           ·intro h81
            first | contradiction | (simp at h81; done) | (exfalso; omega) | (exfalso; revert h81; decide)
          ·intro h73
           refine AW.rLC ?_
           refine awOps.cons (awGuard.c1 (c_value_Real ..) ?_)
           refine awOps.rn ?_
           refine AW.rL ?_
           refine AWR.s ?_
           refine AW.rS ?_
           refine AW.seq ?_
           refine AW.c2 ?_ ?_
           ·intro h123
            refine AW.skip ?_
            refine AW.seq ?_
            refine AW.block ?_
            refine AW.rS ?_
            refine AW.rS ?_
            refine AW.c2 ?_ ?_
            ·intro h129
             have hl : listM m = [intO (m.a.tdiv 10000), intO (m.b.tdiv 10000), intO (m.c.tdiv 10000), intO (m.d.tdiv 10000), realO m.e, intO (m.f.tdiv 10000)] := by rw [listM, numO_pos ha, numO_pos hb, numO_pos hc, numO_pos hd, numO_neg h73, numO_pos h129]
             refine AW.rLC ?_
             refine awOps.cons (awGuard.c1 (c_value_Int ..) ?_)
             refine awOps.rn ?_
             refine AW.rL ?_
             refine AWR.s ?_
             refine AW.rS ?_
             refine AW.seq ?_
             refine AW.c2 ?_ ?_
             ·intro h137
              first | contradiction | (simp at h137; done) | (exfalso; omega) | (exfalso; revert h137; decide)
             ·intro h137
              refine AW.exit ?_
              refine AW.rSC ?_
              refine awOps.cons (awGuard.c1 (by have h := c_value_Array gl (listM m) (listM_bulk m); rw [hl] at h; exact h) ?_)
              refine awOps.rn ?_
              refine AW.rt ?_
              rw [hl]
            ·intro h129
             have hl : listM m = [intO (m.a.tdiv 10000), intO (m.b.tdiv 10000), intO (m.c.tdiv 10000), intO (m.d.tdiv 10000), realO m.e, realO m.f] := by rw [listM, numO_pos ha, numO_pos hb, numO_pos hc, numO_pos hd, numO_neg h73, numO_neg h129]
             refine AW.rLC ?_
             refine awOps.cons (awGuard.c1 (c_value_Real ..) ?_)
             refine awOps.rn ?_
             refine AW.rL ?_
             refine AWR.s ?_
             refine AW.rS ?_
             refine AW.seq ?_
             refine AW.c2 ?_ ?_
             ·intro h151
              first | contradiction | (simp at h151; done) | (exfalso; omega) | (exfalso; revert h151; decide)
             ·intro h151
              refine AW.exit ?_
              refine AW.rSC ?_
              refine awOps.cons (awGuard.c1 (by have h := c_value_Array gl (listM m) (listM_bulk m); rw [hl] at h; exact h) ?_)
              refine awOps.rn ?_
              refine AW.rt ?_
              rw [hl]
           ·intro h123
            first | contradiction | (simp at h123; done) | (exfalso; omega) | (exfalso; revert h123; decide)
         ·intro h67
          first | contradiction | (simp at h67; done) | (exfalso; omega) | (exfalso; revert h67; decide)
        ·intro h59
         exact absurd hd h59
       ·intro h53
        first | contradiction | (simp at h53; done) | (exfalso; omega) | (exfalso; revert h53; decide)
      ·intro h45
       exact absurd hc h45
     ·intro h39
      first | contradiction | (simp at h39; done) | (exfalso; omega) | (exfalso; revert h39; decide)
    ·intro h31
     exact absurd hb h31
   ·intro h25
    first | contradiction | (simp at h25; done) | (exfalso; omega) | (exfalso; revert h25; decide)
  ·intro h17
   exact absurd ha h17
 ·intro h11
  first | contradiction | (simp at h11; done) | (exfalso; omega) | (exfalso; revert h11; decide)
end Go.Proofs

namespace Go.Proofs
open Go Aw
set_option linter.unusedSimpArgs false
set_option linter.unusedVariables false
set_option maxRecDepth 100000
set_option maxHeartbeats 1000000
theorem six {l : List Int} (h : l.length = 6) : ∃ a b c d e f, l = [a, b, c, d, e, f] := by
 match l, h with
 | [a, b, c, d, e, f], _ => exact ⟨a, b, c, d, e, f, rfl⟩
theorem two {l : List Int} (h : l.length = 2) : ∃ a b, l = [a, b] := by
 match l, h with
 | [a, b], _ => exact ⟨a, b, rfl⟩
theorem eqs_mx (m : Mx) (h : m.fixed) : EqS Try.prog 23 (.agg m.cells) (.agg m.cells) true := by
 have hc : Try.prog.cellsOf 23 = 6 := by kernel_rfl
 have hi : Try.prog.cellsOf 2 = 1 := by kernel_rfl
 have w : ∀ x : Int, inFix x → (Lit.int .i64 x).wf = true := fun x hx => by
  obtain ⟨h1, h2⟩ := hx
  have e1 : IntKind.i64.min = -9223372036854775808 := by decide
  have e2 : IntKind.i64.max = 9223372036854775807 := by decide
  simp only [Lit.wf, e1, e2, Bool.and_eq_true, decide_eq_true_eq]
  omega
 have hw : ∀ x ∈ [m.a, m.b, m.c, m.d, m.e, m.f], (Lit.int .i64 x).wf = true := by
  obtain ⟨a, b, c, d, e, f⟩ := h
  intro x hx
  simp only [List.mem_cons, List.not_mem_nil, or_false] at hx
  rcases hx with rfl | rfl | rfl | rfl | rfl | rfl <;> exact w _ (by assumption)
 have h := EqS.of (P := Try.prog) (t := 23) (l1 := [m.a, m.b, m.c, m.d, m.e, m.f]) (l2 := [m.a, m.b, m.c, m.d, m.e, m.f]) (by kernel_rfl) (by kernel_rfl)
  (fun l hl => by simp [Value.formed, Try.underlying23, hc, hl])
  (fun l hl hl2 => by
   obtain ⟨a, b, c, d, e, f, rfl⟩ := six hl
   simp only [List.mem_cons, List.not_mem_nil, or_false, forall_eq_or_imp, forall_eq] at hl2
   obtain ⟨k1, k2, k3, k4, k5, k6⟩ := hl2
   simp [Program.keyLits, Try.underlying23, Try.underlying2, hc, hi, k1, k2, k3, k4, k5, k6])
  rfl hw hw
 simpa [Mx.cells] using h
theorem eqs_pt (m : Pt) (h : m.fixed) : EqS Try.prog 25 (.agg m.cells) (.agg m.cells) true := by
 have hc : Try.prog.cellsOf 25 = 2 := by kernel_rfl
 have hi : Try.prog.cellsOf 2 = 1 := by kernel_rfl
 have w : ∀ x : Int, inFix x → (Lit.int .i64 x).wf = true := fun x hx => by
  obtain ⟨h1, h2⟩ := hx
  have e1 : IntKind.i64.min = -9223372036854775808 := by decide
  have e2 : IntKind.i64.max = 9223372036854775807 := by decide
  simp only [Lit.wf, e1, e2, Bool.and_eq_true, decide_eq_true_eq]
  omega
 have hw : ∀ x ∈ [m.x, m.y], (Lit.int .i64 x).wf = true := by
  obtain ⟨a, b⟩ := h
  intro x hx
  simp only [List.mem_cons, List.not_mem_nil, or_false] at hx
  rcases hx with rfl | rfl <;> exact w _ (by assumption)
 have h := EqS.of (P := Try.prog) (t := 25) (l1 := [m.x, m.y]) (l2 := [m.x, m.y]) (by kernel_rfl) (by kernel_rfl)
  (fun l hl => by simp [Value.formed, Try.underlying25, hc, hl])
  (fun l hl hl2 => by
   obtain ⟨a, b, rfl⟩ := two hl
   simp only [List.mem_cons, List.not_mem_nil, or_false, forall_eq_or_imp, forall_eq] at hl2
   obtain ⟨k1, k2⟩ := hl2
   simp [Program.keyLits, Try.underlying25, Try.underlying2, hc, hi, k1, k2])
  rfl hw hw
 simpa [Pt.cells] using h
end Go.Proofs

namespace Go.Proofs
open Go Aw
set_option linter.unusedSimpArgs false
set_option linter.unusedVariables false
set_option maxRecDepth 100000
set_option maxHeartbeats 1000000
attribute [local go_sem] Mx.cells Pt.cells
theorem c_matrix_Read (gl : List (Nat × AV)) (l : List Pob) (hl : l.length = 6) (hb : ∀ o ∈ l, numB o = true ∧ (-9223372036854775808 ≤ o.num ∧ o.num ≤ 9223372036854775807)) : FnP Try.prog (gl) 10 [.agg [.int .i64 6, .int .i64 0, .int .i64 0, .str [], .sl [], .sl (objsAV l)]] fun r => r = .ret (.tup [.agg (readM l).cells, .int .i64 0]) := by
 refine FnP.intro Try.func10 rfl rfl (by simp [Try.ntmps10]) ?_
 simp only [argEnv, Try.ntmps10, Try.results10]
 have hk : ∀ k, k < 6 → numB (l.getD k Pob.null) = true ∧ (-9223372036854775808 ≤ (l.getD k Pob.null).num ∧ (l.getD k Pob.null).num ≤ 9223372036854775807) := fun k h => hb _ (by
  rw [List.getD_eq_getElem?_getD, List.getElem?_eq_getElem (by omega)]
  exact List.getElem_mem _)
 refine AW.rS ?_
 refine AW.seq ?_
 refine AW.rS ?_
 refine AW.c2 ?_ ?_
 ·intro h4
  simp at h4
 ·intro h4
  refine AW.skip ?_
  refine AW.rS ?_
  refine AW.rSC ?_
  refine awOps.cons (awGuard.cH [2] (h_matrix_parts _ (Mx.mk 0 0 0 0 0 0)) ?_)
  refine awOps.rn ?_
  refine AW.seq ?_
  refine AW.rS ?_
  refine AW.c2 ?_ ?_
  ·intro h15
   exfalso; omega
  ·intro h15
   refine AW.skip ?_
   refine AW.seq ?_
   refine AW.rS ?_
   refine AW.block ?_
   refine AW.un 6 ?_
   refine AW.rS ?_
   refine AW.seq ?_
   refine AW.c2 ?_ ?_
   ·intro h26
    refine AW.skip ?_
    refine AW.seq ?_
    refine AW.block ?_
    refine AW.rS ?_
    refine AW.rSC ?_
    refine awOps.cons (awGuard.c1 (c_value_Number _ (l.getD 0 Pob.null) (hk 0 (by decide)).2) ?_)
    refine awOps.rn ?_
    refine AW.seq ?_
    refine AW.rS ?_
    refine AW.c2 ?_ ?_
    ·intro h36
     exfalso; rw [(hk 0 (by decide)).1] at h36; cases h36
    ·intro h36
     refine AW.skip ?_
     refine AW.rL ?_
     refine AW.rL ?_
     refine AWR.s ?_
     refine AW.rS ?_
     refine AW.seq ?_
     refine AW.c2 ?_ ?_
     ·intro h46
      refine AW.skip ?_
      refine AW.seq ?_
      refine AW.block ?_
      refine AW.rS ?_
      refine AW.rSC ?_
      refine awOps.cons (awGuard.c1 (c_value_Number _ (l.getD 1 Pob.null) (hk 1 (by decide)).2) ?_)
      refine awOps.rn ?_
      refine AW.seq ?_
      refine AW.rS ?_
      refine AW.c2 ?_ ?_
      ·intro h56
       exfalso; rw [(hk 1 (by decide)).1] at h56; cases h56
      ·intro h56
       refine AW.skip ?_
       refine AW.rL ?_
       refine AW.rL ?_
       refine AWR.s ?_
       refine AW.rS ?_
       refine AW.seq ?_
       refine AW.c2 ?_ ?_
       ·intro h66
        refine AW.skip ?_
        refine AW.seq ?_
        refine AW.block ?_
        refine AW.rS ?_
        refine AW.rSC ?_
        refine awOps.cons (awGuard.c1 (c_value_Number _ (l.getD 2 Pob.null) (hk 2 (by decide)).2) ?_)
        refine awOps.rn ?_
        refine AW.seq ?_
        refine AW.rS ?_
        refine AW.c2 ?_ ?_
        ·intro h76
         exfalso; rw [(hk 2 (by decide)).1] at h76; cases h76
        ·intro h76
         refine AW.skip ?_
         refine AW.rL ?_
         refine AW.rL ?_
         refine AWR.s ?_
         refine AW.rS ?_
         refine AW.seq ?_
         refine AW.c2 ?_ ?_
         ·intro h86
          refine AW.skip ?_
          refine AW.seq ?_
          refine AW.block ?_
          refine AW.rS ?_
          refine AW.rSC ?_
          refine awOps.cons (awGuard.c1 (c_value_Number _ (l.getD 3 Pob.null) (hk 3 (by decide)).2) ?_)
          refine awOps.rn ?_
          refine AW.seq ?_
          refine AW.rS ?_
          refine AW.c2 ?_ ?_
          ·intro h96
           exfalso; rw [(hk 3 (by decide)).1] at h96; cases h96
          ·intro h96
           refine AW.skip ?_
           refine AW.rL ?_
           refine AW.rL ?_
           refine AWR.s ?_
           refine AW.rS ?_
           refine AW.seq ?_
           refine AW.c2 ?_ ?_
           ·intro h106
            refine AW.skip ?_
            refine AW.seq ?_
            refine AW.block ?_
            refine AW.rS ?_
            refine AW.rSC ?_
            refine awOps.cons (awGuard.c1 (c_value_Number _ (l.getD 4 Pob.null) (hk 4 (by decide)).2) ?_)
            refine awOps.rn ?_
            refine AW.seq ?_
            refine AW.rS ?_
            refine AW.c2 ?_ ?_
            ·intro h116
             exfalso; rw [(hk 4 (by decide)).1] at h116; cases h116
            ·intro h116
             refine AW.skip ?_
             refine AW.rL ?_
             refine AW.rL ?_
             refine AWR.s ?_
             refine AW.rS ?_
             refine AW.seq ?_
             refine AW.c2 ?_ ?_
             ·intro h126
              refine AW.skip ?_
              refine AW.seq ?_
              refine AW.block ?_
              refine AW.rS ?_
              refine AW.rSC ?_
              refine awOps.cons (awGuard.c1 (c_value_Number _ (l.getD 5 Pob.null) (hk 5 (by decide)).2) ?_)
              refine awOps.rn ?_
              refine AW.seq ?_
              refine AW.rS ?_
              refine AW.c2 ?_ ?_
              ·intro h136
               exfalso; rw [(hk 5 (by decide)).1] at h136; cases h136
              ·intro h136
               refine AW.skip ?_
               refine AW.rL ?_
               refine AW.rL ?_
               refine AWR.s ?_
               refine AW.rS ?_
               refine AW.seq ?_
               refine AW.c2 ?_ ?_
               ·intro h146
                first | contradiction | (simp at h146; done) | (exfalso; omega) | (exfalso; revert h146; decide)
               ·intro h146
                refine AW.exit ?_
                refine AW.rS ?_
                refine AW.rt ?_
                all_goals first | contradiction | rfl | (simp; done) | (simp; omega)
             ·intro h126
              first | contradiction | (simp at h126; done) | (exfalso; omega) | (exfalso; revert h126; decide)
           ·intro h106
            first | contradiction | (simp at h106; done) | (exfalso; omega) | (exfalso; revert h106; decide)
         ·intro h86
          first | contradiction | (simp at h86; done) | (exfalso; omega) | (exfalso; revert h86; decide)
       ·intro h66
        first | contradiction | (simp at h66; done) | (exfalso; omega) | (exfalso; revert h66; decide)
     ·intro h46
      first | contradiction | (simp at h46; done) | (exfalso; omega) | (exfalso; revert h46; decide)
   ·intro h26
    first | contradiction | (simp at h26; done) | (exfalso; omega) | (exfalso; revert h26; decide)
theorem c_read_list (gl : List (Nat × AV)) (m : Mx) (h : m.fixed) : FnP Try.prog gl 10 [.agg (arrO (listM m)).cells] fun r => r = .ret (.tup [.agg m.cells, .int .i64 0]) := by
 have hc := c_matrix_Read gl (listM m) rfl (listM_ok h)
 rw [readM_list h] at hc
 exact hc
theorem c_mul_up (gl : List (Nat × AV)) (P Q : Mx) (h1 : P.up.fixed) (h2 : Q.up.fixed) (h3 : (P.mul Q).up.fixed) : FnP Try.prog gl 5 [.agg P.up.cells, .agg Q.up.cells] fun r => r = .ret (.tup [.agg (P.mul Q).up.cells, .int .i64 0]) := by
 have h := c_matrix_Mul gl P.up Q.up h1 h2 (by rw [mulM_up]; exact h3)
 rw [mulM_up] at h
 exact h
theorem c_apply_up (gl : List (Nat × AV)) (Q : Mx) (p : Pt) (h1 : Q.up.fixed) (h2 : p.fixed) (h3 : (Q.im p).fixed) : FnP Try.prog gl 9 [.agg Q.up.cells, .agg p.cells] fun r => r = .ret (.tup [.agg (Q.im p).cells, .int .i64 0]) := by
 have h := c_matrix_Apply gl Q.up p h1 h2 (by rw [ptM_up]; exact h3)
 rw [ptM_up] at h
 exact h
theorem c_law_TopWays (gl : List (Nat × AV)) (a b c : Mx) (p : Pt) : FnP Try.prog (gl) 3 [.agg a.cells, .agg b.cells, .agg c.cells, .agg p.cells] fun r => r = .ret (.bool true) := by
 refine FnP.intro Try.func3 rfl rfl (by simp [Try.ntmps3]) ?_
 simp only [argEnv, Try.ntmps3, Try.results3]
 refine AW.rS ?_
 refine AW.trim [4, 5, 6, 7] ?_
 refine AW.rSC ?_
 refine awOps.cons (awGuard.c1 (c_matrix_Move _ 5 6) ?_)
 refine awOps.rn ?_
 refine awOps.cons (awGuard.c1 (c_matrix_Scale _ 20000 30000) ?_)
 refine awOps.rn ?_
 refine awOps.cons (awGuard.c1 (c_mul_up _ (Mx.mk 1 0 0 1 5 6) (Mx.mk 2 0 0 3 0 0) (by decide) (by decide) (by decide)) ?_)
 refine awOps.rn ?_
 refine AW.trim [4, 5, 6, 7, 9, 10] ?_
 refine AW.seq ?_
 refine AW.rS ?_
 refine AW.trim [4, 5, 6, 7, 51] ?_
 refine AW.c2 ?_ ?_
 ·intro h11
  exfalso; revert h11; decide
 ·intro h11
  refine AW.skip ?_
  refine AW.seq ?_
  refine AW.rSC ?_
  refine awOps.cons (awGuard.c1 (c_folianttop_whole7 _ a) ?_)
  refine awOps.rn ?_
  refine awOps.cons (awGuard.cG (fun hg => c_folianttop_whole7 _ b) ?_)
  refine awOps.rn ?_
  refine awOps.cons (awGuard.cG (fun hg => c_folianttop_whole7 _ c) ?_)
  refine awOps.rn ?_
  refine AW.trim [4, 5, 6, 7, 84] ?_
  refine AW.c2 ?_ ?_
  ·intro h24
   refine AW.rS ?_
   refine AW.trim [8] ?_
   refine AW.rt ?_
   all_goals first | contradiction | rfl | (simp; done) | (simp; omega)
  ·intro h24
   obtain ⟨⟨⟨⟨⟨⟨wa, wb⟩, wc⟩, x1⟩, x2⟩, y1⟩, y2⟩ := h24
   obtain ⟨P, rfl, hP⟩ := Mx.whole_up wa
   obtain ⟨Q, rfl, hQ⟩ := Mx.whole_up wb
   obtain ⟨R, rfl, hR⟩ := Mx.whole_up wc
   have hp : p.bnd 100000 := ⟨⟨x1, x2⟩, y1, y2⟩
   have hPQ := Mx.mul_bnd hP hQ
   have hQR := Mx.mul_bnd hQ hR
   have hL := Mx.mul_bnd hPQ hR
   have fP := Mx.up_fixed hP (by decide) (by decide)
   have fQ := Mx.up_fixed hQ (by decide) (by decide)
   have fR := Mx.up_fixed hR (by decide) (by decide)
   have fPQ := Mx.up_fixed hPQ (by decide) (by decide)
   have fQR := Mx.up_fixed hQR (by decide) (by decide)
   have fL := Mx.up_fixed hL (by decide) (by decide)
   have h1 := im_bnd hP hp
   have h2 := im_bnd hQ h1
   have h3 := im_bnd hR h2
   have f0 := Pt.bnd_fixed hp (by decide)
   have f1 := Pt.bnd_fixed h1 (by decide)
   have f2 := Pt.bnd_fixed h2 (by decide)
   have f3 := Pt.bnd_fixed h3 (by decide)
   have ta : ∀ x : Int, (10000 * x).tmod 10000 = 0 := fun x => Int.mul_tmod_right ..
   refine AW.skip ?_
   refine AW.rSC ?_
   refine awOps.cons (awGuard.c1 (c_mul_up _ P Q fP fQ fPQ) ?_)
   refine awOps.rn ?_
   refine AW.trim [4, 5, 6, 7, 11, 12] ?_
   refine AW.rSC ?_
   refine awOps.cons (awGuard.c1 (c_mul_up _ Q R fQ fR fQR) ?_)
   refine awOps.rn ?_
   refine AW.trim [4, 5, 6, 7, 11, 12, 13, 14] ?_
   refine AW.rSC ?_
   refine awOps.cons (awGuard.c1 (c_mul_up _ (P.mul Q) R fPQ fR fL) ?_)
   refine awOps.rn ?_
   refine AW.trim [4, 5, 6, 7, 12, 13, 14, 15, 16] ?_
   refine AW.rSC ?_
   refine awOps.cons (awGuard.c1 (by have h := c_mul_up gl P (Q.mul R) fP fQR (by rw [← Mx.mul_assoc]; exact fL); rw [← Mx.mul_assoc] at h; exact h) ?_)
   refine awOps.rn ?_
   refine AW.trim [4, 5, 6, 7, 12, 14, 15, 16, 17, 18] ?_
   refine AW.rSC ?_
   refine awOps.cons (awGuard.c1 (c_apply_up _ P p fP f0 f1) ?_)
   refine awOps.rn ?_
   refine AW.trim [5, 6, 7, 12, 14, 15, 16, 17, 18, 19, 20] ?_
   refine AW.rSC ?_
   refine awOps.cons (awGuard.c1 (c_apply_up _ Q (P.im p) fQ f1 f2) ?_)
   refine awOps.rn ?_
   refine AW.trim [6, 7, 12, 14, 15, 16, 17, 18, 20, 21, 22] ?_
   refine AW.rSC ?_
   refine awOps.cons (awGuard.c1 (c_apply_up _ R (Q.im (P.im p)) fR f2 f3) ?_)
   refine awOps.rn ?_
   refine AW.trim [7, 12, 14, 15, 16, 17, 18, 20, 22, 23, 24] ?_
   refine AW.rSC ?_
   refine awOps.cons (awGuard.c1 (by have h := c_apply_up gl ((P.mul Q).mul R) p fL f0 (by rw [im_mul, im_mul]; exact f3); rw [im_mul, im_mul] at h; exact h) ?_)
   refine awOps.rn ?_
   refine AW.trim [12, 14, 15, 16, 17, 18, 20, 22, 23, 24, 25, 26] ?_
   refine AW.seq ?_
   refine AW.rS ?_
   refine AW.trim [15, 17, 23, 25, 162] ?_
   refine AW.c2 ?_ ?_
   ·intro h55
    exfalso; simp at h55
   ·intro h55
    refine AW.skip ?_
    refine AW.rSC ?_
    refine awOps.cons (awGuard.c1 (c_matrix_Object _ ((P.mul Q).mul R).up fL (ta _) (ta _) (ta _) (ta _)) ?_)
    refine awOps.rn ?_
    refine awOps.cons (awGuard.c1 (c_read_list _ ((P.mul Q).mul R).up fL) ?_)
    refine awOps.rn ?_
    refine AW.trim [15, 17, 23, 25, 27, 28] ?_
    refine AW.rSC ?_
    refine awOps.cons ?_
    refine awGuard.eqS (eqs_mx ((P.mul Q).mul R).up fL) ?_
    refine awOps.rn ?_
    refine awOps.cons ?_
    refine awGuard.eqG (eqs_pt (R.im (Q.im (P.im p))) f3) ?_
    refine awOps.rn ?_
    refine awOps.cons ?_
    refine awGuard.eqG (eqs_mx ((P.mul Q).mul R).up fL) ?_
    refine awOps.rn ?_
    refine AW.trim [8] ?_
    refine AW.rt ?_
    all_goals first | contradiction | rfl | (simp; done) | (simp; omega)
end Go.Proofs
