/- A part of the proof: no condition of its own. -/
import Derived.Test.YtldekaaiippfkaaPart1
import Derived.JoinedCond
import Derived.Test.YtldekaaiippfkaaRows
import Derived.Lib.Bytealg
import Derived.Shelf.Small.Bits
namespace Go.Proofs.Ytldekaaiippfkaa
open Go Aw
theorem own : ownKnob Try.prog.godebug = none := by kernel_rfl
theorem laidOut : laidOutB Try.prog = true := by kernel_rfl
end Go.Proofs.Ytldekaaiippfkaa

namespace Aw
open Go
end Aw

namespace Aw
open Go
/-- where a key lies, or belongs -/
def kplace (ks : List (List UInt8)) (key : List UInt8) : Nat := ks.findIdx (fun k => !Op.bytesLess k key)
theorem headD_nil' {α : Type} (d : α) : ([] : List α).headD d = d := rfl
attribute [go_sem] headD_nil'
attribute [irreducible] kplace
end Aw

namespace Aw
open Go
set_option linter.unusedVariables false
def fitsB (o : Pob) : Bool :=
 if o.kind = 1 then decide (0 ≤ o.num) && decide (o.num ≤ 1)
 else if o.kind = 2 then decide (-2147483647 ≤ o.num) && decide (o.num ≤ 2147483647)
 else if o.kind = 3 then decide (-1073741824 ≤ o.num) && decide (o.num ≤ 1073741824)
 else if o.kind = 8 then (decide (1 ≤ o.num) && decide (o.num ≤ 8191)) && (decide (0 ≤ o.gen) && decide (o.gen ≤ 65535))
 else true
def shortB (o : Pob) : Bool :=
 if o.kind = 4 then decide ((o.str.length : Int) ≤ 32767) else if o.kind = 5 then decide ((o.str.length : Int) ≤ 127) else decide ((o.str.length : Int) ≤ 1048576)
def uN (k : Int) : Bool := decide (k = 1) || decide (k = 2) || decide (k = 3) || decide (k = 8)
def uG (k : Int) : Bool := decide (k = 8)
def uS (k : Int) : Bool := decide (k = 4) || decide (k = 5) || decide (k = 9)
def uKeys (k : Int) : Bool := decide (k = 7) || decide (k = 9)
def uKids (k : Int) : Bool := decide (k = 6) || decide (k = 7) || decide (k = 9)
def uOk (k : Int) : Bool := decide (0 ≤ k) && decide (k ≤ 9)
def nameB (s : List UInt8) : Bool := decide ((s.length : Int) ≤ 127) && decide (Lib.indexByte s 0 < 0)
def okKey (o : Pob) (i : Nat) : Prop :=
 nameB (o.keys.getD i []) = true ∧ (0 < i → Op.bytesLess (o.keys.getD (i - 1) []) (o.keys.getD i []) = true) ∧ ¬ (o.kind = 9 ∧ o.keys.getD i [] = [76, 101, 110, 103, 116, 104]) ∧ (o.kids.getD i Pob.null).kind ≠ 0
def risingP (o : Pob) : Prop := o.keys.length = o.kids.length ∧ ∀ i, i < o.keys.length → okKey o i
instance (o : Pob) (i : Nat) : Decidable (okKey o i) := by unfold okKey; infer_instance
instance (o : Pob) : Decidable (risingP o) := by unfold risingP; infer_instance
def risingB (o : Pob) : Bool := decide (risingP o)
def useB (o : Pob) (d : Int) : Bool :=
 bif bif bif bif bif bif uOk o.kind then bif uN o.kind then true else decide (o.num = 0) else false then bif uG o.kind then true else decide (o.gen = 0) else false then bif uS o.kind then true else decide (o.str = []) else false
  then bif uKeys o.kind then true else decide ((o.keys.length : Int) = 0) else false then bif uKids o.kind then true else decide ((o.kids.length : Int) = 0) else false then bif decide (d = 1) then true else !decide (o.kind = 9) else false
def formB (o : Pob) : Bool := bif bif !decide (o.kind = 5) then true else nameB o.str then bif !uKeys o.kind then true else risingB o else false
def ownE (o : Pob) (d : Int) : Int :=
 if ¬ d ≤ 24 then 7 else if useB o d = false then 10 else if fitsB o = false then 2 else if shortB o = false then 5 else if ¬ (o.kids.length : Int) ≤ 8191 then 6 else if formB o = false then 3 else 0
mutual
def chk : Pob → Int → Int
 | .mk k n g s ks l, d => if ownE (.mk k n g s ks l) d = 0 then chkL l (d + 1) else ownE (.mk k n g s ks l) d
def chkL : List Pob → Int → Int
 | [], _ => 0
 | o :: l, d => if chk o d = 0 then chkL l d else chk o d
end
attribute [irreducible] chk chkL ownE

/-! what validity gives -/
end Aw

namespace Go.Proofs
open Go Aw
set_option linter.unusedSimpArgs false
set_option maxRecDepth 100000
set_option maxHeartbeats 4000000
end Go.Proofs

namespace Go.Proofs
open Go Aw
set_option linter.unusedSimpArgs false
set_option maxRecDepth 100000
set_option maxHeartbeats 4000000
end Go.Proofs

namespace Go.Proofs
open Go Aw
set_option linter.unusedSimpArgs false
set_option linter.unusedVariables false
set_option maxRecDepth 100000
set_option maxHeartbeats 4000000
end Go.Proofs

namespace Go.Proofs
open Go Aw
set_option linter.unusedSimpArgs false
set_option linter.unusedVariables false
set_option maxRecDepth 100000
set_option maxHeartbeats 1000000
theorem h_side_place (gl : List (Nat × AV)) (w u : Int) (len : Nat) (es : List (List AV)) (hu : 0 ≤ u ∧ u ≤ 8) (hno : noTB (.row 1 es true) = true) : FnH Try.prog (gl) 63 [.ptr 0 0, .int .i64 2] ([(0, .cells [.int .i64 w, .int .i64 u, .row 1 0 len]), (1, .row 1 es true)]) 2 (fun r h n => r = .ret (.int .i64 (7 - u)) ∧ h = [(0, .cells [.int .i64 w, .int .i64 u, .row 1 0 len]), (1, .row 1 es true)] ∧ n = 2) := by
 refine FnH.intro Try.func63 rfl rfl (by simp [Try.ntmps63]) ?_
 simp only [argEnv, Try.ntmps63, Try.results63]
 refine AW.rS ?_
 refine AW.seq ?_
 refine AW.rS ?_
 refine AW.c2 ?_ ?_
 ·intro h4
  refine AW.rS ?_
  refine AW.rt ?_
  all_goals first | contradiction | rfl | (simp; done) | (simp; omega)
 ·intro h4
  refine AW.skip ?_
  refine AW.rS ?_
  refine AW.rt ?_
  all_goals first | contradiction | rfl | (simp; done) | (simp; omega)
theorem h_side_other (gl : List (Nat × AV)) (w u : Int) (len : Nat) (es : List (List AV)) (hw : w = 0 ∨ w = 2) : FnH Try.prog (gl) 58 [.ptr 0 0, .int .i64 2] ([(0, .cells [.int .i64 w, .int .i64 u, .row 1 0 len]), (1, .row 1 es true)]) 2 (fun r h n => r = .ret (.bool false) ∧ h = [(0, .cells [.int .i64 w, .int .i64 u, .row 1 0 len]), (1, .row 1 es true)] ∧ n = 2) := by
 refine FnH.intro Try.func58 rfl rfl (by simp [Try.ntmps58]) ?_
 simp only [argEnv, Try.ntmps58, Try.results58]
 refine AW.rS ?_
 refine AW.rS ?_
 refine AW.rt ?_
 rcases hw with rfl | rfl <;> simp
attribute [local go_sem] bytesAV_len bytes_at bytes_set bytes_snoc_len
theorem h_one_pos (gl : List (Nat × AV)) (w : Int) (u : Nat) (c : List UInt8) (y : UInt8) (x : Bool) (hu : u < 8) (hp : 0 < u) (hl : c.length ≤ 16000000) : FnK Try.prog (gl) 59 [.ptr 0 0, .int .i64 (bI x), .int .i64 2] ([(0, .cells [.int .i64 w, .int .i64 u, .row 1 0 (c.length + 1)]), (1, .row 1 (bytesAV c ++ [[.int .u8 y.toNat]]) true)]) 2 1 (fun r h n => r = .ret (.tup []) ∧ h = [(0, .cells [.int .i64 w, .int .i64 ((u + 1) % 8 : Nat), .row 1 0 (c.length + 1)]), (1, .row 1 (bytesAV c ++ [[.int .u8 (y ||| bitB x (7 - u)).toNat]]) true)] ∧ n = 2) := by
 refine FnK.intro Try.func59 rfl rfl (by simp [Try.ntmps59]) ?_
 simp only [argEnv, Try.ntmps59, Try.results59]
 refine AW.seq ?_
 refine AW.rS ?_
 refine AW.c2 ?_ ?_
 ·intro h3
  exfalso; omega
 ·intro h3
  refine AW.skip ?_
  refine AW.fS [0, 1, 2, 3, 4, 5, 6, 7, 8, 9, 10, 11, 12, 13, 14, 15, 16, 17, 18, 19, 20, 21] [(22, 2)] ?_
  refine awFun.rn ?_
  refine awFun.cH [36, 37] [0, 1] (h_side_place _ w u (c.length + 1) (bytesAV c ++ [[.int .u8 y.toNat]]) (by omega) rfl) ?_
  refine awFun.rn ?_
  rw [Aw.awFun_nil]
  refine awPlan.rn ?_
  refine AW.rL ?_
  refine wk ?_
  have e1 : (((u + 1) % 8 : Nat) : Int) = ((u : Int) + 1) % 8 := by omega
  rw [e1, or_bit hu x y]
theorem h_one_zero (gl : List (Nat × AV)) (w : Int) (b : List UInt8) (x : Bool) (hl : b.length ≤ 16000000) : FnK Try.prog (gl) 59 [.ptr 0 0, .int .i64 (bI x), .int .i64 2] ([(0, .cells [.int .i64 w, .int .i64 0, .row 1 0 b.length]), (1, .row 1 (bytesAV b) true)]) 2 1 (fun r h n => r = .ret (.tup []) ∧ h = [(0, .cells [.int .i64 w, .int .i64 1, .row 1 0 (b.length + 1)]), (1, .row 1 (bytesAV b ++ [[.int .u8 ((0 : UInt8) ||| bitB x 7).toNat]]) true)] ∧ n = 2) := by
 refine FnK.intro Try.func59 rfl rfl (by simp [Try.ntmps59]) ?_
 simp only [argEnv, Try.ntmps59, Try.results59]
 refine AW.seq ?_
 refine AW.rS ?_
 refine AW.c2 ?_ ?_
 ·intro h3
  refine AW.rL ?_
  refine AW.vw [0, 3] [(0, .ptr 0 0), (1, .int .i64 (bI x)), (2, .int .i64 2)] [(0, .cells [.int .i64 w, .int .i64 0, .row 1 0 (b.length + 1)]), (1, .row 1 (bytesAV b ++ [[.int .u8 0]]) true)] ?_
  refine AW.fS [0, 1, 2, 3, 4, 5, 6, 7, 8, 9, 10, 11, 12, 13, 14, 15, 16, 17, 18, 19, 20, 21] [(22, 2)] ?_
  refine awFun.rn ?_
  refine awFun.cH [36, 37] [0, 1] (h_side_place _ w 0 (b.length + 1) (bytesAV b ++ [[.int .u8 0]]) (by omega) rfl) ?_
  refine awFun.rn ?_
  rw [Aw.awFun_nil]
  refine awPlan.rn ?_
  refine AW.rL ?_
  refine wk ?_
  have e2 : bitOr .u8 0 (IntKind.u8.wrap (bitShl .i64 (bI x) 7)) = (((0 : UInt8) ||| bitB x 7).toNat : Int) := or_bit (u := 0) (by omega) x 0
  rw [e2]
 ·intro h3
  cases h3
theorem h_Writer_one (gl : List (Nat × AV)) (w : Int) (u : Nat) (b : List UInt8) (x : Bool) (hu : u < 8) (hb : u ≠ 0 → b ≠ []) (hl : b.length ≤ 16000000) :
  FnK Try.prog gl 59 [.ptr 0 0, .int .i64 (bI x), .int .i64 2] [(0, .cells [.int .i64 w, .int .i64 u, .row 1 0 b.length]), (1, .row 1 (bytesAV b) true)] 2 1 fun r h n => r = .ret (.tup []) ∧ h = [(0, .cells [.int .i64 w, .int .i64 ((u + 1) % 8 : Nat), .row 1 0 (wOne b u x).length]), (1, .row 1 (bytesAV (wOne b u x)) true)] ∧ n = 2 := by
 by_cases h0 : u = 0
 ·subst h0
  have h := h_one_zero gl w b x hl
  rw [bytesAV_app1] at h
  rw [wOne_zero, List.length_append]
  exact h
 ·obtain ⟨c, y, rfl⟩ : ∃ c y, b = c ++ [y] := ⟨b.dropLast, b.getLast (hb h0), (List.dropLast_concat_getLast (hb h0)).symm⟩
  have h := h_one_pos gl w u c y x hu (by omega) (by simp at hl; omega)
  rw [bytesAV_app1, bytesAV_app1] at h
  rw [wOne_pos c y h0, List.length_append, List.length_append]
  exact h
end Go.Proofs

namespace Go.Proofs
open Go Aw
set_option linter.unusedSimpArgs false
set_option linter.unusedVariables false
set_option maxRecDepth 100000
set_option maxHeartbeats 1000000
attribute [local go_sem] bytesAV_len
theorem h_Writer_put (gl : List (Nat × AV)) (w : Int) (v k : Nat) (s : List UInt8 × Nat) (hw : w = 0 ∨ w = 2) (hv : v < 2 ^ k) (hk : k ≤ 24) (hs : WOk s) (hl : s.1.length ≤ 8000000) : FnK Try.prog (gl) 53 [.ptr 0 0, .int .i64 v, .int .i64 k, .int .i64 2] ([(0, .cells [.int .i64 w, .int .i64 s.2, .row 1 0 s.1.length]), (1, .row 1 (bytesAV s.1) true)]) 2 1 (fun r h n => r = .ret (.int .i64 0) ∧ h = [(0, .cells [.int .i64 (if k = 0 then w else 2), .int .i64 (wAll (bitsN v k) s).2, .row 1 0 (wAll (bitsN v k) s).1.length]), (1, .row 1 (bytesAV (wAll (bitsN v k) s).1) true)] ∧ n = 2) := by
 refine FnK.intro Try.func53 rfl rfl (by simp [Try.ntmps53]) ?_
 simp only [argEnv, Try.ntmps53, Try.results53]
 have hb := wAll_le (bitsN v k) s hs
 have hs8 := hs.1
 have hf1 : decide ((k : Int) < 0) = false := decide_eq_false (by omega)
 have hf2 : decide ((24 : Int) < k) = false := decide_eq_false (by omega)
 have hf3 : decide ((v : Int) < 0) = false := decide_eq_false (by omega)
 have hf4 := shl_lt hk hv
 refine AW.rS ?_
 refine AW.seq ?_
 refine AW.rSC ?_
 refine awOps.cons (awGuard.cHT [0, 1] (h_side_other _ w s.2 s.1.length (bytesAV s.1) hw) ?_ (hgt := by rw [hf1, hf2, hf3, hf4]; rfl) (hob := by rw [hf1, hf2, hf3, hf4]; rfl))
 refine awOps.rn ?_
 refine AW.c2 ?_ ?_
 ·intro h6
  exfalso
  have hn4 := of_decide_eq_false hf4
  rcases h6 with ⟨((((h | h) | h) | h) | h), _⟩
  ·cases h
  all_goals omega
 ·intro h6
  refine AW.skip ?_
  refine AW.seq ?_
  refine AW.rS ?_
  refine AW.block ?_
  refine AW.lk (S := { i : Nat // i ≤ k }) [0, 1, 2, 3, 37] (fun s_ => [(38, .int .i64 s_.1)]) (fun s_ => [(0, .cells [.int .i64 w, .int .i64 (wAll ((bitsN v k).take s_.1) s).2, .row 1 0 (wAll ((bitsN v k).take s_.1) s).1.length]), (1, .row 1 (bytesAV (wAll ((bitsN v k).take s_.1) s).1) true)]) 2 (fun s_ => k - s_.1) ⟨0, Nat.zero_le _⟩ ?_ ?_
  ·refine St.le.vw [0, 1]
  rintro ⟨i, hi⟩
  try dsimp only at hi
  refine AW.rS ?_
  refine AW.seq ?_
  refine AW.c2 ?_ ?_
  ·intro h17
   have hok := wAll_ok ((bitsN v k).take i) s hs
   have hle := wAll_le ((bitsN v k).take i) s hs
   have htl : ((bitsN v k).take i).length ≤ k := by rw [List.length_take, bitsN_len]; omega
   have hbt := bit_at (v := v) (k := k) (i := i) (by have := Nat.pow_le_pow_right (n := 2) (by decide) hk; omega) h17 (by omega)
   have htk := bitsN_take (v := v) h17
   refine AW.skip ?_
   refine AW.seq ?_
   refine AW.block ?_
   refine AW.rS ?_
   refine AW.seq ?_
   refine AW.rS ?_
   refine AW.c2 ?_ ?_
   ·intro h24
    refine AW.rL ?_
    refine AW.rLC ?_
    rw [hbt]
    refine awOps.cons (awGuard.cK 1 [0, 1] (h_Writer_one _ w (wAll ((bitsN v k).take i) s).2 (wAll ((bitsN v k).take i) s).1 (v.testBit (k - 1 - i)) hok.1 hok.2 (by omega)) ?_)
    refine awOps.rn ?_
    refine AW.rL ?_
    refine ⟨⟨i + 1, by omega⟩, ?_, ?_⟩
    ·refine St.le.vx [0, 2] ?_
     rw [htk, wAll_snoc] <;> exact ⟨rfl, rfl⟩
    ·simp only []; omega
   ·intro h24
    simp at h24
  ·intro h17
   have htk : (bitsN v k).take i = bitsN v k := List.take_of_length_le (by rw [bitsN_len]; omega)
   rw [htk]
   refine AW.exit ?_
   refine AW.seq ?_
   refine AW.rS ?_
   refine AW.c2 ?_ ?_
   ·intro h40
    refine AW.rL ?_
    refine AW.rS ?_
    refine AW.rt ?_
    rw [if_neg (by omega)]
   ·intro h40
    refine AW.skip ?_
    refine AW.rS ?_
    refine AW.rt ?_
    rw [if_pos (by omega)]
theorem h_Writer_High (gl : List (Nat × AV)) (w : Int) (v k : Nat) (s : List UInt8 × Nat) (hw : w = 0 ∨ w = 2) (hv : v < 2 ^ k) (hk : k ≤ 24) (hs : WOk s) (hl : s.1.length ≤ 8000000) : FnK Try.prog (gl) 42 [.ptr 0 0, .int .i64 v, .int .i64 k] ([(0, .cells [.int .i64 w, .int .i64 s.2, .row 1 0 s.1.length]), (1, .row 1 (bytesAV s.1) true)]) 2 1 (fun r h n => r = .ret (.int .i64 0) ∧ h = [(0, .cells [.int .i64 (if k = 0 then w else 2), .int .i64 (wAll (bitsN v k) s).2, .row 1 0 (wAll (bitsN v k) s).1.length]), (1, .row 1 (bytesAV (wAll (bitsN v k) s).1) true)] ∧ n = 2) := by
 refine FnK.intro Try.func42 rfl rfl (by simp [Try.ntmps42]) ?_
 simp only [argEnv, Try.ntmps42, Try.results42]
 refine AW.rS ?_
 refine AW.rSC ?_
 refine awOps.cons (awGuard.cK 1 [0, 1] (h_Writer_put _ w v k s hw hv hk hs hl) ?_)
 refine awOps.rn ?_
 refine AW.vw [0, 2] [(6, .int .i64 0)] [(0, .cells [.int .i64 (if k = 0 then w else 2), .int .i64 (wAll (bitsN v k) s).2, .row 1 0 (wAll (bitsN v k) s).1.length]), (1, .row 1 (bytesAV (wAll (bitsN v k) s).1) true)] ?_
 refine AW.rt ?_
 all_goals first | contradiction | rfl | (simp; done) | (simp; omega)
theorem h_Writer_Align (gl : List (Nat × AV)) (w u : Int) (len : Nat) (es : List (List AV)) : FnH Try.prog (gl) 33 [.ptr 0 0] ([(0, .cells [.int .i64 w, .int .i64 u, .row 1 0 len]), (1, .row 1 es true)]) 2 (fun r h n => r = .ret (.tup []) ∧ h = [(0, .cells [.int .i64 0, .int .i64 0, .row 1 0 len]), (1, .row 1 es true)] ∧ n = 2) := by
 refine FnH.intro Try.func33 rfl rfl (by simp [Try.ntmps33]) ?_
 simp only [argEnv, Try.ntmps33, Try.results33]
 refine AW.rS ?_
 refine AW.c2 ?_ ?_
 ·intro h2
  refine AW.rL ?_
  refine wk ?_
  all_goals first | contradiction | rfl | (simp; done) | (simp; omega)
 ·intro h2
  simp at h2
theorem h_bit_New (gl : List (Nat × AV))  : FnH Try.prog (gl) 29 [] ([]) 0 (fun r h n => r = .ret (.ptr 0 0) ∧ h = [(0, .cells [.int .i64 0, .int .i64 0, .raw (.slice none 0 0)])] ∧ n = 1) := by
 refine FnH.intro Try.func29 rfl rfl (by simp [Try.ntmps29]) ?_
 simp only [argEnv, Try.ntmps29, Try.results29]
 refine AW.rS ?_
 refine AW.rS ?_
 refine AW.rt ?_
 trivial
theorem h_num_base (gl : List (Nat × AV)) (w : Int) (v k : Nat) (s : List UInt8 × Nat) (hw : w = 0 ∨ w = 2) (hv : v < 2 ^ k) (hk : k ≤ 24) (hs : WOk s) (hl : s.1.length ≤ 8000000) : FnK Try.prog (gl) 30 [.agg [.ptr 0 0], .int .i64 v, .int .i64 k] ([(0, .cells [.int .i64 w, .int .i64 s.2, .row 1 0 s.1.length]), (1, .row 1 (bytesAV s.1) true)]) 2 1 (fun r h n => r = .ret (.tup []) ∧ h = [(0, .cells [.int .i64 (if k = 0 then w else 2), .int .i64 (wAll (bitsN v k) s).2, .row 1 0 (wAll (bitsN v k) s).1.length]), (1, .row 1 (bytesAV (wAll (bitsN v k) s).1) true)] ∧ n = 2) := by
 refine FnK.intro Try.func30 rfl rfl (by simp [Try.ntmps30]) ?_
 simp only [argEnv, Try.ntmps30, Try.results30]
 refine AW.rS ?_
 refine AW.seq ?_
 refine AW.rS ?_
 refine AW.c2 ?_ ?_
 ·intro h4
  exfalso; omega
 ·intro h4
  refine AW.skip ?_
  refine AW.fin2 ?_
  refine AW.rLC ?_
  refine awOps.cons (awGuard.cK 1 [0, 1] (h_Writer_High _ w v k s hw hv hk hs hl) ?_)
  refine awOps.rn ?_
  refine wk ?_
  refine ⟨.inl trivial, ⟨21, [], [(0, .cells [.int .i64 (if k = 0 then w else 2), .int .i64 (wAll (bitsN v k) s).2, .row 1 0 (wAll (bitsN v k) s).1.length]), (1, .row 1 (bytesAV (wAll (bitsN v k) s).1) true)], 2, gl, 1, []⟩, St.le.vw [0, 3], ?_⟩
  refine wk ?_
  trivial
theorem h_num_top (gl : List (Nat × AV)) (w : Int) (v k : Nat) (s : List UInt8 × Nat) (hw : w = 0 ∨ w = 2) (hv : v < 2 ^ k) (hk : 24 < k) (hk2 : k ≤ 40) (hs : WOk s) (hl : s.1.length ≤ 7000000) : FnK Try.prog (gl) 30 [.agg [.ptr 0 0], .int .i64 v, .int .i64 k] ([(0, .cells [.int .i64 w, .int .i64 s.2, .row 1 0 s.1.length]), (1, .row 1 (bytesAV s.1) true)]) 2 1 (fun r h n => r = .ret (.tup []) ∧ h = [(0, .cells [.int .i64 2, .int .i64 (wAll (bitsN v k) s).2, .row 1 0 (wAll (bitsN v k) s).1.length]), (1, .row 1 (bytesAV (wAll (bitsN v k) s).1) true)] ∧ n = 2) := by
 refine FnK.intro Try.func30 rfl rfl (by simp [Try.ntmps30]) ?_
 simp only [argEnv, Try.ntmps30, Try.results30]
 have hpw : v < 2 ^ 40 := Nat.lt_of_lt_of_le hv (Nat.pow_le_pow_right (by decide) hk2)
 have hv1 : v / 65536 < 2 ^ (k - 16) := by
  rw [Nat.div_lt_iff_lt_mul (by decide), show (65536 : Nat) = 2 ^ 16 from rfl, ← Nat.pow_add, show k - 16 + 16 = k by omega]
  exact hv
 have hv2 : v % 65536 < 2 ^ 16 := Nat.mod_lt _ (by decide)
 have hsp := wAll_split (v := v) (k := k) (by omega) s
 have hok := wAll_ok (bitsN (v / 65536) (k - 16)) s hs
 have hle := wAll_le (bitsN (v / 65536) (k - 16)) s hs
 rw [bitsN_len] at hle
 have hk16 : (k : Int) - 16 = ((k - 16 : Nat) : Int) := by omega
 refine AW.rS ?_
 refine AW.seq ?_
 refine AW.rS ?_
 refine AW.c2 ?_ ?_
 ·intro h4
  refine AW.rSC ?_
  rw [shr_16, hk16]
  refine awOps.cons (awGuard.cK 1 [0, 1] (h_num_base _ w (v / 65536) (k - 16) s hw hv1 (by omega) hs (by omega)) ?_)
  refine awOps.rn ?_
  refine AW.rL ?_
  rw [and_16 (by omega)]
  refine AW.fin2 ?_
  refine AW.rLC ?_
  refine awOps.cons (awGuard.cK 1 [0, 3] (h_Writer_High _ (if k - 16 = 0 then w else 2) (v % 65536) 16 (wAll (bitsN (v / 65536) (k - 16)) s) (by rw [if_neg (by omega)]; exact .inr rfl) hv2 (by decide) hok (by omega)) ?_)
  refine awOps.rn ?_
  refine wk ?_
  rw [hsp]
  refine ⟨.inl trivial, ⟨21, [], [(0, .cells [.int .i64 2, .int .i64 (wAll (bitsN v k) s).2, .row 1 0 (wAll (bitsN v k) s).1.length]), (1, .row 1 (bytesAV (wAll (bitsN v k) s).1) true)], 2, gl, 1, []⟩, St.le.vw [0, 4], ?_⟩
  refine wk ?_
  trivial
 ·intro h4
  exfalso; omega
end Go.Proofs

namespace Go.Proofs
open Go Aw
set_option linter.unusedSimpArgs false
set_option linter.unusedVariables false
set_option maxRecDepth 100000
set_option maxHeartbeats 1000000
def Try.lays125_ren : Go.Shelf.Ren := ⟨fun | 125 => 54 | 128 => 60 | 129 => 61 | n => n, fun | 46 => 96 | 3 => 3 | 51 => 116 | 53 => 118 | 4 => 4 | 5 => 5 | 9 => 9 | n => n, fun | n => n⟩
theorem Try.lays125 : Go.Proofs.Lays.n125 Try.prog Try.lays125_ren := {
 mixed := by kernel_rfl
 f125 := Try.func54.trans (congrArg some (by kernel_rfl))
 f128 := Try.func60.trans (congrArg some (by kernel_rfl))
 f129 := Try.func61.trans (congrArg some (by kernel_rfl))
 t3 := Try.underlying3
 a3 := Try.isAgg3
 z3 := Try.sizeOf3
 v3 := Try.zeroValue3
 t4 := Try.underlying4
 a4 := Try.isAgg4
 z4 := Try.sizeOf4
 v4 := Try.zeroValue4
 t5 := Try.underlying5
 a5 := Try.isAgg5
 z5 := Try.sizeOf5
 v5 := Try.zeroValue5
 t9 := Try.underlying9
 a9 := Try.isAgg9
 z9 := Try.sizeOf9
 v9 := Try.zeroValue9
 t46 := Try.underlying96
 a46 := Try.isAgg96
 z46 := Try.sizeOf96
 v46 := Try.zeroValue96
 t51 := Try.underlying116
 a51 := Try.isAgg116
 z51 := Try.sizeOf116
 v51 := Try.zeroValue116
 t53 := Try.underlying118
 a53 := Try.isAgg118
 z53 := Try.sizeOf118
 v53 := Try.zeroValue118 }
theorem c_bits_Len (gl : List (Nat × AV)) (x : Nat) (h : x ≤ 1048576) : FnP Try.prog gl 54 [.int .u64 x] fun r => r = .ret (.int .i64 (Lib.bitLen x : Nat)) := by
 refine FnP.same (enters_of Try.func54 rfl rfl) ?_
 intro m vs _ hv
 simp only [RepL, Rep] at hv
 obtain ⟨_, _, rfl, rfl, rfl⟩ := hv
 refine (Any.bits_Len Try.lays125 (x : Int) m.w (by omega) (by omega)).mono ?_
 rintro e w' ⟨rfl, rfl⟩
 exact ⟨⟨_, rfl, fun m => by simp only [Rep, Int.toNat_natCast]⟩, rfl⟩
theorem c_hint_Need (gl : List (Nat × AV)) (n : Nat) (h1 : n ≤ 1048576) : FnP Try.prog (gl) 43 [.int .i64 n] fun r => r = .ret (.int .i64 (Lib.bitLen n : Nat)) := by
 refine FnP.intro Try.func43 rfl rfl (by simp [Try.ntmps43]) ?_
 simp only [argEnv, Try.ntmps43, Try.results43]
 refine AW.rS ?_
 refine AW.seq ?_
 refine AW.rS ?_
 refine AW.c2 ?_ ?_
 ·intro h4
  exfalso; omega
 ·intro h4
  refine AW.skip ?_
  refine AW.rSC ?_
  refine awOps.cons (awGuard.c1 (c_bits_Len _ n h1) ?_)
  refine awOps.rn ?_
  refine AW.rt ?_
  all_goals first | contradiction | rfl | (simp; done) | (simp; omega)
theorem c_most0 (gl : List (Nat × AV))  : FnP Try.prog (gl) 41 [.int .i64 0] fun r => r = .ret (.int .i64 8191) := by
 refine FnP.intro Try.func41 rfl rfl (by simp [Try.ntmps41]) ?_
 simp only [argEnv, Try.ntmps41, Try.results41]
 refine AW.rS ?_
 refine AW.seq ?_
 refine AW.rS ?_
 refine AW.c2 ?_ ?_
 ·intro h4
  refine AW.rS ?_
  refine AW.rt ?_
  all_goals first | contradiction | rfl | (simp; done) | (simp; omega)
 ·intro h4
  refine AW.skip ?_
  refine AW.rS ?_
  refine AW.rt ?_
  all_goals first | contradiction | rfl | (simp; done) | (simp; omega)
theorem c_cell0 (gl : List (Nat × AV)) (a b d : Int) : FnP Try.prog (gl) 32 [.cptr [.int .i64 a, .int .i64 b, .int .i64 d], .int .i64 0] fun r => r = .ret (.cptr [.int .i64 a, .int .i64 b, .int .i64 d]) := by
 refine FnP.intro Try.func32 rfl rfl (by simp [Try.ntmps32]) ?_
 simp only [argEnv, Try.ntmps32, Try.results32]
 refine AW.rS ?_
 refine AW.seq ?_
 refine AW.rS ?_
 refine AW.block ?_
 refine AW.rS ?_
 refine AW.c2 ?_ ?_
 ·intro h6
  refine AW.rS ?_
  refine AW.rt ?_
  all_goals first | contradiction | rfl | (simp; done) | (simp; omega)
 ·intro h6
  refine AW.rS ?_
  refine AW.c2 ?_ ?_
  ·intro h11
   refine AW.rS ?_
   refine AW.rt ?_
   all_goals first | contradiction | rfl | (simp; done) | (simp; omega)
  ·intro h11
   refine AW.skip ?_
   refine AW.rS ?_
   refine AW.rt ?_
   all_goals first | contradiction | rfl | (simp; done) | (simp; omega)
theorem c_most1 (gl : List (Nat × AV))  : FnP Try.prog (gl) 41 [.int .i64 1] fun r => r = .ret (.int .i64 1048576) := by
 refine FnP.intro Try.func41 rfl rfl (by simp [Try.ntmps41]) ?_
 simp only [argEnv, Try.ntmps41, Try.results41]
 refine AW.rS ?_
 refine AW.seq ?_
 refine AW.rS ?_
 refine AW.c2 ?_ ?_
 ·intro h4
  refine AW.rS ?_
  refine AW.rt ?_
  all_goals first | contradiction | rfl | (simp; done) | (simp; omega)
 ·intro h4
  refine AW.skip ?_
  refine AW.rS ?_
  refine AW.rt ?_
  all_goals first | contradiction | rfl | (simp; done) | (simp; omega)
theorem c_cell1 (gl : List (Nat × AV)) (a b d : Int) : FnP Try.prog (gl) 32 [.cptr [.int .i64 a, .int .i64 b, .int .i64 d], .int .i64 1] fun r => r = .ret (.cptr [.int .i64 b, .int .i64 d]) := by
 refine FnP.intro Try.func32 rfl rfl (by simp [Try.ntmps32]) ?_
 simp only [argEnv, Try.ntmps32, Try.results32]
 refine AW.rS ?_
 refine AW.seq ?_
 refine AW.rS ?_
 refine AW.block ?_
 refine AW.rS ?_
 refine AW.c2 ?_ ?_
 ·intro h6
  refine AW.rS ?_
  refine AW.rt ?_
  all_goals first | contradiction | rfl | (simp; done) | (simp; omega)
 ·intro h6
  refine AW.rS ?_
  refine AW.c2 ?_ ?_
  ·intro h11
   refine AW.rS ?_
   refine AW.rt ?_
   all_goals first | contradiction | rfl | (simp; done) | (simp; omega)
  ·intro h11
   refine AW.skip ?_
   refine AW.rS ?_
   refine AW.rt ?_
   all_goals first | contradiction | rfl | (simp; done) | (simp; omega)
theorem c_most2 (gl : List (Nat × AV))  : FnP Try.prog (gl) 41 [.int .i64 2] fun r => r = .ret (.int .i64 1048576) := by
 refine FnP.intro Try.func41 rfl rfl (by simp [Try.ntmps41]) ?_
 simp only [argEnv, Try.ntmps41, Try.results41]
 refine AW.rS ?_
 refine AW.seq ?_
 refine AW.rS ?_
 refine AW.c2 ?_ ?_
 ·intro h4
  refine AW.rS ?_
  refine AW.rt ?_
  all_goals first | contradiction | rfl | (simp; done) | (simp; omega)
 ·intro h4
  refine AW.skip ?_
  refine AW.rS ?_
  refine AW.rt ?_
  all_goals first | contradiction | rfl | (simp; done) | (simp; omega)
theorem c_cell2 (gl : List (Nat × AV)) (a b d : Int) : FnP Try.prog (gl) 32 [.cptr [.int .i64 a, .int .i64 b, .int .i64 d], .int .i64 2] fun r => r = .ret (.cptr [.int .i64 d]) := by
 refine FnP.intro Try.func32 rfl rfl (by simp [Try.ntmps32]) ?_
 simp only [argEnv, Try.ntmps32, Try.results32]
 refine AW.rS ?_
 refine AW.seq ?_
 refine AW.rS ?_
 refine AW.block ?_
 refine AW.rS ?_
 refine AW.c2 ?_ ?_
 ·intro h6
  refine AW.rS ?_
  refine AW.rt ?_
  all_goals first | contradiction | rfl | (simp; done) | (simp; omega)
 ·intro h6
  refine AW.rS ?_
  refine AW.c2 ?_ ?_
  ·intro h11
   refine AW.rS ?_
   refine AW.rt ?_
   all_goals first | contradiction | rfl | (simp; done) | (simp; omega)
  ·intro h11
   refine AW.skip ?_
   refine AW.rS ?_
   refine AW.rt ?_
   all_goals first | contradiction | rfl | (simp; done) | (simp; omega)
end Go.Proofs

namespace Go.Proofs
open Go Aw
set_option linter.unusedSimpArgs false
set_option linter.unusedVariables false
set_option maxRecDepth 100000
set_option maxHeartbeats 1000000
attribute [local go_sem] hintsAV_length hintsAV_len3 hintsAV_at
theorem c_hint_check (gl : List (Nat × AV)) (l : List Hn) (hl : l.length ≤ 16777216) : FnP Try.prog (gl) 27 [.sl (hintsAV l)] fun r => r = .ret (.int .i64 (checkH l)) := by
 refine FnP.intro Try.func27 rfl rfl (by simp [Try.ntmps27]) ?_
 simp only [argEnv, Try.ntmps27, Try.results27]
 refine AW.rS ?_
 refine AW.seq ?_
 refine AW.block ?_
 refine AW.rS ?_
 refine AW.c2 ?_ ?_
 ·intro h5
  refine AW.rS ?_
  refine AW.rt ?_
  rw [checkH, if_pos (by omega)]
 ·intro h5
  refine AW.rS ?_
  refine AW.c2 ?_ ?_
  ·intro h10
   refine AW.rS ?_
   refine AW.rt ?_
   rw [checkH, if_neg (by omega), if_pos (by omega)]
  ·intro h10
   refine AW.skip ?_
   refine AW.seq ?_
   refine AW.rS ?_
   refine AW.block ?_
   refine AW.lk (S := { i : Nat // i ≤ l.length ∧ ∀ j, j < i → (l.getD j Hn.zero).ok }) [0, 15] (fun s_ => [(16, .int .i64 s_.1)]) (fun s_ => []) 0 (fun s_ => l.length - s_.1) ⟨0, Nat.zero_le _, fun j h => absurd h (by omega)⟩ ?_ ?_
   ·refine St.le.vw []
   rintro ⟨i, hi, hs⟩
   try dsimp only at hi
   try dsimp only at hs
   refine AW.rS ?_
   refine AW.seq ?_
   refine AW.c2 ?_ ?_
   ·intro h21
    obtain ⟨j, rfl⟩ : ∃ j : { n : Nat // n < l.length }, i = j.1 := ⟨⟨i, h21⟩, rfl⟩
    refine AW.skip ?_
    refine AW.seq ?_
    refine AW.block ?_
    refine AW.rS ?_
    refine AW.rS ?_
    refine AW.block ?_
    refine AW.un 3 ?_
    refine AW.rS ?_
    refine AW.seq ?_
    refine AW.c2 ?_ ?_
    ·intro h31
     refine AW.skip ?_
     refine AW.seq ?_
     refine AW.block ?_
     refine AW.rS ?_
     refine AW.rSC ?_
     refine awOps.cons (awGuard.c1 (c_cell0 _ (l.getD j.1 Hn.zero).a (l.getD j.1 Hn.zero).b (l.getD j.1 Hn.zero).d) ?_)
     refine awOps.rn ?_
     refine AW.rSC ?_
     refine awOps.cons (awGuard.cG (fun hg => c_most0 _) ?_)
     refine awOps.rn ?_
     refine AW.c2 ?_ ?_
     ·intro h42
      refine AW.rS ?_
      refine AW.rt ?_
      rw [checkH_no (by omega) h21 (fun hk => by obtain ⟨⟨k1, k2⟩, ⟨k3, k4⟩, k5, k6⟩ := hk; omega)]
     ·intro h42
      refine AW.skip ?_
      refine AW.rL ?_
      refine AWR.s ?_
      refine AW.rS ?_
      refine AW.seq ?_
      refine AW.c2 ?_ ?_
      ·intro h51
       refine AW.skip ?_
       refine AW.seq ?_
       refine AW.block ?_
       refine AW.rS ?_
       refine AW.rSC ?_
       refine awOps.cons (awGuard.c1 (c_cell1 _ (l.getD j.1 Hn.zero).a (l.getD j.1 Hn.zero).b (l.getD j.1 Hn.zero).d) ?_)
       refine awOps.rn ?_
       refine AW.rSC ?_
       refine awOps.cons (awGuard.cG (fun hg => c_most1 _) ?_)
       refine awOps.rn ?_
       refine AW.c2 ?_ ?_
       ·intro h62
        refine AW.rS ?_
        refine AW.rt ?_
        rw [checkH_no (by omega) h21 (fun hk => by obtain ⟨⟨k1, k2⟩, ⟨k3, k4⟩, k5, k6⟩ := hk; omega)]
       ·intro h62
        refine AW.skip ?_
        refine AW.rL ?_
        refine AWR.s ?_
        refine AW.rS ?_
        refine AW.seq ?_
        refine AW.c2 ?_ ?_
        ·intro h71
         refine AW.skip ?_
         refine AW.seq ?_
         refine AW.block ?_
         refine AW.rS ?_
         refine AW.rSC ?_
         refine awOps.cons (awGuard.c1 (c_cell2 _ (l.getD j.1 Hn.zero).a (l.getD j.1 Hn.zero).b (l.getD j.1 Hn.zero).d) ?_)
         refine awOps.rn ?_
         refine AW.rSC ?_
         refine awOps.cons (awGuard.cG (fun hg => c_most2 _) ?_)
         refine awOps.rn ?_
         refine AW.c2 ?_ ?_
         ·intro h82
          refine AW.rS ?_
          refine AW.rt ?_
          rw [checkH_no (by omega) h21 (fun hk => by obtain ⟨⟨k1, k2⟩, ⟨k3, k4⟩, k5, k6⟩ := hk; omega)]
         ·intro h82
          refine AW.skip ?_
          refine AW.rL ?_
          refine AWR.s ?_
          refine AW.rS ?_
          refine AW.seq ?_
          refine AW.c2 ?_ ?_
          ·intro h91
           first | contradiction | (simp at h91; done) | (exfalso; omega) | (exfalso; revert h91; decide)
          ·intro h91
           refine AW.exit ?_
           refine AW.rL ?_
           refine ⟨⟨j.1 + 1, by omega, fun q hq => (Nat.lt_or_ge q j.1).elim (hs q) (fun h => (show q = j.1 by omega) ▸ ⟨⟨by omega, by omega⟩, ⟨by omega, by omega⟩, by omega, by omega⟩)⟩, ?_, ?_⟩
           ·refine St.le.vw []
           ·simp only []; omega
        ·intro h71
         first | contradiction | (simp at h71; done) | (exfalso; omega) | (exfalso; revert h71; decide)
      ·intro h51
       first | contradiction | (simp at h51; done) | (exfalso; omega) | (exfalso; revert h51; decide)
    ·intro h31
     first | contradiction | (simp at h31; done) | (exfalso; omega) | (exfalso; revert h31; decide)
   ·intro h21
    refine AW.exit ?_
    refine AW.rS ?_
    refine AW.rt ?_
    rw [checkH_yes (by omega) (by omega) (fun q hq => hs q (by omega))]
end Go.Proofs

namespace Go.Proofs
open Go Aw
set_option linter.unusedSimpArgs false
set_option linter.unusedVariables false
set_option maxRecDepth 100000
set_option maxHeartbeats 1000000
attribute [local go_sem] hintsAV_length hintsAV_len3 hintsAV_at hintsAV_zero
theorem c_spread0 (gl : List (Nat × AV)) (x : Hn) (t : List Hn) (hl : (x :: t).length ≤ 16777216) (hok : ∀ y ∈ x :: t, 0 ≤ y.a ∧ y.a ≤ 1048576) : FnP Try.prog (gl) 31 [.sl (hintsAV (x :: t)), .int .i64 0] fun r => r = .ret (.tup [.int .i64 (loL Hn.a x.a (x :: t)), .int .i64 (Lib.bitLen (spanN Hn.a x t) : Nat)]) := by
 refine FnP.intro Try.func31 rfl rfl (by simp [Try.ntmps31]) ?_
 simp only [argEnv, Try.ntmps31, Try.results31]
 obtain ⟨⟨hs1, hs2⟩, hs3, hs4, hs5⟩ := span_facts Hn.a x t hok
 have hs0 : 0 < (x :: t).length := Nat.succ_pos _
 have hln : (x :: t).length = t.length + 1 := rfl
 refine AW.rS ?_
 refine AW.fS [0, 1, 2, 6, 7, 8, 3, 4, 5, 9, 10, 11, 12, 13] [] ?_
 refine awFun.rn ?_
 refine awFun.c1 [9, 10] (c_cell0 _ x.a x.b x.d) ?_
 refine awFun.rn ?_
 refine awFun.c1 [15, 16] (c_cell0 _ x.a x.b x.d) ?_
 refine awFun.rn ?_
 rw [Aw.awFun_nil, Aw.awPlan_nil]
 refine AW.seq ?_
 refine AW.rS ?_
 refine AW.block ?_
 refine AW.lk (S := { i : Nat // i ≤ (x :: t).length }) [0, 1, 21] (fun s_ => [(4, .int .i64 (loL Hn.a x.a ((x :: t).take s_.1))), (6, .int .i64 (hiL Hn.a x.a ((x :: t).take s_.1))), (22, .int .i64 s_.1)]) (fun s_ => []) 0 (fun s_ => (x :: t).length - s_.1) ⟨0, Nat.zero_le _⟩ ?_ ?_
 ·refine St.le.vw []
 rintro ⟨i, hi⟩
 try dsimp only at hi
 refine AW.rS ?_
 refine AW.seq ?_
 refine AW.c2 ?_ ?_
 ·intro h15
  have h15' : i < (x :: t).length := by omega
  have hlt := loL_take (f := Hn.a) (z := x.a) h15'
  have hht := hiL_take (f := Hn.a) (z := x.a) h15'
  obtain ⟨j, rfl⟩ : ∃ j : { n : Nat // n < (x :: t).length }, i = j.1 := ⟨⟨i, h15'⟩, rfl⟩
  refine AW.skip ?_
  refine AW.seq ?_
  refine AW.block ?_
  refine AW.rS ?_
  refine AW.dLC [(0, 0), (1, 0), (2, 0), (3, 0), (4, 0), (9, 0), (10, 0), (11, 0), (12, 0), (13, 0), (5, 2), (6, 0), (7, 0), (8, 0), (14, 2), (15, 0), (16, 1), (17, 0), (18, 0), (19, 0)] ?_
  refine awPlan.only rfl ?_
  refine awGuard.c1 (c_cell0 _ ((x :: t).getD j.1 Hn.zero).a ((x :: t).getD j.1 Hn.zero).b ((x :: t).getD j.1 Hn.zero).d) ?_
  refine awPlan.rn ?_
  refine awPlan.only rfl ?_
  refine awGuard.c1 (c_cell0 _ ((x :: t).getD j.1 Hn.zero).a ((x :: t).getD j.1 Hn.zero).b ((x :: t).getD j.1 Hn.zero).d) ?_
  refine awPlan.rn ?_
  refine AW.rL ?_
  rw [← hlt, ← hht]
  refine ⟨⟨j.1 + 1, by omega⟩, ?_, ?_⟩
  ·refine St.le.vw []
  ·simp only []; omega
 ·intro h15
  obtain rfl : i = (x :: t).length := by omega
  rw [List.take_length]
  refine AW.exit ?_
  refine AW.rSC ?_
  rw [hs3]
  refine awOps.cons (awGuard.c1 (c_hint_Need _ (spanN Hn.a x t) hs4) ?_)
  refine awOps.rn ?_
  refine AW.rt ?_
  all_goals first | contradiction | rfl | (simp; done) | (simp; omega)
theorem c_spread1 (gl : List (Nat × AV)) (x : Hn) (t : List Hn) (hl : (x :: t).length ≤ 16777216) (hok : ∀ y ∈ x :: t, 0 ≤ y.b ∧ y.b ≤ 1048576) : FnP Try.prog (gl) 31 [.sl (hintsAV (x :: t)), .int .i64 1] fun r => r = .ret (.tup [.int .i64 (loL Hn.b x.b (x :: t)), .int .i64 (Lib.bitLen (spanN Hn.b x t) : Nat)]) := by
 refine FnP.intro Try.func31 rfl rfl (by simp [Try.ntmps31]) ?_
 simp only [argEnv, Try.ntmps31, Try.results31]
 obtain ⟨⟨hs1, hs2⟩, hs3, hs4, hs5⟩ := span_facts Hn.b x t hok
 have hs0 : 0 < (x :: t).length := Nat.succ_pos _
 have hln : (x :: t).length = t.length + 1 := rfl
 refine AW.rS ?_
 refine AW.fS [0, 1, 2, 6, 7, 8, 3, 4, 5, 9, 10, 11, 12, 13] [] ?_
 refine awFun.rn ?_
 refine awFun.c1 [9, 10] (c_cell1 _ x.a x.b x.d) ?_
 refine awFun.rn ?_
 refine awFun.c1 [15, 16] (c_cell1 _ x.a x.b x.d) ?_
 refine awFun.rn ?_
 rw [Aw.awFun_nil, Aw.awPlan_nil]
 refine AW.seq ?_
 refine AW.rS ?_
 refine AW.block ?_
 refine AW.lk (S := { i : Nat // i ≤ (x :: t).length }) [0, 1, 21] (fun s_ => [(4, .int .i64 (loL Hn.b x.b ((x :: t).take s_.1))), (6, .int .i64 (hiL Hn.b x.b ((x :: t).take s_.1))), (22, .int .i64 s_.1)]) (fun s_ => []) 0 (fun s_ => (x :: t).length - s_.1) ⟨0, Nat.zero_le _⟩ ?_ ?_
 ·refine St.le.vw []
 rintro ⟨i, hi⟩
 try dsimp only at hi
 refine AW.rS ?_
 refine AW.seq ?_
 refine AW.c2 ?_ ?_
 ·intro h15
  have h15' : i < (x :: t).length := by omega
  have hlt := loL_take (f := Hn.b) (z := x.b) h15'
  have hht := hiL_take (f := Hn.b) (z := x.b) h15'
  obtain ⟨j, rfl⟩ : ∃ j : { n : Nat // n < (x :: t).length }, i = j.1 := ⟨⟨i, h15'⟩, rfl⟩
  refine AW.skip ?_
  refine AW.seq ?_
  refine AW.block ?_
  refine AW.rS ?_
  refine AW.dLC [(0, 0), (1, 0), (2, 0), (3, 0), (4, 0), (9, 0), (10, 0), (11, 0), (12, 0), (13, 0), (5, 2), (6, 0), (7, 0), (8, 0), (14, 2), (15, 0), (16, 1), (17, 0), (18, 0), (19, 0)] ?_
  refine awPlan.only rfl ?_
  refine awGuard.c1 (c_cell1 _ ((x :: t).getD j.1 Hn.zero).a ((x :: t).getD j.1 Hn.zero).b ((x :: t).getD j.1 Hn.zero).d) ?_
  refine awPlan.rn ?_
  refine awPlan.only rfl ?_
  refine awGuard.c1 (c_cell1 _ ((x :: t).getD j.1 Hn.zero).a ((x :: t).getD j.1 Hn.zero).b ((x :: t).getD j.1 Hn.zero).d) ?_
  refine awPlan.rn ?_
  refine AW.rL ?_
  rw [← hlt, ← hht]
  refine ⟨⟨j.1 + 1, by omega⟩, ?_, ?_⟩
  ·refine St.le.vw []
  ·simp only []; omega
 ·intro h15
  obtain rfl : i = (x :: t).length := by omega
  rw [List.take_length]
  refine AW.exit ?_
  refine AW.rSC ?_
  rw [hs3]
  refine awOps.cons (awGuard.c1 (c_hint_Need _ (spanN Hn.b x t) hs4) ?_)
  refine awOps.rn ?_
  refine AW.rt ?_
  all_goals first | contradiction | rfl | (simp; done) | (simp; omega)
theorem c_spread2 (gl : List (Nat × AV)) (x : Hn) (t : List Hn) (hl : (x :: t).length ≤ 16777216) (hok : ∀ y ∈ x :: t, 0 ≤ y.d ∧ y.d ≤ 1048576) : FnP Try.prog (gl) 31 [.sl (hintsAV (x :: t)), .int .i64 2] fun r => r = .ret (.tup [.int .i64 (loL Hn.d x.d (x :: t)), .int .i64 (Lib.bitLen (spanN Hn.d x t) : Nat)]) := by
 refine FnP.intro Try.func31 rfl rfl (by simp [Try.ntmps31]) ?_
 simp only [argEnv, Try.ntmps31, Try.results31]
 obtain ⟨⟨hs1, hs2⟩, hs3, hs4, hs5⟩ := span_facts Hn.d x t hok
 have hs0 : 0 < (x :: t).length := Nat.succ_pos _
 have hln : (x :: t).length = t.length + 1 := rfl
 refine AW.rS ?_
 refine AW.fS [0, 1, 2, 6, 7, 8, 3, 4, 5, 9, 10, 11, 12, 13] [] ?_
 refine awFun.rn ?_
 refine awFun.c1 [9, 10] (c_cell2 _ x.a x.b x.d) ?_
 refine awFun.rn ?_
 refine awFun.c1 [15, 16] (c_cell2 _ x.a x.b x.d) ?_
 refine awFun.rn ?_
 rw [Aw.awFun_nil, Aw.awPlan_nil]
 refine AW.seq ?_
 refine AW.rS ?_
 refine AW.block ?_
 refine AW.lk (S := { i : Nat // i ≤ (x :: t).length }) [0, 1, 21] (fun s_ => [(4, .int .i64 (loL Hn.d x.d ((x :: t).take s_.1))), (6, .int .i64 (hiL Hn.d x.d ((x :: t).take s_.1))), (22, .int .i64 s_.1)]) (fun s_ => []) 0 (fun s_ => (x :: t).length - s_.1) ⟨0, Nat.zero_le _⟩ ?_ ?_
 ·refine St.le.vw []
 rintro ⟨i, hi⟩
 try dsimp only at hi
 refine AW.rS ?_
 refine AW.seq ?_
 refine AW.c2 ?_ ?_
 ·intro h15
  have h15' : i < (x :: t).length := by omega
  have hlt := loL_take (f := Hn.d) (z := x.d) h15'
  have hht := hiL_take (f := Hn.d) (z := x.d) h15'
  obtain ⟨j, rfl⟩ : ∃ j : { n : Nat // n < (x :: t).length }, i = j.1 := ⟨⟨i, h15'⟩, rfl⟩
  refine AW.skip ?_
  refine AW.seq ?_
  refine AW.block ?_
  refine AW.rS ?_
  refine AW.dLC [(0, 0), (1, 0), (2, 0), (3, 0), (4, 0), (9, 0), (10, 0), (11, 0), (12, 0), (13, 0), (5, 2), (6, 0), (7, 0), (8, 0), (14, 2), (15, 0), (16, 1), (17, 0), (18, 0), (19, 0)] ?_
  refine awPlan.only rfl ?_
  refine awGuard.c1 (c_cell2 _ ((x :: t).getD j.1 Hn.zero).a ((x :: t).getD j.1 Hn.zero).b ((x :: t).getD j.1 Hn.zero).d) ?_
  refine awPlan.rn ?_
  refine awPlan.only rfl ?_
  refine awGuard.c1 (c_cell2 _ ((x :: t).getD j.1 Hn.zero).a ((x :: t).getD j.1 Hn.zero).b ((x :: t).getD j.1 Hn.zero).d) ?_
  refine awPlan.rn ?_
  refine AW.rL ?_
  rw [← hlt, ← hht]
  refine ⟨⟨j.1 + 1, by omega⟩, ?_, ?_⟩
  ·refine St.le.vw []
  ·simp only []; omega
 ·intro h15
  obtain rfl : i = (x :: t).length := by omega
  rw [List.take_length]
  refine AW.exit ?_
  refine AW.rSC ?_
  rw [hs3]
  refine awOps.cons (awGuard.c1 (c_hint_Need _ (spanN Hn.d x t) hs4) ?_)
  refine awOps.rn ?_
  refine AW.rt ?_
  all_goals first | contradiction | rfl | (simp; done) | (simp; omega)
end Go.Proofs

namespace Go.Proofs
open Go Aw
set_option linter.unusedSimpArgs false
set_option linter.unusedVariables false
set_option maxRecDepth 100000
set_option maxHeartbeats 1000000
attribute [local go_sem] hintsAV_length hintsAV_len3 hintsAV_ok bytesAV_len bytesOf_bytesAV
theorem c_slices_Clone_api_Hint_api_Hint (gl : List (Nat × AV)) (l : List Hn) (hl : l.length ≤ 16777216) : FnP Try.prog (gl) 28 [.sl (hintsAV l)] fun r => r = .ret (.sl (hintsAV l)) := by
 refine FnP.intro Try.func28 rfl rfl (by simp [Try.ntmps28]) ?_
 simp only [argEnv, Try.ntmps28, Try.results28]
 refine AW.rS ?_
 refine AW.seq ?_
 refine AW.rSC ?_
 refine awOps.cons (awGuard.nS ?_)
 intro b4 hb4
 simp only [nilBool]
 refine awOps.rn ?_
 refine AW.c2 ?_ ?_
 ·intro h6
  refine AW.rS ?_
  refine AW.pre (St.le.nilrow 2 3 (by (simp only [go_sem, seval]; try (simp (disch := omega) only [zq]; try (simp only [go_sem, seval]; try (simp (disch := omega) only [zq]; try simp only [go_sem, seval])))))) ?_
  refine wk ?_
  refine AW.rt ?_
  rw [nil_hints hb4 h6]
  rfl
 ·intro h6
  refine AW.skip ?_
  refine AW.rS ?_
  refine AW.rt ?_
  rw [show List.take l.length (hintsAV l) = hintsAV l from List.take_of_length_le (by rw [hintsAV_length]; exact Nat.le_refl _)]
theorem c_slices_Clone_byte_byte (gl : List (Nat × AV)) (b : List UInt8) (hl : b.length ≤ 16000000) : FnP Try.prog (gl) 44 [.sl (bytesAV b)] fun r => r = .ret (.sl (bytesAV b)) := by
 refine FnP.intro Try.func44 rfl rfl (by simp [Try.ntmps44]) ?_
 simp only [argEnv, Try.ntmps44, Try.results44]
 refine AW.rS ?_
 refine AW.seq ?_
 refine AW.rSC ?_
 refine awOps.cons (awGuard.nS ?_)
 intro b4 hb4
 simp only [nilBool]
 refine awOps.rn ?_
 refine AW.c2 ?_ ?_
 ·intro h6
  refine AW.rS ?_
  refine AW.pre (St.le.nilrow 2 1 (by (simp only [go_sem, seval]; try (simp (disch := omega) only [zq]; try (simp only [go_sem, seval]; try (simp (disch := omega) only [zq]; try simp only [go_sem, seval])))))) ?_
  refine wk ?_
  refine AW.rt ?_
  rw [nil_bytes hb4 h6]
  rfl
 ·intro h6
  refine AW.skip ?_
  refine AW.rS ?_
  refine AW.rt ?_
  all_goals first | contradiction | rfl | (simp; done) | (simp; omega)
theorem h_Writer_Text (gl : List (Nat × AV)) (w u : Int) (b : List UInt8) (hl : b.length ≤ 16000000) : FnH Try.prog (gl) 34 [.ptr 0 0] ([(0, .cells [.int .i64 w, .int .i64 u, .row 1 0 b.length]), (1, .row 1 (bytesAV b) true)]) 2 (fun r h n => r = .ret (.str b) ∧ h = [(0, .cells [.int .i64 w, .int .i64 u, .row 1 0 b.length]), (1, .row 1 (bytesAV b) false)] ∧ n = 2) := by
 refine FnH.intro Try.func34 rfl rfl (by simp [Try.ntmps34]) ?_
 simp only [argEnv, Try.ntmps34, Try.results34]
 refine AW.rS ?_
 refine AW.seq ?_
 refine AW.rS ?_
 refine AW.c2 ?_ ?_
 ·intro h4
  refine AW.rS ?_
  refine AW.rt ?_
  all_goals first | contradiction | rfl | (simp; done) | (simp; omega)
 ·intro h4
  refine AW.skip ?_
  refine AW.rSC ?_
  refine awOps.cons (awGuard.c1 (c_slices_Clone_byte_byte _ b hl) ?_)
  refine awOps.rn ?_
  refine AW.rt ?_
  all_goals first | contradiction | rfl | (simp; done) | (simp; omega)
theorem c_hint_Text_bad (gl : List (Nat × AV)) (l : List Hn) (hl : l.length ≤ 16777216) (hk : checkH l ≠ 0) : FnP Try.prog (gl) 12 [.sl (hintsAV l)] fun r => r = .ret (.tup [.str [], .int .i64 (checkH l)]) := by
 refine FnP.intro Try.func12 rfl rfl (by simp [Try.ntmps12]) ?_
 simp only [argEnv, Try.ntmps12, Try.results12]
 refine AW.rS ?_
 refine AW.seq ?_
 refine AW.rSC ?_
 refine awOps.cons (awGuard.c1 (c_hint_check _ l hl) ?_)
 refine awOps.rn ?_
 refine AW.rS ?_
 refine AW.c2 ?_ ?_
 ·intro h7
  refine AW.rS ?_
  refine AW.rt ?_
  all_goals first | contradiction | rfl | (simp; done) | (simp; omega)
 ·intro h7
  exact absurd (by simpa using h7) hk
end Go.Proofs

namespace Go.Proofs
open Go Aw
set_option linter.unusedSimpArgs false
set_option linter.unusedVariables false
set_option maxRecDepth 100000
set_option maxHeartbeats 8000000
attribute [local go_sem] hintsAV_length hintsAV_len3 hintsAV_at bytesAV_len
theorem c_hint_Text_ok (gl : List (Nat × AV)) (x : Hn) (t : List Hn) (hl : (x :: t).length ≤ 2048) (hk : checkH (x :: t) = 0) (hoa : ∀ y ∈ x :: t, 0 ≤ y.a ∧ y.a ≤ 1048576) (hob : ∀ y ∈ x :: t, 0 ≤ y.b ∧ y.b ≤ 1048576) (hod : ∀ y ∈ x :: t, 0 ≤ y.d ∧ y.d ≤ 1048576) : FnP Try.prog (gl) 12 [.sl (hintsAV (x :: t))] fun r => r = .ret (.tup [.str (textS x t), .int .i64 0]) := by
 refine FnP.intro Try.func12 rfl rfl (by simp [Try.ntmps12]) ?_
 simp only [argEnv, Try.ntmps12, Try.results12]
 have hL : (x :: t).length = t.length + 1 := rfl
 obtain ⟨⟨p01, p02⟩, p03, p04, p05⟩ := span_facts Hn.a x t hoa
 have n0 : loL Hn.a x.a (x :: t) = (loN Hn.a x t : Int) := by unfold loN; omega
 have w0 : wdN Hn.a x t ≤ 21 := bitLen_le p04
 have l0 : loN Hn.a x t ≤ 1048576 := by omega
 have q0 := c_spread0 gl x t (by omega) hoa
 rw [n0] at q0
 obtain ⟨⟨p11, p12⟩, p13, p14, p15⟩ := span_facts Hn.b x t hob
 have n1 : loL Hn.b x.b (x :: t) = (loN Hn.b x t : Int) := by unfold loN; omega
 have w1 : wdN Hn.b x t ≤ 21 := bitLen_le p14
 have l1 : loN Hn.b x t ≤ 1048576 := by omega
 have q1 := c_spread1 gl x t (by omega) hob
 rw [n1] at q1
 obtain ⟨⟨p21, p22⟩, p23, p24, p25⟩ := span_facts Hn.d x t hod
 have n2 : loL Hn.d x.d (x :: t) = (loN Hn.d x t : Int) := by unfold loN; omega
 have w2 : wdN Hn.d x t ≤ 21 := bitLen_le p24
 have l2 : loN Hn.d x t ≤ 1048576 := by omega
 have q2 := c_spread2 gl x t (by omega) hod
 rw [n2] at q2
 have e0 := wAll_le (bitsN (x :: t).length 32) ([], 0) ⟨by decide, fun h => absurd rfl h⟩
 have k0 := wAll_ok (bitsN (x :: t).length 32) ([], 0) ⟨by decide, fun h => absurd rfl h⟩
 rw [bitsN_len] at e0
 generalize hs0 : wAll (bitsN (x :: t).length 32) ([], 0) = s0 at e0 k0
 have e1 := wAll_le (bitsN (loN Hn.a x t) 32) s0 k0
 have k1 := wAll_ok (bitsN (loN Hn.a x t) 32) s0 k0
 rw [bitsN_len] at e1
 generalize hs1 : wAll (bitsN (loN Hn.a x t) 32) s0 = s1 at e1 k1
 have e2 := wAll_le (bitsN (loN Hn.b x t) 32) s1 k1
 have k2 := wAll_ok (bitsN (loN Hn.b x t) 32) s1 k1
 rw [bitsN_len] at e2
 generalize hs2 : wAll (bitsN (loN Hn.b x t) 32) s1 = s2 at e2 k2
 have e3 := wAll_le (bitsN (loN Hn.d x t) 32) s2 k2
 have k3 := wAll_ok (bitsN (loN Hn.d x t) 32) s2 k2
 rw [bitsN_len] at e3
 generalize hs3 : wAll (bitsN (loN Hn.d x t) 32) s2 = s3 at e3 k3
 have e4 := wAll_le (bitsN (wdN Hn.a x t) 16) s3 k3
 have k4 := wAll_ok (bitsN (wdN Hn.a x t) 16) s3 k3
 rw [bitsN_len] at e4
 generalize hs4 : wAll (bitsN (wdN Hn.a x t) 16) s3 = s4 at e4 k4
 have e5 := wAll_le (bitsN (wdN Hn.b x t) 16) s4 k4
 have k5 := wAll_ok (bitsN (wdN Hn.b x t) 16) s4 k4
 rw [bitsN_len] at e5
 generalize hs5 : wAll (bitsN (wdN Hn.b x t) 16) s4 = s5 at e5 k5
 have e6 := wAll_le (bitsN (wdN Hn.d x t) 16) s5 k5
 have k6 := wAll_ok (bitsN (wdN Hn.d x t) 16) s5 k5
 rw [bitsN_len] at e6
 generalize hs6 : wAll (bitsN (wdN Hn.d x t) 16) s5 = s6 at e6 k6
 have z0 : ([] : List UInt8).length = 0 := rfl
 simp only [z0] at e0
 have kc0 := colS_ok Hn.a x t s6
 have ec0 := colS_le k6 hl w0
 have kc1 := colS_ok Hn.b x t (colS Hn.a x t s6)
 have ec1 := colS_le kc0 hl w1
 have hhd : headS x t = s6 := by rw [headS, hs0, hs1, hs2, hs3, hs4, hs5, hs6]
 refine AW.rS ?_
 refine AW.trim [0] ?_
 refine AW.seq ?_
 refine AW.rSC ?_
 refine awOps.cons (awGuard.c1 (by have h := c_hint_check gl (x :: t) (by omega); rw [hk] at h; exact h) ?_)
 refine awOps.rn ?_
 refine AW.trim [0, 4] ?_
 refine AW.rS ?_
 refine AW.trim [0, 4, 19] ?_
 refine AW.c2 ?_ ?_
 ·intro h7
  simp at h7
 ·intro h7
  refine AW.skip ?_
  refine AW.rSC ?_
  refine awOps.cons (awGuard.c1 (c_slices_Clone_api_Hint_api_Hint _ (x :: t) (by omega)) ?_)
  refine awOps.rn ?_
  refine AW.trim [0] ?_
  refine AW.rSC ?_
  refine awOps.cons (awGuard.cH [] (h_bit_New _) ?_)
  refine awOps.rn ?_
  refine AW.trim [0, 5] ?_
  refine AW.pre (St.le.nilcell 0 2 1 (by (simp only [go_sem, seval]; try (simp (disch := omega) only [zq]; try (simp only [go_sem, seval]; try (simp (disch := omega) only [zq]; try simp only [go_sem, seval])))); exact rfl) (by exact rfl)) ?_
  refine wk ?_
  refine AW.rSC ?_
  refine awOps.cons (awGuard.cK 1 [0, 2] (by have h := h_num_top gl 0 (x :: t).length 32 ([], 0) (.inl rfl) (by omega) (by decide) (by decide) ⟨by decide, fun h => absurd rfl h⟩ (by decide); rw [hs0] at h; exact h) ?_)
  refine awOps.rn ?_
  refine AW.trim [0, 5] ?_
  refine AW.seq ?_
  refine AW.rS ?_
  refine AW.trim [0, 5, 29] ?_
  refine AW.block ?_
  refine AW.un 3 ?_
  refine AW.rS ?_
  refine AW.trim [0, 5, 29, 30] ?_
  refine AW.seq ?_
  refine AW.c2 ?_ ?_
  ·intro h27
   refine AW.skip ?_
   refine AW.seq ?_
   refine AW.block ?_
   refine AW.rS ?_
   refine AW.trim [0, 5, 6, 29] ?_
   refine AW.rSC ?_
   refine awOps.cons (awGuard.c1 (q0) ?_)
   refine awOps.rn ?_
   refine AW.trim [0, 5, 7, 29] ?_
   refine AW.rLC ?_
   refine awOps.cons (awGuard.cK 1 [0, 3] (by have h := h_num_top gl 2 (loN Hn.a x t) 32 s0 (.inr rfl) (by omega) (by decide) (by decide) k0 (by omega); rw [hs1] at h; exact h) ?_)
   refine awOps.rn ?_
   refine AW.rL ?_
   refine AWR.s ?_
   refine AW.rS ?_
   refine AW.trim [0, 5, 29, 30] ?_
   refine AW.seq ?_
   refine AW.c2 ?_ ?_
   ·intro h42
    refine AW.skip ?_
    refine AW.seq ?_
    refine AW.block ?_
    refine AW.rS ?_
    refine AW.trim [0, 5, 6, 29] ?_
    refine AW.rSC ?_
    refine awOps.cons (awGuard.c1 (q1) ?_)
    refine awOps.rn ?_
    refine AW.trim [0, 5, 7, 29] ?_
    refine AW.rLC ?_
    refine awOps.cons (awGuard.cK 1 [0, 4] (by have h := h_num_top gl 2 (loN Hn.b x t) 32 s1 (.inr rfl) (by omega) (by decide) (by decide) k1 (by omega); rw [hs2] at h; exact h) ?_)
    refine awOps.rn ?_
    refine AW.rL ?_
    refine AWR.s ?_
    refine AW.rS ?_
    refine AW.trim [0, 5, 29, 30] ?_
    refine AW.seq ?_
    refine AW.c2 ?_ ?_
    ·intro h57
     refine AW.skip ?_
     refine AW.seq ?_
     refine AW.block ?_
     refine AW.rS ?_
     refine AW.trim [0, 5, 6, 29] ?_
     refine AW.rSC ?_
     refine awOps.cons (awGuard.c1 (q2) ?_)
     refine awOps.rn ?_
     refine AW.trim [0, 5, 7, 29] ?_
     refine AW.rLC ?_
     refine awOps.cons (awGuard.cK 1 [0, 5] (by have h := h_num_top gl 2 (loN Hn.d x t) 32 s2 (.inr rfl) (by omega) (by decide) (by decide) k2 (by omega); rw [hs3] at h; exact h) ?_)
     refine awOps.rn ?_
     refine AW.rL ?_
     refine AWR.s ?_
     refine AW.rS ?_
     refine AW.trim [0, 5, 29, 30] ?_
     refine AW.seq ?_
     refine AW.c2 ?_ ?_
     ·intro h72
      first | contradiction | (simp at h72; done) | (exfalso; omega) | (exfalso; revert h72; decide)
     ·intro h72
      refine AW.exit ?_
      refine AW.seq ?_
      refine AW.rS ?_
      refine AW.trim [0, 5, 42] ?_
      refine AW.block ?_
      refine AW.un 3 ?_
      refine AW.rS ?_
      refine AW.trim [0, 5, 42, 43] ?_
      refine AW.seq ?_
      refine AW.c2 ?_ ?_
      ·intro h80
       refine AW.skip ?_
       refine AW.seq ?_
       refine AW.block ?_
       refine AW.rS ?_
       refine AW.trim [0, 5, 9, 42] ?_
       refine AW.rSC ?_
       refine awOps.cons (awGuard.c1 (q0) ?_)
       refine awOps.rn ?_
       refine AW.trim [0, 5, 11, 42] ?_
       refine AW.rLC ?_
       refine awOps.cons (awGuard.cK 1 [0, 6] (by have h := h_num_base gl 2 (wdN Hn.a x t) 16 s3 (.inr rfl) (by omega) (by decide) k3 (by omega); rw [hs4, if_neg (by decide)] at h; exact h) ?_)
       refine awOps.rn ?_
       refine AW.rL ?_
       refine AWR.s ?_
       refine AW.rS ?_
       refine AW.trim [0, 5, 42, 43] ?_
       refine AW.seq ?_
       refine AW.c2 ?_ ?_
       ·intro h95
        refine AW.skip ?_
        refine AW.seq ?_
        refine AW.block ?_
        refine AW.rS ?_
        refine AW.trim [0, 5, 9, 42] ?_
        refine AW.rSC ?_
        refine awOps.cons (awGuard.c1 (q1) ?_)
        refine awOps.rn ?_
        refine AW.trim [0, 5, 11, 42] ?_
        refine AW.rLC ?_
        refine awOps.cons (awGuard.cK 1 [0, 7] (by have h := h_num_base gl 2 (wdN Hn.b x t) 16 s4 (.inr rfl) (by omega) (by decide) k4 (by omega); rw [hs5, if_neg (by decide)] at h; exact h) ?_)
        refine awOps.rn ?_
        refine AW.rL ?_
        refine AWR.s ?_
        refine AW.rS ?_
        refine AW.trim [0, 5, 42, 43] ?_
        refine AW.seq ?_
        refine AW.c2 ?_ ?_
        ·intro h110
         refine AW.skip ?_
         refine AW.seq ?_
         refine AW.block ?_
         refine AW.rS ?_
         refine AW.trim [0, 5, 9, 42] ?_
         refine AW.rSC ?_
         refine awOps.cons (awGuard.c1 (q2) ?_)
         refine awOps.rn ?_
         refine AW.trim [0, 5, 11, 42] ?_
         refine AW.rLC ?_
         refine awOps.cons (awGuard.cK 1 [0, 8] (by have h := h_num_base gl 2 (wdN Hn.d x t) 16 s5 (.inr rfl) (by omega) (by decide) k5 (by omega); rw [hs6, if_neg (by decide)] at h; exact h) ?_)
         refine awOps.rn ?_
         refine AW.rL ?_
         refine AWR.s ?_
         refine AW.rS ?_
         refine AW.trim [0, 5, 42, 43] ?_
         refine AW.seq ?_
         refine AW.c2 ?_ ?_
         ·intro h125
          first | contradiction | (simp at h125; done) | (exfalso; omega) | (exfalso; revert h125; decide)
         ·intro h125
          refine AW.exit ?_
          refine AW.seq ?_
          refine AW.rS ?_
          refine AW.trim [0, 5, 55] ?_
          refine AW.block ?_
          refine AW.un 3 ?_
          refine AW.rS ?_
          refine AW.trim [0, 5, 55, 56] ?_
          refine AW.seq ?_
          refine AW.c2 ?_ ?_
          ·intro h133
           refine AW.skip ?_
           refine AW.seq ?_
           refine AW.block ?_
           refine AW.rS ?_
           refine AW.trim [0, 5, 12, 55] ?_
           refine AW.rSC ?_
           refine awOps.cons (awGuard.c1 (q0) ?_)
           refine awOps.rn ?_
           refine AW.trim [0, 5, 12, 13, 14, 55] ?_
           refine AW.seq ?_
           refine AW.rS ?_
           refine AW.trim [0, 5, 12, 13, 14, 55, 65, 66] ?_
           refine AW.block ?_
           refine AW.lk (S := { i : Nat // i ≤ (x :: t).length }) [0, 5, 12, 13, 14, 55, 65] (fun s_ => [(66, .int .i64 s_.1)]) (fun s_ => [(0, .cells [.int .i64 (wayI 2 (wdN Hn.a x t) s_.1), .int .i64 (wAll (colI Hn.a (loN Hn.a x t) (wdN Hn.a x t) (x :: t) s_.1) s6).2, .row 2 0 (wAll (colI Hn.a (loN Hn.a x t) (wdN Hn.a x t) (x :: t) s_.1) s6).1.length]), (1, .cells [.ptr 0 0]), (2, .row 1 (bytesAV (wAll (colI Hn.a (loN Hn.a x t) (wdN Hn.a x t) (x :: t) s_.1) s6).1) true)]) 3 (fun s_ => (x :: t).length - s_.1) ⟨0, Nat.zero_le _⟩ ?_ ?_
           ·refine St.le.vx [0, 1, 9] ?_; rw [wayI_zero, colI_zero] <;> exact ⟨rfl, rfl⟩
           rintro ⟨i, hi⟩
           try dsimp only at hi
           refine AW.rS ?_
           refine AW.trim [0, 5, 12, 13, 14, 55, 65, 66, 67] ?_
           refine AW.seq ?_
           refine AW.c2 ?_ ?_
           ·intro h147
            have h147 : i < (x :: t).length := by omega
            have hcl := colI_len (f := Hn.a) (lo := (loN Hn.a x t)) (k := (wdN Hn.a x t)) (l := x :: t) (i := i) hi
            have hct := colI_succ (f := Hn.a) (lo := (loN Hn.a x t)) (k := (wdN Hn.a x t)) h147
            have hok := wAll_ok (colI Hn.a (loN Hn.a x t) (wdN Hn.a x t) (x :: t) i) s6 k6
            have hle := wAll_le (colI Hn.a (loN Hn.a x t) (wdN Hn.a x t) (x :: t) i) s6 k6
            have hmu : i * (wdN Hn.a x t) ≤ 2048 * 21 := Nat.mul_le_mul (by omega) w0
            have hmm : (x :: t).getD i Hn.zero ∈ x :: t := by
             rw [List.getD_eq_getElem?_getD, List.getElem?_eq_getElem h147]
             exact List.getElem_mem _
            have hpb := p05 _ hmm
            have hlt2 : (((x :: t).getD i Hn.zero).a - (loN Hn.a x t)).toNat < 2 ^ (wdN Hn.a x t) := Nat.lt_of_le_of_lt (by omega) (bitLen_lt p04)
            obtain ⟨j, rfl⟩ : ∃ j : { n : Nat // n < (x :: t).length }, i = j.1 := ⟨⟨i, h147⟩, rfl⟩
            refine AW.skip ?_
            refine AW.seq ?_
            refine AW.block ?_
            refine AW.rS ?_
            refine AW.trim [0, 5, 12, 13, 14, 15, 55, 65, 66] ?_
            refine AW.fL [0, 1, 2, 3, 4, 8, 10, 5, 6, 7, 9] [(11, 2)] ?_
            refine awFun.rn ?_
            refine awFun.c1 [72, 73] (c_cell0 _ ((x :: t).getD j.1 Hn.zero).a ((x :: t).getD j.1 Hn.zero).b ((x :: t).getD j.1 Hn.zero).d) ?_
            refine awFun.rn ?_
            rw [Aw.awFun_nil]
            refine awPlan.rn ?_
            rw [show ((x :: t).getD j.1 Hn.zero).a - ((loN Hn.a x t) : Int) = ((((x :: t).getD j.1 Hn.zero).a - ((loN Hn.a x t) : Int)).toNat : Int) by omega]
            refine awPlan.only rfl ?_
            refine awGuard.cK 1 [0, 2] (h_num_base _ (wayI 2 (wdN Hn.a x t) j.1) (((x :: t).getD j.1 Hn.zero).a - (loN Hn.a x t)).toNat (wdN Hn.a x t) (wAll (colI Hn.a (loN Hn.a x t) (wdN Hn.a x t) (x :: t) j.1) s6) (wayI_ok (.inr rfl)) hlt2 (by omega) hok (by omega)) ?_
            refine awPlan.rn ?_
            refine AW.rL ?_
            refine ⟨⟨j.1 + 1, by omega⟩, ?_, ?_⟩
            ·refine St.le.vx [0, 1, 3] ?_
             rw [hct, wAll_app, wayI_succ] <;> exact ⟨rfl, rfl⟩
            ·simp only []; omega
           ·intro h147
            obtain rfl : i = (x :: t).length := by omega
            rw [colI_end]
            refine AW.exit ?_
            refine AW.rLC ?_
            refine awOps.cons (awGuard.cH [0, 2] (h_Writer_Align _ (wayI 2 (wdN Hn.a x t) (x :: t).length) (wAll (colBits Hn.a (loN Hn.a x t) (wdN Hn.a x t) (x :: t)) s6).2 (wAll (colBits Hn.a (loN Hn.a x t) (wdN Hn.a x t) (x :: t)) s6).1.length (bytesAV (wAll (colBits Hn.a (loN Hn.a x t) (wdN Hn.a x t) (x :: t)) s6).1)) ?_)
            refine awOps.rn ?_
            refine AW.rL ?_
            refine AWR.s ?_
            refine AW.rS ?_
            refine AW.trim [0, 5, 55, 56] ?_
            refine AW.seq ?_
            refine AW.c2 ?_ ?_
            ·intro h170
             refine AW.skip ?_
             refine AW.seq ?_
             refine AW.block ?_
             refine AW.rS ?_
             refine AW.trim [0, 5, 12, 55] ?_
             refine AW.rSC ?_
             refine awOps.cons (awGuard.c1 (q1) ?_)
             refine awOps.rn ?_
             refine AW.trim [0, 5, 12, 13, 14, 55] ?_
             refine AW.seq ?_
             refine AW.rS ?_
             refine AW.trim [0, 5, 12, 13, 14, 55, 65, 66] ?_
             refine AW.block ?_
             refine AW.lk (S := { i : Nat // i ≤ (x :: t).length }) [0, 5, 12, 13, 14, 55, 65] (fun s_ => [(66, .int .i64 s_.1)]) (fun s_ => [(0, .cells [.int .i64 (wayI 0 (wdN Hn.b x t) s_.1), .int .i64 (wAll (colI Hn.b (loN Hn.b x t) (wdN Hn.b x t) (x :: t) s_.1) (colS Hn.a x t s6)).2, .row 2 0 (wAll (colI Hn.b (loN Hn.b x t) (wdN Hn.b x t) (x :: t) s_.1) (colS Hn.a x t s6)).1.length]), (1, .cells [.ptr 0 0]), (2, .row 1 (bytesAV (wAll (colI Hn.b (loN Hn.b x t) (wdN Hn.b x t) (x :: t) s_.1) (colS Hn.a x t s6)).1) true)]) 3 (fun s_ => (x :: t).length - s_.1) ⟨0, Nat.zero_le _⟩ ?_ ?_
             ·refine St.le.vx [0, 1, 2] ?_; rw [wayI_zero, colI_zero] <;> exact ⟨rfl, rfl⟩
             rintro ⟨i, hi⟩
             try dsimp only at hi
             refine AW.rS ?_
             refine AW.trim [0, 5, 12, 13, 14, 55, 65, 66, 67] ?_
             refine AW.seq ?_
             refine AW.c2 ?_ ?_
             ·intro h184
              have h147 : i < (x :: t).length := by omega
              have hcl := colI_len (f := Hn.b) (lo := (loN Hn.b x t)) (k := (wdN Hn.b x t)) (l := x :: t) (i := i) hi
              have hct := colI_succ (f := Hn.b) (lo := (loN Hn.b x t)) (k := (wdN Hn.b x t)) h147
              have hok := wAll_ok (colI Hn.b (loN Hn.b x t) (wdN Hn.b x t) (x :: t) i) (colS Hn.a x t s6) kc0
              have hle := wAll_le (colI Hn.b (loN Hn.b x t) (wdN Hn.b x t) (x :: t) i) (colS Hn.a x t s6) kc0
              have hmu : i * (wdN Hn.b x t) ≤ 2048 * 21 := Nat.mul_le_mul (by omega) w1
              have hmm : (x :: t).getD i Hn.zero ∈ x :: t := by
               rw [List.getD_eq_getElem?_getD, List.getElem?_eq_getElem h147]
               exact List.getElem_mem _
              have hpb := p15 _ hmm
              have hlt2 : (((x :: t).getD i Hn.zero).b - (loN Hn.b x t)).toNat < 2 ^ (wdN Hn.b x t) := Nat.lt_of_le_of_lt (by omega) (bitLen_lt p14)
              obtain ⟨j, rfl⟩ : ∃ j : { n : Nat // n < (x :: t).length }, i = j.1 := ⟨⟨i, h147⟩, rfl⟩
              refine AW.skip ?_
              refine AW.seq ?_
              refine AW.block ?_
              refine AW.rS ?_
              refine AW.trim [0, 5, 12, 13, 14, 15, 55, 65, 66] ?_
              refine AW.fL [0, 1, 2, 3, 4, 8, 10, 5, 6, 7, 9] [(11, 2)] ?_
              refine awFun.rn ?_
              refine awFun.c1 [72, 73] (c_cell1 _ ((x :: t).getD j.1 Hn.zero).a ((x :: t).getD j.1 Hn.zero).b ((x :: t).getD j.1 Hn.zero).d) ?_
              refine awFun.rn ?_
              rw [Aw.awFun_nil]
              refine awPlan.rn ?_
              rw [show ((x :: t).getD j.1 Hn.zero).b - ((loN Hn.b x t) : Int) = ((((x :: t).getD j.1 Hn.zero).b - ((loN Hn.b x t) : Int)).toNat : Int) by omega]
              refine awPlan.only rfl ?_
              refine awGuard.cK 1 [0, 2] (h_num_base _ (wayI 0 (wdN Hn.b x t) j.1) (((x :: t).getD j.1 Hn.zero).b - (loN Hn.b x t)).toNat (wdN Hn.b x t) (wAll (colI Hn.b (loN Hn.b x t) (wdN Hn.b x t) (x :: t) j.1) (colS Hn.a x t s6)) (wayI_ok (.inl rfl)) hlt2 (by omega) hok (by omega)) ?_
              refine awPlan.rn ?_
              refine AW.rL ?_
              refine ⟨⟨j.1 + 1, by omega⟩, ?_, ?_⟩
              ·refine St.le.vx [0, 1, 3] ?_
               rw [hct, wAll_app, wayI_succ] <;> exact ⟨rfl, rfl⟩
              ·simp only []; omega
             ·intro h184
              obtain rfl : i = (x :: t).length := by omega
              rw [colI_end]
              refine AW.exit ?_
              refine AW.rLC ?_
              refine awOps.cons (awGuard.cH [0, 2] (h_Writer_Align _ (wayI 0 (wdN Hn.b x t) (x :: t).length) (wAll (colBits Hn.b (loN Hn.b x t) (wdN Hn.b x t) (x :: t)) (colS Hn.a x t s6)).2 (wAll (colBits Hn.b (loN Hn.b x t) (wdN Hn.b x t) (x :: t)) (colS Hn.a x t s6)).1.length (bytesAV (wAll (colBits Hn.b (loN Hn.b x t) (wdN Hn.b x t) (x :: t)) (colS Hn.a x t s6)).1)) ?_)
              refine awOps.rn ?_
              refine AW.rL ?_
              refine AWR.s ?_
              refine AW.rS ?_
              refine AW.trim [0, 5, 55, 56] ?_
              refine AW.seq ?_
              refine AW.c2 ?_ ?_
              ·intro h207
               refine AW.skip ?_
               refine AW.seq ?_
               refine AW.block ?_
               refine AW.rS ?_
               refine AW.trim [0, 5, 12, 55] ?_
               refine AW.rSC ?_
               refine awOps.cons (awGuard.c1 (q2) ?_)
               refine awOps.rn ?_
               refine AW.trim [0, 5, 12, 13, 14, 55] ?_
               refine AW.seq ?_
               refine AW.rS ?_
               refine AW.trim [0, 5, 12, 13, 14, 55, 65, 66] ?_
               refine AW.block ?_
               refine AW.lk (S := { i : Nat // i ≤ (x :: t).length }) [0, 5, 12, 13, 14, 55, 65] (fun s_ => [(66, .int .i64 s_.1)]) (fun s_ => [(0, .cells [.int .i64 (wayI 0 (wdN Hn.d x t) s_.1), .int .i64 (wAll (colI Hn.d (loN Hn.d x t) (wdN Hn.d x t) (x :: t) s_.1) (colS Hn.b x t (colS Hn.a x t s6))).2, .row 2 0 (wAll (colI Hn.d (loN Hn.d x t) (wdN Hn.d x t) (x :: t) s_.1) (colS Hn.b x t (colS Hn.a x t s6))).1.length]), (1, .cells [.ptr 0 0]), (2, .row 1 (bytesAV (wAll (colI Hn.d (loN Hn.d x t) (wdN Hn.d x t) (x :: t) s_.1) (colS Hn.b x t (colS Hn.a x t s6))).1) true)]) 3 (fun s_ => (x :: t).length - s_.1) ⟨0, Nat.zero_le _⟩ ?_ ?_
               ·refine St.le.vx [0, 1, 2] ?_; rw [wayI_zero, colI_zero] <;> exact ⟨rfl, rfl⟩
               rintro ⟨i, hi⟩
               try dsimp only at hi
               refine AW.rS ?_
               refine AW.trim [0, 5, 12, 13, 14, 55, 65, 66, 67] ?_
               refine AW.seq ?_
               refine AW.c2 ?_ ?_
               ·intro h221
                have h147 : i < (x :: t).length := by omega
                have hcl := colI_len (f := Hn.d) (lo := (loN Hn.d x t)) (k := (wdN Hn.d x t)) (l := x :: t) (i := i) hi
                have hct := colI_succ (f := Hn.d) (lo := (loN Hn.d x t)) (k := (wdN Hn.d x t)) h147
                have hok := wAll_ok (colI Hn.d (loN Hn.d x t) (wdN Hn.d x t) (x :: t) i) (colS Hn.b x t (colS Hn.a x t s6)) kc1
                have hle := wAll_le (colI Hn.d (loN Hn.d x t) (wdN Hn.d x t) (x :: t) i) (colS Hn.b x t (colS Hn.a x t s6)) kc1
                have hmu : i * (wdN Hn.d x t) ≤ 2048 * 21 := Nat.mul_le_mul (by omega) w2
                have hmm : (x :: t).getD i Hn.zero ∈ x :: t := by
                 rw [List.getD_eq_getElem?_getD, List.getElem?_eq_getElem h147]
                 exact List.getElem_mem _
                have hpb := p25 _ hmm
                have hlt2 : (((x :: t).getD i Hn.zero).d - (loN Hn.d x t)).toNat < 2 ^ (wdN Hn.d x t) := Nat.lt_of_le_of_lt (by omega) (bitLen_lt p24)
                obtain ⟨j, rfl⟩ : ∃ j : { n : Nat // n < (x :: t).length }, i = j.1 := ⟨⟨i, h147⟩, rfl⟩
                refine AW.skip ?_
                refine AW.seq ?_
                refine AW.block ?_
                refine AW.rS ?_
                refine AW.trim [0, 5, 12, 13, 14, 15, 55, 65, 66] ?_
                refine AW.fL [0, 1, 2, 3, 4, 8, 10, 5, 6, 7, 9] [(11, 2)] ?_
                refine awFun.rn ?_
                refine awFun.c1 [72, 73] (c_cell2 _ ((x :: t).getD j.1 Hn.zero).a ((x :: t).getD j.1 Hn.zero).b ((x :: t).getD j.1 Hn.zero).d) ?_
                refine awFun.rn ?_
                rw [Aw.awFun_nil]
                refine awPlan.rn ?_
                rw [show ((x :: t).getD j.1 Hn.zero).d - ((loN Hn.d x t) : Int) = ((((x :: t).getD j.1 Hn.zero).d - ((loN Hn.d x t) : Int)).toNat : Int) by omega]
                refine awPlan.only rfl ?_
                refine awGuard.cK 1 [0, 2] (h_num_base _ (wayI 0 (wdN Hn.d x t) j.1) (((x :: t).getD j.1 Hn.zero).d - (loN Hn.d x t)).toNat (wdN Hn.d x t) (wAll (colI Hn.d (loN Hn.d x t) (wdN Hn.d x t) (x :: t) j.1) (colS Hn.b x t (colS Hn.a x t s6))) (wayI_ok (.inl rfl)) hlt2 (by omega) hok (by omega)) ?_
                refine awPlan.rn ?_
                refine AW.rL ?_
                refine ⟨⟨j.1 + 1, by omega⟩, ?_, ?_⟩
                ·refine St.le.vx [0, 1, 3] ?_
                 rw [hct, wAll_app, wayI_succ] <;> exact ⟨rfl, rfl⟩
                ·simp only []; omega
               ·intro h221
                obtain rfl : i = (x :: t).length := by omega
                rw [colI_end]
                refine AW.exit ?_
                refine AW.rLC ?_
                refine awOps.cons (awGuard.cH [0, 2] (h_Writer_Align _ (wayI 0 (wdN Hn.d x t) (x :: t).length) (wAll (colBits Hn.d (loN Hn.d x t) (wdN Hn.d x t) (x :: t)) (colS Hn.b x t (colS Hn.a x t s6))).2 (wAll (colBits Hn.d (loN Hn.d x t) (wdN Hn.d x t) (x :: t)) (colS Hn.b x t (colS Hn.a x t s6))).1.length (bytesAV (wAll (colBits Hn.d (loN Hn.d x t) (wdN Hn.d x t) (x :: t)) (colS Hn.b x t (colS Hn.a x t s6))).1)) ?_)
                refine awOps.rn ?_
                refine AW.rL ?_
                refine AWR.s ?_
                refine AW.rS ?_
                refine AW.trim [0, 5, 55, 56] ?_
                refine AW.seq ?_
                refine AW.c2 ?_ ?_
                ·intro h244
                 first | contradiction | (simp at h244; done) | (exfalso; omega) | (exfalso; revert h244; decide)
                ·intro h244
                 refine AW.exit ?_
                 refine AW.rSC ?_
                 refine awOps.cons (awGuard.cH [0, 2] (h_Writer_Text _ 0 0 (wAll (colBits Hn.d (loN Hn.d x t) (wdN Hn.d x t) (x :: t)) (colS Hn.b x t (colS Hn.a x t s6))).1 (show (colS Hn.d x t (colS Hn.b x t (colS Hn.a x t s6))).1.length ≤ 16000000 from by have := colS_le (f := Hn.d) kc1 hl w2; omega)) ?_)
                 refine awOps.rn ?_
                 refine AW.trim [2, 3] ?_
                 refine AW.rt ?_
                 rw [textS, hhd]
                 rfl
              ·intro h207
               first | contradiction | (simp at h207; done) | (exfalso; omega) | (exfalso; revert h207; decide)
            ·intro h170
             first | contradiction | (simp at h170; done) | (exfalso; omega) | (exfalso; revert h170; decide)
          ·intro h133
           first | contradiction | (simp at h133; done) | (exfalso; omega) | (exfalso; revert h133; decide)
        ·intro h110
         first | contradiction | (simp at h110; done) | (exfalso; omega) | (exfalso; revert h110; decide)
       ·intro h95
        first | contradiction | (simp at h95; done) | (exfalso; omega) | (exfalso; revert h95; decide)
      ·intro h80
       first | contradiction | (simp at h80; done) | (exfalso; omega) | (exfalso; revert h80; decide)
    ·intro h57
     first | contradiction | (simp at h57; done) | (exfalso; omega) | (exfalso; revert h57; decide)
   ·intro h42
    first | contradiction | (simp at h42; done) | (exfalso; omega) | (exfalso; revert h42; decide)
  ·intro h27
   first | contradiction | (simp at h27; done) | (exfalso; omega) | (exfalso; revert h27; decide)
end Go.Proofs

namespace Aw
open Go
def bitS (s : List UInt8) (p : Nat) : Bool := (s.getD (p / 8) 0).toNat.testBit (7 - p % 8)
def readV (s : List UInt8) (p : Nat) : Nat → Nat
 | 0 => 0
 | k + 1 => 2 * readV s p k + (bitS s (p + k)).toNat
theorem readV_lt (s : List UInt8) (p : Nat) : ∀ k, readV s p k < 2 ^ k
 | 0 => by simp [readV]
 | k + 1 => by
  have ih := readV_lt s p k
  have hb : (bitS s (p + k)).toNat < 2 := Bool.toNat_lt _
  rw [readV, Nat.pow_succ]
  omega
theorem readV_add (s : List UInt8) (p a : Nat) : ∀ k, readV s p (a + k) = readV s p a * 2 ^ k + readV s (p + a) k
 | 0 => by simp [readV]
 | k + 1 => by
  have ih := readV_add s p a k
  rw [← Nat.add_assoc, readV, ih, readV, Nat.pow_succ, Nat.add_assoc p a k]
  grind
theorem bI_nat (x : Bool) : bI x = (x.toNat : Int) := by cases x <;> rfl
theorem or_add {a b k : Nat} (h : b < 2 ^ k) (hs : a * 2 ^ k + b < 9223372036854775808) : bitOr .i64 ((a * 2 ^ k : Nat) : Int) (b : Int) = ((a * 2 ^ k + b : Nat) : Int) := by
 have hk : a <<< k + b = a <<< k ||| b := Nat.shiftLeft_add_eq_or_of_lt h a
 rw [Nat.shiftLeft_eq] at hk
 generalize a * 2 ^ k = A at hk hs
 have e : (BitVec.ofInt 64 (A : Int) ||| BitVec.ofInt 64 (b : Int)).toNat = A + b := by
  rw [BitVec.toNat_or]
  simp only [BitVec.toNat_ofInt]
  have h1 : ((A : Int) % ((2 ^ 64 : Nat) : Int)).toNat = A := by omega
  have h2 : ((b : Int) % ((2 ^ 64 : Nat) : Int)).toNat = b := by omega
  rw [h1, h2, hk]
 show IntKind.i64.wrap ((BitVec.ofInt 64 (A : Int) ||| BitVec.ofInt 64 (b : Int)).toNat : Int) = _
 rw [e]
 exact IntWalk.i64_in _ ⟨by omega, by omega⟩
theorem shl_nat {a k : Nat} (hk : k ≤ 64) (h : a * 2 ^ k < 9223372036854775808) : bitShl .i64 (a : Int) (k : Int) = ((a * 2 ^ k : Nat) : Int) := by
 unfold bitShl
 have h1 : min (k : Int).toNat IntKind.i64.bits = k := by
  show min (k : Int).toNat 64 = k
  omega
 rw [h1]
 have e : (a : Int) * 2 ^ k = ((a * 2 ^ k : Nat) : Int) := by simp
 rw [e]
 exact IntWalk.i64_in _ ⟨by omega, by omega⟩
/-- one more bit -/
theorem read_step (s : List UInt8) (p : Nat) {i : Nat} (hi : i < 24) : bitOr .i64 (bitShl .i64 (readV s p i : Int) 1) (bI (bitS s (p + i))) = (readV s p (i + 1) : Int) := by
 have h1 := readV_lt s p i
 have h2 : 2 ^ i ≤ 2 ^ 24 := Nat.pow_le_pow_right (by decide) (by omega)
 have h3 : (bitS s (p + i)).toNat < 2 := Bool.toNat_lt _
 have e := shl_nat (a := readV s p i) (k := 1) (by decide) (by omega)
 rw [show ((1 : Nat) : Int) = 1 from rfl] at e
 rw [e, bI_nat, or_add (by omega) (by omega), readV]
 congr 1
 omega
theorem byte_bit (y : UInt8) {u : Nat} (hu : u < 8) : bitAnd .i64 (bitShr .i64 ((y.toNat : Nat) : Int) (7 - (u : Int))) 1 = bI (y.toNat.testBit (7 - u)) := by
 have h := bit_at (v := y.toNat) (k := 8) (i := u) (by have := y.toNat_lt; omega) hu (by decide)
 exact h
theorem one_bit (s : List UInt8) (p : Nat) : bitAnd .i64 (bitShr .i64 (IntKind.i64.wrap ((s.getD (p / 8) 0).toNat : Int)) (7 - ((p % 8 : Nat) : Int))) 1 = bI (bitS s p) := by
 have h1 := (s.getD (p / 8) 0).toNat_lt
 rw [IntWalk.i64_in _ ⟨by omega, by omega⟩, byte_bit _ (Nat.mod_lt _ (by decide))]
 rfl
theorem readV_zero (s : List UInt8) (p : Nat) : readV s p 0 = 0 := rfl
theorem read_chunk (s : List UInt8) (p : Nat) {i c : Nat} (h : i + c ≤ 40) : bitOr .i64 (bitShl .i64 (readV s p i : Int) (c : Int)) (readV s (p + i) c : Int) = (readV s p (i + c) : Int) := by
 have h1 := readV_lt s p i
 have h2 := readV_lt s (p + i) c
 have h3 := readV_lt s p (i + c)
 have h4 : 2 ^ (i + c) ≤ 2 ^ 40 := Nat.pow_le_pow_right (by decide) h
 rw [readV_add] at h3 ⊢
 rw [shl_nat (by omega) (by omega), or_add h2 (by omega)]
theorem min_cast (k i : Nat) (h : i ≤ k) : min ((k : Int) - i) 16 = ((min (k - i) 16 : Nat) : Int) := by omega
end Aw

namespace Go.Proofs
open Go Aw
set_option linter.unusedSimpArgs false
set_option linter.unusedVariables false
set_option maxRecDepth 100000
set_option maxHeartbeats 1000000
theorem h_rside_place (gl : List (Nat × AV)) (w u : Int) (s : List UInt8) (p : Int) (hu : 0 ≤ u ∧ u ≤ 8) : FnH Try.prog (gl) 63 [.ptr 0 0, .int .i64 2] ([(0, .cells [.int .i64 w, .int .i64 u, .str s, .int .i64 p])]) 1 (fun r h n => r = .ret (.int .i64 (7 - u)) ∧ h = [(0, .cells [.int .i64 w, .int .i64 u, .str s, .int .i64 p])] ∧ n = 1) := by
 refine FnH.intro Try.func63 rfl rfl (by simp [Try.ntmps63]) ?_
 simp only [argEnv, Try.ntmps63, Try.results63]
 refine AW.rS ?_
 refine AW.seq ?_
 refine AW.rS ?_
 refine AW.c2 ?_ ?_
 ·intro h4
  refine AW.rS ?_
  refine AW.rt ?_
  all_goals first | contradiction | rfl | (simp; done) | (simp; omega)
 ·intro h4
  refine AW.skip ?_
  refine AW.rS ?_
  refine AW.rt ?_
  trivial
theorem h_rside_other (gl : List (Nat × AV)) (w u : Int) (s : List UInt8) (p : Int) (hw : w = 0 ∨ w = 2) : FnH Try.prog (gl) 58 [.ptr 0 0, .int .i64 2] ([(0, .cells [.int .i64 w, .int .i64 u, .str s, .int .i64 p])]) 1 (fun r h n => r = .ret (.bool false) ∧ h = [(0, .cells [.int .i64 w, .int .i64 u, .str s, .int .i64 p])] ∧ n = 1) := by
 refine FnH.intro Try.func58 rfl rfl (by simp [Try.ntmps58]) ?_
 simp only [argEnv, Try.ntmps58, Try.results58]
 refine AW.rS ?_
 refine AW.rS ?_
 refine AW.rt ?_
 rcases hw with rfl | rfl <;> simp
theorem h_bit_From (gl : List (Nat × AV)) (s : List UInt8) : FnH Try.prog (gl) 36 [.str s] ([]) 0 (fun r h n => r = .ret (.ptr 0 0) ∧ h = [(0, .cells [.int .i64 0, .int .i64 0, .str s, .int .i64 0])] ∧ n = 1) := by
 refine FnH.intro Try.func36 rfl rfl (by simp [Try.ntmps36]) ?_
 simp only [argEnv, Try.ntmps36, Try.results36]
 refine AW.rS ?_
 refine AW.rS ?_
 refine AW.rt ?_
 trivial
theorem h_Reader_one (gl : List (Nat × AV)) (w : Int) (s : List UInt8) (p : Nat) (hp : p < 8 * s.length) (hl : s.length ≤ 16777216) : FnH Try.prog (gl) 65 [.ptr 0 0, .int .i64 2] ([(0, .cells [.int .i64 w, .int .i64 (p % 8 : Nat), .str s, .int .i64 (p / 8 : Nat)])]) 1 (fun r h n => r = .ret (.int .i64 (bI (bitS s p))) ∧ h = [(0, .cells [.int .i64 w, .int .i64 ((p + 1) % 8 : Nat), .str s, .int .i64 ((p + 1) / 8 : Nat)])] ∧ n = 1) := by
 refine FnH.intro Try.func65 rfl rfl (by simp [Try.ntmps65]) ?_
 simp only [argEnv, Try.ntmps65, Try.results65]
 have hp8 : p % 8 < 8 := Nat.mod_lt _ (by decide)
 have hpd : p / 8 < s.length := by omega
 refine AW.rS ?_
 refine AW.fS [0, 1, 2, 3, 4, 5, 6, 7, 8, 9, 10, 11, 12, 13, 14, 15, 16, 17] [] ?_
 refine awFun.rn ?_
 refine awFun.cH [18, 19] [0] (h_rside_place _ w (p % 8 : Nat) s (p / 8 : Nat) (by omega)) ?_
 refine awFun.rn ?_
 rw [Aw.awFun_nil, Aw.awPlan_nil]
 refine AW.seq ?_
 refine AW.rS ?_
 refine AW.rS ?_
 refine AW.c2 ?_ ?_
 ·intro h10
  refine AW.rS ?_
  refine AW.rL ?_
  refine AW.rS ?_
  refine AW.rt ?_
  rw [one_bit, show (p + 1) % 8 = 0 by omega, show (p + 1) / 8 = p / 8 + 1 by omega]
  exact ⟨rfl, rfl⟩
 ·intro h10
  refine AW.skip ?_
  refine AW.rS ?_
  refine AW.rt ?_
  rw [one_bit, show (p + 1) % 8 = p % 8 + 1 by omega, show (p + 1) / 8 = p / 8 by omega]
  exact ⟨rfl, rfl⟩
theorem h_Reader_Left (gl : List (Nat × AV)) (w : Int) (s : List UInt8) (p : Nat) (hp : p ≤ 8 * s.length) (hl : s.length ≤ 16777216) : FnH Try.prog (gl) 64 [.ptr 0 0] ([(0, .cells [.int .i64 w, .int .i64 (p % 8 : Nat), .str s, .int .i64 (p / 8 : Nat)])]) 1 (fun r h n => r = .ret (.int .i64 (8 * s.length - p : Nat)) ∧ h = [(0, .cells [.int .i64 w, .int .i64 (p % 8 : Nat), .str s, .int .i64 (p / 8 : Nat)])] ∧ n = 1) := by
 refine FnH.intro Try.func64 rfl rfl (by simp [Try.ntmps64]) ?_
 simp only [argEnv, Try.ntmps64, Try.results64]
 refine AW.rS ?_
 refine AW.seq ?_
 refine AW.rS ?_
 refine AW.c2 ?_ ?_
 ·intro h4
  refine AW.rS ?_
  refine AW.rt ?_
  all_goals first | contradiction | rfl | (simp; done) | (simp; omega)
 ·intro h4
  refine AW.skip ?_
  refine AW.dS [(0, 0), (1, 0), (2, 0), (3, 1), (4, 1), (5, 0), (6, 0), (7, 0), (8, 1), (9, 0), (10, 0), (11, 0), (12, 0), (13, 0), (14, 0), (15, 1), (16, 0), (17, 0)] ?_
  refine AW.rt ?_
  rw [show (8 * ((s.length : Int) - (p / 8 : Nat)) - (p % 8 : Nat)) = ((8 * s.length - p : Nat) : Int) by omega]
theorem h_Reader_Align (gl : List (Nat × AV)) (w : Int) (s : List UInt8) (p : Nat) (hp : p ≤ 8 * s.length) (hl : s.length ≤ 16777216) : FnH Try.prog (gl) 46 [.ptr 0 0] ([(0, .cells [.int .i64 w, .int .i64 (p % 8 : Nat), .str s, .int .i64 (p / 8 : Nat)])]) 1 (fun r h n => r = .ret (.tup []) ∧ h = [(0, .cells [.int .i64 0, .int .i64 ((p + 7) / 8 * 8 % 8 : Nat), .str s, .int .i64 ((p + 7) / 8 * 8 / 8 : Nat)])] ∧ n = 1) := by
 refine FnH.intro Try.func46 rfl rfl (by simp [Try.ntmps46]) ?_
 simp only [argEnv, Try.ntmps46, Try.results46]
 refine AW.seq ?_
 refine AW.rS ?_
 refine AW.c2 ?_ ?_
 ·intro h3
  refine AW.rt ?_
  all_goals first | contradiction | rfl | (simp; done) | (simp; omega)
 ·intro h3
  refine AW.skip ?_
  refine AW.seq ?_
  refine AW.rS ?_
  refine AW.c2 ?_ ?_
  ·intro h9
   refine AW.rL ?_
   refine AW.rL ?_
   refine wk ?_
   rw [show (p + 7) / 8 * 8 % 8 = 0 by omega, show (p + 7) / 8 * 8 / 8 = p / 8 + 1 by omega]
   rfl
  ·intro h9
   refine AW.skip ?_
   refine AW.rL ?_
   refine wk ?_
   rw [show (p + 7) / 8 * 8 % 8 = 0 by omega, show (p + 7) / 8 * 8 / 8 = p / 8 by omega]
   rfl
theorem h_Reader_take (gl : List (Nat × AV)) (w : Int) (s : List UInt8) (p k : Nat) (hw : w = 0 ∨ w = 2) (hk : k ≤ 24) (hp : p + k ≤ 8 * s.length) (hl : s.length ≤ 16777216) : FnH Try.prog (gl) 62 [.ptr 0 0, .int .i64 k, .int .i64 2] ([(0, .cells [.int .i64 w, .int .i64 (p % 8 : Nat), .str s, .int .i64 (p / 8 : Nat)])]) 1 (fun r h n => r = .ret (.tup [.int .i64 (readV s p k), .int .i64 0]) ∧ h = [(0, .cells [.int .i64 (if k = 0 then w else 2), .int .i64 ((p + k) % 8 : Nat), .str s, .int .i64 ((p + k) / 8 : Nat)])] ∧ n = 1) := by
 refine FnH.intro Try.func62 rfl rfl (by simp [Try.ntmps62]) ?_
 simp only [argEnv, Try.ntmps62, Try.results62]
 have hf1 : decide ((k : Int) < 0) = false := decide_eq_false (by omega)
 have hf2 : decide ((24 : Int) < k) = false := decide_eq_false (by omega)
 refine AW.rS ?_
 refine AW.seq ?_
 refine AW.block ?_
 refine AW.rSC ?_
 refine awOps.cons (awGuard.cHT [0] (h_rside_other _ w (p % 8 : Nat) s (p / 8 : Nat) hw) ?_ (hgt := by rw [hf1, hf2]; rfl) (hob := by rw [hf1, hf2]; rfl))
 refine awOps.rn ?_
 refine AW.c2 ?_ ?_
 ·intro h7
  exfalso
  rcases h7 with ⟨((h | h) | h), _⟩
  ·cases h
  all_goals omega
 ·intro h7
  refine AW.rSC ?_
  refine awOps.cons (awGuard.cH [0] (h_Reader_Left _ w s p (by omega) hl) ?_)
  refine awOps.rn ?_
  refine AW.c2 ?_ ?_
  ·intro h14
   refine AW.rS ?_
   refine AW.rt ?_
   all_goals first | contradiction | rfl | (simp; done) | (simp; omega)
  ·intro h14
   refine AW.skip ?_
   refine AW.rS ?_
   refine AW.seq ?_
   refine AW.rS ?_
   refine AW.block ?_
   refine AW.lk (S := { i : Nat // i ≤ k }) [0, 1, 2, 34] (fun s_ => [(8, .int .i64 (readV s p s_.1)), (35, .int .i64 s_.1)]) (fun s_ => [(0, .cells [.int .i64 w, .int .i64 ((p + s_.1) % 8 : Nat), .str s, .int .i64 ((p + s_.1) / 8 : Nat)])]) 1 (fun s_ => k - s_.1) ⟨0, Nat.zero_le _⟩ ?_ ?_
   ·refine St.le.vw [0]
   rintro ⟨i, hi⟩
   try dsimp only at hi
   refine AW.rS ?_
   refine AW.seq ?_
   refine AW.c2 ?_ ?_
   ·intro h26
    refine AW.skip ?_
    refine AW.seq ?_
    refine AW.block ?_
    refine AW.rS ?_
    refine AW.rSC ?_
    refine awOps.cons (awGuard.cH [0] (h_Reader_one _ w s (p + i) (by omega) hl) ?_)
    refine awOps.rn ?_
    refine AW.rS ?_
    refine AW.c2 ?_ ?_
    ·intro h35
     simp at h35
    ·intro h35
     refine AW.rL ?_
     rw [read_step s p (by omega)]
     refine AW.rL ?_
     refine ⟨⟨i + 1, by omega⟩, ?_, ?_⟩
     ·refine St.le.vw [0]
     ·simp only []; omega
   ·intro h26
    have hik : i = k := by omega
    subst hik
    refine AW.exit ?_
    refine AW.seq ?_
    refine AW.rS ?_
    refine AW.c2 ?_ ?_
    ·intro h45
     refine AW.rL ?_
     refine AW.rS ?_
     refine AW.rt ?_
     rw [if_neg (by omega)]
    ·intro h45
     refine AW.skip ?_
     refine AW.rS ?_
     refine AW.rt ?_
     rw [if_pos (by omega)]
theorem h_Reader_take_no (gl : List (Nat × AV)) (w : Int) (s : List UInt8) (p k : Nat) (hw : w = 0 ∨ w = 2) (hk : k ≤ 24) (hp : p ≤ 8 * s.length) (hno : 8 * s.length < p + k) (hl : s.length ≤ 16777216) : FnH Try.prog (gl) 62 [.ptr 0 0, .int .i64 k, .int .i64 2] ([(0, .cells [.int .i64 w, .int .i64 (p % 8 : Nat), .str s, .int .i64 (p / 8 : Nat)])]) 1 (fun r h n => r = .ret (.tup [.int .i64 0, .int .i64 4]) ∧ h = [(0, .cells [.int .i64 w, .int .i64 (p % 8 : Nat), .str s, .int .i64 (p / 8 : Nat)])] ∧ n = 1) := by
 refine FnH.intro Try.func62 rfl rfl (by simp [Try.ntmps62]) ?_
 simp only [argEnv, Try.ntmps62, Try.results62]
 have hf1 : decide ((k : Int) < 0) = false := decide_eq_false (by omega)
 have hf2 : decide ((24 : Int) < k) = false := decide_eq_false (by omega)
 refine AW.rS ?_
 refine AW.seq ?_
 refine AW.block ?_
 refine AW.rSC ?_
 refine awOps.cons (awGuard.cHT [0] (h_rside_other _ w (p % 8 : Nat) s (p / 8 : Nat) hw) ?_ (hgt := by rw [hf1, hf2]; rfl) (hob := by rw [hf1, hf2]; rfl))
 refine awOps.rn ?_
 refine AW.c2 ?_ ?_
 ·intro h7
  exfalso
  rcases h7 with ⟨((h | h) | h), _⟩
  ·cases h
  all_goals omega
 ·intro h7
  refine AW.rSC ?_
  refine awOps.cons (awGuard.cH [0] (h_Reader_Left _ w s p (by omega) hl) ?_)
  refine awOps.rn ?_
  refine AW.c2 ?_ ?_
  ·intro h14
   refine AW.rS ?_
   refine AW.rt ?_
   trivial
  ·intro h14
   exfalso; omega
theorem h_Reader_High (gl : List (Nat × AV)) (w : Int) (s : List UInt8) (p k : Nat) (hw : w = 0 ∨ w = 2) (hk : k ≤ 24) (hp : p + k ≤ 8 * s.length) (hl : s.length ≤ 16777216) : FnH Try.prog (gl) 55 [.ptr 0 0, .int .i64 k] ([(0, .cells [.int .i64 w, .int .i64 (p % 8 : Nat), .str s, .int .i64 (p / 8 : Nat)])]) 1 (fun r h n => r = .ret (.tup [.int .i64 (readV s p k), .int .i64 0]) ∧ h = [(0, .cells [.int .i64 (if k = 0 then w else 2), .int .i64 ((p + k) % 8 : Nat), .str s, .int .i64 ((p + k) / 8 : Nat)])] ∧ n = 1) := by
 refine FnH.intro Try.func55 rfl rfl (by simp [Try.ntmps55]) ?_
 simp only [argEnv, Try.ntmps55, Try.results55]
 refine AW.rS ?_
 refine AW.rSC ?_
 refine awOps.cons (awGuard.cH [0] (h_Reader_take _ w s p k hw hk hp hl) ?_)
 refine awOps.rn ?_
 refine AW.rt ?_
 all_goals first | contradiction | rfl | (simp; done) | (simp; omega)
theorem h_Reader_High_no (gl : List (Nat × AV)) (w : Int) (s : List UInt8) (p k : Nat) (hw : w = 0 ∨ w = 2) (hk : k ≤ 24) (hp : p ≤ 8 * s.length) (hno : 8 * s.length < p + k) (hl : s.length ≤ 16777216) : FnH Try.prog (gl) 55 [.ptr 0 0, .int .i64 k] ([(0, .cells [.int .i64 w, .int .i64 (p % 8 : Nat), .str s, .int .i64 (p / 8 : Nat)])]) 1 (fun r h n => r = .ret (.tup [.int .i64 0, .int .i64 4]) ∧ h = [(0, .cells [.int .i64 w, .int .i64 (p % 8 : Nat), .str s, .int .i64 (p / 8 : Nat)])] ∧ n = 1) := by
 refine FnH.intro Try.func55 rfl rfl (by simp [Try.ntmps55]) ?_
 simp only [argEnv, Try.ntmps55, Try.results55]
 refine AW.rS ?_
 refine AW.rSC ?_
 refine awOps.cons (awGuard.cH [0] (h_Reader_take_no _ w s p k hw hk hp hno hl) ?_)
 refine awOps.rn ?_
 refine AW.rt ?_
 all_goals first | contradiction | rfl | (simp; done) | (simp; omega)
end Go.Proofs

namespace Go.Proofs
open Go Aw
set_option linter.unusedSimpArgs false
set_option linter.unusedVariables false
set_option maxRecDepth 100000
set_option maxHeartbeats 1000000
attribute [local go_sem] readV_zero
theorem h_eye_num (gl : List (Nat × AV)) (w : Int) (s : List UInt8) (p k b : Nat) (hw : w = 0 ∨ w = 2) (hk : k ≤ 32) (hp : p ≤ 8 * s.length) (hl : s.length ≤ 16777216) (hb : b ≤ 16777216) : FnK Try.prog (gl) 45 [.agg [.ptr 0 0], .int .i64 k, .int .i64 b] ([(0, .cells [.int .i64 w, .int .i64 (p % 8 : Nat), .str s, .int .i64 (p / 8 : Nat)])]) 1 1 (fun r h n => ((p + k ≤ 8 * s.length ∧ readV s p k ≤ b) ∧ r = .ret (.int .i64 (readV s p k)) ∧ h = [(0, .cells [.int .i64 (if k = 0 then w else 2), .int .i64 ((p + k) % 8 : Nat), .str s, .int .i64 ((p + k) / 8 : Nat)])] ∧ n = 1) ∨ (¬ (p + k ≤ 8 * s.length ∧ readV s p k ≤ b) ∧ r = .panic (.iface 79 (.agg [])) ∧ 1 ≤ n)) := by
 refine FnK.intro Try.func45 rfl rfl (by simp [Try.ntmps45]) ?_
 simp only [argEnv, Try.ntmps45, Try.results45]
 refine AW.rS ?_
 refine AW.rS ?_
 refine AW.seq ?_
 refine AW.block ?_
 refine AW.lk (S := { i : Nat // i ≤ k ∧ p + i ≤ 8 * s.length }) [2, 3] (fun s_ => [(1, .int .i64 ((k : Int) - s_.1)), (7, .int .i64 (readV s p s_.1))]) (fun s_ => [(0, .cells [.int .i64 (if s_.1 = 0 then w else 2), .int .i64 ((p + s_.1) % 8 : Nat), .str s, .int .i64 ((p + s_.1) / 8 : Nat)]), (1, .cells [.ptr 0 0])]) 2 (fun s_ => k - s_.1) ⟨0, Nat.zero_le _, hp⟩ ?_ ?_
 ·refine St.le.vw [0, 1]
 rintro ⟨i, hi, hpi⟩
 try dsimp only at hi
 try dsimp only at hpi
 refine AW.seq ?_
 refine AW.rS ?_
 refine AW.c2 ?_ ?_
 ·intro h8
  refine AW.skip ?_
  refine AW.block ?_
  refine AW.rS ?_
  rw [min_cast k i hi]
  by_cases hs12 : p + i + min (k - i) 16 ≤ 8 * s.length
  ·skip
   refine AW.rSC ?_
   refine awOps.cons (awGuard.cH [0] (h_Reader_High _ (if i = 0 then w else 2) s (p + i) (min (k - i) 16) (by split <;> simp [hw]) (by omega) hs12 hl) ?_)
   refine awOps.rn ?_
   refine AW.seq ?_
   refine AW.rS ?_
   refine AW.c2 ?_ ?_
   ·intro h17
    simp at h17
   ·intro h17
    refine AW.skip ?_
    refine AW.rL ?_
    rw [read_chunk s p (by omega)]
    refine ⟨⟨i + min (k - i) 16, by omega, by omega⟩, ?_, ?_⟩
    ·refine St.le.vx [0, 1] ?_
     rw [if_neg (by omega), if_neg (by omega), Nat.add_assoc]
    ·simp only []; omega
  ·skip
   refine AW.rSC ?_
   refine awOps.cons (awGuard.cH [0] (h_Reader_High_no _ (if i = 0 then w else 2) s (p + i) (min (k - i) 16) (by split <;> simp [hw]) (by omega) hpi (by omega) hl) ?_)
   refine awOps.rn ?_
   refine AW.seq ?_
   refine AW.rS ?_
   refine AW.c2 ?_ ?_
   ·intro h17
    refine AW.rLC ?_
    refine awOps.cons (awGuard.pn ?_)
    refine wk ?_
    exact .inr fun ⟨h1, _⟩ => by omega
   ·intro h17
    simp at h17
 ·intro h8
  have hik : i = k := by omega
  subst hik
  refine AW.exit ?_
  refine AW.seq ?_
  refine AW.rS ?_
  refine AW.c2 ?_ ?_
  ·intro h27
   refine AW.rLC ?_
   refine awOps.cons (awGuard.pn ?_)
   refine wk ?_
   exact .inr fun ⟨_, h1⟩ => by omega
  ·intro h27
   refine AW.skip ?_
   refine AW.rS ?_
   refine AW.vw [0] [(6, .int .i64 (readV s p i))] [(0, .cells [.int .i64 (if i = 0 then w else 2), .int .i64 ((p + i) % 8 : Nat), .str s, .int .i64 ((p + i) / 8 : Nat)])] ?_
   refine AW.rt ?_
   exact .inl ⟨hpi, by omega⟩
end Go.Proofs

namespace Aw
open Go
def mkH (n : Nat) (fa fb fd : Nat → Int) : List Hn := (List.range n).map fun k => ⟨fa k, fb k, fd k⟩
theorem mkH_len (n : Nat) (fa fb fd : Nat → Int) : (mkH n fa fb fd).length = n := by simp [mkH]
theorem mkH_getD {n : Nat} {fa fb fd : Nat → Int} {i : Nat} (h : i < n) : (mkH n fa fb fd).getD i Hn.zero = ⟨fa i, fb i, fd i⟩ := by
 simp [mkH, List.getD, h]
theorem mkH_congr {n : Nat} {fa fb fd ga gb gd : Nat → Int} (h : ∀ k, k < n → fa k = ga k ∧ fb k = gb k ∧ fd k = gd k) : mkH n fa fb fd = mkH n ga gb gd := by
 refine List.map_congr_left fun k hk => ?_
 obtain ⟨h1, h2, h3⟩ := h k (List.mem_range.1 hk)
 rw [h1, h2, h3]
def upTo (i : Nat) (f : Nat → Int) (k : Nat) : Int := if k < i then f k else 0
theorem set_range {α : Type} (n i : Nat) (f : Nat → α) (x : α) : ((List.range n).map f).set i x = (List.range n).map fun k => if k = i then x else f k := by
 refine List.ext_getElem (by simp) fun k h1 h2 => ?_
 rw [List.getElem_set]
 simp only [List.getElem_map, List.getElem_range]
 by_cases h : i = k
 ·rw [if_pos h, if_pos h.symm]
 ·rw [if_neg h, if_neg (Ne.symm h)]
theorem hintsAV_mkH (n : Nat) (fa fb fd : Nat → Int) : hintsAV (mkH n fa fb fd) = (List.range n).map fun k => [.int .i64 (fa k), .int .i64 (fb k), .int .i64 (fd k)] := by
 simp [hintsAV, mkH, Hn.cells]
theorem upTo_succ (i : Nat) (f : Nat → Int) (k : Nat) : upTo (i + 1) f k = if k = i then f i else upTo i f k := by
 unfold upTo
 by_cases h : k = i
 ·subst h; simp
 ·rw [if_neg h]
  by_cases h2 : k < i
  ·rw [if_pos h2, if_pos (by omega)]
  ·rw [if_neg h2, if_neg (by omega)]
theorem setA {n i : Nat} {fa fb fd : Nat → Int} : (hintsAV (mkH n (upTo i fa) fb fd)).set i [.int .i64 (fa i), .int .i64 (fb i), .int .i64 (fd i)] = hintsAV (mkH n (upTo (i + 1) fa) fb fd) := by
 rw [hintsAV_mkH, hintsAV_mkH, set_range]
 refine List.map_congr_left fun k _ => ?_
 rw [upTo_succ]
 by_cases h : k = i
 ·subst h; rw [if_pos rfl, if_pos rfl]
 ·rw [if_neg h, if_neg h]
theorem setB {n i : Nat} {fa fb fd : Nat → Int} : (hintsAV (mkH n fa (upTo i fb) fd)).set i [.int .i64 (fa i), .int .i64 (fb i), .int .i64 (fd i)] = hintsAV (mkH n fa (upTo (i + 1) fb) fd) := by
 rw [hintsAV_mkH, hintsAV_mkH, set_range]
 refine List.map_congr_left fun k _ => ?_
 rw [upTo_succ]
 by_cases h : k = i
 ·subst h; rw [if_pos rfl, if_pos rfl]
 ·rw [if_neg h, if_neg h]
theorem setD {n i : Nat} {fa fb fd : Nat → Int} : (hintsAV (mkH n fa fb (upTo i fd))).set i [.int .i64 (fa i), .int .i64 (fb i), .int .i64 (fd i)] = hintsAV (mkH n fa fb (upTo (i + 1) fd)) := by
 rw [hintsAV_mkH, hintsAV_mkH, set_range]
 refine List.map_congr_left fun k _ => ?_
 rw [upTo_succ]
 by_cases h : k = i
 ·subst h; rw [if_pos rfl, if_pos rfl]
 ·rw [if_neg h, if_neg h]
theorem rep_hints (n : Nat) : List.replicate n [AV.int .i64 0, AV.int .i64 0, AV.int .i64 0] = hintsAV (mkH n (fun _ => 0) (fun _ => 0) fun _ => 0) := by
 rw [hintsAV_mkH]
 refine List.ext_getElem (by simp) fun k h1 h2 => ?_
 simp
def hdOk (s : List UInt8) : Prop := 176 ≤ 8 * s.length ∧ readV s 0 32 ≤ 2048 ∧ (readV s 32 32 ≤ 8191 ∧ readV s 64 32 ≤ 1048576 ∧ readV s 96 32 ≤ 1048576) ∧ readV s 128 16 ≤ 24 ∧ readV s 144 16 ≤ 24 ∧ readV s 160 16 ≤ 24
def colAt (s : List UInt8) (P k b i : Nat) : Prop := P + i * k + k ≤ 8 * s.length ∧ readV s (P + i * k) k ≤ b
def colOk (s : List UInt8) (P k b n : Nat) : Prop := ∀ i, i < n → colAt s P k b i
def nextP (P n k : Nat) : Nat := (P + n * k + 7) / 8 * 8
def p1S (s : List UInt8) : Nat := nextP 176 (readV s 0 32) (readV s 128 16)
def p2S (s : List UInt8) : Nat := nextP (p1S s) (readV s 0 32) (readV s 144 16)
def readOk (s : List UInt8) : Prop := hdOk s ∧ colOk s 176 (readV s 128 16) 8191 (readV s 0 32) ∧ colOk s (p1S s) (readV s 144 16) 1048576 (readV s 0 32) ∧ colOk s (p2S s) (readV s 160 16) 1048576 (readV s 0 32)
def colV (s : List UInt8) (lo P k i : Nat) : Int := (lo : Int) + (readV s (P + i * k) k : Int)
def readL (s : List UInt8) : List Hn := mkH (readV s 0 32) (colV s (readV s 32 32) 176 (readV s 128 16)) (colV s (readV s 64 32) (p1S s) (readV s 144 16)) (colV s (readV s 96 32) (p2S s) (readV s 160 16))
theorem colOk_succ {s : List UInt8} {P k b i : Nat} (h : colOk s P k b i) (hi : colAt s P k b i) : colOk s P k b (i + 1) := fun j hj => by
 rcases Nat.lt_succ_iff_lt_or_eq.1 hj with h1 | rfl
 ·exact h j h1
 ·exact hi
theorem colOk_end {s : List UInt8} {P k b : Nat} (hP : P ≤ 8 * s.length) : ∀ {i : Nat}, colOk s P k b i → P + i * k ≤ 8 * s.length
 | 0, _ => by omega
 | i + 1, h => by
  have := (h i (Nat.lt_succ_self i)).1
  rw [Nat.succ_mul]
  omega
theorem upTo_all {n : Nat} {f fb fd : Nat → Int} : mkH n (upTo n f) fb fd = mkH n f fb fd := mkH_congr fun k hk => ⟨by rw [upTo, if_pos hk], rfl, rfl⟩
theorem upTo_allB {n : Nat} {f fb fd : Nat → Int} : mkH n f (upTo n fb) fd = mkH n f fb fd := mkH_congr fun k hk => ⟨rfl, by rw [upTo, if_pos hk], rfl⟩
theorem upTo_allD {n : Nat} {f fb fd : Nat → Int} : mkH n f fb (upTo n fd) = mkH n f fb fd := mkH_congr fun k hk => ⟨rfl, rfl, by rw [upTo, if_pos hk]⟩
theorem upTo_zero (f : Nat → Int) : upTo 0 f = fun _ => 0 := by
 funext k
 simp [upTo]
theorem colAt_def (s : List UInt8) (P k b i : Nat) : colAt s P k b i ↔ P + i * k + k ≤ 8 * s.length ∧ readV s (P + i * k) k ≤ b := Iff.rfl
theorem colV_def (s : List UInt8) (lo P k i : Nat) : colV s lo P k i = (lo : Int) + (readV s (P + i * k) k : Int) := rfl
theorem p1S_def (s : List UInt8) : (176 + readV s 0 32 * readV s 128 16 + 7) / 8 * 8 = p1S s := rfl
theorem p2S_def (s : List UInt8) : (p1S s + readV s 0 32 * readV s 144 16 + 7) / 8 * 8 = p2S s := rfl
theorem hintsAV_mk_at (n : Nat) (fa fb fd : Nat → Int) (j : { k : Nat // k < n }) (x : List AV) : (hintsAV (mkH n fa fb fd)).getD j.1 x = [.int .i64 (fa j.1), .int .i64 (fb j.1), .int .i64 (fd j.1)] := by
 rw [hintsAV_getD (by rw [mkH_len]; exact j.2), mkH_getD j.2]
attribute [irreducible] mkH colAt nextP p1S p2S colV upTo
end Aw
