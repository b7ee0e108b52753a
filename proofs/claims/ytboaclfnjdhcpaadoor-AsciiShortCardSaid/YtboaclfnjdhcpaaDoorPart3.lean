/- A part of the proof: no condition of its own. -/
import Derived.Test.YtboaclfnjdhcpaaDoorPart2
import Derived.Lib.Repeat
import Derived.JoinedCond
import Derived.WalkKit
import Derived.ProofKit
import Derived.OpenShut
import Derived.Deep.DeepHandedRow
import Derived.Lib.LaidTab
import Derived.Test.YtboaclfnjdhcpaaDoorCards
import Derived.Test.YtboaclfnjdhcpaaDoorTie
namespace Aw
open Go
section
variable {M : Nat} {t out : Byt}
theorem t_cons (h : t ≠ []) : t = t.getD 0 0 :: t.drop 1:=by
 cases t with
 | nil=>exact absurd rfl h
 | cons c r=>rfl
theorem ur_stop (h : t ≠ []) (hc : ((t.getD 0 0).toNat : Int) = 128) : unrunS M t out = (out,.ok):=by
 have hc' : t.getD 0 0 = 128:=u8_eq (d:=128) hc
 rw [t_cons h,hc']
 exact unrun_stop M _ _
theorem ur_lit (h : t ≠ []) (hc : ((t.getD 0 0).toNat : Int) < 128) : unrunS M t out =
  if (t.drop 1).length ≤ (t.getD 0 0).toNat then ([],.ending) else if out.length + ((t.getD 0 0).toNat + 1) ≤ M then unrunS M ((t.drop 1).drop ((t.getD 0 0).toNat + 1)) (out ++ (t.drop 1).take ((t.getD 0 0).toNat + 1)) else ([],.long):=by
 conv=>lhs; rw [t_cons h,unrunS.eq_def]
 simp only []
 rw [if_neg (by rw [← UInt8.toNat_inj]; show ¬ (t.getD 0 0).toNat = 128; omega),if_pos (by rw [UInt8.lt_iff_toNat_lt]; show (t.getD 0 0).toNat < 128; omega)]
theorem ur_rep0 (h : t ≠ []) (hc : 128 < ((t.getD 0 0).toNat : Int)) (hr : t.drop 1 = []) : unrunS M t out = ([],.ending):=by
 conv=>lhs; rw [t_cons h,unrunS.eq_def]
 simp only []
 rw [if_neg (by rw [← UInt8.toNat_inj]; show ¬ (t.getD 0 0).toNat = 128; omega),if_neg (by rw [UInt8.lt_iff_toNat_lt]; show ¬ (t.getD 0 0).toNat < 128; omega),hr]
theorem ur_rep (h : t ≠ []) (hc : 128 < ((t.getD 0 0).toNat : Int)) (hr : t.drop 1 ≠ []) : unrunS M t out =
  if out.length + (257 - (t.getD 0 0).toNat) ≤ M then unrunS M ((t.drop 1).drop 1) (out ++ List.replicate (257 - (t.getD 0 0).toNat) ((t.drop 1).getD 0 0)) else ([],.long):=by
 conv=>lhs; rw [t_cons h,t_cons hr]
 exact unrunS_big (by rw [ne_eq,← UInt8.toNat_inj]; show ¬ (t.getD 0 0).toNat = 128; omega) (by rw [UInt8.lt_iff_toNat_lt]; show ¬ (t.getD 0 0).toNat < 128; omega)
end
theorem unrunD_neg {s : Byt} {most : Int} (h : most < 0) : unrunD s most = ([],.arg):=by rw [unrunD,if_pos h]
theorem unrunD_pos {s : Byt} {most : Int} (h : 0 ≤ most) : unrunD s most = unrunS (min most.toNat 1048576) s []:=by rw [unrunD,if_neg (by omega)]
theorem ur_fail (M : Nat) : ∀ (n : Nat) (s out : Byt),s.length ≤ n → ¬ (unrunS M s out).2 = .ok → (unrunS M s out).1 = []
 | _,[],out,_=>by rw [unrunS_nil]; intro _; rfl
 | 0,c :: s,out,h=>absurd h (by simp)
 | n + 1,c :: s,out,h=>by
  simp only [List.length_cons] at h
  rw [unrunS.eq_def]
  simp only []
  split
  ·intro q; exact absurd rfl q
  ·split
   ·split
    ·intro _; rfl
    ·split
     ·exact ur_fail M n _ _ (by simp; omega)
     ·intro _; rfl
   ·split
    ·intro _; rfl
    ·rename_i x r
     split
     ·exact ur_fail M n _ _ (by simp only [List.length_cons] at h; omega)
     ·intro _; rfl
theorem repeat_one (x : UInt8) (n : Nat) : Lib.repeatL [x] n = List.replicate n x:=by
 have:=Lib.repeatL_replicate x 1 n
 rwa [Nat.mul_one] at this
theorem take_one {t : Byt} (h : t ≠ []) : t.take 1 = [t.getD 0 0]:=by
 cases t with
 | nil=>exact absurd rfl h
 | cons c r=>rfl
end Aw

namespace Aw
open Go
def putE (out : Byt) (l : List Nat) (M : Nat) : Int:=if 4294967296 ≤ val5 l then 3 else if out.length + (l.length - 1) ≤ M then 0 else 5
def putO (out : Byt) (l : List Nat) : Byt:=out ++ (bytes4 (val5 l)).take (l.length - 1)
theorem putE_form {out : Byt} {l : List Nat} {M : Nat} (h : 4294967296 ≤ val5 l) : putE out l M = 3:=by rw [putE,if_pos h]
theorem putE_ok {out : Byt} {l : List Nat} {M : Nat} (h : ¬ 4294967296 ≤ val5 l) (h2 : out.length + (l.length - 1) ≤ M) : putE out l M = 0:=by rw [putE,if_neg h,if_pos h2]
theorem putE_long {out : Byt} {l : List Nat} {M : Nat} (h : ¬ 4294967296 ≤ val5 l) (h2 : ¬ out.length + (l.length - 1) ≤ M) : putE out l M = 5:=by rw [putE,if_neg h,if_neg h2]
theorem wrapU8 (n : Nat) : IntKind.u8.wrap (n : Int) = ((UInt8.ofNat n).toNat : Int):=by
 rw [UInt8.toNat_ofNat']
 show ((n : Int) % (2 ^ 8 : Int) : Int) = _
 omega
theorem sh_nat (n k : Nat) (hk : k ≤ 64) : bitShr .u64 (n : Int) (k : Int) = ((n / 2 ^ k : Nat) : Int):=by
 unfold bitShr
 rw [Int.toNat_natCast,show min k IntKind.u64.bits = k from Nat.min_eq_left hk,Int.fdiv_eq_ediv_of_nonneg _ (by exact_mod_cast Nat.zero_le _)]
 push_cast
 rfl
theorem b4_0 (n : Nat) : IntKind.u8.wrap (bitShr .u64 (n : Int) 24) = ((UInt8.ofNat (n / 16777216)).toNat : Int):=by
 have:=sh_nat n 24 (by decide)
 rw [show ((24 : Nat) : Int) = 24 from rfl] at this
 rw [this,wrapU8]
theorem b4_1 (n : Nat) : IntKind.u8.wrap (bitShr .u64 (n : Int) 16) = ((UInt8.ofNat (n / 65536)).toNat : Int):=by
 have:=sh_nat n 16 (by decide)
 rw [show ((16 : Nat) : Int) = 16 from rfl] at this
 rw [this,wrapU8]
theorem b4_2 (n : Nat) : IntKind.u8.wrap (bitShr .u64 (n : Int) 8) = ((UInt8.ofNat (n / 256)).toNat : Int):=by
 have:=sh_nat n 8 (by decide)
 rw [show ((8 : Nat) : Int) = 8 from rfl] at this
 rw [this,wrapU8]
def endR (M : Nat) (s : Byt) (l : List Nat) (out : Byt) : Byt × AErr :=
 match s with
 | []=>([],.ending)
 | x :: _=>if x = 62 ∧ l.length ≠ 1 then
   if l = [] then (out,.ok) else if 4294967296 ≤ val5 l then ([],.form) else if out.length + (l.length - 1) ≤ M then (putO out l,.ok) else ([],.long)
  else ([],.form)
theorem endR_fail {M : Nat} {s : Byt} {l : List Nat} {out : Byt} (h : ¬ (endR M s l out).2 = .ok) : (endR M s l out).1 = []:=by
 unfold endR at *
 split
 ·rfl
 ·simp only at h
  split
  ·rename_i h1
   rw [if_pos h1] at h
   split
   ·rename_i h2
    rw [if_pos h2] at h
    exact absurd rfl h
   ·rename_i h2
    rw [if_neg h2] at h
    split
    ·rfl
    ·rename_i h3
     rw [if_neg h3] at h
     split
     ·rename_i h4
      rw [if_pos h4] at h
      exact absurd rfl h
     ·rfl
  ·rfl
theorem end_nil {M : Nat} {l : List Nat} {out : Byt} : endR M [] l out = ([],.ending):=rfl
theorem end_bad {M : Nat} {s : Byt} {l : List Nat} {out : Byt} (hs : s ≠ []) (h : ¬ (((s.getD 0 0).toNat : Int) = 62 ∧ ¬ (l.length : Int) = 1)) : endR M s l out = ([],.form):=by
 cases s with
 | nil=>exact absurd rfl hs
 | cons x s =>
  unfold endR
  simp only
  rw [if_neg]
  rintro ⟨rfl,h2⟩
  exact h ⟨rfl,by omega⟩
theorem end_none {M : Nat} {s : Byt} {out : Byt} (hs : s ≠ []) (h : ((s.getD 0 0).toNat : Int) = 62) : endR M s [] out = (out,.ok):=by
 cases s with
 | nil=>exact absurd rfl hs
 | cons x s =>
  have : x = 62:=u8_eq (d:=62) h
  subst this
  unfold endR
  simp
theorem end_put {M : Nat} {s : Byt} {l : List Nat} {out : Byt} (hs : s ≠ []) (h : ((s.getD 0 0).toNat : Int) = 62) (hl : l ≠ []) (h1 : l.length ≠ 1) : endR M s l out = if putE out l M = 0 then (putO out l,.ok) else if putE out l M = 3 then ([],.form) else ([],.long):=by
 cases s with
 | nil=>exact absurd rfl hs
 | cons x s =>
  have : x = 62:=u8_eq (d:=62) h
  subst this
  unfold endR
  simp only
  rw [if_pos ⟨trivial,h1⟩,if_neg hl]
  by_cases h2 : 4294967296 ≤ val5 l
  ·rw [if_pos h2,putE_form h2] <;> rfl
  ·by_cases h3 : out.length + (l.length - 1) ≤ M
   ·rw [if_neg h2,if_pos h3,putE_ok h2 h3] <;> rfl
   ·rw [if_neg h2,if_neg h3,putE_long h2 h3] <;> rfl
theorem putE_cases (out : Byt) (l : List Nat) (M : Nat) : putE out l M = 0 ∨ putE out l M = 3 ∨ putE out l M = 5:=by
 unfold putE
 split
 ·exact .inr (.inl rfl)
 ·split
  ·exact .inl rfl
  ·exact .inr (.inr rfl)
section
variable {M : Nat} {s : Byt} {i : Nat} {l : List Nat} {out : Byt}
theorem vx_white (hi : i < s.length) (hw : whiteC (s.getD i 0) = true) : unfiveS M (s.drop i) l out = unfiveS M (s.drop (i + 1)) l out:=by
 rw [s_drop s i hi]
 conv=>lhs; unfold unfiveS
 rw [if_pos hw]
theorem vx_z (hi : i < s.length) (hw : whiteC (s.getD i 0) = false) (hc : ((s.getD i 0).toNat : Int) = 122) (hl : l = []) : unfiveS M (s.drop i) l out = if out.length + 4 ≤ M then unfiveS M (s.drop (i + 1)) [] (out ++ [0,0,0,0]) else ([],.long):=by
 rw [s_drop s i hi]
 conv=>lhs; unfold unfiveS
 rw [if_neg (by rw [hw]; decide),if_pos ⟨u8_eq (d:=122) hc,hl⟩]
theorem vx_dig (hi : i < s.length) (hw : whiteC (s.getD i 0) = false) (h1 : 33 ≤ ((s.getD i 0).toNat : Int)) (h2 : ((s.getD i 0).toNat : Int) ≤ 117) : unfiveS M (s.drop i) l out =
  if l.length = 4 then (if 4294967296 ≤ val5 (l ++ [(s.getD i 0).toNat - 33]) then ([],.form) else if out.length + 4 ≤ M then unfiveS M (s.drop (i + 1)) [] (out ++ bytes4 (val5 (l ++ [(s.getD i 0).toNat - 33]))) else ([],.long))
  else unfiveS M (s.drop (i + 1)) (l ++ [(s.getD i 0).toNat - 33]) out:=by
 rw [s_drop s i hi]
 conv=>lhs; unfold unfiveS
 rw [if_neg (by rw [hw]; decide),if_neg (fun q=>by have:=congrArg UInt8.toNat q.1; change _ = 122 at this; omega),
  if_pos ⟨by rw [UInt8.le_iff_toNat_le]; show 33 ≤ (s.getD i 0).toNat; omega,by rw [UInt8.le_iff_toNat_le]; show (s.getD i 0).toNat ≤ 117; omega⟩]
theorem vx_end (hi : i < s.length) (hc : ((s.getD i 0).toNat : Int) = 126) : unfiveS M (s.drop i) l out = endR M (s.drop (i + 1)) l out:=by
 rw [s_drop s i hi]
 conv=>lhs; unfold unfiveS
 have hc' : s.getD i 0 = 126:=u8_eq (d:=126) hc
 rw [hc',if_neg (by decide),if_neg (fun q=>absurd q.1 (by decide)),if_neg (by decide),if_pos rfl]
 unfold endR
 generalize s.drop (i + 1) = r
 cases r <;> rfl
theorem vx_form (hi : i < s.length) (hw : whiteC (s.getD i 0) = false) (h1 : ¬ (((s.getD i 0).toNat : Int) = 122 ∧ l = [])) (h2 : ¬ (33 ≤ ((s.getD i 0).toNat : Int) ∧ ((s.getD i 0).toNat : Int) ≤ 117)) (h3 : ¬ ((s.getD i 0).toNat : Int) = 126) : unfiveS M (s.drop i) l out = ([],.form):=by
 rw [s_drop s i hi]
 conv=>lhs; unfold unfiveS
 rw [if_neg (by rw [hw]; decide),if_neg (fun q=>h1 ⟨by rw [q.1]; rfl,q.2⟩),if_neg (fun q=>h2 ⟨by have:=UInt8.le_iff_toNat_le.1 q.1; change 33 ≤ _ at this; omega,by have:=UInt8.le_iff_toNat_le.1 q.2; change _ ≤ 117 at this; omega⟩),
  if_neg (u8_ne (d:=126) h3)]
theorem vx_done (hi : ¬ i < s.length) : unfiveS M (s.drop i) l out = ([],.ending):=by
 rw [List.drop_eq_nil_of_le (by omega)]
 exact un_cut0 M l out
end
theorem unfiveD_neg {s : Byt} {most : Int} (h : most < 0) : unfiveD s most = ([],.arg):=by rw [unfiveD,if_pos h]
theorem unfiveD_pos {s : Byt} {most : Int} (h : 0 ≤ most) : unfiveD s most = unfiveS (min most.toNat 1048576) s [] []:=by rw [unfiveD,if_neg (by omega)]
theorem vx_fail (M : Nat) : ∀ (s : Byt) (l : List Nat) (out : Byt),¬ (unfiveS M s l out).2 = .ok → (unfiveS M s l out).1 = []
 | [],l,out=>by rw [un_cut0]; intro _; rfl
 | c :: s,l,out=>by
  unfold unfiveS
  split
  ·exact vx_fail M s l out
  ·split
   ·split
    ·exact vx_fail M s _ _
    ·intro _; rfl
   ·split
    ·split
     ·split
      ·intro _; rfl
      ·split
       ·exact vx_fail M s _ _
       ·intro _; rfl
     ·exact vx_fail M s _ _
    ·split
     ·split
      ·intro _; rfl
      ·split
       ·split
        ·intro q; exact absurd rfl q
        ·split
         ·intro _; rfl
         ·split
          ·intro q; exact absurd rfl q
          ·intro _; rfl
       ·intro _; rfl
     ·intro _; rfl
end Aw

namespace Aw
def powsAV : List AV:=[.int .u64 52200625,.int .u64 614125,.int .u64 7225,.int .u64 85,.int .u64 1]
def GA : List (Nat × AV):=[(0,.cptr [.int .u64 52200625,.int .u64 614125,.int .u64 7225,.int .u64 85,.int .u64 1])]
end Aw
namespace Go.Proofs
open Go Aw
set_option linter.unusedSimpArgs false
set_option linter.unusedVariables false
set_option maxRecDepth 100000
set_option maxHeartbeats 4000000
attribute [local irreducible] val5
attribute [local go_sem] bB_take bytesAV_append List.length_append b4_0 b4_1 b4_2 wrapU8 GA
theorem h_gput2 (x0 x1 : Nat) (h0 : x0 ≤ 84) (h1 : x1 ≤ 84) (out : List UInt8) (M : Nat) (h : out.length ≤ 16777216) : FnK Tryd.prog (GA) 29 [.ptr 0 0,.ptr 1 0] ([(0,.tc 41 [.int .u8 x0,.int .u8 x1,.int .u8 0,.int .u8 0,.int .u8 0,.int .i64 2]),(1,.cells [.row 2 0 out.length,.int .i64 M]),(2,.row 1 (bytesAV out) true)]) 3 2 (fun r h n=>((putE out [x0,x1] M = 0) ∧ r = .ret (.tup []) ∧ h = [(0,.tc 41 [.int .u8 0,.int .u8 0,.int .u8 0,.int .u8 0,.int .u8 0,.int .i64 0]),(1,.cells [.row 2 0 (putO out [x0,x1]).length,.int .i64 M]),(2,.row 1 (bytesAV (putO out [x0,x1])) true)] ∧ n = 3) ∨ (¬ (putE out [x0,x1] M = 0) ∧ r = .panic (.iface 70 (.agg [.int .i64 (putE out [x0,x1] M)])) ∧ 2 ≤ n)):=by
 refine FnK.intro Tryd.func29 rfl rfl (by simp [Tryd.ntmps29]) ?_
 simp only [argEnv,Tryd.ntmps29,Tryd.results29]
 have hv : val5 [x0,x1] = x0 * 52200625 + x1 * 614125 + 84 * 7225 + 84 * 85 + 84 * 1:=by unfold val5; simp only [List.getD_cons_zero,List.getD_cons_succ,List.getD_nil]; omega
 have hln : ((bytes4 (val5 [x0,x1])).take 1).length = 1:=rfl
 refine AW.seq ?_
 refine AW.rS ?_
 refine AW.trim [0,1,4] ?_
 refine AW.block ?_
 refine AW.un 3 ?_
 refine AW.seq ?_
 refine AW.rS ?_
 refine AW.trim [0,1,4,14] ?_
 refine AW.c2 ?_ ?_
 ·intro h7
  refine AW.skip ?_
  refine AW.seq ?_
  refine AW.block ?_
  refine AW.rL ?_
  refine AW.rL ?_
  refine AWR.s ?_
  refine AW.seq ?_
  refine AW.rS ?_
  refine AW.trim [0,1,4,14] ?_
  refine AW.c2 ?_ ?_
  ·intro h16
   refine AW.skip ?_
   refine AW.seq ?_
   refine AW.block ?_
   refine AW.rL ?_
   refine AW.rL ?_
   refine AWR.s ?_
   refine AW.seq ?_
   refine AW.rS ?_
   refine AW.trim [0,1,4,14] ?_
   refine AW.c2 ?_ ?_
   ·intro h25
    refine AW.skip ?_
    refine AW.seq ?_
    refine AW.block ?_
    refine AW.rL ?_
    refine AW.rL ?_
    refine AWR.s ?_
    refine AW.seq ?_
    refine AW.rS ?_
    refine AW.trim [0,1,4,14] ?_
    refine AW.c2 ?_ ?_
    ·intro h34
     first | contradiction | (simp at h34; done) | (exfalso; omega) | (exfalso; revert h34; decide)
    ·intro h34
     refine AW.exit ?_
     refine AW.rS ?_
     refine AW.trim [0,1,5] ?_
     refine AW.seq ?_
     refine AW.rS ?_
     refine AW.trim [0,1,5,22,23] ?_
     refine AW.block ?_
     refine AW.un 5 ?_
     refine AW.rS ?_
     refine AW.trim [0,1,5,22,23,24] ?_
     refine AW.seq ?_
     refine AW.c2 ?_ ?_
     ·intro h43
      refine AW.skip ?_
      refine AW.seq ?_
      refine AW.block ?_
      refine AW.rS ?_
      refine AW.trim [0,1,5,6,7,22,23] ?_
      refine AW.rL ?_
      refine AW.rL ?_
      refine AWR.s ?_
      refine AW.rS ?_
      refine AW.trim [0,1,5,22,23,24] ?_
      refine AW.seq ?_
      refine AW.c2 ?_ ?_
      ·intro h53
       refine AW.skip ?_
       refine AW.seq ?_
       refine AW.block ?_
       refine AW.rS ?_
       refine AW.trim [0,1,5,6,7,22,23] ?_
       refine AW.rL ?_
       refine AW.rL ?_
       refine AWR.s ?_
       refine AW.rS ?_
       refine AW.trim [0,1,5,22,23,24] ?_
       refine AW.seq ?_
       refine AW.c2 ?_ ?_
       ·intro h63
        refine AW.skip ?_
        refine AW.seq ?_
        refine AW.block ?_
        refine AW.rS ?_
        refine AW.trim [0,1,5,6,7,22,23] ?_
        refine AW.rL ?_
        refine AW.rL ?_
        refine AWR.s ?_
        refine AW.rS ?_
        refine AW.trim [0,1,5,22,23,24] ?_
        refine AW.seq ?_
        refine AW.c2 ?_ ?_
        ·intro h73
         refine AW.skip ?_
         refine AW.seq ?_
         refine AW.block ?_
         refine AW.rS ?_
         refine AW.trim [0,1,5,6,7,22,23] ?_
         refine AW.rL ?_
         refine AW.rL ?_
         refine AWR.s ?_
         refine AW.rS ?_
         refine AW.trim [0,1,5,22,23,24] ?_
         refine AW.seq ?_
         refine AW.c2 ?_ ?_
         ·intro h83
          refine AW.skip ?_
          refine AW.seq ?_
          refine AW.block ?_
          refine AW.rS ?_
          refine AW.trim [0,1,5,6,7,22,23] ?_
          refine AW.rL ?_
          refine AW.rL ?_
          refine AWR.s ?_
          refine AW.rS ?_
          refine AW.trim [0,1,5,22,23,24] ?_
          refine AW.seq ?_
          refine AW.c2 ?_ ?_
          ·intro h93
           first | contradiction | (simp at h93; done) | (exfalso; omega) | (exfalso; revert h93; decide)
          ·intro h93
           refine AW.exit ?_
           refine AW.rSC ?_
           refine awOps.cons (awGuard.cM (c_ascii_need _ _ 3) ?_ ?_)
           ·intro hp96
            refine wk ?_
            rw [putE_form (by omega)]
            first | exact .inr ⟨by decide,rfl,by omega⟩ | (simp; done) | (simp; omega)
           intro hm96
           refine awOps.rn ?_
           refine AW.trim [0,1,5] ?_
           refine AW.vw [0,1,2] [(0,.ptr 0 0),(1,.ptr 1 0),(5,.int .u64 ((val5 [x0,x1] : Nat) : Int))] [(0,.tc 41 [.int .u8 x0,.int .u8 x1,.int .u8 84,.int .u8 84,.int .u8 84,.int .i64 2]),(1,.cells [.row 2 0 out.length,.int .i64 M]),(2,.row 1 (bytesAV out) true)] ?_ (henv:=by (simp only [go_sem,seval]; iterate 2 try (simp (disch:=omega) only [zq]; try simp only [go_sem,seval])); exact ⟨Less.refl _,Less.refl _,Less.int (by omega)⟩)
           refine AW.rS ?_
           refine AW.trim [0,1,8] ?_
           refine AW.pre (St.le.untc 3 rfl) ?_
           refine AW.cf 8 3 ?_
           refine AW.rSC ?_
           refine awOps.cons ?_
           refine awGuard.slC ?_ ?_
           ·exact ⟨by decide,by decide⟩
           refine awOps.rn ?_
           refine awOps.cons (awGuard.cKM 1 [1,2] (h_put_s GA out ((bytes4 (val5 [x0,x1])).take 1) M h (by rw [hln]; decide)) ?_ ?_)
           ·intro hp102 n102 hn102
            refine wk ?_
            rw [putE_long (by omega) (by rw [hln] at hp102; exact hp102)]
            first | exact .inr ⟨by decide,rfl,by omega⟩ | (simp; done) | (simp; omega)
           intro hm102
           refine awOps.rn ?_
           refine AW.trim [0] ?_
           refine AW.fin2 ?_
           refine AW.rL ?_
           refine ⟨.inl rfl,⟨65,[],[(0,.tc 41 [.int .u8 0,.int .u8 0,.int .u8 0,.int .u8 0,.int .u8 0,.int .i64 0]),(1,.cells [.row 2 0 (out ++ (bytes4 (val5 [x0,x1])).take 1).length,.int .i64 M]),(2,.row 1 (bytesAV (out ++ (bytes4 (val5 [x0,x1])).take 1)) true)],3,GA,2,[]⟩,St.le.vw [0,1,4] (hpre:=by intro i hi; dsimp only at hi; rcases i with _ | _ | i; rfl; rfl; omega),?_⟩
           refine wk ?_
           rw [putE_ok (by omega) (by rw [hln] at hm102; exact hm102)]
           have e9 : putO out [x0,x1] = out ++ (bytes4 (val5 [x0,x1])).take 1:=rfl
           rw [e9,List.length_append]
           generalize (bytes4 (val5 [x0,x1])).take 1 = q9
           simp
         ·intro h83
          first | contradiction | (simp at h83; done) | (exfalso; omega) | (exfalso; revert h83; decide)
        ·intro h73
         first | contradiction | (simp at h73; done) | (exfalso; omega) | (exfalso; revert h73; decide)
       ·intro h63
        first | contradiction | (simp at h63; done) | (exfalso; omega) | (exfalso; revert h63; decide)
      ·intro h53
       first | contradiction | (simp at h53; done) | (exfalso; omega) | (exfalso; revert h53; decide)
     ·intro h43
      first | contradiction | (simp at h43; done) | (exfalso; omega) | (exfalso; revert h43; decide)
   ·intro h25
    first | contradiction | (simp at h25; done) | (exfalso; omega) | (exfalso; revert h25; decide)
  ·intro h16
   first | contradiction | (simp at h16; done) | (exfalso; omega) | (exfalso; revert h16; decide)
 ·intro h7
  first | contradiction | (simp at h7; done) | (exfalso; omega) | (exfalso; revert h7; decide)
theorem h_gput3 (x0 x1 x2 : Nat) (h0 : x0 ≤ 84) (h1 : x1 ≤ 84) (h2 : x2 ≤ 84) (out : List UInt8) (M : Nat) (h : out.length ≤ 16777216) : FnK Tryd.prog (GA) 29 [.ptr 0 0,.ptr 1 0] ([(0,.tc 41 [.int .u8 x0,.int .u8 x1,.int .u8 x2,.int .u8 0,.int .u8 0,.int .i64 3]),(1,.cells [.row 2 0 out.length,.int .i64 M]),(2,.row 1 (bytesAV out) true)]) 3 2 (fun r h n=>((putE out [x0,x1,x2] M = 0) ∧ r = .ret (.tup []) ∧ h = [(0,.tc 41 [.int .u8 0,.int .u8 0,.int .u8 0,.int .u8 0,.int .u8 0,.int .i64 0]),(1,.cells [.row 2 0 (putO out [x0,x1,x2]).length,.int .i64 M]),(2,.row 1 (bytesAV (putO out [x0,x1,x2])) true)] ∧ n = 3) ∨ (¬ (putE out [x0,x1,x2] M = 0) ∧ r = .panic (.iface 70 (.agg [.int .i64 (putE out [x0,x1,x2] M)])) ∧ 2 ≤ n)):=by
 refine FnK.intro Tryd.func29 rfl rfl (by simp [Tryd.ntmps29]) ?_
 simp only [argEnv,Tryd.ntmps29,Tryd.results29]
 have hv : val5 [x0,x1,x2] = x0 * 52200625 + x1 * 614125 + x2 * 7225 + 84 * 85 + 84 * 1:=by unfold val5; simp only [List.getD_cons_zero,List.getD_cons_succ,List.getD_nil]; omega
 have hln : ((bytes4 (val5 [x0,x1,x2])).take 2).length = 2:=rfl
 refine AW.seq ?_
 refine AW.rS ?_
 refine AW.trim [0,1,4] ?_
 refine AW.block ?_
 refine AW.un 2 ?_
 refine AW.seq ?_
 refine AW.rS ?_
 refine AW.trim [0,1,4,14] ?_
 refine AW.c2 ?_ ?_
 ·intro h7
  refine AW.skip ?_
  refine AW.seq ?_
  refine AW.block ?_
  refine AW.rL ?_
  refine AW.rL ?_
  refine AWR.s ?_
  refine AW.seq ?_
  refine AW.rS ?_
  refine AW.trim [0,1,4,14] ?_
  refine AW.c2 ?_ ?_
  ·intro h16
   refine AW.skip ?_
   refine AW.seq ?_
   refine AW.block ?_
   refine AW.rL ?_
   refine AW.rL ?_
   refine AWR.s ?_
   refine AW.seq ?_
   refine AW.rS ?_
   refine AW.trim [0,1,4,14] ?_
   refine AW.c2 ?_ ?_
   ·intro h25
    first | contradiction | (simp at h25; done) | (exfalso; omega) | (exfalso; revert h25; decide)
   ·intro h25
    refine AW.exit ?_
    refine AW.rS ?_
    refine AW.trim [0,1,5] ?_
    refine AW.seq ?_
    refine AW.rS ?_
    refine AW.trim [0,1,5,22,23] ?_
    refine AW.block ?_
    refine AW.un 5 ?_
    refine AW.rS ?_
    refine AW.trim [0,1,5,22,23,24] ?_
    refine AW.seq ?_
    refine AW.c2 ?_ ?_
    ·intro h34
     refine AW.skip ?_
     refine AW.seq ?_
     refine AW.block ?_
     refine AW.rS ?_
     refine AW.trim [0,1,5,6,7,22,23] ?_
     refine AW.rL ?_
     refine AW.rL ?_
     refine AWR.s ?_
     refine AW.rS ?_
     refine AW.trim [0,1,5,22,23,24] ?_
     refine AW.seq ?_
     refine AW.c2 ?_ ?_
     ·intro h44
      refine AW.skip ?_
      refine AW.seq ?_
      refine AW.block ?_
      refine AW.rS ?_
      refine AW.trim [0,1,5,6,7,22,23] ?_
      refine AW.rL ?_
      refine AW.rL ?_
      refine AWR.s ?_
      refine AW.rS ?_
      refine AW.trim [0,1,5,22,23,24] ?_
      refine AW.seq ?_
      refine AW.c2 ?_ ?_
      ·intro h54
       refine AW.skip ?_
       refine AW.seq ?_
       refine AW.block ?_
       refine AW.rS ?_
       refine AW.trim [0,1,5,6,7,22,23] ?_
       refine AW.rL ?_
       refine AW.rL ?_
       refine AWR.s ?_
       refine AW.rS ?_
       refine AW.trim [0,1,5,22,23,24] ?_
       refine AW.seq ?_
       refine AW.c2 ?_ ?_
       ·intro h64
        refine AW.skip ?_
        refine AW.seq ?_
        refine AW.block ?_
        refine AW.rS ?_
        refine AW.trim [0,1,5,6,7,22,23] ?_
        refine AW.rL ?_
        refine AW.rL ?_
        refine AWR.s ?_
        refine AW.rS ?_
        refine AW.trim [0,1,5,22,23,24] ?_
        refine AW.seq ?_
        refine AW.c2 ?_ ?_
        ·intro h74
         refine AW.skip ?_
         refine AW.seq ?_
         refine AW.block ?_
         refine AW.rS ?_
         refine AW.trim [0,1,5,6,7,22,23] ?_
         refine AW.rL ?_
         refine AW.rL ?_
         refine AWR.s ?_
         refine AW.rS ?_
         refine AW.trim [0,1,5,22,23,24] ?_
         refine AW.seq ?_
         refine AW.c2 ?_ ?_
         ·intro h84
          first | contradiction | (simp at h84; done) | (exfalso; omega) | (exfalso; revert h84; decide)
         ·intro h84
          refine AW.exit ?_
          refine AW.rSC ?_
          refine awOps.cons (awGuard.cM (c_ascii_need _ _ 3) ?_ ?_)
          ·intro hp87
           refine wk ?_
           rw [putE_form (by omega)]
           first | exact .inr ⟨by decide,rfl,by omega⟩ | (simp; done) | (simp; omega)
          intro hm87
          refine awOps.rn ?_
          refine AW.trim [0,1,5] ?_
          refine AW.vw [0,1,2] [(0,.ptr 0 0),(1,.ptr 1 0),(5,.int .u64 ((val5 [x0,x1,x2] : Nat) : Int))] [(0,.tc 41 [.int .u8 x0,.int .u8 x1,.int .u8 x2,.int .u8 84,.int .u8 84,.int .i64 3]),(1,.cells [.row 2 0 out.length,.int .i64 M]),(2,.row 1 (bytesAV out) true)] ?_ (henv:=by (simp only [go_sem,seval]; iterate 2 try (simp (disch:=omega) only [zq]; try simp only [go_sem,seval])); exact ⟨Less.refl _,Less.refl _,Less.int (by omega)⟩)
          refine AW.rS ?_
          refine AW.trim [0,1,8] ?_
          refine AW.pre (St.le.untc 3 rfl) ?_
          refine AW.cf 8 3 ?_
          refine AW.rSC ?_
          refine awOps.cons ?_
          refine awGuard.slC ?_ ?_
          ·exact ⟨by decide,by decide⟩
          refine awOps.rn ?_
          refine awOps.cons (awGuard.cKM 1 [1,2] (h_put_s GA out ((bytes4 (val5 [x0,x1,x2])).take 2) M h (by rw [hln]; decide)) ?_ ?_)
          ·intro hp93 n93 hn93
           refine wk ?_
           rw [putE_long (by omega) (by rw [hln] at hp93; exact hp93)]
           first | exact .inr ⟨by decide,rfl,by omega⟩ | (simp; done) | (simp; omega)
          intro hm93
          refine awOps.rn ?_
          refine AW.trim [0] ?_
          refine AW.fin2 ?_
          refine AW.rL ?_
          refine ⟨.inl rfl,⟨65,[],[(0,.tc 41 [.int .u8 0,.int .u8 0,.int .u8 0,.int .u8 0,.int .u8 0,.int .i64 0]),(1,.cells [.row 2 0 (out ++ (bytes4 (val5 [x0,x1,x2])).take 2).length,.int .i64 M]),(2,.row 1 (bytesAV (out ++ (bytes4 (val5 [x0,x1,x2])).take 2)) true)],3,GA,2,[]⟩,St.le.vw [0,1,4] (hpre:=by intro i hi; dsimp only at hi; rcases i with _ | _ | i; rfl; rfl; omega),?_⟩
          refine wk ?_
          rw [putE_ok (by omega) (by rw [hln] at hm93; exact hm93)]
          have e9 : putO out [x0,x1,x2] = out ++ (bytes4 (val5 [x0,x1,x2])).take 2:=rfl
          rw [e9,List.length_append]
          generalize (bytes4 (val5 [x0,x1,x2])).take 2 = q9
          simp
        ·intro h74
         first | contradiction | (simp at h74; done) | (exfalso; omega) | (exfalso; revert h74; decide)
       ·intro h64
        first | contradiction | (simp at h64; done) | (exfalso; omega) | (exfalso; revert h64; decide)
      ·intro h54
       first | contradiction | (simp at h54; done) | (exfalso; omega) | (exfalso; revert h54; decide)
     ·intro h44
      first | contradiction | (simp at h44; done) | (exfalso; omega) | (exfalso; revert h44; decide)
    ·intro h34
     first | contradiction | (simp at h34; done) | (exfalso; omega) | (exfalso; revert h34; decide)
  ·intro h16
   first | contradiction | (simp at h16; done) | (exfalso; omega) | (exfalso; revert h16; decide)
 ·intro h7
  first | contradiction | (simp at h7; done) | (exfalso; omega) | (exfalso; revert h7; decide)
theorem h_gput4 (x0 x1 x2 x3 : Nat) (h0 : x0 ≤ 84) (h1 : x1 ≤ 84) (h2 : x2 ≤ 84) (h3 : x3 ≤ 84) (out : List UInt8) (M : Nat) (h : out.length ≤ 16777216) : FnK Tryd.prog (GA) 29 [.ptr 0 0,.ptr 1 0] ([(0,.tc 41 [.int .u8 x0,.int .u8 x1,.int .u8 x2,.int .u8 x3,.int .u8 0,.int .i64 4]),(1,.cells [.row 2 0 out.length,.int .i64 M]),(2,.row 1 (bytesAV out) true)]) 3 2 (fun r h n=>((putE out [x0,x1,x2,x3] M = 0) ∧ r = .ret (.tup []) ∧ h = [(0,.tc 41 [.int .u8 0,.int .u8 0,.int .u8 0,.int .u8 0,.int .u8 0,.int .i64 0]),(1,.cells [.row 2 0 (putO out [x0,x1,x2,x3]).length,.int .i64 M]),(2,.row 1 (bytesAV (putO out [x0,x1,x2,x3])) true)] ∧ n = 3) ∨ (¬ (putE out [x0,x1,x2,x3] M = 0) ∧ r = .panic (.iface 70 (.agg [.int .i64 (putE out [x0,x1,x2,x3] M)])) ∧ 2 ≤ n)):=by
 refine FnK.intro Tryd.func29 rfl rfl (by simp [Tryd.ntmps29]) ?_
 simp only [argEnv,Tryd.ntmps29,Tryd.results29]
 have hv : val5 [x0,x1,x2,x3] = x0 * 52200625 + x1 * 614125 + x2 * 7225 + x3 * 85 + 84 * 1:=by unfold val5; simp only [List.getD_cons_zero,List.getD_cons_succ,List.getD_nil]; omega
 have hln : ((bytes4 (val5 [x0,x1,x2,x3])).take 3).length = 3:=rfl
 refine AW.seq ?_
 refine AW.rS ?_
 refine AW.trim [0,1,4] ?_
 refine AW.block ?_
 refine AW.un 1 ?_
 refine AW.seq ?_
 refine AW.rS ?_
 refine AW.trim [0,1,4,14] ?_
 refine AW.c2 ?_ ?_
 ·intro h7
  refine AW.skip ?_
  refine AW.seq ?_
  refine AW.block ?_
  refine AW.rL ?_
  refine AW.rL ?_
  refine AWR.s ?_
  refine AW.seq ?_
  refine AW.rS ?_
  refine AW.trim [0,1,4,14] ?_
  refine AW.c2 ?_ ?_
  ·intro h16
   first | contradiction | (simp at h16; done) | (exfalso; omega) | (exfalso; revert h16; decide)
  ·intro h16
   refine AW.exit ?_
   refine AW.rS ?_
   refine AW.trim [0,1,5] ?_
   refine AW.seq ?_
   refine AW.rS ?_
   refine AW.trim [0,1,5,22,23] ?_
   refine AW.block ?_
   refine AW.un 5 ?_
   refine AW.rS ?_
   refine AW.trim [0,1,5,22,23,24] ?_
   refine AW.seq ?_
   refine AW.c2 ?_ ?_
   ·intro h25
    refine AW.skip ?_
    refine AW.seq ?_
    refine AW.block ?_
    refine AW.rS ?_
    refine AW.trim [0,1,5,6,7,22,23] ?_
    refine AW.rL ?_
    refine AW.rL ?_
    refine AWR.s ?_
    refine AW.rS ?_
    refine AW.trim [0,1,5,22,23,24] ?_
    refine AW.seq ?_
    refine AW.c2 ?_ ?_
    ·intro h35
     refine AW.skip ?_
     refine AW.seq ?_
     refine AW.block ?_
     refine AW.rS ?_
     refine AW.trim [0,1,5,6,7,22,23] ?_
     refine AW.rL ?_
     refine AW.rL ?_
     refine AWR.s ?_
     refine AW.rS ?_
     refine AW.trim [0,1,5,22,23,24] ?_
     refine AW.seq ?_
     refine AW.c2 ?_ ?_
     ·intro h45
      refine AW.skip ?_
      refine AW.seq ?_
      refine AW.block ?_
      refine AW.rS ?_
      refine AW.trim [0,1,5,6,7,22,23] ?_
      refine AW.rL ?_
      refine AW.rL ?_
      refine AWR.s ?_
      refine AW.rS ?_
      refine AW.trim [0,1,5,22,23,24] ?_
      refine AW.seq ?_
      refine AW.c2 ?_ ?_
      ·intro h55
       refine AW.skip ?_
       refine AW.seq ?_
       refine AW.block ?_
       refine AW.rS ?_
       refine AW.trim [0,1,5,6,7,22,23] ?_
       refine AW.rL ?_
       refine AW.rL ?_
       refine AWR.s ?_
       refine AW.rS ?_
       refine AW.trim [0,1,5,22,23,24] ?_
       refine AW.seq ?_
       refine AW.c2 ?_ ?_
       ·intro h65
        refine AW.skip ?_
        refine AW.seq ?_
        refine AW.block ?_
        refine AW.rS ?_
        refine AW.trim [0,1,5,6,7,22,23] ?_
        refine AW.rL ?_
        refine AW.rL ?_
        refine AWR.s ?_
        refine AW.rS ?_
        refine AW.trim [0,1,5,22,23,24] ?_
        refine AW.seq ?_
        refine AW.c2 ?_ ?_
        ·intro h75
         first | contradiction | (simp at h75; done) | (exfalso; omega) | (exfalso; revert h75; decide)
        ·intro h75
         refine AW.exit ?_
         refine AW.rSC ?_
         refine awOps.cons (awGuard.cM (c_ascii_need _ _ 3) ?_ ?_)
         ·intro hp78
          refine wk ?_
          rw [putE_form (by omega)]
          first | exact .inr ⟨by decide,rfl,by omega⟩ | (simp; done) | (simp; omega)
         intro hm78
         refine awOps.rn ?_
         refine AW.trim [0,1,5] ?_
         refine AW.vw [0,1,2] [(0,.ptr 0 0),(1,.ptr 1 0),(5,.int .u64 ((val5 [x0,x1,x2,x3] : Nat) : Int))] [(0,.tc 41 [.int .u8 x0,.int .u8 x1,.int .u8 x2,.int .u8 x3,.int .u8 84,.int .i64 4]),(1,.cells [.row 2 0 out.length,.int .i64 M]),(2,.row 1 (bytesAV out) true)] ?_ (henv:=by (simp only [go_sem,seval]; iterate 2 try (simp (disch:=omega) only [zq]; try simp only [go_sem,seval])); exact ⟨Less.refl _,Less.refl _,Less.int (by omega)⟩)
         refine AW.rS ?_
         refine AW.trim [0,1,8] ?_
         refine AW.pre (St.le.untc 3 rfl) ?_
         refine AW.cf 8 3 ?_
         refine AW.rSC ?_
         refine awOps.cons ?_
         refine awGuard.slC ?_ ?_
         ·exact ⟨by decide,by decide⟩
         refine awOps.rn ?_
         refine awOps.cons (awGuard.cKM 1 [1,2] (h_put_s GA out ((bytes4 (val5 [x0,x1,x2,x3])).take 3) M h (by rw [hln]; decide)) ?_ ?_)
         ·intro hp84 n84 hn84
          refine wk ?_
          rw [putE_long (by omega) (by rw [hln] at hp84; exact hp84)]
          first | exact .inr ⟨by decide,rfl,by omega⟩ | (simp; done) | (simp; omega)
         intro hm84
         refine awOps.rn ?_
         refine AW.trim [0] ?_
         refine AW.fin2 ?_
         refine AW.rL ?_
         refine ⟨.inl rfl,⟨65,[],[(0,.tc 41 [.int .u8 0,.int .u8 0,.int .u8 0,.int .u8 0,.int .u8 0,.int .i64 0]),(1,.cells [.row 2 0 (out ++ (bytes4 (val5 [x0,x1,x2,x3])).take 3).length,.int .i64 M]),(2,.row 1 (bytesAV (out ++ (bytes4 (val5 [x0,x1,x2,x3])).take 3)) true)],3,GA,2,[]⟩,St.le.vw [0,1,4] (hpre:=by intro i hi; dsimp only at hi; rcases i with _ | _ | i; rfl; rfl; omega),?_⟩
         refine wk ?_
         rw [putE_ok (by omega) (by rw [hln] at hm84; exact hm84)]
         have e9 : putO out [x0,x1,x2,x3] = out ++ (bytes4 (val5 [x0,x1,x2,x3])).take 3:=rfl
         rw [e9,List.length_append]
         generalize (bytes4 (val5 [x0,x1,x2,x3])).take 3 = q9
         simp
       ·intro h65
        first | contradiction | (simp at h65; done) | (exfalso; omega) | (exfalso; revert h65; decide)
      ·intro h55
       first | contradiction | (simp at h55; done) | (exfalso; omega) | (exfalso; revert h55; decide)
     ·intro h45
      first | contradiction | (simp at h45; done) | (exfalso; omega) | (exfalso; revert h45; decide)
    ·intro h35
     first | contradiction | (simp at h35; done) | (exfalso; omega) | (exfalso; revert h35; decide)
   ·intro h25
    first | contradiction | (simp at h25; done) | (exfalso; omega) | (exfalso; revert h25; decide)
 ·intro h7
  first | contradiction | (simp at h7; done) | (exfalso; omega) | (exfalso; revert h7; decide)
theorem h_gput5 (x0 x1 x2 x3 x4 : Nat) (h0 : x0 ≤ 84) (h1 : x1 ≤ 84) (h2 : x2 ≤ 84) (h3 : x3 ≤ 84) (h4 : x4 ≤ 84) (out : List UInt8) (M : Nat) (h : out.length ≤ 16777216) : FnK Tryd.prog (GA) 29 [.ptr 0 0,.ptr 1 0] ([(0,.tc 41 [.int .u8 x0,.int .u8 x1,.int .u8 x2,.int .u8 x3,.int .u8 x4,.int .i64 5]),(1,.cells [.row 2 0 out.length,.int .i64 M]),(2,.row 1 (bytesAV out) true)]) 3 2 (fun r h n=>((putE out [x0,x1,x2,x3,x4] M = 0) ∧ r = .ret (.tup []) ∧ h = [(0,.tc 41 [.int .u8 0,.int .u8 0,.int .u8 0,.int .u8 0,.int .u8 0,.int .i64 0]),(1,.cells [.row 2 0 (putO out [x0,x1,x2,x3,x4]).length,.int .i64 M]),(2,.row 1 (bytesAV (putO out [x0,x1,x2,x3,x4])) true)] ∧ n = 3) ∨ (¬ (putE out [x0,x1,x2,x3,x4] M = 0) ∧ r = .panic (.iface 70 (.agg [.int .i64 (putE out [x0,x1,x2,x3,x4] M)])) ∧ 2 ≤ n)):=by
 refine FnK.intro Tryd.func29 rfl rfl (by simp [Tryd.ntmps29]) ?_
 simp only [argEnv,Tryd.ntmps29,Tryd.results29]
 have hv : val5 [x0,x1,x2,x3,x4] = x0 * 52200625 + x1 * 614125 + x2 * 7225 + x3 * 85 + x4 * 1:=by unfold val5; simp only [List.getD_cons_zero,List.getD_cons_succ,List.getD_nil]; omega
 have hln : ((bytes4 (val5 [x0,x1,x2,x3,x4])).take 4).length = 4:=rfl
 refine AW.seq ?_
 refine AW.rS ?_
 refine AW.trim [0,1,4] ?_
 refine AW.block ?_
 refine AW.un 0 ?_
 refine AW.seq ?_
 refine AW.rS ?_
 refine AW.trim [0,1,4,14] ?_
 refine AW.c2 ?_ ?_
 ·intro h7
  first | contradiction | (simp at h7; done) | (exfalso; omega) | (exfalso; revert h7; decide)
 ·intro h7
  refine AW.exit ?_
  refine AW.rS ?_
  refine AW.trim [0,1,5] ?_
  refine AW.seq ?_
  refine AW.rS ?_
  refine AW.trim [0,1,5,22,23] ?_
  refine AW.block ?_
  refine AW.un 5 ?_
  refine AW.rS ?_
  refine AW.trim [0,1,5,22,23,24] ?_
  refine AW.seq ?_
  refine AW.c2 ?_ ?_
  ·intro h16
   refine AW.skip ?_
   refine AW.seq ?_
   refine AW.block ?_
   refine AW.rS ?_
   refine AW.trim [0,1,5,6,7,22,23] ?_
   refine AW.rL ?_
   refine AW.rL ?_
   refine AWR.s ?_
   refine AW.rS ?_
   refine AW.trim [0,1,5,22,23,24] ?_
   refine AW.seq ?_
   refine AW.c2 ?_ ?_
   ·intro h26
    refine AW.skip ?_
    refine AW.seq ?_
    refine AW.block ?_
    refine AW.rS ?_
    refine AW.trim [0,1,5,6,7,22,23] ?_
    refine AW.rL ?_
    refine AW.rL ?_
    refine AWR.s ?_
    refine AW.rS ?_
    refine AW.trim [0,1,5,22,23,24] ?_
    refine AW.seq ?_
    refine AW.c2 ?_ ?_
    ·intro h36
     refine AW.skip ?_
     refine AW.seq ?_
     refine AW.block ?_
     refine AW.rS ?_
     refine AW.trim [0,1,5,6,7,22,23] ?_
     refine AW.rL ?_
     refine AW.rL ?_
     refine AWR.s ?_
     refine AW.rS ?_
     refine AW.trim [0,1,5,22,23,24] ?_
     refine AW.seq ?_
     refine AW.c2 ?_ ?_
     ·intro h46
      refine AW.skip ?_
      refine AW.seq ?_
      refine AW.block ?_
      refine AW.rS ?_
      refine AW.trim [0,1,5,6,7,22,23] ?_
      refine AW.rL ?_
      refine AW.rL ?_
      refine AWR.s ?_
      refine AW.rS ?_
      refine AW.trim [0,1,5,22,23,24] ?_
      refine AW.seq ?_
      refine AW.c2 ?_ ?_
      ·intro h56
       refine AW.skip ?_
       refine AW.seq ?_
       refine AW.block ?_
       refine AW.rS ?_
       refine AW.trim [0,1,5,6,7,22,23] ?_
       refine AW.rL ?_
       refine AW.rL ?_
       refine AWR.s ?_
       refine AW.rS ?_
       refine AW.trim [0,1,5,22,23,24] ?_
       refine AW.seq ?_
       refine AW.c2 ?_ ?_
       ·intro h66
        first | contradiction | (simp at h66; done) | (exfalso; omega) | (exfalso; revert h66; decide)
       ·intro h66
        refine AW.exit ?_
        refine AW.rSC ?_
        refine awOps.cons (awGuard.cM (c_ascii_need _ _ 3) ?_ ?_)
        ·intro hp69
         refine wk ?_
         rw [putE_form (by omega)]
         first | exact .inr ⟨by decide,rfl,by omega⟩ | (simp; done) | (simp; omega)
        intro hm69
        refine awOps.rn ?_
        refine AW.trim [0,1,5] ?_
        refine AW.vw [0,1,2] [(0,.ptr 0 0),(1,.ptr 1 0),(5,.int .u64 ((val5 [x0,x1,x2,x3,x4] : Nat) : Int))] [(0,.tc 41 [.int .u8 x0,.int .u8 x1,.int .u8 x2,.int .u8 x3,.int .u8 x4,.int .i64 5]),(1,.cells [.row 2 0 out.length,.int .i64 M]),(2,.row 1 (bytesAV out) true)] ?_ (henv:=by (simp only [go_sem,seval]; iterate 2 try (simp (disch:=omega) only [zq]; try simp only [go_sem,seval])); exact ⟨Less.refl _,Less.refl _,Less.int (by omega)⟩)
        refine AW.rS ?_
        refine AW.trim [0,1,8] ?_
        refine AW.pre (St.le.untc 3 rfl) ?_
        refine AW.cf 8 3 ?_
        refine AW.rSC ?_
        refine awOps.cons ?_
        refine awGuard.slC ?_ ?_
        ·exact ⟨by decide,by decide⟩
        refine awOps.rn ?_
        refine awOps.cons (awGuard.cKM 1 [1,2] (h_put_s GA out ((bytes4 (val5 [x0,x1,x2,x3,x4])).take 4) M h (by rw [hln]; decide)) ?_ ?_)
        ·intro hp75 n75 hn75
         refine wk ?_
         rw [putE_long (by omega) (by rw [hln] at hp75; exact hp75)]
         first | exact .inr ⟨by decide,rfl,by omega⟩ | (simp; done) | (simp; omega)
        intro hm75
        refine awOps.rn ?_
        refine AW.trim [0] ?_
        refine AW.fin2 ?_
        refine AW.rL ?_
        refine ⟨.inl rfl,⟨65,[],[(0,.tc 41 [.int .u8 0,.int .u8 0,.int .u8 0,.int .u8 0,.int .u8 0,.int .i64 0]),(1,.cells [.row 2 0 (out ++ (bytes4 (val5 [x0,x1,x2,x3,x4])).take 4).length,.int .i64 M]),(2,.row 1 (bytesAV (out ++ (bytes4 (val5 [x0,x1,x2,x3,x4])).take 4)) true)],3,GA,2,[]⟩,St.le.vw [0,1,4] (hpre:=by intro i hi; dsimp only at hi; rcases i with _ | _ | i; rfl; rfl; omega),?_⟩
        refine wk ?_
        rw [putE_ok (by omega) (by rw [hln] at hm75; exact hm75)]
        have e9 : putO out [x0,x1,x2,x3,x4] = out ++ (bytes4 (val5 [x0,x1,x2,x3,x4])).take 4:=rfl
        rw [e9,List.length_append]
        generalize (bytes4 (val5 [x0,x1,x2,x3,x4])).take 4 = q9
        simp
      ·intro h56
       first | contradiction | (simp at h56; done) | (exfalso; omega) | (exfalso; revert h56; decide)
     ·intro h46
      first | contradiction | (simp at h46; done) | (exfalso; omega) | (exfalso; revert h46; decide)
    ·intro h36
     first | contradiction | (simp at h36; done) | (exfalso; omega) | (exfalso; revert h36; decide)
   ·intro h26
    first | contradiction | (simp at h26; done) | (exfalso; omega) | (exfalso; revert h26; decide)
  ·intro h16
   first | contradiction | (simp at h16; done) | (exfalso; omega) | (exfalso; revert h16; decide)
end Go.Proofs

namespace Go.Proofs.YtboaclfnjdhcpaaDoor
open Go Aw Go.ChangeShapes Go.WideShapes Go.ChangeAt Go.RowKit
theorem own : ownKnob Tryd.prog.godebug = none:=by kernel_rfl
theorem laidOut : laidOutB Tryd.prog = true:=by kernel_rfl
theorem gTab : Tryd.prog.globalNamed "foliant/ascii.powers" = some 0 := by kernel_rfl
theorem gTabType : (Tryd.prog.globals[0]?).map (·.type) = some 62:=by kernel_rfl
theorem cellsA : Tryd.prog.cellsOf 62 = 5:=by kernel_rfl
theorem cellsE : Tryd.prog.cellsOf 46 = 1:=by kernel_rfl
theorem table {W : World} (h : laidMetH Tryd.prog [("foliant/ascii.powers", Rows.laid_foliant_ascii_powers)] W) : Lib.TabIs Tryd.prog W "foliant/ascii.powers" .u64 [52200625, 614125, 7225, 85, 1] :=
 Lib.tabIs_of_head (rest:=[]) gTab gTabType Tryd.underlying62 Tryd.underlying46 cellsE cellsA h
theorem gstartGA {W : World} (h : Lib.TabIs Tryd.prog W "foliant/ascii.powers" .u64 [52200625, 614125, 7225, 85, 1]) : Aw.Start (gmA W) GA := by
 have c0 : W.cell? ⟨0,0,none⟩ = some (.int .u64 52200625):=h.cell gTab 0 (by decide)
 have c1 : W.cell? ⟨0,1,none⟩ = some (.int .u64 614125):=h.cell gTab 1 (by decide)
 have c2 : W.cell? ⟨0,2,none⟩ = some (.int .u64 7225):=h.cell gTab 2 (by decide)
 have c3 : W.cell? ⟨0,3,none⟩ = some (.int .u64 85):=h.cell gTab 3 (by decide)
 have c4 : W.cell? ⟨0,4,none⟩ = some (.int .u64 1):=h.cell gTab 4 (by decide)
 have h0 : 0 < W.heap.size:=by
  rcases Nat.lt_or_ge 0 W.heap.size with hlt | hge
  ·exact hlt
  ·have : W.heap[0]? = none:=by rw [Array.getElem?_eq_none]; exact hge
   simp [World.cell?,this] at c0
 refine ⟨fun _ _ h=>h,fun _ hb=>hb,?_,rfl,fun _=>rfl⟩
 intro g x hg
 simp only [GA,Aw.get] at hg
 split at hg
 ·rename_i e
  injection hg with hg
  subst hg e
  simp only [Rep,RepC]
  exact ⟨0,0,rfl,h0,⟨_,c0,rfl⟩,h0,⟨_,c1,rfl⟩,h0,⟨_,c2,rfl⟩,h0,⟨_,c3,rfl⟩,h0,⟨_,c4,rfl⟩,trivial⟩
 ·cases hg
noncomputable def laidWorld (os : Os) : World :=
 { World.holding Tryd.prog os ⟨#[],#[],[]⟩ with heap:=(World.holding Tryd.prog os ⟨#[],#[],[]⟩).heap.modify 0 fun
   | .cells _ t frozen=>.cells #[.int .u64 52200625,.int .u64 614125,.int .u64 7225,.int .u64 85,.int .u64 1] t frozen
   | o=>o }
end Go.Proofs.YtboaclfnjdhcpaaDoor

namespace Go.Proofs
open Go Aw
set_option linter.unusedSimpArgs false
set_option linter.unusedVariables false
set_option maxRecDepth 100000
set_option maxHeartbeats 4000000
attribute [local go_sem] List.length_append bldP
theorem lays240 : Lays.n240 Tryd.prog Tryd.lays105_ren:={ Tryd.lays105 with }
theorem h_copyCheck (gl : List (Nat × AV)) (wr : Bool) (x : AV) (blk : ABlk) :
  FnH Tryd.prog gl 52 [.ptr 0 0] [(0,.tc 52 [bldP wr 0,x]),(1,blk)] 2 fun r h n=>r = .ret (.tup []) ∧ h = [(0,.tc 52 [.ptr 0 0,x]),(1,blk)] ∧ n = 2 :=
 FnH.bldCheck (ρ:=Tryd.lays105_ren) lays240 Tryd.Builder_Extra_105.toX72 (enters_of Tryd.func52 rfl rfl)
theorem h_Builder_String (gl : List (Nat × AV)) (p : AV) (l : List UInt8) (h : l.length ≤ 9223372036854775807) :
  FnH Tryd.prog gl 40 [.ptr 0 0] [(0,.tc 52 [p,.row 1 0 l.length]),(1,.brow 5 l)] 2 fun r h n=>r = .ret (.str l) ∧ h = [] ∧ n = 2 :=
 FnH.bldString (ρ:=Tryd.lays169_ren) Tryd.lays169 Tryd.Builder_Extra_169 h (enters_of Tryd.func40 rfl rfl)
theorem h_WriteByte (gl : List (Nat × AV)) (wr : Bool) (l : List UInt8) (c : UInt8) (h : l.length ≤ 16777216) : FnK Tryd.prog (gl) 39 [.ptr 0 0,.int .u8 c.toNat] ([(0,.tc 52 [bldP wr 0,.row 1 0 l.length]),(1,.brow 5 l)]) 2 1 (fun r h n=>r = .ret (.raw .nilIface) ∧ h = [(0,.tc 52 [bldP true 0,.row 1 0 (l ++ [c]).length]),(1,.brow 5 (l ++ [c]))] ∧ n = 2):=by
 refine FnK.intro Tryd.func39 rfl rfl (by simp [Tryd.ntmps39]) ?_
 simp only [argEnv,Tryd.ntmps39,Tryd.results39]
 refine AW.rS ?_
 refine AW.rSC ?_
 refine awOps.cons (awGuard.cH [0,1] (h_copyCheck _ wr (.row 1 0 l.length) (.brow 5 l)) ?_)
 refine awOps.rn ?_
 refine AW.rSC ?_
 refine awOps.cons ?_
 refine awGuard.apB [c] ?_ ?_ ?_ ?_
 ·rfl
 ·rfl
 ·(simp; omega)
 refine awOps.rn ?_
 refine AW.rS ?_
 refine AW.pre (St.le.tcLess 0 0 (bldP true 0) rfl rfl bldP_t) ?_
 refine AW.vw [0,3] [(4,.raw .nilIface)] [(0,.tc 52 [bldP true 0,.row 1 0 (l ++ [c]).length]),(1,.brow 5 (l ++ [c]))] ?_
 refine AW.rt ?_
 trivial
theorem h_WriteString (gl : List (Nat × AV)) (wr : Bool) (l s : List UInt8) (h : l.length ≤ 16777216) (hs : s.length ≤ 16777216) : FnK Tryd.prog (gl) 43 [.ptr 0 0,.str s] ([(0,.tc 52 [bldP wr 0,.row 1 0 l.length]),(1,.brow 5 l)]) 2 1 (fun r h n=>r = .ret (.tup [.int .i64 s.length,.raw .nilIface]) ∧ h = [(0,.tc 52 [bldP true 0,.row 1 0 (l ++ s).length]),(1,.brow 5 (l ++ s))] ∧ n = 2):=by
 refine FnK.intro Tryd.func43 rfl rfl (by simp [Tryd.ntmps43]) ?_
 simp only [argEnv,Tryd.ntmps43,Tryd.results43]
 refine AW.rS ?_
 refine AW.rSC ?_
 refine awOps.cons (awGuard.cH [0,1] (h_copyCheck _ wr (.row 1 0 l.length) (.brow 5 l)) ?_)
 refine awOps.rn ?_
 refine AW.rSC ?_
 refine awOps.cons ?_
 refine awGuard.apB s ?_ ?_ ?_ ?_
 ·rfl
 ·rfl
 ·omega
 refine awOps.rn ?_
 refine AW.rS ?_
 refine AW.pre (St.le.tcLess 0 0 (bldP true 0) rfl rfl bldP_t) ?_
 refine AW.vw [0,2] [(4,.int .i64 s.length),(5,.raw .nilIface)] [(0,.tc 52 [bldP true 0,.row 1 0 (l ++ s).length]),(1,.brow 5 (l ++ s))] ?_
 refine AW.rt ?_
 trivial
end Go.Proofs

namespace Go.Proofs
open Go Aw
set_option linter.unusedSimpArgs false
set_option linter.unusedVariables false
set_option maxRecDepth 100000
set_option maxHeartbeats 4000000
attribute [local go_sem] List.length_append bldP
theorem c_ascii_Run (gl : List (Nat × AV)) (s : List UInt8) (hs : s.length ≤ 1000000) : FnP Tryd.prog (gl) 18 [.str s] fun r=>r = .ret (.str (runE s)):=by
 refine FnP.intro Tryd.func18 rfl rfl (by simp [Tryd.ntmps18]) ?_
 simp only [argEnv,Tryd.ntmps18,Tryd.results18]
 have hrb:=runB_bound s
 refine AW.rS ?_
 refine AW.rS ?_
 refine AW.seq ?_
 refine AW.block ?_
 refine AW.pre (St.le.nilcellB 0 1 5 rfl rfl) ?_
 refine AW.pre (St.le.tcLess 0 0 (bldP false 0) rfl rfl bldP_f) ?_
 refine AW.lk (S:={ p : List UInt8 × List UInt8 × Bool // p.1.length ≤ s.length ∧ runB s = p.2.1 ++ runB p.1 }) [3] (fun s_=>[(0,.str s_.1.1)]) (fun s_=>[(0,.tc 52 [bldP s_.1.2.2 0,.row 1 0 s_.1.2.1.length]),(1,.brow 5 s_.1.2.1)]) 2 (fun s_=>s_.1.1.length) ⟨(s,[],false),Nat.le_refl _,rfl⟩ ?_ ?_
 ·refine St.le.vw [0,1]
 rintro ⟨⟨t,acc,wr⟩,ht,hsp⟩
 try dsimp only at ht
 try dsimp only at hsp
 have hac : acc.length + (runB t).length = (runB s).length:=by rw [hsp,List.length_append]
 refine AW.seq ?_
 refine AW.rS ?_
 refine AW.c2 ?_ ?_
 ·intro h8
  have hal:=alikeN_le t
  have htl : 0 < t.length:=List.length_pos_iff.2 h8
  refine AW.skip ?_
  refine AW.block ?_
  refine AW.seq ?_
  refine AW.rSC ?_
  refine awOps.cons (awGuard.c1 (c_ascii_alike _ t (by omega) h8) ?_)
  refine awOps.rn ?_
  refine AW.rS ?_
  refine AW.c2 ?_ ?_
  ·intro h16
   have hrm:=run_many h8 (by omega)
   have hrl : (runB t).length = 2 + (runB (t.drop (alikeN t))).length:=by rw [hrm]; simp only [List.length_cons]; omega
   refine AW.rS ?_
   refine AW.rSC ?_
   rw [show (257 - min ((alikeN t : Nat) : Int) 128) = (((UInt8.ofNat (257 - alikeN t)).toNat : Nat) : Int) by rw [u8_ofNat (by omega)]; omega]
   refine awOps.cons (awGuard.cK 1 [0,1] (h_WriteByte _ wr acc (UInt8.ofNat (257 - alikeN t)) (by omega)) ?_)
   refine awOps.rn ?_
   refine AW.rSC ?_
   refine awOps.cons (awGuard.cK 1 [0,2] (h_WriteByte _ true (acc ++ [UInt8.ofNat (257 - alikeN t)]) (t.getD 0 0) (by simp; omega)) ?_)
   refine awOps.rn ?_
   refine AW.rS ?_
   refine AW.exit ?_
   refine ⟨⟨(t.drop (alikeN t),acc ++ [UInt8.ofNat (257 - alikeN t)] ++ [t.getD 0 0],true),by simp; omega,by rw [hsp,hrm]; simp⟩,?_,?_⟩
   ·rw [show (min ((alikeN t : Nat) : Int) 128).toNat = alikeN t by omega]; refine St.le.vw [0,3]
   ·simp; omega
  ·intro h16
   refine AW.skip ?_
   refine AW.rS ?_
   refine AW.seq ?_
   refine AW.block ?_
   refine AW.lk (S:={ k : Nat // 1 ≤ k ∧ k ≤ 128 ∧ k ≤ t.length ∧ litGo (t.drop k) k = litGo t 0 }) [0,3] (fun s_=>[(5,.int .i64 s_.1)]) (fun s_=>[(0,.tc 52 [bldP wr 0,.row 1 0 acc.length]),(1,.brow 5 acc)]) 2 (fun s_=>128 - s_.1) ⟨1,Nat.le_refl _,by decide,htl,lit_one h8 (by omega)⟩ ?_ ?_
   ·refine St.le.vw [0,1]
   rintro ⟨k,hk1,hk2,hk3,hlit⟩
   try dsimp only at hk1
   try dsimp only at hk2
   try dsimp only at hk3
   try dsimp only at hlit
   refine AW.seq ?_
   refine AW.rSC ?_
   refine awOps.cons (awGuard.cG (g:=decide ((k : Int) < min (t.length : Int) 128)) (fun hg=>c_ascii_alike _ (t.drop k) (by simp; omega) (by have hg2:=of_decide_eq_true hg; rw [ne_eq,List.drop_eq_nil_iff]; omega)) ?_ (hgv:=by (simp only [go_sem,seval]; iterate 2 try (simp (disch:=omega) only [zq]; try simp only [go_sem,seval]))))
   refine awOps.rn ?_
   refine AW.c2 ?_ ?_
   ·intro h36
    refine AW.skip ?_
    refine AW.block ?_
    refine AW.rL ?_
    refine ⟨⟨k + 1,by omega,by omega,by omega,(lit_step (by omega) (by omega) (by omega)).symm.trans hlit⟩,?_,?_⟩
    ·refine St.le.vw [0,1]
    ·simp only []; omega
   ·intro h36
    refine AW.exit ?_
    refine AW.rSC ?_
    rw [show ((k : Int) - 1) = (((UInt8.ofNat (k - 1)).toNat : Nat) : Int) by rw [u8_ofNat (by omega)]; omega]
    refine awOps.cons (awGuard.cK 1 [0,1] (h_WriteByte _ wr acc (UInt8.ofNat (k - 1)) (by omega)) ?_)
    refine awOps.rn ?_
    refine AW.rSC ?_
    refine awOps.cons (awGuard.cK 1 [0,2] (h_WriteString _ true (acc ++ [UInt8.ofNat (k - 1)]) (t.take k) (by simp; omega) (by simp; omega)) ?_)
    refine awOps.rn ?_
    refine AW.rL ?_
    refine ⟨⟨(t.drop k,acc ++ [UInt8.ofNat (k - 1)] ++ t.take k,true),by simp; omega,by rw [hsp,run_few h8 (by omega) (hlit.symm.trans (lit_end (by omega)))]; simp⟩,?_,?_⟩
    ·refine St.le.vw [0,3]
    ·simp; omega
 ·intro h8
  refine AW.exit ?_
  refine AW.rSC ?_
  refine awOps.cons (awGuard.cK 1 [0,1] (h_WriteByte _ wr acc 128 (by omega)) ?_)
  refine awOps.rn ?_
  refine AW.rSC ?_
  refine awOps.cons (awGuard.cH [0,2] (h_Builder_String _ (bldP true 0) (acc ++ [128]) (by simp; omega)) ?_)
  refine awOps.rn ?_
  refine AW.rt ?_
  rw [runE,hsp,h8,runB_nil,List.append_nil]
end Go.Proofs

namespace Aw
abbrev grpC (l : List Nat) : List AV:=[.int .u8 (l.getD 0 0 : Nat),.int .u8 (l.getD 1 0 : Nat),.int .u8 (l.getD 2 0 : Nat),.int .u8 (l.getD 3 0 : Nat),.int .u8 (l.getD 4 0 : Nat),.int .i64 (l.length : Nat)]
end Aw
namespace Go.Proofs
open Go Aw
set_option linter.unusedSimpArgs false
set_option linter.unusedVariables false
set_option maxRecDepth 100000
set_option maxHeartbeats 4000000
attribute [local irreducible] val5 unfiveS
theorem h_gput (l : List Nat) (hl : 2 ≤ l.length ∧ l.length ≤ 5) (hx : ∀ x ∈ l,x ≤ 84) (out : List UInt8) (M : Nat) (h : out.length ≤ 16777216) :
  FnK Tryd.prog GA 29 [.ptr 0 0,.ptr 1 0] [(0,.tc 41 (grpC l)),(1,.cells [.row 2 0 out.length,.int .i64 M]),(2,.row 1 (bytesAV out) true)] 3 2 fun r h n =>
   (putE out l M = 0 ∧ r = .ret (.tup []) ∧ h = [(0,.tc 41 (grpC [])),(1,.cells [.row 2 0 (putO out l).length,.int .i64 M]),(2,.row 1 (bytesAV (putO out l)) true)] ∧ n = 3) ∨
   (¬ putE out l M = 0 ∧ r = .panic (.iface 70 (.agg [.int .i64 (putE out l M)])) ∧ 2 ≤ n):=by
 match l,hl,hx with
 | [a,b],_,hx=>exact h_gput2 a b (hx a (by simp)) (hx b (by simp)) out M h
 | [a,b,c],_,hx=>exact h_gput3 a b c (hx a (by simp)) (hx b (by simp)) (hx c (by simp)) out M h
 | [a,b,c,d],_,hx=>exact h_gput4 a b c d (hx a (by simp)) (hx b (by simp)) (hx c (by simp)) (hx d (by simp)) out M h
 | [a,b,c,d,e],_,hx=>exact h_gput5 a b c d e (hx a (by simp)) (hx b (by simp)) (hx c (by simp)) (hx d (by simp)) (hx e (by simp)) out M h
 | [],hl,_=>exact absurd hl.1 (by decide)
 | [_],hl,_=>exact absurd hl.1 (by simp)
 | _ :: _ :: _ :: _ :: _ :: _ :: _,hl,_=>exact absurd hl.2 (by simp)
attribute [local go_sem] bB_take bytesAV_append List.length_append GA viewN_pan
theorem h_end (left : List UInt8) (l : List Nat) (hl : l.length ≤ 4) (hx : ∀ x ∈ l,x ≤ 84) (out : List UInt8) (M : Nat) (h : out.length ≤ 16777216) (hs : left.length ≤ 16777216) : FnK Tryd.prog (GA) 30 [.str left,.ptr 0 0,.ptr 1 0] ([(0,.tc 41 (grpC l)),(1,.cells [.row 2 0 out.length,.int .i64 M]),(2,.row 1 (bytesAV out) true)]) 3 2 (fun r h n=>(((endR M left l out).2 = .ok) ∧ r = .ret (.tup []) ∧ h = [(0,.tc 41 (grpC [])),(1,.cells [.row 2 0 (endR M left l out).1.length,.int .i64 M]),(2,.row 1 (bytesAV (endR M left l out).1) true)] ∧ n = 3) ∨ (¬ ((endR M left l out).2 = .ok) ∧ r = .panic (.iface 70 (.agg [.int .i64 (errI (endR M left l out).2)])) ∧ 2 ≤ n)):=by
 refine FnK.intro Tryd.func30 rfl rfl (by simp [Tryd.ntmps30]) ?_
 simp only [argEnv,Tryd.ntmps30,Tryd.results30]
 refine AW.rSC ?_
 refine awOps.cons (awGuard.cM (c_ascii_need _ _ 4) ?_ ?_)
 ·intro hp2
  refine wk ?_
  rw [show left = [] from hp2,end_nil]
  first | exact .inr ⟨by decide,rfl,by omega⟩ | (simp [errI]; done) | (simp [errI]; omega)
 intro hm2
 have h2 : left ≠ []:=hm2
 have h2l : 0 < left.length:=List.length_pos_iff.2 h2
 refine awOps.rn ?_
 refine AW.rSC ?_
 refine awOps.cons (awGuard.cM (c_ascii_need _ _ 3) ?_ ?_)
 ·intro hp5
  refine wk ?_
  rw [end_bad h2 (by omega)]
  first | exact .inr ⟨by decide,rfl,by omega⟩ | (simp [errI]; done) | (simp [errI]; omega)
 intro hm5
 refine awOps.rn ?_
 refine AW.rS ?_
 refine AW.c2 ?_ ?_
 ·intro h8
  refine AW.fin3 ?_
  refine AW.rLC ?_
  refine awOps.cons (awGuard.cKM 2 [0,1,2] (h_gput l (by omega) hx out M h) ?_ ?_)
  ·intro hp10 n10 hn10
   refine wk ?_
   have e:=end_put (M:=M) (out:=out) h2 hm5.1 (l:=l) (by intro q; rw [q] at h8; simp at h8) (by omega)
   rw [e,if_neg hp10]
   rcases putE_cases out l M with q | q | q
   ·exact absurd q hp10
   ·rw [if_pos q,q]
    first | exact .inr ⟨by decide,rfl,by omega⟩ | (simp [errI]; done) | (simp [errI]; omega)
   ·rw [if_neg (by rw [q]; decide),q]
    first | exact .inr ⟨by decide,rfl,by omega⟩ | (simp [errI]; done) | (simp [errI]; omega)
  intro hm10
  refine awOps.rn ?_
  refine ⟨⟨28,[],[(0,.tc 41 (grpC [])),(1,.cells [.row 2 0 (putO out l).length,.int .i64 M]),(2,.row 1 (bytesAV (putO out l)) true)],3,GA,2,[]⟩,St.le.vw [0,1,3] (hpre:=by intro i hi; dsimp only at hi; rcases i with _ | _ | i; rfl; rfl; omega),?_⟩
  refine wk ?_
  have e:=end_put (M:=M) (out:=out) h2 hm5.1 (l:=l) (by intro q; rw [q] at h8; simp at h8) (by omega)
  rw [e,if_pos hm10]
  simp
 ·intro h8
  refine AW.skip ?_
  refine wk ?_
  have hl0 : l = []:=List.length_eq_zero_iff.1 (by omega)
  subst hl0
  rw [end_none h2 hm5.1]
  simp
end Go.Proofs

namespace Aw
open Go
theorem vx_five {M : Nat} {s : Byt} {i : Nat} {l : List Nat} {out : Byt} (hi : i < s.length) (hw : whiteC (s.getD i 0) = false) (h1 : 33 ≤ ((s.getD i 0).toNat : Int)) (h2 : ((s.getD i 0).toNat : Int) ≤ 117) (hl : l.length = 4) : unfiveS M (s.drop i) l out =
  if putE out (l ++ [(s.getD i 0).toNat - 33]) M = 0 then unfiveS M (s.drop (i + 1)) [] (putO out (l ++ [(s.getD i 0).toNat - 33])) else if putE out (l ++ [(s.getD i 0).toNat - 33]) M = 3 then ([],.form) else ([],.long):=by
 rw [vx_dig hi hw h1 h2,if_pos hl]
 have h5 : (l ++ [(s.getD i 0).toNat - 33]).length = 5:=by rw [List.length_append,hl] <;> rfl
 have ho : putO out (l ++ [(s.getD i 0).toNat - 33]) = out ++ bytes4 (val5 (l ++ [(s.getD i 0).toNat - 33])):=by
  rw [putO,h5]
  rfl
 rw [ho]
 by_cases h3 : 4294967296 ≤ val5 (l ++ [(s.getD i 0).toNat - 33])
 ·rw [if_pos h3,putE_form h3] <;> rfl
 ·by_cases h4 : out.length + 4 ≤ M
  ·rw [if_neg h3,if_pos h4,putE_ok h3 (by rw [h5]; exact h4)] <;> rfl
  ·rw [if_neg h3,if_neg h4,putE_long h3 (by rw [h5]; exact h4)] <;> rfl
theorem vx_more {M : Nat} {s : Byt} {i : Nat} {l : List Nat} {out : Byt} (hi : i < s.length) (hw : whiteC (s.getD i 0) = false) (h1 : 33 ≤ ((s.getD i 0).toNat : Int)) (h2 : ((s.getD i 0).toNat : Int) ≤ 117) (hl : ¬ l.length = 4) : unfiveS M (s.drop i) l out =
  unfiveS M (s.drop (i + 1)) (l ++ [(s.getD i 0).toNat - 33]) out:=by rw [vx_dig hi hw h1 h2,if_neg hl]
theorem putO_len {out : Byt} {l : List Nat} {M : Nat} (h : putE out l M = 0) (hl : l.length ≤ 5) : (putO out l).length ≤ M:=by
 unfold putE at h
 split at h
 ·exact absurd h (by decide)
 ·split at h
  ·rename_i h2
   unfold putO
   rw [List.length_append,List.length_take]
   omega
  ·exact absurd h (by decide)
theorem dig_all {l : List Nat} {v : Nat} (h : ∀ x ∈ l,x ≤ 84) (hv : v ≤ 84) : ∀ x ∈ l ++ [v],x ≤ 84:=by
 intro x hx
 rcases List.mem_append.1 hx with q | q
 ·exact h x q
 ·rw [List.mem_singleton.1 q]; exact hv
theorem bv_nat (n : Nat) (h : n < 2 ^ 64) : (BitVec.ofInt 64 (n : Int)).toNat = n:=by
 rw [BitVec.toNat_ofInt]
 omega
theorem wrap64 (n : Nat) (h : n < 2 ^ 64) : IntKind.u64.wrap (n : Int) = n:=by
 show ((n : Int) % (2 ^ 64 : Int)) = n
 omega
theorem bor64 {x y k : Nat} (hx : 2 ^ k ∣ x) (hy : y < 2 ^ k) (h : x + y < 2 ^ 64) : bitOr .u64 (x : Int) (y : Int) = ((x + y : Nat) : Int):=by
 obtain ⟨a,rfl⟩:=hx
 unfold bitOr
 show IntKind.u64.wrap (((BitVec.ofInt 64 _ ||| BitVec.ofInt 64 _).toNat : Nat) : Int) = _
 rw [BitVec.toNat_or,bv_nat _ (by omega),bv_nat _ (by omega),Nat.mul_comm,← Nat.shiftLeft_eq,← Nat.shiftLeft_add_eq_or_of_lt hy,Nat.shiftLeft_eq,wrap64 _ (by rw [Nat.mul_comm]; exact h)]
theorem shl64 (x k : Nat) (hk : k ≤ 64) (h : x * 2 ^ k < 2 ^ 64) : bitShl .u64 (x : Int) (k : Int) = ((x * 2 ^ k : Nat) : Int):=by
 unfold bitShl
 rw [Int.toNat_natCast,show min k IntKind.u64.bits = k from Nat.min_eq_left hk]
 have:=wrap64 (x * 2 ^ k) h
 rw [← this]
 push_cast
 rfl
theorem grp_or (a b c d : UInt8) : bitOr .u64 (bitOr .u64 (bitOr .u64 (bitShl .u64 (a.toNat : Int) 24) (bitShl .u64 (b.toNat : Int) 16)) (bitShl .u64 (c.toNat : Int) 8)) (d.toNat : Int) = ((grp4 a b c d : Nat) : Int):=by
 have ha:=a.toNat_lt; have hb:=b.toNat_lt; have hc:=c.toNat_lt; have hd:=d.toNat_lt
 have e1:=shl64 a.toNat 24 (by decide) (by omega)
 have e2:=shl64 b.toNat 16 (by decide) (by omega)
 have e3:=shl64 c.toNat 8 (by decide) (by omega)
 rw [show ((24 : Nat) : Int) = 24 from rfl] at e1
 rw [show ((16 : Nat) : Int) = 16 from rfl] at e2
 rw [show ((8 : Nat) : Int) = 8 from rfl] at e3
 rw [e1,e2,e3,bor64 (k:=24) (Nat.dvd_mul_left ..) (by omega) (by omega),bor64 (k:=16) (by omega) (by omega) (by omega),bor64 (k:=8) (by omega) (by omega) (by omega)]
 exact Int.ofNat_inj.2 (by unfold grp4; omega)
theorem fiveB_app : ∀ (a b : Byt),a.length % 4 = 0 → fiveB (a ++ b) = fiveB a ++ fiveB b
 | [],b,_=>rfl
 | [_],_,h=>absurd h (by simp)
 | [_,_],_,h=>absurd h (by simp)
 | [_,_,_],_,h=>absurd h (by simp)
 | a :: b :: c :: d :: r,t,h=>by
  simp only [List.cons_append]
  rw [fiveB_grp,fiveB_grp,fiveB_app r t (by simp only [List.length_cons] at h; omega),List.append_assoc]
def chunkL (s : Byt) (k : Nat) : Byt:=(s.drop (k * 4)).take 4
theorem chunk_len (s : Byt) (k : Nat) : (chunkL s k).length = min 4 (s.length - k * 4):=by simp [chunkL]
theorem chunk_step (s : Byt) (k : Nat) (h : k * 4 < s.length) : fiveB (s.take ((k + 1) * 4)) = fiveB (s.take (k * 4)) ++ fiveB (chunkL s k):=by
 rw [show (k + 1) * 4 = k * 4 + 4 by omega,List.take_add,fiveB_app _ _ (by rw [List.length_take]; omega)]
 rfl
theorem chunk_take (s : Byt) (k : Nat) (h : k * 4 < s.length) : (s.take (k * 4 + min 4 (s.length - k * 4))).drop (k * 4) = chunkL s k:=by
 rw [chunkL,List.drop_take]
 by_cases q : 4 ≤ s.length - k * 4
 ·rw [Nat.min_eq_left q]
  congr 1
  omega
 ·rw [Nat.min_eq_right (by omega),List.take_of_length_le (l:=s.drop (k * 4)) (by rw [List.length_drop]; omega),List.take_of_length_le (by rw [List.length_drop]; omega)]
def chunksN (n : Nat) : Nat:=(n + 3) / 4
theorem chunks_more {n i : Nat} : i < chunksN n ↔ i * 4 < n:=by unfold chunksN; omega
theorem fiveB_bound (s : Byt) : (fiveB s).length ≤ 5 * ((s.length + 3) / 4):=fiveB_len s
theorem ch_cast {n k : Nat} (p : Nat) (hp : 85 ^ (4 - k) = p) : IntKind.u8.wrap (((33 + n / p % 85 : Nat)) : Int) = ((chF n k).toNat : Int):=by
 rw [wrapU8,chF,digF,hp]
end Aw

namespace Go.Proofs
open Go Aw
set_option linter.unusedSimpArgs false
set_option linter.unusedVariables false
set_option maxRecDepth 100000
set_option maxHeartbeats 4000000
attribute [local go_sem] List.length_append bldP
theorem eqs_four (a b c d : UInt8) : EqS Tryd.prog 56 (.agg [.int .u8 a.toNat,.int .u8 b.toNat,.int .u8 c.toNat,.int .u8 d.toNat]) (.agg [.int .u8 0,.int .u8 0,.int .u8 0,.int .u8 0]) (decide (grp4 a b c d = 0)):=by
 have hc : Tryd.prog.cellsOf 56 = 4:=by kernel_rfl
 have hi : Tryd.prog.cellsOf 5 = 1:=by kernel_rfl
 have w : ∀ c : UInt8,(Lit.int .u8 c.toNat).wf = true:=fun c=>u8_all (p:=fun c=>(Lit.int .u8 c.toNat).wf = true) (by decide +kernel) c
 have h:=EqS.of8 (P:=Tryd.prog) (t:=56) (l1:=[(a.toNat : Int),b.toNat,c.toNat,d.toNat]) (l2:=[0,0,0,0]) (by kernel_rfl) (by kernel_rfl)
  (fun l hl=>by simp [Value.formed,Tryd.underlying56,hc,hi,hl])
  (fun l hl hl2=>by
   obtain ⟨a,b,c,d,rfl⟩ : ∃ a b c d,l = [a,b,c,d]:=by
    match l,hl with
    | [a,b,c,d],_=>exact ⟨a,b,c,d,rfl⟩
   simp only [List.mem_cons,List.not_mem_nil,or_false,forall_eq_or_imp,forall_eq] at hl2
   obtain ⟨k1,k2,k3,k4⟩:=hl2
   simp [Program.keyLits,Tryd.underlying56,Tryd.underlying5,hc,hi,k1,k2,k3,k4,List.range_succ])
  rfl (by simp [w]) (by decide)
 have e : decide ([(a.toNat : Int),b.toNat,c.toNat,d.toNat] = [0,0,0,0]) = decide (grp4 a b c d = 0):=by
  congr 1
  unfold grp4
  simp only [List.cons.injEq,and_true,eq_iff_iff]
  omega
 rw [e] at h
 exact h
theorem h_chunk (gl : List (Nat × AV)) (l : List UInt8) : FnH Tryd.prog (gl) 38 [.sl (bytesAV l),.int .i64 4] ([]) 0 (fun r h n=>r = .ret (.clos 51 [.ptr 0 0,.ptr 1 0]) ∧ h = [(0,.cells [.sl (bytesAV l)]),(1,.cells [.int .i64 4])] ∧ n = 2):=by
 refine FnH.intro Tryd.func38 rfl rfl (by simp [Tryd.ntmps38]) ?_
 simp only [argEnv,Tryd.ntmps38,Tryd.results38]
 refine AW.rS ?_
 refine AW.trim [2,3] ?_
 refine AW.seq ?_
 refine AW.rS ?_
 refine AW.trim [2,3,6] ?_
 refine AW.c2 ?_ ?_
 ·intro h4
  refine AW.rLC ?_
  refine awOps.cons (awGuard.pn ?_)
  refine wk ?_
  all_goals first | contradiction | rfl | (simp; done) | (simp; omega)
 ·intro h4
  refine AW.skip ?_
  refine AW.rS ?_
  refine AW.trim [4] ?_
  refine AW.rt ?_
  all_goals first | contradiction | rfl | (simp; done) | (simp; omega)
abbrev cHp (s acc : List UInt8) (wr : Bool) (lp : ABlk) : List (Nat × ABlk):=[(0,.tc 52 [bldP wr 0,.row 4 0 acc.length]),(1,.cells [.sl (bytesAV s)]),(2,.cells [.int .i64 4]),(4,.brow 5 acc),(3,lp)]
theorem chunk_B (s : List UInt8) (S : Nat → List UInt8 × Bool) (lq : Nat) (rc : Option Code → Loop) {Ω : Mem → Prop} [LastsU Ω] (hl : s.length ≤ 16777216)
  (hY : ∀ k,k * 4 < s.length → RoundU Ω Tryd.prog GA lq [.sl (bytesAV (chunkL s k))] (cHp s (S k).1 (S k).2 (.lp lq (rc none))) 5 4 fun r h n=>r = .ret (.bool true) ∧ h = cHp s (S (k + 1)).1 (S (k + 1)).2 (.lp lq (rc none)) ∧ n = 5) :
  FnU Ω Tryd.prog GA 51 [.raw (.func (.yield lq) #[] #[]),.ptr 1 0,.ptr 2 0] (cHp s (S 0).1 (S 0).2 (.lp lq (rc none))) 5 4 fun r h n=>r = .ret (.tup []) ∧ h = cHp s (S (chunksN s.length)).1 (S (chunksN s.length)).2 (.lp lq (rc none)) ∧ n = 5:=by
 have hall:=bB_one s
 simp only [cHp] at hY ⊢
 refine FnU.intro Tryd.func51 rfl rfl (by simp [Tryd.ntmps51]) ?_ ?_
 ·rintro q hp' nx' ⟨h1,rfl,rfl⟩
  cases h1
  exact ⟨rfl,_,rfl,rfl⟩
 intro B_
 simp only [argEnv,Tryd.ntmps51,Tryd.results51]
 refine AWT.rS ?_
 refine AWT.block ?_
 refine AWT.lk (S:={ k : Nat // k ≤ chunksN s.length }) [0,1,2] (fun s_=>[(4,.int .i64 ((s_.1 * 4 : Nat) : Int))]) (fun s_=>[(0,.tc 52 [bldP (S s_.1).2 0,.row 4 0 (S s_.1).1.length]),(1,.cells [.sl (bytesAV s)]),(2,.cells [.int .i64 4]),(4,.brow 5 (S s_.1).1),(3,.lp lq (rc none))]) 5 (fun s_=>chunksN s.length - s_.1) ⟨0,Nat.zero_le _⟩ ?_ ?_
 ·exact St.le.vw [0,1,2,3,4] (hpre:=(by decide : ∀ i,i < 4 → nth [0,1,2,3,4] i = some i))
 rintro ⟨k,hk⟩
 try dsimp only at hk
 have hkm:=chunks_more (n:=s.length) (i:=k)
 have hpt:=chunk_take s k
 have hYk:=hY k
 obtain ⟨kf,hkf⟩ : ∃ kf,kf = k * 4:=⟨_,rfl⟩
 have hk1 : (k + 1) * 4 = kf + 4:=by omega
 rw [← hkf] at hkm hpt hYk
 show AWT _ _ _ _ _ ⟨_,appE _ [(4,.int .i64 ((k * 4 : Nat) : Int))],_,_,_,_,_⟩ _
 rw [← hkf]
 refine AWT.seq ?_
 refine AWT.rS ?_
 refine AWT.c2 ?_ ?_
 ·intro h6
  have hlt : kf < s.length:=by simpa [bB_len] using h6
  refine AWT.skip ?_
  refine AWT.seq ?_
  refine AWT.block ?_
  refine AWT.fS [0,1,2,3,4,5,6] [] ?_ (hQ:=by repeat (first | exact Aw.PI.finH | refine Aw.PI.unblock ?_ | refine Aw.PI.andThen ?_))
  refine awFun.rn ?_
  rw [Aw.awFun_nil,Aw.awPlan_nil]
  have hlen : (List.drop kf (bytesAV s)).length = s.length - kf:=by simp [bB_len]
  have hmin : min (4 : Int) ((s.length - kf : Nat) : Int) = ((min 4 (s.length - kf) : Nat) : Int):=by omega
  have hmle : min 4 (s.length - kf) ≤ s.length - kf:=Nat.min_le_right _ _
  have hmf : min 4 (s.length - kf) ≤ 4:=Nat.min_le_left _ _
  have hcl : bytesAV (chunkL s k) = ((bytesAV s).take (kf + min 4 (s.length - kf))).drop kf:=by rw [← hpt hlt,bytesAV,bytesAV,List.map_drop,List.map_take]
  rw [hlen,hmin]
  generalize min 4 (s.length - kf) = e at *
  have ht1 : ((kf : Int) + (e : Int)).toNat = kf + e:=by omega
  have ht2 : ((kf : Int)).toNat = kf:=by omega
  refine AWT.rSC ?_
  refine OpsT.cs (awGuard.s3c (es:=bytesAV s) (l:=(kf : Int)) (h:=(kf : Int) + (e : Int)) (k:=(kf : Int) + (e : Int)) ⟨by omega,by omega,by omega,by rw [bB_len]; omega⟩ hall ?_)
  rw [ht1,ht2,← hcl]
  refine OpsT.cYU [0,1,2,3,4] (hYk hlt) ?_
  refine OpsT.rn ?_
  refine OpsT.nil ?_
  refine AWT.c2 ?_ ?_
  ·intro h13
   simp at h13
  ·intro h13
   refine AWT.skip ?_
   simp only [andThen,unblock]
   refine AWT.rL ?_
   refine ⟨⟨k + 1,by omega⟩,?_,?_⟩
   ·refine St.le.vw [0,1,2,3,5] (hpre:=(by decide : ∀ i,i < 4 → nth [0,1,2,3,5] i = some i)) (henv:=by (try dsimp only) <;> (try rw [hk1]) <;> (try simp only [go_sem,seval]) <;> (try (and_intros <;> first | exact Less.refl _ | trivial | (refine Less.int ?_; omega) | (refine Less.of_eq ?_; simp; done))))
   ·simp only []; omega
 ·intro h6
  refine AWT.exit ?_
  simp only [andThen,unblock,if_true]
  refine wk ?_
  have hke : k = chunksN s.length:=by omega
  rw [← hke]
end Go.Proofs
