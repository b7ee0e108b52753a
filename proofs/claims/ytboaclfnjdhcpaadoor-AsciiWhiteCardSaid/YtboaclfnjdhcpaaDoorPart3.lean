/- A part of the proof: no condition of its own. -/
import Derived.Test.YtboaclfnjdhcpaaDoorPart2
namespace Go.Proofs
open Go Aw
set_option linter.unusedSimpArgs false
set_option linter.unusedVariables false
set_option maxRecDepth 100000
set_option maxHeartbeats 4000000
attribute [local go_sem] bytesOf_bytesAV
def rowC (A : List UInt8) (c : UInt8) (B : List UInt8) : List (List AV):=bytesAV A ++ [AV.int .u8 (c.toNat : Int)] :: bytesAV B
theorem rowC_of (A : List UInt8) (c : UInt8) (B : List UInt8) : bytesAV (A ++ c :: B) = rowC A c B:=by simp [rowC,bytesAV]
theorem rowC_getD (A : List UInt8) (c : UInt8) (B : List UInt8) : (rowC A c B).getD A.length [] = [AV.int .u8 (c.toNat : Int)]:=by
 unfold rowC
 rw [List.getD_eq_getElem?_getD,List.getElem?_append_right (by simp [bytesAV])]
 simp [bytesAV]
theorem rowC_len (A : List UInt8) (c : UInt8) (B : List UInt8) : (rowC A c B).length = A.length + (B.length + 1):=by simp [rowC,bytesAV]
theorem rowC_set (A : List UInt8) (c : UInt8) (B : List UInt8) (d : UInt8) : (rowC A c B).set A.length [AV.int .u8 (d.toNat : Int)] = rowC A d B:=by
 unfold rowC
 rw [List.set_append_right _ _ (by simp [bytesAV])]
 simp [bytesAV]
attribute [local go_sem] rowC_getD rowC_len
theorem wq1 (s : List UInt8) (i : Nat) {w : UInt8} (hw : whiteC w = true) (h : s.length ≤ 3000) : FnP Tryd.prog GA 8 [.str ((hexE s).take i ++ [w] ++ (hexE s).drop i),.int .i64 s.length] fun r=>r = .ret (.tup [.str s,.int .i64 0]):=by
 have q:=c_ascii_Unhex GA ((hexE s).take i ++ [w] ++ (hexE s).drop i) s.length (by have:=hexE_len s; simp; omega)
 rw [wh_hex s i hw (by omega)] at q
 exact q
theorem wq2 (s : List UInt8) (i : Nat) {w : UInt8} (hw : whiteC w = true) (h : s.length ≤ 3000) (hi : i + 2 ≤ (fiveE s).length) : FnP Tryd.prog GA 10 [.str ((fiveE s).take i ++ [w] ++ (fiveE s).drop i),.int .i64 s.length] fun r=>r = .ret (.tup [.str s,.int .i64 0]):=by
 have q:=c_ascii_Unfive ((fiveE s).take i ++ [w] ++ (fiveE s).drop i) s.length (by have:=fiveE_len s; simp; omega)
 rw [wh_five s i hw (by omega) hi] at q
 exact q
theorem wq3 (s : List UInt8) (i : Nat) (h : s.length ≤ 3000) : FnP Tryd.prog GA 8 [.str ((hexE s).take i ++ ((hexE s).drop i).map lowC),.int .i64 s.length] fun r=>r = .ret (.tup [.str s,.int .i64 0]):=by
 have q:=c_ascii_Unhex GA ((hexE s).take i ++ ((hexE s).drop i).map lowC) s.length (by have:=hexE_len s; simp; omega)
 rw [wh_low s i (by omega)] at q
 exact q
theorem c_law_AsciiWhite (s : List UInt8) (at_ which : Int) : FnP Tryd.prog (GA) 5 [.str s,.int .i64 at_,.int .i64 which] fun r=>r = .ret (.bool true):=by
 refine FnP.intro Tryd.func5 rfl rfl (by simp [Tryd.ntmps5]) ?_
 simp only [argEnv,Tryd.ntmps5,Tryd.results5]
 have hhl:=hexE_len s
 have hfl:=fiveE_len s
 have hf2:=fiveE_two s
 refine AW.rS ?_
 refine AW.seq ?_
 refine AW.rSC ?_
 refine awOps.cons (awGuard.c1 (c_foliantlaw14_lives) ?_)
 refine awOps.rn ?_
 refine AW.c2 ?_ ?_
 ·intro h6
  refine AW.rS ?_
  refine AW.rt ?_
  all_goals first | contradiction | rfl | (simp; done) | (simp; omega)
 ·intro h6
  refine AW.skip ?_
  refine AW.seq ?_
  refine AW.rS ?_
  refine AW.c2 ?_ ?_
  ·intro h13
   refine AW.rS ?_
   refine AW.rt ?_
   all_goals first | contradiction | rfl | (simp; done) | (simp; omega)
  ·intro h13
   refine AW.skip ?_
   refine AW.rS ?_
   refine AW.rSC ?_
   refine awOps.cons (awGuard.c1 (c_ascii_Hex _ s) ?_)
   refine awOps.rn ?_
   refine awOps.cons (awGuard.c1 (c_ascii_Five s (by omega)) ?_)
   refine awOps.rn ?_
   refine AW.dS [(0,0),(1,0),(2,1),(3,0),(4,0),(5,0),(6,1),(7,0),(8,0),(9,0),(10,0)] ?_
   obtain ⟨i,hi,hil⟩ : ∃ i : Nat,at_ % ((hexE s).length : Int) = (i : Int) ∧ i < (hexE s).length:=by
    have a:=Int.emod_nonneg at_ (show ((hexE s).length : Int) ≠ 0 by omega)
    have b:=Int.emod_lt_of_pos at_ (show (0 : Int) < ((hexE s).length : Int) by omega)
    exact ⟨(at_ % ((hexE s).length : Int)).toNat,by omega,by omega⟩
   obtain ⟨j,hj,hjl⟩ : ∃ j : Nat,at_ % (((fiveE s).length : Int) - 1) = (j : Int) ∧ j + 1 < (fiveE s).length:=by
    have a:=Int.emod_nonneg at_ (show ((fiveE s).length : Int) - 1 ≠ 0 by omega)
    have b:=Int.emod_lt_of_pos at_ (show (0 : Int) < ((fiveE s).length : Int) - 1 by omega)
    exact ⟨(at_ % (((fiveE s).length : Int) - 1)).toNat,by omega,by omega⟩
   obtain ⟨w,hw0,hw⟩ : ∃ w,(([0,9,10,12,13,32] : List UInt8).take (which + 1).toNat).drop which.toNat = [w] ∧ whiteC w = true:=by
    obtain ⟨w,h1,h2⟩:=white_at which.toNat (by omega)
    refine ⟨w,?_,h2⟩
    rw [← h1,List.drop_take]
    congr 1
    omega
   rw [hi,hj,hw0]
   have htl : ((hexE s).take i).length = i:=by rw [List.length_take]; omega
   have hdl : ((hexE s).drop i).length = (hexE s).length - i:=by rw [List.length_drop]
   have htl2 : ((fiveE s).take j).length = j:=by rw [List.length_take]; omega
   have hdl2 : ((fiveE s).drop j).length = (fiveE s).length - j:=by rw [List.length_drop]
   refine AW.dSC [(0,0),(1,0),(2,0),(3,0),(4,0),(5,0),(6,0),(7,0),(8,0),(9,0),(10,1),(11,2),(12,0),(13,0),(14,0),(15,0),(16,0)] ?_
   refine awPlan.only rfl ?_
   refine awGuard.c1 (wq1 s i hw (by omega)) ?_
   refine awPlan.rn ?_
   refine AW.dSC [(0,0),(1,0),(2,0),(3,0),(4,0),(5,0),(6,0),(7,0),(8,0),(9,0),(10,1),(11,2),(12,0),(13,0),(14,0),(15,0),(16,0)] ?_
   refine awPlan.only rfl ?_
   refine awGuard.c1 (wq2 s j hw (by omega) (by omega)) ?_
   refine awPlan.rn ?_
   refine AW.rSC ?_
   refine awOps.cons ?_
   refine awGuard.cvM  ?_
   refine awOps.rn ?_
   refine AW.seq ?_
   refine AW.rS ?_
   refine AW.block ?_
   refine AW.lk (S:={ k : Nat // i + k ≤ (hexE s).length }) [0,12,13,14,15,16] (fun s_=>[(17,.int .i64 ((i + s_.1 : Nat) : Int))]) (fun s_=>[(0,.mrow 1 (bytesAV (lowK (hexE s) i s_.1)))]) 1 (fun s_=>(hexE s).length - (i + s_.1)) ⟨0,by omega⟩ ?_ ?_
   ·refine St.le.vx [0] ?_
    rw [lowK_0]
   rintro ⟨k,hk⟩
   try dsimp only at hk
   refine AW.seq ?_
   refine AW.rS ?_
   refine AW.c2 ?_ ?_
   ·intro h40
    refine AW.skip ?_
    refine AW.seq ?_
    have hk40 : i + k < (hexE s).length:=by omega
    obtain ⟨A,B,hA,hAl,hA2⟩:=lowK_cut (hexE s) i k hk40
    have hAB : A.length + (B.length + 1) = (hexE s).length:=by have:=lowK_len (hexE s) i k hk; rw [hA] at this; simpa using this
    generalize (hexE s).getD (i + k) 0 = c at *
    have hcb:=u8_le c
    rw [hA,rowC_of,← hAl]
    refine AW.block ?_
    refine AW.rS ?_
    refine AW.c2 ?_ ?_
    ·intro h45
     refine AW.rL ?_
     refine AW.rL ?_
     refine ⟨⟨k + 1,by omega⟩,?_,?_⟩
     ·rw [hA2,rowC_of,← lowC_yes (c:=c) (by omega) (by omega),rowC_set]; refine St.le.vw [0]
     ·simp only []; omega
    ·intro h45
     refine AW.skip ?_
     refine AW.rL ?_
     refine ⟨⟨k + 1,by omega⟩,?_,?_⟩
     ·rw [hA2,lowC_no (by omega),rowC_of]; refine St.le.vw [0]
     ·simp only []; omega
   ·intro h40
    refine AW.exit ?_
    have hkk : (hexE s).length ≤ i + k:=by omega
    have hLl : (hexE s).length = ((hexE s).take i ++ ((hexE s).drop i).map lowC).length:=by simp; omega
    have hq3:=wq3 s i (by omega)
    have hLk:=lowK_all (hexE s) i k hkk
    generalize (hexE s).take i ++ ((hexE s).drop i).map lowC = L at *
    refine AW.vw [0] [(0,.str s),(12,.str s),(13,.int .i64 0),(14,.str s),(15,.int .i64 0),(16,.row 0 0 L.length)] [(0,.mrow 1 (bytesAV L))] (henv:=?e53) (hhp:=?h53) ?_
    case e53=>rw [hLl]; simp [go_sem]; repeat (first | exact Less.refl _ | refine ⟨Less.refl _,?_⟩)
    case h53=>rw [hLk]; simp [go_sem]
    refine AW.rSC ?_
    refine awOps.cons (awGuard.c1 (hq3) ?_)
    refine awOps.rn ?_
    refine AW.rS ?_
    refine AW.rt ?_
    all_goals first | contradiction | rfl | (simp; done) | (simp; omega)
end Go.Proofs
