/- A part of the proof: no condition of its own. -/
import Derived.Test.YtboaclfnjdhcpaaDoorPart1
import Derived.JoinedCond
import Derived.WalkKit
import Derived.ProofKit
import Derived.OpenShut
import Derived.Deep.DeepHandedRow
import Derived.Lib.LaidTab
import Derived.Test.YtboaclfnjdhcpaaDoorCards
import Derived.Test.YtboaclfnjdhcpaaDoorTie
namespace Aw
def GA : List (Nat × AV):=[(0,.cptr [.int .u64 52200625,.int .u64 614125,.int .u64 7225,.int .u64 85,.int .u64 1])]
end Aw
namespace Go.Proofs
open Go Aw
set_option linter.unusedSimpArgs false
set_option linter.unusedVariables false
set_option maxRecDepth 100000
set_option maxHeartbeats 4000000
attribute [local irreducible] val5
attribute [local go_sem] bytesAV_append List.length_append b4_0 b4_1 b4_2 wrapU8 GA
theorem h_gput2 (x0 x1 : Nat) (h0 : x0 ≤ 84) (h1 : x1 ≤ 84) (out : List UInt8) (M : Nat) (h : out.length ≤ 16777216) : FnK Tryd.prog (GA) 29 [.ptr 0 0,.ptr 1 0] ([(0,.tc 41 [.int .u8 x0,.int .u8 x1,.int .u8 0,.int .u8 0,.int .u8 0,.int .i64 2]),(1,.cells [.row 2 0 out.length,.int .i64 M]),(2,.row 1 (bytesAV out) true)]) 3 2 (fun r h n=>((putE out [x0,x1] M = 0) ∧ r = .ret (.tup []) ∧ h = [(0,.tc 41 [.int .u8 0,.int .u8 0,.int .u8 0,.int .u8 0,.int .u8 0,.int .i64 0]),(1,.cells [.row 2 0 (putO out [x0,x1]).length,.int .i64 M]),(2,.row 1 (bytesAV (putO out [x0,x1])) true)] ∧ n = 3) ∨ (¬ (putE out [x0,x1] M = 0) ∧ r = .panic (.iface 70 (.agg [.int .i64 (putE out [x0,x1] M)])) ∧ 2 ≤ n)):=by
 refine FnK.intro Tryd.func29 rfl rfl (by simp [Tryd.ntmps29]) ?_
 simp only [argEnv,Tryd.ntmps29,Tryd.results29]
 have hv : val5 [x0,x1] = x0 * 52200625 + x1 * 614125 + 84 * 7225 + 84 * 85 + 84 * 1:=by unfold val5; simp only [List.getD_cons_zero,List.getD_cons_succ,List.getD_nil]; omega
 have hln : ((bytes4 (val5 [x0,x1])).take 1).length = 1:=rfl
 refine AW.seq ?_
 refine AW.rS ?_
 refine AW.trim [0,1,4] ?_
 refine AW.block ?_
 refine AW.un 3 ?_
 refine AW.seq ?_
 refine AW.rS ?_
 refine AW.trim [0,1,4,14] ?_
 refine AW.c2 ?_ ?_
 ·intro h7
  refine AW.skip ?_
  refine AW.seq ?_
  refine AW.block ?_
  refine AW.rL ?_
  refine AW.rL ?_
  refine AWR.s ?_
  refine AW.seq ?_
  refine AW.rS ?_
  refine AW.trim [0,1,4,14] ?_
  refine AW.c2 ?_ ?_
  ·intro h16
   refine AW.skip ?_
   refine AW.seq ?_
   refine AW.block ?_
   refine AW.rL ?_
   refine AW.rL ?_
   refine AWR.s ?_
   refine AW.seq ?_
   refine AW.rS ?_
   refine AW.trim [0,1,4,14] ?_
   refine AW.c2 ?_ ?_
   ·intro h25
    refine AW.skip ?_
    refine AW.seq ?_
    refine AW.block ?_
    refine AW.rL ?_
    refine AW.rL ?_
    refine AWR.s ?_
    refine AW.seq ?_
    refine AW.rS ?_
    refine AW.trim [0,1,4,14] ?_
    refine AW.c2 ?_ ?_
    ·intro h34
     first | contradiction | (simp at h34; done) | (exfalso; omega) | (exfalso; revert h34; decide)
    ·intro h34
     refine AW.exit ?_
     refine AW.rS ?_
     refine AW.trim [0,1,5] ?_
     refine AW.seq ?_
     refine AW.rS ?_
     refine AW.trim [0,1,5,22,23] ?_
     refine AW.block ?_
     refine AW.un 5 ?_
     refine AW.rS ?_
     refine AW.trim [0,1,5,22,23,24] ?_
     refine AW.seq ?_
     refine AW.c2 ?_ ?_
     ·intro h43
      refine AW.skip ?_
      refine AW.seq ?_
      refine AW.block ?_
      refine AW.rS ?_
      refine AW.trim [0,1,5,6,7,22,23] ?_
      refine AW.rL ?_
      refine AW.rL ?_
      refine AWR.s ?_
      refine AW.rS ?_
      refine AW.trim [0,1,5,22,23,24] ?_
      refine AW.seq ?_
      refine AW.c2 ?_ ?_
      ·intro h53
       refine AW.skip ?_
       refine AW.seq ?_
       refine AW.block ?_
       refine AW.rS ?_
       refine AW.trim [0,1,5,6,7,22,23] ?_
       refine AW.rL ?_
       refine AW.rL ?_
       refine AWR.s ?_
       refine AW.rS ?_
       refine AW.trim [0,1,5,22,23,24] ?_
       refine AW.seq ?_
       refine AW.c2 ?_ ?_
       ·intro h63
        refine AW.skip ?_
        refine AW.seq ?_
        refine AW.block ?_
        refine AW.rS ?_
        refine AW.trim [0,1,5,6,7,22,23] ?_
        refine AW.rL ?_
        refine AW.rL ?_
        refine AWR.s ?_
        refine AW.rS ?_
        refine AW.trim [0,1,5,22,23,24] ?_
        refine AW.seq ?_
        refine AW.c2 ?_ ?_
        ·intro h73
         refine AW.skip ?_
         refine AW.seq ?_
         refine AW.block ?_
         refine AW.rS ?_
         refine AW.trim [0,1,5,6,7,22,23] ?_
         refine AW.rL ?_
         refine AW.rL ?_
         refine AWR.s ?_
         refine AW.rS ?_
         refine AW.trim [0,1,5,22,23,24] ?_
         refine AW.seq ?_
         refine AW.c2 ?_ ?_
         ·intro h83
          refine AW.skip ?_
          refine AW.seq ?_
          refine AW.block ?_
          refine AW.rS ?_
          refine AW.trim [0,1,5,6,7,22,23] ?_
          refine AW.rL ?_
          refine AW.rL ?_
          refine AWR.s ?_
          refine AW.rS ?_
          refine AW.trim [0,1,5,22,23,24] ?_
          refine AW.seq ?_
          refine AW.c2 ?_ ?_
          ·intro h93
           first | contradiction | (simp at h93; done) | (exfalso; omega) | (exfalso; revert h93; decide)
          ·intro h93
           refine AW.exit ?_
           refine AW.rSC ?_
           refine awOps.cons (awGuard.cM (c_ascii_need _ _ 3) ?_ ?_)
           ·intro hp96
            refine wk ?_
            rw [putE_form (by omega)]
            first | exact .inr ⟨by decide,rfl,by omega⟩ | (simp; done) | (simp; omega)
           intro hm96
           refine awOps.rn ?_
           refine AW.trim [0,1,5] ?_
           refine AW.vw [0,1,2] [(0,.ptr 0 0),(1,.ptr 1 0),(5,.int .u64 ((val5 [x0,x1] : Nat) : Int))] [(0,.tc 41 [.int .u8 x0,.int .u8 x1,.int .u8 84,.int .u8 84,.int .u8 84,.int .i64 2]),(1,.cells [.row 2 0 out.length,.int .i64 M]),(2,.row 1 (bytesAV out) true)] ?_ (henv:=by (simp only [go_sem,seval]; iterate 2 try (simp (disch:=omega) only [zq]; try simp only [go_sem,seval])); exact ⟨Less.refl _,Less.refl _,Less.int (by omega)⟩)
           refine AW.rS ?_
           refine AW.trim [0,1,8] ?_
           refine AW.pre (St.le.untc 3 rfl) ?_
           refine AW.cf 8 3 ?_
           refine AW.rSC ?_
           refine awOps.cons ?_
           refine awGuard.slC ?_ ?_
           ·exact ⟨by decide,by decide⟩
           refine awOps.rn ?_
           refine awOps.cons (awGuard.cKM 1 [1,2] (h_put_s GA out ((bytes4 (val5 [x0,x1])).take 1) M h (by rw [hln]; decide)) ?_ ?_)
           ·intro hp102 n102 hn102
            refine wk ?_
            rw [putE_long (by omega) (by rw [hln] at hp102; exact hp102)]
            first | exact .inr ⟨by decide,rfl,by omega⟩ | (simp; done) | (simp; omega)
           intro hm102
           refine awOps.rn ?_
           refine AW.trim [0] ?_
           refine AW.fin2 ?_
           refine AW.rL ?_
           refine ⟨.inl rfl,⟨65,[],[(0,.tc 41 [.int .u8 0,.int .u8 0,.int .u8 0,.int .u8 0,.int .u8 0,.int .i64 0]),(1,.cells [.row 2 0 (out ++ (bytes4 (val5 [x0,x1])).take 1).length,.int .i64 M]),(2,.row 1 (bytesAV (out ++ (bytes4 (val5 [x0,x1])).take 1)) true)],3,GA,2,[]⟩,St.le.vw [0,1,4] (hpre:=by intro i hi; dsimp only at hi; rcases i with _ | _ | i; rfl; rfl; omega),?_⟩
           refine wk ?_
           rw [putE_ok (by omega) (by rw [hln] at hm102; exact hm102)]
           have e9 : putO out [x0,x1] = out ++ (bytes4 (val5 [x0,x1])).take 1:=rfl
           rw [e9,List.length_append]
           generalize (bytes4 (val5 [x0,x1])).take 1 = q9
           simp
         ·intro h83
          first | contradiction | (simp at h83; done) | (exfalso; omega) | (exfalso; revert h83; decide)
        ·intro h73
         first | contradiction | (simp at h73; done) | (exfalso; omega) | (exfalso; revert h73; decide)
       ·intro h63
        first | contradiction | (simp at h63; done) | (exfalso; omega) | (exfalso; revert h63; decide)
      ·intro h53
       first | contradiction | (simp at h53; done) | (exfalso; omega) | (exfalso; revert h53; decide)
     ·intro h43
      first | contradiction | (simp at h43; done) | (exfalso; omega) | (exfalso; revert h43; decide)
   ·intro h25
    first | contradiction | (simp at h25; done) | (exfalso; omega) | (exfalso; revert h25; decide)
  ·intro h16
   first | contradiction | (simp at h16; done) | (exfalso; omega) | (exfalso; revert h16; decide)
 ·intro h7
  first | contradiction | (simp at h7; done) | (exfalso; omega) | (exfalso; revert h7; decide)
theorem h_gput3 (x0 x1 x2 : Nat) (h0 : x0 ≤ 84) (h1 : x1 ≤ 84) (h2 : x2 ≤ 84) (out : List UInt8) (M : Nat) (h : out.length ≤ 16777216) : FnK Tryd.prog (GA) 29 [.ptr 0 0,.ptr 1 0] ([(0,.tc 41 [.int .u8 x0,.int .u8 x1,.int .u8 x2,.int .u8 0,.int .u8 0,.int .i64 3]),(1,.cells [.row 2 0 out.length,.int .i64 M]),(2,.row 1 (bytesAV out) true)]) 3 2 (fun r h n=>((putE out [x0,x1,x2] M = 0) ∧ r = .ret (.tup []) ∧ h = [(0,.tc 41 [.int .u8 0,.int .u8 0,.int .u8 0,.int .u8 0,.int .u8 0,.int .i64 0]),(1,.cells [.row 2 0 (putO out [x0,x1,x2]).length,.int .i64 M]),(2,.row 1 (bytesAV (putO out [x0,x1,x2])) true)] ∧ n = 3) ∨ (¬ (putE out [x0,x1,x2] M = 0) ∧ r = .panic (.iface 70 (.agg [.int .i64 (putE out [x0,x1,x2] M)])) ∧ 2 ≤ n)):=by
 refine FnK.intro Tryd.func29 rfl rfl (by simp [Tryd.ntmps29]) ?_
 simp only [argEnv,Tryd.ntmps29,Tryd.results29]
 have hv : val5 [x0,x1,x2] = x0 * 52200625 + x1 * 614125 + x2 * 7225 + 84 * 85 + 84 * 1:=by unfold val5; simp only [List.getD_cons_zero,List.getD_cons_succ,List.getD_nil]; omega
 have hln : ((bytes4 (val5 [x0,x1,x2])).take 2).length = 2:=rfl
 refine AW.seq ?_
 refine AW.rS ?_
 refine AW.trim [0,1,4] ?_
 refine AW.block ?_
 refine AW.un 2 ?_
 refine AW.seq ?_
 refine AW.rS ?_
 refine AW.trim [0,1,4,14] ?_
 refine AW.c2 ?_ ?_
 ·intro h7
  refine AW.skip ?_
  refine AW.seq ?_
  refine AW.block ?_
  refine AW.rL ?_
  refine AW.rL ?_
  refine AWR.s ?_
  refine AW.seq ?_
  refine AW.rS ?_
  refine AW.trim [0,1,4,14] ?_
  refine AW.c2 ?_ ?_
  ·intro h16
   refine AW.skip ?_
   refine AW.seq ?_
   refine AW.block ?_
   refine AW.rL ?_
   refine AW.rL ?_
   refine AWR.s ?_
   refine AW.seq ?_
   refine AW.rS ?_
   refine AW.trim [0,1,4,14] ?_
   refine AW.c2 ?_ ?_
   ·intro h25
    first | contradiction | (simp at h25; done) | (exfalso; omega) | (exfalso; revert h25; decide)
   ·intro h25
    refine AW.exit ?_
    refine AW.rS ?_
    refine AW.trim [0,1,5] ?_
    refine AW.seq ?_
    refine AW.rS ?_
    refine AW.trim [0,1,5,22,23] ?_
    refine AW.block ?_
    refine AW.un 5 ?_
    refine AW.rS ?_
    refine AW.trim [0,1,5,22,23,24] ?_
    refine AW.seq ?_
    refine AW.c2 ?_ ?_
    ·intro h34
     refine AW.skip ?_
     refine AW.seq ?_
     refine AW.block ?_
     refine AW.rS ?_
     refine AW.trim [0,1,5,6,7,22,23] ?_
     refine AW.rL ?_
     refine AW.rL ?_
     refine AWR.s ?_
     refine AW.rS ?_
     refine AW.trim [0,1,5,22,23,24] ?_
     refine AW.seq ?_
     refine AW.c2 ?_ ?_
     ·intro h44
      refine AW.skip ?_
      refine AW.seq ?_
      refine AW.block ?_
      refine AW.rS ?_
      refine AW.trim [0,1,5,6,7,22,23] ?_
      refine AW.rL ?_
      refine AW.rL ?_
      refine AWR.s ?_
      refine AW.rS ?_
      refine AW.trim [0,1,5,22,23,24] ?_
      refine AW.seq ?_
      refine AW.c2 ?_ ?_
      ·intro h54
       refine AW.skip ?_
       refine AW.seq ?_
       refine AW.block ?_
       refine AW.rS ?_
       refine AW.trim [0,1,5,6,7,22,23] ?_
       refine AW.rL ?_
       refine AW.rL ?_
       refine AWR.s ?_
       refine AW.rS ?_
       refine AW.trim [0,1,5,22,23,24] ?_
       refine AW.seq ?_
       refine AW.c2 ?_ ?_
       ·intro h64
        refine AW.skip ?_
        refine AW.seq ?_
        refine AW.block ?_
        refine AW.rS ?_
        refine AW.trim [0,1,5,6,7,22,23] ?_
        refine AW.rL ?_
        refine AW.rL ?_
        refine AWR.s ?_
        refine AW.rS ?_
        refine AW.trim [0,1,5,22,23,24] ?_
        refine AW.seq ?_
        refine AW.c2 ?_ ?_
        ·intro h74
         refine AW.skip ?_
         refine AW.seq ?_
         refine AW.block ?_
         refine AW.rS ?_
         refine AW.trim [0,1,5,6,7,22,23] ?_
         refine AW.rL ?_
         refine AW.rL ?_
         refine AWR.s ?_
         refine AW.rS ?_
         refine AW.trim [0,1,5,22,23,24] ?_
         refine AW.seq ?_
         refine AW.c2 ?_ ?_
         ·intro h84
          first | contradiction | (simp at h84; done) | (exfalso; omega) | (exfalso; revert h84; decide)
         ·intro h84
          refine AW.exit ?_
          refine AW.rSC ?_
          refine awOps.cons (awGuard.cM (c_ascii_need _ _ 3) ?_ ?_)
          ·intro hp87
           refine wk ?_
           rw [putE_form (by omega)]
           first | exact .inr ⟨by decide,rfl,by omega⟩ | (simp; done) | (simp; omega)
          intro hm87
          refine awOps.rn ?_
          refine AW.trim [0,1,5] ?_
          refine AW.vw [0,1,2] [(0,.ptr 0 0),(1,.ptr 1 0),(5,.int .u64 ((val5 [x0,x1,x2] : Nat) : Int))] [(0,.tc 41 [.int .u8 x0,.int .u8 x1,.int .u8 x2,.int .u8 84,.int .u8 84,.int .i64 3]),(1,.cells [.row 2 0 out.length,.int .i64 M]),(2,.row 1 (bytesAV out) true)] ?_ (henv:=by (simp only [go_sem,seval]; iterate 2 try (simp (disch:=omega) only [zq]; try simp only [go_sem,seval])); exact ⟨Less.refl _,Less.refl _,Less.int (by omega)⟩)
          refine AW.rS ?_
          refine AW.trim [0,1,8] ?_
          refine AW.pre (St.le.untc 3 rfl) ?_
          refine AW.cf 8 3 ?_
          refine AW.rSC ?_
          refine awOps.cons ?_
          refine awGuard.slC ?_ ?_
          ·exact ⟨by decide,by decide⟩
          refine awOps.rn ?_
          refine awOps.cons (awGuard.cKM 1 [1,2] (h_put_s GA out ((bytes4 (val5 [x0,x1,x2])).take 2) M h (by rw [hln]; decide)) ?_ ?_)
          ·intro hp93 n93 hn93
           refine wk ?_
           rw [putE_long (by omega) (by rw [hln] at hp93; exact hp93)]
           first | exact .inr ⟨by decide,rfl,by omega⟩ | (simp; done) | (simp; omega)
          intro hm93
          refine awOps.rn ?_
          refine AW.trim [0] ?_
          refine AW.fin2 ?_
          refine AW.rL ?_
          refine ⟨.inl rfl,⟨65,[],[(0,.tc 41 [.int .u8 0,.int .u8 0,.int .u8 0,.int .u8 0,.int .u8 0,.int .i64 0]),(1,.cells [.row 2 0 (out ++ (bytes4 (val5 [x0,x1,x2])).take 2).length,.int .i64 M]),(2,.row 1 (bytesAV (out ++ (bytes4 (val5 [x0,x1,x2])).take 2)) true)],3,GA,2,[]⟩,St.le.vw [0,1,4] (hpre:=by intro i hi; dsimp only at hi; rcases i with _ | _ | i; rfl; rfl; omega),?_⟩
          refine wk ?_
          rw [putE_ok (by omega) (by rw [hln] at hm93; exact hm93)]
          have e9 : putO out [x0,x1,x2] = out ++ (bytes4 (val5 [x0,x1,x2])).take 2:=rfl
          rw [e9,List.length_append]
          generalize (bytes4 (val5 [x0,x1,x2])).take 2 = q9
          simp
        ·intro h74
         first | contradiction | (simp at h74; done) | (exfalso; omega) | (exfalso; revert h74; decide)
       ·intro h64
        first | contradiction | (simp at h64; done) | (exfalso; omega) | (exfalso; revert h64; decide)
      ·intro h54
       first | contradiction | (simp at h54; done) | (exfalso; omega) | (exfalso; revert h54; decide)
     ·intro h44
      first | contradiction | (simp at h44; done) | (exfalso; omega) | (exfalso; revert h44; decide)
    ·intro h34
     first | contradiction | (simp at h34; done) | (exfalso; omega) | (exfalso; revert h34; decide)
  ·intro h16
   first | contradiction | (simp at h16; done) | (exfalso; omega) | (exfalso; revert h16; decide)
 ·intro h7
  first | contradiction | (simp at h7; done) | (exfalso; omega) | (exfalso; revert h7; decide)
theorem h_gput4 (x0 x1 x2 x3 : Nat) (h0 : x0 ≤ 84) (h1 : x1 ≤ 84) (h2 : x2 ≤ 84) (h3 : x3 ≤ 84) (out : List UInt8) (M : Nat) (h : out.length ≤ 16777216) : FnK Tryd.prog (GA) 29 [.ptr 0 0,.ptr 1 0] ([(0,.tc 41 [.int .u8 x0,.int .u8 x1,.int .u8 x2,.int .u8 x3,.int .u8 0,.int .i64 4]),(1,.cells [.row 2 0 out.length,.int .i64 M]),(2,.row 1 (bytesAV out) true)]) 3 2 (fun r h n=>((putE out [x0,x1,x2,x3] M = 0) ∧ r = .ret (.tup []) ∧ h = [(0,.tc 41 [.int .u8 0,.int .u8 0,.int .u8 0,.int .u8 0,.int .u8 0,.int .i64 0]),(1,.cells [.row 2 0 (putO out [x0,x1,x2,x3]).length,.int .i64 M]),(2,.row 1 (bytesAV (putO out [x0,x1,x2,x3])) true)] ∧ n = 3) ∨ (¬ (putE out [x0,x1,x2,x3] M = 0) ∧ r = .panic (.iface 70 (.agg [.int .i64 (putE out [x0,x1,x2,x3] M)])) ∧ 2 ≤ n)):=by
 refine FnK.intro Tryd.func29 rfl rfl (by simp [Tryd.ntmps29]) ?_
 simp only [argEnv,Tryd.ntmps29,Tryd.results29]
 have hv : val5 [x0,x1,x2,x3] = x0 * 52200625 + x1 * 614125 + x2 * 7225 + x3 * 85 + 84 * 1:=by unfold val5; simp only [List.getD_cons_zero,List.getD_cons_succ,List.getD_nil]; omega
 have hln : ((bytes4 (val5 [x0,x1,x2,x3])).take 3).length = 3:=rfl
 refine AW.seq ?_
 refine AW.rS ?_
 refine AW.trim [0,1,4] ?_
 refine AW.block ?_
 refine AW.un 1 ?_
 refine AW.seq ?_
 refine AW.rS ?_
 refine AW.trim [0,1,4,14] ?_
 refine AW.c2 ?_ ?_
 ·intro h7
  refine AW.skip ?_
  refine AW.seq ?_
  refine AW.block ?_
  refine AW.rL ?_
  refine AW.rL ?_
  refine AWR.s ?_
  refine AW.seq ?_
  refine AW.rS ?_
  refine AW.trim [0,1,4,14] ?_
  refine AW.c2 ?_ ?_
  ·intro h16
   first | contradiction | (simp at h16; done) | (exfalso; omega) | (exfalso; revert h16; decide)
  ·intro h16
   refine AW.exit ?_
   refine AW.rS ?_
   refine AW.trim [0,1,5] ?_
   refine AW.seq ?_
   refine AW.rS ?_
   refine AW.trim [0,1,5,22,23] ?_
   refine AW.block ?_
   refine AW.un 5 ?_
   refine AW.rS ?_
   refine AW.trim [0,1,5,22,23,24] ?_
   refine AW.seq ?_
   refine AW.c2 ?_ ?_
   ·intro h25
    refine AW.skip ?_
    refine AW.seq ?_
    refine AW.block ?_
    refine AW.rS ?_
    refine AW.trim [0,1,5,6,7,22,23] ?_
    refine AW.rL ?_
    refine AW.rL ?_
    refine AWR.s ?_
    refine AW.rS ?_
    refine AW.trim [0,1,5,22,23,24] ?_
    refine AW.seq ?_
    refine AW.c2 ?_ ?_
    ·intro h35
     refine AW.skip ?_
     refine AW.seq ?_
     refine AW.block ?_
     refine AW.rS ?_
     refine AW.trim [0,1,5,6,7,22,23] ?_
     refine AW.rL ?_
     refine AW.rL ?_
     refine AWR.s ?_
     refine AW.rS ?_
     refine AW.trim [0,1,5,22,23,24] ?_
     refine AW.seq ?_
     refine AW.c2 ?_ ?_
     ·intro h45
      refine AW.skip ?_
      refine AW.seq ?_
      refine AW.block ?_
      refine AW.rS ?_
      refine AW.trim [0,1,5,6,7,22,23] ?_
      refine AW.rL ?_
      refine AW.rL ?_
      refine AWR.s ?_
      refine AW.rS ?_
      refine AW.trim [0,1,5,22,23,24] ?_
      refine AW.seq ?_
      refine AW.c2 ?_ ?_
      ·intro h55
       refine AW.skip ?_
       refine AW.seq ?_
       refine AW.block ?_
       refine AW.rS ?_
       refine AW.trim [0,1,5,6,7,22,23] ?_
       refine AW.rL ?_
       refine AW.rL ?_
       refine AWR.s ?_
       refine AW.rS ?_
       refine AW.trim [0,1,5,22,23,24] ?_
       refine AW.seq ?_
       refine AW.c2 ?_ ?_
       ·intro h65
        refine AW.skip ?_
        refine AW.seq ?_
        refine AW.block ?_
        refine AW.rS ?_
        refine AW.trim [0,1,5,6,7,22,23] ?_
        refine AW.rL ?_
        refine AW.rL ?_
        refine AWR.s ?_
        refine AW.rS ?_
        refine AW.trim [0,1,5,22,23,24] ?_
        refine AW.seq ?_
        refine AW.c2 ?_ ?_
        ·intro h75
         first | contradiction | (simp at h75; done) | (exfalso; omega) | (exfalso; revert h75; decide)
        ·intro h75
         refine AW.exit ?_
         refine AW.rSC ?_
         refine awOps.cons (awGuard.cM (c_ascii_need _ _ 3) ?_ ?_)
         ·intro hp78
          refine wk ?_
          rw [putE_form (by omega)]
          first | exact .inr ⟨by decide,rfl,by omega⟩ | (simp; done) | (simp; omega)
         intro hm78
         refine awOps.rn ?_
         refine AW.trim [0,1,5] ?_
         refine AW.vw [0,1,2] [(0,.ptr 0 0),(1,.ptr 1 0),(5,.int .u64 ((val5 [x0,x1,x2,x3] : Nat) : Int))] [(0,.tc 41 [.int .u8 x0,.int .u8 x1,.int .u8 x2,.int .u8 x3,.int .u8 84,.int .i64 4]),(1,.cells [.row 2 0 out.length,.int .i64 M]),(2,.row 1 (bytesAV out) true)] ?_ (henv:=by (simp only [go_sem,seval]; iterate 2 try (simp (disch:=omega) only [zq]; try simp only [go_sem,seval])); exact ⟨Less.refl _,Less.refl _,Less.int (by omega)⟩)
         refine AW.rS ?_
         refine AW.trim [0,1,8] ?_
         refine AW.pre (St.le.untc 3 rfl) ?_
         refine AW.cf 8 3 ?_
         refine AW.rSC ?_
         refine awOps.cons ?_
         refine awGuard.slC ?_ ?_
         ·exact ⟨by decide,by decide⟩
         refine awOps.rn ?_
         refine awOps.cons (awGuard.cKM 1 [1,2] (h_put_s GA out ((bytes4 (val5 [x0,x1,x2,x3])).take 3) M h (by rw [hln]; decide)) ?_ ?_)
         ·intro hp84 n84 hn84
          refine wk ?_
          rw [putE_long (by omega) (by rw [hln] at hp84; exact hp84)]
          first | exact .inr ⟨by decide,rfl,by omega⟩ | (simp; done) | (simp; omega)
         intro hm84
         refine awOps.rn ?_
         refine AW.trim [0] ?_
         refine AW.fin2 ?_
         refine AW.rL ?_
         refine ⟨.inl rfl,⟨65,[],[(0,.tc 41 [.int .u8 0,.int .u8 0,.int .u8 0,.int .u8 0,.int .u8 0,.int .i64 0]),(1,.cells [.row 2 0 (out ++ (bytes4 (val5 [x0,x1,x2,x3])).take 3).length,.int .i64 M]),(2,.row 1 (bytesAV (out ++ (bytes4 (val5 [x0,x1,x2,x3])).take 3)) true)],3,GA,2,[]⟩,St.le.vw [0,1,4] (hpre:=by intro i hi; dsimp only at hi; rcases i with _ | _ | i; rfl; rfl; omega),?_⟩
         refine wk ?_
         rw [putE_ok (by omega) (by rw [hln] at hm84; exact hm84)]
         have e9 : putO out [x0,x1,x2,x3] = out ++ (bytes4 (val5 [x0,x1,x2,x3])).take 3:=rfl
         rw [e9,List.length_append]
         generalize (bytes4 (val5 [x0,x1,x2,x3])).take 3 = q9
         simp
       ·intro h65
        first | contradiction | (simp at h65; done) | (exfalso; omega) | (exfalso; revert h65; decide)
      ·intro h55
       first | contradiction | (simp at h55; done) | (exfalso; omega) | (exfalso; revert h55; decide)
     ·intro h45
      first | contradiction | (simp at h45; done) | (exfalso; omega) | (exfalso; revert h45; decide)
    ·intro h35
     first | contradiction | (simp at h35; done) | (exfalso; omega) | (exfalso; revert h35; decide)
   ·intro h25
    first | contradiction | (simp at h25; done) | (exfalso; omega) | (exfalso; revert h25; decide)
 ·intro h7
  first | contradiction | (simp at h7; done) | (exfalso; omega) | (exfalso; revert h7; decide)
theorem h_gput5 (x0 x1 x2 x3 x4 : Nat) (h0 : x0 ≤ 84) (h1 : x1 ≤ 84) (h2 : x2 ≤ 84) (h3 : x3 ≤ 84) (h4 : x4 ≤ 84) (out : List UInt8) (M : Nat) (h : out.length ≤ 16777216) : FnK Tryd.prog (GA) 29 [.ptr 0 0,.ptr 1 0] ([(0,.tc 41 [.int .u8 x0,.int .u8 x1,.int .u8 x2,.int .u8 x3,.int .u8 x4,.int .i64 5]),(1,.cells [.row 2 0 out.length,.int .i64 M]),(2,.row 1 (bytesAV out) true)]) 3 2 (fun r h n=>((putE out [x0,x1,x2,x3,x4] M = 0) ∧ r = .ret (.tup []) ∧ h = [(0,.tc 41 [.int .u8 0,.int .u8 0,.int .u8 0,.int .u8 0,.int .u8 0,.int .i64 0]),(1,.cells [.row 2 0 (putO out [x0,x1,x2,x3,x4]).length,.int .i64 M]),(2,.row 1 (bytesAV (putO out [x0,x1,x2,x3,x4])) true)] ∧ n = 3) ∨ (¬ (putE out [x0,x1,x2,x3,x4] M = 0) ∧ r = .panic (.iface 70 (.agg [.int .i64 (putE out [x0,x1,x2,x3,x4] M)])) ∧ 2 ≤ n)):=by
 refine FnK.intro Tryd.func29 rfl rfl (by simp [Tryd.ntmps29]) ?_
 simp only [argEnv,Tryd.ntmps29,Tryd.results29]
 have hv : val5 [x0,x1,x2,x3,x4] = x0 * 52200625 + x1 * 614125 + x2 * 7225 + x3 * 85 + x4 * 1:=by unfold val5; simp only [List.getD_cons_zero,List.getD_cons_succ,List.getD_nil]; omega
 have hln : ((bytes4 (val5 [x0,x1,x2,x3,x4])).take 4).length = 4:=rfl
 refine AW.seq ?_
 refine AW.rS ?_
 refine AW.trim [0,1,4] ?_
 refine AW.block ?_
 refine AW.un 0 ?_
 refine AW.seq ?_
 refine AW.rS ?_
 refine AW.trim [0,1,4,14] ?_
 refine AW.c2 ?_ ?_
 ·intro h7
  first | contradiction | (simp at h7; done) | (exfalso; omega) | (exfalso; revert h7; decide)
 ·intro h7
  refine AW.exit ?_
  refine AW.rS ?_
  refine AW.trim [0,1,5] ?_
  refine AW.seq ?_
  refine AW.rS ?_
  refine AW.trim [0,1,5,22,23] ?_
  refine AW.block ?_
  refine AW.un 5 ?_
  refine AW.rS ?_
  refine AW.trim [0,1,5,22,23,24] ?_
  refine AW.seq ?_
  refine AW.c2 ?_ ?_
  ·intro h16
   refine AW.skip ?_
   refine AW.seq ?_
   refine AW.block ?_
   refine AW.rS ?_
   refine AW.trim [0,1,5,6,7,22,23] ?_
   refine AW.rL ?_
   refine AW.rL ?_
   refine AWR.s ?_
   refine AW.rS ?_
   refine AW.trim [0,1,5,22,23,24] ?_
   refine AW.seq ?_
   refine AW.c2 ?_ ?_
   ·intro h26
    refine AW.skip ?_
    refine AW.seq ?_
    refine AW.block ?_
    refine AW.rS ?_
    refine AW.trim [0,1,5,6,7,22,23] ?_
    refine AW.rL ?_
    refine AW.rL ?_
    refine AWR.s ?_
    refine AW.rS ?_
    refine AW.trim [0,1,5,22,23,24] ?_
    refine AW.seq ?_
    refine AW.c2 ?_ ?_
    ·intro h36
     refine AW.skip ?_
     refine AW.seq ?_
     refine AW.block ?_
     refine AW.rS ?_
     refine AW.trim [0,1,5,6,7,22,23] ?_
     refine AW.rL ?_
     refine AW.rL ?_
     refine AWR.s ?_
     refine AW.rS ?_
     refine AW.trim [0,1,5,22,23,24] ?_
     refine AW.seq ?_
     refine AW.c2 ?_ ?_
     ·intro h46
      refine AW.skip ?_
      refine AW.seq ?_
      refine AW.block ?_
      refine AW.rS ?_
      refine AW.trim [0,1,5,6,7,22,23] ?_
      refine AW.rL ?_
      refine AW.rL ?_
      refine AWR.s ?_
      refine AW.rS ?_
      refine AW.trim [0,1,5,22,23,24] ?_
      refine AW.seq ?_
      refine AW.c2 ?_ ?_
      ·intro h56
       refine AW.skip ?_
       refine AW.seq ?_
       refine AW.block ?_
       refine AW.rS ?_
       refine AW.trim [0,1,5,6,7,22,23] ?_
       refine AW.rL ?_
       refine AW.rL ?_
       refine AWR.s ?_
       refine AW.rS ?_
       refine AW.trim [0,1,5,22,23,24] ?_
       refine AW.seq ?_
       refine AW.c2 ?_ ?_
       ·intro h66
        first | contradiction | (simp at h66; done) | (exfalso; omega) | (exfalso; revert h66; decide)
       ·intro h66
        refine AW.exit ?_
        refine AW.rSC ?_
        refine awOps.cons (awGuard.cM (c_ascii_need _ _ 3) ?_ ?_)
        ·intro hp69
         refine wk ?_
         rw [putE_form (by omega)]
         first | exact .inr ⟨by decide,rfl,by omega⟩ | (simp; done) | (simp; omega)
        intro hm69
        refine awOps.rn ?_
        refine AW.trim [0,1,5] ?_
        refine AW.vw [0,1,2] [(0,.ptr 0 0),(1,.ptr 1 0),(5,.int .u64 ((val5 [x0,x1,x2,x3,x4] : Nat) : Int))] [(0,.tc 41 [.int .u8 x0,.int .u8 x1,.int .u8 x2,.int .u8 x3,.int .u8 x4,.int .i64 5]),(1,.cells [.row 2 0 out.length,.int .i64 M]),(2,.row 1 (bytesAV out) true)] ?_ (henv:=by (simp only [go_sem,seval]; iterate 2 try (simp (disch:=omega) only [zq]; try simp only [go_sem,seval])); exact ⟨Less.refl _,Less.refl _,Less.int (by omega)⟩)
        refine AW.rS ?_
        refine AW.trim [0,1,8] ?_
        refine AW.pre (St.le.untc 3 rfl) ?_
        refine AW.cf 8 3 ?_
        refine AW.rSC ?_
        refine awOps.cons ?_
        refine awGuard.slC ?_ ?_
        ·exact ⟨by decide,by decide⟩
        refine awOps.rn ?_
        refine awOps.cons (awGuard.cKM 1 [1,2] (h_put_s GA out ((bytes4 (val5 [x0,x1,x2,x3,x4])).take 4) M h (by rw [hln]; decide)) ?_ ?_)
        ·intro hp75 n75 hn75
         refine wk ?_
         rw [putE_long (by omega) (by rw [hln] at hp75; exact hp75)]
         first | exact .inr ⟨by decide,rfl,by omega⟩ | (simp; done) | (simp; omega)
        intro hm75
        refine awOps.rn ?_
        refine AW.trim [0] ?_
        refine AW.fin2 ?_
        refine AW.rL ?_
        refine ⟨.inl rfl,⟨65,[],[(0,.tc 41 [.int .u8 0,.int .u8 0,.int .u8 0,.int .u8 0,.int .u8 0,.int .i64 0]),(1,.cells [.row 2 0 (out ++ (bytes4 (val5 [x0,x1,x2,x3,x4])).take 4).length,.int .i64 M]),(2,.row 1 (bytesAV (out ++ (bytes4 (val5 [x0,x1,x2,x3,x4])).take 4)) true)],3,GA,2,[]⟩,St.le.vw [0,1,4] (hpre:=by intro i hi; dsimp only at hi; rcases i with _ | _ | i; rfl; rfl; omega),?_⟩
        refine wk ?_
        rw [putE_ok (by omega) (by rw [hln] at hm75; exact hm75)]
        have e9 : putO out [x0,x1,x2,x3,x4] = out ++ (bytes4 (val5 [x0,x1,x2,x3,x4])).take 4:=rfl
        rw [e9,List.length_append]
        generalize (bytes4 (val5 [x0,x1,x2,x3,x4])).take 4 = q9
        simp
      ·intro h56
       first | contradiction | (simp at h56; done) | (exfalso; omega) | (exfalso; revert h56; decide)
     ·intro h46
      first | contradiction | (simp at h46; done) | (exfalso; omega) | (exfalso; revert h46; decide)
    ·intro h36
     first | contradiction | (simp at h36; done) | (exfalso; omega) | (exfalso; revert h36; decide)
   ·intro h26
    first | contradiction | (simp at h26; done) | (exfalso; omega) | (exfalso; revert h26; decide)
  ·intro h16
   first | contradiction | (simp at h16; done) | (exfalso; omega) | (exfalso; revert h16; decide)
end Go.Proofs

namespace Go.Proofs.YtboaclfnjdhcpaaDoor
open Go Aw Go.ChangeShapes Go.WideShapes Go.ChangeAt Go.RowKit
theorem own : ownKnob Tryd.prog.godebug = none:=by kernel_rfl
theorem laidOut : laidOutB Tryd.prog = true:=by kernel_rfl
theorem gTab : Tryd.prog.globalNamed "foliant/ascii.powers" = some 0 := by kernel_rfl
theorem gTabType : (Tryd.prog.globals[0]?).map (·.type) = some 62:=by kernel_rfl
theorem cellsA : Tryd.prog.cellsOf 62 = 5:=by kernel_rfl
theorem cellsE : Tryd.prog.cellsOf 46 = 1:=by kernel_rfl
theorem table {W : World} (h : laidMetH Tryd.prog [("foliant/ascii.powers", Rows.laid_foliant_ascii_powers)] W) : Lib.TabIs Tryd.prog W "foliant/ascii.powers" .u64 [52200625, 614125, 7225, 85, 1] :=
 Lib.tabIs_of_head (rest:=[]) gTab gTabType Tryd.underlying62 Tryd.underlying46 cellsE cellsA h
theorem gstartGA {W : World} (h : Lib.TabIs Tryd.prog W "foliant/ascii.powers" .u64 [52200625, 614125, 7225, 85, 1]) : Aw.Start (gmA W) GA := by
 have c0 : W.cell? ⟨0,0,none⟩ = some (.int .u64 52200625):=h.cell gTab 0 (by decide)
 have c1 : W.cell? ⟨0,1,none⟩ = some (.int .u64 614125):=h.cell gTab 1 (by decide)
 have c2 : W.cell? ⟨0,2,none⟩ = some (.int .u64 7225):=h.cell gTab 2 (by decide)
 have c3 : W.cell? ⟨0,3,none⟩ = some (.int .u64 85):=h.cell gTab 3 (by decide)
 have c4 : W.cell? ⟨0,4,none⟩ = some (.int .u64 1):=h.cell gTab 4 (by decide)
 have h0 : 0 < W.heap.size:=by
  rcases Nat.lt_or_ge 0 W.heap.size with hlt | hge
  ·exact hlt
  ·have : W.heap[0]? = none:=by rw [Array.getElem?_eq_none]; exact hge
   simp [World.cell?,this] at c0
 refine ⟨fun _ _ h=>h,fun _ hb=>hb,?_,rfl,fun _=>rfl⟩
 intro g x hg
 simp only [GA,Aw.get] at hg
 split at hg
 ·rename_i e
  injection hg with hg
  subst hg e
  simp only [Rep,RepC]
  exact ⟨0,0,rfl,h0,⟨_,c0,rfl⟩,h0,⟨_,c1,rfl⟩,h0,⟨_,c2,rfl⟩,h0,⟨_,c3,rfl⟩,h0,⟨_,c4,rfl⟩,trivial⟩
 ·cases hg
noncomputable def laidWorld (os : Os) : World :=
 { World.holding Tryd.prog os ⟨#[],#[],[]⟩ with heap:=(World.holding Tryd.prog os ⟨#[],#[],[]⟩).heap.modify 0 fun
   | .cells _ t frozen=>.cells #[.int .u64 52200625,.int .u64 614125,.int .u64 7225,.int .u64 85,.int .u64 1] t frozen
   | o=>o }
end Go.Proofs.YtboaclfnjdhcpaaDoor

namespace Go.Proofs
open Go Aw
set_option linter.unusedSimpArgs false
set_option linter.unusedVariables false
set_option maxRecDepth 100000
set_option maxHeartbeats 4000000
attribute [local go_sem] List.length_append bldP
theorem lays240 : Lays.n240 Tryd.prog Tryd.lays105_ren:={ Tryd.lays105 with }
theorem h_copyCheck (gl : List (Nat × AV)) (wr : Bool) (x : AV) (blk : ABlk) :
  FnH Tryd.prog gl 52 [.ptr 0 0] [(0,.tc 52 [bldP wr 0,x]),(1,blk)] 2 fun r h n=>r = .ret (.tup []) ∧ h = [(0,.tc 52 [.ptr 0 0,x]),(1,blk)] ∧ n = 2 :=
 FnH.bldCheck (ρ:=Tryd.lays105_ren) lays240 Tryd.Builder_Extra_105.toX72 (enters_of Tryd.func52 rfl rfl)
theorem h_Builder_String (gl : List (Nat × AV)) (p : AV) (l : List UInt8) (h : l.length ≤ 9223372036854775807) :
  FnH Tryd.prog gl 40 [.ptr 0 0] [(0,.tc 52 [p,.row 1 0 l.length]),(1,.brow 5 l)] 2 fun r h n=>r = .ret (.str l) ∧ h = [] ∧ n = 2 :=
 FnH.bldString (ρ:=Tryd.lays169_ren) Tryd.lays169 Tryd.Builder_Extra_169 h (enters_of Tryd.func40 rfl rfl)
theorem h_WriteByte (gl : List (Nat × AV)) (wr : Bool) (l : List UInt8) (c : UInt8) (h : l.length ≤ 16777216) : FnK Tryd.prog (gl) 39 [.ptr 0 0,.int .u8 c.toNat] ([(0,.tc 52 [bldP wr 0,.row 1 0 l.length]),(1,.brow 5 l)]) 2 1 (fun r h n=>r = .ret (.raw .nilIface) ∧ h = [(0,.tc 52 [bldP true 0,.row 1 0 (l ++ [c]).length]),(1,.brow 5 (l ++ [c]))] ∧ n = 2):=by
 refine FnK.intro Tryd.func39 rfl rfl (by simp [Tryd.ntmps39]) ?_
 simp only [argEnv,Tryd.ntmps39,Tryd.results39]
 refine AW.rS ?_
 refine AW.rSC ?_
 refine awOps.cons (awGuard.cH [0,1] (h_copyCheck _ wr (.row 1 0 l.length) (.brow 5 l)) ?_)
 refine awOps.rn ?_
 refine AW.rSC ?_
 refine awOps.cons ?_
 refine awGuard.apB [c] ?_ ?_ ?_ ?_
 ·rfl
 ·rfl
 ·(simp; omega)
 refine awOps.rn ?_
 refine AW.rS ?_
 refine AW.pre (St.le.tcLess 0 0 (bldP true 0) rfl rfl bldP_t) ?_
 refine AW.vw [0,3] [(4,.raw .nilIface)] [(0,.tc 52 [bldP true 0,.row 1 0 (l ++ [c]).length]),(1,.brow 5 (l ++ [c]))] ?_
 refine AW.rt ?_
 trivial
theorem h_WriteString (gl : List (Nat × AV)) (wr : Bool) (l s : List UInt8) (h : l.length ≤ 16777216) (hs : s.length ≤ 16777216) : FnK Tryd.prog (gl) 43 [.ptr 0 0,.str s] ([(0,.tc 52 [bldP wr 0,.row 1 0 l.length]),(1,.brow 5 l)]) 2 1 (fun r h n=>r = .ret (.tup [.int .i64 s.length,.raw .nilIface]) ∧ h = [(0,.tc 52 [bldP true 0,.row 1 0 (l ++ s).length]),(1,.brow 5 (l ++ s))] ∧ n = 2):=by
 refine FnK.intro Tryd.func43 rfl rfl (by simp [Tryd.ntmps43]) ?_
 simp only [argEnv,Tryd.ntmps43,Tryd.results43]
 refine AW.rS ?_
 refine AW.rSC ?_
 refine awOps.cons (awGuard.cH [0,1] (h_copyCheck _ wr (.row 1 0 l.length) (.brow 5 l)) ?_)
 refine awOps.rn ?_
 refine AW.rSC ?_
 refine awOps.cons ?_
 refine awGuard.apB s ?_ ?_ ?_ ?_
 ·rfl
 ·rfl
 ·omega
 refine awOps.rn ?_
 refine AW.rS ?_
 refine AW.pre (St.le.tcLess 0 0 (bldP true 0) rfl rfl bldP_t) ?_
 refine AW.vw [0,2] [(4,.int .i64 s.length),(5,.raw .nilIface)] [(0,.tc 52 [bldP true 0,.row 1 0 (l ++ s).length]),(1,.brow 5 (l ++ s))] ?_
 refine AW.rt ?_
 trivial
end Go.Proofs

namespace Go.Proofs
open Go Aw
set_option linter.unusedSimpArgs false
set_option linter.unusedVariables false
set_option maxRecDepth 100000
set_option maxHeartbeats 4000000
attribute [local go_sem] List.length_append bldP
theorem c_ascii_Run (gl : List (Nat × AV)) (s : List UInt8) (hs : s.length ≤ 1000000) : FnP Tryd.prog (gl) 18 [.str s] fun r=>r = .ret (.str (runE s)):=by
 refine FnP.intro Tryd.func18 rfl rfl (by simp [Tryd.ntmps18]) ?_
 simp only [argEnv,Tryd.ntmps18,Tryd.results18]
 have hrb:=runB_bound s
 refine AW.rS ?_
 refine AW.rS ?_
 refine AW.seq ?_
 refine AW.block ?_
 refine AW.pre (St.le.nilcellB 0 1 5 rfl rfl) ?_
 refine AW.pre (St.le.tcLess 0 0 (bldP false 0) rfl rfl bldP_f) ?_
 refine AW.lk (S:={ p : List UInt8 × List UInt8 × Bool // p.1.length ≤ s.length ∧ runB s = p.2.1 ++ runB p.1 }) [3] (fun s_=>[(0,.str s_.1.1)]) (fun s_=>[(0,.tc 52 [bldP s_.1.2.2 0,.row 1 0 s_.1.2.1.length]),(1,.brow 5 s_.1.2.1)]) 2 (fun s_=>s_.1.1.length) ⟨(s,[],false),Nat.le_refl _,rfl⟩ ?_ ?_
 ·refine St.le.vw [0,1]
 rintro ⟨⟨t,acc,wr⟩,ht,hsp⟩
 try dsimp only at ht
 try dsimp only at hsp
 have hac : acc.length + (runB t).length = (runB s).length:=by rw [hsp,List.length_append]
 refine AW.seq ?_
 refine AW.rS ?_
 refine AW.c2 ?_ ?_
 ·intro h8
  have hal:=alikeN_le t
  have htl : 0 < t.length:=List.length_pos_iff.2 h8
  refine AW.skip ?_
  refine AW.block ?_
  refine AW.seq ?_
  refine AW.rSC ?_
  refine awOps.cons (awGuard.c1 (c_ascii_alike _ t (by omega) h8) ?_)
  refine awOps.rn ?_
  refine AW.rS ?_
  refine AW.c2 ?_ ?_
  ·intro h16
   have hrm:=run_many h8 (by omega)
   have hrl : (runB t).length = 2 + (runB (t.drop (alikeN t))).length:=by rw [hrm]; simp only [List.length_cons]; omega
   refine AW.rS ?_
   refine AW.rSC ?_
   rw [show (257 - min ((alikeN t : Nat) : Int) 128) = (((UInt8.ofNat (257 - alikeN t)).toNat : Nat) : Int) by rw [u8_ofNat (by omega)]; omega]
   refine awOps.cons (awGuard.cK 1 [0,1] (h_WriteByte _ wr acc (UInt8.ofNat (257 - alikeN t)) (by omega)) ?_)
   refine awOps.rn ?_
   refine AW.rSC ?_
   refine awOps.cons (awGuard.cK 1 [0,2] (h_WriteByte _ true (acc ++ [UInt8.ofNat (257 - alikeN t)]) (t.getD 0 0) (by simp; omega)) ?_)
   refine awOps.rn ?_
   refine AW.rS ?_
   refine AW.exit ?_
   refine ⟨⟨(t.drop (alikeN t),acc ++ [UInt8.ofNat (257 - alikeN t)] ++ [t.getD 0 0],true),by simp; omega,by rw [hsp,hrm]; simp⟩,?_,?_⟩
   ·rw [show (min ((alikeN t : Nat) : Int) 128).toNat = alikeN t by omega]; refine St.le.vw [0,3]
   ·simp; omega
  ·intro h16
   refine AW.skip ?_
   refine AW.rS ?_
   refine AW.seq ?_
   refine AW.block ?_
   refine AW.lk (S:={ k : Nat // 1 ≤ k ∧ k ≤ 128 ∧ k ≤ t.length ∧ litGo (t.drop k) k = litGo t 0 }) [0,3] (fun s_=>[(5,.int .i64 s_.1)]) (fun s_=>[(0,.tc 52 [bldP wr 0,.row 1 0 acc.length]),(1,.brow 5 acc)]) 2 (fun s_=>128 - s_.1) ⟨1,Nat.le_refl _,by decide,htl,lit_one h8 (by omega)⟩ ?_ ?_
   ·refine St.le.vw [0,1]
   rintro ⟨k,hk1,hk2,hk3,hlit⟩
   try dsimp only at hk1
   try dsimp only at hk2
   try dsimp only at hk3
   try dsimp only at hlit
   refine AW.seq ?_
   refine AW.rSC ?_
   refine awOps.cons (awGuard.cG (g:=decide ((k : Int) < min (t.length : Int) 128)) (fun hg=>c_ascii_alike _ (t.drop k) (by simp; omega) (by have hg2:=of_decide_eq_true hg; rw [ne_eq,List.drop_eq_nil_iff]; omega)) ?_ (hgv:=by (simp only [go_sem,seval]; iterate 2 try (simp (disch:=omega) only [zq]; try simp only [go_sem,seval]))))
   refine awOps.rn ?_
   refine AW.c2 ?_ ?_
   ·intro h36
    refine AW.skip ?_
    refine AW.block ?_
    refine AW.rL ?_
    refine ⟨⟨k + 1,by omega,by omega,by omega,(lit_step (by omega) (by omega) (by omega)).symm.trans hlit⟩,?_,?_⟩
    ·refine St.le.vw [0,1]
    ·simp only []; omega
   ·intro h36
    refine AW.exit ?_
    refine AW.rSC ?_
    rw [show ((k : Int) - 1) = (((UInt8.ofNat (k - 1)).toNat : Nat) : Int) by rw [u8_ofNat (by omega)]; omega]
    refine awOps.cons (awGuard.cK 1 [0,1] (h_WriteByte _ wr acc (UInt8.ofNat (k - 1)) (by omega)) ?_)
    refine awOps.rn ?_
    refine AW.rSC ?_
    refine awOps.cons (awGuard.cK 1 [0,2] (h_WriteString _ true (acc ++ [UInt8.ofNat (k - 1)]) (t.take k) (by simp; omega) (by simp; omega)) ?_)
    refine awOps.rn ?_
    refine AW.rL ?_
    refine ⟨⟨(t.drop k,acc ++ [UInt8.ofNat (k - 1)] ++ t.take k,true),by simp; omega,by rw [hsp,run_few h8 (by omega) (hlit.symm.trans (lit_end (by omega)))]; simp⟩,?_,?_⟩
    ·refine St.le.vw [0,3]
    ·simp; omega
 ·intro h8
  refine AW.exit ?_
  refine AW.rSC ?_
  refine awOps.cons (awGuard.cK 1 [0,1] (h_WriteByte _ wr acc 128 (by omega)) ?_)
  refine awOps.rn ?_
  refine AW.rSC ?_
  refine awOps.cons (awGuard.cH [0,2] (h_Builder_String _ (bldP true 0) (acc ++ [128]) (by simp; omega)) ?_)
  refine awOps.rn ?_
  refine AW.rt ?_
  rw [runE,hsp,h8,runB_nil,List.append_nil]
end Go.Proofs

namespace Aw
abbrev grpC (l : List Nat) : List AV:=[.int .u8 (l.getD 0 0 : Nat),.int .u8 (l.getD 1 0 : Nat),.int .u8 (l.getD 2 0 : Nat),.int .u8 (l.getD 3 0 : Nat),.int .u8 (l.getD 4 0 : Nat),.int .i64 (l.length : Nat)]
end Aw
namespace Go.Proofs
open Go Aw
set_option linter.unusedSimpArgs false
set_option linter.unusedVariables false
set_option maxRecDepth 100000
set_option maxHeartbeats 4000000
attribute [local irreducible] val5 unfiveS
theorem h_gput (l : List Nat) (hl : 2 ≤ l.length ∧ l.length ≤ 5) (hx : ∀ x ∈ l,x ≤ 84) (out : List UInt8) (M : Nat) (h : out.length ≤ 16777216) :
  FnK Tryd.prog GA 29 [.ptr 0 0,.ptr 1 0] [(0,.tc 41 (grpC l)),(1,.cells [.row 2 0 out.length,.int .i64 M]),(2,.row 1 (bytesAV out) true)] 3 2 fun r h n =>
   (putE out l M = 0 ∧ r = .ret (.tup []) ∧ h = [(0,.tc 41 (grpC [])),(1,.cells [.row 2 0 (putO out l).length,.int .i64 M]),(2,.row 1 (bytesAV (putO out l)) true)] ∧ n = 3) ∨
   (¬ putE out l M = 0 ∧ r = .panic (.iface 70 (.agg [.int .i64 (putE out l M)])) ∧ 2 ≤ n):=by
 match l,hl,hx with
 | [a,b],_,hx=>exact h_gput2 a b (hx a (by simp)) (hx b (by simp)) out M h
 | [a,b,c],_,hx=>exact h_gput3 a b c (hx a (by simp)) (hx b (by simp)) (hx c (by simp)) out M h
 | [a,b,c,d],_,hx=>exact h_gput4 a b c d (hx a (by simp)) (hx b (by simp)) (hx c (by simp)) (hx d (by simp)) out M h
 | [a,b,c,d,e],_,hx=>exact h_gput5 a b c d e (hx a (by simp)) (hx b (by simp)) (hx c (by simp)) (hx d (by simp)) (hx e (by simp)) out M h
 | [],hl,_=>exact absurd hl.1 (by decide)
 | [_],hl,_=>exact absurd hl.1 (by simp)
 | _ :: _ :: _ :: _ :: _ :: _ :: _,hl,_=>exact absurd hl.2 (by simp)
attribute [local go_sem] bytesAV_append List.length_append GA viewN_pan
theorem h_end (left : List UInt8) (l : List Nat) (hl : l.length ≤ 4) (hx : ∀ x ∈ l,x ≤ 84) (out : List UInt8) (M : Nat) (h : out.length ≤ 16777216) (hs : left.length ≤ 16777216) : FnK Tryd.prog (GA) 30 [.str left,.ptr 0 0,.ptr 1 0] ([(0,.tc 41 (grpC l)),(1,.cells [.row 2 0 out.length,.int .i64 M]),(2,.row 1 (bytesAV out) true)]) 3 2 (fun r h n=>(((endR M left l out).2 = .ok) ∧ r = .ret (.tup []) ∧ h = [(0,.tc 41 (grpC [])),(1,.cells [.row 2 0 (endR M left l out).1.length,.int .i64 M]),(2,.row 1 (bytesAV (endR M left l out).1) true)] ∧ n = 3) ∨ (¬ ((endR M left l out).2 = .ok) ∧ r = .panic (.iface 70 (.agg [.int .i64 (errI (endR M left l out).2)])) ∧ 2 ≤ n)):=by
 refine FnK.intro Tryd.func30 rfl rfl (by simp [Tryd.ntmps30]) ?_
 simp only [argEnv,Tryd.ntmps30,Tryd.results30]
 refine AW.rSC ?_
 refine awOps.cons (awGuard.cM (c_ascii_need _ _ 4) ?_ ?_)
 ·intro hp2
  refine wk ?_
  rw [show left = [] from hp2,end_nil]
  first | exact .inr ⟨by decide,rfl,by omega⟩ | (simp [errI]; done) | (simp [errI]; omega)
 intro hm2
 have h2 : left ≠ []:=hm2
 have h2l : 0 < left.length:=List.length_pos_iff.2 h2
 refine awOps.rn ?_
 refine AW.rSC ?_
 refine awOps.cons (awGuard.cM (c_ascii_need _ _ 3) ?_ ?_)
 ·intro hp5
  refine wk ?_
  rw [end_bad h2 (by omega)]
  first | exact .inr ⟨by decide,rfl,by omega⟩ | (simp [errI]; done) | (simp [errI]; omega)
 intro hm5
 refine awOps.rn ?_
 refine AW.rS ?_
 refine AW.c2 ?_ ?_
 ·intro h8
  refine AW.fin3 ?_
  refine AW.rLC ?_
  refine awOps.cons (awGuard.cKM 2 [0,1,2] (h_gput l (by omega) hx out M h) ?_ ?_)
  ·intro hp10 n10 hn10
   refine wk ?_
   have e:=end_put (M:=M) (out:=out) h2 hm5.1 (l:=l) (by intro q; rw [q] at h8; simp at h8) (by omega)
   rw [e,if_neg hp10]
   rcases putE_cases out l M with q | q | q
   ·exact absurd q hp10
   ·rw [if_pos q,q]
    first | exact .inr ⟨by decide,rfl,by omega⟩ | (simp [errI]; done) | (simp [errI]; omega)
   ·rw [if_neg (by rw [q]; decide),q]
    first | exact .inr ⟨by decide,rfl,by omega⟩ | (simp [errI]; done) | (simp [errI]; omega)
  intro hm10
  refine awOps.rn ?_
  refine ⟨⟨28,[],[(0,.tc 41 (grpC [])),(1,.cells [.row 2 0 (putO out l).length,.int .i64 M]),(2,.row 1 (bytesAV (putO out l)) true)],3,GA,2,[]⟩,St.le.vw [0,1,3] (hpre:=by intro i hi; dsimp only at hi; rcases i with _ | _ | i; rfl; rfl; omega),?_⟩
  refine wk ?_
  have e:=end_put (M:=M) (out:=out) h2 hm5.1 (l:=l) (by intro q; rw [q] at h8; simp at h8) (by omega)
  rw [e,if_pos hm10]
  simp
 ·intro h8
  refine AW.skip ?_
  refine wk ?_
  have hl0 : l = []:=List.length_eq_zero_iff.1 (by omega)
  subst hl0
  rw [end_none h2 hm5.1]
  simp
end Go.Proofs

namespace Aw
open Go
set_option linter.unusedVariables false
theorem vx_five {M : Nat} {s : Byt} {i : Nat} {l : List Nat} {out : Byt} (hi : i < s.length) (hw : whiteC (s.getD i 0) = false) (h1 : 33 ≤ ((s.getD i 0).toNat : Int)) (h2 : ((s.getD i 0).toNat : Int) ≤ 117) (hl : l.length = 4) : unfiveS M (s.drop i) l out =
  if putE out (l ++ [(s.getD i 0).toNat - 33]) M = 0 then unfiveS M (s.drop (i + 1)) [] (putO out (l ++ [(s.getD i 0).toNat - 33])) else if putE out (l ++ [(s.getD i 0).toNat - 33]) M = 3 then ([],.form) else ([],.long):=by
 rw [vx_dig hi hw h1 h2,if_pos hl]
 have h5 : (l ++ [(s.getD i 0).toNat - 33]).length = 5:=by rw [List.length_append,hl] <;> rfl
 have ho : putO out (l ++ [(s.getD i 0).toNat - 33]) = out ++ bytes4 (val5 (l ++ [(s.getD i 0).toNat - 33])):=by
  rw [putO,h5]
  rfl
 rw [ho]
 by_cases h3 : 4294967296 ≤ val5 (l ++ [(s.getD i 0).toNat - 33])
 ·rw [if_pos h3,putE_form h3] <;> rfl
 ·by_cases h4 : out.length + 4 ≤ M
  ·rw [if_neg h3,if_pos h4,putE_ok h3 (by rw [h5]; exact h4)] <;> rfl
  ·rw [if_neg h3,if_neg h4,putE_long h3 (by rw [h5]; exact h4)] <;> rfl
theorem vx_more {M : Nat} {s : Byt} {i : Nat} {l : List Nat} {out : Byt} (hi : i < s.length) (hw : whiteC (s.getD i 0) = false) (h1 : 33 ≤ ((s.getD i 0).toNat : Int)) (h2 : ((s.getD i 0).toNat : Int) ≤ 117) (hl : ¬ l.length = 4) : unfiveS M (s.drop i) l out =
  unfiveS M (s.drop (i + 1)) (l ++ [(s.getD i 0).toNat - 33]) out:=by rw [vx_dig hi hw h1 h2,if_neg hl]
theorem putO_len {out : Byt} {l : List Nat} {M : Nat} (h : putE out l M = 0) (hl : l.length ≤ 5) : (putO out l).length ≤ M:=by
 unfold putE at h
 split at h
 ·exact absurd h (by decide)
 ·split at h
  ·rename_i h2
   unfold putO
   rw [List.length_append,List.length_take]
   omega
  ·exact absurd h (by decide)
theorem dig_all {l : List Nat} {v : Nat} (h : ∀ x ∈ l,x ≤ 84) (hv : v ≤ 84) : ∀ x ∈ l ++ [v],x ≤ 84:=by
 intro x hx
 rcases List.mem_append.1 hx with q | q
 ·exact h x q
 ·rw [List.mem_singleton.1 q]; exact hv
theorem bv_nat (n : Nat) (h : n < 2 ^ 64) : (BitVec.ofInt 64 (n : Int)).toNat = n:=by
 rw [BitVec.toNat_ofInt]
 omega
theorem wrap64 (n : Nat) (h : n < 2 ^ 64) : IntKind.u64.wrap (n : Int) = n:=by
 show ((n : Int) % (2 ^ 64 : Int)) = n
 omega
theorem bor64 {x y k : Nat} (hx : 2 ^ k ∣ x) (hy : y < 2 ^ k) (h : x + y < 2 ^ 64) : bitOr .u64 (x : Int) (y : Int) = ((x + y : Nat) : Int):=by
 obtain ⟨a,rfl⟩:=hx
 unfold bitOr
 show IntKind.u64.wrap (((BitVec.ofInt 64 _ ||| BitVec.ofInt 64 _).toNat : Nat) : Int) = _
 rw [BitVec.toNat_or,bv_nat _ (by omega),bv_nat _ (by omega),Nat.mul_comm,← Nat.shiftLeft_eq,← Nat.shiftLeft_add_eq_or_of_lt hy,Nat.shiftLeft_eq,wrap64 _ (by rw [Nat.mul_comm]; exact h)]
theorem shl64 (x k : Nat) (hk : k ≤ 64) (h : x * 2 ^ k < 2 ^ 64) : bitShl .u64 (x : Int) (k : Int) = ((x * 2 ^ k : Nat) : Int):=by
 unfold bitShl
 rw [Int.toNat_natCast,show min k IntKind.u64.bits = k from Nat.min_eq_left hk]
 have:=wrap64 (x * 2 ^ k) h
 rw [← this]
 push_cast
 rfl
theorem grp_or (a b c d : UInt8) : bitOr .u64 (bitOr .u64 (bitOr .u64 (bitShl .u64 (a.toNat : Int) 24) (bitShl .u64 (b.toNat : Int) 16)) (bitShl .u64 (c.toNat : Int) 8)) (d.toNat : Int) = ((grp4 a b c d : Nat) : Int):=by
 have ha:=a.toNat_lt; have hb:=b.toNat_lt; have hc:=c.toNat_lt; have hd:=d.toNat_lt
 have e1:=shl64 a.toNat 24 (by decide) (by omega)
 have e2:=shl64 b.toNat 16 (by decide) (by omega)
 have e3:=shl64 c.toNat 8 (by decide) (by omega)
 rw [show ((24 : Nat) : Int) = 24 from rfl] at e1
 rw [show ((16 : Nat) : Int) = 16 from rfl] at e2
 rw [show ((8 : Nat) : Int) = 8 from rfl] at e3
 rw [e1,e2,e3,bor64 (k:=24) (Nat.dvd_mul_left ..) (by omega) (by omega),bor64 (k:=16) (by omega) (by omega) (by omega),bor64 (k:=8) (by omega) (by omega) (by omega)]
 exact Int.ofNat_inj.2 (by unfold grp4; omega)
theorem fiveB_app : ∀ (a b : Byt),a.length % 4 = 0 → fiveB (a ++ b) = fiveB a ++ fiveB b
 | [],b,_=>rfl
 | [_],_,h=>absurd h (by simp)
 | [_,_],_,h=>absurd h (by simp)
 | [_,_,_],_,h=>absurd h (by simp)
 | a :: b :: c :: d :: r,t,h=>by
  simp only [List.cons_append]
  rw [fiveB_grp,fiveB_grp,fiveB_app r t (by simp only [List.length_cons] at h; omega),List.append_assoc]
def chunkL (s : Byt) (k : Nat) : Byt:=(s.drop (k * 4)).take 4
theorem chunk_len (s : Byt) (k : Nat) : (chunkL s k).length = min 4 (s.length - k * 4):=by simp [chunkL]
theorem chunk_step (s : Byt) (k : Nat) (h : k * 4 < s.length) : fiveB (s.take ((k + 1) * 4)) = fiveB (s.take (k * 4)) ++ fiveB (chunkL s k):=by
 rw [show (k + 1) * 4 = k * 4 + 4 by omega,List.take_add,fiveB_app _ _ (by rw [List.length_take]; omega)]
 rfl
theorem chunk_take (s : Byt) (k : Nat) (h : k * 4 < s.length) : (s.take (k * 4 + min 4 (s.length - k * 4))).drop (k * 4) = chunkL s k:=by
 rw [chunkL,List.drop_take]
 by_cases q : 4 ≤ s.length - k * 4
 ·rw [Nat.min_eq_left q]
  congr 1
  omega
 ·rw [Nat.min_eq_right (by omega),List.take_of_length_le (l:=s.drop (k * 4)) (by rw [List.length_drop]; omega),List.take_of_length_le (by rw [List.length_drop]; omega)]
def chunksN (n : Nat) : Nat:=(n + 3) / 4
theorem chunks_more {n i : Nat} : i < chunksN n ↔ i * 4 < n:=by unfold chunksN; omega
theorem fiveB_bound (s : Byt) : (fiveB s).length ≤ 5 * ((s.length + 3) / 4):=fiveB_len s
end Aw

namespace Go.Proofs
open Go Aw
set_option linter.unusedSimpArgs false
set_option linter.unusedVariables false
set_option maxRecDepth 100000
set_option maxHeartbeats 4000000
attribute [local go_sem] List.length_append bldP
theorem eqs_four (a b c d : UInt8) : EqS Tryd.prog 56 (.agg [.int .u8 a.toNat,.int .u8 b.toNat,.int .u8 c.toNat,.int .u8 d.toNat]) (.agg [.int .u8 0,.int .u8 0,.int .u8 0,.int .u8 0]) (decide (grp4 a b c d = 0)):=by
 have hc : Tryd.prog.cellsOf 56 = 4:=by kernel_rfl
 have hi : Tryd.prog.cellsOf 5 = 1:=by kernel_rfl
 have w : ∀ c : UInt8,(Lit.int .u8 c.toNat).wf = true:=fun c=>u8_all (p:=fun c=>(Lit.int .u8 c.toNat).wf = true) (by decide +kernel) c
 have h:=EqS.of8 (P:=Tryd.prog) (t:=56) (l1:=[(a.toNat : Int),b.toNat,c.toNat,d.toNat]) (l2:=[0,0,0,0]) (by kernel_rfl) (by kernel_rfl)
  (fun l hl=>by simp [Value.formed,Tryd.underlying56,hc,hi,hl])
  (fun l hl hl2=>by
   obtain ⟨a,b,c,d,rfl⟩ : ∃ a b c d,l = [a,b,c,d]:=by
    match l,hl with
    | [a,b,c,d],_=>exact ⟨a,b,c,d,rfl⟩
   simp only [List.mem_cons,List.not_mem_nil,or_false,forall_eq_or_imp,forall_eq] at hl2
   obtain ⟨k1,k2,k3,k4⟩:=hl2
   simp [Program.keyLits,Tryd.underlying56,Tryd.underlying5,hc,hi,k1,k2,k3,k4,List.range_succ])
  rfl (by simp [w]) (by decide)
 have e : decide ([(a.toNat : Int),b.toNat,c.toNat,d.toNat] = [0,0,0,0]) = decide (grp4 a b c d = 0):=by
  congr 1
  unfold grp4
  simp only [List.cons.injEq,and_true,eq_iff_iff]
  omega
 rw [e] at h
 exact h
theorem h_chunk (gl : List (Nat × AV)) (l : List UInt8) : FnH Tryd.prog (gl) 38 [.sl (bytesAV l),.int .i64 4] ([]) 0 (fun r h n=>r = .ret (.clos 51 [.ptr 0 0,.ptr 1 0]) ∧ h = [(0,.cells [.sl (bytesAV l)]),(1,.cells [.int .i64 4])] ∧ n = 2):=by
 refine FnH.intro Tryd.func38 rfl rfl (by simp [Tryd.ntmps38]) ?_
 simp only [argEnv,Tryd.ntmps38,Tryd.results38]
 refine AW.rS ?_
 refine AW.trim [2,3] ?_
 refine AW.seq ?_
 refine AW.rS ?_
 refine AW.trim [2,3,6] ?_
 refine AW.c2 ?_ ?_
 ·intro h4
  refine AW.rLC ?_
  refine awOps.cons (awGuard.pn ?_)
  refine wk ?_
  all_goals first | contradiction | rfl | (simp; done) | (simp; omega)
 ·intro h4
  refine AW.skip ?_
  refine AW.rS ?_
  refine AW.trim [4] ?_
  refine AW.rt ?_
  all_goals first | contradiction | rfl | (simp; done) | (simp; omega)
abbrev cHp (s acc : List UInt8) (wr : Bool) (lp : ABlk) : List (Nat × ABlk):=[(0,.tc 52 [bldP wr 0,.row 4 0 acc.length]),(1,.cells [.sl (bytesAV s)]),(2,.cells [.int .i64 4]),(4,.brow 5 acc),(3,lp)]
theorem chunk_B (s : List UInt8) (S : Nat → List UInt8 × Bool) (lq : Nat) (rc : Option Code → Loop) {Ω : Mem → Prop} [LastsU Ω] (hl : s.length ≤ 16777216)
  (hY : ∀ k,k * 4 < s.length → RoundU Ω Tryd.prog GA lq [.sl (bytesAV (chunkL s k))] (cHp s (S k).1 (S k).2 (.lp lq (rc none))) 5 4 fun r h n=>r = .ret (.bool true) ∧ h = cHp s (S (k + 1)).1 (S (k + 1)).2 (.lp lq (rc none)) ∧ n = 5) :
  FnU Ω Tryd.prog GA 51 [.raw (.func (.yield lq) #[] #[]),.ptr 1 0,.ptr 2 0] (cHp s (S 0).1 (S 0).2 (.lp lq (rc none))) 5 4 fun r h n=>r = .ret (.tup []) ∧ h = cHp s (S (chunksN s.length)).1 (S (chunksN s.length)).2 (.lp lq (rc none)) ∧ n = 5:=by
 have hall:=bB_one s
 simp only [cHp] at hY ⊢
 refine FnU.intro Tryd.func51 rfl rfl (by simp [Tryd.ntmps51]) ?_ ?_
 ·rintro q hp' nx' ⟨h1,rfl,rfl⟩
  cases h1
  exact ⟨rfl,_,rfl,rfl⟩
 intro B_
 simp only [argEnv,Tryd.ntmps51,Tryd.results51]
 refine AWT.rS ?_
 refine AWT.block ?_
 refine AWT.lk (S:={ k : Nat // k ≤ chunksN s.length }) [0,1,2] (fun s_=>[(4,.int .i64 ((s_.1 * 4 : Nat) : Int))]) (fun s_=>[(0,.tc 52 [bldP (S s_.1).2 0,.row 4 0 (S s_.1).1.length]),(1,.cells [.sl (bytesAV s)]),(2,.cells [.int .i64 4]),(4,.brow 5 (S s_.1).1),(3,.lp lq (rc none))]) 5 (fun s_=>chunksN s.length - s_.1) ⟨0,Nat.zero_le _⟩ ?_ ?_
 ·exact St.le.vw [0,1,2,3,4] (hpre:=(by decide : ∀ i,i < 4 → nth [0,1,2,3,4] i = some i))
 rintro ⟨k,hk⟩
 try dsimp only at hk
 have hkm:=chunks_more (n:=s.length) (i:=k)
 have hpt:=chunk_take s k
 have hYk:=hY k
 obtain ⟨kf,hkf⟩ : ∃ kf,kf = k * 4:=⟨_,rfl⟩
 have hk1 : (k + 1) * 4 = kf + 4:=by omega
 rw [← hkf] at hkm hpt hYk
 show AWT _ _ _ _ _ ⟨_,appE _ [(4,.int .i64 ((k * 4 : Nat) : Int))],_,_,_,_,_⟩ _
 rw [← hkf]
 refine AWT.seq ?_
 refine AWT.rS ?_
 refine AWT.c2 ?_ ?_
 ·intro h6
  have hlt : kf < s.length:=by simpa [bB_len] using h6
  refine AWT.skip ?_
  refine AWT.seq ?_
  refine AWT.block ?_
  refine AWT.fS [0,1,2,3,4,5,6] [] ?_ (hQ:=by repeat (first | exact Aw.PI.finH | refine Aw.PI.unblock ?_ | refine Aw.PI.andThen ?_))
  refine awFun.rn ?_
  rw [Aw.awFun_nil,Aw.awPlan_nil]
  have hlen : (List.drop kf (bytesAV s)).length = s.length - kf:=by simp [bB_len]
  have hmin : min (4 : Int) ((s.length - kf : Nat) : Int) = ((min 4 (s.length - kf) : Nat) : Int):=by omega
  have hmle : min 4 (s.length - kf) ≤ s.length - kf:=Nat.min_le_right _ _
  have hmf : min 4 (s.length - kf) ≤ 4:=Nat.min_le_left _ _
  have hcl : bytesAV (chunkL s k) = ((bytesAV s).take (kf + min 4 (s.length - kf))).drop kf:=by rw [← hpt hlt,bytesAV,bytesAV,List.map_drop,List.map_take]
  rw [hlen,hmin]
  generalize min 4 (s.length - kf) = e at *
  have ht1 : ((kf : Int) + (e : Int)).toNat = kf + e:=by omega
  have ht2 : ((kf : Int)).toNat = kf:=by omega
  refine AWT.rSC ?_
  refine OpsT.cs (awGuard.s3c (es:=bytesAV s) (l:=(kf : Int)) (h:=(kf : Int) + (e : Int)) (k:=(kf : Int) + (e : Int)) ⟨by omega,by omega,by omega,by rw [bB_len]; omega⟩ hall ?_)
  rw [ht1,ht2,← hcl]
  refine OpsT.cYU [0,1,2,3,4] (hYk hlt) ?_
  refine OpsT.rn ?_
  refine OpsT.nil ?_
  refine AWT.c2 ?_ ?_
  ·intro h13
   simp at h13
  ·intro h13
   refine AWT.skip ?_
   simp only [andThen,unblock]
   refine AWT.rL ?_
   refine ⟨⟨k + 1,by omega⟩,?_,?_⟩
   ·refine St.le.vw [0,1,2,3,5] (hpre:=(by decide : ∀ i,i < 4 → nth [0,1,2,3,5] i = some i)) (henv:=by (try dsimp only) <;> (try rw [hk1]) <;> (try simp only [go_sem,seval]) <;> (try (and_intros <;> first | exact Less.refl _ | trivial | (refine Less.int ?_; omega) | (refine Less.of_eq ?_; simp; done))))
   ·simp only []; omega
 ·intro h6
  refine AWT.exit ?_
  simp only [andThen,unblock,if_true]
  refine wk ?_
  have hke : k = chunksN s.length:=by omega
  rw [← hke]
end Go.Proofs

namespace Go.Proofs
open Go Aw
set_option linter.unusedSimpArgs false
set_option linter.unusedVariables false
set_option maxRecDepth 100000
set_option maxHeartbeats 4000000
attribute [local go_sem] bldP GA List.getD_cons_zero List.getD_cons_succ List.headD_cons
theorem awGuard.gN {P : Program} {ds : List (Option Tmp)} {σ : St} {o : Oper} {K : St → Prop} {Kp : AV → St → Prop} (y : AV) {p : Nat × Bool} (hK : K (σ.put o.dst (.opt false y))) (hg : o.guard = some p:=by exact rfl) (hgv : gAt ds σ p.1 p.2 = some false:=by (try simp only [go_sem,seval]) <;> (try exact rfl)) (hn : pureOp P σ false o.op = none:=by (try simp only [go_sem,seval]) <;> (try exact rfl)) (hd : dstOk σ.n o.dst = true:=by simp only [go_sem,seval]) : awGuard P ds o σ K Kp:=by
 unfold awGuard
 rw [hg]
 simp only
 rw [hgv]
 simp only
 rw [hn]
 simp only
 exact .inr ⟨y,hd,(fun ht=>by cases ht),hK⟩
def bw (wr : Bool) (j : Nat) : Bool:=decide (0 < j) || wr
def dg (acc : List UInt8) (v : Nat) : Nat → List UInt8
 | 0=>acc
 | j + 1=>dg acc v j ++ [chF v j]
theorem dg_len (acc : List UInt8) (v : Nat) : ∀ j,(dg acc v j).length = acc.length + j
 | 0=>rfl
 | j + 1=>by rw [dg,List.length_append,dg_len acc v j] <;> rfl
theorem chv (v k p : Nat) (hp : 85 ^ (4 - k) = p) : (33 : Int) + (v : Int) / (p : Int) % 85 = ((chF v k).toNat : Int):=by
 rw [ch_nat,digF,hp]
 push_cast
 rfl
theorem chv0 (v : Nat) : (33 : Int) + (v : Int) / 52200625 % 85 = ((chF v 0).toNat : Int):=chv v 0 52200625 rfl
theorem chv1 (v : Nat) : (33 : Int) + (v : Int) / 614125 % 85 = ((chF v 1).toNat : Int):=chv v 1 614125 rfl
theorem chv2 (v : Nat) : (33 : Int) + (v : Int) / 7225 % 85 = ((chF v 2).toNat : Int):=chv v 2 7225 rfl
theorem chv3 (v : Nat) : (33 : Int) + (v : Int) / 85 % 85 = ((chF v 3).toNat : Int):=chv v 3 85 rfl
theorem chv4 (v : Nat) : (33 : Int) + (v : Int) / 1 % 85 = ((chF v 4).toNat : Int):=chv v 4 1 rfl
theorem wrapA (a : UInt8) : IntKind.u64.wrap (a.toNat : Int) = (a.toNat : Int):=wrap64 _ (by have:=a.toNat_lt; omega)
theorem chunk_cases (p : List UInt8) (h1 : 1 ≤ p.length) (h2 : p.length ≤ 4) : (∃ a,p = [a]) ∨ (∃ a b,p = [a,b]) ∨ (∃ a b c,p = [a,b,c]) ∨ (∃ a b c d,p = [a,b,c,d]):=by
 match p,h1,h2 with
 | [a],_,_=>exact .inl ⟨a,rfl⟩
 | [a,b],_,_=>exact .inr (.inl ⟨a,b,rfl⟩)
 | [a,b,c],_,_=>exact .inr (.inr (.inl ⟨a,b,c,rfl⟩))
 | [a,b,c,d],_,_=>exact .inr (.inr (.inr ⟨a,b,c,d,rfl⟩))
 | _ :: _ :: _ :: _ :: _ :: _,_,h=>exact absurd h (by simp)
theorem grp_or1 (a : UInt8) : bitOr .u64 (bitOr .u64 (bitOr .u64 (bitShl .u64 (a.toNat : Int) 24) (bitShl .u64 0 16)) (bitShl .u64 0 8)) 0 = ((grp4 a 0 0 0 : Nat) : Int):=grp_or a 0 0 0
theorem grp_or2 (a b : UInt8) : bitOr .u64 (bitOr .u64 (bitOr .u64 (bitShl .u64 (a.toNat : Int) 24) (bitShl .u64 (b.toNat : Int) 16)) (bitShl .u64 0 8)) 0 = ((grp4 a b 0 0 : Nat) : Int):=grp_or a b 0 0
theorem grp_or3 (a b c : UInt8) : bitOr .u64 (bitOr .u64 (bitOr .u64 (bitShl .u64 (a.toNat : Int) 24) (bitShl .u64 (b.toNat : Int) 16)) (bitShl .u64 (c.toNat : Int) 8)) 0 = ((grp4 a b c 0 : Nat) : Int):=grp_or a b c 0
theorem c_ascii_Five (s : List UInt8) (hs : s.length ≤ 1000000) : FnP Tryd.prog GA 16 [.str s] fun r=>r = .ret (.str (fiveE s)):=by
 refine FnP.introM Tryd.func16 rfl rfl (by simp [Tryd.ntmps16]) (by rintro q rfl; exact ⟨_,rfl⟩) ?_
 intro B_
 simp only [argEnv,Tryd.ntmps16,Tryd.results16]
 refine AWT.rS ?_
 refine AWT.rS ?_
 refine AWT.pre (St.le.nilcellB 0 1 5 rfl rfl) ?_
 refine AWT.pre (St.le.tcLess 0 0 (bldP false 0) rfl rfl bldP_f) ?_
 refine AWT.seq ?_
 refine AWT.rSC ?_
 refine OpsT.cs (awGuard.cvF ?_)
 refine OpsT.cN [] (FnT.ofH (h_chunk GA s)) ?_
 refine OpsT.rn ?_
 refine OpsT.nil ?_
 refine AWT.block ?_
 refine AWT.rU [0,3,4] [1] [(3,.ptr 0 0)] (fun j h k=>j = none ∧ (∃ rl lq,h = cHp s (fiveB s) (decide (0 < chunksN s.length)) (.lp lq rl)) ∧ k = 5) (xs:=[.ptr 1 0,.ptr 2 0]) (hp0:=[(0,.tc 52 [bldP false 0,.row 4 0 0]),(1,.cells [.sl (bytesAV s)]),(2,.cells [.int .i64 4]),(4,.brow 5 [])]) ?_ ?_
 ·intro Ω _ lq rb rc hr
  have hend : fiveB (s.take (chunksN s.length * 4)) = fiveB s:=by rw [List.take_of_length_le (by unfold chunksN; omega)]
  refine (chunk_B s (fun k=>(fiveB (s.take (k * 4)),decide (0 < k))) lq rc (by omega) (fun k hk=>?_)).mono (fun q hp nx hh=>by
   obtain ⟨h1,rfl,rfl⟩:=hh
   subst h1
   simp only [hend]
   exact ⟨⟨_,rfl⟩,none,rfl,rfl,⟨_,_,rfl⟩,trivial⟩)
  have hst:=chunk_step s k hk
  have hw : decide (0 < k + 1) = true:=by simp
  have hcl:=chunk_len s k
  have hcb:=fiveB_bound (s.take (k * 4))
  rw [List.length_take] at hcb
  simp only [hst,hw]
  generalize fiveB (s.take (k * 4)) = acc at *
  generalize decide (0 < k) = wr at *
  generalize chunkL s k = p at *
  rcases chunk_cases p (by omega) (by omega) with ⟨a,rfl⟩ | ⟨a,b,rfl⟩ | ⟨a,b,c,rfl⟩ | ⟨a,b,c,d,rfl⟩
  ·refine hr [_] _ 5 _ rfl rfl ?_
   refine AWT.rL ?_
   refine ⟨rfl,rfl,?_⟩
   refine AWT.block ?_
   refine AWT.rS ?_
   refine AWT.rS ?_
   refine AWT.rSC ?_
   refine OpsT.cs (awGuard.slF ?_)
   refine OpsT.rn ?_
   refine OpsT.cs (awGuard.cpT (l:=[a]) (n:=4) (by simp) ?_)
   refine OpsT.nil ?_
   refine AWT.vw [0,1,2,3,4,5] [(3,.ptr 0 0),(5,.int .i64 1),(6,.ptr 5 0)] [(0,.tc 52 [bldP wr 0,.row 4 0 acc.length]),(1,.cells [.sl (bytesAV s)]),(2,.cells [.int .i64 4]),(3,.lp lq rb),(4,.brow 5 acc),(5,.tc 56 [.int .u8 a.toNat,.int .u8 0,.int .u8 0,.int .u8 0])] (hpre:=(by decide : ∀ i,i < 4 → nth [0,1,2,3,4,5] i = some i)) ?_ ?_
   ·exact rfl
   refine AWT.seq ?_
   refine AWT.rSC ?_
   refine OpsT.cs (awGuard.gN (.bool true) ?_)
   refine OpsT.cs (awGuard.gN (.bool true) ?_)
   refine OpsT.rn ?_
   refine OpsT.nil ?_
   refine AWT.c2 ?_ ?_
   ·intro h; revert h; simp
   intro _
   refine AWT.skip ?_
   change AWT _ _ _ _ _ _ _
   refine AWT.vw [0,1,2,3,4,5] [(3,.ptr 0 0),(5,.int .i64 1),(6,.ptr 5 0)] [(0,.tc 52 [bldP wr 0,.row 4 0 acc.length]),(1,.cells [.sl (bytesAV s)]),(2,.cells [.int .i64 4]),(3,.lp lq rb),(4,.brow 5 acc),(5,.tc 56 [.int .u8 a.toNat,.int .u8 0,.int .u8 0,.int .u8 0])] (hpre:=(by decide : ∀ i,i < 4 → nth [0,1,2,3,4,5] i = some i)) (q:=True) (hhp:=by intro _; (try dsimp only) <;> (try simp only [go_sem,seval])) trivial ?_
   refine AWT.rS ?_
   rw [wrapA a,grp_or1 a]
   have hv : grp4 a 0 0 0 < 4294967296:=grp_lt _ _ _ _
   have hfin : acc ++ fiveB [a] = dg acc (grp4 a 0 0 0) 2:=by simp [dg,fiveB]
   generalize hgv : grp4 a 0 0 0 = v at *
   refine AWT.rSC ?_
   refine OpsT.cs (awGuard.slC (n:=5) (h:=2) ⟨by decide,by decide⟩ ?_)
   refine OpsT.rn ?_
   refine OpsT.nil ?_
   refine AWT.block ?_
   refine AWT.vw [0,1,2,3,4] [(3,.ptr 0 0),(7,.int .u64 v),(48,.sl [[.int .u64 52200625],[.int .u64 614125]]),(49,.int .i64 2),(50,.int .i64 0)] [(0,.tc 52 [bldP wr 0,.row 4 0 acc.length]),(1,.cells [.sl (bytesAV s)]),(2,.cells [.int .i64 4]),(3,.lp lq rb),(4,.brow 5 acc)] (hpre:=(by decide : ∀ i,i < 4 → nth [0,1,2,3,4] i = some i)) (q:=True) (hhp:=by intro _; (try dsimp only) <;> (try simp only [go_sem,seval])) trivial ?_
   refine AWT.lk (S:={ j : Nat // j ≤ 2 }) [3,7,48,49] (fun s_=>[(50,.int .i64 ((s_.1 : Nat) : Int))]) (fun s_=>[(0,.tc 52 [bldP (bw wr s_.1) 0,.row 4 0 (dg acc v s_.1).length]),(1,.cells [.sl (bytesAV s)]),(2,.cells [.int .i64 4]),(3,.lp lq rb),(4,.brow 5 (dg acc v s_.1))]) 5 (fun s_=>2 - s_.1) ⟨0,by decide⟩ ?_ ?_
   ·refine St.le.vw [0,1,2,3,4] (hpre:=(by decide : ∀ i,i < 4 → nth [0,1,2,3,4] i = some i)) 
   rintro ⟨j,hj⟩
   have hjc : j = 0 ∨ j = 1 ∨ j = 2:=by omega
   rcases hjc with rfl | rfl | rfl
   ·refine AWT.rS ?_
    refine AWT.seq ?_
    refine AWT.c2 ?_ ?_
    ·intro _
     refine AWT.skip ?_
     change AWT _ _ _ _ _ _ _
     refine AWT.seq ?_
     refine AWT.block ?_
     refine AWT.rS ?_
     refine AWT.rLC ?_
     rw [chv0 v]
     refine OpsT.cs (awGuard.cK 1 [0,4] (h_WriteByte GA (bw wr 0) (dg acc v 0) (chF v 0) (by rw [dg_len]; omega)) ?_)
     refine OpsT.nil ?_
     simp only [andThen,unblock]
     refine AWT.rL ?_
     refine ⟨⟨1,by omega⟩,?_,by simp only []; omega⟩
     refine St.le.vw [0,1,2,3,5] (hpre:=(by decide : ∀ i,i < 4 → nth [0,1,2,3,5] i = some i))
    ·intro h; revert h; simp
   ·refine AWT.rS ?_
    refine AWT.seq ?_
    refine AWT.c2 ?_ ?_
    ·intro _
     refine AWT.skip ?_
     change AWT _ _ _ _ _ _ _
     refine AWT.seq ?_
     refine AWT.block ?_
     refine AWT.rS ?_
     refine AWT.rLC ?_
     rw [chv1 v]
     refine OpsT.cs (awGuard.cK 1 [0,4] (h_WriteByte GA (bw wr 1) (dg acc v 1) (chF v 1) (by rw [dg_len]; omega)) ?_)
     refine OpsT.nil ?_
     simp only [andThen,unblock]
     refine AWT.rL ?_
     refine ⟨⟨2,by omega⟩,?_,by simp only []; omega⟩
     refine St.le.vw [0,1,2,3,5] (hpre:=(by decide : ∀ i,i < 4 → nth [0,1,2,3,5] i = some i))
    ·intro h; revert h; simp
   ·refine AWT.rS ?_
    refine AWT.seq ?_
    refine AWT.c2 ?_ ?_
    ·intro h; revert h; simp
    ·intro _
     refine AWT.exit ?_
     simp only [andThen,unblock,if_true]
     rw [hfin]
     refine ⟨none,rfl,⟨64,[],[(0,.tc 52 [bldP true 0,.row 4 0 (dg acc v 2).length]),(1,.cells [.sl (bytesAV s)]),(2,.cells [.int .i64 4]),(4,.brow 5 (dg acc v 2)),(3,.lp lq rb)],5,GA,4,[]⟩,?_,rfl,by simp only [go_sem,seval],rfl,rfl,rfl⟩
     refine St.le.vw [0,1,2,3,4] (hpre:=(by decide : ∀ i,i < 4 → nth [0,1,2,3,4] i = some i))
  ·refine hr [_] _ 5 _ rfl rfl ?_
   refine AWT.rL ?_
   refine ⟨rfl,rfl,?_⟩
   refine AWT.block ?_
   refine AWT.rS ?_
   refine AWT.rS ?_
   refine AWT.rSC ?_
   refine OpsT.cs (awGuard.slF ?_)
   refine OpsT.rn ?_
   refine OpsT.cs (awGuard.cpT (l:=[a,b]) (n:=4) (by simp) ?_)
   refine OpsT.nil ?_
   refine AWT.vw [0,1,2,3,4,5] [(3,.ptr 0 0),(5,.int .i64 2),(6,.ptr 5 0)] [(0,.tc 52 [bldP wr 0,.row 4 0 acc.length]),(1,.cells [.sl (bytesAV s)]),(2,.cells [.int .i64 4]),(3,.lp lq rb),(4,.brow 5 acc),(5,.tc 56 [.int .u8 a.toNat,.int .u8 b.toNat,.int .u8 0,.int .u8 0])] (hpre:=(by decide : ∀ i,i < 4 → nth [0,1,2,3,4,5] i = some i)) ?_ ?_
   ·exact rfl
   refine AWT.seq ?_
   refine AWT.rSC ?_
   refine OpsT.cs (awGuard.gN (.bool true) ?_)
   refine OpsT.cs (awGuard.gN (.bool true) ?_)
   refine OpsT.rn ?_
   refine OpsT.nil ?_
   refine AWT.c2 ?_ ?_
   ·intro h; revert h; simp
   intro _
   refine AWT.skip ?_
   change AWT _ _ _ _ _ _ _
   refine AWT.vw [0,1,2,3,4,5] [(3,.ptr 0 0),(5,.int .i64 2),(6,.ptr 5 0)] [(0,.tc 52 [bldP wr 0,.row 4 0 acc.length]),(1,.cells [.sl (bytesAV s)]),(2,.cells [.int .i64 4]),(3,.lp lq rb),(4,.brow 5 acc),(5,.tc 56 [.int .u8 a.toNat,.int .u8 b.toNat,.int .u8 0,.int .u8 0])] (hpre:=(by decide : ∀ i,i < 4 → nth [0,1,2,3,4,5] i = some i)) (q:=True) (hhp:=by intro _; (try dsimp only) <;> (try simp only [go_sem,seval])) trivial ?_
   refine AWT.rS ?_
   rw [wrapA a,wrapA b,grp_or2 a b]
   have hv : grp4 a b 0 0 < 4294967296:=grp_lt _ _ _ _
   have hfin : acc ++ fiveB [a,b] = dg acc (grp4 a b 0 0) 3:=by simp [dg,fiveB]
   generalize hgv : grp4 a b 0 0 = v at *
   refine AWT.rSC ?_
   refine OpsT.cs (awGuard.slC (n:=5) (h:=3) ⟨by decide,by decide⟩ ?_)
   refine OpsT.rn ?_
   refine OpsT.nil ?_
   refine AWT.block ?_
   refine AWT.vw [0,1,2,3,4] [(3,.ptr 0 0),(7,.int .u64 v),(48,.sl [[.int .u64 52200625],[.int .u64 614125],[.int .u64 7225]]),(49,.int .i64 3),(50,.int .i64 0)] [(0,.tc 52 [bldP wr 0,.row 4 0 acc.length]),(1,.cells [.sl (bytesAV s)]),(2,.cells [.int .i64 4]),(3,.lp lq rb),(4,.brow 5 acc)] (hpre:=(by decide : ∀ i,i < 4 → nth [0,1,2,3,4] i = some i)) (q:=True) (hhp:=by intro _; (try dsimp only) <;> (try simp only [go_sem,seval])) trivial ?_
   refine AWT.lk (S:={ j : Nat // j ≤ 3 }) [3,7,48,49] (fun s_=>[(50,.int .i64 ((s_.1 : Nat) : Int))]) (fun s_=>[(0,.tc 52 [bldP (bw wr s_.1) 0,.row 4 0 (dg acc v s_.1).length]),(1,.cells [.sl (bytesAV s)]),(2,.cells [.int .i64 4]),(3,.lp lq rb),(4,.brow 5 (dg acc v s_.1))]) 5 (fun s_=>3 - s_.1) ⟨0,by decide⟩ ?_ ?_
   ·refine St.le.vw [0,1,2,3,4] (hpre:=(by decide : ∀ i,i < 4 → nth [0,1,2,3,4] i = some i)) 
   rintro ⟨j,hj⟩
   have hjc : j = 0 ∨ j = 1 ∨ j = 2 ∨ j = 3:=by omega
   rcases hjc with rfl | rfl | rfl | rfl
   ·refine AWT.rS ?_
    refine AWT.seq ?_
    refine AWT.c2 ?_ ?_
    ·intro _
     refine AWT.skip ?_
     change AWT _ _ _ _ _ _ _
     refine AWT.seq ?_
     refine AWT.block ?_
     refine AWT.rS ?_
     refine AWT.rLC ?_
     rw [chv0 v]
     refine OpsT.cs (awGuard.cK 1 [0,4] (h_WriteByte GA (bw wr 0) (dg acc v 0) (chF v 0) (by rw [dg_len]; omega)) ?_)
     refine OpsT.nil ?_
     simp only [andThen,unblock]
     refine AWT.rL ?_
     refine ⟨⟨1,by omega⟩,?_,by simp only []; omega⟩
     refine St.le.vw [0,1,2,3,5] (hpre:=(by decide : ∀ i,i < 4 → nth [0,1,2,3,5] i = some i))
    ·intro h; revert h; simp
   ·refine AWT.rS ?_
    refine AWT.seq ?_
    refine AWT.c2 ?_ ?_
    ·intro _
     refine AWT.skip ?_
     change AWT _ _ _ _ _ _ _
     refine AWT.seq ?_
     refine AWT.block ?_
     refine AWT.rS ?_
     refine AWT.rLC ?_
     rw [chv1 v]
     refine OpsT.cs (awGuard.cK 1 [0,4] (h_WriteByte GA (bw wr 1) (dg acc v 1) (chF v 1) (by rw [dg_len]; omega)) ?_)
     refine OpsT.nil ?_
     simp only [andThen,unblock]
     refine AWT.rL ?_
     refine ⟨⟨2,by omega⟩,?_,by simp only []; omega⟩
     refine St.le.vw [0,1,2,3,5] (hpre:=(by decide : ∀ i,i < 4 → nth [0,1,2,3,5] i = some i))
    ·intro h; revert h; simp
   ·refine AWT.rS ?_
    refine AWT.seq ?_
    refine AWT.c2 ?_ ?_
    ·intro _
     refine AWT.skip ?_
     change AWT _ _ _ _ _ _ _
     refine AWT.seq ?_
     refine AWT.block ?_
     refine AWT.rS ?_
     refine AWT.rLC ?_
     rw [chv2 v]
     refine OpsT.cs (awGuard.cK 1 [0,4] (h_WriteByte GA (bw wr 2) (dg acc v 2) (chF v 2) (by rw [dg_len]; omega)) ?_)
     refine OpsT.nil ?_
     simp only [andThen,unblock]
     refine AWT.rL ?_
     refine ⟨⟨3,by omega⟩,?_,by simp only []; omega⟩
     refine St.le.vw [0,1,2,3,5] (hpre:=(by decide : ∀ i,i < 4 → nth [0,1,2,3,5] i = some i))
    ·intro h; revert h; simp
   ·refine AWT.rS ?_
    refine AWT.seq ?_
    refine AWT.c2 ?_ ?_
    ·intro h; revert h; simp
    ·intro _
     refine AWT.exit ?_
     simp only [andThen,unblock,if_true]
     rw [hfin]
     refine ⟨none,rfl,⟨64,[],[(0,.tc 52 [bldP true 0,.row 4 0 (dg acc v 3).length]),(1,.cells [.sl (bytesAV s)]),(2,.cells [.int .i64 4]),(4,.brow 5 (dg acc v 3)),(3,.lp lq rb)],5,GA,4,[]⟩,?_,rfl,by simp only [go_sem,seval],rfl,rfl,rfl⟩
     refine St.le.vw [0,1,2,3,4] (hpre:=(by decide : ∀ i,i < 4 → nth [0,1,2,3,4] i = some i))
  ·refine hr [_] _ 5 _ rfl rfl ?_
   refine AWT.rL ?_
   refine ⟨rfl,rfl,?_⟩
   refine AWT.block ?_
   refine AWT.rS ?_
   refine AWT.rS ?_
   refine AWT.rSC ?_
   refine OpsT.cs (awGuard.slF ?_)
   refine OpsT.rn ?_
   refine OpsT.cs (awGuard.cpT (l:=[a,b,c]) (n:=4) (by simp) ?_)
   refine OpsT.nil ?_
   refine AWT.vw [0,1,2,3,4,5] [(3,.ptr 0 0),(5,.int .i64 3),(6,.ptr 5 0)] [(0,.tc 52 [bldP wr 0,.row 4 0 acc.length]),(1,.cells [.sl (bytesAV s)]),(2,.cells [.int .i64 4]),(3,.lp lq rb),(4,.brow 5 acc),(5,.tc 56 [.int .u8 a.toNat,.int .u8 b.toNat,.int .u8 c.toNat,.int .u8 0])] (hpre:=(by decide : ∀ i,i < 4 → nth [0,1,2,3,4,5] i = some i)) ?_ ?_
   ·exact rfl
   refine AWT.seq ?_
   refine AWT.rSC ?_
   refine OpsT.cs (awGuard.gN (.bool true) ?_)
   refine OpsT.cs (awGuard.gN (.bool true) ?_)
   refine OpsT.rn ?_
   refine OpsT.nil ?_
   refine AWT.c2 ?_ ?_
   ·intro h; revert h; simp
   intro _
   refine AWT.skip ?_
   change AWT _ _ _ _ _ _ _
   refine AWT.vw [0,1,2,3,4,5] [(3,.ptr 0 0),(5,.int .i64 3),(6,.ptr 5 0)] [(0,.tc 52 [bldP wr 0,.row 4 0 acc.length]),(1,.cells [.sl (bytesAV s)]),(2,.cells [.int .i64 4]),(3,.lp lq rb),(4,.brow 5 acc),(5,.tc 56 [.int .u8 a.toNat,.int .u8 b.toNat,.int .u8 c.toNat,.int .u8 0])] (hpre:=(by decide : ∀ i,i < 4 → nth [0,1,2,3,4,5] i = some i)) (q:=True) (hhp:=by intro _; (try dsimp only) <;> (try simp only [go_sem,seval])) trivial ?_
   refine AWT.rS ?_
   rw [wrapA a,wrapA b,wrapA c,grp_or3 a b c]
   have hv : grp4 a b c 0 < 4294967296:=grp_lt _ _ _ _
   have hfin : acc ++ fiveB [a,b,c] = dg acc (grp4 a b c 0) 4:=by simp [dg,fiveB]
   generalize hgv : grp4 a b c 0 = v at *
   refine AWT.rSC ?_
   refine OpsT.cs (awGuard.slC (n:=5) (h:=4) ⟨by decide,by decide⟩ ?_)
   refine OpsT.rn ?_
   refine OpsT.nil ?_
   refine AWT.block ?_
   refine AWT.vw [0,1,2,3,4] [(3,.ptr 0 0),(7,.int .u64 v),(48,.sl [[.int .u64 52200625],[.int .u64 614125],[.int .u64 7225],[.int .u64 85]]),(49,.int .i64 4),(50,.int .i64 0)] [(0,.tc 52 [bldP wr 0,.row 4 0 acc.length]),(1,.cells [.sl (bytesAV s)]),(2,.cells [.int .i64 4]),(3,.lp lq rb),(4,.brow 5 acc)] (hpre:=(by decide : ∀ i,i < 4 → nth [0,1,2,3,4] i = some i)) (q:=True) (hhp:=by intro _; (try dsimp only) <;> (try simp only [go_sem,seval])) trivial ?_
   refine AWT.lk (S:={ j : Nat // j ≤ 4 }) [3,7,48,49] (fun s_=>[(50,.int .i64 ((s_.1 : Nat) : Int))]) (fun s_=>[(0,.tc 52 [bldP (bw wr s_.1) 0,.row 4 0 (dg acc v s_.1).length]),(1,.cells [.sl (bytesAV s)]),(2,.cells [.int .i64 4]),(3,.lp lq rb),(4,.brow 5 (dg acc v s_.1))]) 5 (fun s_=>4 - s_.1) ⟨0,by decide⟩ ?_ ?_
   ·refine St.le.vw [0,1,2,3,4] (hpre:=(by decide : ∀ i,i < 4 → nth [0,1,2,3,4] i = some i)) 
   rintro ⟨j,hj⟩
   have hjc : j = 0 ∨ j = 1 ∨ j = 2 ∨ j = 3 ∨ j = 4:=by omega
   rcases hjc with rfl | rfl | rfl | rfl | rfl
   ·refine AWT.rS ?_
    refine AWT.seq ?_
    refine AWT.c2 ?_ ?_
    ·intro _
     refine AWT.skip ?_
     change AWT _ _ _ _ _ _ _
     refine AWT.seq ?_
     refine AWT.block ?_
     refine AWT.rS ?_
     refine AWT.rLC ?_
     rw [chv0 v]
     refine OpsT.cs (awGuard.cK 1 [0,4] (h_WriteByte GA (bw wr 0) (dg acc v 0) (chF v 0) (by rw [dg_len]; omega)) ?_)
     refine OpsT.nil ?_
     simp only [andThen,unblock]
     refine AWT.rL ?_
     refine ⟨⟨1,by omega⟩,?_,by simp only []; omega⟩
     refine St.le.vw [0,1,2,3,5] (hpre:=(by decide : ∀ i,i < 4 → nth [0,1,2,3,5] i = some i))
    ·intro h; revert h; simp
   ·refine AWT.rS ?_
    refine AWT.seq ?_
    refine AWT.c2 ?_ ?_
    ·intro _
     refine AWT.skip ?_
     change AWT _ _ _ _ _ _ _
     refine AWT.seq ?_
     refine AWT.block ?_
     refine AWT.rS ?_
     refine AWT.rLC ?_
     rw [chv1 v]
     refine OpsT.cs (awGuard.cK 1 [0,4] (h_WriteByte GA (bw wr 1) (dg acc v 1) (chF v 1) (by rw [dg_len]; omega)) ?_)
     refine OpsT.nil ?_
     simp only [andThen,unblock]
     refine AWT.rL ?_
     refine ⟨⟨2,by omega⟩,?_,by simp only []; omega⟩
     refine St.le.vw [0,1,2,3,5] (hpre:=(by decide : ∀ i,i < 4 → nth [0,1,2,3,5] i = some i))
    ·intro h; revert h; simp
   ·refine AWT.rS ?_
    refine AWT.seq ?_
    refine AWT.c2 ?_ ?_
    ·intro _
     refine AWT.skip ?_
     change AWT _ _ _ _ _ _ _
     refine AWT.seq ?_
     refine AWT.block ?_
     refine AWT.rS ?_
     refine AWT.rLC ?_
     rw [chv2 v]
     refine OpsT.cs (awGuard.cK 1 [0,4] (h_WriteByte GA (bw wr 2) (dg acc v 2) (chF v 2) (by rw [dg_len]; omega)) ?_)
     refine OpsT.nil ?_
     simp only [andThen,unblock]
     refine AWT.rL ?_
     refine ⟨⟨3,by omega⟩,?_,by simp only []; omega⟩
     refine St.le.vw [0,1,2,3,5] (hpre:=(by decide : ∀ i,i < 4 → nth [0,1,2,3,5] i = some i))
    ·intro h; revert h; simp
   ·refine AWT.rS ?_
    refine AWT.seq ?_
    refine AWT.c2 ?_ ?_
    ·intro _
     refine AWT.skip ?_
     change AWT _ _ _ _ _ _ _
     refine AWT.seq ?_
     refine AWT.block ?_
     refine AWT.rS ?_
     refine AWT.rLC ?_
     rw [chv3 v]
     refine OpsT.cs (awGuard.cK 1 [0,4] (h_WriteByte GA (bw wr 3) (dg acc v 3) (chF v 3) (by rw [dg_len]; omega)) ?_)
     refine OpsT.nil ?_
     simp only [andThen,unblock]
     refine AWT.rL ?_
     refine ⟨⟨4,by omega⟩,?_,by simp only []; omega⟩
     refine St.le.vw [0,1,2,3,5] (hpre:=(by decide : ∀ i,i < 4 → nth [0,1,2,3,5] i = some i))
    ·intro h; revert h; simp
   ·refine AWT.rS ?_
    refine AWT.seq ?_
    refine AWT.c2 ?_ ?_
    ·intro h; revert h; simp
    ·intro _
     refine AWT.exit ?_
     simp only [andThen,unblock,if_true]
     rw [hfin]
     refine ⟨none,rfl,⟨64,[],[(0,.tc 52 [bldP true 0,.row 4 0 (dg acc v 4).length]),(1,.cells [.sl (bytesAV s)]),(2,.cells [.int .i64 4]),(4,.brow 5 (dg acc v 4)),(3,.lp lq rb)],5,GA,4,[]⟩,?_,rfl,by simp only [go_sem,seval],rfl,rfl,rfl⟩
     refine St.le.vw [0,1,2,3,4] (hpre:=(by decide : ∀ i,i < 4 → nth [0,1,2,3,4] i = some i))
  ·refine hr [_] _ 5 _ rfl rfl ?_
   refine AWT.rL ?_
   refine ⟨rfl,rfl,?_⟩
   refine AWT.block ?_
   refine AWT.rS ?_
   refine AWT.rS ?_
   refine AWT.rSC ?_
   refine OpsT.cs (awGuard.slF ?_)
   refine OpsT.rn ?_
   refine OpsT.cs (awGuard.cpT (l:=[a,b,c,d]) (n:=4) (by simp) ?_)
   refine OpsT.nil ?_
   refine AWT.vw [0,1,2,3,4,5] [(3,.ptr 0 0),(5,.int .i64 4),(6,.ptr 5 0)] [(0,.tc 52 [bldP wr 0,.row 4 0 acc.length]),(1,.cells [.sl (bytesAV s)]),(2,.cells [.int .i64 4]),(3,.lp lq rb),(4,.brow 5 acc),(5,.tc 56 [.int .u8 a.toNat,.int .u8 b.toNat,.int .u8 c.toNat,.int .u8 d.toNat])] (hpre:=(by decide : ∀ i,i < 4 → nth [0,1,2,3,4,5] i = some i)) ?_ ?_
   ·exact rfl
   refine AWT.seq ?_
   refine AWT.rSC ?_
   refine OpsT.cs (awGuard.gT ?_)
   refine OpsT.cs (awGuard.eqG (eqs_four a b c d) ?_)
   refine OpsT.rn ?_
   refine OpsT.nil ?_
   refine AWT.c2 ?_ ?_
   ·intro h26
    have hz : grp4 a b c d = 0:=by simpa using h26
    have hfin : acc ++ fiveB [a,b,c,d] = acc ++ [122]:=by simp [fiveB,hz]
    rw [hfin]
    refine AWT.rSC ?_
    refine OpsT.cs (awGuard.cK 1 [0,4] (h_WriteByte GA wr acc 122 (by omega)) ?_)
    refine OpsT.nil ?_
    refine AWT.exit ?_
    simp only [andThen,unblock,if_true]
    refine ⟨none,rfl,⟨64,[],[(0,.tc 52 [bldP true 0,.row 4 0 (acc ++ [122]).length]),(1,.cells [.sl (bytesAV s)]),(2,.cells [.int .i64 4]),(4,.brow 5 (acc ++ [122])),(3,.lp lq rb)],5,GA,4,[]⟩,?_,rfl,by simp only [go_sem,seval],rfl,rfl,rfl⟩
    refine St.le.vw [0,1,2,3,6] (hpre:=(by decide : ∀ i,i < 4 → nth [0,1,2,3,6] i = some i))
   ·intro h26
    have hnz : ¬ grp4 a b c d = 0:=by simpa using h26
    refine AWT.skip ?_
    change AWT _ _ _ _ _ _ _
    refine AWT.vw [0,1,2,3,4,5] [(3,.ptr 0 0),(5,.int .i64 4),(6,.ptr 5 0)] [(0,.tc 52 [bldP wr 0,.row 4 0 acc.length]),(1,.cells [.sl (bytesAV s)]),(2,.cells [.int .i64 4]),(3,.lp lq rb),(4,.brow 5 acc),(5,.tc 56 [.int .u8 a.toNat,.int .u8 b.toNat,.int .u8 c.toNat,.int .u8 d.toNat])] (hpre:=(by decide : ∀ i,i < 4 → nth [0,1,2,3,4,5] i = some i)) (q:=True) (hhp:=by intro _; (try dsimp only) <;> (try simp only [go_sem,seval])) trivial ?_
    refine AWT.rS ?_
    rw [wrapA a,wrapA b,wrapA c,wrapA d,grp_or a b c d]
    have hv : grp4 a b c d < 4294967296:=grp_lt _ _ _ _
    have hfin : acc ++ fiveB [a,b,c,d] = dg acc (grp4 a b c d) 5:=by simp [dg,fiveB,hnz]
    generalize hgv : grp4 a b c d = v at *
    refine AWT.rSC ?_
    refine OpsT.cs (awGuard.slC (n:=5) (h:=5) ⟨by decide,by decide⟩ ?_)
    refine OpsT.rn ?_
    refine OpsT.nil ?_
    refine AWT.block ?_
    refine AWT.vw [0,1,2,3,4] [(3,.ptr 0 0),(7,.int .u64 v),(48,.sl [[.int .u64 52200625],[.int .u64 614125],[.int .u64 7225],[.int .u64 85],[.int .u64 1]]),(49,.int .i64 5),(50,.int .i64 0)] [(0,.tc 52 [bldP wr 0,.row 4 0 acc.length]),(1,.cells [.sl (bytesAV s)]),(2,.cells [.int .i64 4]),(3,.lp lq rb),(4,.brow 5 acc)] (hpre:=(by decide : ∀ i,i < 4 → nth [0,1,2,3,4] i = some i)) (q:=True) (hhp:=by intro _; (try dsimp only) <;> (try simp only [go_sem,seval])) trivial ?_
    refine AWT.lk (S:={ j : Nat // j ≤ 5 }) [3,7,48,49] (fun s_=>[(50,.int .i64 ((s_.1 : Nat) : Int))]) (fun s_=>[(0,.tc 52 [bldP (bw wr s_.1) 0,.row 4 0 (dg acc v s_.1).length]),(1,.cells [.sl (bytesAV s)]),(2,.cells [.int .i64 4]),(3,.lp lq rb),(4,.brow 5 (dg acc v s_.1))]) 5 (fun s_=>5 - s_.1) ⟨0,by decide⟩ ?_ ?_
    ·refine St.le.vw [0,1,2,3,4] (hpre:=(by decide : ∀ i,i < 4 → nth [0,1,2,3,4] i = some i)) 
    rintro ⟨j,hj⟩
    have hjc : j = 0 ∨ j = 1 ∨ j = 2 ∨ j = 3 ∨ j = 4 ∨ j = 5:=by omega
    rcases hjc with rfl | rfl | rfl | rfl | rfl | rfl
    ·refine AWT.rS ?_
     refine AWT.seq ?_
     refine AWT.c2 ?_ ?_
     ·intro _
      refine AWT.skip ?_
      change AWT _ _ _ _ _ _ _
      refine AWT.seq ?_
      refine AWT.block ?_
      refine AWT.rS ?_
      refine AWT.rLC ?_
      rw [chv0 v]
      refine OpsT.cs (awGuard.cK 1 [0,4] (h_WriteByte GA (bw wr 0) (dg acc v 0) (chF v 0) (by rw [dg_len]; omega)) ?_)
      refine OpsT.nil ?_
      simp only [andThen,unblock]
      refine AWT.rL ?_
      refine ⟨⟨1,by omega⟩,?_,by simp only []; omega⟩
      refine St.le.vw [0,1,2,3,5] (hpre:=(by decide : ∀ i,i < 4 → nth [0,1,2,3,5] i = some i))
     ·intro h; revert h; simp
    ·refine AWT.rS ?_
     refine AWT.seq ?_
     refine AWT.c2 ?_ ?_
     ·intro _
      refine AWT.skip ?_
      change AWT _ _ _ _ _ _ _
      refine AWT.seq ?_
      refine AWT.block ?_
      refine AWT.rS ?_
      refine AWT.rLC ?_
      rw [chv1 v]
      refine OpsT.cs (awGuard.cK 1 [0,4] (h_WriteByte GA (bw wr 1) (dg acc v 1) (chF v 1) (by rw [dg_len]; omega)) ?_)
      refine OpsT.nil ?_
      simp only [andThen,unblock]
      refine AWT.rL ?_
      refine ⟨⟨2,by omega⟩,?_,by simp only []; omega⟩
      refine St.le.vw [0,1,2,3,5] (hpre:=(by decide : ∀ i,i < 4 → nth [0,1,2,3,5] i = some i))
     ·intro h; revert h; simp
    ·refine AWT.rS ?_
     refine AWT.seq ?_
     refine AWT.c2 ?_ ?_
     ·intro _
      refine AWT.skip ?_
      change AWT _ _ _ _ _ _ _
      refine AWT.seq ?_
      refine AWT.block ?_
      refine AWT.rS ?_
      refine AWT.rLC ?_
      rw [chv2 v]
      refine OpsT.cs (awGuard.cK 1 [0,4] (h_WriteByte GA (bw wr 2) (dg acc v 2) (chF v 2) (by rw [dg_len]; omega)) ?_)
      refine OpsT.nil ?_
      simp only [andThen,unblock]
      refine AWT.rL ?_
      refine ⟨⟨3,by omega⟩,?_,by simp only []; omega⟩
      refine St.le.vw [0,1,2,3,5] (hpre:=(by decide : ∀ i,i < 4 → nth [0,1,2,3,5] i = some i))
     ·intro h; revert h; simp
    ·refine AWT.rS ?_
     refine AWT.seq ?_
     refine AWT.c2 ?_ ?_
     ·intro _
      refine AWT.skip ?_
      change AWT _ _ _ _ _ _ _
      refine AWT.seq ?_
      refine AWT.block ?_
      refine AWT.rS ?_
      refine AWT.rLC ?_
      rw [chv3 v]
      refine OpsT.cs (awGuard.cK 1 [0,4] (h_WriteByte GA (bw wr 3) (dg acc v 3) (chF v 3) (by rw [dg_len]; omega)) ?_)
      refine OpsT.nil ?_
      simp only [andThen,unblock]
      refine AWT.rL ?_
      refine ⟨⟨4,by omega⟩,?_,by simp only []; omega⟩
      refine St.le.vw [0,1,2,3,5] (hpre:=(by decide : ∀ i,i < 4 → nth [0,1,2,3,5] i = some i))
     ·intro h; revert h; simp
    ·refine AWT.rS ?_
     refine AWT.seq ?_
     refine AWT.c2 ?_ ?_
     ·intro _
      refine AWT.skip ?_
      change AWT _ _ _ _ _ _ _
      refine AWT.seq ?_
      refine AWT.block ?_
      refine AWT.rS ?_
      refine AWT.rLC ?_
      rw [chv4 v]
      refine OpsT.cs (awGuard.cK 1 [0,4] (h_WriteByte GA (bw wr 4) (dg acc v 4) (chF v 4) (by rw [dg_len]; omega)) ?_)
      refine OpsT.nil ?_
      simp only [andThen,unblock]
      refine AWT.rL ?_
      refine ⟨⟨5,by omega⟩,?_,by simp only []; omega⟩
      refine St.le.vw [0,1,2,3,5] (hpre:=(by decide : ∀ i,i < 4 → nth [0,1,2,3,5] i = some i))
     ·intro h; revert h; simp
    ·refine AWT.rS ?_
     refine AWT.seq ?_
     refine AWT.c2 ?_ ?_
     ·intro h; revert h; simp
     ·intro _
      refine AWT.exit ?_
      simp only [andThen,unblock,if_true]
      rw [hfin]
      refine ⟨none,rfl,⟨64,[],[(0,.tc 52 [bldP true 0,.row 4 0 (dg acc v 5).length]),(1,.cells [.sl (bytesAV s)]),(2,.cells [.int .i64 4]),(4,.brow 5 (dg acc v 5)),(3,.lp lq rb)],5,GA,4,[]⟩,?_,rfl,by simp only [go_sem,seval],rfl,rfl,rfl⟩
      refine St.le.vw [0,1,2,3,4] (hpre:=(by decide : ∀ i,i < 4 → nth [0,1,2,3,4] i = some i))
 ·rintro j hp' nx' ⟨rfl,⟨rl,lq,rfl⟩,rfl⟩
  refine ⟨by simp only [go_sem,seval],?_⟩
  have hfl:=fiveB_bound s
  show unblock 0 _ .normal _
  simp only [unblock,andThen]
  refine AWT.rSC ?_
  refine OpsT.cN [0,6] (FnT.ofH (h_Builder_String GA (bldP (decide (0 < chunksN s.length)) 0) (fiveB s) (by omega))) ?_
  refine OpsT.rn ?_
  refine OpsT.nil ?_
  refine AWT.rt ?_
  exact rfl
end Go.Proofs

namespace Go.Proofs
open Go Aw
set_option linter.unusedSimpArgs false
set_option linter.unusedVariables false
set_option maxRecDepth 100000
set_option maxHeartbeats 4000000
attribute [local go_sem] bytesAV_append List.length_append
theorem h_Unrun1 (gl : List (Nat × AV)) (s : List UInt8) (M : Nat) (hs : s.length ≤ 16777216) (hM : M ≤ 1048576) : FnK Tryd.prog (gl) 34 [.str s,.ptr 0 0] ([(0,.cells [.row 1 0 0,.int .i64 M]),(1,.row 1 [] true)]) 2 1 (fun r h n=>(((unrunS M s []).2 = .ok) ∧ r = .ret (.tup []) ∧ h = [(0,.cells [.row 1 0 (unrunS M s []).1.length,.int .i64 M]),(1,.row 1 (bytesAV (unrunS M s []).1) true)] ∧ n = 2) ∨ (¬ ((unrunS M s []).2 = .ok) ∧ r = .panic (.iface 70 (.agg [.int .i64 (errI (unrunS M s []).2)])) ∧ 1 ≤ n)):=by
 refine FnK.intro Tryd.func34 rfl rfl (by simp [Tryd.ntmps34]) ?_
 simp only [argEnv,Tryd.ntmps34,Tryd.results34]
 refine AW.block ?_
 refine AW.lk (S:={ p : List UInt8 × List UInt8 // p.1.length ≤ s.length ∧ p.2.length ≤ M ∧ unrunS M s [] = unrunS M p.1 p.2 }) [1] (fun s_=>[(0,.str s_.1.1)]) (fun s_=>[(0,.cells [.row 1 0 s_.1.2.length,.int .i64 M]),(1,.row 1 (bytesAV s_.1.2) true)]) 2 (fun s_=>s_.1.1.length) ⟨(s,[]),Nat.le_refl _,Nat.zero_le _,rfl⟩ ?_ ?_
 ·refine St.le.vw [0,1]
 rintro ⟨⟨t,out⟩,ht,hl,hsp⟩
 try dsimp only at ht
 try dsimp only at hl
 try dsimp only at hsp
 refine AW.block ?_
 refine AW.rSC ?_
 refine awOps.cons (awGuard.cM (c_ascii_need _ _ 4) ?_ ?_)
 ·intro hp5
  refine wk ?_
  have e:=hsp.trans (by rw [show t = [] from hp5,unrunS_nil] : unrunS M t out = ([],AErr.ending))
  rw [e]
  first | exact .inr ⟨by decide,rfl,by omega⟩ | (simp [errI]; done) | (simp [errI]; omega)
 intro hm5
 have h5 : t ≠ []:=hm5
 have htl : 0 < t.length:=List.length_pos_iff.2 h5
 have hcb:=u8_le (t.getD 0 0)
 have hdl : (t.drop 1).length = t.length - 1:=List.length_drop
 refine awOps.rn ?_
 refine AW.rS ?_
 refine AW.rS ?_
 refine AW.block ?_
 refine AW.rS ?_
 refine AW.c2 ?_ ?_
 ·intro h11
  refine AW.rt ?_
  have e:=hsp.trans (ur_stop h5 h11)
  rw [e]
  simp
 ·intro h11
  refine AW.rS ?_
  refine AW.c2 ?_ ?_
  ·intro h15
   refine AW.rSC ?_
   refine awOps.cons (awGuard.cM (c_ascii_need _ _ 4) ?_ ?_)
   ·intro hp17
    refine wk ?_
    have e:=hsp.trans ((ur_lit h5 h15).trans (if_pos (by omega)))
    rw [e]
    first | exact .inr ⟨by decide,rfl,by omega⟩ | (simp [errI]; done) | (simp [errI]; omega)
   intro hm17
   refine awOps.rn ?_
   refine AW.rSC ?_
   refine awOps.cons ?_
   refine awGuard.cvF  ?_
   refine awOps.rn ?_
   have htk : ((t.drop 1).take ((t.getD 0 0).toNat + 1)).length = (t.getD 0 0).toNat + 1:=by rw [List.length_take]; omega
   refine awOps.cons (awGuard.cKM 1 [0,1] (h_put_s _ out ((t.drop 1).take ((t.getD 0 0).toNat + 1)) M (by omega) (by simp; omega)) ?_ ?_)
   ·intro hp22 n22 hn22
    refine wk ?_
    have e:=hsp.trans ((ur_lit h5 h15).trans ((if_neg (by omega)).trans (if_neg (by omega))))
    rw [e]
    first | exact .inr ⟨by decide,rfl,by omega⟩ | (simp [errI]; done) | (simp [errI]; omega)
   intro hm22
   refine awOps.rn ?_
   refine AW.rL ?_
   refine ⟨⟨((t.drop 1).drop ((t.getD 0 0).toNat + 1),out ++ (t.drop 1).take ((t.getD 0 0).toNat + 1)),by show ((t.drop 1).drop _).length ≤ _; rw [List.length_drop]; omega,by show (out ++ _).length ≤ M; rw [List.length_append]; omega,hsp.trans ((ur_lit h5 h15).trans ((if_neg (by omega)).trans (if_pos (by omega))))⟩,?_,?_⟩
   ·refine St.le.vw [0,3]
   ·show ((t.drop 1).drop _).length < t.length; rw [List.length_drop]; omega
  ·intro h15
   refine AW.rSC ?_
   refine awOps.cons (awGuard.cM (c_ascii_need _ _ 4) ?_ ?_)
   ·intro hp27
    refine wk ?_
    have e:=hsp.trans (ur_rep0 h5 (by omega) hp27)
    rw [e]
    first | exact .inr ⟨by decide,rfl,by omega⟩ | (simp [errI]; done) | (simp [errI]; omega)
   intro hm27
   have h27 : t.drop 1 ≠ []:=hm27
   have htl2 : 0 < (t.drop 1).length:=List.length_pos_iff.2 h27
   refine awOps.rn ?_
   refine AW.rSC ?_
   rw [take_one h27,show (257 - (((t.getD 0 0).toNat : Nat) : Int)) = ((257 - (t.getD 0 0).toNat : Nat) : Int) by omega]
   refine awOps.cons (awGuard.c1 (c_strings_Repeat _ [(t.drop 1).getD 0 0] (257 - (t.getD 0 0).toNat) (by simp; omega) (by omega)) ?_)
   refine awOps.rn ?_
   refine awOps.cons ?_
   refine awGuard.cvF  ?_
   refine awOps.rn ?_
   rw [repeat_one]
   have hrl : (List.replicate (257 - (t.getD 0 0).toNat) ((t.drop 1).getD 0 0)).length = 257 - (t.getD 0 0).toNat:=List.length_replicate
   refine awOps.cons (awGuard.cKM 1 [0,1] (h_put_s _ out (List.replicate (257 - (t.getD 0 0).toNat) ((t.drop 1).getD 0 0)) M (by omega) (by simp; omega)) ?_ ?_)
   ·intro hp34 n34 hn34
    refine wk ?_
    have e:=hsp.trans ((ur_rep h5 (by omega) h27).trans (if_neg (by omega)))
    rw [e]
    first | exact .inr ⟨by decide,rfl,by omega⟩ | (simp [errI]; done) | (simp [errI]; omega)
   intro hm34
   refine awOps.rn ?_
   refine AW.rL ?_
   refine ⟨⟨((t.drop 1).drop 1,out ++ List.replicate (257 - (t.getD 0 0).toNat) ((t.drop 1).getD 0 0)),by show ((t.drop 1).drop _).length ≤ _; rw [List.length_drop]; omega,by show (out ++ _).length ≤ M; rw [List.length_append]; omega,hsp.trans ((ur_rep h5 (by omega) h27).trans (if_pos (by omega)))⟩,?_,?_⟩
   ·refine St.le.vw [0,3]
   ·show ((t.drop 1).drop _).length < t.length; rw [List.length_drop]; omega
theorem c_ascii_Unrun (gl : List (Nat × AV)) (s : List UInt8) (most : Int) (hs : s.length ≤ 16777216) : FnP Tryd.prog (gl) 12 [.str s,.int .i64 most] fun r=>r = .ret (.tup [.str (unrunD s most).1,.int .i64 (errI (unrunD s most).2)]):=by
 refine FnP.intro Tryd.func12 rfl rfl (by simp [Tryd.ntmps12]) ?_
 simp only [argEnv,Tryd.ntmps12,Tryd.results12]
 refine AW.rS ?_
 refine AW.rSC ?_
 refine awOps.cons (awGuard.c1 (c_ascii_unpacked _ s most _ (fun M=>unrunS M s []) (fun M hM=>h_Unrun1 _ s M hs hM) (fun M=>ur_fail M _ s [] (Nat.le_refl _))) ?_)
 refine awOps.rn ?_
 refine AW.rt ?_
 rfl
end Go.Proofs

namespace Aw
theorem grp_put {l : List Nat} {v : Nat} {x : Int} (hl : l.length ≤ 4) (hx : x = v) : splice (grpC l) (l.length * 1) [AV.int .u8 x] =
  [.int .u8 ((l ++ [v]).getD 0 0 : Nat),.int .u8 ((l ++ [v]).getD 1 0 : Nat),.int .u8 ((l ++ [v]).getD 2 0 : Nat),.int .u8 ((l ++ [v]).getD 3 0 : Nat),.int .u8 ((l ++ [v]).getD 4 0 : Nat),.int .i64 (l.length : Nat)]:=by
 subst hx
 match l,hl with
 | [],_=>rfl
 | [a],_=>rfl
 | [a,b],_=>rfl
 | [a,b,c],_=>rfl
 | [a,b,c,d],_=>rfl
 | _ :: _ :: _ :: _ :: _ :: _,hl=>exact absurd hl (by simp)
end Aw
namespace Go.Proofs
open Go Aw
set_option linter.unusedSimpArgs false
set_option linter.unusedVariables false
set_option maxRecDepth 100000
set_option maxHeartbeats 4000000
attribute [local irreducible] val5 unfiveS
attribute [local go_sem] bytesAV_append List.length_append GA
theorem h_Unfive1 (s : List UInt8) (M : Nat) (hs : s.length ≤ 16777216) (hM : M ≤ 1048576) : FnK Tryd.prog (GA) 28 [.str s,.ptr 0 0] ([(0,.cells [.row 1 0 0,.int .i64 M]),(1,.row 1 [] true)]) 2 1 (fun r h n=>(((unfiveS M s [] []).2 = .ok) ∧ r = .ret (.tup []) ∧ h = [(0,.cells [.row 1 0 (unfiveS M s [] []).1.length,.int .i64 M]),(1,.row 1 (bytesAV (unfiveS M s [] []).1) true)] ∧ n = 2) ∨ (¬ ((unfiveS M s [] []).2 = .ok) ∧ r = .panic (.iface 70 (.agg [.int .i64 (errI (unfiveS M s [] []).2)])) ∧ 1 ≤ n)):=by
 refine FnK.intro Tryd.func28 rfl rfl (by simp [Tryd.ntmps28]) ?_
 simp only [argEnv,Tryd.ntmps28,Tryd.results28]
 refine AW.rS ?_
 refine AW.trim [0,1,4] ?_
 refine AW.seq ?_
 refine AW.rS ?_
 refine AW.trim [0,1,4,8,9] ?_
 refine AW.block ?_
 refine AW.lk (S:={ p : Nat × List Nat × List UInt8 // p.1 ≤ s.length ∧ p.2.1.length ≤ 4 ∧ (∀ x ∈ p.2.1,x ≤ 84) ∧ p.2.2.length ≤ M ∧ unfiveS M s [] [] = unfiveS M (s.drop p.1) p.2.1 p.2.2 }) [0,1,4,8] (fun s_=>[(9,.int .i64 s_.1.1)]) (fun s_=>[(0,.cells [.row 1 0 s_.1.2.2.length,.int .i64 M]),(1,.row 1 (bytesAV s_.1.2.2) true),(2,.tc 41 (grpC s_.1.2.1))]) 3 (fun s_=>s.length - s_.1.1) ⟨(0,[],[]),Nat.zero_le _,(by simp),(fun x hx=>(by cases hx)),Nat.zero_le _,rfl⟩ ?_ ?_
 ·refine St.le.vw [0,1,2]
 rintro ⟨⟨i,l,out⟩,hi,hl4,hx,hl,hsp⟩
 try dsimp only at hi
 try dsimp only at hl4
 try dsimp only at hx
 try dsimp only at hl
 try dsimp only at hsp
 refine AW.rS ?_
 refine AW.trim [0,1,4,8,9,10] ?_
 refine AW.seq ?_
 refine AW.c2 ?_ ?_
 ·intro h8
  have hcb:=u8_le (s.getD i 0)
  refine AW.skip ?_
  refine AW.seq ?_
  refine AW.block ?_
  refine AW.rS ?_
  refine AW.trim [0,1,4,5,8,9] ?_
  refine AW.rS ?_
  refine AW.trim [0,1,4,5,6,8,9] ?_
  refine AW.block ?_
  refine AW.rSC ?_
  refine awOps.cons (awGuard.c1 (c_octet_White _ (s.getD i 0)) ?_)
  refine awOps.rn ?_
  refine AW.trim [0,1,4,5,6,8,9,16] ?_
  refine AW.c2 ?_ ?_
  ·intro h18
   refine AW.skip ?_
   refine AW.rL ?_
   refine ⟨⟨(i + 1,l,out),h8,hl4,hx,hl,hsp.trans (vx_white h8 h18)⟩,?_,?_⟩
   ·refine St.le.vw [0,1,2]
   ·simp only []; omega
  ·intro h18
   refine AW.rS ?_
   refine AW.trim [0,1,4,5,6,8,9,19] ?_
   refine AW.c2 ?_ ?_
   ·intro h23
    have hl0 : l = []:=List.length_eq_zero_iff.1 (by omega)
    subst hl0
    refine AW.rLC ?_
    rw [show [[AV.int .u8 0],[AV.int .u8 0],[AV.int .u8 0],[AV.int .u8 0]] = bytesAV [0,0,0,0] from rfl]
    refine awOps.cons (awGuard.cKM 1 [0,1,3] (h_put_r _ out [0,0,0,0] M (by omega) (by simp)) ?_ ?_)
    ·intro hp25 n25 hn25
     refine wk ?_
     have e:=hsp.trans ((vx_z h8 h18 h23.1 rfl).trans (if_neg (by have : ¬ out.length + 4 ≤ M:=hp25; omega)))
     rw [e]
     first | exact .inr ⟨by decide,rfl,by omega⟩ | (simp [errI]; done) | (simp [errI]; omega)
    intro hm25
    refine awOps.rn ?_
    refine AW.rL ?_
    refine ⟨⟨(i + 1,[],out ++ [0,0,0,0]),h8,(by simp),(fun x hx=>(by cases hx)),(by show (out ++ [0,0,0,0]).length ≤ M; rw [List.length_append]; exact hm25),hsp.trans ((vx_z h8 h18 h23.1 rfl).trans (if_pos (by have : out.length + 4 ≤ M:=hm25; omega)))⟩,?_,?_⟩
    ·refine St.le.vw [0,4,2]
    ·simp only []; omega
   ·intro h23
    refine AW.rS ?_
    refine AW.trim [0,1,4,5,6,8,9,30] ?_
    refine AW.c2 ?_ ?_
    ·intro h30
     refine AW.rS ?_
     refine AW.trim [0,1,4,8,9] ?_
     rw [grp_put (l:=l) (v:=(s.getD i 0).toNat - 33) hl4 (by omega)]
     refine AW.rS ?_
     refine AW.trim [0,1,4,8,9] ?_
     rw [show ((l.length : Int) + 1) = (((l ++ [(s.getD i 0).toNat - 33]).length : Nat) : Int) by simp]
     have hlv : (l ++ [(s.getD i 0).toNat - 33]).length = l.length + 1:=by simp
     have hl1 : [(s.getD i 0).toNat - 33].length = 1:=rfl
     refine AW.rS ?_
     refine AW.trim [0,1,4,8,9,49] ?_
     refine AW.c2 ?_ ?_
     ·intro h34
      refine AW.rLC ?_
      refine awOps.cons (awGuard.cKM 2 [2,0,1] (h_gput (l ++ [(s.getD i 0).toNat - 33]) (by rw [List.length_append]; simp; omega) (dig_all hx (by omega)) out M (by omega)) ?_ ?_)
      ·intro hp36 n36 hn36
       refine wk ?_
       have e:=hsp.trans (vx_five (out:=out) (M:=M) h8 h18 h30.1 h30.2 (by omega))
       rw [e,if_neg hp36]
       rcases putE_cases out (l ++ [(s.getD i 0).toNat - 33]) M with q | q | q
       ·exact absurd q hp36
       ·rw [if_pos q,q]
        first | exact .inr ⟨by decide,rfl,by omega⟩ | (simp [errI]; done) | (simp [errI]; omega)
       ·rw [if_neg (by rw [q]; decide),q]
        first | exact .inr ⟨by decide,rfl,by omega⟩ | (simp [errI]; done) | (simp [errI]; omega)
      intro hm36
      refine awOps.rn ?_
      refine AW.rL ?_
      refine ⟨⟨(i + 1,[],putO out (l ++ [(s.getD i 0).toNat - 33])),h8,(by simp),(fun x hx=>(by cases hx)),putO_len hm36 (by rw [List.length_append]; simp; omega),hsp.trans ((vx_five (out:=out) (M:=M) h8 h18 h30.1 h30.2 (by omega)).trans (if_pos hm36))⟩,?_,?_⟩
      ·refine St.le.vw [0,3,2]
      ·simp only []; omega
     ·intro h34
      refine AW.skip ?_
      refine AW.rL ?_
      refine ⟨⟨(i + 1,l ++ [(s.getD i 0).toNat - 33],out),h8,by show (l ++ _).length ≤ 4; rw [List.length_append]; simp; omega,dig_all hx (by omega),hl,hsp.trans (vx_more h8 h18 h30.1 h30.2 (by omega))⟩,?_,?_⟩
      ·refine St.le.vw [0,1,2]
      ·simp only []; omega
    ·intro h30
     refine AW.rS ?_
     refine AW.trim [0,1,4,5,8,9,52] ?_
     refine AW.c2 ?_ ?_
     ·intro h44
      refine AW.rSC ?_
      refine awOps.cons (awGuard.cKM 2 [2,0,1] (h_end (s.drop (i + 1)) l hl4 hx out M (by omega) (by simp; omega)) ?_ ?_)
      ·intro hp46 n46 hn46
       refine wk ?_
       have e:=hsp.trans (vx_end (out:=out) (l:=l) (M:=M) h8 h44)
       rw [e]
       exact .inr ⟨hp46,rfl,by omega⟩
      intro hm46
      refine awOps.rn ?_
      refine AW.trim [] ?_
      refine AW.vw [0,3] [] [(0,.cells [.row 1 0 (endR M (s.drop (i + 1)) l out).1.length,.int .i64 M]),(1,.row 1 (bytesAV (endR M (s.drop (i + 1)) l out).1) true)] ?_
      refine AW.rt ?_
      rw [hsp.trans (vx_end (out:=out) (l:=l) (M:=M) h8 h44)]
      first | exact .inl ⟨hm46,rfl,rfl,rfl⟩ | (simp [hm46]; done)
     ·intro h44
      refine AW.rLC ?_
      refine awOps.cons (awGuard.cM (c_ascii_need _ false 3) ?_ ?_)
      ·intro hp51
       refine wk ?_
       have e:=hsp.trans (vx_form h8 h18 (fun q=>h23.elim (fun h=>h q.1) (fun h=>h (by rw [q.2]; rfl))) (by omega) h44)
       rw [e]
       first | exact .inr ⟨by decide,rfl,by omega⟩ | (simp [errI]; done) | (simp [errI]; omega)
      intro hm51
      refine awOps.rn ?_
      refine AW.rL ?_
      exact absurd hm51 (by simp)
 ·intro h8
  refine AW.exit ?_
  refine AW.rLC ?_
  refine awOps.cons (awGuard.cM (c_ascii_need _ false 4) ?_ ?_)
  ·intro hp57
   refine wk ?_
   have e:=hsp.trans (vx_done h8)
   rw [e]
   first | exact .inr ⟨by decide,rfl,by omega⟩ | (simp [errI]; done) | (simp [errI]; omega)
  intro hm57
  refine awOps.rn ?_
  refine wk ?_
  exact absurd hm57 (by simp)
theorem c_ascii_Unfive (s : List UInt8) (most : Int) (hs : s.length ≤ 16777216) : FnP Tryd.prog (GA) 10 [.str s,.int .i64 most] fun r=>r = .ret (.tup [.str (unfiveD s most).1,.int .i64 (errI (unfiveD s most).2)]):=by
 refine FnP.intro Tryd.func10 rfl rfl (by simp [Tryd.ntmps10]) ?_
 simp only [argEnv,Tryd.ntmps10,Tryd.results10]
 refine AW.rS ?_
 refine AW.rSC ?_
 refine awOps.cons (awGuard.c1 (c_ascii_unpacked _ s most _ (fun M=>unfiveS M s [] []) (fun M hM=>h_Unfive1 s M hs hM) (fun M=>vx_fail M s [] [])) ?_)
 refine awOps.rn ?_
 refine AW.rt ?_
 rfl
end Go.Proofs

namespace Aw
open Go
theorem lv1 : unhexD [54,32,49,32,55,62,120] 2 = ([97,112],.ok):=by decide +kernel
theorem lv2 : unhexD [54,32,49,32,55,62] 1 = ([],.long):=by decide +kernel
theorem lv3 : unhexD [54,49] 9 = ([],.ending):=by decide +kernel
theorem lv4 : unhexD [54,103,62] 9 = ([],.form):=by decide +kernel
theorem lv5 : unfiveD [64,47,126,62] 1 = ([97],.ok):=by decide +kernel
theorem lv6 : unfiveD [32,122,32,126,62] 4 = ([0,0,0,0],.ok):=by decide +kernel
theorem lv7 : unfiveD [64,122,126,62] 9 = ([],.form):=by decide +kernel
theorem lv8 : unfiveD [64,126,62] 9 = ([],.form):=by decide +kernel
theorem lv9 : unfiveD [64,47,126] 9 = ([],.ending):=by decide +kernel
theorem lv10 : unfiveD [117,117,117,117,117,126,62] 9 = ([],.form):=by decide +kernel
theorem lv11 : unfiveD [122,126,62] 3 = ([],.long):=by decide +kernel
theorem lv12 : unrunD [254,97,0,98,128,120] 4 = ([97,97,97,98],.ok):=by decide +kernel
theorem lv13 : unrunD [254,97] 9 = ([],.ending):=by decide +kernel
theorem lv14 : unrunD [254,97,128] 2 = ([],.long):=by decide +kernel
theorem lv15 : unrunD [1,97,128] 2 = ([],.ending):=by decide +kernel
theorem lv16 : unrunD [128] (-1) = ([],.arg):=by decide +kernel
theorem lv17 : hexE [97,98] = [54,49,54,50,62]:=by decide +kernel
theorem lv18 : fiveE [0,0,0,0] = [122,126,62]:=by decide +kernel
theorem lv19 : fiveE [97] = [64,47,126,62]:=by decide +kernel
theorem lv20 : fiveE [] = [126,62]:=by decide +kernel
theorem lv21 : runE [97,97,97,98] = [254,97,0,98,128]:=by decide +kernel
theorem lv22 : runE [97,97,98] = [2,97,97,98,128]:=by decide +kernel
theorem lv23 : runE [] = [128]:=by decide +kernel
end Aw

namespace Go.Proofs
open Go Aw
set_option linter.unusedSimpArgs false
set_option linter.unusedVariables false
set_option maxRecDepth 100000
set_option maxHeartbeats 4000000
theorem lc1 : FnP Tryd.prog GA 8 [.str [54,32,49,32,55,62,120],.int .i64 2] fun r=>r = .ret (.tup [.str [97,112],.int .i64 0]):=by
 have h:=c_ascii_Unhex GA [54,32,49,32,55,62,120] 2 (by decide)
 rw [lv1] at h
 exact h
theorem lc2 : FnP Tryd.prog GA 8 [.str [54,32,49,32,55,62],.int .i64 1] fun r=>r = .ret (.tup [.str [],.int .i64 5]):=by
 have h:=c_ascii_Unhex GA [54,32,49,32,55,62] 1 (by decide)
 rw [lv2] at h
 exact h
theorem lc3 : FnP Tryd.prog GA 8 [.str [54,49],.int .i64 9] fun r=>r = .ret (.tup [.str [],.int .i64 4]):=by
 have h:=c_ascii_Unhex GA [54,49] 9 (by decide)
 rw [lv3] at h
 exact h
theorem lc4 : FnP Tryd.prog GA 8 [.str [54,103,62],.int .i64 9] fun r=>r = .ret (.tup [.str [],.int .i64 3]):=by
 have h:=c_ascii_Unhex GA [54,103,62] 9 (by decide)
 rw [lv4] at h
 exact h
theorem lc5 : FnP Tryd.prog GA 10 [.str [64,47,126,62],.int .i64 1] fun r=>r = .ret (.tup [.str [97],.int .i64 0]):=by
 have h:=c_ascii_Unfive [64,47,126,62] 1 (by decide)
 rw [lv5] at h
 exact h
theorem lc6 : FnP Tryd.prog GA 10 [.str [32,122,32,126,62],.int .i64 4] fun r=>r = .ret (.tup [.str [0,0,0,0],.int .i64 0]):=by
 have h:=c_ascii_Unfive [32,122,32,126,62] 4 (by decide)
 rw [lv6] at h
 exact h
theorem lc7 : FnP Tryd.prog GA 10 [.str [64,122,126,62],.int .i64 9] fun r=>r = .ret (.tup [.str [],.int .i64 3]):=by
 have h:=c_ascii_Unfive [64,122,126,62] 9 (by decide)
 rw [lv7] at h
 exact h
theorem lc8 : FnP Tryd.prog GA 10 [.str [64,126,62],.int .i64 9] fun r=>r = .ret (.tup [.str [],.int .i64 3]):=by
 have h:=c_ascii_Unfive [64,126,62] 9 (by decide)
 rw [lv8] at h
 exact h
theorem lc9 : FnP Tryd.prog GA 10 [.str [64,47,126],.int .i64 9] fun r=>r = .ret (.tup [.str [],.int .i64 4]):=by
 have h:=c_ascii_Unfive [64,47,126] 9 (by decide)
 rw [lv9] at h
 exact h
theorem lc10 : FnP Tryd.prog GA 10 [.str [117,117,117,117,117,126,62],.int .i64 9] fun r=>r = .ret (.tup [.str [],.int .i64 3]):=by
 have h:=c_ascii_Unfive [117,117,117,117,117,126,62] 9 (by decide)
 rw [lv10] at h
 exact h
theorem lc11 : FnP Tryd.prog GA 10 [.str [122,126,62],.int .i64 3] fun r=>r = .ret (.tup [.str [],.int .i64 5]):=by
 have h:=c_ascii_Unfive [122,126,62] 3 (by decide)
 rw [lv11] at h
 exact h
theorem lc12 : FnP Tryd.prog GA 12 [.str [254,97,0,98,128,120],.int .i64 4] fun r=>r = .ret (.tup [.str [97,97,97,98],.int .i64 0]):=by
 have h:=c_ascii_Unrun GA [254,97,0,98,128,120] 4 (by decide)
 rw [lv12] at h
 exact h
theorem lc13 : FnP Tryd.prog GA 12 [.str [254,97],.int .i64 9] fun r=>r = .ret (.tup [.str [],.int .i64 4]):=by
 have h:=c_ascii_Unrun GA [254,97] 9 (by decide)
 rw [lv13] at h
 exact h
theorem lc14 : FnP Tryd.prog GA 12 [.str [254,97,128],.int .i64 2] fun r=>r = .ret (.tup [.str [],.int .i64 5]):=by
 have h:=c_ascii_Unrun GA [254,97,128] 2 (by decide)
 rw [lv14] at h
 exact h
theorem lc15 : FnP Tryd.prog GA 12 [.str [1,97,128],.int .i64 2] fun r=>r = .ret (.tup [.str [],.int .i64 4]):=by
 have h:=c_ascii_Unrun GA [1,97,128] 2 (by decide)
 rw [lv15] at h
 exact h
theorem lc16 : FnP Tryd.prog GA 12 [.str [128],.int .i64 (-1)] fun r=>r = .ret (.tup [.str [],.int .i64 1]):=by
 have h:=c_ascii_Unrun GA [128] (-1) (by decide)
 rw [lv16] at h
 exact h
theorem lc17 : FnP Tryd.prog GA 14 [.str [97,98]] fun r=>r = .ret (.str [54,49,54,50,62]):=by
 have h:=c_ascii_Hex GA [97,98] (by decide)
 rw [lv17] at h
 exact h
theorem lc18 : FnP Tryd.prog GA 16 [.str [0,0,0,0]] fun r=>r = .ret (.str [122,126,62]):=by
 have h:=c_ascii_Five [0,0,0,0] (by decide)
 rw [lv18] at h
 exact h
theorem lc19 : FnP Tryd.prog GA 16 [.str [97]] fun r=>r = .ret (.str [64,47,126,62]):=by
 have h:=c_ascii_Five [97] (by decide)
 rw [lv19] at h
 exact h
theorem lc20 : FnP Tryd.prog GA 16 [.str []] fun r=>r = .ret (.str [126,62]):=by
 have h:=c_ascii_Five [] (by decide)
 rw [lv20] at h
 exact h
theorem lc21 : FnP Tryd.prog GA 18 [.str [97,97,97,98]] fun r=>r = .ret (.str [254,97,0,98,128]):=by
 have h:=c_ascii_Run GA [97,97,97,98] (by decide)
 rw [lv21] at h
 exact h
theorem lc22 : FnP Tryd.prog GA 18 [.str [97,97,98]] fun r=>r = .ret (.str [2,97,97,98,128]):=by
 have h:=c_ascii_Run GA [97,97,98] (by decide)
 rw [lv22] at h
 exact h
theorem lc23 : FnP Tryd.prog GA 18 [.str []] fun r=>r = .ret (.str [128]):=by
 have h:=c_ascii_Run GA [] (by decide)
 rw [lv23] at h
 exact h
theorem c_foliantlaw14_lives  : FnP Tryd.prog (GA) 7 [] fun r=>r = .ret (.bool true):=by
 refine FnP.intro Tryd.func7 rfl rfl (by simp [Tryd.ntmps7]) ?_
 simp only [argEnv,Tryd.ntmps7,Tryd.results7]
 refine AW.rS ?_
 refine AW.rSC ?_
 refine awOps.cons (awGuard.c1 (lc1) ?_)
 refine awOps.rn ?_
 refine AW.rSC ?_
 refine awOps.cons (awGuard.c1 (lc2) ?_)
 refine awOps.rn ?_
 refine AW.rSC ?_
 refine awOps.cons (awGuard.c1 (lc3) ?_)
 refine awOps.rn ?_
 refine AW.rSC ?_
 refine awOps.cons (awGuard.c1 (lc4) ?_)
 refine awOps.rn ?_
 refine AW.rSC ?_
 refine awOps.cons (awGuard.c1 (lc5) ?_)
 refine awOps.rn ?_
 refine AW.rSC ?_
 refine awOps.cons (awGuard.c1 (lc6) ?_)
 refine awOps.rn ?_
 refine AW.rSC ?_
 refine awOps.cons (awGuard.c1 (lc7) ?_)
 refine awOps.rn ?_
 refine AW.rSC ?_
 refine awOps.cons (awGuard.c1 (lc8) ?_)
 refine awOps.rn ?_
 refine AW.rSC ?_
 refine awOps.cons (awGuard.c1 (lc9) ?_)
 refine awOps.rn ?_
 refine AW.rSC ?_
 refine awOps.cons (awGuard.c1 (lc10) ?_)
 refine awOps.rn ?_
 refine AW.rSC ?_
 refine awOps.cons (awGuard.c1 (lc11) ?_)
 refine awOps.rn ?_
 refine AW.rSC ?_
 refine awOps.cons (awGuard.c1 (lc12) ?_)
 refine awOps.rn ?_
 refine AW.rSC ?_
 refine awOps.cons (awGuard.c1 (lc13) ?_)
 refine awOps.rn ?_
 refine AW.rSC ?_
 refine awOps.cons (awGuard.c1 (lc14) ?_)
 refine awOps.rn ?_
 refine AW.rSC ?_
 refine awOps.cons (awGuard.c1 (lc15) ?_)
 refine awOps.rn ?_
 refine AW.rSC ?_
 refine awOps.cons (awGuard.c1 (lc16) ?_)
 refine awOps.rn ?_
 refine AW.seq ?_
 refine AW.rSC ?_
 refine awOps.cons (awGuard.c1 (lc17) ?_)
 refine awOps.rn ?_
 refine awOps.cons (awGuard.cG (fun hg=>lc18) ?_)
 refine awOps.rn ?_
 refine awOps.cons (awGuard.cG (fun hg=>lc19) ?_)
 refine awOps.rn ?_
 refine awOps.cons (awGuard.cG (fun hg=>lc20) ?_)
 refine awOps.rn ?_
 refine AW.c2 ?_ ?_
 ·intro h60
  refine AW.rS ?_
  refine AW.rt ?_
  all_goals first | contradiction | rfl | (simp; done) | (simp; omega)
 ·intro h60
  refine AW.skip ?_
  refine AW.rSC ?_
  refine awOps.cons (awGuard.cG (fun hg=>lc21) ?_)
  refine awOps.rn ?_
  refine awOps.cons (awGuard.cG (fun hg=>lc22) ?_)
  refine awOps.rn ?_
  refine awOps.cons (awGuard.cG (fun hg=>lc23) ?_)
  refine awOps.rn ?_
  refine AW.rt ?_
  all_goals first | contradiction | rfl | (simp; done) | (simp; omega)
end Go.Proofs

namespace Aw
open Go
theorem hexE_len (s : Byt) : (hexE s).length = 2 * s.length + 1:=by simp [hexE,hexB_len]
theorem fiveE_two (s : Byt) : 2 ≤ (fiveE s).length:=by simp [fiveE]
end Aw

namespace Aw
theorem white_at (k : Nat) (h : k < 6) : ∃ w,(([0,9,10,12,13,32] : Byt).drop k).take 1 = [w] ∧ whiteC w = true:=by
 match k,h with
 | 0,_=>exact ⟨0,rfl,rfl⟩
 | 1,_=>exact ⟨9,rfl,rfl⟩
 | 2,_=>exact ⟨10,rfl,rfl⟩
 | 3,_=>exact ⟨12,rfl,rfl⟩
 | 4,_=>exact ⟨13,rfl,rfl⟩
 | 5,_=>exact ⟨32,rfl,rfl⟩
theorem wh_hex (s : Byt) (i : Nat) {w : UInt8} (hw : whiteC w = true) (h : s.length ≤ 1048576) : unhexD ((hexE s).take i ++ [w] ++ (hexE s).drop i) s.length = (s,.ok):=by
 have:=unhex_back s [] h
 rw [List.append_nil] at this
 rw [← this]
 unfold unhexD
 rw [List.append_assoc,List.singleton_append,unhex_white hw,List.take_append_drop]
theorem wh_five (s : Byt) (i : Nat) {w : UInt8} (hw : whiteC w = true) (h : s.length ≤ 1048576) (hi : i + 2 ≤ (fiveE s).length) : unfiveD ((fiveE s).take i ++ [w] ++ (fiveE s).drop i) s.length = (s,.ok):=by
 have:=unfive_back s [] h
 rw [List.append_nil] at this
 rw [← this]
 unfold unfiveD
 rw [List.append_assoc,List.singleton_append,unfive_white hw,List.take_append_drop]
 intro c hc
 have : i ≤ (fiveB s).length:=by unfold fiveE at hi; simp at hi; omega
 unfold fiveE at hc
 rw [List.take_append_of_le_length this] at hc
 exact fiveB_126 s c (List.mem_of_mem_take hc)
theorem lowC_low (c : UInt8) : lowC (lowC c) = lowC c:=u8_all (p:=fun c=>lowC (lowC c) = lowC c) (by decide +kernel) c
theorem wh_low (s : Byt) (i : Nat) (h : s.length ≤ 1048576) : unhexD ((hexE s).take i ++ ((hexE s).drop i).map lowC) s.length = (s,.ok):=by
 have:=unhex_back s [] h
 rw [List.append_nil] at this
 rw [← this]
 unfold unhexD
 rw [← unhex_low _ (hexE s),← unhex_low _ ((hexE s).take i ++ ((hexE s).drop i).map lowC),List.map_append,List.map_map]
 have e : lowC ∘ lowC = lowC:=funext lowC_low
 rw [e,← List.map_append,List.take_append_drop]
def lowK (h : Byt) (i k : Nat) : Byt:=h.take i ++ ((h.drop i).take k).map lowC ++ h.drop (i + k)
theorem lowK_0 (h : Byt) (i : Nat) : lowK h i 0 = h:=by simp [lowK]
theorem lowK_len (h : Byt) (i k : Nat) (hk : i + k ≤ h.length) : (lowK h i k).length = h.length:=by simp [lowK]; omega
theorem lowK_all (h : Byt) (i k : Nat) (hk : h.length ≤ i + k) : lowK h i k = h.take i ++ (h.drop i).map lowC:=by
 unfold lowK
 rw [List.drop_eq_nil_of_le hk,List.append_nil,show (h.drop i).take k = h.drop i from List.take_of_length_le (by rw [List.length_drop]; omega)]
theorem lowK_cut (h : Byt) (i k : Nat) (hk : i + k < h.length) : ∃ A B,lowK h i k = A ++ h.getD (i + k) 0 :: B ∧ A.length = i + k ∧ lowK h i (k + 1) = A ++ lowC (h.getD (i + k) 0) :: B:=by
 refine ⟨h.take i ++ ((h.drop i).take k).map lowC,h.drop (i + k + 1),?_,by simp; omega,?_⟩
 ·unfold lowK
  rw [List.drop_eq_getElem_cons hk,List.getD_eq_getElem?_getD,List.getElem?_eq_getElem hk]
  rfl
 ·unfold lowK
  rw [List.take_add_one,List.map_append,List.append_assoc,List.append_assoc,List.append_assoc,List.getElem?_drop,List.getElem?_eq_getElem hk,show i + (k + 1) = i + k + 1 by omega,List.getD_eq_getElem?_getD,List.getElem?_eq_getElem hk]
  rfl
theorem lowC_yes {c : UInt8} (h1 : 65 ≤ c.toNat) (h2 : c.toNat ≤ 70) : ((lowC c).toNat : Int) = (c.toNat : Int) + 32:=by
 have h : ∀ c : UInt8,65 ≤ c.toNat → c.toNat ≤ 70 → (lowC c).toNat = c.toNat + 32:=fun c=>u8_all (p:=fun c=>65 ≤ c.toNat → c.toNat ≤ 70 → (lowC c).toNat = c.toNat + 32) (by decide +kernel) c
 have:=h c h1 h2
 omega
theorem lowC_no {c : UInt8} (h : ¬ (65 ≤ c.toNat ∧ c.toNat ≤ 70)) : lowC c = c:=by
 have q : ∀ c : UInt8,¬ (65 ≤ c.toNat ∧ c.toNat ≤ 70) → lowC c = c:=fun c=>u8_all (p:=fun c=>¬ (65 ≤ c.toNat ∧ c.toNat ≤ 70) → lowC c = c) (by decide +kernel) c
 exact q c h
end Aw
