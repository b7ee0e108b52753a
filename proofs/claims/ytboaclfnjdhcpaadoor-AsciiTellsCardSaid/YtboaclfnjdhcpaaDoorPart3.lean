/- A part of the proof: no condition of its own. -/
import Derived.Test.YtboaclfnjdhcpaaDoorPart2
namespace Go.Proofs
open Go Aw
set_option linter.unusedSimpArgs false
set_option linter.unusedVariables false
set_option maxRecDepth 100000
set_option maxHeartbeats 4000000
theorem snoc_u8 (out : List UInt8) (c : UInt8) : bytesAV out ++ [[AV.int .u8 (c.toNat : Int)]] = bytesAV (out ++ [c]):=(bB_append out [c]).symm
theorem rep_succ (out : List UInt8) (x : UInt8) (i : Nat) : out ++ List.replicate i x ++ [x] = out ++ List.replicate (i + 1) x:=by rw [List.append_assoc,← List.replicate_succ']
theorem tk_succ (out t : List UInt8) (i : Nat) (h : i < t.length) : out ++ t.take i ++ [t.getD i 0] = out ++ t.take (i + 1):=by
 rw [List.append_assoc,List.take_add_one]
 congr 2
 rw [List.getD_eq_getElem?_getD,List.getElem?_eq_getElem h]
 rfl
theorem c_foliantref14_Unrun (gl : List (Nat × AV)) (s : List UInt8) (most : Int) (hs : s.length ≤ 16777216:=by first | omega | exact u8_le _ | assumption | (simp; done) | (simp; omega)) : FnP Tryd.prog (gl) 13 [.str s,.int .i64 most] fun r=>r = .ret (.tup [.str (unrunD s most).1,.int .i64 (errI (unrunD s most).2)]):=by
 refine FnP.intro Tryd.func13 rfl rfl (by simp [Tryd.ntmps13]) ?_
 simp only [argEnv,Tryd.ntmps13,Tryd.results13]
 refine AW.rS ?_
 refine AW.seq ?_
 refine AW.rS ?_
 refine AW.c2 ?_ ?_
 ·intro h4
  refine AW.rS ?_
  refine AW.rt ?_
  rw [unrunD_neg h4]
  rfl
 ·intro h4
  refine AW.skip ?_
  refine AW.rS ?_
  refine AW.rS ?_
  refine AW.seq ?_
  refine AW.rS ?_
  refine AW.block ?_
  refine AW.pre (St.le.nilrow 6 1 (by (simp only [go_sem,seval]; iterate 2 try (simp (disch:=omega) only [zq]; try simp only [go_sem,seval])))) ?_
  refine wk ?_
  refine AW.lk (S:={ p : Nat × List UInt8 // p.1 ≤ s.length ∧ p.2.length ≤ min most.toNat 1048576 ∧ unrunD s most = unrunS (min most.toNat 1048576) (s.drop p.1) p.2 }) [0,1] (fun s_=>[(6,.row 0 0 s_.1.2.length),(7,.int .i64 s_.1.1)]) (fun s_=>[(0,.row 1 (bytesAV s_.1.2) true)]) 1 (fun s_=>s.length - s_.1.1) ⟨(0,[]),Nat.zero_le _,Nat.zero_le _,by rw [unrunD_pos (by omega)]; rfl⟩ ?_ ?_
  ·refine St.le.vw [0]
  rintro ⟨⟨at_,out⟩,hat,hl,hsp⟩
  try dsimp only at hat
  try dsimp only at hl
  try dsimp only at hsp
  refine AW.seq ?_
  refine AW.rS ?_
  refine AW.c2 ?_ ?_
  ·intro h17
   have hne : s.drop at_ ≠ []:=by rw [ne_eq,List.drop_eq_nil_iff]; omega
   have hcb:=u8_le (s.getD at_ 0)
   have hg0 : (s.drop at_).getD 0 0 = s.getD at_ 0:=by rw [getD_drop0,Nat.add_zero]
   have hdd : (s.drop at_).drop 1 = s.drop (at_ + 1):=List.drop_drop
   have hdl : (s.drop (at_ + 1)).length = s.length - (at_ + 1):=List.length_drop
   refine AW.skip ?_
   refine AW.block ?_
   refine AW.rS ?_
   refine AW.seq ?_
   refine AW.rS ?_
   refine AW.c2 ?_ ?_
   ·intro h23
    refine AW.rS ?_
    refine AW.rt ?_
    rw [hsp,ur_stop hne (by rw [hg0]; omega)]
    rfl
   ·intro h23
    refine AW.skip ?_
    refine AW.rS ?_
    refine AW.seq ?_
    refine AW.rS ?_
    refine AW.c2 ?_ ?_
    ·intro h31
     refine AW.rL ?_
     refine AW.seq ?_
     refine AW.rS ?_
     refine AW.c2 ?_ ?_
     ·intro h35
      refine AW.rS ?_
      refine AW.rt ?_
      rw [hsp,ur_rep0 hne (by rw [hg0]; omega) (by rw [hdd,List.drop_eq_nil_iff]; omega)]
      rfl
     ·intro h35
      have hr:=ur_rep (M:=min most.toNat 1048576) (out:=out) hne (by rw [hg0]; omega) (by rw [hdd,ne_eq,List.drop_eq_nil_iff]; omega)
      rw [hg0,hdd,getD_drop0,List.drop_drop,Nat.add_zero] at hr
      refine AW.skip ?_
      refine AW.seq ?_
      refine AW.rS ?_
      refine AW.c2 ?_ ?_
      ·intro h42
       refine AW.rS ?_
       refine AW.rt ?_
       rw [hsp,hr,if_neg (by omega)]
       rfl
      ·intro h42
       refine AW.skip ?_
       refine AW.seq ?_
       refine AW.rS ?_
       refine AW.block ?_
       refine AW.lk (S:={ i : Nat // i ≤ 257 - (s.getD at_ 0).toNat }) [0,1,7,8,9,10] (fun s_=>[(6,.row 0 0 (out ++ List.replicate s_.1 (s.getD (at_ + 1) 0)).length),(11,.int .i64 s_.1)]) (fun s_=>[(0,.row 1 (bytesAV (out ++ List.replicate s_.1 (s.getD (at_ + 1) 0))) true)]) 1 (fun s_=>257 - (s.getD at_ 0).toNat - s_.1) ⟨0,Nat.zero_le _⟩ ?_ ?_
       ·refine St.le.vw [0]
       rintro ⟨i,hi⟩
       try dsimp only at hi
       refine AW.seq ?_
       refine AW.rS ?_
       refine AW.c2 ?_ ?_
       ·intro h53
        refine AW.skip ?_
        refine AW.seq ?_
        refine AW.block ?_
        refine AW.rS ?_
        refine AW.c2 ?_ ?_
        ·intro h58
         refine AW.rL ?_
         refine AW.rL ?_
         refine ⟨⟨i + 1,by omega⟩,?_,?_⟩
         ·rw [snoc_u8,rep_succ]; refine St.le.vw [2]
         ·show 257 - (s.getD at_ 0).toNat - (i + 1) < 257 - (s.getD at_ 0).toNat - i; omega
        ·intro h58
         exact absurd h58 (by omega)
       ·intro h53
        have hie : i = 257 - (s.getD at_ 0).toNat:=by omega
        subst hie
        refine AW.exit ?_
        refine AW.rL ?_
        refine ⟨⟨(at_ + 2,out ++ List.replicate (257 - (s.getD at_ 0).toNat) (s.getD (at_ + 1) 0)),by show at_ + 2 ≤ s.length; omega,by show (out ++ _).length ≤ _; rw [List.length_append,List.length_replicate]; omega,hsp.trans (hr.trans (if_pos (by omega)))⟩,?_,?_⟩
        ·refine St.le.vw [0]
        ·show s.length - (at_ + 2) < s.length - at_; omega
    ·intro h31
     have hq:=ur_lit (M:=min most.toNat 1048576) (out:=out) hne (by rw [hg0]; omega)
     rw [hg0,hdd,List.drop_drop] at hq
     refine AW.skip ?_
     refine AW.seq ?_
     refine AW.rS ?_
     refine AW.c2 ?_ ?_
     ·intro h71
      refine AW.rS ?_
      refine AW.rt ?_
      rw [hsp,hq,if_pos (by omega)]
      rfl
     ·intro h71
      refine AW.skip ?_
      refine AW.seq ?_
      refine AW.rS ?_
      refine AW.c2 ?_ ?_
      ·intro h78
       refine AW.rS ?_
       refine AW.rt ?_
       rw [hsp,hq,if_neg (by omega),if_neg (by omega)]
       rfl
      ·intro h78
       refine AW.skip ?_
       refine AW.seq ?_
       refine AW.rS ?_
       refine AW.block ?_
       refine AW.lk (S:={ i : Nat // i ≤ (s.getD at_ 0).toNat + 1 }) [0,1,7,8,9,10] (fun s_=>[(6,.row 0 0 (out ++ (s.drop (at_ + 1)).take s_.1).length),(11,.int .i64 s_.1)]) (fun s_=>[(0,.row 1 (bytesAV (out ++ (s.drop (at_ + 1)).take s_.1)) true)]) 1 (fun s_=>(s.getD at_ 0).toNat + 1 - s_.1) ⟨0,Nat.zero_le _⟩ ?_ ?_
       ·refine St.le.vw [0]
       rintro ⟨i,hi⟩
       try dsimp only at hi
       refine AW.seq ?_
       refine AW.rS ?_
       refine AW.c2 ?_ ?_
       ·intro h89
        refine AW.skip ?_
        refine AW.seq ?_
        refine AW.block ?_
        refine AW.rS ?_
        refine AW.c2 ?_ ?_
        ·intro h94
         exact absurd h94 (by omega)
        ·intro h94
         refine AW.rL ?_
         refine AW.rL ?_
         have hgi : (s.drop (at_ + 1)).getD i 0 = s.getD (at_ + 1 + i) 0:=by rw [getD_drop0]
         have hti : ((at_ : Int) + 1 + (i : Int)).toNat = at_ + 1 + i:=by omega
         refine ⟨⟨i + 1,by omega⟩,?_,?_⟩
         ·rw [hti,snoc_u8,← hgi,tk_succ _ _ _ (by omega)]; refine St.le.vw [2]
         ·show (s.getD at_ 0).toNat + 1 - (i + 1) < (s.getD at_ 0).toNat + 1 - i; omega
       ·intro h89
        have hie : i = (s.getD at_ 0).toNat + 1:=by omega
        subst hie
        refine AW.exit ?_
        refine AW.rL ?_
        refine ⟨⟨(at_ + 1 + ((s.getD at_ 0).toNat + 1),out ++ (s.drop (at_ + 1)).take ((s.getD at_ 0).toNat + 1)),by show at_ + 1 + ((s.getD at_ 0).toNat + 1) ≤ s.length; omega,by show (out ++ _).length ≤ _; rw [List.length_append,List.length_take]; omega,hsp.trans (hq.trans ((if_neg (by omega)).trans (if_pos (by omega))))⟩,?_,?_⟩
        ·refine St.le.vw [0]
        ·show s.length - (at_ + 1 + ((s.getD at_ 0).toNat + 1)) < s.length - at_; omega
  ·intro h17
   refine AW.exit ?_
   refine AW.rS ?_
   refine AW.rt ?_
   rw [hsp,List.drop_eq_nil_iff.2 (by omega),unrunS_nil]
   rfl
end Go.Proofs

namespace Aw
open Go
def gvN (l : List UInt8) : Nat → Nat
 | 0=>0
 | i + 1=>gvN l i * 256 + (l.getD i 0).toNat
theorem gvN_lt (l : List UInt8) : ∀ i,gvN l i < 256 ^ i
 | 0=>Nat.one_pos
 | i + 1=>by
  have h:=gvN_lt l i
  have:=(l.getD i 0).toNat_lt
  rw [gvN,Nat.pow_succ]
  omega
theorem gvN_bd (l : List UInt8) (i : Nat) (h : i ≤ 4) : gvN l i < 4294967296:=Nat.lt_of_lt_of_le (gvN_lt l i) (Nat.le_trans (Nat.pow_le_pow_right (by decide) h) (by decide))
def vvN (l : List UInt8) : Nat → Nat
 | 0=>0
 | i + 1=>vvN l i * 85 + (if i < l.length then (l.getD i 0).toNat else 84)
theorem vvN_lt (l : List UInt8) : ∀ i,vvN l i < 256 ^ i
 | 0=>Nat.one_pos
 | i + 1=>by
  have h:=vvN_lt l i
  have:=(l.getD i 0).toNat_lt
  rw [vvN,Nat.pow_succ]
  split <;> omega
theorem vvN_bd (l : List UInt8) (i : Nat) (h : i ≤ 5) : vvN l i < 1099511627776:=Nat.lt_of_lt_of_le (vvN_lt l i) (Nat.le_trans (Nat.pow_le_pow_right (by decide) h) (by decide))
end Aw
namespace Go.Proofs
open Go Aw
set_option linter.unusedSimpArgs false
set_option linter.unusedVariables false
set_option maxRecDepth 100000
set_option maxHeartbeats 4000000
theorem c_foliantref14_group (gl : List (Nat × AV)) (l : List UInt8) (hs : l.length ≤ 16777216:=by first | omega | exact u8_le _ | assumption | (simp; done) | (simp; omega)) : FnP Tryd.prog (gl) 41 [.str l] fun r=>r = .ret (.int .u64 (gvN l 4 : Nat)):=by
 refine FnP.intro Tryd.func41 rfl rfl (by simp [Tryd.ntmps41]) ?_
 simp only [argEnv,Tryd.ntmps41,Tryd.results41]
 refine AW.rS ?_
 refine AW.rS ?_
 refine AW.seq ?_
 refine AW.rS ?_
 refine AW.block ?_
 refine AW.lk (S:={ i : Nat // i ≤ 4 }) [0] (fun s_=>[(3,.int .u64 (gvN l s_.1 : Nat)),(4,.int .i64 s_.1)]) (fun s_=>[]) 0 (fun s_=>4 - s_.1) ⟨0,Nat.zero_le _⟩ ?_ ?_
 ·refine St.le.vw []
 rintro ⟨i,hi⟩
 try dsimp only at hi
 refine AW.seq ?_
 have hgb:=gvN_bd l i hi
 have hub:=u8_le (l.getD i 0)
 have hg1 : ((gvN l (i + 1) : Nat) : Int) = (gvN l i : Nat) * 256 + ((l.getD i 0).toNat : Int):=by rw [gvN]; push_cast; rfl
 refine AW.rS ?_
 refine AW.c2 ?_ ?_
 ·intro h9
  refine AW.skip ?_
  refine AW.seq ?_
  refine AW.block ?_
  refine AW.rS ?_
  refine AW.rS ?_
  refine AW.c2 ?_ ?_
  ·intro h15
   refine AW.rL ?_
   refine AW.rL ?_
   refine ⟨⟨i + 1,by omega⟩,?_,?_⟩
   ·rw [← hg1]; refine St.le.vw []
   ·show 4 - (i + 1) < 4 - i; omega
  ·intro h15
   have hz : l.getD i 0 = 0:=by rw [List.getD_eq_getElem?_getD,List.getElem?_eq_none (by omega)] <;> rfl
   rw [hz,show ((0 : UInt8).toNat : Int) = 0 from rfl,Int.add_zero] at hg1
   refine AW.skip ?_
   refine AW.rL ?_
   refine ⟨⟨i + 1,by omega⟩,?_,?_⟩
   ·rw [← hg1]; refine St.le.vw []
   ·show 4 - (i + 1) < 4 - i; omega
 ·intro h9
  refine AW.exit ?_
  have hie : i = 4:=by omega
  subst hie
  refine AW.rS ?_
  refine AW.rt ?_
  all_goals first | contradiction | rfl | (simp; done) | (simp; omega)
theorem bytes_getD (l : List UInt8) (i : Nat) (h : i < l.length) : (bytesAV l).getD i [] = [.int .u8 ((l.getD i 0).toNat : Int)]:=by
 rw [List.getD_eq_getElem?_getD,bytesAV,List.getElem?_map,List.getElem?_eq_getElem h,List.getD_eq_getElem?_getD,List.getElem?_eq_getElem h]
 rfl
theorem c_foliantref14_value (gl : List (Nat × AV)) (l : List UInt8) (hs : l.length ≤ 16777216:=by first | omega | exact u8_le _ | assumption | (simp; done) | (simp; omega)) : FnP Tryd.prog (gl) 32 [.sl (bytesAV l)] fun r=>r = .ret (.int .u64 (vvN l 5 : Nat)):=by
 refine FnP.intro Tryd.func32 rfl rfl (by simp [Tryd.ntmps32]) ?_
 simp only [argEnv,Tryd.ntmps32,Tryd.results32]
 refine AW.rS ?_
 refine AW.rS ?_
 refine AW.seq ?_
 refine AW.rS ?_
 refine AW.block ?_
 refine AW.lk (S:={ i : Nat // i ≤ 5 }) [0] (fun s_=>[(3,.int .u64 (vvN l s_.1 : Nat)),(4,.int .i64 s_.1)]) (fun s_=>[]) 0 (fun s_=>5 - s_.1) ⟨0,Nat.zero_le _⟩ ?_ ?_
 ·refine St.le.vw []
 rintro ⟨i,hi⟩
 try dsimp only at hi
 refine AW.seq ?_
 have hgb:=vvN_bd l i hi
 have hub:=u8_le (l.getD i 0)
 have hbl:=bB_len l
 refine AW.rS ?_
 refine AW.c2 ?_ ?_
 ·intro h9
  refine AW.skip ?_
  refine AW.seq ?_
  refine AW.block ?_
  refine AW.rS ?_
  refine AW.rS ?_
  refine AW.c2 ?_ ?_
  ·intro h15
   have hgd:=bytes_getD l i (by omega)
   have hall:=bB_one l
   have hg1 : ((vvN l (i + 1) : Nat) : Int) = (vvN l i : Nat) * 85 + ((l.getD i 0).toNat : Int):=by rw [vvN,if_pos (by omega)]; push_cast; rfl
   refine AW.rL ?_ (h:=by (simp only [go_sem,seval]; iterate 2 try (simp (disch:=omega) only [zq]; try simp only [go_sem,seval])); simp only [hgd,List.headD_cons]; (simp only [go_sem,seval]; iterate 2 try (simp (disch:=omega) only [zq]; try simp only [go_sem,seval])); exact rfl) (hob:=by first | (refine ⟨⟨⟨by omega,by omega⟩,hall⟩,?_⟩; simp [hgd]; done) | (simp [hgd,hall]; done) | (simp [hgd]; exact ⟨by omega,hall⟩))
   refine AW.rL ?_
   refine ⟨⟨i + 1,by omega⟩,?_,?_⟩
   ·rw [← hg1]; refine St.le.vw []
   ·show 5 - (i + 1) < 5 - i; omega
  ·intro h15
   have hg1 : ((vvN l (i + 1) : Nat) : Int) = (vvN l i : Nat) * 85 + 84:=by rw [vvN,if_neg (by omega)]; push_cast; rfl
   refine AW.rL ?_
   refine AW.rL ?_
   refine ⟨⟨i + 1,by omega⟩,?_,?_⟩
   ·rw [← hg1]; refine St.le.vw []
   ·show 5 - (i + 1) < 5 - i; omega
 ·intro h9
  refine AW.exit ?_
  have hie : i = 5:=by omega
  subst hie
  refine AW.rS ?_
  refine AW.rt ?_
  all_goals first | contradiction | rfl | (simp; done) | (simp; omega)
end Go.Proofs

namespace Go.Proofs
open Go Aw
set_option linter.unusedSimpArgs false
set_option linter.unusedVariables false
set_option maxRecDepth 100000
set_option maxHeartbeats 4000000
attribute [local go_sem] b4_0 b4_1 b4_2 wrapU8
theorem c_foliantref14_bytes (gl : List (Nat × AV)) (v m : Nat) (hv : v < 4294967296) (hm : m ≤ 4) : FnP Tryd.prog (gl) 33 [.int .u64 v,.int .i64 m] fun r=>r = .ret (.sl (bytesAV ((bytes4 v).take m))):=by
 refine FnP.intro Tryd.func33 rfl rfl (by simp [Tryd.ntmps33]) ?_
 simp only [argEnv,Tryd.ntmps33,Tryd.results33]
 refine AW.rS ?_
 refine AW.rS ?_
 refine AW.rS ?_
 refine AW.rt ?_
 simp only [bytesAV,bytes4,List.map_take,List.map_cons,List.map_nil]
 first | rfl | trivial | (simp; done)
end Go.Proofs

namespace Aw
open Go
def byN (j : Nat) : Nat:=52200625 / 85 ^ j
theorem byN_succ (j : Nat) : byN (j + 1) = byN j / 85:=by rw [byN,byN,Nat.div_div_eq_div_mul,Nat.pow_succ]
theorem byN_pow (j : Nat) (h : j ≤ 4) : 85 ^ (4 - j) = byN j:=by
 rcases (by omega : j = 0 ∨ j = 1 ∨ j = 2 ∨ j = 3 ∨ j = 4) with rfl | rfl | rfl | rfl | rfl <;> rfl
theorem byN_pos (j : Nat) (h : j ≤ 4) : 0 < byN j:=by rw [← byN_pow j h]; exact Nat.pow_pos (by decide)
theorem byN_le (j : Nat) : byN j ≤ 52200625:=Nat.div_le_self ..
end Aw
namespace Go.Proofs
open Go Aw
set_option linter.unusedSimpArgs false
set_option linter.unusedVariables false
set_option maxRecDepth 100000
set_option maxHeartbeats 4000000
theorem five_z (p : List UInt8) (h4 : p.length = 4) (hz : gvN p 4 = 0) : fiveB p = [122]:=by
 match p,h4 with
 | [a,b,c,d],_ =>
  have e : gvN [a,b,c,d] 4 = grp4 a b c d:=by simp [gvN,grp4]
  rw [e] at hz
  simp [fiveB,hz]
theorem five_dg (p acc : List UInt8) (h1 : 1 ≤ p.length) (h2 : p.length ≤ 4) (hz : ¬ (gvN p 4 = 0 ∧ p.length = 4)) : acc ++ fiveB p = dg acc (gvN p 4) (p.length + 1):=by
 rcases chunk_cases p h1 h2 with ⟨a,rfl⟩ | ⟨a,b,rfl⟩ | ⟨a,b,c,rfl⟩ | ⟨a,b,c,d,rfl⟩
 ·have e : gvN [a] 4 = grp4 a 0 0 0:=by simp [gvN,grp4]
  rw [e]; simp [dg,fiveB]
 ·have e : gvN [a,b] 4 = grp4 a b 0 0:=by simp [gvN,grp4]
  rw [e]; simp [dg,fiveB]
 ·have e : gvN [a,b,c] 4 = grp4 a b c 0:=by simp [gvN,grp4]
  rw [e]; simp [dg,fiveB]
 ·have e : gvN [a,b,c,d] 4 = grp4 a b c d:=by simp [gvN,grp4]
  rw [e] at hz ⊢
  have hn : ¬ grp4 a b c d = 0:=fun q=>hz ⟨q,rfl⟩
  simp [dg,fiveB,hn]
theorem dg_byte (v j : Nat) (hv : v < 4294967296) (h : j ≤ 4) : IntKind.u8.wrap (IntKind.u64.wrap (33 + (IntKind.u64.wrap ((v : Int) / (byN j : Nat))).tmod 85)) = ((chF v j).toNat : Int):=by
 have hd : v / byN j ≤ v:=Nat.div_le_self _ _
 have hm : v / byN j % 85 < 85:=Nat.mod_lt _ (by decide)
 rw [← Int.natCast_ediv,wrap64 _ (by omega),Int.tmod_eq_emod_of_nonneg (Int.natCast_nonneg _),show (33 : Int) + ((v / byN j : Nat) : Int) % 85 = ((33 + v / byN j % 85 : Nat) : Int) by push_cast; rfl,wrap64 _ (by omega),wrapU8,chF,digF,byN_pow j h]
theorem c_foliantref14_Five (gl : List (Nat × AV)) (s : List UInt8) (hs : s.length ≤ 1000000) : FnP Tryd.prog (gl) 17 [.str s] fun r=>r = .ret (.str (fiveE s)):=by
 refine FnP.intro Tryd.func17 rfl rfl (by simp [Tryd.ntmps17]) ?_
 simp only [argEnv,Tryd.ntmps17,Tryd.results17]
 have hfb:=fiveB_bound s
 refine AW.rS ?_
 refine AW.rS ?_
 refine AW.seq ?_
 refine AW.rS ?_
 refine AW.block ?_
 refine AW.pre (St.le.nilrow 3 1 (by (simp only [go_sem,seval]; iterate 2 try (simp (disch:=omega) only [zq]; try simp only [go_sem,seval])))) ?_
 refine wk ?_
 refine AW.lk (S:={ k : Nat // k ≤ chunksN s.length }) [0] (fun s_=>[(3,.row 0 0 (fiveB (s.take (s_.1 * 4))).length),(4,.int .i64 ((s_.1 * 4 : Nat) : Int))]) (fun s_=>[(0,.row 1 (bytesAV (fiveB (s.take (s_.1 * 4)))) true)]) 1 (fun s_=>chunksN s.length - s_.1) ⟨0,Nat.zero_le _⟩ ?_ ?_
 ·refine St.le.vw [0]
 rintro ⟨k,hk⟩
 try dsimp only at hk
 refine AW.seq ?_
 have hkm:=chunks_more (n:=s.length) (i:=k)
 have hst:=chunk_step s k
 have hpt:=chunk_take s k
 have hcl:=chunk_len s k
 have hcb:=fiveB_bound (s.take (k * 4))
 rw [List.length_take] at hcb
 obtain ⟨kf,hkf⟩ : ∃ kf,kf = k * 4:=⟨_,rfl⟩
 have hk1 : (k + 1) * 4 = kf + 4:=by omega
 rw [hk1] at hst
 rw [← hkf] at hkm hst hpt hcl hcb ⊢
 generalize hacc : fiveB (s.take kf) = acc at *
 refine AW.rS ?_
 refine AW.c2 ?_ ?_
 ·intro h9
  have hlt : kf < s.length:=h9
  have hp1 : 1 ≤ (chunkL s k).length:=by omega
  have hp4 : (chunkL s k).length ≤ 4:=by omega
  have hpt2:=hpt hlt
  have hst2:=hst hlt
  have hmn : (min ((kf : Int) + 4) (s.length : Int)).toNat = kf + min 4 (s.length - kf):=by omega
  refine AW.skip ?_
  refine AW.seq ?_
  refine AW.block ?_
  refine AW.rS ?_
  rw [hmn,hpt2]
  generalize chunkL s k = p at *
  refine AW.rSC ?_
  refine awOps.cons (awGuard.c1 (c_foliantref14_group _ p (by omega)) ?_)
  refine awOps.rn ?_
  refine AW.seq ?_
  refine AW.rS ?_
  refine AW.c2 ?_ ?_
  ·intro h19
   refine AW.rS ?_
   refine AW.exit ?_
   refine AW.rL ?_
   refine ⟨⟨k + 1,by omega⟩,?_,?_⟩
   ·rw [show bytesAV acc ++ [[AV.int .u8 122]] = bytesAV (acc ++ [122]) from (bB_append acc [122]).symm]; simp only [hk1,hst2,five_z p (by omega) (by omega)]; refine St.le.vw [2]
   ·show chunksN s.length - (k + 1) < chunksN s.length - k; omega
  ·intro h19
   have hgb:=gvN_bd p 4 (by decide)
   have hfin:=five_dg p acc hp1 hp4 (by omega)
   refine AW.skip ?_
   refine AW.rS ?_
   refine AW.rS ?_
   refine AW.block ?_
   refine AW.lk (S:={ j : Nat // j ≤ p.length + 1 }) [0,4,5,6] (fun s_=>[(3,.row 0 0 (dg acc (gvN p 4) s_.1).length),(7,.int .u64 (byN s_.1 : Nat)),(8,.int .i64 s_.1)]) (fun s_=>[(0,.row 1 (bytesAV (dg acc (gvN p 4) s_.1)) true)]) 1 (fun s_=>p.length + 1 - s_.1) ⟨0,Nat.zero_le _⟩ ?_ ?_
   ·refine St.le.vw [0]
   rintro ⟨j,hj⟩
   try dsimp only at hj
   refine AW.seq ?_
   refine AW.rS ?_
   refine AW.c2 ?_ ?_
   ·intro h31
    have hbp:=byN_pos j (by omega)
    have hbl:=byN_le j
    have hbs:=byN_succ j
    have hdb:=dg_byte (gvN p 4) j hgb (by omega)
    have hdl:=dg_len acc (gvN p 4) j
    have hdl1:=dg_len acc (gvN p 4) (j + 1)
    refine AW.skip ?_
    refine AW.seq ?_
    refine AW.block ?_
    refine AW.rS ?_
    refine AW.rL ?_
    refine AW.rL ?_
    refine ⟨⟨j + 1,by omega⟩,?_,?_⟩
    ·rw [hdb,show bytesAV (dg acc (gvN p 4) j) ++ [[AV.int .u8 ((chF (gvN p 4) j).toNat : Int)]] = bytesAV (dg acc (gvN p 4) (j + 1)) from (bB_append _ [_]).symm]; refine St.le.vw [2]
    ·show p.length + 1 - (j + 1) < p.length + 1 - j; omega
   ·intro h31
    refine AW.exit ?_
    have hje : j = p.length + 1:=by omega
    subst hje
    refine AW.rL ?_
    refine ⟨⟨k + 1,by omega⟩,?_,?_⟩
    ·simp only [hk1,hst2,hfin]; refine St.le.vw [0]
    ·show chunksN s.length - (k + 1) < chunksN s.length - k; omega
 ·intro h9
  refine AW.exit ?_
  have hae : acc = fiveB s:=by rw [← hacc,List.take_of_length_le (by omega)]
  subst hae
  refine AW.rS ?_
  refine AW.rt ?_
  all_goals first | contradiction | rfl | (simp; done) | (simp; omega)
end Go.Proofs

namespace Aw
open Go
def lastR (l out : List UInt8) (most : Nat) : List UInt8 × AErr :=
 if l = [] then (out,.ok) else if l.length = 1 ∨ 4294967296 ≤ vvN l 5 then ([],.form) else if out.length + (l.length - 1) ≤ most then (out ++ (bytes4 (vvN l 5)).take (l.length - 1),.ok) else ([],.long)
end Aw
namespace Go.Proofs
open Go Aw
set_option linter.unusedSimpArgs false
set_option linter.unusedVariables false
set_option maxRecDepth 100000
set_option maxHeartbeats 4000000
theorem app_bytes (a b : List UInt8) : bytesAV a ++ bytesAV b = bytesAV (a ++ b):=(bB_append a b).symm
theorem take_app (a b : List UInt8) : List.take (a.length + b.length) (bytesAV (a ++ b)) = bytesAV (a ++ b):=List.take_of_length_le (by rw [bB_len]; simp)
theorem okr_bytes (l : List UInt8) : (∀ e ∈ bytesAV l,okRow 1 e = true) = True:=by
 refine eq_true ?_
 intro e he
 simp only [bytesAV,List.mem_map] at he
 obtain ⟨b,_,rfl⟩:=he
 rfl
attribute [local go_sem] bytesOf_bytesAV app_bytes take_app okr_bytes bB_len List.length_append
theorem h_rlast (gl : List (Nat × AV)) (l out : List UInt8) (most : Nat) (hl : l.length ≤ 4) (ho : out.length ≤ 16777216) (hm : most ≤ 1048576) : FnH Tryd.prog (gl) 31 [.row 0 0 l.length,.row 1 0 out.length,.int .i64 most] ([(0,.row 1 (bytesAV l) true),(1,.row 1 (bytesAV out) true)]) 2 (fun r h n=>r = .ret (.tup [.str (lastR l out most).1,.int .i64 (errI (lastR l out most).2)]) ∧ h = [] ∧ n = 2):=by
 refine FnH.intro Tryd.func31 rfl rfl (by simp [Tryd.ntmps31]) ?_
 simp only [argEnv,Tryd.ntmps31,Tryd.results31]
 refine AW.rS ?_
 refine AW.trim [0,1,2] ?_
 refine AW.seq ?_
 refine AW.rS ?_
 refine AW.trim [0,1,2,11] ?_
 refine AW.c2 ?_ ?_
 ·intro h4
  refine AW.rS ?_
  refine AW.trim [6,7] ?_
  refine AW.fin3 ?_
  refine AW.ret ?_
  refine ⟨⟨39,[(6,.str out),(7,.int .i64 0)],[],2,gl,2,[]⟩,St.le.vw [0,1] (hpre:=(by decide : ∀ i,i < 2 → nth [0,1] i = some i)),?_⟩
  refine wk ?_
  have e : lastR l out most = (out,.ok):=by rw [lastR,if_pos (List.length_eq_zero_iff.1 (by omega))]
  rw [e]
  simp [errI]
 ·intro h4
  have hne : ¬ l = []:=fun q=>by rw [q] at h4; simp at h4
  refine AW.skip ?_
  refine AW.rSC ?_
  refine awOps.cons (awGuard.c1 (c_foliantref14_value _ l (by omega)) ?_)
  refine awOps.rn ?_
  refine AW.trim [0,1,2,8] ?_
  refine AW.seq ?_
  refine AW.rS ?_
  refine AW.trim [0,1,2,8,22] ?_
  refine AW.c2 ?_ ?_
  ·intro h14
   refine AW.rS ?_
   refine AW.trim [6,7] ?_
   refine AW.fin3 ?_
   refine AW.ret ?_
   refine ⟨⟨39,[(6,.str []),(7,.int .i64 3)],[],2,gl,2,[]⟩,St.le.vw [0,1] (hpre:=(by decide : ∀ i,i < 2 → nth [0,1] i = some i)),?_⟩
   refine wk ?_
   have e : lastR l out most = ([],.form):=by rw [lastR,if_neg hne,if_pos (by omega)]
   rw [e]
   simp [errI]
  ·intro h14
   refine AW.skip ?_
   refine AW.seq ?_
   refine AW.rS ?_
   refine AW.trim [0,1,8,30] ?_
   refine AW.c2 ?_ ?_
   ·intro h21
    refine AW.rS ?_
    refine AW.trim [6,7] ?_
    refine AW.fin3 ?_
    refine AW.ret ?_
    refine ⟨⟨39,[(6,.str []),(7,.int .i64 5)],[],2,gl,2,[]⟩,St.le.vw [0,1] (hpre:=(by decide : ∀ i,i < 2 → nth [0,1] i = some i)),?_⟩
    refine wk ?_
    have e : lastR l out most = ([],.long):=by rw [lastR,if_neg hne,if_neg (by omega),if_neg (by omega)]
    rw [e]
    simp [errI]
   ·intro h21
    refine AW.skip ?_
    refine AW.rSC ?_
    rw [show ((l.length : Int) - 1) = ((l.length - 1 : Nat) : Int) by omega]
    refine awOps.cons (awGuard.c1 (c_foliantref14_bytes _ (vvN l 5) (l.length - 1) (by omega) (by omega)) ?_)
    have e : lastR l out most = (out ++ (bytes4 (vvN l 5)).take (l.length - 1),.ok):=by rw [lastR,if_neg hne,if_neg (by omega),if_pos (by omega)]
    have hX4 : ((bytes4 (vvN l 5)).take (l.length - 1)).length ≤ 4:=by rw [List.length_take]; omega
    rw [e]
    generalize (bytes4 (vvN l 5)).take (l.length - 1) = X at *
    refine awOps.rn ?_
    refine AW.trim [6,7] ?_
    refine AW.fin3 ?_
    refine AW.ret ?_
    refine ⟨⟨39,[(6,.str (out ++ X)),(7,.int .i64 0)],[],2,gl,2,[]⟩,St.le.vw [0,1] (hpre:=(by decide : ∀ i,i < 2 → nth [0,1] i = some i)),?_⟩
    refine wk ?_
    simp [errI]
end Go.Proofs

namespace Aw
open Go
theorem vv_val (l : List UInt8) (h : l.length ≤ 5) : vvN l 5 = val5 (l.map UInt8.toNat):=by
 match l,h with
 | [],_=>rfl
 | [a],_=>simp [vvN,val5]
 | [a,b],_=>simp [vvN,val5]
 | [a,b,c],_=>simp [vvN,val5]
 | [a,b,c,d],_=>simp [vvN,val5]
 | [a,b,c,d,e],_=>simp [vvN,val5]
 | _ :: _ :: _ :: _ :: _ :: _ :: _,h=>exact absurd h (by simp)
theorem last_end {M : Nat} {s l out : Byt} (hs : s ≠ []) (h : ((s.getD 0 0).toNat : Int) = 62) (hl : l.length ≤ 4) : endR M s (l.map UInt8.toNat) out = lastR l out M:=by
 by_cases h0 : l = []
 ·subst h0
  rw [lastR,if_pos rfl]
  exact end_none hs h
 by_cases h1 : l.length = 1
 ·rw [lastR,if_neg h0,if_pos (.inl h1)]
  exact end_bad hs (fun q=>q.2 (by rw [List.length_map]; omega))
 ·rw [end_put hs h (by simpa using h0) (by rw [List.length_map]; exact h1),lastR,if_neg h0,vv_val l (by omega)]
  have hm : (l.map UInt8.toNat).length = l.length:=List.length_map ..
  by_cases h2 : 4294967296 ≤ val5 (l.map UInt8.toNat)
  ·rw [putE_form h2,if_neg (by decide),if_pos rfl,if_pos (.inr h2)]
  ·by_cases h3 : out.length + (l.length - 1) ≤ M
   ·rw [putE_ok h2 (by rw [hm]; exact h3),if_pos rfl,if_neg (by omega),if_pos h3,putO,hm]
   ·rw [putE_long h2 (by rw [hm]; exact h3),if_neg (by decide),if_neg (by decide),if_neg (by omega),if_neg h3]
end Aw

namespace Go.Proofs
open Go Aw
set_option linter.unusedSimpArgs false
set_option linter.unusedVariables false
set_option maxRecDepth 100000
set_option maxHeartbeats 4000000
attribute [local irreducible] val5 unfiveS
theorem bB_takes (l : List UInt8) (c : UInt8) : List.take (l.length + 1) (bytesAV (l ++ [c])) = bytesAV (l ++ [c]):=List.take_of_length_le (by rw [bB_len]; simp)
attribute [local go_sem] bB_takes List.length_append
abbrev dgt (c : UInt8) : UInt8:=UInt8.ofNat (c.toNat - 33)
theorem dgt_map (l : List UInt8) (c : UInt8) : (l ++ [dgt c]).map UInt8.toNat = l.map UInt8.toNat ++ [c.toNat - 33]:=by
 have:=c.toNat_lt
 rw [List.map_append,List.map_cons,List.map_nil,u8_ofNat (by omega)]
theorem dgt_row (l : List UInt8) (c : UInt8) (h : 33 ≤ c.toNat) : bytesAV l ++ [[AV.int .u8 ((c.toNat : Int) - 33)]] = bytesAV (l ++ [dgt c]):=by
 have:=c.toNat_lt
 rw [bB_snoc l (by omega) (by omega),show ((c.toNat : Int) - 33).toNat = c.toNat - 33 by omega]
theorem c_b4 (gl : List (Nat × AV)) (v : Nat) (hv : v < 4294967296) : FnP Tryd.prog gl 33 [.int .u64 v,.int .i64 4] fun r=>r = .ret (.sl (bytesAV (bytes4 v))):=c_foliantref14_bytes gl v 4 hv (by decide)
theorem b4_len (v : Nat) : (bytes4 v).length = 4:=rfl
theorem c_foliantref14_Unfive (gl : List (Nat × AV)) (s : List UInt8) (most : Int) (hs : s.length ≤ 16777216:=by first | omega | exact u8_le _ | assumption | (simp; done) | (simp; omega)) : FnP Tryd.prog (gl) 11 [.str s,.int .i64 most] fun r=>r = .ret (.tup [.str (unfiveD s most).1,.int .i64 (errI (unfiveD s most).2)]):=by
 refine FnP.intro Tryd.func11 rfl rfl (by simp [Tryd.ntmps11]) ?_
 simp only [argEnv,Tryd.ntmps11,Tryd.results11]
 refine AW.rS ?_
 refine AW.seq ?_
 refine AW.rS ?_
 refine AW.c2 ?_ ?_
 ·intro h4
  refine AW.rS ?_
  refine AW.rt ?_
  rw [unfiveD,if_pos (by omega)]
  rfl
 ·intro h4
  refine AW.skip ?_
  refine AW.rS ?_
  refine AW.rS ?_
  refine AW.seq ?_
  refine AW.rS ?_
  refine AW.block ?_
  refine AW.pre (St.le.nilrow 6 1 (by (simp only [go_sem,seval]; iterate 2 try (simp (disch:=omega) only [zq]; try simp only [go_sem,seval])))) ?_
  refine wk ?_
  refine AW.pre (St.le.nilrow 7 1 (by (simp only [go_sem,seval]; iterate 2 try (simp (disch:=omega) only [zq]; try simp only [go_sem,seval])))) ?_
  refine wk ?_
  refine AW.lk (S:={ p : Nat × List UInt8 × List UInt8 // p.1 ≤ s.length ∧ p.2.1.length ≤ 4 ∧ p.2.2.length ≤ min most.toNat 1048576 ∧ unfiveD s most = unfiveS (min most.toNat 1048576) (s.drop p.1) (p.2.1.map UInt8.toNat) p.2.2 }) [0,1] (fun s_=>[(6,.row 0 0 s_.1.2.2.length),(7,.row 1 0 s_.1.2.1.length),(8,.int .i64 s_.1.1)]) (fun s_=>[(0,.row 1 (bytesAV s_.1.2.2) true),(1,.row 1 (bytesAV s_.1.2.1) true)]) 2 (fun s_=>s.length - s_.1.1) ⟨(0,[],[]),Nat.zero_le _,Nat.zero_le _,Nat.zero_le _,by rw [unfiveD,if_neg (by omega)]; rfl⟩ ?_ ?_
  ·refine St.le.vw [0,1]
  rintro ⟨⟨i,ld,out⟩,hi,hl4,hl,hsp⟩
  try dsimp only at hi
  try dsimp only at hl4
  try dsimp only at hl
  try dsimp only at hsp
  refine AW.seq ?_
  refine AW.rS ?_
  refine AW.c2 ?_ ?_
  ·intro h17
   have hcb:=u8_le (s.getD i 0)
   have hmn : ld.map UInt8.toNat = [] ↔ ld.length = 0:=by rw [List.map_eq_nil_iff,List.length_eq_zero_iff]
   refine AW.skip ?_
   refine AW.seq ?_
   refine AW.block ?_
   refine AW.rS ?_
   refine AW.seq ?_
   refine AW.rSC ?_
   refine awOps.cons (awGuard.c1 (c_foliantref01_White _ (s.getD i 0)) ?_)
   refine awOps.rn ?_
   refine AW.c2 ?_ ?_
   ·intro h26
    refine AW.exit ?_
    refine AW.rL ?_
    refine ⟨⟨(i + 1,ld,out),h17,hl4,hl,hsp.trans (vx_white h17 h26)⟩,?_,?_⟩
    ·refine St.le.vw [0,1]
    ·simp only []; omega
   ·intro h26
    refine AW.skip ?_
    refine AW.seq ?_
    refine AW.rS ?_
    refine AW.c2 ?_ ?_
    ·intro h33
     refine AW.seq ?_
     refine AW.rS ?_
     refine AW.c2 ?_ ?_
     ·intro h36
      refine AW.rS ?_
      refine AW.rt ?_
      ·rw [hsp,vx_end h17 h33,List.drop_eq_nil_iff.2 (by omega),end_nil]
       rfl
      all_goals first | contradiction | rfl | (simp; done) | (simp; omega)
     ·intro h36
      have hdn : s.drop (i + 1) ≠ []:=by rw [ne_eq,List.drop_eq_nil_iff]; omega
      have hdg : (s.drop (i + 1)).getD 0 0 = s.getD (i + 1) 0:=by rw [getD_drop0,Nat.add_zero]
      refine AW.skip ?_
      refine AW.seq ?_
      refine AW.rS ?_
      refine AW.c2 ?_ ?_
      ·intro h43
       refine AW.rS ?_
       refine AW.rt ?_
       ·rw [hsp,vx_end h17 h33,end_bad hdn (by rw [hdg]; omega)]
        rfl
       all_goals first | contradiction | rfl | (simp; done) | (simp; omega)
      ·intro h43
       refine AW.skip ?_
       refine AW.rSC ?_
       rw [show (min most 1048576 : Int) = ((min most.toNat 1048576 : Nat) : Int) by omega]
       refine awOps.cons (awGuard.cH [1,0] (h_rlast _ ld out (min most.toNat 1048576) hl4 (by omega) (by omega)) ?_)
       refine awOps.rn ?_
       refine AW.rt ?_
       rw [hsp,vx_end h17 h33,last_end hdn (by rw [hdg]; omega) hl4]
    ·intro h33
     refine AW.skip ?_
     refine AW.seq ?_
     refine AW.rS ?_
     refine AW.c2 ?_ ?_
     ·intro h56
      refine AW.rS ?_
      refine AW.rt ?_
      rw [hsp,vx_form h17 h26 (fun q=>by have:=hmn.1 q.2; omega) (by omega) h33]
      rfl
     ·intro h56
      refine AW.skip ?_
      refine AW.rS ?_
      refine AW.seq ?_
      refine AW.rS ?_
      refine AW.c2 ?_ ?_
      ·intro h64
       refine AW.rS ?_
       have hdl : (ld ++ [dgt (s.getD i 0)]).length = ld.length + 1:=by simp
       rw [dgt_row ld _ (by omega)]
       refine AW.vw [0,3] [(0,.str s),(1,.int .i64 (min most 1048576)),(6,.row 0 0 out.length),(7,.row 1 0 (ld ++ [dgt (s.getD i 0)]).length),(8,.int .i64 i)] [(0,.row 1 (bytesAV out) true),(1,.row 1 (bytesAV (ld ++ [dgt (s.getD i 0)])) true)] ?_
       refine AW.seq ?_
       refine AW.rS ?_
       refine AW.c2 ?_ ?_
       ·intro h68
        refine AW.exit ?_
        refine AW.rL ?_
        refine ⟨⟨(i + 1,ld ++ [dgt (s.getD i 0)],out),h17,by show (ld ++ [dgt (s.getD i 0)]).length ≤ 4; omega,hl,by rw [dgt_map]; exact hsp.trans (vx_more h17 h26 (by omega) (by omega) (by rw [List.length_map]; omega))⟩,?_,?_⟩
        ·refine St.le.vw [0,1]
        ·simp only []; omega
       ·intro h68
        refine AW.skip ?_
        refine AW.rLC ?_
        have e5:=vx_five (M:=min most.toNat 1048576) (out:=out) (l:=ld.map UInt8.toNat) h17 h26 (by omega) (by omega) (by rw [List.length_map]; omega)
        rw [← dgt_map] at e5
        have hvv:=vv_val (ld ++ [dgt (s.getD i 0)]) (by omega)
        have hl5 : ((ld ++ [dgt (s.getD i 0)]).map UInt8.toNat).length = 5:=by rw [List.length_map]; omega
        refine awOps.cons (awGuard.c1 (c_foliantref14_value _ (ld ++ [dgt (s.getD i 0)]) (by simp; omega)) ?_)
        refine awOps.rn ?_
        refine AW.seq ?_
        refine AW.rS ?_
        refine AW.c2 ?_ ?_
        ·intro h78
         refine AW.rS ?_
         refine AW.rt ?_
         ·rw [hsp,e5,if_neg (by rw [putE_form (by omega)]; decide),if_pos (putE_form (by omega))]
          rfl
         all_goals first | contradiction | rfl | (simp; done) | (simp; omega)
        ·intro h78
         refine AW.skip ?_
         refine AW.seq ?_
         refine AW.rS ?_
         refine AW.c2 ?_ ?_
         ·intro h85
          refine AW.rS ?_
          refine AW.rt ?_
          ·rw [hsp,e5,if_neg (by rw [putE_long (by omega) (by omega)]; decide),if_neg (by rw [putE_long (by omega) (by omega)]; decide)]
           rfl
          all_goals first | contradiction | rfl | (simp; done) | (simp; omega)
         ·intro h85
          refine AW.skip ?_
          have hb4:=b4_len (vvN (ld ++ [dgt (s.getD i 0)]) 5)
          refine AW.rLC ?_
          refine awOps.cons (awGuard.c1 (c_b4 _ (vvN (ld ++ [dgt (s.getD i 0)]) 5) (by omega)) ?_)
          refine awOps.rn ?_
          refine AW.pre (St.le.nilrow 7 1 (by (simp only [go_sem,seval]; iterate 2 try (simp (disch:=omega) only [zq]; try simp only [go_sem,seval])))) ?_
          refine AW.rL ?_
          refine ⟨⟨(i + 1,[],out ++ bytes4 (vvN (ld ++ [dgt (s.getD i 0)]) 5)),h17,by simp,by show (out ++ _).length ≤ _; rw [List.length_append]; show out.length + 4 ≤ _; omega,hsp.trans (e5.trans ((if_pos (putE_ok (by omega) (by omega))).trans (by show unfiveS _ _ [] _ = unfiveS _ _ [] (out ++ bytes4 (vvN (ld ++ [dgt (s.getD i 0)]) 5)); rw [putO,hl5,hvv]; rfl)))⟩,?_,?_⟩
          ·simp only [app_bytes]; refine St.le.vw [2,3]
          ·simp only []; omega
      ·intro h64
       refine AW.skip ?_
       refine AW.seq ?_
       refine AW.rS ?_
       refine AW.c2 ?_ ?_
       ·intro h98
        refine AW.rS ?_
        refine AW.rt ?_
        cases h98
       ·intro h98
        refine AW.skip ?_
        refine AW.seq ?_
        refine AW.rS ?_
        refine AW.c2 ?_ ?_
        ·intro h105
         refine AW.rS ?_
         refine AW.rt ?_
         rw [hsp,vx_z h17 h26 (by omega) (hmn.2 (by omega)),if_neg (by omega)]
         rfl
        ·intro h105
         refine AW.skip ?_
         have hb4:=b4_len 0
         refine AW.rLC ?_
         refine awOps.cons (awGuard.c1 (c_b4 _ 0 (by omega)) ?_)
         refine awOps.rn ?_
         refine AW.pre (St.le.nilrow 7 1 (by (simp only [go_sem,seval]; iterate 2 try (simp (disch:=omega) only [zq]; try simp only [go_sem,seval])))) ?_
         refine AW.rL ?_
         refine ⟨⟨(i + 1,[],out ++ bytes4 0),h17,by simp,by show (out ++ _).length ≤ _; rw [List.length_append]; show out.length + 4 ≤ _; omega,hsp.trans ((vx_z h17 h26 (by omega) (hmn.2 (by omega))).trans (if_pos (by omega)))⟩,?_,?_⟩
         ·simp only [app_bytes]; refine St.le.vw [2,3]
         ·simp only []; omega
  ·intro h17
   refine AW.exit ?_
   refine AW.rS ?_
   refine AW.rt ?_
   rw [hsp,vx_done h17]
   rfl
end Go.Proofs

namespace Go.Proofs
open Go Aw
set_option linter.unusedSimpArgs false
set_option linter.unusedVariables false
set_option maxRecDepth 100000
set_option maxHeartbeats 4000000
theorem c_law_AsciiTells (s : List UInt8) (most : Int) : FnP Tryd.prog (GA) 3 [.str s,.int .i64 most] fun r=>r = .ret (.bool true):=by
 refine FnP.intro Tryd.func3 rfl rfl (by simp [Tryd.ntmps3]) ?_
 simp only [argEnv,Tryd.ntmps3,Tryd.results3]
 refine AW.rS ?_
 refine AW.seq ?_
 refine AW.rS ?_
 refine AW.c2 ?_ ?_
 ·intro h4
  refine AW.rSC ?_
  refine awOps.cons (awGuard.c1 (c_foliantlaw14_lives) ?_)
  refine awOps.rn ?_
  refine AW.rt ?_
  all_goals first | contradiction | rfl | (simp; done) | (simp; omega)
 ·intro h4
  refine AW.skip ?_
  refine AW.rSC ?_
  refine awOps.cons (awGuard.c1 (c_ascii_Unhex _ s most (by omega)) ?_)
  refine awOps.rn ?_
  refine AW.rSC ?_
  refine awOps.cons (awGuard.c1 (c_foliantref14_Unhex _ s most (by omega)) ?_)
  refine awOps.rn ?_
  refine AW.rSC ?_
  refine awOps.cons (awGuard.c1 (c_ascii_Unfive s most (by omega)) ?_)
  refine awOps.rn ?_
  refine AW.rSC ?_
  refine awOps.cons (awGuard.c1 (c_foliantref14_Unfive _ s most (by omega)) ?_)
  refine awOps.rn ?_
  refine AW.rSC ?_
  refine awOps.cons (awGuard.c1 (c_ascii_Unrun _ s most (by omega)) ?_)
  refine awOps.rn ?_
  refine AW.rSC ?_
  refine awOps.cons (awGuard.c1 (c_foliantref14_Unrun _ s most (by omega)) ?_)
  refine awOps.rn ?_
  refine AW.rSC ?_
  refine awOps.cons (awGuard.c1 (c_ascii_Hex _ s (by omega)) ?_)
  refine awOps.rn ?_
  refine awOps.cons (awGuard.c1 (c_foliantref14_Hex _ s (by omega)) ?_)
  refine awOps.rn ?_
  refine awOps.cons (awGuard.cG (fun hg=>c_ascii_Five s (by omega)) ?_)
  refine awOps.rn ?_
  refine awOps.cons (awGuard.cG (fun hg=>c_foliantref14_Five _ s (by omega)) ?_)
  refine awOps.rn ?_
  refine awOps.cons (awGuard.cG (fun hg=>c_ascii_Run _ s (by omega)) ?_)
  refine awOps.rn ?_
  refine awOps.cons (awGuard.cG (fun hg=>c_foliantref14_Run _ s (by omega)) ?_)
  refine awOps.rn ?_
  refine awOps.cons (awGuard.cG (fun hg=>c_foliantlaw14_lives) ?_)
  refine awOps.rn ?_
  refine AW.rt ?_
  all_goals first | contradiction | rfl | (simp; done) | (simp; omega)
end Go.Proofs
