/- A part of the proof: no condition of its own. -/
import Derived.Test.YthpbpnfgenhhdaaGreatPart2
set_option linter.unusedVariables false
set_option linter.unusedSimpArgs false
namespace Aw
open Go
theorem use_split (o : Pob) (d : Int) : useB o d = (useB o 1 && (decide (d = 1) || !decide (o.kind = 9))):=by
 unfold useB
 cases (bif bif bif bif bif uOk o.kind then bif uN o.kind then true else decide (o.num = 0) else false then bif uG o.kind then true else decide (o.gen = 0) else false then bif uS o.kind then true else decide (o.str = []) else false
  then bif uKeys o.kind then true else decide ((o.keys.length : Int) = 0) else false then bif uKids o.kind then true else decide ((o.kids.length : Int) = 0) else false) <;> simp
theorem own_deep {o : Pob} {d : Int} (h : 24 < d) : chk o d = 7:=chk_bad (by unfold ownE; rw [if_pos (by omega)]) (by decide)
theorem own_use {o : Pob} {d : Int} (h : ¬ 24 < d) (h' : useB o d = false) : chk o d = 10:=chk_bad (by unfold ownE; rw [if_neg (by omega),if_pos h']) (by decide)
theorem own_fits {o : Pob} {d : Int} (h : ¬ 24 < d) (h1 : useB o d = true) (h' : fitsB o = false) : chk o d = 2:=chk_bad (by unfold ownE; rw [if_neg (by omega),if_neg (by simp [h1]),if_pos h']) (by decide)
theorem own_long {o : Pob} {d : Int} (h : ¬ 24 < d) (h1 : useB o d = true) (h2 : fitsB o = true) (h' : shortB o = false) : chk o d = 5:=chk_bad (by unfold ownE; rw [if_neg (by omega),if_neg (by simp [h1]),if_neg (by simp [h2]),if_pos h']) (by decide)
theorem own_many {o : Pob} {d : Int} (h : ¬ 24 < d) (h1 : useB o d = true) (h2 : fitsB o = true) (h3 : shortB o = true) (h' : 8191 < (o.kids.length : Int)) : chk o d = 6:=chk_bad (by unfold ownE; rw [if_neg (by omega),if_neg (by simp [h1]),if_neg (by simp [h2]),if_neg (by simp [h3]),if_pos (by omega)]) (by decide)
theorem own_form {o : Pob} {d : Int} (h : ¬ 24 < d) (h1 : useB o d = true) (h2 : fitsB o = true) (h3 : shortB o = true) (h4 : ¬ 8191 < (o.kids.length : Int)) (h' : formB o = false) : chk o d = 3:=chk_bad (by unfold ownE; rw [if_neg (by omega),if_neg (by simp [h1]),if_neg (by simp [h2]),if_neg (by simp [h3]),if_neg (by omega),if_pos h']) (by decide)
theorem own_ok {o : Pob} {d : Int} (h : ¬ 24 < d) (h1 : useB o d = true) (h2 : fitsB o = true) (h3 : shortB o = true) (h4 : ¬ 8191 < (o.kids.length : Int)) (h' : formB o = true) : chk o d = chkL o.kids (d + 1):=by
 rw [chk_eq,if_pos]
 unfold ownE
 rw [if_neg (by omega),if_neg (by simp [h1]),if_neg (by simp [h2]),if_neg (by simp [h3]),if_neg (by omega),if_neg (by simp [h'])]
def longN (k : Int) : Int:=if k = 5 then 127 else if k = 9 then 1048576 else 32767
theorem short_ref {o : Pob} (hu : useB o 1 = true) : shortB o = decide ((o.str.length : Int) ≤ longN o.kind):=by
 by_cases h4 : o.kind = 4
 ·simp [shortB,longN,h4]
 by_cases h5 : o.kind = 5
 ·simp [shortB,longN,h5]
 by_cases h9 : o.kind = 9
 ·simp [shortB,longN,h9]
 have hs : o.str = []:=by
  have hb : uS o.kind = false:=by simp [uS,h4,h5,h9]
  unfold useB at hu
  rw [hb] at hu
  cases hc : decide (o.str = []) with
  | true=>simpa using hc
  | false=>rw [hc] at hu; revert hu; cases (bif bif bif uOk o.kind then bif uN o.kind then true else decide (o.num = 0) else false then bif uG o.kind then true else decide (o.gen = 0) else false then true else false) <;> simp
 simp only [shortB,longN,if_neg h4,if_neg h5,if_neg h9,hs]
 simp
theorem form_name {o : Pob} (h : o.kind = 5) : formB o = nameB o.str:=by
 have : uKeys 5 = false:=rfl
 simp [formB,h,this]
theorem form_none {o : Pob} (h : ¬ o.kind = 5) (h7 : ¬ o.kind = 7) (h9 : ¬ o.kind = 9) : formB o = true:=by
 have : uKeys o.kind = false:=by simp [uKeys,h7,h9]
 simp [formB,h,this]
theorem form_keys {o : Pob} (h7 : o.kind = 7 ∨ o.kind = 9) : formB o = risingB o:=by
 have : uKeys o.kind = true:=by simpa [uKeys] using h7
 have h5 : ¬ o.kind = 5:=by omega
 simp [formB,h5,this]
/-! sizes -/
theorem Pob.tot_eq (o : Pob) : o.tot = o.str.length + (o.keys.map fun k=>k.length + 1).sum + tots o.kids + 7:=by cases o; simp only [Pob.tot,Pob.str,Pob.keys,Pob.kids]
theorem tots_get : ∀ {l : List Pob} {i : Nat},i < l.length → (l.getD i Pob.null).tot ≤ tots l
 | o :: l,0,_=>by simp [tots]
 | o :: l,i + 1,h=>by
  have:=tots_get (l:=l) (i:=i) (by simpa using h)
  simp only [List.getD_cons_succ,tots]
  omega
theorem Pob.tot_kid {o : Pob} {i : Nat} (h : i < o.kids.length) : (o.kids.getD i Pob.null).tot + 7 ≤ o.tot:=by
 have:=Pob.tot_eq o
 have:=tots_get h
 omega
theorem ktot_get : ∀ {l : List (List UInt8)} {i : Nat},i < l.length → (l.getD i []).length + 1 ≤ (l.map fun k=>k.length + 1).sum
 | k :: l,0,_=>by simp
 | k :: l,i + 1,h=>by
  have:=ktot_get (l:=l) (i:=i) (by simpa using h)
  simp only [List.getD_cons_succ,List.map_cons,List.sum_cons]
  omega
theorem Pob.tot_key {o : Pob} {i : Nat} (h : i < o.keys.length) : (o.keys.getD i []).length + 8 ≤ o.tot:=by
 have:=Pob.tot_eq o
 have:=ktot_get h
 omega
theorem Pob.tot_str (o : Pob) : o.str.length + 7 ≤ o.tot:=by
 have:=Pob.tot_eq o
 omega
end Aw

namespace Go.Proofs
open Go Aw
set_option linter.unusedSimpArgs false
set_option linter.unusedVariables false
set_option maxRecDepth 100000
set_option maxHeartbeats 4000000
attribute [local go_sem] app1_objsAV
end Go.Proofs

namespace Go.Proofs
open Go Aw
set_option linter.unusedSimpArgs false
set_option linter.unusedVariables false
set_option maxRecDepth 100000
set_option maxHeartbeats 4000000
theorem c_foliantref05_Name (gl : List (Nat × AV)) (s : List UInt8) (hl : s.length ≤ 16777216:=by first | omega | exact u8_le _ | assumption | (simp; done) | (simp; omega)) : FnP Tryz.prog (gl) 140 [.str s] fun r=>r = .ret (.bool (nameB s)):=by
 refine FnP.intro Tryz.func140 rfl rfl (by simp [Tryz.ntmps140]) ?_
 simp only [argEnv,Tryz.ntmps140,Tryz.results140]
 refine AW.rS ?_
 refine AW.seq ?_
 refine AW.rS ?_
 refine AW.block ?_
 refine AW.lk (S:={ i : Nat // i ≤ s.length ∧ ∀ j,j < i → s.getD j 0 ≠ 0 }) [0] (fun s_=>[(3,.int .i64 s_.1)]) (fun s_=>[]) 0 (fun s_=>s.length - s_.1) ⟨0,Nat.zero_le _,fun j h=>absurd h (by omega)⟩ ?_ ?_
 ·refine St.le.vw []
 rintro ⟨i,hi,hs⟩
 try dsimp only at hi
 try dsimp only at hs
 refine AW.seq ?_
 refine AW.rS ?_
 refine AW.c2 ?_ ?_
 ·intro h8
  refine AW.skip ?_
  refine AW.seq ?_
  refine AW.block ?_
  refine AW.rS ?_
  refine AW.c2 ?_ ?_
  ·intro h13
   refine AW.rS ?_
   refine AW.rt ?_
   rw [nameB_no h8 (by simpa [← UInt8.toNat_inj] using h13)]
  ·intro h13
   refine AW.skip ?_
   refine AW.rL ?_
   refine ⟨⟨i + 1,by omega,fun j hj=>(Nat.lt_or_ge j i).elim (hs j) (fun h=>(show j = i by omega) ▸ (by simpa [← UInt8.toNat_inj] using h13))⟩,?_,?_⟩
   ·refine St.le.vw []
   ·simp only []; omega
 ·intro h8
  refine AW.exit ?_
  refine AW.rS ?_
  refine AW.rt ?_
  rw [nameB_all (fun j hj=>hs j (by omega))]
theorem c_foliantref05_zero (gl : List (Nat × AV)) (o : Pob) (n g s l : Bool) : FnP Tryz.prog (gl) 139 [.agg o.cells,.bool n,.bool g,.bool s,.bool l] fun r=>r = .ret (.bool ((n || decide (o.num = 0)) && (g || decide (o.gen = 0)) && (s || decide (o.str = [])) && (l || (decide ((o.keys.length : Int) = 0) && decide ((o.kids.length : Int) = 0))))):=by
 refine FnP.intro Tryz.func139 rfl rfl (by simp [Tryz.ntmps139]) ?_
 simp only [argEnv,Tryz.ntmps139,Tryz.results139]
 refine AW.rS ?_
 refine AW.rS ?_
 refine AW.rt ?_
 cases n <;> cases g <;> cases s <;> cases l <;> simp
theorem c_foliantref05_uses (gl : List (Nat × AV)) (o : Pob) : FnP Tryz.prog (gl) 121 [.agg o.cells] fun r=>r = .ret (.bool (useB o 1)):=by
 refine FnP.intro Tryz.func121 rfl rfl (by simp [Tryz.ntmps121]) ?_
 simp only [argEnv,Tryz.ntmps121,Tryz.results121]
 refine AW.rS ?_
 refine AW.seq ?_
 refine AW.rS ?_
 refine AW.block ?_
 refine AW.rS ?_
 refine AW.c2 ?_ ?_
 ·intro h6
  refine AW.rSC ?_
  refine awOps.cons (awGuard.c1 (c_foliantref05_zero _ o false false false false) ?_)
  refine awOps.rn ?_
  refine AW.rt ?_
  first | (simp_all [useB,uN,uG,uS,uKeys,uKids,uOk,Bool.and_assoc]; done) | (simp_all [useB,uN,uG,uS,uKeys,uKids,uOk]; omega)
 ·intro h6
  refine AW.seq ?_
  refine AW.rS ?_
  refine AW.c2 ?_ ?_
  ·intro h14
   refine AW.skip ?_
   refine AW.c2 ?_ ?_
   ·intro h16
    refine AW.rSC ?_
    refine awOps.cons (awGuard.c1 (c_foliantref05_zero _ o true false false false) ?_)
    refine awOps.rn ?_
    refine AW.rt ?_
    first | (simp_all [useB,uN,uG,uS,uKeys,uKids,uOk,Bool.and_assoc]; done) | (simp_all [useB,uN,uG,uS,uKeys,uKids,uOk]; omega)
   ·intro h16
    refine AW.seq ?_
    refine AW.rS ?_
    refine AW.c2 ?_ ?_
    ·intro h24
     refine AW.skip ?_
     refine AW.c2 ?_ ?_
     ·intro h26
      refine AW.rSC ?_
      refine awOps.cons (awGuard.c1 (c_foliantref05_zero _ o false false true false) ?_)
      refine awOps.rn ?_
      refine AW.rt ?_
      first | (simp_all [useB,uN,uG,uS,uKeys,uKids,uOk,Bool.and_assoc]; done) | (simp_all [useB,uN,uG,uS,uKeys,uKids,uOk]; omega)
     ·intro h26
      refine AW.rS ?_
      refine AW.c2 ?_ ?_
      ·intro h33
       refine AW.rSC ?_
       refine awOps.cons (awGuard.c1 (c_foliantref05_zero _ o false false false true) ?_)
       refine awOps.rn ?_
       refine AW.rt ?_
       first | (simp_all [useB,uN,uG,uS,uKeys,uKids,uOk,Bool.and_assoc]; done) | (simp_all [useB,uN,uG,uS,uKeys,uKids,uOk]; omega)
      ·intro h33
       refine AW.rS ?_
       refine AW.c2 ?_ ?_
       ·intro h40
        refine AW.rSC ?_
        refine awOps.cons (awGuard.c1 (c_foliantref05_zero ..) ?_)
        refine awOps.rn ?_
        refine AW.rt ?_
        first | (simp_all [useB,uN,uG,uS,uKeys,uKids,uOk,Bool.and_assoc]; done) | (simp_all [useB,uN,uG,uS,uKeys,uKids,uOk]; omega)
       ·intro h40
        refine AW.rS ?_
        refine AW.c2 ?_ ?_
        ·intro h47
         refine AW.rSC ?_
         refine awOps.cons (awGuard.c1 (c_foliantref05_zero ..) ?_)
         refine awOps.rn ?_
         refine AW.rt ?_
         first | (simp_all [useB,uN,uG,uS,uKeys,uKids,uOk,Bool.and_assoc]; done) | (simp_all [useB,uN,uG,uS,uKeys,uKids,uOk]; omega)
        ·intro h47
         refine AW.rS ?_
         refine AW.c2 ?_ ?_
         ·intro h54
          refine AW.rSC ?_
          refine awOps.cons (awGuard.c1 (c_foliantref05_zero ..) ?_)
          refine awOps.rn ?_
          refine AW.rt ?_
          first | (simp_all [useB,uN,uG,uS,uKeys,uKids,uOk,Bool.and_assoc]; done) | (simp_all [useB,uN,uG,uS,uKeys,uKids,uOk]; omega)
         ·intro h54
          refine AW.skip ?_
          refine AW.rS ?_
          refine AW.rt ?_
          first | (simp_all [useB,uN,uG,uS,uKeys,uKids,uOk,Bool.and_assoc]; done) | (simp_all [useB,uN,uG,uS,uKeys,uKids,uOk]; omega)
    ·intro h24
     refine AW.rL ?_
     refine AW.c2 ?_ ?_
     ·intro h65
      refine AW.rSC ?_
      refine awOps.cons (awGuard.c1 (c_foliantref05_zero ..) ?_)
      refine awOps.rn ?_
      refine AW.rt ?_
      first | (simp_all [useB,uN,uG,uS,uKeys,uKids,uOk,Bool.and_assoc]; done) | (simp_all [useB,uN,uG,uS,uKeys,uKids,uOk]; omega)
     ·intro h65
      refine AW.rS ?_
      refine AW.c2 ?_ ?_
      ·intro h72
       refine AW.rSC ?_
       refine awOps.cons (awGuard.c1 (c_foliantref05_zero ..) ?_)
       refine awOps.rn ?_
       refine AW.rt ?_
       first | (simp_all [useB,uN,uG,uS,uKeys,uKids,uOk,Bool.and_assoc]; done) | (simp_all [useB,uN,uG,uS,uKeys,uKids,uOk]; omega)
      ·intro h72
       refine AW.rS ?_
       refine AW.c2 ?_ ?_
       ·intro h79
        refine AW.rSC ?_
        refine awOps.cons (awGuard.c1 (c_foliantref05_zero ..) ?_)
        refine awOps.rn ?_
        refine AW.rt ?_
        first | (simp_all [useB,uN,uG,uS,uKeys,uKids,uOk,Bool.and_assoc]; done) | (simp_all [useB,uN,uG,uS,uKeys,uKids,uOk]; omega)
       ·intro h79
        refine AW.rS ?_
        refine AW.c2 ?_ ?_
        ·intro h86
         refine AW.rSC ?_
         refine awOps.cons (awGuard.c1 (c_foliantref05_zero ..) ?_)
         refine awOps.rn ?_
         refine AW.rt ?_
         first | (simp_all [useB,uN,uG,uS,uKeys,uKids,uOk,Bool.and_assoc]; done) | (simp_all [useB,uN,uG,uS,uKeys,uKids,uOk]; omega)
        ·intro h86
         refine AW.rS ?_
         refine AW.c2 ?_ ?_
         ·intro h93
          refine AW.rSC ?_
          refine awOps.cons (awGuard.c1 (c_foliantref05_zero ..) ?_)
          refine awOps.rn ?_
          refine AW.rt ?_
          first | (simp_all [useB,uN,uG,uS,uKeys,uKids,uOk,Bool.and_assoc]; done) | (simp_all [useB,uN,uG,uS,uKeys,uKids,uOk]; omega)
         ·intro h93
          refine AW.skip ?_
          refine AW.rS ?_
          refine AW.rt ?_
          first | (simp_all [useB,uN,uG,uS,uKeys,uKids,uOk,Bool.and_assoc]; done) | (simp_all [useB,uN,uG,uS,uKeys,uKids,uOk]; omega)
  ·intro h14
   refine AW.rS ?_
   refine AW.c2 ?_ ?_
   ·intro h104
    refine AW.skip ?_
    refine AW.c2 ?_ ?_
    ·intro h106
     refine AW.rSC ?_
     refine awOps.cons (awGuard.c1 (c_foliantref05_zero ..) ?_)
     refine awOps.rn ?_
     refine AW.rt ?_
     first | (simp_all [useB,uN,uG,uS,uKeys,uKids,uOk,Bool.and_assoc]; done) | (simp_all [useB,uN,uG,uS,uKeys,uKids,uOk]; omega)
    ·intro h106
     refine AW.seq ?_
     refine AW.rS ?_
     refine AW.c2 ?_ ?_
     ·intro h114
      refine AW.skip ?_
      refine AW.c2 ?_ ?_
      ·intro h116
       refine AW.rSC ?_
       refine awOps.cons (awGuard.c1 (c_foliantref05_zero ..) ?_)
       refine awOps.rn ?_
       refine AW.rt ?_
       first | (simp_all [useB,uN,uG,uS,uKeys,uKids,uOk,Bool.and_assoc]; done) | (simp_all [useB,uN,uG,uS,uKeys,uKids,uOk]; omega)
      ·intro h116
       refine AW.rS ?_
       refine AW.c2 ?_ ?_
       ·intro h123
        refine AW.rSC ?_
        refine awOps.cons (awGuard.c1 (c_foliantref05_zero ..) ?_)
        refine awOps.rn ?_
        refine AW.rt ?_
        first | (simp_all [useB,uN,uG,uS,uKeys,uKids,uOk,Bool.and_assoc]; done) | (simp_all [useB,uN,uG,uS,uKeys,uKids,uOk]; omega)
       ·intro h123
        refine AW.rS ?_
        refine AW.c2 ?_ ?_
        ·intro h130
         refine AW.rSC ?_
         refine awOps.cons (awGuard.c1 (c_foliantref05_zero ..) ?_)
         refine awOps.rn ?_
         refine AW.rt ?_
         first | (simp_all [useB,uN,uG,uS,uKeys,uKids,uOk,Bool.and_assoc]; done) | (simp_all [useB,uN,uG,uS,uKeys,uKids,uOk]; omega)
        ·intro h130
         refine AW.rS ?_
         refine AW.c2 ?_ ?_
         ·intro h137
          refine AW.rSC ?_
          refine awOps.cons (awGuard.c1 (c_foliantref05_zero ..) ?_)
          refine awOps.rn ?_
          refine AW.rt ?_
          first | (simp_all [useB,uN,uG,uS,uKeys,uKids,uOk,Bool.and_assoc]; done) | (simp_all [useB,uN,uG,uS,uKeys,uKids,uOk]; omega)
         ·intro h137
          refine AW.rS ?_
          refine AW.c2 ?_ ?_
          ·intro h144
           refine AW.rSC ?_
           refine awOps.cons (awGuard.c1 (c_foliantref05_zero ..) ?_)
           refine awOps.rn ?_
           refine AW.rt ?_
           first | (simp_all [useB,uN,uG,uS,uKeys,uKids,uOk,Bool.and_assoc]; done) | (simp_all [useB,uN,uG,uS,uKeys,uKids,uOk]; omega)
          ·intro h144
           refine AW.skip ?_
           refine AW.rS ?_
           refine AW.rt ?_
           first | (simp_all [useB,uN,uG,uS,uKeys,uKids,uOk,Bool.and_assoc]; done) | (simp_all [useB,uN,uG,uS,uKeys,uKids,uOk]; omega)
     ·intro h114
      refine AW.rL ?_
      refine AW.c2 ?_ ?_
      ·intro h155
       refine AW.rSC ?_
       refine awOps.cons (awGuard.c1 (c_foliantref05_zero ..) ?_)
       refine awOps.rn ?_
       refine AW.rt ?_
       first | (simp_all [useB,uN,uG,uS,uKeys,uKids,uOk,Bool.and_assoc]; done) | (simp_all [useB,uN,uG,uS,uKeys,uKids,uOk]; omega)
      ·intro h155
       refine AW.rS ?_
       refine AW.c2 ?_ ?_
       ·intro h162
        refine AW.rSC ?_
        refine awOps.cons (awGuard.c1 (c_foliantref05_zero ..) ?_)
        refine awOps.rn ?_
        refine AW.rt ?_
        first | (simp_all [useB,uN,uG,uS,uKeys,uKids,uOk,Bool.and_assoc]; done) | (simp_all [useB,uN,uG,uS,uKeys,uKids,uOk]; omega)
       ·intro h162
        refine AW.rS ?_
        refine AW.c2 ?_ ?_
        ·intro h169
         refine AW.rSC ?_
         refine awOps.cons (awGuard.c1 (c_foliantref05_zero ..) ?_)
         refine awOps.rn ?_
         refine AW.rt ?_
         first | (simp_all [useB,uN,uG,uS,uKeys,uKids,uOk,Bool.and_assoc]; done) | (simp_all [useB,uN,uG,uS,uKeys,uKids,uOk]; omega)
        ·intro h169
         refine AW.rS ?_
         refine AW.c2 ?_ ?_
         ·intro h176
          refine AW.rSC ?_
          refine awOps.cons (awGuard.c1 (c_foliantref05_zero ..) ?_)
          refine awOps.rn ?_
          refine AW.rt ?_
          first | (simp_all [useB,uN,uG,uS,uKeys,uKids,uOk,Bool.and_assoc]; done) | (simp_all [useB,uN,uG,uS,uKeys,uKids,uOk]; omega)
         ·intro h176
          refine AW.rS ?_
          refine AW.c2 ?_ ?_
          ·intro h183
           refine AW.rSC ?_
           refine awOps.cons (awGuard.c1 (c_foliantref05_zero ..) ?_)
           refine awOps.rn ?_
           refine AW.rt ?_
           first | (simp_all [useB,uN,uG,uS,uKeys,uKids,uOk,Bool.and_assoc]; done) | (simp_all [useB,uN,uG,uS,uKeys,uKids,uOk]; omega)
          ·intro h183
           refine AW.skip ?_
           refine AW.rS ?_
           refine AW.rt ?_
           first | (simp_all [useB,uN,uG,uS,uKeys,uKids,uOk,Bool.and_assoc]; done) | (simp_all [useB,uN,uG,uS,uKeys,uKids,uOk]; omega)
   ·intro h104
    refine AW.rL ?_
    refine AW.c2 ?_ ?_
    ·intro h194
     refine AW.rSC ?_
     refine awOps.cons (awGuard.c1 (c_foliantref05_zero ..) ?_)
     refine awOps.rn ?_
     refine AW.rt ?_
     first | (simp_all [useB,uN,uG,uS,uKeys,uKids,uOk,Bool.and_assoc]; done) | (simp_all [useB,uN,uG,uS,uKeys,uKids,uOk]; omega)
    ·intro h194
     refine AW.seq ?_
     refine AW.rS ?_
     refine AW.c2 ?_ ?_
     ·intro h202
      refine AW.skip ?_
      refine AW.c2 ?_ ?_
      ·intro h204
       refine AW.rSC ?_
       refine awOps.cons (awGuard.c1 (c_foliantref05_zero ..) ?_)
       refine awOps.rn ?_
       refine AW.rt ?_
       first | (simp_all [useB,uN,uG,uS,uKeys,uKids,uOk,Bool.and_assoc]; done) | (simp_all [useB,uN,uG,uS,uKeys,uKids,uOk]; omega)
      ·intro h204
       refine AW.rS ?_
       refine AW.c2 ?_ ?_
       ·intro h211
        refine AW.rSC ?_
        refine awOps.cons (awGuard.c1 (c_foliantref05_zero ..) ?_)
        refine awOps.rn ?_
        refine AW.rt ?_
        first | (simp_all [useB,uN,uG,uS,uKeys,uKids,uOk,Bool.and_assoc]; done) | (simp_all [useB,uN,uG,uS,uKeys,uKids,uOk]; omega)
       ·intro h211
        refine AW.rS ?_
        refine AW.c2 ?_ ?_
        ·intro h218
         refine AW.rSC ?_
         refine awOps.cons (awGuard.c1 (c_foliantref05_zero ..) ?_)
         refine awOps.rn ?_
         refine AW.rt ?_
         first | (simp_all [useB,uN,uG,uS,uKeys,uKids,uOk,Bool.and_assoc]; done) | (simp_all [useB,uN,uG,uS,uKeys,uKids,uOk]; omega)
        ·intro h218
         refine AW.rS ?_
         refine AW.c2 ?_ ?_
         ·intro h225
          refine AW.rSC ?_
          refine awOps.cons (awGuard.c1 (c_foliantref05_zero ..) ?_)
          refine awOps.rn ?_
          refine AW.rt ?_
          first | (simp_all [useB,uN,uG,uS,uKeys,uKids,uOk,Bool.and_assoc]; done) | (simp_all [useB,uN,uG,uS,uKeys,uKids,uOk]; omega)
         ·intro h225
          refine AW.rS ?_
          refine AW.c2 ?_ ?_
          ·intro h232
           refine AW.rSC ?_
           refine awOps.cons (awGuard.c1 (c_foliantref05_zero ..) ?_)
           refine awOps.rn ?_
           refine AW.rt ?_
           first | (simp_all [useB,uN,uG,uS,uKeys,uKids,uOk,Bool.and_assoc]; done) | (simp_all [useB,uN,uG,uS,uKeys,uKids,uOk]; omega)
          ·intro h232
           refine AW.skip ?_
           refine AW.rS ?_
           refine AW.rt ?_
           first | (simp_all [useB,uN,uG,uS,uKeys,uKids,uOk,Bool.and_assoc]; done) | (simp_all [useB,uN,uG,uS,uKeys,uKids,uOk]; omega)
     ·intro h202
      refine AW.rL ?_
      refine AW.c2 ?_ ?_
      ·intro h243
       refine AW.rSC ?_
       refine awOps.cons (awGuard.c1 (c_foliantref05_zero ..) ?_)
       refine awOps.rn ?_
       refine AW.rt ?_
       first | (simp_all [useB,uN,uG,uS,uKeys,uKids,uOk,Bool.and_assoc]; done) | (simp_all [useB,uN,uG,uS,uKeys,uKids,uOk]; omega)
      ·intro h243
       refine AW.rS ?_
       refine AW.c2 ?_ ?_
       ·intro h250
        refine AW.rSC ?_
        refine awOps.cons (awGuard.c1 (c_foliantref05_zero ..) ?_)
        refine awOps.rn ?_
        refine AW.rt ?_
        first | (simp_all [useB,uN,uG,uS,uKeys,uKids,uOk,Bool.and_assoc]; done) | (simp_all [useB,uN,uG,uS,uKeys,uKids,uOk]; omega)
       ·intro h250
        refine AW.rS ?_
        refine AW.c2 ?_ ?_
        ·intro h257
         refine AW.rSC ?_
         refine awOps.cons (awGuard.c1 (c_foliantref05_zero ..) ?_)
         refine awOps.rn ?_
         refine AW.rt ?_
         first | (simp_all [useB,uN,uG,uS,uKeys,uKids,uOk,Bool.and_assoc]; done) | (simp_all [useB,uN,uG,uS,uKeys,uKids,uOk]; omega)
        ·intro h257
         refine AW.rS ?_
         refine AW.c2 ?_ ?_
         ·intro h264
          refine AW.rSC ?_
          refine awOps.cons (awGuard.c1 (c_foliantref05_zero ..) ?_)
          refine awOps.rn ?_
          refine AW.rt ?_
          first | (simp_all [useB,uN,uG,uS,uKeys,uKids,uOk,Bool.and_assoc]; done) | (simp_all [useB,uN,uG,uS,uKeys,uKids,uOk]; omega)
         ·intro h264
          refine AW.rS ?_
          refine AW.c2 ?_ ?_
          ·intro h271
           refine AW.rSC ?_
           refine awOps.cons (awGuard.c1 (c_foliantref05_zero ..) ?_)
           refine awOps.rn ?_
           refine AW.rt ?_
           first | (simp_all [useB,uN,uG,uS,uKeys,uKids,uOk,Bool.and_assoc]; done) | (simp_all [useB,uN,uG,uS,uKeys,uKids,uOk]; omega)
          ·intro h271
           refine AW.skip ?_
           refine AW.rS ?_
           refine AW.rt ?_
           first | (simp_all [useB,uN,uG,uS,uKeys,uKids,uOk,Bool.and_assoc]; done) | (simp_all [useB,uN,uG,uS,uKeys,uKids,uOk]; omega)
theorem c_foliantref05_fits (gl : List (Nat × AV)) (o : Pob) : FnP Tryz.prog (gl) 122 [.agg o.cells] fun r=>r = .ret (.bool (fitsB o)):=by
 refine FnP.intro Tryz.func122 rfl rfl (by simp [Tryz.ntmps122]) ?_
 simp only [argEnv,Tryz.ntmps122,Tryz.results122]
 refine AW.rS ?_
 refine AW.seq ?_
 refine AW.rS ?_
 refine AW.block ?_
 refine AW.rS ?_
 refine AW.c2 ?_ ?_
 ·intro h6
  refine AW.rS ?_
  refine AW.rt ?_
  first | (simp_all [fitsB,Bool.and_assoc]; done) | (simp_all only [fitsB]; simp; rw [Bool.eq_iff_iff]; simp; omega)
 ·intro h6
  refine AW.rS ?_
  refine AW.c2 ?_ ?_
  ·intro h11
   refine AW.rS ?_
   refine AW.rt ?_
   first | (simp_all [fitsB,Bool.and_assoc]; done) | (simp_all only [fitsB]; simp; rw [Bool.eq_iff_iff]; simp; omega)
  ·intro h11
   refine AW.rS ?_
   refine AW.c2 ?_ ?_
   ·intro h16
    refine AW.rS ?_
    refine AW.rt ?_
    first | (simp_all [fitsB,Bool.and_assoc]; done) | (simp_all only [fitsB]; simp; rw [Bool.eq_iff_iff]; simp; omega)
   ·intro h16
    refine AW.rS ?_
    refine AW.c2 ?_ ?_
    ·intro h21
     refine AW.rS ?_
     refine AW.rt ?_
     first | (simp_all [fitsB,Bool.and_assoc]; done) | (simp_all only [fitsB]; simp; rw [Bool.eq_iff_iff]; simp; omega)
    ·intro h21
     refine AW.skip ?_
     refine AW.rS ?_
     refine AW.rt ?_
     first | (simp_all [fitsB,Bool.and_assoc]; done) | (simp_all only [fitsB]; simp; rw [Bool.eq_iff_iff]; simp; omega)
theorem c_foliantref05_long (gl : List (Nat × AV)) (k : Int) : FnP Tryz.prog (gl) 123 [.int .i64 k] fun r=>r = .ret (.int .i64 (longN k)):=by
 refine FnP.intro Tryz.func123 rfl rfl (by simp [Tryz.ntmps123]) ?_
 simp only [argEnv,Tryz.ntmps123,Tryz.results123]
 refine AW.rS ?_
 refine AW.seq ?_
 refine AW.rS ?_
 refine AW.c2 ?_ ?_
 ·intro h4
  refine AW.rS ?_
  refine AW.rt ?_
  simp_all [longN]
 ·intro h4
  refine AW.skip ?_
  refine AW.seq ?_
  refine AW.rS ?_
  refine AW.c2 ?_ ?_
  ·intro h11
   refine AW.rS ?_
   refine AW.rt ?_
   simp_all [longN]
  ·intro h11
   refine AW.skip ?_
   refine AW.rS ?_
   refine AW.rt ?_
   simp_all [longN]
attribute [local go_sem] app1_objsAV
theorem c_foliantref05_keys (gl : List (Nat × AV)) (o : Pob) (h : o.tot ≤ 16777216) : FnP Tryz.prog (gl) 124 [.agg o.cells] fun r=>r = .ret (.bool (formB o)):=by
 refine FnP.intro Tryz.func124 rfl rfl (by simp [Tryz.ntmps124]) ?_
 simp only [argEnv,Tryz.ntmps124,Tryz.results124]
 have hb:=Pob.bulk_tot o
 have hbe:=Pob.bulk_eq o
 have hts:=Pob.tot_str o
 refine AW.rS ?_
 refine AW.seq ?_
 refine AW.rS ?_
 refine AW.c2 ?_ ?_
 ·intro h4
  refine AW.rSC ?_
  refine awOps.cons (awGuard.c1 (c_foliantref05_Name _ o.str (by omega)) ?_)
  refine awOps.rn ?_
  refine AW.rt ?_
  rw [form_name h4]
 ·intro h4
  refine AW.skip ?_
  refine AW.seq ?_
  refine AW.rS ?_
  refine AW.c2 ?_ ?_
  ·intro h13
   refine AW.rS ?_
   refine AW.rt ?_
   ·rw [form_none h4 h13.1 h13.2]
   all_goals first | contradiction | rfl | (simp; done) | (simp; omega)
  ·intro h13
   have h79 : o.kind = 7 ∨ o.kind = 9:=by omega
   rw [form_keys h79]
   refine AW.skip ?_
   refine AW.seq ?_
   refine AW.rS ?_
   refine AW.c2 ?_ ?_
   ·intro h20
    refine AW.rS ?_
    refine AW.rt ?_
    rw [rising_no (fun h'=>h20 (by have:=h'.1; omega))]
   ·intro h20
    refine AW.skip ?_
    refine AW.seq ?_
    refine AW.rS ?_
    refine AW.block ?_
    refine AW.lk (S:={ i : Nat // i ≤ o.keys.length ∧ ∀ j,j < i → okKey o j }) [1,27,28] (fun s_=>[(29,.int .i64 s_.1)]) (fun s_=>[(0,.cells o.cells)]) 1 (fun s_=>o.keys.length - s_.1) ⟨0,Nat.zero_le _,fun j h=>absurd h (by omega)⟩ ?_ ?_
    ·refine St.le.vw [0]
    rintro ⟨i,hi,hs⟩
    try dsimp only at hi
    try dsimp only at hs
    refine AW.rS ?_
    refine AW.seq ?_
    refine AW.c2 ?_ ?_
    ·intro h31
     have hkt:=Pob.tot_key (o:=o) h31
     refine AW.skip ?_
     refine AW.seq ?_
     refine AW.block ?_
     refine AW.rS ?_
     refine AW.rSC ?_
     refine awOps.cons (awGuard.c1 (c_foliantref05_Name _ (o.keys.getD i []) (by omega)) ?_)
     refine awOps.rn ?_
     refine AW.c2 ?_ ?_
     ·intro h39
      refine AW.rS ?_
      refine AW.rt ?_
      rw [rising_no (fun h'=>?_)]
      obtain ⟨k1,k2,k3,k4⟩:=h'.2 i h31
      rcases h39 with ((h | ⟨hi0,h | h⟩) | ⟨h,h9⟩) | h
      ·rw [k1] at h; cases h
      ·have:=bl_asymm (k2 (by omega)); rw [h] at this; cases this
      ·have:=k2 (by omega); rw [← h,bl_irrefl] at this; cases this
      ·exact k3 ⟨h9,h⟩
      ·exact k4 h
     ·intro h39
      have hok : okKey o i:=by
       refine ⟨h39.1.1.1,fun hi0=>?_,?_,h39.2⟩
       ·rcases h39.1.1.2 with h | ⟨h,h'⟩
        ·omega
        ·rcases bl_total (o.keys.getD (i - 1) []) (o.keys.getD i []) with e | e | e
         ·exact absurd e.symm h'
         ·exact e
         ·rw [h] at e; cases e
       ·rintro ⟨h9,hL⟩
        rcases h39.1.2 with h | h
        ·exact h hL
        ·exact h h9
      refine AW.skip ?_
      refine AW.rL ?_
      refine ⟨⟨i + 1,by omega,fun j hj=>(Nat.lt_or_ge j i).elim (hs j) (fun h=>(show j = i by omega) ▸ hok)⟩,?_,?_⟩
      ·refine St.le.vw [0]
      ·simp only []; omega
    ·intro h31
     refine AW.exit ?_
     refine AW.rS ?_
     refine AW.rt ?_
     rw [rising_yes ⟨by omega,fun j hj=>hs j (by omega)⟩]
theorem rcheck_step (gl : List (Nat × AV)) (N : Nat) (hN : N ≤ 16777216) (ih : ∀ (o' : Pob) (d' : Int),o'.tot < N → 1 ≤ d' → d' ≤ 25 → FnP Tryz.prog gl 101 [.agg o'.cells,.int .i64 d'] fun r=>r = .ret (.int .i64 (chk o' d'))) (o : Pob) (d : Int) (ho : o.tot ≤ N) (hd : 1 ≤ d) (hd2 : d ≤ 25) : FnP Tryz.prog (gl) 101 [.agg o.cells,.int .i64 d] fun r=>r = .ret (.int .i64 (chk o d)):=by
 refine FnP.intro Tryz.func101 rfl rfl (by simp [Tryz.ntmps101]) ?_
 simp only [argEnv,Tryz.ntmps101,Tryz.results101]
 have hb:=Pob.bulk_tot o
 have hbe:=Pob.bulk_eq o
 have hts:=Pob.tot_str o
 refine AW.rS ?_
 refine AW.seq ?_
 refine AW.rS ?_
 refine AW.c2 ?_ ?_
 ·intro h4
  refine AW.rS ?_
  refine AW.rt ?_
  rw [own_deep (by omega)]
 ·intro h4
  refine AW.skip ?_
  refine AW.seq ?_
  refine AW.rSC ?_
  refine awOps.cons (awGuard.c1 (c_foliantref05_uses _ o) ?_)
  refine awOps.rn ?_
  refine AW.c2 ?_ ?_
  ·intro h13
   refine AW.rS ?_
   refine AW.rt ?_
   rw [own_use (by omega) (by rw [use_split]; rcases h13 with h | ⟨h,h'⟩; simp [h]; simp [h,show ¬ d = 1 by omega])]
  ·intro h13
   have hu : useB o d = true:=by rw [use_split,h13.1]; rcases h13.2 with h | h; simp [h]; simp [show d = 1 by omega]
   have hu1 : useB o 1 = true:=h13.1
   refine AW.skip ?_
   refine AW.seq ?_
   refine AW.rSC ?_
   refine awOps.cons (awGuard.c1 (c_foliantref05_fits _ o) ?_)
   refine awOps.rn ?_
   refine AW.c2 ?_ ?_
   ·intro h22
    refine AW.rS ?_
    refine AW.rt ?_
    rw [own_fits (by omega) hu h22]
   ·intro h22
    have hf : fitsB o = true:=h22
    refine AW.skip ?_
    refine AW.seq ?_
    refine AW.fS [0,1,2,3,4,5,6] [] ?_
    refine awFun.rn ?_
    refine awFun.c1 [29] (c_foliantref05_long _ o.kind) ?_
    refine awFun.rn ?_
    rw [Aw.awFun_nil,Aw.awPlan_nil]
    refine AW.c2 ?_ ?_
    ·intro h33
     refine AW.rS ?_
     refine AW.rt ?_
     rw [own_long (by omega) hu hf (by rw [short_ref hu1]; simp; omega)]
    ·intro h33
     have hsh : shortB o = true:=by rw [short_ref hu1]; simpa using h33
     refine AW.skip ?_
     refine AW.seq ?_
     refine AW.rS ?_
     refine AW.c2 ?_ ?_
     ·intro h40
      refine AW.rS ?_
      refine AW.rt ?_
      rw [own_many (by omega) hu hf hsh (by omega)]
     ·intro h40
      refine AW.skip ?_
      refine AW.seq ?_
      refine AW.rSC ?_
      refine awOps.cons (awGuard.c1 (c_foliantref05_keys _ o (by omega)) ?_)
      refine awOps.rn ?_
      refine AW.c2 ?_ ?_
      ·intro h49
       refine AW.rS ?_
       refine AW.rt ?_
       rw [own_form (by omega) hu hf hsh (by omega) h49]
      ·intro h49
       have hfo : formB o = true:=h49
       refine AW.skip ?_
       refine AW.seq ?_
       refine AW.rS ?_
       refine AW.block ?_
       refine AW.lk (S:={ i : Nat // i ≤ o.kids.length ∧ chkL o.kids (d + 1) = chkL (o.kids.drop i) (d + 1) }) [1,40,41] (fun s_=>[(42,.int .i64 s_.1)]) (fun s_=>[(0,.cells o.cells)]) 1 (fun s_=>o.kids.length - s_.1) ⟨0,Nat.zero_le _,rfl⟩ ?_ ?_
       ·refine St.le.vw [0]
       rintro ⟨i,hi,hs⟩
       try dsimp only at hi
       try dsimp only at hs
       refine AW.rS ?_
       refine AW.seq ?_
       refine AW.c2 ?_ ?_
       ·intro h60
        have hkt:=Pob.tot_kid (o:=o) h60
        refine AW.skip ?_
        refine AW.seq ?_
        refine AW.block ?_
        refine AW.rS ?_
        refine AW.rSC ?_
        refine awOps.cons (awGuard.c1 (ih (o.kids.getD i Pob.null) (d + 1) (by omega) (by omega) (by omega)) ?_)
        refine awOps.rn ?_
        refine AW.rS ?_
        refine AW.c2 ?_ ?_
        ·intro h69
         refine AW.rS ?_
         refine AW.rt ?_
         rw [own_ok (by omega) hu hf hsh (by omega) hfo,hs,chkL_drop h60,if_neg h69]
        ·intro h69
         refine AW.skip ?_
         refine AW.rL ?_
         refine ⟨⟨i + 1,by omega,by rw [hs,chkL_drop h60,if_pos h69]⟩,?_,?_⟩
         ·refine St.le.vw [0]
         ·simp only []; omega
       ·intro h60
        refine AW.exit ?_
        refine AW.rS ?_
        refine AW.rt ?_
        rw [own_ok (by omega) hu hf hsh (by omega) hfo,hs,List.drop_of_length_le (by omega)]
        with_unfolding_all rfl
theorem rcheck_all (gl : List (Nat × AV)) (N : Nat) : N ≤ 16777216 → ∀ (o : Pob) (d : Int),o.tot ≤ N → 1 ≤ d → d ≤ 25 → FnP Tryz.prog gl 101 [.agg o.cells,.int .i64 d] fun r=>r = .ret (.int .i64 (chk o d)):=by
 induction N using Nat.strongRecOn with
 | ind N IH=>exact fun hN o d ho hd hd2=>rcheck_step gl N hN (fun o' d' h h1 h2=>IH o'.tot h (by omega) o' d' (Nat.le_refl _) h1 h2) o d ho hd hd2
theorem c_foliantref05_Check (gl : List (Nat × AV)) (o : Pob) (h : o.tot ≤ 16777216) : FnP Tryz.prog (gl) 86 [.agg o.cells] fun r=>r = .ret (.int .i64 (chk o 1)):=by
 refine FnP.intro Tryz.func86 rfl rfl (by simp [Tryz.ntmps86]) ?_
 simp only [argEnv,Tryz.ntmps86,Tryz.results86]
 refine AW.rS ?_
 refine AW.rSC ?_
 refine awOps.cons (awGuard.c1 (rcheck_all _ 16777216 (Nat.le_refl _) o 1 h (by omega) (by omega)) ?_)
 refine awOps.rn ?_
 refine AW.rt ?_
 all_goals first | contradiction | rfl | (simp; done) | (simp; omega)
end Go.Proofs

namespace Go.Proofs
open Go Aw
set_option linter.unusedSimpArgs false
set_option linter.unusedVariables false
set_option maxRecDepth 100000
set_option maxHeartbeats 4000000
attribute [local go_sem] app1_objsAV
theorem c_foliantref05_Get (gl : List (Nat × AV)) (o : Pob) (key : List UInt8) (h : o.bulk ≤ 16777216) : FnP Tryz.prog (gl) 65 [.agg o.cells,.str key] fun r=>r = .ret (.tup [.agg (getO o key).cells,.bool (getB o key)]):=by
 refine FnP.intro Tryz.func65 rfl rfl (by simp [Tryz.ntmps65]) ?_
 simp only [argEnv,Tryz.ntmps65,Tryz.results65]
 have hbe:=Pob.bulk_eq o
 refine AW.rS ?_
 refine AW.seq ?_
 refine AW.rS ?_
 refine AW.c2 ?_ ?_
 ·intro h4
  refine AW.rS ?_
  refine AW.rt ?_
  have hg:=get_unkeyed (o:=o) (key:=key) (by simp [keyedB,h4.1,h4.2])
  rw [hg.1,hg.2] <;> rfl
 ·intro h4
  refine AW.skip ?_
  refine AW.seq ?_
  refine AW.rS ?_
  refine AW.block ?_
  refine AW.lk (S:={ i : Nat // i ≤ o.keys.length ∧ ∀ j,j < i → o.keys.getD j [] ≠ key }) [1,2,4,18,19] (fun s_=>[(20,.int .i64 s_.1)]) (fun s_=>[(0,.cells o.cells),(1,.cells [.int .i64 0,.int .i64 0,.int .i64 0,.str [],.raw (.slice none 0 0),.raw (.slice none 0 0)])]) 2 (fun s_=>o.keys.length - s_.1) ⟨0,Nat.zero_le _,fun j h=>absurd h (by omega)⟩ ?_ ?_
  ·refine St.le.vw [0,1]
  rintro ⟨i,hi,hs⟩
  try dsimp only at hi
  try dsimp only at hs
  refine AW.rS ?_
  refine AW.seq ?_
  refine AW.c2 ?_ ?_
  ·intro h15
   refine AW.skip ?_
   refine AW.seq ?_
   refine AW.block ?_
   refine AW.rS ?_
   refine AW.rS ?_
   refine AW.c2 ?_ ?_
   ·intro h21
    have hkx:=kidx_hit h15 hs h21.symm
    refine AW.seq ?_
    refine AW.rS ?_
    refine AW.c2 ?_ ?_
    ·intro h24
     refine AW.rS ?_
     refine AW.rt ?_
     have hg:=get_miss (o:=o) (key:=key) (by rw [hkx]; omega)
     rw [hg.1,hg.2] <;> rfl
    ·intro h24
     refine AW.skip ?_
     refine AW.rS ?_
     refine AW.rt ?_
     have hg:=get_hit (o:=o) (key:=key) (by simp only [keyedB]; simp; omega) (by rw [hkx]; omega)
     rw [hg.1,hg.2,hkx]
     rfl
   ·intro h21
    refine AW.skip ?_
    refine AW.rL ?_
    refine ⟨⟨i + 1,by omega,fun j hj=>(Nat.lt_or_ge j i).elim (hs j) (fun h=>(show j = i by omega) ▸ h21)⟩,?_,?_⟩
    ·refine St.le.vw [0,1]
    ·simp only []; omega
  ·intro h15
   refine AW.exit ?_
   refine AW.rS ?_
   refine AW.rt ?_
   have hg:=get_miss (o:=o) (key:=key) (by rw [kidx_miss (fun j hj=>hs j (by omega))]; omega)
   rw [hg.1,hg.2] <;> rfl
end Go.Proofs

namespace Aw
open Go
theorem zero_bulk : Dc.zero.bulk = 1:=by simp [Dc.zero,Dc.bulk,ibulk,Pob.null,Pob.bulk,bulks]
theorem putO_bulk (d : Dc) (i : Itm) : (putO d i).bulk ≤ d.bulk + i.obj.bulk + 1:=by
 unfold putO
 split
 ·rw [zero_bulk]; omega
 ·have:=layI_bulk d.items i
  simp only [Dc.bulk]
  omega
theorem addO_bulk (d : Dc) (o : Pob) : (addO d o).bulk ≤ d.bulk + o.bulk + 1:=by
 unfold addO
 split
 ·rw [zero_bulk]; omega
 ·exact putO_bulk d ⟨freeN d,0,o⟩
theorem freeN_range (d : Dc) : 0 ≤ freeN d ∧ freeN d ≤ 8191:=by
 by_cases h : freeE d = 0
 ·have hp:=free_parts h
  have:=last_pos (docE_items hp.1)
  rw [hp.2.2]; omega
 ·unfold freeN; rw [if_pos h]; omega
theorem addN_range (d : Dc) (o : Pob) : 0 ≤ addN d o ∧ addN d o ≤ 8191:=by
 unfold addN
 split
 ·omega
 ·exact freeN_range d
end Aw

set_option linter.unusedVariables false
set_option linter.unusedSimpArgs false
namespace Aw
open Go
theorem hold_ref (o : Pob) : holdsB o = (decide (o.kind = 9) && (decide ((getO o typeK).kind = 5) && (decide ((getO o typeK).str = [79,98,106,83,116,109]) || decide ((getO o typeK).str = [88,82,101,102])))):=by
 unfold holdsB docKind
 by_cases h5 : (getO o typeK).kind = 5
 ·have hb : ∀ a b c : Bool,(bif a then (bif b then true else c) else false) = (a && (true && (b || c))):=by decide
  simp only [if_pos h5,h5,decide_true]
  exact hb _ _ _
 ·simp [h5]
theorem content_knd {i : Itm} (h : chk i.obj 1 = 0) (h' : i.obj.kind = 8 ∨ holdsB i.obj = true) : contentE i = 10:=by unfold contentE; rw [if_neg (by simpa using h),if_pos h']
theorem content_fine {i : Itm} (h : chk i.obj 1 = 0) (h' : ¬ (i.obj.kind = 8 ∨ holdsB i.obj = true)) : contentE i = 0:=by unfold contentE; rw [if_neg (by simpa using h),if_neg h']
theorem trail_idx (k : List UInt8) : 0 ≤ kidxI trailK k ↔ k = [73,68] ∨ k = [73,110,102,111] ∨ k = [82,111,111,116]:=by
 rcases kidxI_cases trailK k with ⟨i,hi,he,hk⟩ | ⟨he,hn⟩
 ·have hi3 : i < 3:=hi
  rw [he]
  refine ⟨fun _=>?_,fun _=>by omega⟩
  obtain rfl | rfl | rfl : i = 0 ∨ i = 1 ∨ i = 2:=by omega
  ·exact .inl hk.symm
  ·exact .inr (.inl hk.symm)
  ·exact .inr (.inr hk.symm)
 ·rw [he]
  refine ⟨fun h=>absurd h (by omega),fun h=>?_⟩
  rcases h with rfl | rfl | rfl
  ·exact absurd rfl (hn 0 (by decide))
  ·exact absurd rfl (hn 1 (by decide))
  ·exact absurd rfl (hn 2 (by decide))
theorem itots_get {l : List Itm} {i : Nat} (h : i < l.length) : (l.getD i Itm.zero).obj.tot + 3 ≤ itots l:=by
 induction l generalizing i with
 | nil=>simp at h
 | cons x l ih =>
  simp only [itots,List.map_cons,List.sum_cons,Itm.tot]
  cases i with
  | zero=>simp only [List.getD_cons_zero]; omega
  | succ i =>
   have:=ih (i:=i) (by simpa using h)
   simp only [List.getD_cons_succ,itots,Itm.tot] at this ⊢
   omega
theorem itots_len (l : List Itm) : 3 * l.length ≤ itots l:=by
 induction l with
 | nil=>simp [itots]
 | cons x l ih=>simp only [itots,List.map_cons,List.sum_cons,List.length_cons,Itm.tot] at ih ⊢; omega
end Aw

namespace Go.Proofs
open Go Aw
set_option linter.unusedSimpArgs false
set_option linter.unusedVariables false
set_option maxRecDepth 100000
set_option maxHeartbeats 4000000
attribute [local go_sem] app1_objsAV
theorem c_foliantref19_Hold (gl : List (Nat × AV)) (o : Pob) (h : o.bulk ≤ 16777216) : FnP Tryz.prog (gl) 100 [.agg o.cells] fun r=>r = .ret (.bool (holdsB o)):=by
 refine FnP.intro Tryz.func100 rfl rfl (by simp [Tryz.ntmps100]) ?_
 simp only [argEnv,Tryz.ntmps100,Tryz.results100]
 refine AW.rS ?_
 refine AW.rSC ?_
 refine awOps.cons (awGuard.c1 (c_foliantref05_Get _ o typeK h) ?_)
 refine awOps.rn ?_
 refine AW.rS ?_
 refine AW.rt ?_
 rw [hold_ref]
 simp [Bool.cond_false_right,Bool.and_assoc]
theorem c_foliantref19_obj (gl : List (Nat × AV)) (i : Itm) (h : i.obj.tot ≤ 16777216) : FnP Tryz.prog (gl) 85 [.agg i.cells] fun r=>r = .ret (.int .i64 (contentE i)):=by
 refine FnP.intro Tryz.func85 rfl rfl (by simp [Tryz.ntmps85]) ?_
 simp only [argEnv,Tryz.ntmps85,Tryz.results85]
 have hb:=Pob.bulk_tot i.obj
 refine AW.rS ?_
 refine AW.seq ?_
 refine AW.rSC ?_
 refine awOps.cons (awGuard.c1 (c_foliantref05_Check _ i.obj h) ?_)
 refine awOps.rn ?_
 refine AW.rS ?_
 refine AW.c2 ?_ ?_
 ·intro h7
  refine AW.rS ?_
  refine AW.rt ?_
  rw [content_bad h7]
 ·intro h7
  refine AW.skip ?_
  refine AW.seq ?_
  refine AW.rSC ?_
  refine awOps.cons (awGuard.cG (fun hg=>c_foliantref19_Hold _ i.obj (by omega)) ?_)
  refine awOps.rn ?_
  refine AW.c2 ?_ ?_
  ·intro h16
   refine AW.rS ?_
   refine AW.rt ?_
   rw [content_knd h7 h16]
  ·intro h16
   refine AW.skip ?_
   refine AW.rS ?_
   refine AW.rt ?_
   rw [content_fine h7 (by rintro (h' | h'); exact h16.1 h'; rw [h16.2] at h'; cases h')]
theorem c_foliantref19_Items (gl : List (Nat × AV)) (l : List Itm) (h : itots l ≤ 16777216) : FnP Tryz.prog (gl) 59 [.sl (itemsAV l)] fun r=>r = .ret (.int .i64 (itemsE l)):=by
 refine FnP.intro Tryz.func59 rfl rfl (by simp [Tryz.ntmps59]) ?_
 simp only [argEnv,Tryz.ntmps59,Tryz.results59]
 have hlen:=itots_len l
 refine AW.rS ?_
 refine AW.seq ?_
 refine AW.rS ?_
 refine AW.block ?_
 refine AW.lk (S:={ k : Nat // k ≤ l.length ∧ itemsE l = itemsFrom l k (l.length - k) }) [0,6,7] (fun s_=>[(8,.int .i64 s_.1)]) (fun s_=>[]) 0 (fun s_=>l.length - s_.1) ⟨0,Nat.zero_le _,rfl⟩ ?_ ?_
 ·refine St.le.vw []
 rintro ⟨k,hk,hs⟩
 try dsimp only at hk
 try dsimp only at hs
 refine AW.rS ?_
 refine AW.seq ?_
 refine AW.c2 ?_ ?_
 ·intro h8
  have hgb:=itots_get (l:=l) (i:=k) (by omega)
  refine AW.skip ?_
  refine AW.seq ?_
  refine AW.block ?_
  refine AW.rS ?_
  refine AW.seq ?_
  refine AW.rS ?_
  refine AW.c2 ?_ ?_
  ·intro h15
   refine AW.rS ?_
   refine AW.rt ?_
   rw [hs,itemsFrom_step h8,if_pos (nums_no h15)]
  ·intro h15
   refine AW.skip ?_
   refine AW.seq ?_
   refine AW.dS [(0,0),(1,0),(2,0),(3,0),(4,1),(5,0),(6,0),(7,0),(8,1),(9,0),(10,1),(11,0),(12,0)] ?_
   refine AW.c2 ?_ ?_
   ·intro h22
    refine AW.rS ?_
    refine AW.rt ?_
    rw [hs,itemsFrom_step h8,if_neg (by rw [nums_yes h15]; simp),if_pos (by omega)]
   ·intro h22
    refine AW.skip ?_
    refine AW.rSC ?_
    refine awOps.cons (awGuard.c1 (c_foliantref19_obj _ (l.getD k Itm.zero) (by omega)) ?_)
    refine awOps.rn ?_
    refine AW.rS ?_
    refine AW.c2 ?_ ?_
    ·intro h31
     refine AW.rS ?_
     refine AW.rt ?_
     rw [hs,itemsFrom_step h8,if_neg (by rw [nums_yes h15]; simp),if_neg (by omega),if_pos h31]
    ·intro h31
     refine AW.skip ?_
     refine AW.rL ?_
     refine ⟨⟨k + 1,by omega,by rw [hs,itemsFrom_step (by omega),if_neg (by rw [nums_yes h15]; simp),if_neg (by omega),if_neg (by simpa using h31)]⟩,?_,?_⟩
     ·refine St.le.vw []
     ·simp only []; omega
 ·intro h8
  refine AW.exit ?_
  refine AW.rS ?_
  refine AW.rt ?_
  rw [hs,show l.length - k = 0 from by omega,itemsFrom]
theorem c_foliantref19_Follow (gl : List (Nat × AV)) (d : Dc) (o : Pob) (h : d.bulk ≤ 16777216) : FnP Tryz.prog (gl) 30 [.agg d.cells,.agg o.cells] fun r=>r = .ret (.agg (followO d o).cells):=by
 refine FnP.intro Tryz.func30 rfl rfl (by simp [Tryz.ntmps30]) ?_
 simp only [argEnv,Tryz.ntmps30,Tryz.results30]
 have hlen:=ibulk_len d.items
 have hdb : d.bulk = ibulk d.items + d.trailer.bulk:=rfl
 refine AW.rS ?_
 refine AW.seq ?_
 refine AW.rS ?_
 refine AW.c2 ?_ ?_
 ·intro h4
  refine AW.rS ?_
  refine AW.rt ?_
  rw [followO,if_pos h4]
 ·intro h4
  refine AW.skip ?_
  refine AW.seq ?_
  refine AW.rS ?_
  refine AW.block ?_
  refine AW.lk (S:={ i : Nat // i ≤ d.items.length ∧ ∀ j,j < i → (d.items.getD j Itm.zero).num ≠ o.num }) [3,4,12,13] (fun s_=>[(14,.int .i64 s_.1)]) (fun s_=>[(0,.cells d.cells),(1,.cells o.cells),(2,.cells [.int .i64 0,.int .i64 0,.int .i64 0,.str [],.raw (.slice none 0 0),.raw (.slice none 0 0)])]) 3 (fun s_=>d.items.length - s_.1) ⟨0,Nat.zero_le _,fun j h=>absurd h (by omega)⟩ ?_ ?_
  ·refine St.le.vw [0,1,2]
  rintro ⟨i,hi,hs⟩
  try dsimp only at hi
  try dsimp only at hs
  refine AW.rS ?_
  refine AW.seq ?_
  refine AW.c2 ?_ ?_
  ·intro h15
   refine AW.skip ?_
   refine AW.seq ?_
   refine AW.block ?_
   refine AW.rS ?_
   refine AW.rS ?_
   refine AW.c2 ?_ ?_
   ·intro h21
    have hix:=iidx_hit h15 hs h21
    refine AW.seq ?_
    refine AW.rS ?_
    refine AW.c2 ?_ ?_
    ·intro h24
     refine AW.rS ?_
     refine AW.rt ?_
     rw [followO,if_neg (by simp [h4]),if_neg (by omega),hix]
     rw [if_pos (by simpa using h24)]
     rfl
    ·intro h24
     refine AW.skip ?_
     refine AW.rS ?_
     refine AW.rt ?_
     rw [followO,if_neg (by simp [h4]),if_neg (by omega),hix]
     rw [if_neg (by simpa using h24)]
     rfl
   ·intro h21
    refine AW.skip ?_
    refine AW.rL ?_
    refine ⟨⟨i + 1,by omega,fun j hj=>(Nat.lt_or_ge j i).elim (hs j) (fun h=>(show j = i by omega) ▸ h21)⟩,?_,?_⟩
    ·refine St.le.vw [0,1,2]
    ·simp only []; omega
  ·intro h15
   refine AW.exit ?_
   refine AW.rS ?_
   refine AW.rt ?_
   have hix:=iidx_miss (l:=d.items) (n:=o.num) (fun j hj=>hs j (by omega))
   rw [followO,if_neg (by simp [h4]),if_pos (by omega)]
   rfl
theorem c_foliantref19_trail (gl : List (Nat × AV)) (d : Dc) (h : d.tot ≤ 16777216) : FnP Tryz.prog (gl) 60 [.agg d.cells] fun r=>r = .ret (.int .i64 (trailE d)):=by
 refine FnP.intro Tryz.func60 rfl rfl (by simp [Tryz.ntmps60]) ?_
 simp only [argEnv,Tryz.ntmps60,Tryz.results60]
 have h0:=Dc.bulk_tot d
 have h1 : d.tot = itots d.items + d.trailer.tot:=rfl
 have h2:=Pob.bulk_tot d.trailer
 have hkb:=Pob.bulk_eq d.trailer
 have hrb:=get_bulk d.trailer rootK
 refine AW.rS ?_
 refine AW.rS ?_
 refine AW.seq ?_
 refine AW.rSC ?_
 refine awOps.cons (awGuard.c1 (c_foliantref05_Check _ d.trailer (by omega)) ?_)
 refine awOps.rn ?_
 refine AW.rS ?_
 refine AW.c2 ?_ ?_
 ·intro h8
  refine AW.rS ?_
  refine AW.rt ?_
  ·rw [trail_bad h8]
  all_goals first | contradiction | rfl | (simp; done) | (simp; omega)
 ·intro h8
  refine AW.skip ?_
  refine AW.seq ?_
  refine AW.rS ?_
  refine AW.c2 ?_ ?_
  ·intro h15
   refine AW.rS ?_
   refine AW.rt ?_
   rw [trail_kind h8 h15]
  ·intro h15
   refine AW.skip ?_
   refine AW.seq ?_
   refine AW.rS ?_
   refine AW.block ?_
   refine AW.lk (S:={ i : Nat // i ≤ d.trailer.keys.length ∧ ∀ j,j < i → 0 ≤ kidxI trailK (d.trailer.keys.getD j []) }) [1,3,20,21] (fun s_=>[(22,.int .i64 s_.1)]) (fun s_=>[(0,.cells d.cells),(1,.cells d.trailer.cells)]) 2 (fun s_=>d.trailer.keys.length - s_.1) ⟨0,Nat.zero_le _,fun j h=>absurd h (by omega)⟩ ?_ ?_
   ·refine St.le.vw [0,1]
   rintro ⟨i,hi,hs⟩
   try dsimp only at hi
   try dsimp only at hs
   refine AW.rS ?_
   refine AW.seq ?_
   refine AW.c2 ?_ ?_
   ·intro h26
    refine AW.skip ?_
    refine AW.seq ?_
    refine AW.block ?_
    refine AW.rS ?_
    refine AW.rS ?_
    refine AW.c2 ?_ ?_
    ·intro h32
     refine AW.rS ?_
     refine AW.rt ?_
     rw [trail_key h8 h15 (fun hh=>by have:=(trail_idx _).1 (hh i h26); rcases this with e | e | e; exact h32.1.1 e; exact h32.1.2 e; exact h32.2 e)]
    ·intro h32
     have hkx : 0 ≤ kidxI trailK (d.trailer.keys.getD i []):=(trail_idx _).2 (by rcases h32 with (e | e) | e; exact .inl e; exact .inr (.inl e); exact .inr (.inr e))
     refine AW.skip ?_
     refine AW.rL ?_
     refine ⟨⟨i + 1,by omega,fun j hj=>(Nat.lt_or_ge j i).elim (hs j) (fun h=>(show j = i by omega) ▸ hkx)⟩,?_,?_⟩
     ·refine St.le.vw [0,1]
     ·simp only []; omega
   ·intro h26
    refine AW.exit ?_
    have htk : trailOk d.trailer.keys:=fun j hj=>hs j (by omega)
    refine AW.rSC ?_
    refine awOps.cons (awGuard.c1 (c_foliantref05_Get _ d.trailer rootK (by omega)) ?_)
    refine awOps.rn ?_
    refine AW.seq ?_
    refine AW.rSC ?_
    refine awOps.cons (awGuard.cG (fun hg=>c_foliantref19_Follow _ d (getO d.trailer rootK) (by omega)) ?_)
    refine awOps.rn ?_
    refine AW.c2 ?_ ?_
    ·intro h47
     refine AW.rS ?_
     refine AW.rt ?_
     rw [trail_root h8 h15 htk,if_pos h47]
    ·intro h47
     refine AW.skip ?_
     refine AW.rS ?_
     refine AW.rt ?_
     rw [trail_root h8 h15 htk,if_neg (by simp [h47])]
theorem c_foliantref19_Check (gl : List (Nat × AV)) (d : Dc) (h : d.tot ≤ 16777216) : FnP Tryz.prog (gl) 29 [.agg d.cells] fun r=>r = .ret (.int .i64 (docE d)):=by
 refine FnP.intro Tryz.func29 rfl rfl (by simp [Tryz.ntmps29]) ?_
 simp only [argEnv,Tryz.ntmps29,Tryz.results29]
 have h1 : d.tot = itots d.items + d.trailer.tot:=rfl
 refine AW.rS ?_
 refine AW.seq ?_
 refine AW.rSC ?_
 refine awOps.cons (awGuard.c1 (c_foliantref19_Items _ d.items (by omega)) ?_)
 refine awOps.rn ?_
 refine AW.rS ?_
 refine AW.c2 ?_ ?_
 ·intro h7
  refine AW.rS ?_
  refine AW.rt ?_
  rw [doc_bad h7]
 ·intro h7
  refine AW.skip ?_
  refine AW.rSC ?_
  refine awOps.cons (awGuard.c1 (c_foliantref19_trail _ d h) ?_)
  refine awOps.rn ?_
  refine AW.rt ?_
  rw [doc_trail h7]
end Go.Proofs

namespace Go.Proofs
open Go Aw
set_option linter.unusedSimpArgs false
set_option linter.unusedVariables false
set_option maxRecDepth 100000
set_option maxHeartbeats 4000000
attribute [local go_sem] app1_objsAV
theorem app1_itemsAV (a : List Itm) (i : Itm) : itemsAV a ++ [[.int .i64 i.num,.int .i64 i.gen,.int .i64 i.obj.kind,.int .i64 i.obj.num,.int .i64 i.obj.gen,.str i.obj.str,.sl (strsAV i.obj.keys),.sl (objsAV i.obj.kids)]] = itemsAV (a ++ [i]):=by
 simp only [itemsAV,List.map_append,List.map_cons,List.map_nil]
 rfl
attribute [local go_sem] app1_itemsAV
end Go.Proofs

namespace Aw
open Go
structure En where
 key : List UInt8
 val : Pob
deriving DecidableEq
def En.cells (e : En) : List AV:=[.str e.key,.int .i64 e.val.kind,.int .i64 e.val.num,.int .i64 e.val.gen,.str e.val.str,.sl (strsAV e.val.keys),.sl (objsAV e.val.kids)]
def En.zero : En:=⟨[],Pob.null⟩
def entsAV (l : List En) : List (List AV):=l.map En.cells
theorem entsAV_length (l : List En) : (entsAV l).length = l.length:=by simp [entsAV]
theorem entsAV_len7 (l : List En) : (∀ e ∈ entsAV l,e.length = 7) = True:=by
 simp only [entsAV,List.mem_map,eq_iff_iff,iff_true]
 rintro _ ⟨a,_,rfl⟩
 rfl
theorem entsAV_getD {l : List En} {i : Nat} {x : List AV} (h : i < l.length) : (entsAV l).getD i x = (l.getD i En.zero).cells:=by
 simp [entsAV,List.getD,h]
theorem entsAV_append (a b : List En) : entsAV (a ++ b) = entsAV a ++ entsAV b:=by simp [entsAV]
theorem entsAV_take (l : List En) (n : Nat) : (entsAV l).take n = entsAV (l.take n):=by simp [entsAV,List.map_take]
theorem entsAV_drop (l : List En) (n : Nat) : (entsAV l).drop n = entsAV (l.drop n):=by simp [entsAV,List.map_drop]
def namesK : List UInt8:=[78,97,109,101,115]
def kidsK : List UInt8:=[75,105,100,115]
def limsK : List UInt8:=[76,105,109,105,116,115]
def atO (d : Dc) (o : Pob) (key : List UInt8) : Pob:=followO d (getO o key)
def strAt (l : List Pob) (i : Nat) : Prop:=(l.getD i Pob.null).kind = 4
def pairsOk (l : List Pob) : Prop:=l.length % 2 = 0 ∧ ∀ i,i < l.length / 2 → strAt l (2 * i)
instance (l : List Pob) (i : Nat) : Decidable (strAt l i):=inferInstanceAs (Decidable (_ = _))
instance (l : List Pob) : Decidable (pairsOk l):=inferInstanceAs (Decidable (_ ∧ ∀ i,i < l.length / 2 → strAt l (2 * i)))
def lowB (d : Dc) (o : Pob) : Prop:=o.kind = 7 ∧ getB o namesK = true ∧ getB o kidsK = false ∧ (atO d o namesK).kind = 6 ∧ pairsOk (atO d o namesK).kids
def highB (d : Dc) (o : Pob) : Prop:=o.kind = 7 ∧ getB o namesK = false ∧ getB o kidsK = true ∧ (atO d o kidsK).kind = 6
instance (d : Dc) (o : Pob) : Decidable (lowB d o):=inferInstanceAs (Decidable (_ ∧ _ ∧ _ ∧ _ ∧ _))
instance (d : Dc) (o : Pob) : Decidable (highB d o):=inferInstanceAs (Decidable (_ ∧ _ ∧ _ ∧ _))
def pairsOf : List Pob → List En
 | k :: v :: r=>⟨k.str,v⟩ :: pairsOf r
 | _=>[]
theorem pairsOf_len : ∀ l : List Pob,(pairsOf l).length = l.length / 2
 | []=>rfl
 | [_]=>by simp [pairsOf]
 | _ :: _ :: r=>by simp only [pairsOf,List.length_cons,pairsOf_len r]; omega
theorem pairsOf_get : ∀ (l : List Pob) (i : Nat),2 * i + 1 < l.length → (pairsOf l).getD i En.zero = ⟨(l.getD (2 * i) Pob.null).str,l.getD (2 * i + 1) Pob.null⟩
 | [],i,h=>by simp at h
 | [_],i,h=>by simp at h
 | k :: v :: r,0,h=>rfl
 | k :: v :: r,i + 1,h=>by
  have:=pairsOf_get r i (by simp at h; omega)
  have e : 2 * (i + 1) = 2 * i + 1 + 1:=by omega
  rw [e]
  simpa only [pairsOf,List.getD_cons_succ] using this
structure TS where
 err : Int
 nodes : Nat
 l : List En
def lessE (l : List En) (x : En) : Bool:=decide (l.length = 0) || Op.bytesLess (l.getD (l.length - 1) En.zero).key x.key
def addT (s : TS) (x : En) : TS :=
 if s.err ≠ 0 then s else if lessE s.l x = false then ⟨25,s.nodes,s.l⟩ else if 8191 ≤ s.l.length then ⟨6,s.nodes,s.l⟩ else ⟨0,s.nodes,s.l ++ [x]⟩
def thru (d : Dc) : Nat → Pob → TS → TS
 | 0,_,s=>⟨7,s.nodes,s.l⟩
 | k + 1,o,s =>
  if 4096 ≤ s.nodes then ⟨6,s.nodes,s.l⟩
  else if lowB d (followO d o) then (pairsOf (atO d (followO d o) namesK).kids).foldl addT ⟨0,s.nodes + 1,s.l⟩
  else if highB d (followO d o) then (atO d (followO d o) kidsK).kids.foldl (fun s o=>if s.err ≠ 0 then s else thru d k o s) ⟨0,s.nodes + 1,s.l⟩
  else ⟨25,s.nodes + 1,s.l⟩
def readT (d : Dc) (o : Pob) : TS:=thru d 24 o ⟨0,0,[]⟩
def readNE (d : Dc) (o : Pob) : Int:=if docE d ≠ 0 then docE d else if (followO d o).kind = 0 then 8 else (readT d o).err
def readNL (d : Dc) (o : Pob) : List En:=if readNE d o ≠ 0 then [] else (readT d o).l
def limB (d : Dc) (o : Pob) : Prop:=o.kind = 7 ∧ getB o limsK = true ∧ (atO d o limsK).kind = 6 ∧ (atO d o limsK).kids.length = 2 ∧ strAt (atO d o limsK).kids 0 ∧ strAt (atO d o limsK).kids 1
instance (d : Dc) (o : Pob) : Decidable (limB d o):=inferInstanceAs (Decidable (_ ∧ _ ∧ _ ∧ _ ∧ _ ∧ _))
def limLo (d : Dc) (o : Pob) : List UInt8:=((atO d o limsK).kids.getD 0 Pob.null).str
def limHi (d : Dc) (o : Pob) : List UInt8:=((atO d o limsK).kids.getD 1 Pob.null).str
def leB (a b : List UInt8) : Bool:=!Op.bytesLess b a
def downO (d : Dc) (key : List UInt8) : List Pob → Int × Pob
 | []=>(8,Pob.null)
 | k :: r =>
  if limB d (followO d k) then (if leB (limLo d (followO d k)) key && leB key (limHi d (followO d k)) = true then (0,k) else downO d key r) else (25,Pob.null)
def findE (key : List UInt8) : List En → Int × Pob
 | []=>(8,Pob.null)
 | x :: r=>if x.key = key then (0,x.val) else findE key r
def findT (d : Dc) (key : List UInt8) : Nat → Pob → Int × Pob
 | 0,_=>(7,Pob.null)
 | k + 1,o =>
  if lowB d (followO d o) then findE key (pairsOf (atO d (followO d o) namesK).kids)
  else if highB d (followO d o) then
   (if (downO d key (atO d (followO d o) kidsK).kids).1 ≠ 0 then ((downO d key (atO d (followO d o) kidsK).kids).1,Pob.null) else findT d key k (downO d key (atO d (followO d o) kidsK).kids).2)
  else (25,Pob.null)
def findN (d : Dc) (o : Pob) (key : List UInt8) : Int × Pob:=if docE d ≠ 0 then (docE d,Pob.null) else if (followO d o).kind = 0 then (8,Pob.null) else findT d key 24 o
def eidx (l : List En) (key : List UInt8) : Nat:=l.findIdx (fun x=>decide (x.key = key))
def gidx (l : List En) (key : List UInt8) : Nat:=l.findIdx (fun x=>Op.bytesLess key x.key)
def setN (l : List En) (key : List UInt8) (v : Pob) : List En:=if eidx l key < l.length then l.set (eidx l key) ⟨key,v⟩ else insAt l (gidx l key) ⟨key,v⟩
def dropNE (l : List En) (key : List UInt8) : Int:=if eidx l key < l.length then 0 else 8
def dropNL (l : List En) (key : List UInt8) : List En:=if eidx l key < l.length then delAt l (eidx l key) else []
theorem gidx_le (l : List En) (key : List UInt8) : gidx l key ≤ l.length:=List.findIdx_le_length
theorem entsAV_ok (l : List En) : (∀ e ∈ entsAV l,okRow 7 e = true) = True:=by
 simp only [entsAV,List.mem_map,eq_iff_iff,iff_true]
 rintro e ⟨b,_,rfl⟩
 rfl
theorem entsAV_nil : entsAV [] = []:=rfl
theorem entsAV_insAt (l : List En) (i : Nat) (o : En) : (entsAV l).take i ++ o.cells :: (entsAV l).drop i = entsAV (insAt l i o):=by
 simp [entsAV,insAt,List.map_take,List.map_drop]
theorem entsAV_delAt (l : List En) (i : Nat) : (entsAV l).take i ++ (entsAV l).drop (i + 1) = entsAV (delAt l i):=by
 simp [entsAV,delAt,List.map_take,List.map_drop]
theorem entsAV_set (l : List En) (i : Nat) (o : En) : (entsAV l).set i o.cells = entsAV (l.set i o):=by
 simp [entsAV,List.map_set]
theorem nil_ents {ks : List En} {b : Bool} (h : entsAV ks ≠ [] → b = false) (hb : b = true) : ks = []:=by
 cases ks with
 | nil=>rfl
 | cons x t =>
  have:=h (by simp [entsAV])
  rw [hb] at this
  cases this
def eidxI (l : List En) (key : List UInt8) : Int:=if eidx l key < l.length then eidx l key else -1
def gidxI (l : List En) (key : List UInt8) : Int:=if gidx l key < l.length then gidx l key else -1
theorem findI_hit {l : List En} {p : En → Bool} {i : Nat} (h : i < l.length) (hs : ∀ j,j < i → p (l.getD j En.zero) = false) (hk : p (l.getD i En.zero) = true) : l.findIdx p = i:=by
 rw [List.findIdx_eq h]
 refine ⟨by simpa [List.getD,h] using hk,fun j hj=>?_⟩
 have:=hs j hj
 simpa [List.getD,List.getElem?_eq_getElem (Nat.lt_trans hj h)] using this
theorem findI_miss {l : List En} {p : En → Bool} (hs : ∀ j,j < l.length → p (l.getD j En.zero) = false) : ¬ l.findIdx p < l.length:=by
 intro h
 have h2 : p l[l.findIdx p] = true:=List.findIdx_getElem (w:=h)
 have:=hs _ h
 rw [List.getD_eq_getElem?_getD,List.getElem?_eq_getElem h] at this
 simp only [Option.getD_some] at this
 rw [h2] at this
 cases this
theorem eidxI_hit {l : List En} {key : List UInt8} {i : Nat} (h : i < l.length) (hs : ∀ j,j < i → (l.getD j En.zero).key ≠ key) (hk : (l.getD i En.zero).key = key) : eidxI l key = i:=by
 have : eidx l key = i:=findI_hit h (fun j hj=>decide_eq_false (hs j hj)) (decide_eq_true hk)
 simp [eidxI,this,h]
theorem eidxI_miss {l : List En} {key : List UInt8} (hs : ∀ j,j < l.length → (l.getD j En.zero).key ≠ key) : eidxI l key = -1:=by
 have : ¬ eidx l key < l.length:=findI_miss (fun j hj=>decide_eq_false (hs j hj))
 rw [eidxI,if_neg this]
theorem gidxI_hit {l : List En} {key : List UInt8} {i : Nat} (h : i < l.length) (hs : ∀ j,j < i → Op.bytesLess key (l.getD j En.zero).key = false) (hk : Op.bytesLess key (l.getD i En.zero).key = true) : gidxI l key = i:=by
 have : gidx l key = i:=findI_hit h hs hk
 simp [gidxI,this,h]
theorem gidxI_miss {l : List En} {key : List UInt8} (hs : ∀ j,j < l.length → Op.bytesLess key (l.getD j En.zero).key = false) : gidxI l key = -1:=by
 have : ¬ gidx l key < l.length:=findI_miss hs
 rw [gidxI,if_neg this]
theorem entsAV_at (l : List En) (j : { k : Nat // k < l.length }) (x : List AV) : (entsAV l).getD j.1 x = [.str (l.getD j.1 En.zero).key,.int .i64 (l.getD j.1 En.zero).val.kind,.int .i64 (l.getD j.1 En.zero).val.num,.int .i64 (l.getD j.1 En.zero).val.gen,.str (l.getD j.1 En.zero).val.str,.sl (strsAV (l.getD j.1 En.zero).val.keys),.sl (objsAV (l.getD j.1 En.zero).val.kids)]:=entsAV_getD j.2
theorem bl_gt (a b : List UInt8) : (!(Op.bytesLess a b || decide (a = b))) = Op.bytesLess b a:=by
 rcases bl_total a b with rfl | h | h
 ·simp [bl_irrefl]
 ·rw [h,bl_asymm h] <;> rfl
 ·have hn : a ≠ b:=fun e=>by rw [e,bl_irrefl] at h; cases h
  rw [h,bl_asymm h,decide_eq_false hn] <;> rfl
structure Gr where
 num : Int
 lo : List UInt8
 hi : List UInt8
def Gr.zero : Gr:=⟨0,[],[]⟩
def Gr.cells (g : Gr) : List AV:=[.int .i64 g.num,.str g.lo,.str g.hi]
def grsAV (l : List Gr) : List (List AV):=l.map Gr.cells
theorem grsAV_length (l : List Gr) : (grsAV l).length = l.length:=by simp [grsAV]
theorem grsAV_len3 (l : List Gr) : (∀ e ∈ grsAV l,e.length = 3) = True:=by
 simp only [grsAV,List.mem_map,eq_iff_iff,iff_true]
 rintro _ ⟨a,_,rfl⟩
 rfl
theorem grsAV_getD {l : List Gr} {i : Nat} {x : List AV} (h : i < l.length) : (grsAV l).getD i x = (l.getD i Gr.zero).cells:=by
 simp [grsAV,List.getD,h]
theorem grsAV_append (a b : List Gr) : grsAV (a ++ b) = grsAV a ++ grsAV b:=by simp [grsAV]
def partsN (n fan : Nat) : Nat:=(n + fan - 1) / fan
def partL {α : Type} (l : List α) (fan i : Nat) : List α:=(l.drop (i * fan)).take fan
def limO (lo hi : List UInt8) : Pob:=arrO [strO lo,strO hi]
def nodeO (low : Bool) (l : List Pob) (lo hi : List UInt8) (lim : Bool) : Pob :=
 if lim = false then .mk 7 0 0 [] [if low = true then namesK else kidsK] [arrO l]
 else if low = true then .mk 7 0 0 [] [limsK,namesK] [limO lo hi,arrO l]
 else .mk 7 0 0 [] [kidsK,limsK] [arrO l,limO lo hi]
structure BS where
 err : Int
 d : Dc
 row : List Gr
def addB (s : BS) (low : Bool) (l : List Pob) (lo hi : List UInt8) (lim : Bool) : BS :=
 if s.err ≠ 0 then s else if addE s.d (nodeO low l lo hi lim) ≠ 0 then ⟨addE s.d (nodeO low l lo hi lim),s.d,s.row⟩
 else ⟨0,addO s.d (nodeO low l lo hi lim),s.row ++ [⟨addN s.d (nodeO low l lo hi lim),lo,hi⟩]⟩
def pairsP (l : List En) : List Pob:=l.flatMap fun x=>[strO x.key,x.val]
def refsP (l : List Gr) : List Pob:=l.map fun x=>refO x.num 0
def leavesB (d : Dc) (l : List En) (fan : Nat) : Nat → BS
 | 0=>⟨0,d,[]⟩
 | k + 1=>addB (leavesB d l fan k) true (pairsP (partL l fan k)) ((partL l fan k).getD 0 En.zero).key ((partL l fan k).getD ((partL l fan k).length - 1) En.zero).key true
def aboveB (d : Dc) (r : List Gr) (fan : Nat) : Nat → BS
 | 0=>⟨0,d,[]⟩
 | k + 1=>addB (aboveB d r fan k) false (refsP (partL r fan k)) ((partL r fan k).getD 0 Gr.zero).lo ((partL r fan k).getD ((partL r fan k).length - 1) Gr.zero).hi true
def climbB (fan : Nat) : Nat → BS → BS
 | 0,s=>s
 | k + 1,s=>if s.err ≠ 0 then s else if s.row.length ≤ fan then s else climbB fan k (aboveB s.d s.row fan (partsN s.row.length fan))
def topB (s : BS) (fan : Nat) : BS:=if s.err ≠ 0 then s else addB ⟨0,s.d,[]⟩ false (refsP s.row) [] [] false
def treeB (d : Dc) (l : List En) (fan : Nat) : BS :=
 if l.length ≤ fan then addB ⟨0,d,[]⟩ true (pairsP l) [] [] false
 else topB (climbB fan l.length (leavesB d l fan (partsN l.length fan))) fan
def upN (n fan : Nat) : Nat:=(n + fan - 1) / fan
def nodesR (fan : Nat) : Nat → Nat → Nat
 | 0,_=>0
 | k + 1,n=>if n ≤ fan then 0 else upN n fan + nodesR fan k (upN n fan)
def nodesN (n fan : Nat) : Nat:=nodesR fan n n + 1
def entE (l : List En) (i : Nat) : Int :=
 if 32767 < (l.getD i En.zero).key.length then 5 else if chk (l.getD i En.zero).val 1 ≠ 0 then chk (l.getD i En.zero).val 1 else if (l.getD i En.zero).val.kind = 9 then 10
 else if 0 < i ∧ Op.bytesLess (l.getD (i - 1) En.zero).key (l.getD i En.zero).key = false then 1 else 0
def entsE (l : List En) : Nat → Int
 | 0=>0
 | k + 1=>if entsE l k ≠ 0 then entsE l k else entE l k
def mayE (l : List En) (fan : Int) : Int:=if fan < 2 ∨ 16 < fan then 1 else if 8191 < l.length then 6 else entsE l l.length
def makeE0 (d : Dc) (l : List En) (fan : Int) : Int:=if docE d ≠ 0 then docE d else if mayE l fan ≠ 0 then mayE l fan else if 4096 < nodesN l.length fan.toNat then 6 else 0
def makeS (d : Dc) (l : List En) (fan : Int) : BS:=if makeE0 d l fan ≠ 0 then ⟨makeE0 d l fan,d,[]⟩ else treeB d l fan.toNat
def makeE (d : Dc) (l : List En) (fan : Int) : Int:=(makeS d l fan).err
def makeD (d : Dc) (l : List En) (fan : Int) : Dc:=if makeE d l fan ≠ 0 then Dc.zero else (makeS d l fan).d
def makeO (d : Dc) (l : List En) (fan : Int) : Pob:=if makeE d l fan ≠ 0 then Pob.null else refO ((makeS d l fan).row.getD 0 Gr.zero).num 0
theorem grsAV_at (l : List Gr) (j : { k : Nat // k < l.length }) (x : List AV) : (grsAV l).getD j.1 x = [.int .i64 (l.getD j.1 Gr.zero).num,.str (l.getD j.1 Gr.zero).lo,.str (l.getD j.1 Gr.zero).hi]:=grsAV_getD j.2
def thereE (d : Dc) (o : Pob) : Int:=if docE d ≠ 0 then docE d else if (followO d o).kind = 0 then 8 else 0
theorem nodesR_le {fan k n : Nat} (h : n ≤ fan) : nodesR fan k n = 0:=by
 cases k with
 | zero=>rfl
 | succ k=>rw [nodesR,if_pos h]
theorem upN_le {a fan : Nat} (hf : 2 ≤ fan) : upN a fan ≤ (a + 1) / 2:=by
 refine Nat.le_of_lt_succ ((Nat.div_lt_iff_lt_mul (by omega)).2 ?_)
 have h : 2 * ((a + 1) / 2) ≤ fan * ((a + 1) / 2):=Nat.mul_le_mul_right _ hf
 rw [Nat.succ_mul,Nat.mul_comm _ fan]
 omega
theorem upN_int {a fan : Nat} (h : 0 < a + fan) : ((upN a fan : Nat) : Int) = ((a : Int) + fan - 1) / fan:=by
 rw [upN,Int.natCast_ediv]
 congr 1
 omega
theorem nodes_step {n fan a b k : Nat} (hf : 2 ≤ fan) (hl : fan < a) (ha : a ≤ 8191) (hb : b ≤ 16384) (hk : a ≤ k) (he : nodesN n fan = b + nodesR fan k a + 1) (hs : b + 2 * a ≤ 16384) :
  upN a fan ≤ 8191 ∧ b + upN a fan ≤ 16384 ∧ ∃ k,upN a fan ≤ k ∧ nodesN n fan = b + upN a fan + nodesR fan k (upN a fan) + 1 ∧ b + upN a fan + 2 * upN a fan ≤ 16384:=by
 have h:=upN_le (a:=a) hf
 obtain ⟨k,rfl⟩ : ∃ k',k = k' + 1:=⟨k - 1,by omega⟩
 rw [nodesR,if_neg (by omega)] at he
 exact ⟨by omega,by omega,k,by omega,by omega,by omega⟩
def ebulk (l : List En) : Nat:=(l.map fun e=>e.val.bulk + 1).sum
theorem getD_sum {α : Type} {l : List α} {f : α → Nat} {d : α} {i : Nat} (h : i < l.length) : f (l.getD i d) ≤ (l.map f).sum:=by
 induction l generalizing i with
 | nil=>simp at h
 | cons x l ih =>
  simp only [List.map_cons,List.sum_cons]
  cases i with
  | zero=>simp only [List.getD_cons_zero]; omega
  | succ i =>
   simp only [List.getD_cons_succ]
   have:=ih (i:=i) (by simpa using h)
   omega
theorem ebulk_get {l : List En} {i : Nat} (h : i < l.length) : (l.getD i En.zero).val.bulk + 1 ≤ ebulk l:=getD_sum (f:=fun e : En=>e.val.bulk + 1) h
theorem ebulk_len (l : List En) : l.length ≤ ebulk l:=by
 induction l with
 | nil=>simp [ebulk]
 | cons x l ih=>simp only [ebulk,List.map_cons,List.sum_cons,List.length_cons] at ih ⊢; omega
theorem ents_ext {a b : List En} (hl : a.length = b.length) (h : ∀ i,i < a.length → a.getD i En.zero = b.getD i En.zero) : a = b:=by
 refine List.ext_getElem hl fun i h1 h2=>?_
 have:=h i h1
 simpa [List.getD,h1,h2] using this
theorem en_eq {x y : En} : x = y ↔ x.key = y.key ∧ x.val = y.val:=by
 cases x; cases y; simp
def npairs (d : Dc) (q : Pob) : List Pob:=if lowB d q then (atO d q namesK).kids else []
def nkids (d : Dc) (q : Pob) : List Pob:=if lowB d q then [] else (atO d q kidsK).kids
theorem kids_le (o : Pob) : o.kids.length ≤ o.bulk:=by
 rw [Pob.bulk_eq]
 omega
theorem entsAV_atl (a b : List En) (j : { k : Nat // k < a.length ∧ k < b.length }) (x : List AV) : (entsAV a).getD j.1 x = [.str (a.getD j.1 En.zero).key,.int .i64 (a.getD j.1 En.zero).val.kind,.int .i64 (a.getD j.1 En.zero).val.num,.int .i64 (a.getD j.1 En.zero).val.gen,.str (a.getD j.1 En.zero).val.str,.sl (strsAV (a.getD j.1 En.zero).val.keys),.sl (objsAV (a.getD j.1 En.zero).val.kids)]:=entsAV_getD j.2.1
theorem entsAV_atr (a b : List En) (j : { k : Nat // k < a.length ∧ k < b.length }) (x : List AV) : (entsAV b).getD j.1 x = [.str (b.getD j.1 En.zero).key,.int .i64 (b.getD j.1 En.zero).val.kind,.int .i64 (b.getD j.1 En.zero).val.num,.int .i64 (b.getD j.1 En.zero).val.gen,.str (b.getD j.1 En.zero).val.str,.sl (strsAV (b.getD j.1 En.zero).val.keys),.sl (objsAV (b.getD j.1 En.zero).val.kids)]:=entsAV_getD j.2.2
theorem entsAV_lit (key : List UInt8) (v : Pob) : [[AV.str key,.int .i64 v.kind,.int .i64 v.num,.int .i64 v.gen,.str v.str,.sl (strsAV v.keys),.sl (objsAV v.kids)]] = entsAV [⟨key,v⟩]:=rfl
theorem entsAV_end (l : List En) (x : List AV) : (entsAV l).getD l.length x = x:=by
 rw [List.getD_eq_getElem?_getD,List.getElem?_eq_none (by rw [entsAV_length]; exact Nat.le_refl _)]
 rfl
theorem leB_gt {a b : List UInt8} (h : Op.bytesLess a b = true ∨ a = b) : Op.bytesLess b a = false:=by
 rcases h with h | rfl
 ·exact bl_asymm h
 ·exact bl_irrefl _
theorem lt_of_not {a b : List UInt8} (h : Op.bytesLess a b = false ∧ ¬ a = b) : Op.bytesLess b a = true:=by
 rcases bl_total a b with e | e | e
 ·exact absurd e h.2
 ·rw [e] at h; cases h.1
 ·exact e
theorem entsAV_next0 (l : List En) (j : { k : Nat // k + 1 < l.length }) (x : List AV) : (entsAV l).getD j.1 x = [.str (l.getD j.1 En.zero).key,.int .i64 (l.getD j.1 En.zero).val.kind,.int .i64 (l.getD j.1 En.zero).val.num,.int .i64 (l.getD j.1 En.zero).val.gen,.str (l.getD j.1 En.zero).val.str,.sl (strsAV (l.getD j.1 En.zero).val.keys),.sl (objsAV (l.getD j.1 En.zero).val.kids)]:=entsAV_getD (Nat.lt_of_succ_lt j.2)
theorem entsAV_next1 (l : List En) (j : { k : Nat // k + 1 < l.length }) (x : List AV) : (entsAV l).getD (j.1 + 1) x = [.str (l.getD (j.1 + 1) En.zero).key,.int .i64 (l.getD (j.1 + 1) En.zero).val.kind,.int .i64 (l.getD (j.1 + 1) En.zero).val.num,.int .i64 (l.getD (j.1 + 1) En.zero).val.gen,.str (l.getD (j.1 + 1) En.zero).val.str,.sl (strsAV (l.getD (j.1 + 1) En.zero).val.keys),.sl (objsAV (l.getD (j.1 + 1) En.zero).val.kids)]:=entsAV_getD j.2
end Aw

namespace Go.Proofs
open Go Aw
set_option linter.unusedSimpArgs false
set_option linter.unusedVariables false
set_option maxRecDepth 100000
set_option maxHeartbeats 4000000
theorem c_names_must (gl : List (Nat × AV)) (b : Bool) (e : Int) : FnP Tryz.prog (gl) 32 [.bool b,.int .i64 e] fun r=>r = if b = true then .ret (.tup []) else .panic (.iface 105 (.int .i64 e)):=by
 refine FnP.intro Tryz.func32 rfl rfl (by simp [Tryz.ntmps32]) ?_
 simp only [argEnv,Tryz.ntmps32,Tryz.results32]
 refine AW.rS ?_
 refine AW.c2 ?_ ?_
 ·intro h2
  refine AW.rLC ?_
  refine awOps.cons (awGuard.pn ?_)
  refine wk ?_
  rw [h2] <;> rfl
 ·intro h2
  refine AW.skip ?_
  refine wk ?_
  rw [h2] <;> rfl
theorem c_names_at (gl : List (Nat × AV)) (d : Dc) (o : Pob) (key : List UInt8) (h : d.bulk ≤ 16777216:=by first | omega | exact u8_le _ | assumption | (simp; done) | (simp; omega)) (ho : o.bulk ≤ 16777216:=by first | omega | exact u8_le _ | assumption | (simp; done) | (simp; omega)) : FnP Tryz.prog (gl) 62 [.agg d.cells,.agg o.cells,.str key] fun r=>r = .ret (.tup [.agg (atO d o key).cells,.bool (getB o key)]):=by
 refine FnP.intro Tryz.func62 rfl rfl (by simp [Tryz.ntmps62]) ?_
 simp only [argEnv,Tryz.ntmps62,Tryz.results62]
 refine AW.rS ?_
 refine AW.trim [2,3,4,6] ?_
 refine AW.rSC ?_
 refine awOps.cons (awGuard.c1 (c_value_Get _ o key) ?_)
 refine awOps.rn ?_
 refine AW.trim [3,6,8,9] ?_
 refine AW.rSC ?_
 refine awOps.cons (awGuard.c1 (c_docs_Follow _ d (getO o key) h (Nat.le_trans (get_bulk o key) ho)) ?_)
 refine awOps.rn ?_
 refine AW.trim [6,7] ?_
 refine AW.rt ?_
 trivial
theorem c_names_of (gl : List (Nat × AV)) (d : Dc) (o : Pob) (h : d.bulk ≤ 16777216:=by first | omega | exact u8_le _ | assumption | (simp; done) | (simp; omega)) (ho : o.bulk ≤ 16777216:=by first | omega | exact u8_le _ | assumption | (simp; done) | (simp; omega)) : FnP Tryz.prog (gl) 33 [.agg d.cells,.agg o.cells] fun r=>r = if decide (lowB d (followO d o) ∨ highB d (followO d o)) = true then .ret (.agg [.sl (objsAV (npairs d (followO d o))),.sl (objsAV (nkids d (followO d o))),.bool (decide (lowB d (followO d o)))]) else .panic (.iface 105 (.int .i64 25)):=by
 refine FnP.intro Tryz.func33 rfl rfl (by simp [Tryz.ntmps33]) ?_
 simp only [argEnv,Tryz.ntmps33,Tryz.results33]
 have hq:=follow_bulk h ho
 have hqn:=get_bulk (followO d o) namesK
 have hqk:=get_bulk (followO d o) kidsK
 refine AW.rS ?_
 refine AW.trim [2,3,4] ?_
 refine AW.rSC ?_
 refine awOps.cons (awGuard.c1 (c_docs_Follow _ d o h ho) ?_)
 refine awOps.rn ?_
 generalize followO d o = q at hq hqn hqk
 refine AW.trim [2,3,4] ?_
 refine AW.rSC ?_
 refine awOps.cons (awGuard.c1 (c_names_at _ d q namesK) ?_)
 refine awOps.rn ?_
 refine AW.trim [2,3,4,5,6] ?_
 refine AW.rSC ?_
 refine awOps.cons (awGuard.c1 (c_names_at _ d q kidsK) ?_)
 refine awOps.rn ?_
 refine AW.trim [3,4,5,6,7,8] ?_
 refine AW.rSC ?_
 refine awOps.cons (awGuard.cM (c_names_must _ _ 25) ?_ ?_)
 ·intro hp12
  refine wk ?_
  refine (if_neg ?_).symm
  rw [decide_eq_true_eq]
  rintro (⟨h1,h2,h3,h4,h5,h6⟩ | ⟨h1,h2,h3,h4⟩)
  ·exact hp12.elim (fun h=>h h1) (fun e=>by rw [h2,h3] at e; cases e)
  ·exact hp12.elim (fun h=>h h1) (fun e=>by rw [h2,h3] at e; cases e)
 intro hm12
 refine awOps.rn ?_
 refine AW.trim [4,5,7,8] ?_
 refine AW.seq ?_
 refine AW.rS ?_
 refine AW.trim [4,5,7,34] ?_
 refine AW.c2 ?_ ?_
 ·intro h16
  refine AW.rSC ?_
  refine awOps.cons (awGuard.cM (c_names_must _ _ 25) ?_ ?_)
  ·intro hp18
   refine wk ?_
   refine (if_neg ?_).symm
   rw [decide_eq_true_eq]
   rintro (⟨h1,h2,h3,h4,h5,h6⟩ | ⟨h1,h2,h3,h4⟩)
   ·rw [h16] at h3; cases h3
   ·exact hp18 h4
  intro hm18
  refine awOps.rn ?_
  refine AW.trim [4,7] ?_
  refine AW.rS ?_
  refine AW.trim [4] ?_
  refine AW.rt ?_
  have hl : ¬ lowB d q:=fun h=>by have:=h.2.2.1; rw [h16] at this; cases this
  have hh : highB d q:=⟨hm12.1,by cases hn : getB q namesK with | false=>rfl | true=>exact absurd (by rw [hn,h16]) hm12.2,h16,hm18⟩
  rw [if_pos (decide_eq_true (.inr hh)),npairs,nkids,if_neg hl,if_neg hl,decide_eq_false hl,objsAV_nil]
 ·intro h16
  refine AW.skip ?_
  refine AW.rSC ?_
  refine awOps.cons (awGuard.cM (c_names_must _ _ 25) ?_ ?_)
  ·intro hp25
   refine wk ?_
   refine (if_neg ?_).symm
   rw [decide_eq_true_eq]
   rintro (⟨h1,h2,h3,h4,h5,h6⟩ | ⟨h1,h2,h3,h4⟩)
   ·exact hp25.elim (fun h=>h h4) (fun e=>e (by omega))
   ·rw [h16] at h3; cases h3
  intro hm25
  refine awOps.rn ?_
  refine AW.trim [4,5] ?_
  refine AW.seq ?_
  refine AW.rS ?_
  refine AW.trim [4,5,9] ?_
  refine AW.block ?_
  refine AW.lk (S:={ k : Nat // 2 * k ≤ (atO d q namesK).kids.length ∧ ∀ j,j < k → strAt (atO d q namesK).kids (2 * j) }) [4,5] (fun s_=>[(9,.int .i64 (2 * (s_.1 : Int)))]) (fun s_=>[(2,.cells [.raw (.slice none 0 0),.raw (.slice none 0 0),.bool false]),(3,.cells (atO d q namesK).cells)]) 4 (fun s_=>(atO d q namesK).kids.length - s_.1) ⟨0,Nat.zero_le _,fun j h=>absurd h (Nat.not_lt_zero j)⟩ ?_ ?_
  ·refine St.le.vw [0,1,2,3]
  rintro ⟨k,hk,hks⟩
  try dsimp only at hk
  try dsimp only at hks
  refine AW.seq ?_
  refine AW.rS ?_
  refine AW.trim [4,5,9,57] ?_
  refine AW.c2 ?_ ?_
  ·intro h33
   have hgb:=kids_le (atO d q namesK)
   have hab : (atO d q namesK).bulk ≤ 16777216:=follow_bulk h (Nat.le_trans hqn hq)
   refine AW.skip ?_
   refine AW.seq ?_
   refine AW.block ?_
   refine AW.rLC ?_
   refine awOps.cons (awGuard.cM (c_names_must _ _ 25) ?_ ?_)
   ·intro hp38
    refine wk ?_
    refine (if_neg ?_).symm
    rw [decide_eq_true_eq]
    rintro (⟨h1,h2,h3,h4,h5,h6⟩ | ⟨h1,h2,h3,h4⟩)
    ·exact hp38 (by have:=h6 k (by omega); simpa [strAt,show (2 * (k : Int)).toNat = 2 * k from by omega] using this)
    ·rw [h16] at h3; cases h3
   intro hm38
   refine awOps.rn ?_
   refine AW.rL ?_
   refine ⟨⟨k + 1,by omega,fun j hj=>(Nat.lt_or_ge j k).elim (hks j) (fun h=>by rw [show j = k by omega]; simpa [strAt,show (2 * (k : Int)).toNat = 2 * k from by omega] using hm38)⟩,?_,?_⟩
   ·refine St.le.vw [0,1,2,3]
   ·simp only []; omega
  ·intro h33
   refine AW.exit ?_
   refine AW.rS ?_
   refine AW.trim [4] ?_
   refine AW.rt ?_
   have hl : lowB d q:=⟨hm12.1,by cases hn : getB q namesK with | true=>rfl | false=>exact absurd (by rw [hn,h16]) hm12.2,h16,hm25.1,by omega,fun i hi=>hks i (by omega)⟩
   rw [if_pos (decide_eq_true (.inl hl)),npairs,nkids,if_pos hl,if_pos hl,decide_eq_true hl,objsAV_nil]
attribute [local go_sem] entsAV_length entsAV_len7 entsAV_getD
theorem h_Insert_Entry (gl : List (Nat × AV)) (es : List (List AV)) (e : List AV) (i : Nat) (hes : ∀ e ∈ es,okRow 7 e = true) (he : okRow 7 e = true) (hi : i ≤ es.length) (hl : es.length ≤ 16777216) : FnH Tryz.prog (gl) 57 [.row 0 0 es.length,.int .i64 i,.row 1 0 1] ([(0,.row 7 es true),(1,.row 7 [e] true)]) 2 (fun r h n=>r = .ret (.row 2 0 (es.length + 1)) ∧ h = [(1,.row 7 [e] true),(2,.row 7 (es.take i ++ e :: es.drop i) true)] ∧ n = 3):=by
 refine FnH.intro Tryz.func57 rfl rfl (by simp [Tryz.ntmps57]) ?_
 simp only [argEnv,Tryz.ntmps57,Tryz.results57]
 refine AW.rS ?_
 refine AW.rS ?_
 refine AW.rS ?_
 refine AW.seq ?_
 refine AW.rS ?_
 refine AW.c2 ?_ ?_
 ·intro h6
  refine AW.rS ?_
  refine AW.rt ?_
  all_goals first | contradiction | rfl | (simp; done) | (simp; omega)
 ·intro h6
  refine AW.skip ?_
  refine AW.rS ?_
  refine AW.seq ?_
  refine AW.rS ?_
  refine AW.c2 ?_ ?_
  ·intro h14
   refine AW.rS ?_
   refine AW.rt ?_
   obtain rfl : i = es.length:=by omega
   simp
  ·intro h14
   refine AW.skip ?_
   refine AW.seq ?_
   refine AW.tf 0 (fun sp hsp hse=>?_)
   refine AW.rSC ?_
   refine awOps.cons ?_
   refine awGuard.fcp  ?_
   refine awOps.rn ?_
   refine AW.c2 ?_ ?_
   ·intro h23
    refine AW.rSC ?_
    refine awOps.cons ?_
    refine awGuard.fzr (es.length + 1 - i) ?_ ?_ ?_ ?_ ?_ ?_
    ·first | omega | (simp; done) | (simp; omega)
    ·first | omega | (simp; done) | (simp; omega)
    ·first | omega | (simp; done) | (simp; omega)
    ·first | omega | (simp; done) | (simp; omega)
    ·show (i + (es.length + 1 - i)) * 104 ≤ _; omega
    refine awOps.rn ?_
    refine AW.rSC ?_
    refine awOps.cons ?_
    refine awGuard.cpR 1 ?_ ?_ ?_ ?_
    ·first | omega | (simp; done) | (simp; omega)
    ·first | omega | (simp; done) | (simp; omega)
    ·simp [he]
    refine awOps.rn ?_
    refine AW.dSC [(0,0),(1,0),(2,0),(3,0),(4,1),(5,0),(6,0),(7,1),(8,2)] ?_
    refine awPlan.only rfl ?_
    refine awGuard.cpR (es.length - i) ?_ ?_ ?_ ?_
    ·first | omega | (simp; done) | (simp; omega)
    ·simp [splice]; omega
    ·exact ⟨by omega,fun x hx=>hes x (mem_mid hse hx)⟩
    refine awPlan.rn ?_
    refine AW.rS ?_
    refine AW.drop 0 ?_
    refine AW.rt ?_
    rw [ins_new hse rfl (by omega) (by simp),show i + (es.length + 1 - i) = es.length + 1 from by omega]
    exact ⟨rfl,rfl⟩
   ·intro h23
    refine AW.skip ?_
    refine AW.rS ?_
    refine AW.seq ?_
    refine AW.rSC ?_
    refine awOps.cons ?_
    refine awGuard.ovr (tS:=32) (tR:=4) (e:=48) Tryz.func81 ?_ ?_
    ·first | omega | (simp; done) | (simp; omega)
    refine awOps.rn ?_
    refine AW.c2 ?_ ?_
    ·intro h42
     refine AW.dSC [(0,0),(1,0),(2,0),(3,0),(4,1),(5,0),(6,0),(7,1),(8,2)] ?_
     refine awPlan.only rfl ?_
     refine awGuard.cpF (es.length - i) ?_ ?_ ?_ ?_
     ·first | omega | (simp; done) | (simp; omega)
     ·first | omega | (simp; done) | (simp; omega)
     ·exact ⟨by omega,fun x hx=>hes x (mem_mid hse hx)⟩
     refine awPlan.rn ?_
     have hsl : (splice sp (i + 1) (List.take (es.length - i) (List.drop i sp))).length = sp.length:=splice_len (by simp; omega)
     refine AW.rSC ?_
     refine awOps.cons ?_
     refine awGuard.cpF 1 ?_ ?_ ?_ ?_
     ·first | omega | (simp; done) | (simp; omega)
     ·first | omega | (simp; done) | (simp; omega)
     ·simp [he]
     refine awOps.rn ?_
     refine AW.rS ?_
     refine AW.uf 0 (es.length + 1) ?_
     refine AW.rnm 6 ?_
     refine AW.rt ?_
     rw [ins_in hse rfl (by omega) (by omega)]
    ·intro h42
     cases h42
theorem h_Delete_Entry (gl : List (Nat × AV)) (es : List (List AV)) (i j : Nat) (hes : ∀ e ∈ es,okRow 7 e = true) (hij : i < j) (hj : j ≤ es.length) (hl : es.length ≤ 16777216) : FnH Tryz.prog (gl) 52 [.row 0 0 es.length,.int .i64 i,.int .i64 j] ([(0,.row 7 es true)]) 1 (fun r h n=>r = .ret (.row 0 0 (i + (es.length - j))) ∧ h = [(0,.row 7 (es.take i ++ es.drop j) true)] ∧ n = 1):=by
 refine FnH.intro Tryz.func52 rfl rfl (by simp [Tryz.ntmps52]) ?_
 simp only [argEnv,Tryz.ntmps52,Tryz.results52]
 refine AW.rS ?_
 refine AW.rSC ?_
 refine awOps.cons ?_
 refine awGuard.s3 ?_ ?_
 ·first | omega | (simp; done) | (simp; omega)
 refine awOps.rn ?_
 refine AW.seq ?_
 refine AW.rS ?_
 refine AW.c2 ?_ ?_
 ·intro h7
  refine AW.rS ?_
  refine AW.rt ?_
  all_goals first | contradiction | rfl | (simp; done) | (simp; omega)
 ·intro h7
  refine AW.skip ?_
  refine AW.tf 0 (fun sp hsp hse=>?_)
  have htl : (List.take (es.length - j) (List.drop j sp)).length = es.length - j:=by simp; omega
  have hsl : (splice sp i (List.take (es.length - j) (List.drop j sp))).length = sp.length:=splice_len (by omega)
  refine AW.rS ?_
  refine AW.dSC [(0,0),(1,0),(2,1),(3,0),(4,0),(5,1),(6,2),(7,0)] ?_
  refine awPlan.only rfl ?_
  refine awGuard.apF ?_ ?_ ?_
  ·exact ⟨by omega,fun x hx=>hes x (mem_mid hse hx)⟩
  ·omega
  refine awPlan.rn ?_
  refine AW.rSC ?_
  refine awOps.cons ?_
  refine awGuard.fcr ?_ ?_
  ·omega
  refine awOps.rn ?_
  refine AW.uf 0 (i + (es.length - j)) ?_
  refine AW.rS ?_
  refine AW.rt ?_
  rw [htl,del_in hse rfl (by omega) hj rfl]
  exact ⟨rfl,rfl⟩
end Go.Proofs

namespace Go.Proofs
open Go Aw
set_option linter.unusedSimpArgs false
set_option linter.unusedVariables false
set_option maxRecDepth 100000
set_option maxHeartbeats 4000000
attribute [local go_sem] En.cells entsAV_ok entsAV_length entsAV_len7 entsAV_at
theorem h_Clone_Entry (gl : List (Nat × AV)) (ks : List En) (hk : ks.length ≤ 16777216:=by first | omega | exact u8_le _ | assumption | (simp; done) | (simp; omega)) : FnH Tryz.prog (gl) 53 [.sl (entsAV ks)] ([]) 0 (fun r h n=>r = .ret (.row 1 0 ks.length) ∧ h = [(1,.row 7 (entsAV ks) true)] ∧ n = 2):=by
 refine FnH.intro Tryz.func53 rfl rfl (by simp [Tryz.ntmps53]) ?_
 simp only [argEnv,Tryz.ntmps53,Tryz.results53]
 refine AW.rS ?_
 refine AW.seq ?_
 refine AW.rSC ?_
 refine awOps.cons (awGuard.nS ?_)
 intro b4 hb4
 simp only [nilBool]
 refine awOps.rn ?_
 refine AW.c2 ?_ ?_
 ·intro h6
  refine AW.rS ?_
  refine AW.pre (St.le.nilrow 2 7 (by (simp only [go_sem,seval]; iterate 2 try (simp (disch:=omega) only [zq]; try simp only [go_sem,seval])))) ?_
  refine wk ?_
  refine AW.rnm 2 ?_
  refine wk ?_
  refine AW.rt ?_
  rw [nil_ents hb4 h6,entsAV_nil]; simp
 ·intro h6
  refine AW.skip ?_
  refine AW.rS ?_
  refine AW.rt ?_
  all_goals first | contradiction | rfl | (simp; done) | (simp; omega)
theorem h_Ins_ent (gl : List (Nat × AV)) (l : List En) (o : En) (i : Nat) (hi : i ≤ l.length) (hl : l.length ≤ 16777216:=by omega) : FnH Tryz.prog gl 57 [.row 0 0 l.length,.int .i64 i,.row 1 0 1]
  [(0,.row 7 (entsAV l) true),(1,.row 7 [o.cells] true)] 2 fun r h n=>r = .ret (.row 2 0 (l.length + 1)) ∧ h = [(1,.row 7 [o.cells] true),(2,.row 7 (entsAV (insAt l i o)) true)] ∧ n = 3:=by
 have h:=h_Insert_Entry gl (entsAV l) o.cells i (by rw [entsAV_ok]; trivial) rfl (by rw [entsAV_length]; exact hi) (by rw [entsAV_length]; exact hl)
 rw [entsAV_length,entsAV_insAt] at h
 exact h
theorem h_Del_ent (gl : List (Nat × AV)) (ks : List En) (i : Nat) (hi : i < ks.length) (hl : ks.length ≤ 16777216:=by omega) : FnH Tryz.prog gl 52 [.row 0 0 ks.length,.int .i64 i,.int .i64 (i + 1)]
  [(0,.row 7 (entsAV ks) true)] 1 fun r h n=>r = .ret (.row 0 0 (i + (ks.length - (i + 1)))) ∧ h = [(0,.row 7 (entsAV (delAt ks i)) true)] ∧ n = 1:=by
 have h:=h_Delete_Entry gl (entsAV ks) i (i + 1) (by rw [entsAV_ok]; trivial) (by omega) (by rw [entsAV_length]; omega) (by rw [entsAV_length]; exact hl)
 rw [entsAV_length,entsAV_delAt] at h
 exact h
theorem c_names_Drop_1 (gl : List (Nat × AV)) (y : En) (key : List UInt8) : FnP Tryz.prog (gl) 51 [.agg y.cells,.tptr [.str key]] fun r=>r = .ret (.bool (decide (y.key = key))):=by
 refine FnP.intro Tryz.func51 rfl rfl (by simp [Tryz.ntmps51]) ?_
 simp only [argEnv,Tryz.ntmps51,Tryz.results51]
 refine AW.rS ?_
 refine AW.rS ?_
 refine AW.rt ?_
 all_goals first | contradiction | rfl | (simp; done) | (simp; omega)
theorem c_IndexFunc_Drop (gl : List (Nat × AV)) (l : List En) (key : List UInt8) (hl : l.length ≤ 16777216:=by first | omega | exact u8_le _ | assumption | (simp; done) | (simp; omega)) : FnP Tryz.prog (gl) 50 [.sl (entsAV l),.clos 51 [.tptr [.str key]]] fun r=>r = .ret (.int .i64 (eidxI l key)):=by
 refine FnP.intro Tryz.func50 rfl rfl (by simp [Tryz.ntmps50]) ?_
 simp only [argEnv,Tryz.ntmps50,Tryz.results50]
 refine AW.rS ?_
 refine AW.seq ?_
 refine AW.rS ?_
 refine AW.block ?_
 refine AW.lk (S:={ i : Nat // i ≤ l.length ∧ ∀ j,j < i → (l.getD j En.zero).key ≠ key }) [0,1,7] (fun s_=>[(8,.int .i64 s_.1)]) (fun s_=>[]) 0 (fun s_=>l.length - s_.1) ⟨0,Nat.zero_le _,fun j h=>absurd h (by omega)⟩ ?_ ?_
 ·refine St.le.vw []
 rintro ⟨i,hi,hs⟩
 try dsimp only at hi
 try dsimp only at hs
 refine AW.rS ?_
 refine AW.seq ?_
 refine AW.c2 ?_ ?_
 ·intro h8
  obtain ⟨j,rfl⟩ : ∃ j : { k : Nat // k < l.length },i = j.1:=⟨⟨i,h8⟩,rfl⟩
  refine AW.skip ?_
  refine AW.seq ?_
  refine AW.block ?_
  refine AW.rS ?_
  refine AW.rSC ?_
  refine awOps.cons (awGuard.c1 (c_names_Drop_1 _ (l.getD j.1 En.zero) key) ?_)
  refine awOps.rn ?_
  refine AW.c2 ?_ ?_
  ·intro h16
   refine AW.rS ?_
   refine AW.rt ?_
   rw [eidxI_hit h8 hs h16]
  ·intro h16
   refine AW.skip ?_
   refine AW.rL ?_
   refine ⟨⟨j.1 + 1,by omega,fun i hj=>(Nat.lt_or_ge i j.1).elim (hs i) (fun h=>(show i = j.1 by omega) ▸ h16)⟩,?_,?_⟩
   ·refine St.le.vw []
   ·simp only []; omega
 ·intro h8
  refine AW.exit ?_
  refine AW.rS ?_
  refine AW.rt ?_
  rw [eidxI_miss (fun j hj=>hs j (by omega))]
theorem c_names_Set_1 (gl : List (Nat × AV)) (y : En) (key : List UInt8) : FnP Tryz.prog (gl) 55 [.agg y.cells,.tptr [.str key]] fun r=>r = .ret (.bool (decide (y.key = key))):=by
 refine FnP.intro Tryz.func55 rfl rfl (by simp [Tryz.ntmps55]) ?_
 simp only [argEnv,Tryz.ntmps55,Tryz.results55]
 refine AW.rS ?_
 refine AW.rS ?_
 refine AW.rt ?_
 all_goals first | contradiction | rfl | (simp; done) | (simp; omega)
theorem c_IndexFunc_Set1 (gl : List (Nat × AV)) (l : List En) (key : List UInt8) (hl : l.length ≤ 16777216:=by first | omega | exact u8_le _ | assumption | (simp; done) | (simp; omega)) : FnP Tryz.prog (gl) 50 [.sl (entsAV l),.clos 55 [.tptr [.str key]]] fun r=>r = .ret (.int .i64 (eidxI l key)):=by
 refine FnP.intro Tryz.func50 rfl rfl (by simp [Tryz.ntmps50]) ?_
 simp only [argEnv,Tryz.ntmps50,Tryz.results50]
 refine AW.rS ?_
 refine AW.seq ?_
 refine AW.rS ?_
 refine AW.block ?_
 refine AW.lk (S:={ i : Nat // i ≤ l.length ∧ ∀ j,j < i → (l.getD j En.zero).key ≠ key }) [0,1,7] (fun s_=>[(8,.int .i64 s_.1)]) (fun s_=>[]) 0 (fun s_=>l.length - s_.1) ⟨0,Nat.zero_le _,fun j h=>absurd h (by omega)⟩ ?_ ?_
 ·refine St.le.vw []
 rintro ⟨i,hi,hs⟩
 try dsimp only at hi
 try dsimp only at hs
 refine AW.rS ?_
 refine AW.seq ?_
 refine AW.c2 ?_ ?_
 ·intro h8
  obtain ⟨j,rfl⟩ : ∃ j : { k : Nat // k < l.length },i = j.1:=⟨⟨i,h8⟩,rfl⟩
  refine AW.skip ?_
  refine AW.seq ?_
  refine AW.block ?_
  refine AW.rS ?_
  refine AW.rSC ?_
  refine awOps.cons (awGuard.c1 (c_names_Set_1 _ (l.getD j.1 En.zero) key) ?_)
  refine awOps.rn ?_
  refine AW.c2 ?_ ?_
  ·intro h16
   refine AW.rS ?_
   refine AW.rt ?_
   rw [eidxI_hit h8 hs h16]
  ·intro h16
   refine AW.skip ?_
   refine AW.rL ?_
   refine ⟨⟨j.1 + 1,by omega,fun i hj=>(Nat.lt_or_ge i j.1).elim (hs i) (fun h=>(show i = j.1 by omega) ▸ h16)⟩,?_,?_⟩
   ·refine St.le.vw []
   ·simp only []; omega
 ·intro h8
  refine AW.exit ?_
  refine AW.rS ?_
  refine AW.rt ?_
  rw [eidxI_miss (fun j hj=>hs j (by omega))]
theorem c_names_Set_2 (gl : List (Nat × AV)) (y : En) (key : List UInt8) : FnP Tryz.prog (gl) 56 [.agg y.cells,.tptr [.str key]] fun r=>r = .ret (.bool (Op.bytesLess key y.key)):=by
 refine FnP.intro Tryz.func56 rfl rfl (by simp [Tryz.ntmps56]) ?_
 simp only [argEnv,Tryz.ntmps56,Tryz.results56]
 refine AW.rS ?_
 refine AW.rS ?_
 refine AW.rt ?_
 rw [bl_gt]
theorem c_IndexFunc_Set2 (gl : List (Nat × AV)) (l : List En) (key : List UInt8) (hl : l.length ≤ 16777216:=by first | omega | exact u8_le _ | assumption | (simp; done) | (simp; omega)) : FnP Tryz.prog (gl) 50 [.sl (entsAV l),.clos 56 [.tptr [.str key]]] fun r=>r = .ret (.int .i64 (gidxI l key)):=by
 refine FnP.intro Tryz.func50 rfl rfl (by simp [Tryz.ntmps50]) ?_
 simp only [argEnv,Tryz.ntmps50,Tryz.results50]
 refine AW.rS ?_
 refine AW.seq ?_
 refine AW.rS ?_
 refine AW.block ?_
 refine AW.lk (S:={ i : Nat // i ≤ l.length ∧ ∀ j,j < i → Op.bytesLess key (l.getD j En.zero).key = false }) [0,1,7] (fun s_=>[(8,.int .i64 s_.1)]) (fun s_=>[]) 0 (fun s_=>l.length - s_.1) ⟨0,Nat.zero_le _,fun j h=>absurd h (by omega)⟩ ?_ ?_
 ·refine St.le.vw []
 rintro ⟨i,hi,hs⟩
 try dsimp only at hi
 try dsimp only at hs
 refine AW.rS ?_
 refine AW.seq ?_
 refine AW.c2 ?_ ?_
 ·intro h8
  obtain ⟨j,rfl⟩ : ∃ j : { k : Nat // k < l.length },i = j.1:=⟨⟨i,h8⟩,rfl⟩
  refine AW.skip ?_
  refine AW.seq ?_
  refine AW.block ?_
  refine AW.rS ?_
  refine AW.rSC ?_
  refine awOps.cons (awGuard.c1 (c_names_Set_2 _ (l.getD j.1 En.zero) key) ?_)
  refine awOps.rn ?_
  refine AW.c2 ?_ ?_
  ·intro h16
   refine AW.rS ?_
   refine AW.rt ?_
   rw [gidxI_hit h8 hs h16]
  ·intro h16
   refine AW.skip ?_
   refine AW.rL ?_
   refine ⟨⟨j.1 + 1,by omega,fun i hj=>(Nat.lt_or_ge i j.1).elim (hs i) (fun h=>by rw [show i = j.1 from by omega]; simpa using h16)⟩,?_,?_⟩
   ·refine St.le.vw []
   ·simp only []; omega
 ·intro h8
  refine AW.exit ?_
  refine AW.rS ?_
  refine AW.rt ?_
  rw [gidxI_miss (fun j hj=>hs j (by omega))]
end Go.Proofs

namespace Go.Proofs
open Go Aw
set_option linter.unusedSimpArgs false
set_option linter.unusedVariables false
set_option maxRecDepth 100000
set_option maxHeartbeats 4000000
attribute [local go_sem] En.cells entsAV_ok entsAV_length entsAV_len7 entsAV_at entsAV_atl entsAV_atr entsAV_take entsAV_drop entsAV_lit entsAV_end List.take_length List.length_take List.length_drop
end Go.Proofs

namespace Go.Proofs
open Go Aw
set_option linter.unusedSimpArgs false
set_option linter.unusedVariables false
set_option maxRecDepth 100000
set_option maxHeartbeats 4000000
attribute [local go_sem] En.cells Gr.cells grsAV_length grsAV_len3 grsAV_at entsAV_ok entsAV_length entsAV_len7 entsAV_at entsAV_next0 entsAV_next1 entsAV_take entsAV_drop List.take_length List.length_take List.length_drop
theorem c_names_there (gl : List (Nat × AV)) (d : Dc) (o : Pob) (h : d.bulk ≤ 16777216:=by first | omega | exact u8_le _ | assumption | (simp; done) | (simp; omega)) (ho : o.bulk ≤ 16777216:=by first | omega | exact u8_le _ | assumption | (simp; done) | (simp; omega)) : FnP Tryz.prog (gl) 27 [.agg d.cells,.agg o.cells] fun r=>r = if decide (thereE d o = 0) = true then .ret (.tup []) else .panic (.iface 105 (.int .i64 (thereE d o))):=by
 refine FnP.intro Tryz.func27 rfl rfl (by simp [Tryz.ntmps27]) ?_
 simp only [argEnv,Tryz.ntmps27,Tryz.results27]
 refine AW.rS ?_
 refine AW.trim [2,3] ?_
 refine AW.seq ?_
 refine AW.rSC ?_
 refine awOps.cons (awGuard.c1 (c_docs_Check _ d h) ?_)
 refine awOps.rn ?_
 refine AW.trim [2,3,4] ?_
 refine AW.rS ?_
 refine AW.trim [2,3,4,8] ?_
 refine AW.c2 ?_ ?_
 ·intro h7
  refine AW.rLC ?_
  refine awOps.cons (awGuard.pn ?_)
  refine wk ?_
  have e : thereE d o = docE d:=by rw [thereE,if_pos h7]
  rw [e,if_neg (by rw [decide_eq_true_eq]; exact h7)]
 ·intro h7
  refine AW.skip ?_
  refine AW.rLC ?_
  refine awOps.cons (awGuard.c1 (c_docs_Follow _ d o h ho) ?_)
  refine awOps.rn ?_
  refine awOps.cons (awGuard.cM (c_names_must _ _ 8) ?_ ?_)
  ·intro hp15
   refine wk ?_
   have e : thereE d o = 8:=by rw [thereE,if_neg (fun h=>h h7),if_pos hp15]
   rw [e] <;> rfl
  intro hm15
  refine awOps.rn ?_
  refine wk ?_
  have e : thereE d o = 0:=by rw [thereE,if_neg (fun h=>h h7),if_neg hm15]
  rw [e] <;> rfl
theorem c_names_limits (gl : List (Nat × AV)) (d : Dc) (o : Pob) (h : d.bulk ≤ 16777216:=by first | omega | exact u8_le _ | assumption | (simp; done) | (simp; omega)) (ho : o.bulk ≤ 16777216:=by first | omega | exact u8_le _ | assumption | (simp; done) | (simp; omega)) : FnP Tryz.prog (gl) 63 [.agg d.cells,.agg o.cells] fun r=>r = if decide (limB d (followO d o)) = true then .ret (.tup [.str (limLo d (followO d o)),.str (limHi d (followO d o))]) else .panic (.iface 105 (.int .i64 25)):=by
 refine FnP.intro Tryz.func63 rfl rfl (by simp [Tryz.ntmps63]) ?_
 simp only [argEnv,Tryz.ntmps63,Tryz.results63]
 have hq:=follow_bulk h ho
 refine AW.rS ?_
 refine AW.trim [2,3] ?_
 refine AW.rSC ?_
 refine awOps.cons (awGuard.c1 (c_docs_Follow _ d o h ho) ?_)
 refine awOps.rn ?_
 generalize followO d o = q at hq
 refine AW.trim [2,3] ?_
 refine AW.rSC ?_
 refine awOps.cons (awGuard.c1 (c_names_at _ d q limsK) ?_)
 refine awOps.rn ?_
 refine AW.trim [3,6,7] ?_
 refine AW.rSC ?_
 refine awOps.cons (awGuard.cM (c_names_must _ _ 25) ?_ ?_)
 ·intro hp9
  refine wk ?_
  refine (if_neg ?_).symm
  rw [decide_eq_true_eq]
  rintro ⟨h1,h2,h3,h4,_,_⟩
  rcases hp9 with ((e | e) | e) | e
  ·exact e h1
  ·rw [h2] at e; cases e
  ·exact e h3
  ·exact e (by omega)
 intro hm9
 refine awOps.rn ?_
 refine AW.trim [6] ?_
 refine AW.rSC ?_
 refine awOps.cons (awGuard.cM (c_names_must _ _ 25) ?_ ?_)
 ·intro hp12
  refine wk ?_
  refine (if_neg ?_).symm
  rw [decide_eq_true_eq]
  rintro ⟨_,_,_,_,h5,h6⟩
  exact hp12.elim (fun e=>e h5) (fun e=>e h6)
 intro hm12
 refine awOps.rn ?_
 refine AW.trim [6] ?_
 refine AW.dS [(0,0),(1,1),(2,1),(3,0),(4,1),(5,0),(6,1),(7,1),(8,0),(9,1),(10,0),(11,0)] ?_
 refine AW.trim [4,5] ?_
 refine AW.rt ?_
 rw [if_pos (decide_eq_true ⟨hm9.1.1.1,hm9.1.1.2,hm9.1.2,by omega,hm12.1,hm12.2⟩)] <;> rfl
theorem c_names_nodes (gl : List (Nat × AV)) (n fan : Nat) (hn : n ≤ 8191) (hf : 2 ≤ fan ∧ fan ≤ 16) : FnP Tryz.prog (gl) 43 [.int .i64 n,.int .i64 fan] fun r=>r = .ret (.int .i64 (nodesN n fan)):=by
 refine FnP.intro Tryz.func43 rfl rfl (by simp [Tryz.ntmps43]) ?_
 simp only [argEnv,Tryz.ntmps43,Tryz.results43]
 refine AW.rS ?_
 refine AW.trim [0,1] ?_
 refine AW.seq ?_
 refine AW.rS ?_
 refine AW.trim [0,1,8] ?_
 refine AW.c2 ?_ ?_
 ·intro h4
  refine AW.rS ?_
  refine AW.trim [4] ?_
  refine AW.rt ?_
  rw [nodesN,nodesR_le (by omega)] <;> rfl
 ·intro h4
  refine AW.skip ?_
  refine AW.rS ?_
  refine AW.trim [0,1,5] ?_
  refine AW.seq ?_
  refine AW.block ?_
  refine AW.lk (S:={ p : Nat × Nat // p.1 ≤ 8191 ∧ p.2 ≤ 16384 ∧ ∃ k,p.1 ≤ k ∧ nodesN n fan = p.2 + nodesR fan k p.1 + 1 ∧ p.2 + 2 * p.1 ≤ 16384 }) [1] (fun s_=>[(0,.int .i64 s_.1.1),(5,.int .i64 s_.1.2)]) (fun s_=>[]) 0 (fun s_=>s_.1.1) ⟨(n,0),hn,Nat.zero_le _,n,Nat.le_refl _,by show nodesR fan n n + 1 = 0 + nodesR fan n n + 1; omega,by omega⟩ ?_ ?_
  ·refine St.le.vw []
  rintro ⟨⟨a,b⟩,ha,hb,k,hk,he,hs⟩
  try dsimp only at ha
  try dsimp only at hb
  try dsimp only at hk
  try dsimp only at he
  try dsimp only at hs
  refine AW.seq ?_
  refine AW.rS ?_
  refine AW.trim [0,1,5,11] ?_
  refine AW.c2 ?_ ?_
  ·intro h15
   have hup : upN a fan ≤ (a + 1) / 2:=upN_le hf.1
   have hue : ((upN a fan : Nat) : Int) = ((a : Int) + fan - 1) / fan:=upN_int (by omega)
   refine AW.skip ?_
   refine AW.block ?_
   refine AW.rS ?_
   refine AW.trim [0,1,5] ?_
   refine AW.rL ?_
   refine ⟨⟨(upN a fan,b + upN a fan),nodes_step hf.1 (by omega) ha hb hk he hs⟩,?_,?_⟩
   ·refine St.le.vw []
   ·simp only []; omega
  ·intro h15
   refine AW.exit ?_
   refine AW.rS ?_
   refine AW.trim [4] ?_
   refine AW.rt ?_
   rw [he,nodesR_le (by omega)] <;> rfl
end Go.Proofs

namespace Go.Proofs
open Go Aw
set_option linter.unusedSimpArgs false
set_option linter.unusedVariables false
set_option maxRecDepth 100000
set_option maxHeartbeats 4000000
attribute [local go_sem] En.cells
theorem d_face_ret (gl : List (Nat × AV)) (e0 : Int) : FnD Tryz.prog gl 26 [.ptr 0 0] [(0,.cells [.int .i64 e0])] 1 .ret (fun u hp nx=>u = .ret ∧ hp = [(0,.cells [.int .i64 e0])] ∧ nx = 1):=by
 refine FnD.intro Tryz.func26 rfl rfl (by simp [Tryz.ntmps26]) ?_
 simp only [argEnv,Tryz.ntmps26,Tryz.results26]
 refine AWD.seq (AWD.regRecover rfl rfl rfl rfl (by simp only [go_sem,seval]) ?_)
 refine awOps.rn ?_
 refine AWD.of ?_
 refine AW.block ?_
 refine AW.rS ?_
 refine AW.c2 ?_ ?_
 ·intro h4
  refine AW.rL ?_
  refine wk ?_
  trivial
 ·intro h4
  simp at h4
theorem d_face_pan (gl : List (Nat × AV)) (e : Int) : FnD Tryz.prog gl 26 [.ptr 0 0] [(0,.cells [.int .i64 0])] 1 (.pan (.iface 105 (.int .i64 e))) (fun u hp nx=>u = .ret ∧ hp = [(0,.cells [.int .i64 e])] ∧ nx = 1):=by
 refine FnD.intro Tryz.func26 rfl rfl (by simp [Tryz.ntmps26]) ?_
 simp only [argEnv,Tryz.ntmps26,Tryz.results26]
 refine AWD.seq (AWD.regRecover rfl rfl rfl rfl (by simp only [go_sem,seval]) ?_)
 refine awOps.rn ?_
 refine AWD.of ?_
 refine AW.block ?_
 refine AW.rS ?_
 refine AW.c2 ?_ ?_
 ·intro h4
  simp at h4
 ·intro h4
  refine AW.rS ?_
  refine AW.c2 ?_ ?_
  ·intro h9
   refine AW.rS ?_
   refine AW.rL ?_
   refine wk ?_
   trivial
  ·intro h9
   simp at h9
end Go.Proofs

namespace Aw
open Go
theorem entsE_step (l : List En) (k : Nat) : entsE l (k + 1) = if entsE l k ≠ 0 then entsE l k else entE l k:=rfl
theorem ents_stop {l : List En} {i : Nat} (h0 : entsE l i = 0) (h : entE l i ≠ 0) : ∀ k,i < k → entsE l k = entE l i
 | 0,hk=>absurd hk (Nat.not_lt_zero i)
 | k + 1,hk=>by
  rw [entsE_step]
  by_cases e : k = i
  ·subst e; rw [if_neg (by rw [h0]; simp)]
  ·have:=ents_stop h0 h k (by omega)
   rw [this,if_pos h]
theorem may_stop {l : List En} {fan : Int} {i : Nat} {e : Int} (hf : 2 ≤ fan ∧ fan ≤ 16) (hl : l.length ≤ 8191) (hi : i < l.length) (h0 : entsE l i = 0) (h : entE l i = e) (he : e ≠ 0) : mayE l fan = e:=by
 rw [mayE,if_neg (by omega),if_neg (by omega),ents_stop h0 (by rw [h]; exact he) _ hi,h]
theorem ent_long {l : List En} {i : Nat} (h : 32767 < (l.getD i En.zero).key.length) : entE l i = 5:=by rw [entE,if_pos h]
theorem ent_chk {l : List En} {i : Nat} (h : ¬ 32767 < (l.getD i En.zero).key.length) (hc : ¬ chk (l.getD i En.zero).val 1 = 0) : entE l i = chk (l.getD i En.zero).val 1:=by rw [entE,if_neg h,if_pos hc]
theorem ent_kind {l : List En} {i : Nat} (h : ¬ 32767 < (l.getD i En.zero).key.length) (hc : chk (l.getD i En.zero).val 1 = 0) (hk : (l.getD i En.zero).val.kind = 9) : entE l i = 10:=by rw [entE,if_neg h,if_neg (fun e=>e hc),if_pos hk]
theorem ent_less {l : List En} {i : Nat} (h : ¬ 32767 < (l.getD i En.zero).key.length) (hc : chk (l.getD i En.zero).val 1 = 0) (hk : ¬ (l.getD i En.zero).val.kind = 9) (hi : 0 < i) (hb : Op.bytesLess (l.getD (i - 1) En.zero).key (l.getD i En.zero).key = false) : entE l i = 1:=by rw [entE,if_neg h,if_neg (fun e=>e hc),if_neg hk,if_pos ⟨hi,hb⟩]
theorem ent_ok {l : List En} {i : Nat} (h : ¬ 32767 < (l.getD i En.zero).key.length) (hc : chk (l.getD i En.zero).val 1 = 0) (hk : ¬ (l.getD i En.zero).val.kind = 9) (hb : 0 < i → Op.bytesLess (l.getD (i - 1) En.zero).key (l.getD i En.zero).key = true) : entE l i = 0:=by
 rw [entE,if_neg h,if_neg (fun e=>e hc),if_neg hk,if_neg]
 rintro ⟨h1,h2⟩
 rw [hb h1] at h2
 cases h2
theorem ents_next {l : List En} {i : Nat} (h0 : entsE l i = 0) (h : entE l i = 0) : entsE l (i + 1) = 0:=by rw [entsE_step,if_neg (by rw [h0]; simp),h]
theorem entsAV_at0 (l : List En) (j : { k : Nat // k < l.length ∧ k = 0 }) (x : List AV) : (entsAV l).getD j.1 x = [.str (l.getD j.1 En.zero).key,.int .i64 (l.getD j.1 En.zero).val.kind,.int .i64 (l.getD j.1 En.zero).val.num,.int .i64 (l.getD j.1 En.zero).val.gen,.str (l.getD j.1 En.zero).val.str,.sl (strsAV (l.getD j.1 En.zero).val.keys),.sl (objsAV (l.getD j.1 En.zero).val.kids)]:=entsAV_getD j.2.1
theorem zero_ix {n : Nat} (j : { k : Nat // k < n ∧ k = 0 }) : decide ((j.1 : Int) = 0) = true:=by simp [j.2.2]
theorem pairsP_take {l : List En} {i : Nat} (h : i < l.length) : pairsP (l.take (i + 1)) = pairsP (l.take i) ++ [strO (l.getD i En.zero).key,(l.getD i En.zero).val]:=by
 rw [List.take_succ_eq_append_getElem h,pairsP,List.flatMap_append]
 simp [pairsP,List.getD,h]
theorem pairsP_len (l : List En) : (pairsP l).length = 2 * l.length:=by
 induction l with
 | nil=>rfl
 | cons x l ih=>simp only [pairsP,List.flatMap_cons,List.length_append,List.length_cons,List.length_nil] at ih ⊢; omega
theorem refsP_take {l : List Gr} {i : Nat} (h : i < l.length) : refsP (l.take (i + 1)) = refsP (l.take i) ++ [refO (l.getD i Gr.zero).num 0]:=by
 rw [List.take_succ_eq_append_getElem h,refsP,List.map_append]
 simp [refsP,List.getD,h]
theorem refsP_len (l : List Gr) : (refsP l).length = l.length:=by simp [refsP]
theorem entsAV_at0p (l : List En) (j : { k : Nat // k < l.length ∧ k = 0 }) (x : List AV) : (entsAV l).getD (j.1 - 1) x = [.str (l.getD (j.1 - 1) En.zero).key,.int .i64 (l.getD (j.1 - 1) En.zero).val.kind,.int .i64 (l.getD (j.1 - 1) En.zero).val.num,.int .i64 (l.getD (j.1 - 1) En.zero).val.gen,.str (l.getD (j.1 - 1) En.zero).val.str,.sl (strsAV (l.getD (j.1 - 1) En.zero).val.keys),.sl (objsAV (l.getD (j.1 - 1) En.zero).val.kids)]:=entsAV_getD (by have:=j.2; omega)
theorem may_ok {l : List En} {fan : Int} {i : Nat} (hf : 2 ≤ fan ∧ fan ≤ 16) (hl : l.length ≤ 8191) (hi : i = l.length) (h0 : entsE l i = 0) : mayE l fan = 0:=by
 rw [mayE,if_neg (by omega),if_neg (by omega),← hi,h0]
def nodePs (low : Bool) (l : List Pob) (lo hi : List UInt8) (lim : Bool) : List Pob :=
 if lim = true then [nameO (if low = true then namesK else kidsK),arrO l,nameO limsK,limO lo hi] else [nameO (if low = true then namesK else kidsK),arrO l]
theorem node_arg (low : Bool) (l : List Pob) (lo hi : List UInt8) (lim : Bool) : dictArg (nodePs low l lo hi lim) = true:=by
 simp only [dictArg,Bool.and_eq_true,decide_eq_true_eq]
 cases lim
 ·refine ⟨by simp [nodePs],fun i hi h2=>?_⟩
  have : i = 0:=by simp [nodePs] at hi; omega
  subst this; simp [nodePs,nameO,Pob.kind]
 ·refine ⟨by simp [nodePs],fun i hi h2=>?_⟩
  have : i = 0 ∨ i = 2:=by simp [nodePs] at hi; omega
  rcases this with rfl | rfl <;> simp [nodePs,nameO,Pob.kind]
theorem arr_kind (l : List Pob) : (arrO l).kind ≠ 0:=by simp [arrO,Pob.kind]
theorem kplace_one (a b : List UInt8) : kplace [a] b = if Op.bytesLess a b = true then 1 else 0:=by
 simp only [kplace,List.findIdx_cons,List.findIdx_nil]
 cases Op.bytesLess a b <;> rfl
theorem withK_one (a b : List UInt8) (x v : Pob) (h : a ≠ b) : (Pob.mk 7 0 0 [] [a] [x]).withK b v = if Op.bytesLess a b = true then .mk 7 0 0 [] [a,b] [x,v] else .mk 7 0 0 [] [b,a] [v,x]:=by
 have hk:=kplace_one a b
 have ht : kthere [a] b = false:=by
  rw [kthere_eq rfl,hk]
  cases hb : Op.bytesLess a b with
  | true=>simp
  | false=>simp [h]
 rw [withK_new (by exact ht)]
 simp only [Pob.kind,Pob.num,Pob.gen,Pob.str,Pob.keys,Pob.kids,hk]
 cases hb : Op.bytesLess a b <;> simp [insAt]
theorem withK_none (b : List UInt8) (v : Pob) : dict0.withK b v = .mk 7 0 0 [] [b] [v]:=by
 have ht : kthere [] b = false:=by rw [kthere_eq rfl]; simp
 rw [withK_new (by exact ht)]
 simp [dict0,Pob.kind,Pob.num,Pob.gen,Pob.str,Pob.keys,Pob.kids,insAt,kplace]
theorem node_dict (low : Bool) (l : List Pob) (lo hi : List UInt8) (lim : Bool) : dictL (nodePs low l lo hi lim) [] dict0 = some (nodeO low l lo hi lim):=by
 have h1:=arr_kind l
 have h2:=arr_kind [strO lo,strO hi]
 cases lim
 ·simp only [nodePs,nodeO,Bool.false_eq_true,if_false,if_true,dictL,List.not_mem_nil,ne_eq,h1,not_false_eq_true,withK_none]
  rfl
 ·simp only [nodePs,nodeO,Bool.true_eq_false,if_false,if_true,dictL,List.not_mem_nil,ne_eq,h1,h2,limO,not_false_eq_true,withK_none]
  cases low
  ·have e : ¬ (nameO limsK).str ∈ setAdd [] (nameO kidsK).str:=by decide
   simp only [Bool.false_eq_true,if_false]
   rw [if_neg e,withK_one _ _ _ _ (by decide),if_pos (by decide)]
   rfl
  ·have e : ¬ (nameO limsK).str ∈ setAdd [] (nameO namesK).str:=by decide
   simp only [if_true]
   rw [if_neg e,withK_one _ _ _ _ (by decide),if_neg (by decide)]
   rfl
theorem node_E (low : Bool) (l : List Pob) (lo hi : List UInt8) (lim : Bool) : dictE (nodePs low l lo hi lim) = chk (nodeO low l lo hi lim) 1:=(dict_some (node_arg ..) (node_dict ..)).1
theorem node_O (low : Bool) (l : List Pob) (lo hi : List UInt8) (lim : Bool) : dictO (nodePs low l lo hi lim) = if chk (nodeO low l lo hi lim) 1 = 0 then nodeO low l lo hi lim else Pob.null:=(dict_some (node_arg ..) (node_dict ..)).2
theorem add_chk {d : Dc} {o : Pob} (h : freeE d = 0) (hc : ¬ chk o 1 = 0) : addE d o = chk o 1:=by
 have hd : docE d = 0:=by
  rw [freeE] at h
  split at h
  ·exact h
  ·rename_i h'; simpa using h'
 have hl : lastN d.items ≤ 8191:=by
  rw [freeE,if_neg (fun e=>e hd)] at h
  split at h
  ·cases h
  ·omega
 have hi : itemsE d.items = 0:=by
  rw [docE] at hd
  split at hd
  ·exact hd
  ·rename_i h'; simpa using h'
 have hp:=last_pos hi
 have hn : freeN d = lastN d.items:=by rw [freeN,if_neg (fun e=>e h)]
 have ha : aloneE ⟨freeN d,0,o⟩ = chk o 1:=by
  rw [aloneE,if_neg (by rw [nums_yes (by show ((1 ≤ freeN d ∧ freeN d ≤ 8191) ∧ 0 ≤ (0 : Int)) ∧ (0 : Int) ≤ 65535; omega)]; simp),content_bad hc]
 have hput:=put_alone (i:=⟨freeN d,0,o⟩) hd (by rw [ha]; exact hc)
 rw [(add_put h (by rw [hput.1,ha]; exact hc)).1,hput.1,ha]
theorem limO_bulk (lo hi : List UInt8) : (limO lo hi).bulk = 5:=by
 rw [limO,Pob.bulk_eq]
 simp [arrO,strO,Pob.keys,Pob.kids,bulks,Pob.bulk]
theorem node_bulk (low : Bool) (l : List Pob) (lo hi : List UInt8) (lim : Bool) : (nodeO low l lo hi lim).bulk ≤ (arrO l).bulk + 10:=by
 have h:=limO_bulk lo hi
 cases lim <;> cases low <;> rw [nodeO,Pob.bulk_eq] <;> simp [Pob.keys,Pob.kids,bulks] <;> omega
theorem nodePs_bulk (low : Bool) (l : List Pob) (lo hi : List UInt8) (lim : Bool) : (nodePs low l lo hi lim).length + bulks (nodePs low l lo hi lim) ≤ (arrO l).bulk + 11:=by
 have h:=limO_bulk lo hi
 have h1 : ∀ k,(nameO k).bulk = 1:=fun k=>by rw [Pob.bulk_eq]; simp [nameO,Pob.keys,Pob.kids,bulks]
 cases lim <;> simp [nodePs,bulks,h1] <;> omega
def okX (l : List En) (x : En) : Prop:=lessE l x = true ∧ l.length < 8191
def errX (l : List En) (x : En) : Int:=if lessE l x = false then 25 else 6
theorem addT_ok {l : List En} {x : En} {k : Nat} (h : okX l x) : addT ⟨0,k,l⟩ x = ⟨0,k,l ++ [x]⟩:=by
 simp only [addT]
 rw [if_neg (by simp),if_neg (by rw [h.1]; simp),if_neg (by have:=h.2; omega)]
theorem addT_bad {l : List En} {x : En} {k : Nat} (h : ¬ okX l x) : (addT ⟨0,k,l⟩ x).err = errX l x ∧ errX l x ≠ 0:=by
 simp only [addT,errX]
 rw [if_neg (by simp)]
 cases hb : lessE l x with
 | false=>simp
 | true =>
  have : 8191 ≤ l.length:=Classical.byContradiction fun hc=>h ⟨hb,by omega⟩
  simp [this]
theorem foldT_stop : ∀ (xs : List En) (s : TS),s.err ≠ 0 → xs.foldl addT s = s
 | [],_,_=>rfl
 | x :: xs,s,h=>by
  have : addT s x = s:=by rw [addT,if_pos h]
  rw [List.foldl_cons,this,foldT_stop xs s h]
def foldS (xs : List En) (k : Nat) (l : List En) (i : Nat) : TS:=(xs.take i).foldl addT ⟨0,k,l⟩
theorem foldS_step {xs : List En} {k : Nat} {l : List En} {i : Nat} (h : i < xs.length) : foldS xs k l (i + 1) = addT (foldS xs k l i) (xs.getD i En.zero):=by
 rw [foldS,List.take_succ_eq_append_getElem h,List.foldl_append]
 simp [foldS,List.getD,h]
theorem foldS_nodes (xs : List En) (k : Nat) (l : List En) (i : Nat) : (foldS xs k l i).nodes = k:=by
 have : ∀ (xs : List En) (s : TS),(xs.foldl addT s).nodes = s.nodes:=by
  intro xs
  induction xs with
  | nil=>intro s; rfl
  | cons x xs ih =>
   intro s
   rw [List.foldl_cons,ih,addT]
   split
   ·rfl
   ·split
    ·rfl
    ·split <;> rfl
 exact this _ _
theorem foldS_all {xs : List En} {k : Nat} {l : List En} {i : Nat} (h : xs.length ≤ i) : foldS xs k l i = xs.foldl addT ⟨0,k,l⟩:=by rw [foldS,List.take_of_length_le h]
theorem foldS_err {xs : List En} {k : Nat} {l : List En} {i : Nat} (h : (foldS xs k l i).err ≠ 0) : xs.foldl addT ⟨0,k,l⟩ = foldS xs k l i:=by
 have e : xs = xs.take i ++ xs.drop i:=(List.take_append_drop i xs).symm
 conv=>lhs; rw [e,List.foldl_append]
 exact foldT_stop _ _ h
theorem foldS_mk {xs : List En} {k : Nat} {l : List En} {i : Nat} (h : (foldS xs k l i).err = 0) : foldS xs k l i = ⟨0,k,(foldS xs k l i).l⟩:=by
 have:=foldS_nodes xs k l i
 generalize foldS xs k l i = s at *
 cases s
 simp_all
theorem addT_len (s : TS) (x : En) (h : s.l.length ≤ 8191) : (addT s x).l.length ≤ 8191:=by
 rw [addT]
 split
 ·exact h
 ·split
  ·exact h
  ·split
   ·exact h
   ·simp only [List.length_append,List.length_cons,List.length_nil]; omega
theorem addTs_len : ∀ (xs : List En) (s : TS),s.l.length ≤ 8191 → (xs.foldl addT s).l.length ≤ 8191
 | [],_,h=>h
 | x :: xs,s,h=>by rw [List.foldl_cons]; exact addTs_len xs _ (addT_len s x h)
theorem foldS_len (xs : List En) (k : Nat) (l : List En) (i : Nat) (h : l.length ≤ 8191) : (foldS xs k l i).l.length ≤ 8191:=addTs_len _ _ h
def wCells (d : Dc) (nodes n : Nat) (l : List En) : List AV:=[.sl (itemsAV d.items),.int .i64 d.trailer.kind,.int .i64 d.trailer.num,.int .i64 d.trailer.gen,.str d.trailer.str,.sl (strsAV d.trailer.keys),.sl (objsAV d.trailer.kids),.int .i64 nodes,.row n 0 l.length]
def jHp (d : Dc) (nodes : Nat) (l : List En) (ps ks : List Pob) (low : Bool) (lp : ABlk) : List (Nat × ABlk):=[(0,.cells (wCells d nodes 4 l)),(1,.cells [.ptr 0 0]),(2,.cells [.sl (objsAV ps),.sl (objsAV ks),.bool low]),(4,.row 7 (entsAV l) true),(3,lp)]
def kstep (d : Dc) (k : Nat) (s : TS) (o : Pob) : TS:=if s.err ≠ 0 then s else thru d k o s
theorem thru_succ {d : Dc} {k nodes : Nat} {o : Pob} {l : List En} {e : Int} (hn : ¬ 4096 ≤ nodes) (h : lowB d (followO d o) ∨ highB d (followO d o)) :
  thru d (k + 1) o ⟨e,nodes,l⟩ = (nkids d (followO d o)).foldl (kstep d k) ((pairsOf (npairs d (followO d o))).foldl addT ⟨0,nodes + 1,l⟩):=by
 rw [thru,if_neg hn]
 by_cases hl : lowB d (followO d o)
 ·rw [if_pos hl,nkids,npairs,if_pos hl,if_pos hl]
  rfl
 ·have hh : highB d (followO d o):=h.resolve_left hl
  rw [if_neg hl,if_pos hh,nkids,npairs,if_neg hl,if_neg hl]
  rfl
theorem thru_many {d : Dc} {k nodes : Nat} {o : Pob} {l : List En} {e : Int} (hn : 4096 ≤ nodes) : thru d (k + 1) o ⟨e,nodes,l⟩ = ⟨6,nodes,l⟩:=by rw [thru,if_pos hn]
theorem thru_name {d : Dc} {k nodes : Nat} {o : Pob} {l : List En} {e : Int} (hn : ¬ 4096 ≤ nodes) (h : ¬ (lowB d (followO d o) ∨ highB d (followO d o))) :
  thru d (k + 1) o ⟨e,nodes,l⟩ = ⟨25,nodes + 1,l⟩:=by
 rw [thru,if_neg hn,if_neg (fun h'=>h (.inl h')),if_neg (fun h'=>h (.inr h'))]
theorem kfold_stop (d : Dc) (k : Nat) : ∀ (xs : List Pob) (s : TS),s.err ≠ 0 → xs.foldl (kstep d k) s = s
 | [],_,_=>rfl
 | x :: xs,s,h=>by
  have : kstep d k s x = s:=by rw [kstep,if_pos h]
  rw [List.foldl_cons,this,kfold_stop d k xs s h]
def kS (d : Dc) (k : Nat) (ks : List Pob) (s : TS) (i : Nat) : TS:=(ks.take i).foldl (kstep d k) s
theorem kS_step {d : Dc} {k : Nat} {ks : List Pob} {s : TS} {i : Nat} (h : i < ks.length) : kS d k ks s (i + 1) = kstep d k (kS d k ks s i) (ks.getD i Pob.null):=by
 rw [kS,List.take_succ_eq_append_getElem h,List.foldl_append]
 simp [kS,List.getD,h]
theorem kS_all {d : Dc} {k : Nat} {ks : List Pob} {s : TS} {i : Nat} (h : ks.length ≤ i) : ks.foldl (kstep d k) s = kS d k ks s i:=by rw [kS,List.take_of_length_le h]
theorem kS_err {d : Dc} {k : Nat} {ks : List Pob} {s : TS} {i : Nat} (h : (kS d k ks s i).err ≠ 0) : ks.foldl (kstep d k) s = kS d k ks s i:=by
 have e : ks = ks.take i ++ ks.drop i:=(List.take_append_drop i ks).symm
 conv=>lhs; rw [e,List.foldl_append]
 exact kfold_stop d k _ _ h
def fitsT (s : TS) : Prop:=s.nodes ≤ 4096 ∧ s.l.length ≤ 8191
theorem foldT_nodes' (xs : List En) (s : TS) : (xs.foldl addT s).nodes = s.nodes:=by
 induction xs generalizing s with
 | nil=>rfl
 | cons x xs ih =>
  rw [List.foldl_cons,ih,addT]
  split
  ·rfl
  ·split
   ·rfl
   ·split <;> rfl
theorem addTs_fits (xs : List En) (s : TS) (h : fitsT s) : fitsT (xs.foldl addT s):=⟨by rw [foldT_nodes']; exact h.1,addTs_len _ _ h.2⟩
theorem kfold_fits {d : Dc} {k : Nat} (hk : ∀ o s,fitsT s → fitsT (thru d k o s)) : ∀ (xs : List Pob) (s : TS),fitsT s → fitsT (xs.foldl (kstep d k) s)
 | [],_,h=>h
 | x :: xs,s,h=>by
  rw [List.foldl_cons]
  refine kfold_fits hk xs _ ?_
  rw [kstep]
  split
  ·exact h
  ·exact hk x s h
theorem thru_fits (d : Dc) : ∀ (k : Nat) (o : Pob) (s : TS),fitsT s → fitsT (thru d k o s)
 | 0,_,_,h=>by rw [thru]; exact h
 | k + 1,o,⟨e,n,l⟩,h=>by
  by_cases hn : 4096 ≤ n
  ·rw [thru_many hn]; exact h
  ·have hs : fitsT ⟨0,n + 1,l⟩:=⟨Nat.lt_of_not_le hn,h.2⟩
   by_cases hb : lowB d (followO d o) ∨ highB d (followO d o)
   ·rw [thru_succ hn hb]
    exact kfold_fits (thru_fits d k) _ _ (addTs_fits _ _ hs)
   ·rw [thru_name hn hb]; exact hs
theorem kS_fits {d : Dc} {k : Nat} {ks : List Pob} {s : TS} (i : Nat) (h : fitsT s) : fitsT (kS d k ks s i):=kfold_fits (thru_fits d k) _ _ h
theorem npairs_even {d : Dc} {q : Pob} : (npairs d q).length % 2 = 0:=by
 rw [npairs]
 split
 ·rename_i h
  exact h.2.2.2.2.1
 ·rfl
theorem kid_bulk {o : Pob} {i : Nat} (h : i < o.kids.length) : (o.kids.getD i Pob.null).bulk ≤ o.bulk:=by
 have h1:=bulks_get h
 have h2:=Pob.bulk_eq o
 omega
theorem atO_bulk {d : Dc} {q : Pob} (hd : d.bulk ≤ 16777216) (hq : q.bulk ≤ 16777216) (key : List UInt8) : (atO d q key).bulk ≤ 16777216:=follow_bulk hd (Nat.le_trans (get_bulk q key) hq)
theorem npairs_le {d : Dc} {q : Pob} (hd : d.bulk ≤ 16777216) (hq : q.bulk ≤ 16777216) : (npairs d q).length ≤ 16777216:=by
 rw [npairs]
 split
 ·exact Nat.le_trans (kids_le _) (atO_bulk hd hq _)
 ·exact Nat.zero_le _
theorem nkids_le {d : Dc} {q : Pob} (hd : d.bulk ≤ 16777216) (hq : q.bulk ≤ 16777216) : (nkids d q).length ≤ 16777216 ∧ ∀ i,i < (nkids d q).length → ((nkids d q).getD i Pob.null).bulk ≤ 16777216:=by
 rw [nkids]
 split
 ·exact ⟨Nat.zero_le _,fun i h=>absurd h (Nat.not_lt_zero _)⟩
 ·exact ⟨Nat.le_trans (kids_le _) (atO_bulk hd hq _),fun i h=>Nat.le_trans (kid_bulk h) (atO_bulk hd hq _)⟩
theorem TS_mk {s : TS} (h : s.err = 0) : s = ⟨0,s.nodes,s.l⟩:=by
 cases s
 cases h
 rfl
theorem entsAV_last (l : List En) (e : En) (x : List AV) : (entsAV (l ++ [e])).getD l.length x = [.str e.key,.int .i64 e.val.kind,.int .i64 e.val.num,.int .i64 e.val.gen,.str e.val.str,.sl (strsAV e.val.keys),.sl (objsAV e.val.kids)]:=by
 simp [entsAV,En.cells]
theorem split_last {l : List En} (h : l.length ≠ 0) : ∃ a e,l = a ++ [e]:=by
 refine ⟨l.dropLast,l.getLast (fun hh=>h (by rw [hh]; rfl)),(List.dropLast_concat_getLast _).symm⟩
theorem lessE_last (l : List En) (e x : En) : lessE (l ++ [e]) x = Op.bytesLess e.key x.key:=by
 simp [lessE]
theorem lessE_nil (x : En) : lessE [] x = true:=by simp [lessE]
end Aw
