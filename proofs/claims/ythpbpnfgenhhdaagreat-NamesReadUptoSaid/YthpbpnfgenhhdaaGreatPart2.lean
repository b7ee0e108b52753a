/- A part of the proof: no condition of its own. -/
import Derived.Test.YthpbpnfgenhhdaaGreatPart1
import Derived.JoinedCond
import Derived.Test.YthpbpnfgenhhdaaGreatRows
import Derived.Shelf.Small.Strs
import Derived.Test.YthpbpnfgenhhdaaGreatProg
namespace Go.Proofs.YthpbpnfgenhhdaaGreat
open Go Aw
theorem own : ownKnob Tryz.prog.godebug = none:=by kernel_rfl
theorem laidOut : laidOutB Tryz.prog = true:=by kernel_rfl
theorem objT : ObjT Tryz.prog 26 3 2 9 23 24 where
 o:=⟨_,Tryz.underlying26,rfl⟩
 i:=Tryz.underlying3
 l:=Tryz.underlying2
 s:=Tryz.underlying9
 ks:=Tryz.underlying23
 os:=Tryz.underlying24
 c:=by and_intros <;> kernel_rfl
theorem docT : DocT Tryz.prog 26 3 2 9 23 24 46 22 28 where
 o:=objT
 it:=⟨_,Tryz.underlying46,rfl⟩
 its:=Tryz.underlying22
 d:=⟨_,Tryz.underlying28,rfl⟩
 c:=by and_intros <;> kernel_rfl
mutual
theorem dle_upto {H : Type} : ∀ d : DataW H,dbulk d ≤ Rows.uptoBulk d
 | .lit (.string _)=>by simp only [dbulk,Rows.uptoBulk]; omega
 | .lit (.bool _)=>by simp only [dbulk,Rows.uptoBulk]; omega
 | .lit (.int _ _)=>by simp only [dbulk,Rows.uptoBulk]; omega
 | .lit (.float _ _)=>by simp only [dbulk,Rows.uptoBulk]; omega
 | .lit .nil=>by simp only [dbulk,Rows.uptoBulk]; omega
 | .nil=>by simp only [dbulk,Rows.uptoBulk]; omega
 | .ptr d=>by have:=dle_upto d; simp only [dbulk,Rows.uptoBulk]; omega
 | .slice es sp=>by have:=dles_upto es; have:=dles_upto sp; simp only [dbulk,Rows.uptoBulk]; omega
 | .agg ps=>by have:=dles_upto ps; simp only [dbulk,Rows.uptoBulk]; omega
 | .iface _ d=>by have:=dle_upto d; simp only [dbulk,Rows.uptoBulk]; omega
 | .map _=>by simp only [dbulk,Rows.uptoBulk]; omega
 | .held _=>by simp only [dbulk,Rows.uptoBulk]; omega
theorem dles_upto {H : Type} : ∀ l : List (DataW H),dbulks l ≤ Rows.uptoBulkAll l
 | []=>by simp only [dbulks,Rows.uptoBulkAll]; omega
 | d :: r=>by have:=dle_upto d; have:=dles_upto r; simp only [dbulks,Rows.uptoBulkAll]; omega
end
end Go.Proofs.YthpbpnfgenhhdaaGreat

namespace Go.Proofs
open Go Aw
set_option linter.unusedSimpArgs false
set_option maxRecDepth 100000
set_option maxHeartbeats 4000000
theorem c_slices_Clone_string_string (gl : List (Nat × AV)) (ks : List (List UInt8)) (hk : ks.length ≤ 16777216:=by first | omega | exact u8_le _ | assumption | (simp; done) | (simp; omega)) : FnP Tryz.prog (gl) 98 [.sl (strsAV ks)] fun r=>r = .ret (.sl (strsAV ks)):=by
 refine FnP.intro Tryz.func98 rfl rfl (by simp [Tryz.ntmps98]) ?_
 simp only [argEnv,Tryz.ntmps98,Tryz.results98]
 refine AW.rS ?_
 refine AW.seq ?_
 refine AW.rSC ?_
 refine awOps.cons (awGuard.nS ?_)
 intro b4 hb4
 simp only [nilBool]
 refine awOps.rn ?_
 refine AW.c2 ?_ ?_
 ·intro h6
  refine AW.rS ?_
  refine AW.pre (St.le.nilrow 2 1 (by (simp only [go_sem,seval]; iterate 2 try (simp (disch:=omega) only [zq]; try simp only [go_sem,seval])))) ?_
  refine wk ?_
  refine AW.rt ?_
  rw [nil_strs hb4 h6,strsAV_nil]
 ·intro h6
  refine AW.skip ?_
  refine AW.rS ?_
  refine AW.rt ?_
  all_goals first | contradiction | rfl | (simp; done) | (simp; omega)
theorem c_value_Clone_1 (gl : List (Nat × AV)) (o : Pob) : FnP Tryz.prog (gl) 80 [.agg o.cells] fun r=>r = .ret (.agg o.cells):=by
 refine FnP.intro Tryz.func80 rfl rfl (by simp [Tryz.ntmps80]) ?_
 simp only [argEnv,Tryz.ntmps80,Tryz.results80]
 refine AW.rS ?_
 refine AW.rS ?_
 refine AW.rt ?_
 all_goals first | contradiction | rfl | (simp; done) | (simp; omega)
theorem changed_step (gl : List (Nat × AV)) (N : Nat) (hN : N ≤ 16777216) (ih : ∀ o' : Pob,o'.bulk < N → FnP Tryz.prog gl 79 [.agg o'.cells,.clos 80 []] fun r=>r = .ret (.agg o'.cells)) (o : Pob) (_ : o.bulk ≤ N) (hk : o.keys.length ≤ N) (hl : o.kids.length ≤ N) (hb : ∀ i,i < o.kids.length → (o.kids.getD i Pob.null).bulk < N) : FnP Tryz.prog (gl) 79 [.agg o.cells,.clos 80 []] fun r=>r = .ret (.agg o.cells):=by
 refine FnP.intro Tryz.func79 rfl rfl (by simp [Tryz.ntmps79]) ?_
 simp only [argEnv,Tryz.ntmps79,Tryz.results79]
 refine AW.rS ?_
 refine AW.rSC ?_
 refine awOps.cons (awGuard.c1 (c_value_Clone_1 _ o) ?_)
 refine awOps.rn ?_
 refine AW.rSC ?_
 refine awOps.cons (awGuard.c1 (c_slices_Clone_string_string _ o.keys) ?_)
 refine awOps.rn ?_
 refine AW.seq ?_
 refine AW.rSC ?_
 refine awOps.cons (awGuard.nS ?_)
 intro b10 hb10
 simp only [nilBool]
 refine awOps.rn ?_
 refine AW.c2 ?_ ?_
 ·intro h12
  refine AW.rS ?_
  refine AW.seq ?_
  refine AW.rS ?_
  refine AW.block ?_
  refine AW.lk (S:={ i : Nat // i ≤ o.kids.length }) [1,2,4,5,23,24] (fun s_=>[(25,.int .i64 s_.1)]) (fun s_=>[(0,.cells [.int .i64 o.kind,.int .i64 o.num,.int .i64 o.gen,.str o.str,.sl (strsAV o.keys),.sl (objsAV o.kids)]),(1,.cells [.int .i64 0,.int .i64 0,.int .i64 0,.str [],.raw (.slice none 0 0),.raw (.slice none 0 0)]),(2,.row 6 (fillO o.kids s_.1) true)]) 3 (fun s_=>o.kids.length - s_.1) ⟨0,Nat.zero_le _⟩ ?_ ?_
  ·refine St.le.vw [0,1,2]
  rintro ⟨i,hi⟩
  try dsimp only at hi
  refine AW.rS ?_
  refine AW.seq ?_
  refine AW.c2 ?_ ?_
  ·intro h20
   refine AW.skip ?_
   refine AW.seq ?_
   refine AW.block ?_
   refine AW.rS ?_
   refine AW.rLC ?_
   refine awOps.cons (awGuard.c1 (ih (o.kids.getD i Pob.null) (hb i (by omega))) ?_)
   refine awOps.rn ?_
   refine AW.rL ?_
   refine ⟨⟨i + 1,by omega⟩,?_,?_⟩
   ·refine St.le.vw [0,1,2]
   ·simp only []; omega
  ·intro h20
   refine AW.exit ?_
   refine AW.rL ?_
   refine AW.rS ?_
   refine AW.rt ?_
   rw [fillO_all hi h20,objsAV_take_len]
 ·intro h12
  refine AW.skip ?_
  refine AW.rS ?_
  refine AW.rt ?_
  all_goals first | contradiction | rfl | (simp; done) | (simp; omega)
theorem changed_clone (gl : List (Nat × AV)) (N : Nat) : N ≤ 16777216 → ∀ o : Pob,o.bulk ≤ N → FnP Tryz.prog gl 79 [.agg o.cells,.clos 80 []] fun r=>r = .ret (.agg o.cells):=by
 induction N using Nat.strongRecOn with
 | ind N IH =>
  intro hN o ho
  have hb:=Pob.bulk_eq o
  exact changed_step gl N hN (fun o' h=>IH o'.bulk h (by omega) o' (Nat.le_refl _)) o ho (by omega) (by omega) (fun i hi=>Nat.lt_of_lt_of_le (Pob.bulk_kid hi) ho)
theorem c_value_changed (gl : List (Nat × AV)) (o : Pob) (h : o.bulk ≤ 16777216:=by assumption) : FnP Tryz.prog gl 79 [.agg o.cells,.clos 80 []] fun r=>r = .ret (.agg o.cells):=changed_clone gl 16777216 (Nat.le_refl _) o h
theorem c_value_Clone (gl : List (Nat × AV)) (o : Pob) (h : o.bulk ≤ 16777216:=by first | omega | exact u8_le _ | assumption | (simp; done) | (simp; omega)) : FnP Tryz.prog (gl) 54 [.agg o.cells] fun r=>r = .ret (.agg o.cells):=by
 refine FnP.intro Tryz.func54 rfl rfl (by simp [Tryz.ntmps54]) ?_
 simp only [argEnv,Tryz.ntmps54,Tryz.results54]
 refine AW.rS ?_
 refine AW.rSC ?_
 refine awOps.cons (awGuard.c1 (c_value_changed _ o) ?_)
 refine awOps.rn ?_
 refine AW.rt ?_
 all_goals first | contradiction | rfl | (simp; done) | (simp; omega)
theorem c_value_keyed (gl : List (Nat × AV)) (o : Pob) : FnP Tryz.prog (gl) 102 [.agg o.cells] fun r=>r = .ret (.bool (keyedB o.kind)):=by
 refine FnP.intro Tryz.func102 rfl rfl (by simp [Tryz.ntmps102]) ?_
 simp only [argEnv,Tryz.ntmps102,Tryz.results102]
 refine AW.rS ?_
 refine AW.rS ?_
 refine AW.rt ?_
 all_goals first | contradiction | rfl | (simp; done) | (simp; omega)
theorem c_slices_Index_string_string (gl : List (Nat × AV)) (ks : List (List UInt8)) (k : List UInt8) (hk : ks.length ≤ 16777216:=by first | omega | exact u8_le _ | assumption | (simp; done) | (simp; omega)) : FnP Tryz.prog (gl) 103 [.sl (strsAV ks),.str k] fun r=>r = .ret (.int .i64 (kidxI ks k)):=by
 refine FnP.intro Tryz.func103 rfl rfl (by simp [Tryz.ntmps103]) ?_
 simp only [argEnv,Tryz.ntmps103,Tryz.results103]
 refine AW.rS ?_
 refine AW.seq ?_
 refine AW.rS ?_
 refine AW.block ?_
 refine AW.lk (S:={ i : Nat // i ≤ ks.length ∧ ∀ j,j < i → ks.getD j [] ≠ k }) [0,1,7] (fun s_=>[(8,.int .i64 s_.1)]) (fun s_=>[]) 0 (fun s_=>ks.length - s_.1) ⟨0,Nat.zero_le _,fun j h=>absurd h (by omega)⟩ ?_ ?_
 ·refine St.le.vw []
 rintro ⟨i,hi,hs⟩
 try dsimp only at hi
 try dsimp only at hs
 refine AW.rS ?_
 refine AW.seq ?_
 refine AW.c2 ?_ ?_
 ·intro h8
  refine AW.skip ?_
  refine AW.seq ?_
  refine AW.block ?_
  refine AW.rS ?_
  refine AW.rS ?_
  refine AW.c2 ?_ ?_
  ·intro h14
   refine AW.rS ?_
   refine AW.rt ?_
   rw [kidx_hit h8 hs h14]
  ·intro h14
   refine AW.skip ?_
   refine AW.rL ?_
   refine ⟨⟨i + 1,by omega,fun j hj=>by rcases Nat.lt_succ_iff_lt_or_eq.1 hj with h | rfl; exact hs j h; exact fun e=>h14 e.symm⟩,?_,?_⟩
   ·refine St.le.vw []
   ·simp only []; omega
 ·intro h8
  refine AW.exit ?_
  refine AW.rS ?_
  refine AW.rt ?_
  rw [kidx_miss (fun j hj=>hs j (by omega))]
theorem c_value_Get (gl : List (Nat × AV)) (o : Pob) (key : List UInt8) (h : o.bulk ≤ 16777216:=by first | omega | exact u8_le _ | assumption | (simp; done) | (simp; omega)) : FnP Tryz.prog (gl) 87 [.agg o.cells,.str key] fun r=>r = .ret (.tup [.agg (getO o key).cells,.bool (getB o key)]):=by
 refine FnP.intro Tryz.func87 rfl rfl (by simp [Tryz.ntmps87]) ?_
 simp only [argEnv,Tryz.ntmps87,Tryz.results87]
 have hb:=Pob.bulk_eq o
 refine AW.rS ?_
 refine AW.seq ?_
 refine AW.rSC ?_
 refine awOps.cons (awGuard.c1 (c_value_keyed _ o) ?_)
 refine awOps.rn ?_
 refine AW.c2 ?_ ?_
 ·intro h6
  refine AW.rS ?_
  refine AW.rt ?_
  rw [(get_unkeyed h6).1,(get_unkeyed h6).2] <;> rfl
 ·intro h6
  refine AW.skip ?_
  refine AW.rSC ?_
  refine awOps.cons (awGuard.c1 (c_slices_Index_string_string _ o.keys key (by omega)) ?_)
  refine awOps.rn ?_
  refine AW.seq ?_
  refine AW.rS ?_
  refine AW.c2 ?_ ?_
  ·intro h16
   refine AW.rS ?_
   refine AW.rt ?_
   rw [(get_miss h16).1,(get_miss h16).2] <;> rfl
  ·intro h16
   refine AW.skip ?_
   refine AW.rSC ?_
   refine awOps.cons (awGuard.c1 (c_value_Clone _ (o.kids.getD (kidxI o.keys key).toNat Pob.null) (by have:=Pob.bulk_kid (o:=o) (i:=(kidxI o.keys key).toNat) (by omega); omega)) ?_)
   refine awOps.rn ?_
   refine AW.rt ?_
   rw [(get_hit h6 h16).1,(get_hit h6 h16).2,← Pob.cells_eq]
end Go.Proofs

namespace Go.Proofs
open Go Aw
set_option linter.unusedSimpArgs false
set_option linter.unusedVariables false
set_option maxRecDepth 100000
set_option maxHeartbeats 4000000
theorem c_docs_numbers (gl : List (Nat × AV)) (i : Itm) : FnP Tryz.prog (gl) 88 [.agg i.cells] fun r=>r = .ret (.bool (decide (1 ≤ i.num) && decide (i.num ≤ 8191) && decide (0 ≤ i.gen) && decide (i.gen ≤ 65535))):=by
 refine FnP.intro Tryz.func88 rfl rfl (by simp [Tryz.ntmps88]) ?_
 simp only [argEnv,Tryz.ntmps88,Tryz.results88]
 refine AW.rS ?_
 refine AW.rS ?_
 refine AW.rt ?_
 simp only [Bool.cond_false_right]
theorem c_docs_copied (gl : List (Nat × AV)) (i : Itm) (h : i.obj.bulk ≤ 16777216:=by first | omega | exact u8_le _ | assumption | (simp; done) | (simp; omega)) : FnP Tryz.prog (gl) 135 [.agg i.cells] fun r=>r = .ret (.agg i.cells):=by
 refine FnP.intro Tryz.func135 rfl rfl (by simp [Tryz.ntmps135]) ?_
 simp only [argEnv,Tryz.ntmps135,Tryz.results135]
 refine AW.rS ?_
 refine AW.rSC ?_
 refine awOps.cons (awGuard.c1 (c_value_Clone _ i.obj) ?_)
 refine awOps.rn ?_
 refine AW.rS ?_
 refine AW.rt ?_
 all_goals first | contradiction | rfl | (simp; done) | (simp; omega)
def badAV (e : Int) : AV:=.iface 141 (.agg [.int .i64 e])
attribute [go_sem] badAV
theorem c_value_must (gl : List (Nat × AV)) (b : Bool) (e : Int) : FnP Tryz.prog (gl) 106 [.bool b,.int .i64 e] fun r=>r = if b = true then .ret (.tup []) else .panic (badAV e):=by
 refine FnP.intro Tryz.func106 rfl rfl (by simp [Tryz.ntmps106]) ?_
 simp only [argEnv,Tryz.ntmps106,Tryz.results106]
 refine AW.rS ?_
 refine AW.c2 ?_ ?_
 ·intro h2
  refine AW.rLC ?_
  refine awOps.cons (awGuard.pn ?_)
  refine wk ?_
  rw [if_neg (by simp [h2])]
 ·intro h2
  refine AW.skip ?_
  refine wk ?_
  rw [if_pos h2]
theorem c_value_within_int64 (gl : List (Nat × AV)) (n a b : Int) : FnP Tryz.prog (gl) 126 [.int .i64 n,.int .i64 a,.int .i64 b] fun r=>r = .ret (.bool (decide (a ≤ n) && decide (n ≤ b))):=by
 refine FnP.intro Tryz.func126 rfl rfl (by simp [Tryz.ntmps126]) ?_
 simp only [argEnv,Tryz.ntmps126,Tryz.results126]
 refine AW.rS ?_
 refine AW.rS ?_
 refine AW.rt ?_
 simp only [Bool.cond_false_right]
theorem c_value_within_int (gl : List (Nat × AV)) (n a b : Int) : FnP Tryz.prog (gl) 127 [.int .i64 n,.int .i64 a,.int .i64 b] fun r=>r = .ret (.bool (decide (a ≤ n) && decide (n ≤ b))):=by
 refine FnP.intro Tryz.func127 rfl rfl (by simp [Tryz.ntmps127]) ?_
 simp only [argEnv,Tryz.ntmps127,Tryz.results127]
 refine AW.rS ?_
 refine AW.rS ?_
 refine AW.rt ?_
 simp only [Bool.cond_false_right]
theorem c_value_fits (gl : List (Nat × AV)) (o : Pob) : FnP Tryz.prog (gl) 108 [.agg o.cells] fun r=>r = .ret (.bool (fitsB o)):=by
 refine FnP.intro Tryz.func108 rfl rfl (by simp [Tryz.ntmps108]) ?_
 simp only [argEnv,Tryz.ntmps108,Tryz.results108]
 refine AW.rS ?_
 refine AW.seq ?_
 refine AW.rS ?_
 refine AW.block ?_
 refine AW.rS ?_
 refine AW.c2 ?_ ?_
 ·intro h6
  refine AW.rSC ?_
  refine awOps.cons (awGuard.c1 (c_value_within_int64 _ o.num 0 1) ?_)
  refine awOps.rn ?_
  refine AW.rt ?_
  simp_all [fitsB]
 ·intro h6
  refine AW.rS ?_
  refine AW.c2 ?_ ?_
  ·intro h13
   refine AW.rSC ?_
   refine awOps.cons (awGuard.c1 (c_value_within_int64 _ o.num (-2147483647) 2147483647) ?_)
   refine awOps.rn ?_
   refine AW.rt ?_
   simp_all [fitsB]
  ·intro h13
   refine AW.rS ?_
   refine AW.c2 ?_ ?_
   ·intro h20
    refine AW.rSC ?_
    refine awOps.cons (awGuard.c1 (c_value_within_int64 _ o.num (-1073741824) 1073741824) ?_)
    refine awOps.rn ?_
    refine AW.rt ?_
    simp_all [fitsB]
   ·intro h20
    refine AW.rS ?_
    refine AW.c2 ?_ ?_
    ·intro h27
     refine AW.rSC ?_
     refine awOps.cons (awGuard.c1 (c_value_within_int64 _ o.num 1 8191) ?_)
     refine awOps.rn ?_
     refine awOps.cons (awGuard.cG (fun hg=>c_value_within_int _ o.gen 0 65535) ?_)
     refine awOps.rn ?_
     refine AW.rt ?_
     simp_all [fitsB]
    ·intro h27
     refine AW.skip ?_
     refine AW.rS ?_
     refine AW.rt ?_
     simp_all [fitsB]
theorem c_value_short (gl : List (Nat × AV)) (o : Pob) : FnP Tryz.prog (gl) 109 [.agg o.cells] fun r=>r = .ret (.bool (shortB o)):=by
 refine FnP.intro Tryz.func109 rfl rfl (by simp [Tryz.ntmps109]) ?_
 simp only [argEnv,Tryz.ntmps109,Tryz.results109]
 refine AW.rS ?_
 refine AW.seq ?_
 refine AW.rS ?_
 refine AW.block ?_
 refine AW.rS ?_
 refine AW.c2 ?_ ?_
 ·intro h6
  refine AW.rS ?_
  refine AW.rt ?_
  simp_all [shortB]
 ·intro h6
  refine AW.rS ?_
  refine AW.c2 ?_ ?_
  ·intro h11
   refine AW.rS ?_
   refine AW.rt ?_
   simp_all [shortB]
  ·intro h11
   refine AW.skip ?_
   refine AW.rS ?_
   refine AW.rt ?_
   simp_all [shortB]
theorem c_value_used (gl : List (Nat × AV)) (k : Int) : FnP Tryz.prog (gl) 107 [.int .i64 k] fun r=>r = .ret (.tup [.agg [.bool (uN k),.bool (uG k),.bool (uS k),.bool (uKeys k),.bool (uKids k)],.bool (uOk k)]):=by
 refine FnP.intro Tryz.func107 rfl rfl (by simp [Tryz.ntmps107]) ?_
 simp only [argEnv,Tryz.ntmps107,Tryz.results107]
 refine AW.rS ?_
 refine AW.seq ?_
 refine AW.rS ?_
 refine AW.block ?_
 refine AW.rS ?_
 refine AW.c2 ?_ ?_
 ·intro h6
  refine AW.rS ?_
  refine AW.rt ?_
  first | (exfalso; omega) | (refine used_eq ?_ ?_ ?_ ?_ ?_ ?_ <;> simp only [uN,uG,uS,uKeys,uKids,uOk] <;> first | (subst_vars; rfl) | grind)
 ·intro h6
  refine AW.seq ?_
  refine AW.rS ?_
  refine AW.c2 ?_ ?_
  ·intro h12
   refine AW.skip ?_
   refine AW.c2 ?_ ?_
   ·intro h14
    refine AW.rS ?_
    refine AW.rt ?_
    first | (exfalso; omega) | (refine used_eq ?_ ?_ ?_ ?_ ?_ ?_ <;> simp only [uN,uG,uS,uKeys,uKids,uOk] <;> first | (subst_vars; rfl) | grind)
   ·intro h14
    refine AW.seq ?_
    refine AW.rS ?_
    refine AW.c2 ?_ ?_
    ·intro h20
     refine AW.skip ?_
     refine AW.c2 ?_ ?_
     ·intro h22
      refine AW.rS ?_
      refine AW.rt ?_
      first | (exfalso; omega) | (refine used_eq ?_ ?_ ?_ ?_ ?_ ?_ <;> simp only [uN,uG,uS,uKeys,uKids,uOk] <;> first | (subst_vars; rfl) | grind)
     ·intro h22
      refine AW.rS ?_
      refine AW.c2 ?_ ?_
      ·intro h27
       refine AW.rS ?_
       refine AW.rt ?_
       first | (exfalso; omega) | (refine used_eq ?_ ?_ ?_ ?_ ?_ ?_ <;> simp only [uN,uG,uS,uKeys,uKids,uOk] <;> first | (subst_vars; rfl) | grind)
      ·intro h27
       refine AW.rS ?_
       refine AW.c2 ?_ ?_
       ·intro h32
        refine AW.rS ?_
        refine AW.rt ?_
        first | (exfalso; omega) | (refine used_eq ?_ ?_ ?_ ?_ ?_ ?_ <;> simp only [uN,uG,uS,uKeys,uKids,uOk] <;> first | (subst_vars; rfl) | grind)
       ·intro h32
        refine AW.rS ?_
        refine AW.c2 ?_ ?_
        ·intro h37
         refine AW.rS ?_
         refine AW.rt ?_
         first | (exfalso; omega) | (refine used_eq ?_ ?_ ?_ ?_ ?_ ?_ <;> simp only [uN,uG,uS,uKeys,uKids,uOk] <;> first | (subst_vars; rfl) | grind)
        ·intro h37
         refine AW.rS ?_
         refine AW.c2 ?_ ?_
         ·intro h42
          refine AW.rS ?_
          refine AW.rt ?_
          first | (exfalso; omega) | (refine used_eq ?_ ?_ ?_ ?_ ?_ ?_ <;> simp only [uN,uG,uS,uKeys,uKids,uOk] <;> first | (subst_vars; rfl) | grind)
         ·intro h42
          refine AW.skip ?_
          refine AW.rS ?_
          refine AW.rt ?_
          first | (exfalso; omega) | (refine used_eq ?_ ?_ ?_ ?_ ?_ ?_ <;> simp only [uN,uG,uS,uKeys,uKids,uOk] <;> first | (subst_vars; rfl) | grind)
    ·intro h20
     refine AW.rL ?_
     refine AW.c2 ?_ ?_
     ·intro h51
      refine AW.rS ?_
      refine AW.rt ?_
      first | (exfalso; omega) | (refine used_eq ?_ ?_ ?_ ?_ ?_ ?_ <;> simp only [uN,uG,uS,uKeys,uKids,uOk] <;> first | (subst_vars; rfl) | grind)
     ·intro h51
      refine AW.rS ?_
      refine AW.c2 ?_ ?_
      ·intro h56
       refine AW.rS ?_
       refine AW.rt ?_
       first | (exfalso; omega) | (refine used_eq ?_ ?_ ?_ ?_ ?_ ?_ <;> simp only [uN,uG,uS,uKeys,uKids,uOk] <;> first | (subst_vars; rfl) | grind)
      ·intro h56
       refine AW.rS ?_
       refine AW.c2 ?_ ?_
       ·intro h61
        refine AW.rS ?_
        refine AW.rt ?_
        first | (exfalso; omega) | (refine used_eq ?_ ?_ ?_ ?_ ?_ ?_ <;> simp only [uN,uG,uS,uKeys,uKids,uOk] <;> first | (subst_vars; rfl) | grind)
       ·intro h61
        refine AW.rS ?_
        refine AW.c2 ?_ ?_
        ·intro h66
         refine AW.rS ?_
         refine AW.rt ?_
         first | (exfalso; omega) | (refine used_eq ?_ ?_ ?_ ?_ ?_ ?_ <;> simp only [uN,uG,uS,uKeys,uKids,uOk] <;> first | (subst_vars; rfl) | grind)
        ·intro h66
         refine AW.rS ?_
         refine AW.c2 ?_ ?_
         ·intro h71
          refine AW.rS ?_
          refine AW.rt ?_
          first | (exfalso; omega) | (refine used_eq ?_ ?_ ?_ ?_ ?_ ?_ <;> simp only [uN,uG,uS,uKeys,uKids,uOk] <;> first | (subst_vars; rfl) | grind)
         ·intro h71
          refine AW.skip ?_
          refine AW.rS ?_
          refine AW.rt ?_
          first | (exfalso; omega) | (refine used_eq ?_ ?_ ?_ ?_ ?_ ?_ <;> simp only [uN,uG,uS,uKeys,uKids,uOk] <;> first | (subst_vars; rfl) | grind)
  ·intro h12
   refine AW.rS ?_
   refine AW.c2 ?_ ?_
   ·intro h80
    refine AW.skip ?_
    refine AW.c2 ?_ ?_
    ·intro h82
     refine AW.rS ?_
     refine AW.rt ?_
     first | (exfalso; omega) | (refine used_eq ?_ ?_ ?_ ?_ ?_ ?_ <;> simp only [uN,uG,uS,uKeys,uKids,uOk] <;> first | (subst_vars; rfl) | grind)
    ·intro h82
     refine AW.seq ?_
     refine AW.rS ?_
     refine AW.c2 ?_ ?_
     ·intro h88
      refine AW.skip ?_
      refine AW.c2 ?_ ?_
      ·intro h90
       refine AW.rS ?_
       refine AW.rt ?_
       first | (exfalso; omega) | (refine used_eq ?_ ?_ ?_ ?_ ?_ ?_ <;> simp only [uN,uG,uS,uKeys,uKids,uOk] <;> first | (subst_vars; rfl) | grind)
      ·intro h90
       refine AW.rS ?_
       refine AW.c2 ?_ ?_
       ·intro h95
        refine AW.rS ?_
        refine AW.rt ?_
        first | (exfalso; omega) | (refine used_eq ?_ ?_ ?_ ?_ ?_ ?_ <;> simp only [uN,uG,uS,uKeys,uKids,uOk] <;> first | (subst_vars; rfl) | grind)
       ·intro h95
        refine AW.rS ?_
        refine AW.c2 ?_ ?_
        ·intro h100
         refine AW.rS ?_
         refine AW.rt ?_
         first | (exfalso; omega) | (refine used_eq ?_ ?_ ?_ ?_ ?_ ?_ <;> simp only [uN,uG,uS,uKeys,uKids,uOk] <;> first | (subst_vars; rfl) | grind)
        ·intro h100
         refine AW.rS ?_
         refine AW.c2 ?_ ?_
         ·intro h105
          refine AW.rS ?_
          refine AW.rt ?_
          first | (exfalso; omega) | (refine used_eq ?_ ?_ ?_ ?_ ?_ ?_ <;> simp only [uN,uG,uS,uKeys,uKids,uOk] <;> first | (subst_vars; rfl) | grind)
         ·intro h105
          refine AW.rS ?_
          refine AW.c2 ?_ ?_
          ·intro h110
           refine AW.rS ?_
           refine AW.rt ?_
           first | (exfalso; omega) | (refine used_eq ?_ ?_ ?_ ?_ ?_ ?_ <;> simp only [uN,uG,uS,uKeys,uKids,uOk] <;> first | (subst_vars; rfl) | grind)
          ·intro h110
           refine AW.skip ?_
           refine AW.rS ?_
           refine AW.rt ?_
           first | (exfalso; omega) | (refine used_eq ?_ ?_ ?_ ?_ ?_ ?_ <;> simp only [uN,uG,uS,uKeys,uKids,uOk] <;> first | (subst_vars; rfl) | grind)
     ·intro h88
      refine AW.rL ?_
      refine AW.c2 ?_ ?_
      ·intro h119
       refine AW.rS ?_
       refine AW.rt ?_
       first | (exfalso; omega) | (refine used_eq ?_ ?_ ?_ ?_ ?_ ?_ <;> simp only [uN,uG,uS,uKeys,uKids,uOk] <;> first | (subst_vars; rfl) | grind)
      ·intro h119
       refine AW.rS ?_
       refine AW.c2 ?_ ?_
       ·intro h124
        refine AW.rS ?_
        refine AW.rt ?_
        first | (exfalso; omega) | (refine used_eq ?_ ?_ ?_ ?_ ?_ ?_ <;> simp only [uN,uG,uS,uKeys,uKids,uOk] <;> first | (subst_vars; rfl) | grind)
       ·intro h124
        refine AW.rS ?_
        refine AW.c2 ?_ ?_
        ·intro h129
         refine AW.rS ?_
         refine AW.rt ?_
         first | (exfalso; omega) | (refine used_eq ?_ ?_ ?_ ?_ ?_ ?_ <;> simp only [uN,uG,uS,uKeys,uKids,uOk] <;> first | (subst_vars; rfl) | grind)
        ·intro h129
         refine AW.rS ?_
         refine AW.c2 ?_ ?_
         ·intro h134
          refine AW.rS ?_
          refine AW.rt ?_
          first | (exfalso; omega) | (refine used_eq ?_ ?_ ?_ ?_ ?_ ?_ <;> simp only [uN,uG,uS,uKeys,uKids,uOk] <;> first | (subst_vars; rfl) | grind)
         ·intro h134
          refine AW.rS ?_
          refine AW.c2 ?_ ?_
          ·intro h139
           refine AW.rS ?_
           refine AW.rt ?_
           first | (exfalso; omega) | (refine used_eq ?_ ?_ ?_ ?_ ?_ ?_ <;> simp only [uN,uG,uS,uKeys,uKids,uOk] <;> first | (subst_vars; rfl) | grind)
          ·intro h139
           refine AW.skip ?_
           refine AW.rS ?_
           refine AW.rt ?_
           first | (exfalso; omega) | (refine used_eq ?_ ?_ ?_ ?_ ?_ ?_ <;> simp only [uN,uG,uS,uKeys,uKids,uOk] <;> first | (subst_vars; rfl) | grind)
   ·intro h80
    refine AW.rL ?_
    refine AW.c2 ?_ ?_
    ·intro h148
     refine AW.rS ?_
     refine AW.rt ?_
     first | (exfalso; omega) | (refine used_eq ?_ ?_ ?_ ?_ ?_ ?_ <;> simp only [uN,uG,uS,uKeys,uKids,uOk] <;> first | (subst_vars; rfl) | grind)
    ·intro h148
     refine AW.seq ?_
     refine AW.rS ?_
     refine AW.c2 ?_ ?_
     ·intro h154
      refine AW.skip ?_
      refine AW.c2 ?_ ?_
      ·intro h156
       refine AW.rS ?_
       refine AW.rt ?_
       first | (exfalso; omega) | (refine used_eq ?_ ?_ ?_ ?_ ?_ ?_ <;> simp only [uN,uG,uS,uKeys,uKids,uOk] <;> first | (subst_vars; rfl) | grind)
      ·intro h156
       refine AW.rS ?_
       refine AW.c2 ?_ ?_
       ·intro h161
        refine AW.rS ?_
        refine AW.rt ?_
        first | (exfalso; omega) | (refine used_eq ?_ ?_ ?_ ?_ ?_ ?_ <;> simp only [uN,uG,uS,uKeys,uKids,uOk] <;> first | (subst_vars; rfl) | grind)
       ·intro h161
        refine AW.rS ?_
        refine AW.c2 ?_ ?_
        ·intro h166
         refine AW.rS ?_
         refine AW.rt ?_
         first | (exfalso; omega) | (refine used_eq ?_ ?_ ?_ ?_ ?_ ?_ <;> simp only [uN,uG,uS,uKeys,uKids,uOk] <;> first | (subst_vars; rfl) | grind)
        ·intro h166
         refine AW.rS ?_
         refine AW.c2 ?_ ?_
         ·intro h171
          refine AW.rS ?_
          refine AW.rt ?_
          first | (exfalso; omega) | (refine used_eq ?_ ?_ ?_ ?_ ?_ ?_ <;> simp only [uN,uG,uS,uKeys,uKids,uOk] <;> first | (subst_vars; rfl) | grind)
         ·intro h171
          refine AW.rS ?_
          refine AW.c2 ?_ ?_
          ·intro h176
           refine AW.rS ?_
           refine AW.rt ?_
           first | (exfalso; omega) | (refine used_eq ?_ ?_ ?_ ?_ ?_ ?_ <;> simp only [uN,uG,uS,uKeys,uKids,uOk] <;> first | (subst_vars; rfl) | grind)
          ·intro h176
           refine AW.skip ?_
           refine AW.rS ?_
           refine AW.rt ?_
           first | (exfalso; omega) | (refine used_eq ?_ ?_ ?_ ?_ ?_ ?_ <;> simp only [uN,uG,uS,uKeys,uKids,uOk] <;> first | (subst_vars; rfl) | grind)
     ·intro h154
      refine AW.rL ?_
      refine AW.c2 ?_ ?_
      ·intro h185
       refine AW.rS ?_
       refine AW.rt ?_
       first | (exfalso; omega) | (refine used_eq ?_ ?_ ?_ ?_ ?_ ?_ <;> simp only [uN,uG,uS,uKeys,uKids,uOk] <;> first | (subst_vars; rfl) | grind)
      ·intro h185
       refine AW.rS ?_
       refine AW.c2 ?_ ?_
       ·intro h190
        refine AW.rS ?_
        refine AW.rt ?_
        first | (exfalso; omega) | (refine used_eq ?_ ?_ ?_ ?_ ?_ ?_ <;> simp only [uN,uG,uS,uKeys,uKids,uOk] <;> first | (subst_vars; rfl) | grind)
       ·intro h190
        refine AW.rS ?_
        refine AW.c2 ?_ ?_
        ·intro h195
         refine AW.rS ?_
         refine AW.rt ?_
         first | (exfalso; omega) | (refine used_eq ?_ ?_ ?_ ?_ ?_ ?_ <;> simp only [uN,uG,uS,uKeys,uKids,uOk] <;> first | (subst_vars; rfl) | grind)
        ·intro h195
         refine AW.rS ?_
         refine AW.c2 ?_ ?_
         ·intro h200
          refine AW.rS ?_
          refine AW.rt ?_
          first | (exfalso; omega) | (refine used_eq ?_ ?_ ?_ ?_ ?_ ?_ <;> simp only [uN,uG,uS,uKeys,uKids,uOk] <;> first | (subst_vars; rfl) | grind)
         ·intro h200
          refine AW.rS ?_
          refine AW.c2 ?_ ?_
          ·intro h205
           refine AW.rS ?_
           refine AW.rt ?_
           first | (exfalso; omega) | (refine used_eq ?_ ?_ ?_ ?_ ?_ ?_ <;> simp only [uN,uG,uS,uKeys,uKids,uOk] <;> first | (subst_vars; rfl) | grind)
          ·intro h205
           refine AW.skip ?_
           refine AW.rS ?_
           refine AW.rt ?_
           first | (exfalso; omega) | (refine used_eq ?_ ?_ ?_ ?_ ?_ ?_ <;> simp only [uN,uG,uS,uKeys,uKids,uOk] <;> first | (subst_vars; rfl) | grind)
end Go.Proofs

namespace Go.Proofs
open Go.Shelf
def Tryz.lays137_ren : Go.Shelf.Ren:=⟨fun | 137=>128 | 217=>141 | 266=>148 | n=>n,fun | 9=>9 | 5=>5 | 3=>3 | n=>n,fun | n=>n⟩
theorem Tryz.lays137 : Go.Proofs.Lays.n137 Tryz.prog Tryz.lays137_ren:={
 mixed:=by kernel_rfl
 f137:=Tryz.func128.trans (congrArg some (by kernel_rfl))
 f217:=Tryz.func141.trans (congrArg some (by kernel_rfl))
 f266:=Tryz.func148.trans (congrArg some (by kernel_rfl))
 t3:=Tryz.underlying3
 a3:=Tryz.isAgg3
 z3:=Tryz.sizeOf3
 v3:=Tryz.zeroValue3
 t5:=Tryz.underlying5
 a5:=Tryz.isAgg5
 z5:=Tryz.sizeOf5
 v5:=Tryz.zeroValue5
 t9:=Tryz.underlying9
 a9:=Tryz.isAgg9
 z9:=Tryz.sizeOf9
 v9:=Tryz.zeroValue9 }
open Go.RowKit in
theorem Tryz.strings_IndexByte (s : ByteArray) (c : Int) (w : World) :
  Calls Tryz.prog 128 #[.string s,.int .u8 c] w fun e w'=>e = .returned (.int .i64 (Lib.indexByte s.data.toList c.toNat.toUInt8)) ∧ w' = w:=Any.strings_IndexByte Tryz.lays137 s c w
end Go.Proofs

namespace Go.Proofs
open Go Aw
set_option linter.unusedSimpArgs false
set_option linter.unusedVariables false
set_option maxRecDepth 100000
set_option maxHeartbeats 4000000
theorem c_strings_IndexByte (gl : List (Nat × AV)) (s : List UInt8) (c : Int) : FnP Tryz.prog gl 128 [.str s,.int .u8 c] fun r=>r = .ret (.int .i64 (Lib.indexByte s c.toNat.toUInt8)):=by
 refine FnP.same (enters_of Tryz.func128 rfl rfl) ?_
 intro m vs _ hv
 simp only [RepL,Rep] at hv
 obtain ⟨_,_,rfl,rfl,_,_,rfl,rfl,rfl⟩:=hv
 refine (Tryz.strings_IndexByte ⟨s.toArray⟩ c m.w).mono ?_
 rintro e w' ⟨rfl,rfl⟩
 exact ⟨⟨_,rfl,fun m=>by simp only [Rep]⟩,rfl⟩
theorem c_value_key (gl : List (Nat × AV)) (s : List UInt8) : FnP Tryz.prog (gl) 110 [.str s] fun r=>r = .ret (.bool (nameB s)):=by
 refine FnP.intro Tryz.func110 rfl rfl (by simp [Tryz.ntmps110]) ?_
 simp only [argEnv,Tryz.ntmps110,Tryz.results110]
 refine AW.rS ?_
 refine AW.rSC ?_
 refine awOps.cons (awGuard.cG (fun hg=>c_strings_IndexByte _ s 0) ?_)
 refine awOps.rn ?_
 refine AW.rt ?_
 simp only [nameB,Bool.cond_false_right]; rfl
theorem c_value_rising (gl : List (Nat × AV)) (o : Pob) (hk : o.keys.length ≤ 16777216:=by first | omega | exact u8_le _ | assumption | (simp; done) | (simp; omega)) : FnP Tryz.prog (gl) 111 [.agg o.cells] fun r=>r = .ret (.bool (risingB o)):=by
 refine FnP.intro Tryz.func111 rfl rfl (by simp [Tryz.ntmps111]) ?_
 simp only [argEnv,Tryz.ntmps111,Tryz.results111]
 refine AW.rS ?_
 refine AW.seq ?_
 refine AW.rS ?_
 refine AW.c2 ?_ ?_
 ·intro h4
  refine AW.rS ?_
  refine AW.rt ?_
  rw [rising_no (fun h=>by have:=h.1; omega)]
 ·intro h4
  refine AW.skip ?_
  refine AW.seq ?_
  refine AW.rS ?_
  refine AW.block ?_
  refine AW.lk (S:={ i : Nat // i ≤ o.keys.length ∧ ∀ j,j < i → okKey o j }) [1,13,14] (fun s_=>[(15,.int .i64 s_.1)]) (fun s_=>[(0,.cells [.int .i64 o.kind,.int .i64 o.num,.int .i64 o.gen,.str o.str,.sl (strsAV o.keys),.sl (objsAV o.kids)])]) 1 (fun s_=>o.keys.length - s_.1) ⟨0,Nat.zero_le _,fun j h=>absurd h (by omega)⟩ ?_ ?_
  ·refine St.le.vw [0]
  rintro ⟨i,hi,hs⟩
  try dsimp only at hi
  try dsimp only at hs
  refine AW.rS ?_
  refine AW.seq ?_
  refine AW.c2 ?_ ?_
  ·intro h15
   refine AW.skip ?_
   refine AW.seq ?_
   refine AW.block ?_
   refine AW.rS ?_
   refine AW.rSC ?_
   refine awOps.cons (awGuard.c1 (c_value_key _ (o.keys.getD i [])) ?_)
   refine awOps.rn ?_
   refine AW.c2 ?_ ?_
   ·intro h23
    refine AW.rS ?_
    refine AW.rt ?_
    rw [rising_no (fun h=>by have:=h.2 i h15; simp only [okKey] at this; grind)]
   ·intro h23
    refine AW.skip ?_
    have hok : okKey o i:=by simp only [okKey]; grind
    refine AW.rL ?_
    refine ⟨⟨i + 1,by omega,fun j hj=>by rcases Nat.lt_succ_iff_lt_or_eq.1 hj with h | rfl; exact hs j h; exact hok⟩,?_,?_⟩
    ·refine St.le.vw [0]
    ·simp only []; omega
  ·intro h15
   refine AW.exit ?_
   refine AW.rS ?_
   refine AW.rt ?_
   rw [rising_yes ⟨by omega,fun j hj=>hs j (by omega)⟩]
theorem check_step (gl : List (Nat × AV)) (N : Nat) (hN : N ≤ 16777216) (ih : ∀ (o' : Pob) (d : Int),o'.bulk < N → 0 ≤ d → FnP Tryz.prog gl 94 [.agg o'.cells,.int .i64 d] fun r=>r = if decide (chk o' d = 0) = true then .ret (.tup []) else .panic (badAV (chk o' d))) (o : Pob) (d : Int) (ho : o.bulk ≤ N) (hd : 0 ≤ d) : FnP Tryz.prog (gl) 94 [.agg o.cells,.int .i64 d] fun r=>r = if decide (chk o d = 0) = true then .ret (.tup []) else .panic (badAV (chk o d)):=by
 refine FnP.intro Tryz.func94 rfl rfl (by simp [Tryz.ntmps94]) ?_
 simp only [argEnv,Tryz.ntmps94,Tryz.results94]
 have hbulk:=Pob.bulk_eq o
 refine AW.rS ?_
 refine AW.rSC ?_
 refine awOps.cons (awGuard.cM (c_value_must _ (decide (d ≤ 24)) 7) ?_ ?_)
 ·intro hp3
  refine wk ?_
  rw [chk_bad (e:=7) (by simp [ownE,hp3]) (by omega)]; simp
 intro hm3
 refine awOps.rn ?_
 refine AW.rSC ?_
 refine awOps.cons (awGuard.c1 (c_value_used _ o.kind) ?_)
 refine awOps.rn ?_
 refine AW.rSC ?_
 refine awOps.cons (awGuard.cM (c_value_must _ (useB o d) 10) ?_ ?_)
 ·intro hp9
  refine wk ?_
  rw [chk_bad (e:=10) (by simp [ownE,hm3,hp9]) (by omega)]; simp
 intro hm9
 refine awOps.rn ?_
 refine AW.rSC ?_
 refine awOps.cons (awGuard.c1 (c_value_fits _ o) ?_)
 refine awOps.rn ?_
 refine awOps.cons (awGuard.cM (c_value_must _ (fitsB o) 2) ?_ ?_)
 ·intro hp14
  refine wk ?_
  rw [chk_bad (e:=2) (by simp [ownE,hm3,hm9,hp14]) (by omega)]; simp
 intro hm14
 refine awOps.rn ?_
 refine AW.rSC ?_
 refine awOps.cons (awGuard.c1 (c_value_short _ o) ?_)
 refine awOps.rn ?_
 refine awOps.cons (awGuard.cM (c_value_must _ (shortB o) 5) ?_ ?_)
 ·intro hp19
  refine wk ?_
  rw [chk_bad (e:=5) (by simp [ownE,hm3,hm9,hm14,hp19]) (by omega)]; simp
 intro hm19
 refine awOps.rn ?_
 refine AW.rSC ?_
 refine awOps.cons (awGuard.cM (c_value_must _ (decide ((o.kids.length : Int) ≤ 8191)) 6) ?_ ?_)
 ·intro hp22
  refine wk ?_
  rw [chk_bad (e:=6) (by simp [ownE,hm3,hm9,hm14,hm19,hp22]) (by omega)]; simp
 intro hm22
 refine awOps.rn ?_
 refine AW.rSC ?_
 refine awOps.cons (awGuard.cG (fun hg=>c_value_key _ o.str) ?_)
 refine awOps.rn ?_
 refine awOps.cons (awGuard.cG (fun hg=>c_value_rising _ o (by omega)) ?_)
 refine awOps.rn ?_
 refine awOps.cons (awGuard.cM (c_value_must _ (formB o) 3) ?_ ?_)
 ·intro hp29
  refine wk ?_
  rw [chk_bad (e:=3) (by simp [ownE,hm3,hm9,hm14,hm19,hm22,hp29]) (by omega)]; simp
 intro hm29
 refine awOps.rn ?_
 refine AW.rS ?_
 refine AW.block ?_
 have hown : ownE o d = 0:=by simp [ownE,hm3,hm9,hm14,hm19,hm22,hm29]
 refine AW.lk (S:={ i : Nat // i ≤ o.kids.length ∧ chkL o.kids (d + 1) = chkL (o.kids.drop i) (d + 1) }) [1,105,106] (fun s_=>[(107,.int .i64 s_.1)]) (fun s_=>[]) 0 (fun s_=>o.kids.length - s_.1) ⟨0,Nat.zero_le _,rfl⟩ ?_ ?_
 ·refine St.le.vw []
 rintro ⟨i,hi,hs⟩
 try dsimp only at hi
 try dsimp only at hs
 refine AW.rS ?_
 refine AW.seq ?_
 refine AW.c2 ?_ ?_
 ·intro h36
  refine AW.skip ?_
  refine AW.seq ?_
  refine AW.block ?_
  refine AW.rS ?_
  refine AW.rLC ?_
  refine awOps.cons (awGuard.cM (ih (o.kids.getD i Pob.null) (d + 1) (Nat.lt_of_lt_of_le (Pob.bulk_kid (by omega)) ho) (by omega)) ?_ ?_)
  ·intro hp42
   refine wk ?_
   rw [chk_eq o d,hown,if_pos rfl,hs,chkL_drop (by omega),if_neg hp42,decide_eq_false hp42] <;> rfl
  intro hm42
  refine awOps.rn ?_
  refine AW.rL ?_
  refine ⟨⟨i + 1,by omega,by rw [hs,chkL_drop (by omega),if_pos hm42]⟩,?_,?_⟩
  ·refine St.le.vw []
  ·simp only []; omega
 ·intro h36
  refine AW.exit ?_
  refine wk ?_
  rw [chk_eq o d,hown,if_pos rfl,hs,List.drop_of_length_le (by omega)]; simp [chkL]
theorem check_all (gl : List (Nat × AV)) (N : Nat) : N ≤ 16777216 → ∀ (o : Pob) (d : Int),0 ≤ d → o.bulk ≤ N → FnP Tryz.prog gl 94 [.agg o.cells,.int .i64 d] fun r=>r = if decide (chk o d = 0) = true then .ret (.tup []) else .panic (badAV (chk o d)):=by
 induction N using Nat.strongRecOn with
 | ind N IH=>exact fun hN o d hd ho=>check_step gl N hN (fun o' d' h hd'=>IH o'.bulk h (by omega) o' d' hd' (Nat.le_refl _)) o d ho hd
theorem c_value_check (gl : List (Nat × AV)) (o : Pob) (d : Int) (hd : 0 ≤ d) (h : o.bulk ≤ 16777216:=by assumption) : FnP Tryz.prog gl 94 [.agg o.cells,.int .i64 d] fun r=>r = if decide (chk o d = 0) = true then .ret (.tup []) else .panic (badAV (chk o d)):=check_all gl 16777216 (Nat.le_refl _) o d hd h
theorem d_caught_ret (gl : List (Nat × AV)) (e : Int) : FnD Tryz.prog gl 105 [.ptr 0 0] [(0,.cells [.int .i64 e])] 1 .ret (fun u hp nx=>u = .ret ∧ hp = [(0,.cells [.int .i64 e])] ∧ nx = 1):=by
 refine FnD.intro Tryz.func105 rfl rfl (by simp [Tryz.ntmps105]) ?_
 simp only [argEnv,Tryz.ntmps105,Tryz.results105]
 refine AWD.seq (AWD.regRecover rfl rfl rfl rfl (by simp only [go_sem,seval]) ?_)
 refine awOps.rn ?_
 refine AWD.of ?_
 refine AW.block ?_
 refine AW.rS ?_
 refine AW.c2 ?_ ?_
 ·intro h4
  refine AW.rL ?_
  refine wk ?_
  trivial
 ·intro h4
  simp at h4
theorem d_caught_pan (gl : List (Nat × AV)) (e0 e : Int) : FnD Tryz.prog gl 105 [.ptr 0 0] [(0,.cells [.int .i64 e0])] 1 (.pan (badAV e)) (fun u hp nx=>u = .ret ∧ hp = [(0,.cells [.int .i64 e]),(1,.cells [.int .i64 e])] ∧ nx = 2):=by
 refine FnD.intro Tryz.func105 rfl rfl (by simp [Tryz.ntmps105]) ?_
 simp only [argEnv,Tryz.ntmps105,Tryz.results105]
 refine AWD.seq (AWD.regRecover rfl rfl rfl rfl (by simp only [go_sem,seval]) ?_)
 refine awOps.rn ?_
 refine AWD.of ?_
 refine AW.block ?_
 simp only [badAV]
 refine AW.rS ?_
 refine AW.c2 ?_ ?_
 ·intro h4
  simp at h4
 ·intro h4
  refine AW.rS ?_
  refine AW.c2 ?_ ?_
  ·intro h9
   refine AW.rS ?_
   refine AW.rL ?_
   refine wk ?_
   trivial
  ·intro h9
   simp at h9
theorem c_value_caught (gl : List (Nat × AV)) (f : FuncId) (cs : List AV) (e : Int) (hc : FnP Tryz.prog gl f [.tptr cs] fun r=>r = if decide (e = 0) = true then .ret (.tup []) else .panic (badAV e)) : FnP Tryz.prog (gl) 92 [.clos f [.tptr cs]] fun r=>r = .ret (.int .i64 e):=by
 refine FnP.introD Tryz.func92 rfl rfl (by simp [Tryz.ntmps92]) ?_
 simp only [argEnv,Tryz.ntmps92]
 refine AW.rS ?_
 refine AW.df ?_
 refine AW.rSC ?_
 refine awOps.cons (awGuard.cM (hc) ?_ ?_)
 ·intro hp4
  refine wk ?_
  refine finD_pan ?_
  refine LeaveS.c1 [0] (d_caught_pan _ 0 e) ?_
  refine LeaveS.rt Tryz.results92 ?_
  trivial
 intro hm4
 refine awOps.rn ?_
 refine AW.rS ?_
 refine AW.rt ?_
 refine LeaveS.c1 [0] (d_caught_ret _ 0) ?_
 refine LeaveS.rt Tryz.results92 ?_
 rw [hm4]
theorem c_value_Check_1 (gl : List (Nat × AV)) (o : Pob) (h : o.bulk ≤ 16777216:=by first | omega | exact u8_le _ | assumption | (simp; done) | (simp; omega)) : FnP Tryz.prog (gl) 93 [.tptr o.cells] fun r=>r = if decide (chk o 1 = 0) = true then .ret (.tup []) else .panic (badAV (chk o 1)):=by
 refine FnP.intro Tryz.func93 rfl rfl (by simp [Tryz.ntmps93]) ?_
 simp only [argEnv,Tryz.ntmps93,Tryz.results93]
 refine AW.rLC ?_
 refine awOps.cons (awGuard.cM (c_value_check _ o 1 (by omega)) ?_ ?_)
 ·intro hp2
  refine wk ?_
  rw [decide_eq_false hp2]; simp
 intro hm2
 refine awOps.rn ?_
 refine wk ?_
 rw [decide_eq_true hm2]; simp
theorem c_value_Check (gl : List (Nat × AV)) (o : Pob) (h : o.bulk ≤ 16777216:=by first | omega | exact u8_le _ | assumption | (simp; done) | (simp; omega)) : FnP Tryz.prog (gl) 70 [.agg o.cells] fun r=>r = .ret (.int .i64 (chk o 1)):=by
 refine FnP.intro Tryz.func70 rfl rfl (by simp [Tryz.ntmps70]) ?_
 simp only [argEnv,Tryz.ntmps70,Tryz.results70]
 refine AW.rS ?_
 refine AW.rSC ?_
 refine awOps.cons (awGuard.c1 (c_value_caught _ 93 o.cells (chk o 1) (c_value_Check_1 _ o)) ?_)
 refine awOps.rn ?_
 refine AW.rt ?_
 all_goals first | contradiction | rfl | (simp; done) | (simp; omega)
theorem c_value_String (gl : List (Nat × AV)) (s : List UInt8) : FnP Tryz.prog (gl) 73 [.str s] fun r=>r = .ret (.agg (strO s).cells):=by
 refine FnP.intro Tryz.func73 rfl rfl (by simp [Tryz.ntmps73]) ?_
 simp only [argEnv,Tryz.ntmps73,Tryz.results73]
 refine AW.rS ?_
 refine AW.rS ?_
 refine AW.rt ?_
 all_goals first | contradiction | rfl | (simp; done) | (simp; omega)
theorem c_value_Name (gl : List (Nat × AV)) (s : List UInt8) : FnP Tryz.prog (gl) 71 [.str s] fun r=>r = .ret (.agg (nameO s).cells):=by
 refine FnP.intro Tryz.func71 rfl rfl (by simp [Tryz.ntmps71]) ?_
 simp only [argEnv,Tryz.ntmps71,Tryz.results71]
 refine AW.rS ?_
 refine AW.rS ?_
 refine AW.rt ?_
 all_goals first | contradiction | rfl | (simp; done) | (simp; omega)
theorem c_value_Ref (gl : List (Nat × AV)) (n g : Int) (hn : -9223372036854775808 ≤ n ∧ n ≤ 9223372036854775807:=by first | omega | exact u8_le _ | assumption | (simp; done) | (simp; omega)) : FnP Tryz.prog (gl) 46 [.int .i64 n,.int .i64 g] fun r=>r = .ret (.agg (refO n g).cells):=by
 refine FnP.intro Tryz.func46 rfl rfl (by simp [Tryz.ntmps46]) ?_
 simp only [argEnv,Tryz.ntmps46,Tryz.results46]
 refine AW.rS ?_
 refine AW.rS ?_
 refine AW.rt ?_
 all_goals first | contradiction | rfl | (simp; done) | (simp; omega)
theorem c_value_Array (gl : List (Nat × AV)) (l : List Pob) (h : (arrO l).bulk ≤ 16777216:=by first | omega | exact u8_le _ | assumption | (simp; done) | (simp; omega)) : FnP Tryz.prog (gl) 72 [.sl (objsAV l)] fun r=>r = .ret (.agg (arrO l).cells):=by
 refine FnP.intro Tryz.func72 rfl rfl (by simp [Tryz.ntmps72]) ?_
 simp only [argEnv,Tryz.ntmps72,Tryz.results72]
 refine AW.rS ?_
 refine AW.rSC ?_
 refine awOps.cons (awGuard.c1 (c_value_Clone _ (arrO l) h) ?_)
 refine awOps.rn ?_
 refine AW.rt ?_
 all_goals first | contradiction | rfl | (simp; done) | (simp; omega)
theorem h_Insert_string (gl : List (Nat × AV)) (es : List (List AV)) (e : List AV) (i : Nat) (hes : ∀ e ∈ es,okRow 1 e = true) (he : okRow 1 e = true) (hi : i ≤ es.length) (hl : es.length ≤ 16777216) : FnH Tryz.prog (gl) 114 [.row 0 0 es.length,.int .i64 i,.row 1 0 1] ([(0,.row 1 es true),(1,.row 1 [e] true)]) 2 (fun r h n=>r = .ret (.row 2 0 (es.length + 1)) ∧ h = [(1,.row 1 [e] true),(2,.row 1 (es.take i ++ e :: es.drop i) true)] ∧ n = 3):=by
 refine FnH.intro Tryz.func114 rfl rfl (by simp [Tryz.ntmps114]) ?_
 simp only [argEnv,Tryz.ntmps114,Tryz.results114]
 refine AW.rS ?_
 refine AW.rS ?_
 refine AW.rS ?_
 refine AW.seq ?_
 refine AW.rS ?_
 refine AW.c2 ?_ ?_
 ·intro h6
  refine AW.rS ?_
  refine AW.rt ?_
  all_goals first | contradiction | rfl | (simp; done) | (simp; omega)
 ·intro h6
  refine AW.skip ?_
  refine AW.rS ?_
  refine AW.seq ?_
  refine AW.rS ?_
  refine AW.c2 ?_ ?_
  ·intro h14
   refine AW.rS ?_
   refine AW.rt ?_
   obtain rfl : i = es.length:=by omega
   simp
  ·intro h14
   refine AW.skip ?_
   refine AW.seq ?_
   refine AW.tf 0 (fun sp hsp hse=>?_)
   refine AW.rSC ?_
   refine awOps.cons ?_
   refine awGuard.fcp  ?_
   refine awOps.rn ?_
   refine AW.c2 ?_ ?_
   ·intro h23
    refine AW.rSC ?_
    refine awOps.cons ?_
    refine awGuard.fzr (es.length + 1 - i) ?_ ?_ ?_ ?_ ?_ ?_
    ·first | omega | (simp; done) | (simp; omega)
    ·first | omega | (simp; done) | (simp; omega)
    ·first | omega | (simp; done) | (simp; omega)
    ·first | omega | (simp; done) | (simp; omega)
    ·show (i + (es.length + 1 - i)) * 16 ≤ _; omega
    refine awOps.rn ?_
    refine AW.rSC ?_
    refine awOps.cons ?_
    refine awGuard.cpR 1 ?_ ?_ ?_ ?_
    ·first | omega | (simp; done) | (simp; omega)
    ·first | omega | (simp; done) | (simp; omega)
    ·simp [he]
    refine awOps.rn ?_
    refine AW.dSC [(0,0),(1,0),(2,0),(3,0),(4,1),(5,0),(6,0),(7,1),(8,2)] ?_
    refine awPlan.only rfl ?_
    refine awGuard.cpR (es.length - i) ?_ ?_ ?_ ?_
    ·first | omega | (simp; done) | (simp; omega)
    ·simp [splice]; omega
    ·exact ⟨by omega,fun x hx=>hes x (mem_mid hse hx)⟩
    refine awPlan.rn ?_
    refine AW.rS ?_
    refine AW.drop 0 ?_
    refine AW.rt ?_
    rw [ins_new hse rfl (by omega) (by simp),show i + (es.length + 1 - i) = es.length + 1 from by omega]
    exact ⟨rfl,rfl⟩
   ·intro h23
    refine AW.skip ?_
    refine AW.rS ?_
    refine AW.seq ?_
    refine AW.rSC ?_
    refine awOps.cons ?_
    refine awGuard.ovr (tS:=23) (tR:=4) (e:=9) Tryz.func131 ?_ ?_
    ·first | omega | (simp; done) | (simp; omega)
    refine awOps.rn ?_
    refine AW.c2 ?_ ?_
    ·intro h42
     refine AW.dSC [(0,0),(1,0),(2,0),(3,0),(4,1),(5,0),(6,0),(7,1),(8,2)] ?_
     refine awPlan.only rfl ?_
     refine awGuard.cpF (es.length - i) ?_ ?_ ?_ ?_
     ·first | omega | (simp; done) | (simp; omega)
     ·first | omega | (simp; done) | (simp; omega)
     ·exact ⟨by omega,fun x hx=>hes x (mem_mid hse hx)⟩
     refine awPlan.rn ?_
     have hsl : (splice sp (i + 1) (List.take (es.length - i) (List.drop i sp))).length = sp.length:=splice_len (by simp; omega)
     refine AW.rSC ?_
     refine awOps.cons ?_
     refine awGuard.cpF 1 ?_ ?_ ?_ ?_
     ·first | omega | (simp; done) | (simp; omega)
     ·first | omega | (simp; done) | (simp; omega)
     ·simp [he]
     refine awOps.rn ?_
     refine AW.rS ?_
     refine AW.uf 0 (es.length + 1) ?_
     refine AW.rnm 6 ?_
     refine AW.rt ?_
     rw [ins_in hse rfl (by omega) (by omega)]
    ·intro h42
     cases h42
theorem h_Insert_Object (gl : List (Nat × AV)) (es : List (List AV)) (e : List AV) (i : Nat) (hes : ∀ e ∈ es,okRow 6 e = true) (he : okRow 6 e = true) (hi : i ≤ es.length) (hl : es.length ≤ 16777216) : FnH Tryz.prog (gl) 115 [.row 0 0 es.length,.int .i64 i,.row 1 0 1] ([(0,.row 6 es true),(1,.row 6 [e] true)]) 2 (fun r h n=>r = .ret (.row 2 0 (es.length + 1)) ∧ h = [(1,.row 6 [e] true),(2,.row 6 (es.take i ++ e :: es.drop i) true)] ∧ n = 3):=by
 refine FnH.intro Tryz.func115 rfl rfl (by simp [Tryz.ntmps115]) ?_
 simp only [argEnv,Tryz.ntmps115,Tryz.results115]
 refine AW.rS ?_
 refine AW.rS ?_
 refine AW.rS ?_
 refine AW.seq ?_
 refine AW.rS ?_
 refine AW.c2 ?_ ?_
 ·intro h6
  refine AW.rS ?_
  refine AW.rt ?_
  all_goals first | contradiction | rfl | (simp; done) | (simp; omega)
 ·intro h6
  refine AW.skip ?_
  refine AW.rS ?_
  refine AW.seq ?_
  refine AW.rS ?_
  refine AW.c2 ?_ ?_
  ·intro h14
   refine AW.rS ?_
   refine AW.rt ?_
   obtain rfl : i = es.length:=by omega
   simp
  ·intro h14
   refine AW.skip ?_
   refine AW.seq ?_
   refine AW.tf 0 (fun sp hsp hse=>?_)
   refine AW.rSC ?_
   refine awOps.cons ?_
   refine awGuard.fcp  ?_
   refine awOps.rn ?_
   refine AW.c2 ?_ ?_
   ·intro h23
    refine AW.rSC ?_
    refine awOps.cons ?_
    refine awGuard.fzr (es.length + 1 - i) ?_ ?_ ?_ ?_ ?_ ?_
    ·first | omega | (simp; done) | (simp; omega)
    ·first | omega | (simp; done) | (simp; omega)
    ·first | omega | (simp; done) | (simp; omega)
    ·first | omega | (simp; done) | (simp; omega)
    ·show (i + (es.length + 1 - i)) * 88 ≤ _; omega
    refine awOps.rn ?_
    refine AW.rSC ?_
    refine awOps.cons ?_
    refine awGuard.cpR 1 ?_ ?_ ?_ ?_
    ·first | omega | (simp; done) | (simp; omega)
    ·first | omega | (simp; done) | (simp; omega)
    ·simp [he]
    refine awOps.rn ?_
    refine AW.dSC [(0,0),(1,0),(2,0),(3,0),(4,1),(5,0),(6,0),(7,1),(8,2)] ?_
    refine awPlan.only rfl ?_
    refine awGuard.cpR (es.length - i) ?_ ?_ ?_ ?_
    ·first | omega | (simp; done) | (simp; omega)
    ·simp [splice]; omega
    ·exact ⟨by omega,fun x hx=>hes x (mem_mid hse hx)⟩
    refine awPlan.rn ?_
    refine AW.rS ?_
    refine AW.drop 0 ?_
    refine AW.rt ?_
    rw [ins_new hse rfl (by omega) (by simp),show i + (es.length + 1 - i) = es.length + 1 from by omega]
    exact ⟨rfl,rfl⟩
   ·intro h23
    refine AW.skip ?_
    refine AW.rS ?_
    refine AW.seq ?_
    refine AW.rSC ?_
    refine awOps.cons ?_
    refine awGuard.ovr (tS:=24) (tR:=4) (e:=26) Tryz.func133 ?_ ?_
    ·first | omega | (simp; done) | (simp; omega)
    refine awOps.rn ?_
    refine AW.c2 ?_ ?_
    ·intro h42
     refine AW.dSC [(0,0),(1,0),(2,0),(3,0),(4,1),(5,0),(6,0),(7,1),(8,2)] ?_
     refine awPlan.only rfl ?_
     refine awGuard.cpF (es.length - i) ?_ ?_ ?_ ?_
     ·first | omega | (simp; done) | (simp; omega)
     ·first | omega | (simp; done) | (simp; omega)
     ·exact ⟨by omega,fun x hx=>hes x (mem_mid hse hx)⟩
     refine awPlan.rn ?_
     have hsl : (splice sp (i + 1) (List.take (es.length - i) (List.drop i sp))).length = sp.length:=splice_len (by simp; omega)
     refine AW.rSC ?_
     refine awOps.cons ?_
     refine awGuard.cpF 1 ?_ ?_ ?_ ?_
     ·first | omega | (simp; done) | (simp; omega)
     ·first | omega | (simp; done) | (simp; omega)
     ·simp [he]
     refine awOps.rn ?_
     refine AW.rS ?_
     refine AW.uf 0 (es.length + 1) ?_
     refine AW.rnm 6 ?_
     refine AW.rt ?_
     rw [ins_in hse rfl (by omega) (by omega)]
    ·intro h42
     cases h42
theorem h_Insert_Item (gl : List (Nat × AV)) (es : List (List AV)) (e : List AV) (i : Nat) (hes : ∀ e ∈ es,okRow 8 e = true) (he : okRow 8 e = true) (hi : i ≤ es.length) (hl : es.length ≤ 16777216) : FnH Tryz.prog (gl) 138 [.row 0 0 es.length,.int .i64 i,.row 1 0 1] ([(0,.row 8 es true),(1,.row 8 [e] true)]) 2 (fun r h n=>r = .ret (.row 2 0 (es.length + 1)) ∧ h = [(1,.row 8 [e] true),(2,.row 8 (es.take i ++ e :: es.drop i) true)] ∧ n = 3):=by
 refine FnH.intro Tryz.func138 rfl rfl (by simp [Tryz.ntmps138]) ?_
 simp only [argEnv,Tryz.ntmps138,Tryz.results138]
 refine AW.rS ?_
 refine AW.rS ?_
 refine AW.rS ?_
 refine AW.seq ?_
 refine AW.rS ?_
 refine AW.c2 ?_ ?_
 ·intro h6
  refine AW.rS ?_
  refine AW.rt ?_
  all_goals first | contradiction | rfl | (simp; done) | (simp; omega)
 ·intro h6
  refine AW.skip ?_
  refine AW.rS ?_
  refine AW.seq ?_
  refine AW.rS ?_
  refine AW.c2 ?_ ?_
  ·intro h14
   refine AW.rS ?_
   refine AW.rt ?_
   obtain rfl : i = es.length:=by omega
   simp
  ·intro h14
   refine AW.skip ?_
   refine AW.seq ?_
   refine AW.tf 0 (fun sp hsp hse=>?_)
   refine AW.rSC ?_
   refine awOps.cons ?_
   refine awGuard.fcp  ?_
   refine awOps.rn ?_
   refine AW.c2 ?_ ?_
   ·intro h23
    refine AW.rSC ?_
    refine awOps.cons ?_
    refine awGuard.fzr (es.length + 1 - i) ?_ ?_ ?_ ?_ ?_ ?_
    ·first | omega | (simp; done) | (simp; omega)
    ·first | omega | (simp; done) | (simp; omega)
    ·first | omega | (simp; done) | (simp; omega)
    ·first | omega | (simp; done) | (simp; omega)
    ·show (i + (es.length + 1 - i)) * 104 ≤ _; omega
    refine awOps.rn ?_
    refine AW.rSC ?_
    refine awOps.cons ?_
    refine awGuard.cpR 1 ?_ ?_ ?_ ?_
    ·first | omega | (simp; done) | (simp; omega)
    ·first | omega | (simp; done) | (simp; omega)
    ·simp [he]
    refine awOps.rn ?_
    refine AW.dSC [(0,0),(1,0),(2,0),(3,0),(4,1),(5,0),(6,0),(7,1),(8,2)] ?_
    refine awPlan.only rfl ?_
    refine awGuard.cpR (es.length - i) ?_ ?_ ?_ ?_
    ·first | omega | (simp; done) | (simp; omega)
    ·simp [splice]; omega
    ·exact ⟨by omega,fun x hx=>hes x (mem_mid hse hx)⟩
    refine awPlan.rn ?_
    refine AW.rS ?_
    refine AW.drop 0 ?_
    refine AW.rt ?_
    rw [ins_new hse rfl (by omega) (by simp),show i + (es.length + 1 - i) = es.length + 1 from by omega]
    exact ⟨rfl,rfl⟩
   ·intro h23
    refine AW.skip ?_
    refine AW.rS ?_
    refine AW.seq ?_
    refine AW.rSC ?_
    refine awOps.cons ?_
    refine awGuard.ovr (tS:=22) (tR:=4) (e:=46) Tryz.func146 ?_ ?_
    ·first | omega | (simp; done) | (simp; omega)
    refine awOps.rn ?_
    refine AW.c2 ?_ ?_
    ·intro h42
     refine AW.dSC [(0,0),(1,0),(2,0),(3,0),(4,1),(5,0),(6,0),(7,1),(8,2)] ?_
     refine awPlan.only rfl ?_
     refine awGuard.cpF (es.length - i) ?_ ?_ ?_ ?_
     ·first | omega | (simp; done) | (simp; omega)
     ·first | omega | (simp; done) | (simp; omega)
     ·exact ⟨by omega,fun x hx=>hes x (mem_mid hse hx)⟩
     refine awPlan.rn ?_
     have hsl : (splice sp (i + 1) (List.take (es.length - i) (List.drop i sp))).length = sp.length:=splice_len (by simp; omega)
     refine AW.rSC ?_
     refine awOps.cons ?_
     refine awGuard.cpF 1 ?_ ?_ ?_ ?_
     ·first | omega | (simp; done) | (simp; omega)
     ·first | omega | (simp; done) | (simp; omega)
     ·simp [he]
     refine awOps.rn ?_
     refine AW.rS ?_
     refine AW.uf 0 (es.length + 1) ?_
     refine AW.rnm 6 ?_
     refine AW.rt ?_
     rw [ins_in hse rfl (by omega) (by omega)]
    ·intro h42
     cases h42
theorem c_cmp_isNaN_string (gl : List (Nat × AV)) (s : List UInt8) : FnP Tryz.prog (gl) 142 [.str s] fun r=>r = .ret (.bool false):=by
 refine FnP.intro Tryz.func142 rfl rfl (by simp [Tryz.ntmps142]) ?_
 simp only [argEnv,Tryz.ntmps142,Tryz.results142]
 refine AW.rS ?_
 refine AW.rS ?_
 refine AW.rt ?_
 all_goals first | contradiction | rfl | (simp; done) | (simp; omega)
theorem c_slices_isNaN_string (gl : List (Nat × AV)) (s : List UInt8) : FnP Tryz.prog (gl) 130 [.str s] fun r=>r = .ret (.bool false):=by
 refine FnP.intro Tryz.func130 rfl rfl (by simp [Tryz.ntmps130]) ?_
 simp only [argEnv,Tryz.ntmps130,Tryz.results130]
 refine AW.rS ?_
 refine AW.rS ?_
 refine AW.rt ?_
 all_goals first | contradiction | rfl | (simp; done) | (simp; omega)
theorem c_cmp_Less_string (gl : List (Nat × AV)) (s t : List UInt8) : FnP Tryz.prog (gl) 129 [.str s,.str t] fun r=>r = .ret (.bool (Op.bytesLess s t)):=by
 refine FnP.intro Tryz.func129 rfl rfl (by simp [Tryz.ntmps129]) ?_
 simp only [argEnv,Tryz.ntmps129,Tryz.results129]
 refine AW.rS ?_
 refine AW.rSC ?_
 refine awOps.cons (awGuard.c1 (c_cmp_isNaN_string _ s) ?_)
 refine awOps.rn ?_
 refine awOps.cons (awGuard.cG (fun hg=>c_cmp_isNaN_string _ t) ?_)
 refine awOps.rn ?_
 refine AW.rt ?_
 all_goals first | contradiction | rfl | (simp; done) | (simp; omega)
theorem c_slices_BinarySearch_string_string (gl : List (Nat × AV)) (ks : List (List UInt8)) (key : List UInt8) (hk : ks.length ≤ 16777216:=by first | omega | exact u8_le _ | assumption | (simp; done) | (simp; omega)) (hs : incr ks:=by first | omega | exact u8_le _ | assumption | (simp; done) | (simp; omega)) : FnP Tryz.prog (gl) 112 [.sl (strsAV ks),.str key] fun r=>r = .ret (.tup [.int .i64 (kplace ks key),.bool (kthere ks key)]):=by
 refine FnP.intro Tryz.func112 rfl rfl (by simp [Tryz.ntmps112]) ?_
 simp only [argEnv,Tryz.ntmps112,Tryz.results112]
 refine AW.rS ?_
 refine AW.rS ?_
 refine AW.rS ?_
 refine AW.seq ?_
 refine AW.block ?_
 refine AW.lk (S:={ p : Nat × Nat // p.1 ≤ p.2 ∧ p.2 ≤ ks.length ∧ (∀ a,a < p.1 → Op.bytesLess (ks.getD a []) key = true) ∧ (∀ a,p.2 ≤ a → a < ks.length → Op.bytesLess (ks.getD a []) key = false) }) [0,1,6] (fun s_=>[(7,.int .i64 s_.1.1),(8,.int .i64 s_.1.2)]) (fun s_=>[]) 0 (fun s_=>s_.1.2 - s_.1.1) ⟨(0,ks.length),Nat.zero_le _,Nat.le_refl _,fun a h=>absurd h (by omega),fun a h h'=>absurd h' (by omega)⟩ ?_ ?_
 ·refine St.le.vw []
 rintro ⟨⟨i,j⟩,h1,h2,h3,h4⟩
 try dsimp only at h1
 try dsimp only at h2
 try dsimp only at h3
 try dsimp only at h4
 refine AW.seq ?_
 refine AW.rS ?_
 refine AW.c2 ?_ ?_
 ·intro h9
  refine AW.skip ?_
  refine AW.block ?_
  refine AW.rS ?_
  refine AW.rSC ?_
  refine awOps.cons (awGuard.c1 (c_cmp_Less_string _ (ks.getD ((i + j) / 2) []) key) ?_)
  refine awOps.rn ?_
  refine AW.c2 ?_ ?_
  ·intro h16
   refine AW.rL ?_
   refine ⟨⟨((i + j) / 2 + 1,j),by dsimp only; omega,h2,fun a ha=>bs_lo hs h16 (by omega) (by dsimp only at ha; omega),h4⟩,?_,?_⟩
   ·refine St.le.vw []
   ·simp only []; omega
  ·intro h16
   refine AW.rL ?_
   refine ⟨⟨(i,(i + j) / 2),by dsimp only; omega,by dsimp only; omega,h3,fun a ha hb=>bs_hi hs h16 (by dsimp only at ha; omega) hb⟩,?_,?_⟩
   ·refine St.le.vw []
   ·simp only []; omega
 ·intro h9
  refine AW.exit ?_
  obtain rfl : i = j:=by omega
  have hkp:=kplace_eq h2 h3 (fun h=>h4 _ (Nat.le_refl _) h)
  by_cases hs22 : i < ks.length
  ·skip
   refine AW.rSC ?_
   refine awOps.cons (awGuard.cG (fun hg=>c_slices_isNaN_string ..) ?_)
   refine awOps.rn ?_
   refine awOps.cons (awGuard.cG (fun hg=>c_slices_isNaN_string ..) ?_)
   refine awOps.rn ?_
   refine AW.rt ?_
   rw [kthere_eq hkp,hkp]
   simp [hs22]
  ·skip
   refine AW.rSC ?_
   refine awOps.cons (awGuard.gF (.bool false) ?_ ?_)
   ·simp [hs22]
   refine awOps.rn ?_
   refine awOps.cons (awGuard.cG (fun hg=>c_slices_isNaN_string ..) ?_)
   refine awOps.rn ?_
   refine AW.rt ?_
   rw [kthere_eq hkp,hkp]
   simp [hs22]
theorem h_Clone_string (gl : List (Nat × AV)) (ks : List (List UInt8)) (hk : ks.length ≤ 16777216:=by first | omega | exact u8_le _ | assumption | (simp; done) | (simp; omega)) : FnH Tryz.prog (gl) 98 [.sl (strsAV ks)] ([]) 0 (fun r h n=>r = .ret (.row 1 0 ks.length) ∧ h = [(1,.row 1 (strsAV ks) true)] ∧ n = 2):=by
 refine FnH.intro Tryz.func98 rfl rfl (by simp [Tryz.ntmps98]) ?_
 simp only [argEnv,Tryz.ntmps98,Tryz.results98]
 refine AW.rS ?_
 refine AW.seq ?_
 refine AW.rSC ?_
 refine awOps.cons (awGuard.nS ?_)
 intro b4 hb4
 simp only [nilBool]
 refine awOps.rn ?_
 refine AW.c2 ?_ ?_
 ·intro h6
  refine AW.rS ?_
  refine AW.pre (St.le.nilrow 2 1 (by (simp only [go_sem,seval]; iterate 2 try (simp (disch:=omega) only [zq]; try simp only [go_sem,seval])))) ?_
  refine wk ?_
  refine AW.rnm 2 ?_
  refine wk ?_
  refine AW.rt ?_
  rw [nil_strs hb4 h6,strsAV_nil]; simp
 ·intro h6
  refine AW.skip ?_
  refine AW.rS ?_
  refine AW.rt ?_
  all_goals first | contradiction | rfl | (simp; done) | (simp; omega)
theorem h_Clone_Object (gl : List (Nat × AV)) (ks : List Pob) (hk : ks.length ≤ 16777216:=by first | omega | exact u8_le _ | assumption | (simp; done) | (simp; omega)) : FnH Tryz.prog (gl) 113 [.sl (objsAV ks)] ([]) 0 (fun r h n=>r = .ret (.row 1 0 ks.length) ∧ h = [(1,.row 6 (objsAV ks) true)] ∧ n = 2):=by
 refine FnH.intro Tryz.func113 rfl rfl (by simp [Tryz.ntmps113]) ?_
 simp only [argEnv,Tryz.ntmps113,Tryz.results113]
 refine AW.rS ?_
 refine AW.seq ?_
 refine AW.rSC ?_
 refine awOps.cons (awGuard.nS ?_)
 intro b4 hb4
 simp only [nilBool]
 refine awOps.rn ?_
 refine AW.c2 ?_ ?_
 ·intro h6
  refine AW.rS ?_
  refine AW.pre (St.le.nilrow 2 6 (by (simp only [go_sem,seval]; iterate 2 try (simp (disch:=omega) only [zq]; try simp only [go_sem,seval])))) ?_
  refine wk ?_
  refine AW.rnm 2 ?_
  refine wk ?_
  refine AW.rt ?_
  rw [nil_objs hb4 h6,objsAV_nil]; simp
 ·intro h6
  refine AW.skip ?_
  refine AW.rS ?_
  refine AW.rt ?_
  all_goals first | contradiction | rfl | (simp; done) | (simp; omega)
theorem h_Ins_str (gl : List (Nat × AV)) (ks : List (List UInt8)) (k : List UInt8) (i : Nat) (hi : i ≤ ks.length) (hl : ks.length ≤ 16777216:=by omega) : FnH Tryz.prog gl 114 [.row 0 0 ks.length,.int .i64 i,.row 1 0 1]
  [(0,.row 1 (strsAV ks) true),(1,.row 1 [[.str k]] true)] 2 fun r h n=>r = .ret (.row 2 0 (ks.length + 1)) ∧ h = [(1,.row 1 [[.str k]] true),(2,.row 1 (strsAV (insAt ks i k)) true)] ∧ n = 3:=by
 have h:=h_Insert_string gl (strsAV ks) [.str k] i (by rw [strsAV_ok]; trivial) rfl (by rw [strsAV_length]; exact hi) (by rw [strsAV_length]; exact hl)
 rw [strsAV_length,strsAV_insAt] at h
 exact h
theorem h_Ins_obj (gl : List (Nat × AV)) (l : List Pob) (o : Pob) (i : Nat) (hi : i ≤ l.length) (hl : l.length ≤ 16777216:=by omega) : FnH Tryz.prog gl 115 [.row 0 0 l.length,.int .i64 i,.row 1 0 1]
  [(0,.row 6 (objsAV l) true),(1,.row 6 [o.cells] true)] 2 fun r h n=>r = .ret (.row 2 0 (l.length + 1)) ∧ h = [(1,.row 6 [o.cells] true),(2,.row 6 (objsAV (insAt l i o)) true)] ∧ n = 3:=by
 have h:=h_Insert_Object gl (objsAV l) o.cells i (by rw [objsAV_ok]; trivial) (cells_ok o) (by rw [objsAV_length]; exact hi) (by rw [objsAV_length]; exact hl)
 rw [objsAV_length,objsAV_insAt] at h
 exact h
theorem h_Ins_itm (gl : List (Nat × AV)) (l : List Itm) (o : Itm) (i : Nat) (hi : i ≤ l.length) (hl : l.length ≤ 16777216:=by omega) : FnH Tryz.prog gl 138 [.row 0 0 l.length,.int .i64 i,.row 1 0 1]
  [(0,.row 8 (itemsAV l) true),(1,.row 8 [o.cells] true)] 2 fun r h n=>r = .ret (.row 2 0 (l.length + 1)) ∧ h = [(1,.row 8 [o.cells] true),(2,.row 8 (itemsAV (insAt l i o)) true)] ∧ n = 3:=by
 have h:=h_Insert_Item gl (itemsAV l) o.cells i (by rw [itemsAV_ok]; trivial) rfl (by rw [itemsAV_length]; exact hi) (by rw [itemsAV_length]; exact hl)
 rw [itemsAV_length,itemsAV_insAt] at h
 exact h
theorem c_value_with (gl : List (Nat × AV)) (o : Pob) (key : List UInt8) (v : Pob) (h : o.bulk ≤ 16777216) (hs : incr o.keys) (hl : o.keys.length = o.kids.length) : FnP Tryz.prog (gl) 95 [.agg o.cells,.str key,.agg v.cells] fun r=>r = .ret (.agg (o.withK key v).cells):=by
 refine FnP.intro Tryz.func95 rfl rfl (by simp [Tryz.ntmps95]) ?_
 simp only [argEnv,Tryz.ntmps95,Tryz.results95]
 have hb:=Pob.bulk_eq o
 have hkp:=kplace_le o.keys key
 refine AW.rS ?_
 refine AW.rSC ?_
 refine awOps.cons (awGuard.c1 (c_slices_BinarySearch_string_string _ o.keys key (by omega) hs) ?_)
 refine awOps.rn ?_
 refine AW.rSC ?_
 refine awOps.cons (awGuard.cH [] (h_Clone_string _ o.keys) ?_)
 refine awOps.rn ?_
 refine AW.rSC ?_
 refine awOps.cons (awGuard.cH [] (h_Clone_Object _ o.kids) ?_)
 refine awOps.rn ?_
 refine AW.seq ?_
 refine AW.rS ?_
 refine AW.c2 ?_ ?_
 ·intro h13
  have hkl:=kthere_lt h13
  refine AW.rL ?_
  refine AW.rS ?_
  refine AW.rt ?_
  rw [withK_there h13]
  refine ⟨by simp [objsAV_length],?_⟩
  rw [← Pob.cells_eq v,objsAV_set,List.take_of_length_le (by simp [objsAV_length])]
  rfl
 ·intro h13
  refine AW.rSC ?_
  refine awOps.cons (awGuard.cH [4,7] (h_Ins_str _ o.keys key (kplace o.keys key) hkp) ?_)
  refine awOps.rn ?_
  refine AW.rLC ?_
  refine awOps.cons (awGuard.cH [6,9] (h_Ins_obj _ o.kids v (kplace o.keys key) (by omega)) ?_)
  refine awOps.rn ?_
  refine AW.rS ?_
  refine AW.rt ?_
  rw [withK_new h13]
  refine ⟨⟨by rw [insAt_length]; exact Nat.le_refl _,by rw [insAt_length]; exact Nat.le_refl _⟩,?_⟩
  rw [List.take_of_length_le (by rw [strsAV_length,insAt_length]; exact Nat.le_refl _),List.take_of_length_le (by rw [objsAV_length,insAt_length]; exact Nat.le_refl _)]
  rfl
theorem c_value_sound2 (gl : List (Nat × AV)) (o : Pob) (h : o.bulk ≤ 16777216) : FnP Tryz.prog (gl) 96 [.agg o.cells] fun r=>r = .ret (.tup [.agg (if chk o 1 = 0 then o else Pob.null).cells,.int .i64 (chk o 1)]):=by
 refine FnP.intro Tryz.func96 rfl rfl (by simp [Tryz.ntmps96]) ?_
 simp only [argEnv,Tryz.ntmps96,Tryz.results96]
 refine AW.rS ?_
 refine AW.seq ?_
 refine AW.rSC ?_
 refine awOps.cons (awGuard.c1 (c_value_Check _ o) ?_)
 refine awOps.rn ?_
 refine AW.rS ?_
 refine AW.c2 ?_ ?_
 ·intro h7
  refine AW.rS ?_
  refine AW.rt ?_
  rw [if_neg h7] <;> rfl
 ·intro h7
  refine AW.skip ?_
  refine AW.rS ?_
  refine AW.rt ?_
  rw [if_pos h7,h7]
theorem c_value_Dict (gl : List (Nat × AV)) (ps : List Pob) (h : ps.length + bulks ps ≤ 4000000) : FnP Tryz.prog (gl) 75 [.sl (objsAV ps)] fun r=>r = .ret (.tup [.agg (dictO ps).cells,.int .i64 (dictE ps)]):=by
 refine FnP.intro Tryz.func75 rfl rfl (by simp [Tryz.ntmps75]) ?_
 simp only [argEnv,Tryz.ntmps75,Tryz.results75]
 refine AW.rS ?_
 refine AW.seq ?_
 refine AW.rS ?_
 refine AW.c2 ?_ ?_
 ·intro h4
  refine AW.rS ?_
  refine AW.rt ?_
  have ha:=dict_arg (ps:=ps) (by simp only [dictArg,Bool.and_eq_false_iff,decide_eq_false_iff_not]; exact .inl (by omega))
  rw [ha.1,ha.2] <;> rfl
 ·intro h4
  refine AW.skip ?_
  refine AW.seq ?_
  refine AW.rS ?_
  refine AW.block ?_
  refine AW.lk (S:={ i : Nat // i % 2 = 0 ∧ i ≤ ps.length ∧ ∀ j,j < i → j % 2 = 0 → (ps.getD j Pob.null).kind = 5 }) [0,2] (fun s_=>[(4,.int .i64 s_.1)]) (fun s_=>[(0,.cells [.int .i64 0,.int .i64 0,.int .i64 0,.str [],.raw (.slice none 0 0),.raw (.slice none 0 0)])]) 1 (fun s_=>ps.length - s_.1) ⟨0,rfl,Nat.zero_le _,fun j h=>absurd h (by omega)⟩ ?_ ?_
  ·refine St.le.vw [0]
  rintro ⟨i,hi0,hi,hs⟩
  try dsimp only at hi0
  try dsimp only at hi
  try dsimp only at hs
  refine AW.seq ?_
  refine AW.rS ?_
  refine AW.c2 ?_ ?_
  ·intro h15
   refine AW.skip ?_
   refine AW.seq ?_
   refine AW.block ?_
   refine AW.rS ?_
   refine AW.c2 ?_ ?_
   ·intro h20
    refine AW.rS ?_
    refine AW.rt ?_
    have ha:=dict_arg (ps:=ps) (by simp only [dictArg,Bool.and_eq_false_iff,decide_eq_false_iff_not]; exact .inr (fun hh=>h20 (hh i h15 hi0)))
    rw [ha.1,ha.2] <;> rfl
   ·intro h20
    refine AW.skip ?_
    refine AW.rL ?_
    refine ⟨⟨i + 2,by omega,by omega,fun j hj h2=>by exact (Nat.lt_or_ge j i).elim (fun h=>hs j h h2) (fun h=>(show j = i by omega) ▸ h20)⟩,?_,?_⟩
    ·refine St.le.vw [0]
    ·simp only []; omega
  ·intro h15
   refine AW.exit ?_
   refine AW.rS ?_
   refine AW.rSC ?_
   refine awOps.cons ?_
   refine awGuard.mkS keyOk_str ?_
   refine awOps.rn ?_
   refine AW.seq ?_
   refine AW.rS ?_
   refine AW.block ?_
   refine AW.nilc 1 4 ?_
   refine AW.nilc 1 5 ?_
   refine wk ?_
   have harg : dictArg ps = true:=by
    simp only [dictArg,Bool.and_eq_true,decide_eq_true_eq]
    exact ⟨by omega,fun j hj h2=>hs j (by omega) h2⟩
   refine AW.lk (S:={ p : Nat × List (List UInt8) × Pob // p.1 % 2 = 0 ∧ p.1 ≤ ps.length ∧ incr p.2.2.keys ∧ p.2.2.keys.length = p.2.2.kids.length ∧ p.2.2.bulk ≤ 1 + 2 * bulks (ps.take p.1) ∧ dictL ps [] dict0 = dictL (ps.drop p.1) p.2.1 p.2.2 }) [0,2,5,6] (fun s_=>[(7,.int .i64 s_.1.1)]) (fun s_=>[(0,.cells [.int .i64 0,.int .i64 0,.int .i64 0,.str [],.raw (.slice none 0 0),.raw (.slice none 0 0)]),(1,.cells [.int .i64 s_.1.2.2.kind,.int .i64 s_.1.2.2.num,.int .i64 s_.1.2.2.gen,.str s_.1.2.2.str,.sl (strsAV s_.1.2.2.keys),.sl (objsAV s_.1.2.2.kids)]),(2,setOf .str s_.1.2.1)]) 3 (fun s_=>ps.length - s_.1.1) ⟨(0,[],dict0),rfl,Nat.zero_le _,fun a b h h'=>absurd h' (by simp [dict0,Pob.keys]),rfl,by simp [dict0,Pob.bulk,bulks],rfl⟩ ?_ ?_
   ·refine St.le.vw [0,1,2]
   rintro ⟨⟨i,met,q⟩,hk0,hk1,hk2,hk3,hk4,hk5⟩
   try dsimp only at hk0
   try dsimp only at hk1
   try dsimp only at hk2
   try dsimp only at hk3
   try dsimp only at hk4
   try dsimp only at hk5
   refine AW.seq ?_
   refine AW.rS ?_
   refine AW.c2 ?_ ?_
   ·intro h38
    have hb2:=bulks_take2 (ps:=ps) (i:=i) (by omega)
    have hb3:=bulks_take_le ps (i + 2)
    have hp1:=Pob.bulk_pos (ps.getD i Pob.null)
    have hw:=Pob.withK_bulk q (ps.getD i Pob.null).str (ps.getD (i + 1) Pob.null)
    have hn:=withK_incr (key:=(ps.getD i Pob.null).str) (v:=ps.getD (i + 1) Pob.null) hk2 hk3
    refine AW.skip ?_
    refine AW.seq ?_
    refine AW.block ?_
    refine AW.rS ?_
    refine AW.seq ?_
    refine AW.rSC ?_
    refine awOps.cons ?_
    refine awGuard.lkS keyOk_str ?_
    refine awOps.rn ?_
    refine AW.c2 ?_ ?_
    ·intro h47
     refine AW.rS ?_
     refine AW.rt ?_
     have hd:=dict_twice harg (by rw [hk5,dictL_drop (by omega),if_pos h47])
     rw [hd.1,hd.2] <;> rfl
    ·intro h47
     refine AW.skip ?_
     refine AW.rSC ?_
     refine awOps.cons ?_
     refine awGuard.upS keyOk_str ?_
     refine awOps.rn ?_
     refine AW.rS ?_
     refine AW.c2 ?_ ?_
     ·intro h56
      refine AW.dLC [(0,1),(1,0),(2,0),(3,0),(4,0),(5,0),(6,1),(7,2),(8,2)] ?_
      refine awPlan.only rfl ?_
      refine awGuard.c1 (c_value_with _ q (ps.getD i Pob.null).str (ps.getD (i + 1) Pob.null) (by omega) hk2 hk3) ?_
      refine awPlan.rn ?_
      refine AW.rL ?_
      refine ⟨⟨(i + 2,setAdd met (ps.getD i Pob.null).str,q.withK (ps.getD i Pob.null).str (ps.getD (i + 1) Pob.null)),by dsimp only; omega,by dsimp only; omega,hn.1,hn.2,by dsimp only; omega,by rw [hk5,dictL_drop (by omega),if_neg h47,if_pos h56]⟩,?_,?_⟩
      ·refine St.le.vw [0,1,2]
      ·simp only []; omega
     ·intro h56
      refine AW.skip ?_
      refine AW.rL ?_
      refine ⟨⟨(i + 2,setAdd met (ps.getD i Pob.null).str,q),by dsimp only; omega,by dsimp only; omega,hk2,hk3,by dsimp only; omega,by rw [hk5,dictL_drop (by omega),if_neg h47,if_neg (by simpa using h56)]⟩,?_,?_⟩
      ·refine St.le.vw [0,1,2]
      ·simp only []; omega
   ·intro h38
    refine AW.exit ?_
    have hd:=dict_some harg (o:=q) (by rw [hk5,List.drop_of_length_le (by omega)]; simp [dictL])
    refine AW.rSC ?_
    refine awOps.cons (awGuard.c1 (c_value_Clone _ q (by have:=bulks_take_le ps i; omega)) ?_)
    refine awOps.rn ?_
    refine awOps.cons (awGuard.c1 (c_value_sound2 _ q (by have:=bulks_take_le ps i; omega)) ?_)
    refine awOps.rn ?_
    refine AW.rt ?_
    rw [hd.1,hd.2]
theorem c_foliantref05_Texts (gl : List (Nat × AV)) (a b : List (List UInt8)) (ha : a.length ≤ 16777216:=by first | omega | exact u8_le _ | assumption | (simp; done) | (simp; omega)) : FnP Tryz.prog (gl) 39 [.sl (strsAV a),.sl (strsAV b)] fun r=>r = .ret (.bool (decide (a = b))):=by
 refine FnP.intro Tryz.func39 rfl rfl (by simp [Tryz.ntmps39]) ?_
 simp only [argEnv,Tryz.ntmps39,Tryz.results39]
 refine AW.rS ?_
 refine AW.seq ?_
 refine AW.rS ?_
 refine AW.c2 ?_ ?_
 ·intro h4
  refine AW.rS ?_
  refine AW.rt ?_
  rw [decide_eq_false (fun e=>h4 (by rw [e]))]
 ·intro h4
  refine AW.skip ?_
  refine AW.seq ?_
  refine AW.rS ?_
  refine AW.block ?_
  refine AW.lk (S:={ i : Nat // i ≤ a.length ∧ a.take i = b.take i }) [0,1,12] (fun s_=>[(13,.int .i64 s_.1)]) (fun s_=>[]) 0 (fun s_=>a.length - s_.1) ⟨0,Nat.zero_le _,rfl⟩ ?_ ?_
  ·refine St.le.vw []
  rintro ⟨i,hi,hs⟩
  try dsimp only at hi
  try dsimp only at hs
  refine AW.rS ?_
  refine AW.seq ?_
  refine AW.c2 ?_ ?_
  ·intro h15
   refine AW.skip ?_
   refine AW.seq ?_
   refine AW.block ?_
   refine AW.rS ?_
   refine AW.dS [(0,0),(1,0),(2,1),(3,1),(4,0),(5,0),(6,1),(7,1),(8,0)] ?_
   refine AW.c2 ?_ ?_
   ·intro h21
    refine AW.rS ?_
    refine AW.rt ?_
    rw [decide_eq_false (fun e=>h21 (by rw [e]))]
   ·intro h21
    refine AW.skip ?_
    refine AW.rL ?_
    refine ⟨⟨i + 1,by omega,takeS_succ h15 (by omega) hs h21⟩,?_,?_⟩
    ·refine St.le.vw []
    ·simp only []; omega
  ·intro h15
   refine AW.exit ?_
   refine AW.rS ?_
   refine AW.rt ?_
   rw [List.take_of_length_le (by omega),List.take_of_length_le (by omega)] at hs
   simp [hs]
theorem rlist_step (gl : List (Nat × AV)) (N : Nat) (ih : ∀ x y : Pob,x.bulk < N → FnP Tryz.prog gl 15 [.agg x.cells,.agg y.cells] fun r=>r = .ret (.bool (decide (x = y)))) (a b : List Pob) (ha : a.length ≤ 16777216) (hb : ∀ i,i < a.length → (a.getD i Pob.null).bulk < N) : FnP Tryz.prog (gl) 40 [.sl (objsAV a),.sl (objsAV b)] fun r=>r = .ret (.bool (decide (a = b))):=by
 refine FnP.intro Tryz.func40 rfl rfl (by simp [Tryz.ntmps40]) ?_
 simp only [argEnv,Tryz.ntmps40,Tryz.results40]
 refine AW.rS ?_
 refine AW.seq ?_
 refine AW.rS ?_
 refine AW.c2 ?_ ?_
 ·intro h4
  refine AW.rS ?_
  refine AW.rt ?_
  rw [decide_eq_false (fun e=>h4 (by rw [e]))]
 ·intro h4
  refine AW.skip ?_
  refine AW.seq ?_
  refine AW.rS ?_
  refine AW.block ?_
  refine AW.lk (S:={ i : Nat // i ≤ a.length ∧ a.take i = b.take i }) [0,1,12] (fun s_=>[(13,.int .i64 s_.1)]) (fun s_=>[]) 0 (fun s_=>a.length - s_.1) ⟨0,Nat.zero_le _,rfl⟩ ?_ ?_
  ·refine St.le.vw []
  rintro ⟨i,hi,hs⟩
  try dsimp only at hi
  try dsimp only at hs
  refine AW.rS ?_
  refine AW.seq ?_
  refine AW.c2 ?_ ?_
  ·intro h15
   refine AW.skip ?_
   refine AW.seq ?_
   refine AW.block ?_
   refine AW.rS ?_
   refine AW.dSC [(0,0),(1,0),(2,0),(3,1),(4,0),(5,0),(6,0),(7,1),(8,2),(9,0)] ?_
   refine awPlan.only rfl ?_
   refine awGuard.c1 (ih (a.getD i Pob.null) (b.getD i Pob.null) (hb i (by omega))) ?_
   refine awPlan.rn ?_
   refine AW.c2 ?_ ?_
   ·intro h23
    refine AW.rS ?_
    refine AW.rt ?_
    rw [decide_eq_false (fun e=>h23 (by rw [e]))]
   ·intro h23
    refine AW.skip ?_
    refine AW.rL ?_
    refine ⟨⟨i + 1,by omega,takeO_succ h15 (by omega) hs h23⟩,?_,?_⟩
    ·refine St.le.vw []
    ·simp only []; omega
  ·intro h15
   refine AW.exit ?_
   refine AW.rS ?_
   refine AW.rt ?_
   rw [List.take_of_length_le (by omega),List.take_of_length_le (by omega)] at hs
   simp [hs]
theorem rsame_step (gl : List (Nat × AV)) (N : Nat) (hN : N ≤ 16777216) (ih : ∀ x y : Pob,x.bulk < N → FnP Tryz.prog gl 15 [.agg x.cells,.agg y.cells] fun r=>r = .ret (.bool (decide (x = y)))) (a b : Pob) (ha : a.bulk ≤ N) : FnP Tryz.prog (gl) 15 [.agg a.cells,.agg b.cells] fun r=>r = .ret (.bool (decide (a = b))):=by
 refine FnP.intro Tryz.func15 rfl rfl (by simp [Tryz.ntmps15]) ?_
 simp only [argEnv,Tryz.ntmps15,Tryz.results15]
 have hbulk:=Pob.bulk_eq a
 refine AW.rS ?_
 refine AW.rSC ?_
 refine awOps.cons (awGuard.cG (fun hg=>c_foliantref05_Texts _ a.keys b.keys (by omega)) ?_)
 refine awOps.rn ?_
 refine awOps.cons (awGuard.cG (fun hg=>rlist_step _ N ih a.kids b.kids (by omega) (fun i hi=>Nat.lt_of_lt_of_le (Pob.bulk_kid hi) ha)) ?_)
 refine awOps.rn ?_
 refine AW.rt ?_
 rw [show ∀ x y : Bool,x = y → AE.ret (.bool x) = AE.ret (.bool y) from fun _ _ h=>by rw [h]]
 rw [Bool.eq_iff_iff]
 simp only [decide_eq_true_eq,Bool.cond_false_right,Bool.and_eq_true,Pob_eq a b,and_assoc]
theorem rsame_all (gl : List (Nat × AV)) (N : Nat) : N ≤ 16777216 → ∀ x y : Pob,x.bulk ≤ N → FnP Tryz.prog gl 15 [.agg x.cells,.agg y.cells] fun r=>r = .ret (.bool (decide (x = y))):=by
 induction N using Nat.strongRecOn with
 | ind N IH=>exact fun hN x y hx=>rsame_step gl N hN (fun x' y' h=>IH x'.bulk h (by omega) x' y' (Nat.le_refl _)) x y hx
theorem c_foliantref05_Same (gl : List (Nat × AV)) (x y : Pob) (h : x.bulk ≤ 16777216:=by first | assumption | omega) : FnP Tryz.prog gl 15 [.agg x.cells,.agg y.cells] fun r=>r = .ret (.bool (decide (x = y))):=rsame_all gl 16777216 (Nat.le_refl _) x y h
theorem size_step (gl : List (Nat × AV)) (N : Nat) (hN : N ≤ 16777216) (ih : ∀ o' : Pob,o'.bulk < N → o'.psize ≤ 4611686018427387904 → FnP Tryz.prog gl 8 [.agg o'.cells] fun r=>r = .ret (.int .i64 o'.psize)) (o : Pob) (ho : o.bulk ≤ N) (hp : o.psize ≤ 4611686018427387904) : FnP Tryz.prog (gl) 8 [.agg o.cells] fun r=>r = .ret (.int .i64 o.psize):=by
 refine FnP.intro Tryz.func8 rfl rfl (by simp [Tryz.ntmps8]) ?_
 simp only [argEnv,Tryz.ntmps8,Tryz.results8]
 have hb:=Pob.bulk_eq o
 have hpe:=Pob.psize_eq o
 have hk0:=ksize_nil
 have hp0:=psizes_nil
 refine AW.rS ?_
 refine AW.rS ?_
 refine AW.seq ?_
 refine AW.rS ?_
 refine AW.block ?_
 refine AW.lk (S:={ i : Nat // i ≤ o.keys.length }) [1,14,15] (fun s_=>[(3,.int .i64 ((1 + o.str.length / 50 + ksize (o.keys.take s_.1) : Nat) : Int)),(16,.int .i64 s_.1)]) (fun s_=>[(0,.cells o.cells)]) 1 (fun s_=>o.keys.length - s_.1) ⟨0,Nat.zero_le _⟩ ?_ ?_
 ·refine St.le.vw [0]
 rintro ⟨i,hi⟩
 try dsimp only at hi
 refine AW.rS ?_
 refine AW.seq ?_
 refine AW.c2 ?_ ?_
 ·intro h9
  have h1:=ksize_take h9
  have h2:=ksize_take_le o.keys (i + 1)
  refine AW.skip ?_
  refine AW.seq ?_
  refine AW.block ?_
  refine AW.rS ?_
  refine AW.rL ?_
  refine AW.rL ?_
  refine ⟨⟨i + 1,by omega⟩,?_,?_⟩
  ·refine St.le.vw [0]
  ·simp only []; omega
 ·intro h9
  refine AW.exit ?_
  obtain rfl : i = o.keys.length:=by omega
  rw [List.take_length]
  refine AW.seq ?_
  refine AW.rS ?_
  refine AW.block ?_
  refine AW.lk (S:={ i : Nat // i ≤ o.kids.length }) [27,28] (fun s_=>[(3,.int .i64 ((1 + o.str.length / 50 + ksize o.keys + psizes (o.kids.take s_.1) : Nat) : Int)),(29,.int .i64 s_.1)]) (fun s_=>[(0,.cells o.cells)]) 1 (fun s_=>o.kids.length - s_.1) ⟨0,Nat.zero_le _⟩ ?_ ?_
  ·refine St.le.vw [0]
  rintro ⟨j,hj⟩
  try dsimp only at hj
  refine AW.rS ?_
  refine AW.seq ?_
  refine AW.c2 ?_ ?_
  ·intro h24
   have h1:=psizes_take h24
   have h2:=psizes_take_le o.kids (j + 1)
   have h3:=psizes_get h24
   refine AW.skip ?_
   refine AW.seq ?_
   refine AW.block ?_
   refine AW.rS ?_
   refine AW.rLC ?_
   refine awOps.cons (awGuard.c1 (ih (o.kids.getD j Pob.null) (Nat.lt_of_lt_of_le (Pob.bulk_kid (by omega)) ho) (by omega)) ?_)
   refine awOps.rn ?_
   refine AW.rL ?_
   refine ⟨⟨j + 1,by omega⟩,?_,?_⟩
   ·refine St.le.vw [0]
   ·simp only []; omega
  ·intro h24
   refine AW.exit ?_
   refine AW.rS ?_
   refine AW.rt ?_
   obtain rfl : j = o.kids.length:=by omega
   rw [List.take_length,hpe]
theorem size_all (gl : List (Nat × AV)) (N : Nat) : N ≤ 16777216 → ∀ o : Pob,o.bulk ≤ N → o.psize ≤ 4611686018427387904 → FnP Tryz.prog gl 8 [.agg o.cells] fun r=>r = .ret (.int .i64 o.psize):=by
 induction N using Nat.strongRecOn with
 | ind N IH=>exact fun hN x hx hp=>size_step gl N hN (fun x' h hp'=>IH x'.bulk h (by omega) x' (Nat.le_refl _) hp') x hx hp
theorem c_foliantref05_Size (gl : List (Nat × AV)) (o : Pob) (h : o.bulk ≤ 16777216) (hp : o.psize ≤ 4611686018427387904) : FnP Tryz.prog gl 8 [.agg o.cells] fun r=>r = .ret (.int .i64 o.psize):=size_all gl 16777216 (Nat.le_refl _) o h hp
theorem c_docs_kind (gl : List (Nat × AV)) (o : Pob) (h : o.bulk ≤ 16777216:=by first | omega | exact u8_le _ | assumption | (simp; done) | (simp; omega)) : FnP Tryz.prog (gl) 125 [.agg o.cells] fun r=>r = .ret (.str (docKind o)):=by
 refine FnP.intro Tryz.func125 rfl rfl (by simp [Tryz.ntmps125]) ?_
 simp only [argEnv,Tryz.ntmps125,Tryz.results125]
 refine AW.rS ?_
 refine AW.rSC ?_
 refine awOps.cons (awGuard.c1 (c_value_Get ..) ?_)
 refine awOps.rn ?_
 refine AW.seq ?_
 refine AW.rS ?_
 refine AW.c2 ?_ ?_
 ·intro h7
  refine AW.rS ?_
  refine AW.rt ?_
  simp_all [docKind,typeK]
 ·intro h7
  refine AW.skip ?_
  refine AW.rS ?_
  refine AW.rt ?_
  simp_all [docKind,typeK]
theorem c_docs_holds (gl : List (Nat × AV)) (o : Pob) (h : o.bulk ≤ 16777216:=by first | omega | exact u8_le _ | assumption | (simp; done) | (simp; omega)) : FnP Tryz.prog (gl) 104 [.agg o.cells] fun r=>r = .ret (.bool (holdsB o)):=by
 refine FnP.intro Tryz.func104 rfl rfl (by simp [Tryz.ntmps104]) ?_
 simp only [argEnv,Tryz.ntmps104,Tryz.results104]
 refine AW.rS ?_
 refine AW.rSC ?_
 refine awOps.cons (awGuard.cG (fun hg=>c_docs_kind ..) ?_)
 refine awOps.rn ?_
 refine awOps.cons (awGuard.cG (fun hg=>c_docs_kind ..) ?_)
 refine awOps.rn ?_
 refine AW.rt ?_
 simp_all [holdsB]
theorem c_docs_content (gl : List (Nat × AV)) (i : Itm) (h : i.obj.bulk ≤ 16777216:=by first | omega | exact u8_le _ | assumption | (simp; done) | (simp; omega)) : FnP Tryz.prog (gl) 89 [.agg i.cells] fun r=>r = .ret (.int .i64 (contentE i)):=by
 refine FnP.intro Tryz.func89 rfl rfl (by simp [Tryz.ntmps89]) ?_
 simp only [argEnv,Tryz.ntmps89,Tryz.results89]
 refine AW.rS ?_
 refine AW.seq ?_
 refine AW.rSC ?_
 refine awOps.cons (awGuard.c1 (c_value_Check _ i.obj) ?_)
 refine awOps.rn ?_
 refine AW.rS ?_
 refine AW.c2 ?_ ?_
 ·intro h7
  refine AW.rS ?_
  refine AW.rt ?_
  ·rw [content_bad h7]
  all_goals first | contradiction | rfl | (simp; done) | (simp; omega)
 ·intro h7
  refine AW.skip ?_
  refine AW.seq ?_
  refine AW.rSC ?_
  refine awOps.cons (awGuard.cG (fun hg=>c_docs_holds _ i.obj) ?_)
  refine awOps.rn ?_
  refine AW.c2 ?_ ?_
  ·intro h16
   refine AW.rS ?_
   refine AW.rt ?_
   simp only [contentE]; simp_all
  ·intro h16
   refine AW.skip ?_
   refine AW.rS ?_
   refine AW.rt ?_
   simp only [contentE]; simp_all
theorem c_docs_alone (gl : List (Nat × AV)) (i : Itm) (h : i.obj.bulk ≤ 16777216:=by first | omega | exact u8_le _ | assumption | (simp; done) | (simp; omega)) : FnP Tryz.prog (gl) 116 [.agg i.cells] fun r=>r = .ret (.int .i64 (aloneE i)):=by
 refine FnP.intro Tryz.func116 rfl rfl (by simp [Tryz.ntmps116]) ?_
 simp only [argEnv,Tryz.ntmps116,Tryz.results116]
 refine AW.rS ?_
 refine AW.seq ?_
 refine AW.rSC ?_
 refine awOps.cons (awGuard.c1 (c_docs_numbers _ i) ?_)
 refine awOps.rn ?_
 refine AW.c2 ?_ ?_
 ·intro h6
  refine AW.rS ?_
  refine AW.rt ?_
  rw [aloneE,if_pos (nums_no h6)]
 ·intro h6
  refine AW.skip ?_
  refine AW.rSC ?_
  refine awOps.cons (awGuard.c1 (c_docs_content _ i) ?_)
  refine awOps.rn ?_
  refine AW.rt ?_
  rw [aloneE,if_neg (by rw [nums_yes h6]; simp)]
theorem c_docs_items (gl : List (Nat × AV)) (l : List Itm) (h : ibulk l ≤ 16777216) : FnP Tryz.prog (gl) 68 [.sl (itemsAV l)] fun r=>r = .ret (.int .i64 (itemsE l)):=by
 refine FnP.intro Tryz.func68 rfl rfl (by simp [Tryz.ntmps68]) ?_
 simp only [argEnv,Tryz.ntmps68,Tryz.results68]
 have hlen:=ibulk_len l
 refine AW.rS ?_
 refine AW.seq ?_
 refine AW.rS ?_
 refine AW.block ?_
 refine AW.lk (S:={ k : Nat // k ≤ l.length ∧ itemsE l = itemsFrom l k (l.length - k) }) [0,6,7] (fun s_=>[(8,.int .i64 s_.1)]) (fun s_=>[]) 0 (fun s_=>l.length - s_.1) ⟨0,Nat.zero_le _,rfl⟩ ?_ ?_
 ·refine St.le.vw []
 rintro ⟨k,hk,hs⟩
 try dsimp only at hk
 try dsimp only at hs
 refine AW.rS ?_
 refine AW.seq ?_
 refine AW.c2 ?_ ?_
 ·intro h8
  have hgb:=ibulk_get (l:=l) (i:=k) (by omega)
  refine AW.skip ?_
  refine AW.seq ?_
  refine AW.block ?_
  refine AW.rS ?_
  refine AW.seq ?_
  refine AW.block ?_
  refine AW.rSC ?_
  refine awOps.cons (awGuard.c1 (c_docs_numbers _ (l.getD k Itm.zero)) ?_)
  refine awOps.rn ?_
  refine AW.c2 ?_ ?_
  ·intro h18
   refine AW.rS ?_
   refine AW.rt ?_
   rw [hs,itemsFrom_step h8,if_pos (nums_no h18)]
  ·intro h18
   refine AW.dS [(0,0),(1,0),(2,0),(3,0),(4,1),(5,0),(6,0),(7,0),(8,1),(9,0),(10,1),(11,0),(12,0),(13,0)] ?_
   refine AW.c2 ?_ ?_
   ·intro h23
    refine AW.rS ?_
    refine AW.rt ?_
    rw [hs,itemsFrom_step h8,if_neg (by rw [nums_yes h18]; simp),if_pos (by omega)]
   ·intro h23
    refine AW.skip ?_
    refine AW.rSC ?_
    refine awOps.cons (awGuard.c1 (c_docs_content _ (l.getD k Itm.zero)) ?_)
    refine awOps.rn ?_
    refine AW.rS ?_
    refine AW.c2 ?_ ?_
    ·intro h32
     refine AW.rS ?_
     refine AW.rt ?_
     rw [hs,itemsFrom_step h8,if_neg (by rw [nums_yes h18]; simp),if_neg (by omega),if_pos h32]
    ·intro h32
     refine AW.skip ?_
     refine AW.rL ?_
     refine ⟨⟨k + 1,by omega,by rw [hs,itemsFrom_step (by omega),if_neg (by rw [nums_yes h18]; simp),if_neg (by omega),if_neg (by simpa using h32)]⟩,?_,?_⟩
     ·refine St.le.vw []
     ·simp only []; omega
 ·intro h8
  refine AW.exit ?_
  refine AW.rS ?_
  refine AW.rt ?_
  rw [hs,show l.length - k = 0 from by omega,itemsFrom]
theorem c_docs_Follow_1 (gl : List (Nat × AV)) (i : Itm) (o : Pob) : FnP Tryz.prog (gl) 84 [.agg i.cells,.tptr o.cells] fun r=>r = .ret (.bool (decide (i.num = o.num))):=by
 refine FnP.intro Tryz.func84 rfl rfl (by simp [Tryz.ntmps84]) ?_
 simp only [argEnv,Tryz.ntmps84,Tryz.results84]
 refine AW.rS ?_
 refine AW.rS ?_
 refine AW.rt ?_
 all_goals first | contradiction | rfl | (simp; done) | (simp; omega)
theorem c_IndexFunc_Follow (gl : List (Nat × AV)) (l : List Itm) (o : Pob) (hl : l.length ≤ 16777216:=by first | omega | exact u8_le _ | assumption | (simp; done) | (simp; omega)) : FnP Tryz.prog (gl) 83 [.sl (itemsAV l),.clos 84 [.tptr o.cells]] fun r=>r = .ret (.int .i64 (iidxI l o.num)):=by
 refine FnP.intro Tryz.func83 rfl rfl (by simp [Tryz.ntmps83]) ?_
 simp only [argEnv,Tryz.ntmps83,Tryz.results83]
 refine AW.rS ?_
 refine AW.seq ?_
 refine AW.rS ?_
 refine AW.block ?_
 refine AW.lk (S:={ i : Nat // i ≤ l.length ∧ ∀ j,j < i → (l.getD j Itm.zero).num ≠ o.num }) [0,1,7] (fun s_=>[(8,.int .i64 s_.1)]) (fun s_=>[]) 0 (fun s_=>l.length - s_.1) ⟨0,Nat.zero_le _,fun j h=>absurd h (by omega)⟩ ?_ ?_
 ·refine St.le.vw []
 rintro ⟨i,hi,hs⟩
 try dsimp only at hi
 try dsimp only at hs
 refine AW.rS ?_
 refine AW.seq ?_
 refine AW.c2 ?_ ?_
 ·intro h8
  refine AW.skip ?_
  refine AW.seq ?_
  refine AW.block ?_
  refine AW.rS ?_
  refine AW.rSC ?_
  refine awOps.cons (awGuard.c1 (c_docs_Follow_1 _ (l.getD i Itm.zero) o) ?_)
  refine awOps.rn ?_
  refine AW.c2 ?_ ?_
  ·intro h16
   refine AW.rS ?_
   refine AW.rt ?_
   rw [iidx_hit h8 hs h16]
  ·intro h16
   refine AW.skip ?_
   refine AW.rL ?_
   refine ⟨⟨i + 1,by omega,fun j hj=>(Nat.lt_or_ge j i).elim (hs j) (fun h=>(show j = i by omega) ▸ h16)⟩,?_,?_⟩
   ·refine St.le.vw []
   ·simp only []; omega
 ·intro h8
  refine AW.exit ?_
  refine AW.rS ?_
  refine AW.rt ?_
  rw [iidx_miss (fun j hj=>hs j (by omega))]
theorem c_docs_Follow (gl : List (Nat × AV)) (d : Dc) (o : Pob) (h : d.bulk ≤ 16777216:=by first | omega | exact u8_le _ | assumption | (simp; done) | (simp; omega)) (ho : o.bulk ≤ 16777216:=by first | omega | exact u8_le _ | assumption | (simp; done) | (simp; omega)) : FnP Tryz.prog (gl) 58 [.agg d.cells,.agg o.cells] fun r=>r = .ret (.agg (followO d o).cells):=by
 refine FnP.intro Tryz.func58 rfl rfl (by simp [Tryz.ntmps58]) ?_
 simp only [argEnv,Tryz.ntmps58,Tryz.results58]
 have hlen:=ibulk_len d.items
 have hlt:=iidxI_lt (l:=d.items) (n:=o.num)
 simp only [Dc.bulk] at h
 refine AW.rS ?_
 refine AW.seq ?_
 refine AW.rS ?_
 refine AW.c2 ?_ ?_
 ·intro h4
  refine AW.rSC ?_
  refine awOps.cons (awGuard.c1 (c_value_Clone _ o ho) ?_)
  refine awOps.rn ?_
  refine AW.rt ?_
  rw [followO,if_pos h4]
 ·intro h4
  refine AW.skip ?_
  refine AW.rSC ?_
  refine awOps.cons (awGuard.c1 (c_IndexFunc_Follow _ d.items o (by omega)) ?_)
  refine awOps.rn ?_
  refine AW.seq ?_
  by_cases hs15 : 0 ≤ iidxI d.items o.num
  ·skip
   refine AW.dS [(0,0),(1,0),(2,0),(3,0),(4,1),(5,0),(6,1),(7,0),(8,1),(9,0),(10,1),(11,0),(12,0)] ?_
   refine AW.c2 ?_ ?_
   ·intro h16
    refine AW.rS ?_
    refine AW.rt ?_
    have hf : followO d o = Pob.null:=by simp only [followO]; grind
    rw [hf] <;> rfl
   ·intro h16
    refine AW.skip ?_
    refine AW.rSC ?_
    refine awOps.cons (awGuard.c1 (c_value_Clone _ (d.items.getD (iidxI d.items o.num).toNat Itm.zero).obj (by have:=ibulk_get (l:=d.items) (i:=(iidxI d.items o.num).toNat) (by omega); omega)) ?_)
    refine awOps.rn ?_
    refine AW.rt ?_
    have hf : followO d o = (d.items.getD (iidxI d.items o.num).toNat Itm.zero).obj:=by simp only [followO]; grind
    rw [hf]
  ·skip
   by_cases hs15 : 0 < d.items.length
   ·skip
    refine AW.dS [(0,0),(1,0),(2,0),(3,0),(4,1),(5,0),(6,1),(7,0),(8,1),(9,0),(10,1),(11,0),(12,0)] ?_
    refine AW.c2 ?_ ?_
    ·intro h16
     refine AW.rS ?_
     refine AW.rt ?_
     have hf : followO d o = Pob.null:=by simp only [followO]; grind
     rw [hf] <;> rfl
    ·intro h16
     exfalso; first | omega | (simp at h16; omega)
   ·skip
    refine AW.dS [(0,0),(1,0),(2,0),(3,0),(4,1),(5,0),(6,1),(7,0),(8,1),(9,0),(10,1),(11,0),(12,0)] ?_
    refine AW.c2 ?_ ?_
    ·intro h16
     refine AW.rS ?_
     refine AW.rt ?_
     have hf : followO d o = Pob.null:=by simp only [followO]; grind
     rw [hf] <;> rfl
    ·intro h16
     exfalso; first | omega | (simp at h16; omega)
theorem c_cmp_isNaN_int (gl : List (Nat × AV)) (n : Int) : FnP Tryz.prog (gl) 151 [.int .i64 n] fun r=>r = .ret (.bool false):=by
 refine FnP.intro Tryz.func151 rfl rfl (by simp [Tryz.ntmps151]) ?_
 simp only [argEnv,Tryz.ntmps151,Tryz.results151]
 refine AW.rS ?_
 refine AW.rS ?_
 refine AW.rt ?_
 all_goals first | contradiction | rfl | (simp; done) | (simp; omega)
theorem c_cmp_Compare_int (gl : List (Nat × AV)) (x y : Int) : FnP Tryz.prog (gl) 145 [.int .i64 x,.int .i64 y] fun r=>r = .ret (.int .i64 (cmpI x y)):=by
 refine FnP.intro Tryz.func145 rfl rfl (by simp [Tryz.ntmps145]) ?_
 simp only [argEnv,Tryz.ntmps145,Tryz.results145]
 refine AW.rS ?_
 refine AW.rSC ?_
 refine awOps.cons (awGuard.c1 (c_cmp_isNaN_int _ x) ?_)
 refine awOps.rn ?_
 refine AW.rSC ?_
 refine awOps.cons (awGuard.c1 (c_cmp_isNaN_int _ y) ?_)
 refine awOps.rn ?_
 refine AW.seq ?_
 refine AW.rS ?_
 refine AW.c2 ?_ ?_
 ·intro h10
  refine AW.seq ?_
  refine AW.rS ?_
  refine AW.c2 ?_ ?_
  ·intro h13
   refine AW.rS ?_
   refine AW.rt ?_
   all_goals first | contradiction | rfl | (simp; done) | (simp; omega)
  ·intro h13
   refine AW.skip ?_
   refine AW.rS ?_
   refine AW.rt ?_
   all_goals first | contradiction | rfl | (simp; done) | (simp; omega)
 ·intro h10
  refine AW.skip ?_
  refine AW.seq ?_
  refine AW.rS ?_
  refine AW.c2 ?_ ?_
  ·intro h24
   refine AW.rS ?_
   refine AW.rt ?_
   all_goals first | contradiction | rfl | (simp; done) | (simp; omega)
  ·intro h24
   refine AW.skip ?_
   refine AW.seq ?_
   refine AW.rS ?_
   refine AW.c2 ?_ ?_
   ·intro h31
    refine AW.rS ?_
    refine AW.rt ?_
    rw [cmpI,if_pos h31]
   ·intro h31
    refine AW.skip ?_
    refine AW.seq ?_
    refine AW.rS ?_
    refine AW.c2 ?_ ?_
    ·intro h38
     refine AW.rS ?_
     refine AW.rt ?_
     rw [cmpI,if_neg (by omega),if_pos h38]
    ·intro h38
     refine AW.skip ?_
     refine AW.rS ?_
     refine AW.rt ?_
     rw [cmpI,if_neg (by omega),if_neg (by omega)]
theorem c_docs_byNum (gl : List (Nat × AV)) (i : Itm) (n : Int) : FnP Tryz.prog (gl) 137 [.agg i.cells,.int .i64 n] fun r=>r = .ret (.int .i64 (cmpI i.num n)):=by
 refine FnP.intro Tryz.func137 rfl rfl (by simp [Tryz.ntmps137]) ?_
 simp only [argEnv,Tryz.ntmps137,Tryz.results137]
 refine AW.rS ?_
 refine AW.rSC ?_
 refine awOps.cons (awGuard.c1 (c_cmp_Compare_int _ i.num n) ?_)
 refine awOps.rn ?_
 refine AW.rt ?_
 all_goals first | contradiction | rfl | (simp; done) | (simp; omega)
theorem cmpI_neg {x y : Int} : (cmpI x y < 0) = (x < y):=by
 unfold cmpI
 by_cases h : x < y
 ·simp [h]
 ·by_cases h' : y < x <;> simp [h,h']
theorem cmpI_zero {x y : Int} : (cmpI x y = 0) = (x = y):=by
 unfold cmpI
 by_cases h : x < y
 ·simp [h]; omega
 ·by_cases h' : y < x
  ·simp [h,h']; omega
  ·simp [h,h']; omega
theorem h_BinSearch_Item (gl : List (Nat × AV)) (l : List Itm) (q : Int) (hl : l.length ≤ 16777216:=by first | omega | exact u8_le _ | assumption | (simp; done) | (simp; omega)) (hs : incrN l:=by first | omega | exact u8_le _ | assumption | (simp; done) | (simp; omega)) : FnH Tryz.prog (gl) 136 [.row 0 0 l.length,.int .i64 q,.clos 137 []] ([(0,.row 8 (itemsAV l) true)]) 1 (fun r h n=>r = .ret (.tup [.int .i64 (iplace l q),.bool (ithere l q)]) ∧ h = [(0,.row 8 (itemsAV l) true)] ∧ n = 1):=by
 refine FnH.intro Tryz.func136 rfl rfl (by simp [Tryz.ntmps136]) ?_
 simp only [argEnv,Tryz.ntmps136,Tryz.results136]
 refine AW.rS ?_
 refine AW.rS ?_
 refine AW.rS ?_
 refine AW.seq ?_
 refine AW.block ?_
 refine AW.lk (S:={ p : Nat × Nat // p.1 ≤ p.2 ∧ p.2 ≤ l.length ∧ (∀ a,a < p.1 → (l.getD a Itm.zero).num < q) ∧ (∀ a,p.2 ≤ a → a < l.length → q ≤ (l.getD a Itm.zero).num) }) [0,1,2,8] (fun s_=>[(9,.int .i64 s_.1.1),(10,.int .i64 s_.1.2)]) (fun s_=>[(0,.row 8 (itemsAV l) true)]) 1 (fun s_=>s_.1.2 - s_.1.1) ⟨(0,l.length),Nat.zero_le _,Nat.le_refl _,fun a h=>absurd h (by omega),fun a h h'=>absurd h' (by omega)⟩ ?_ ?_
 ·refine St.le.vw [0]
 rintro ⟨⟨i,j⟩,h1,h2,h3,h4⟩
 try dsimp only at h1
 try dsimp only at h2
 try dsimp only at h3
 try dsimp only at h4
 refine AW.seq ?_
 refine AW.rS ?_
 refine AW.c2 ?_ ?_
 ·intro h9
  refine AW.skip ?_
  refine AW.block ?_
  refine AW.rS ?_
  refine AW.rSC ?_
  refine awOps.cons (awGuard.c1 (c_docs_byNum _ (l.getD ((i + j) / 2) Itm.zero) q) ?_)
  refine awOps.rn ?_
  refine AW.c2 ?_ ?_
  ·intro h16
   rw [cmpI_neg] at h16
   refine AW.rL ?_
   refine ⟨⟨((i + j) / 2 + 1,j),by dsimp only; omega,h2,fun a ha=>ibs_lo hs h16 (by omega) (by dsimp only at ha; omega),h4⟩,?_,?_⟩
   ·refine St.le.vw [0]
   ·simp only []; omega
  ·intro h16
   have h16' : q ≤ (l.getD ((i + j) / 2) Itm.zero).num:=by have:=@cmpI_neg (l.getD ((i + j) / 2) Itm.zero).num q; by_cases hh : (l.getD ((i + j) / 2) Itm.zero).num < q; rw [← this] at hh; omega; omega
   refine AW.rL ?_
   refine ⟨⟨(i,(i + j) / 2),by dsimp only; omega,by dsimp only; omega,h3,fun a ha hb=>ibs_hi hs h16' (by dsimp only at ha; omega) hb⟩,?_,?_⟩
   ·refine St.le.vw [0]
   ·simp only []; omega
 ·intro h9
  refine AW.exit ?_
  obtain rfl : i = j:=by omega
  have hkp:=iplace_eq h2 h3 (fun h=>h4 _ (Nat.le_refl _) h)
  by_cases hs22 : i < l.length
  ·skip
   refine AW.rSC ?_
   refine awOps.cons (awGuard.cG (fun hg=>c_docs_byNum _ (l.getD i Itm.zero) q) ?_)
   refine awOps.rn ?_
   refine AW.rt ?_
   rw [ithere_eq hkp,hkp]
   simp [hs22,cmpI_zero]
  ·skip
   refine AW.rSC ?_
   refine awOps.cons (awGuard.gF (.int .i64 0) ?_ ?_)
   ·simp [hs22]
   refine awOps.rn ?_
   refine AW.rt ?_
   rw [ithere_eq hkp,hkp]
   simp [hs22,cmpI_zero]
theorem c_docs_known (gl : List (Nat × AV))  : FnP Tryz.prog (gl) 91 [] fun r=>r = .ret (.sl (strsAV trailK)):=by
 refine FnP.intro Tryz.func91 rfl rfl (by simp [Tryz.ntmps91]) ?_
 simp only [argEnv,Tryz.ntmps91,Tryz.results91]
 refine AW.rS ?_
 refine AW.rS ?_
 refine AW.rt ?_
 all_goals first | contradiction | rfl | (simp; done) | (simp; omega)
theorem c_slices_Contains_string_string (gl : List (Nat × AV)) (ks : List (List UInt8)) (k : List UInt8) (h : ks.length ≤ 16777216:=by first | omega | exact u8_le _ | assumption | (simp; done) | (simp; omega)) : FnP Tryz.prog (gl) 90 [.sl (strsAV ks),.str k] fun r=>r = .ret (.bool (decide (0 ≤ kidxI ks k))):=by
 refine FnP.intro Tryz.func90 rfl rfl (by simp [Tryz.ntmps90]) ?_
 simp only [argEnv,Tryz.ntmps90,Tryz.results90]
 refine AW.rS ?_
 refine AW.rSC ?_
 refine awOps.cons (awGuard.c1 (c_slices_Index_string_string _ ks k) ?_)
 refine awOps.rn ?_
 refine AW.rt ?_
 all_goals first | contradiction | rfl | (simp; done) | (simp; omega)
theorem c_docs_trail (gl : List (Nat × AV)) (d : Dc) (h : d.bulk ≤ 16777216:=by first | omega | exact u8_le _ | assumption | (simp; done) | (simp; omega)) : FnP Tryz.prog (gl) 69 [.agg d.cells] fun r=>r = .ret (.int .i64 (trailE d)):=by
 refine FnP.intro Tryz.func69 rfl rfl (by simp [Tryz.ntmps69]) ?_
 simp only [argEnv,Tryz.ntmps69,Tryz.results69]
 have h0:=h
 simp only [Dc.bulk] at h
 have hkb:=Pob.bulk_eq d.trailer
 have hrb:=get_bulk d.trailer rootK
 refine AW.rS ?_
 refine AW.seq ?_
 refine AW.rSC ?_
 refine awOps.cons (awGuard.c1 (c_value_Check _ d.trailer) ?_)
 refine awOps.rn ?_
 refine AW.rS ?_
 refine AW.c2 ?_ ?_
 ·intro h7
  refine AW.rS ?_
  refine AW.rt ?_
  rw [trail_bad h7]
 ·intro h7
  refine AW.skip ?_
  refine AW.seq ?_
  refine AW.rS ?_
  refine AW.c2 ?_ ?_
  ·intro h14
   refine AW.rS ?_
   refine AW.rt ?_
   rw [trail_kind h7 h14]
  ·intro h14
   refine AW.skip ?_
   refine AW.seq ?_
   refine AW.rS ?_
   refine AW.block ?_
   refine AW.lk (S:={ i : Nat // i ≤ d.trailer.keys.length ∧ ∀ j,j < i → 0 ≤ kidxI trailK (d.trailer.keys.getD j []) }) [1,20,21] (fun s_=>[(22,.int .i64 s_.1)]) (fun s_=>[(0,.cells d.cells)]) 1 (fun s_=>d.trailer.keys.length - s_.1) ⟨0,Nat.zero_le _,fun j h=>absurd h (by omega)⟩ ?_ ?_
   ·refine St.le.vw [0]
   rintro ⟨i,hi,hs⟩
   try dsimp only at hi
   try dsimp only at hs
   refine AW.rS ?_
   refine AW.seq ?_
   refine AW.c2 ?_ ?_
   ·intro h25
    refine AW.skip ?_
    refine AW.seq ?_
    refine AW.block ?_
    refine AW.rS ?_
    refine AW.rSC ?_
    refine awOps.cons (awGuard.c1 (c_docs_known ..) ?_)
    refine awOps.rn ?_
    refine awOps.cons (awGuard.c1 (c_slices_Contains_string_string _ trailK (d.trailer.keys.getD i []) (by decide)) ?_)
    refine awOps.rn ?_
    refine AW.c2 ?_ ?_
    ·intro h35
     refine AW.rS ?_
     refine AW.rt ?_
     rw [trail_key h7 h14 (fun hh=>by have:=hh i h25; omega)]
    ·intro h35
     refine AW.skip ?_
     refine AW.rL ?_
     refine ⟨⟨i + 1,by omega,fun j hj=>(Nat.lt_or_ge j i).elim (hs j) (fun h=>(show j = i by omega) ▸ h35)⟩,?_,?_⟩
     ·refine St.le.vw [0]
     ·simp only []; omega
   ·intro h25
    refine AW.exit ?_
    have htk : trailOk d.trailer.keys:=fun j hj=>hs j (by omega)
    refine AW.rSC ?_
    refine awOps.cons (awGuard.c1 (c_value_Get _ d.trailer rootK) ?_)
    refine awOps.rn ?_
    refine AW.seq ?_
    refine AW.rSC ?_
    refine awOps.cons (awGuard.cG (fun hg=>c_docs_Follow _ d (getO d.trailer rootK) h0 (by omega)) ?_)
    refine awOps.rn ?_
    refine AW.c2 ?_ ?_
    ·intro h50
     refine AW.rS ?_
     refine AW.rt ?_
     rw [trail_root h7 h14 htk,if_pos h50]
    ·intro h50
     refine AW.skip ?_
     refine AW.rS ?_
     refine AW.rt ?_
     rw [trail_root h7 h14 htk,if_neg (by simp [h50])]
theorem c_docs_Check (gl : List (Nat × AV)) (d : Dc) (h : d.bulk ≤ 16777216:=by first | omega | exact u8_le _ | assumption | (simp; done) | (simp; omega)) : FnP Tryz.prog (gl) 41 [.agg d.cells] fun r=>r = .ret (.int .i64 (docE d)):=by
 refine FnP.intro Tryz.func41 rfl rfl (by simp [Tryz.ntmps41]) ?_
 simp only [argEnv,Tryz.ntmps41,Tryz.results41]
 refine AW.rS ?_
 refine AW.seq ?_
 refine AW.rSC ?_
 refine awOps.cons (awGuard.c1 (c_docs_items _ d.items (by simp only [Dc.bulk] at h; omega)) ?_)
 refine awOps.rn ?_
 refine AW.rS ?_
 refine AW.c2 ?_ ?_
 ·intro h7
  refine AW.rS ?_
  refine AW.rt ?_
  rw [doc_bad h7]
 ·intro h7
  refine AW.skip ?_
  refine AW.rSC ?_
  refine awOps.cons (awGuard.c1 (c_docs_trail _ d h) ?_)
  refine awOps.rn ?_
  refine AW.rt ?_
  rw [doc_trail h7]
theorem h_docs_fresh (gl : List (Nat × AV)) (d : Dc) (h : d.bulk ≤ 16777216:=by first | omega | exact u8_le _ | assumption | (simp; done) | (simp; omega)) : FnH Tryz.prog (gl) 117 [.agg d.cells] ([]) 0 (fun r h n=>r = .ret (.agg [.row 1 0 d.items.length,.int .i64 d.trailer.kind,.int .i64 d.trailer.num,.int .i64 d.trailer.gen,.str d.trailer.str,.sl (strsAV d.trailer.keys),.sl (objsAV d.trailer.kids)]) ∧ h = [(0,.cells [.row 1 0 d.items.length,.int .i64 d.trailer.kind,.int .i64 d.trailer.num,.int .i64 d.trailer.gen,.str d.trailer.str,.sl (strsAV d.trailer.keys),.sl (objsAV d.trailer.kids)]),(1,.row 8 (itemsAV d.items) true)] ∧ n = 2):=by
 refine FnH.intro Tryz.func117 rfl rfl (by simp [Tryz.ntmps117]) ?_
 simp only [argEnv,Tryz.ntmps117,Tryz.results117]
 simp only [Dc.bulk] at h
 have hlen:=ibulk_len d.items
 refine AW.rS ?_
 refine AW.rSC ?_
 refine awOps.cons (awGuard.c1 (c_value_Clone _ d.trailer) ?_)
 refine awOps.rn ?_
 refine AW.seq ?_
 refine AW.rS ?_
 refine AW.block ?_
 refine AW.pre (St.le.nilcell 2 0 8 (by (simp only [go_sem,seval]; iterate 2 try (simp (disch:=omega) only [zq]; try simp only [go_sem,seval])); exact rfl) (by exact rfl)) ?_
 refine wk ?_
 refine AW.lk (S:={ i : Nat // i ≤ d.items.length }) [2,3,11,12] (fun s_=>[(13,.int .i64 s_.1)]) (fun s_=>[(0,.cells d.cells),(1,.cells [.raw (.slice none 0 0),.int .i64 0,.int .i64 0,.int .i64 0,.str [],.raw (.slice none 0 0),.raw (.slice none 0 0)]),(2,.cells [.row 3 0 s_.1,.int .i64 d.trailer.kind,.int .i64 d.trailer.num,.int .i64 d.trailer.gen,.str d.trailer.str,.sl (strsAV d.trailer.keys),.sl (objsAV d.trailer.kids)]),(3,.row 8 (itemsAV (d.items.take s_.1)) true)]) 4 (fun s_=>d.items.length - s_.1) ⟨0,Nat.zero_le _⟩ ?_ ?_
 ·refine St.le.vw [0,1,2,3]
 rintro ⟨i,hi⟩
 try dsimp only at hi
 refine AW.rS ?_
 refine AW.seq ?_
 refine AW.c2 ?_ ?_
 ·intro h11
  have hgb:=ibulk_get (l:=d.items) (i:=i) (by omega)
  refine AW.skip ?_
  refine AW.seq ?_
  refine AW.block ?_
  refine AW.rS ?_
  refine AW.fL [0,1,2,3,4] [(5,2),(6,2),(7,2)] ?_
  refine awFun.rn ?_
  refine awFun.c1 [19] (c_docs_copied _ (d.items.getD i Itm.zero)) ?_
  refine awFun.rn ?_
  refine awFun.bs [20] ?_
  refine awFun.rn ?_
  rw [Aw.awFun_nil]
  refine awPlan.rn ?_
  refine AW.rL ?_
  refine ⟨⟨i + 1,by omega⟩,?_,?_⟩
  ·refine St.le.vx [0,1,2,5] ?_
   have hsn:=itemsAV_snoc' d.items i h11; rw [List.take_of_length_le (by rw [itemsAV_length,List.length_take]; omega),hsn]
  ·simp only []; omega
 ·intro h11
  refine AW.exit ?_
  obtain rfl : i = d.items.length:=by omega
  rw [List.take_length]
  refine AW.rS ?_
  refine AW.vw [1,3] [(2,.ptr 0 0)] [(0,.cells [.row 1 0 d.items.length,.int .i64 d.trailer.kind,.int .i64 d.trailer.num,.int .i64 d.trailer.gen,.str d.trailer.str,.sl (strsAV d.trailer.keys),.sl (objsAV d.trailer.kids)]),(1,.row 8 (itemsAV d.items) true)] ?_
  refine AW.rt ?_
  all_goals first | contradiction | rfl | (simp; done) | (simp; omega)
theorem h_docs_lay (gl : List (Nat × AV)) (l : List Itm) (i : Itm) (hl : l.length ≤ 16777216:=by first | omega | exact u8_le _ | assumption | (simp; done) | (simp; omega)) (hb : i.obj.bulk ≤ 16777216:=by first | omega | exact u8_le _ | assumption | (simp; done) | (simp; omega)) (hs : incrN l:=by first | omega | exact u8_le _ | assumption | (simp; done) | (simp; omega)) : FnH Tryz.prog (gl) 118 [.row 0 0 l.length,.agg i.cells] ([(0,.row 8 (itemsAV l) true)]) 1 (fun r h n=>r = .ret (.row 1 0 (layI l i).length) ∧ h = [(1,.row 8 (itemsAV (layI l i)) true)] ∧ n = 2):=by
 refine FnH.intro Tryz.func118 rfl rfl (by simp [Tryz.ntmps118]) ?_
 simp only [argEnv,Tryz.ntmps118,Tryz.results118]
 refine AW.rS ?_
 refine AW.rSC ?_
 refine awOps.cons (awGuard.cH [0] (h_BinSearch_Item _ l i.num) ?_)
 refine awOps.rn ?_
 refine AW.seq ?_
 refine AW.rS ?_
 refine AW.c2 ?_ ?_
 ·intro h7
  have hlt:=ithere_lt h7
  have hset : layI l i = l.set (iplace l i.num) i:=by rw [layI,if_pos h7]
  refine AW.rSC ?_
  refine awOps.cons (awGuard.c1 (c_docs_copied _ i) ?_)
  refine awOps.rn ?_
  refine AW.rS ?_
  rw [hset]
  refine AW.rnm 4 ?_
  refine wk ?_
  refine AW.vw [0,2] [(4,.row 1 0 l.length)] [(1,.row 8 ((itemsAV l).set (iplace l i.num) i.cells) true)] ?_
  refine AW.rt ?_
  rw [itemsAV_set',List.length_set]
  exact ⟨rfl,rfl⟩
 ·intro h7
  refine AW.skip ?_
  refine AW.rSC ?_
  refine awOps.cons (awGuard.c1 (c_docs_copied _ i) ?_)
  refine awOps.rn ?_
  refine awOps.cons (awGuard.cH [0,2] (h_Ins_itm _ l i (iplace l i.num) (iplace_le _ _)) ?_)
  refine awOps.rn ?_
  have hins : layI l i = insAt l (iplace l i.num) i:=by rw [layI,if_neg (by simp [h7])]
  rw [hins]
  refine AW.vw [0,3] [(4,.row 1 0 (l.length + 1))] [(1,.row 8 (itemsAV (insAt l (iplace l i.num) i)) true)] ?_
  refine AW.rt ?_
  all_goals simp [insAt_length]
theorem c_docs_told (gl : List (Nat × AV)) (d : Dc) (h : d.bulk ≤ 16777216:=by first | omega | exact u8_le _ | assumption | (simp; done) | (simp; omega)) : FnP Tryz.prog (gl) 119 [.agg d.cells] fun r=>r = .ret (.tup [.agg (if docE d = 0 then d else Dc.zero).cells,.int .i64 (docE d)]):=by
 refine FnP.intro Tryz.func119 rfl rfl (by simp [Tryz.ntmps119]) ?_
 simp only [argEnv,Tryz.ntmps119,Tryz.results119]
 refine AW.rS ?_
 refine AW.seq ?_
 refine AW.rSC ?_
 refine awOps.cons (awGuard.c1 (c_docs_Check _ d) ?_)
 refine awOps.rn ?_
 refine AW.rS ?_
 refine AW.c2 ?_ ?_
 ·intro h7
  refine AW.rS ?_
  refine AW.rt ?_
  rw [if_neg h7] <;> rfl
 ·intro h7
  refine AW.skip ?_
  refine AW.rS ?_
  refine AW.rt ?_
  rw [if_pos h7,h7]
theorem c_docs_Put (gl : List (Nat × AV)) (d : Dc) (i : Itm) (h : d.bulk + i.obj.bulk ≤ 16777000:=by first | omega | exact u8_le _ | assumption | (simp; done) | (simp; omega)) : FnP Tryz.prog (gl) 97 [.agg d.cells,.agg i.cells] fun r=>r = .ret (.tup [.agg (putO d i).cells,.int .i64 (putE d i)]):=by
 refine FnP.intro Tryz.func97 rfl rfl (by simp [Tryz.ntmps97]) ?_
 simp only [argEnv,Tryz.ntmps97,Tryz.results97]
 have hlen:=ibulk_len d.items
 have hlb:=layI_bulk d.items i
 have hdb : d.bulk = ibulk d.items + d.trailer.bulk:=rfl
 refine AW.rS ?_
 refine AW.seq ?_
 refine AW.rSC ?_
 refine awOps.cons (awGuard.c1 (c_docs_Check _ d (by omega)) ?_)
 refine awOps.rn ?_
 refine AW.rS ?_
 refine AW.c2 ?_ ?_
 ·intro h7
  refine AW.rS ?_
  refine AW.rt ?_
  rw [(put_doc h7).1,(put_doc h7).2] <;> rfl
 ·intro h7
  refine AW.skip ?_
  refine AW.seq ?_
  refine AW.rSC ?_
  refine awOps.cons (awGuard.c1 (c_docs_alone _ i (by omega)) ?_)
  refine awOps.rn ?_
  refine AW.rS ?_
  refine AW.c2 ?_ ?_
  ·intro h17
   refine AW.rS ?_
   refine AW.rt ?_
   rw [(put_alone h7 h17).1,(put_alone h7 h17).2] <;> rfl
  ·intro h17
   refine AW.skip ?_
   have hs:=doc_incr h7
   refine AW.rSC ?_
   refine awOps.cons (awGuard.cH [] (h_docs_fresh _ d (by omega)) ?_)
   refine awOps.rn ?_
   refine AW.rSC ?_
   refine awOps.cons (awGuard.cH [4] (h_docs_lay _ d.items i (by omega) (by omega) hs) ?_)
   refine awOps.rn ?_
   refine AW.rSC ?_
   refine awOps.cons (awGuard.c1 (c_docs_told _ ⟨layI d.items i,d.trailer⟩ (by simp only [Dc.bulk]; omega)) ?_)
   refine awOps.rn ?_
   refine AW.rt ?_
   rw [(put_ok h7 h17).1,(put_ok h7 h17).2]
theorem c_docs_Free (gl : List (Nat × AV)) (d : Dc) (h : d.bulk ≤ 16777000:=by first | omega | exact u8_le _ | assumption | (simp; done) | (simp; omega)) : FnP Tryz.prog (gl) 74 [.agg d.cells] fun r=>r = .ret (.tup [.int .i64 (freeN d),.int .i64 (freeE d)]):=by
 refine FnP.intro Tryz.func74 rfl rfl (by simp [Tryz.ntmps74]) ?_
 simp only [argEnv,Tryz.ntmps74,Tryz.results74]
 have hlen:=ibulk_len d.items
 have hdb : d.bulk = ibulk d.items + d.trailer.bulk:=rfl
 refine AW.rS ?_
 refine AW.seq ?_
 refine AW.rSC ?_
 refine awOps.cons (awGuard.c1 (c_docs_Check _ d (by omega)) ?_)
 refine awOps.rn ?_
 refine AW.rS ?_
 refine AW.c2 ?_ ?_
 ·intro h7
  refine AW.rS ?_
  refine AW.rt ?_
  rw [(free_doc h7).1,(free_doc h7).2]
 ·intro h7
  refine AW.skip ?_
  refine AW.rS ?_
  refine AW.seq ?_
  refine AW.rS ?_
  refine AW.rS ?_
  refine AW.c2 ?_ ?_
  ·intro h16
   have hnb:=((items_iff.1 (docE_items h7)).2 _ (getD_mem (l:=d.items) (i:=d.items.length - 1) (by omega))).1
   simp only [numsB,Bool.and_eq_true,decide_eq_true_eq] at hnb
   have hln : lastN d.items = (d.items.getD (d.items.length - 1) Itm.zero).num + 1:=by rw [lastN,if_neg (by omega)]
   refine AW.rL ?_
   refine AW.seq ?_
   refine AW.rS ?_
   refine AW.c2 ?_ ?_
   ·intro h20
    refine AW.rS ?_
    refine AW.rt ?_
    rw [(free_full h7 (by omega)).1,(free_full h7 (by omega)).2]
   ·intro h20
    refine AW.skip ?_
    refine AW.rS ?_
    refine AW.rt ?_
    rw [(free_ok h7 (by omega)).1,(free_ok h7 (by omega)).2,hln]
  ·intro h16
   have hln : lastN d.items = 1:=by rw [lastN,if_pos (by omega)]
   refine AW.skip ?_
   refine AW.seq ?_
   refine AW.rS ?_
   refine AW.c2 ?_ ?_
   ·intro h31
    simp at h31
   ·intro h31
    refine AW.skip ?_
    refine AW.rS ?_
    refine AW.rt ?_
    rw [(free_ok h7 (by omega)).1,(free_ok h7 (by omega)).2,hln]
theorem c_docs_Add (gl : List (Nat × AV)) (d : Dc) (o : Pob) (h : d.bulk + o.bulk ≤ 16777000:=by first | omega | exact u8_le _ | assumption | (simp; done) | (simp; omega)) : FnP Tryz.prog (gl) 76 [.agg d.cells,.agg o.cells] fun r=>r = .ret (.tup [.agg (addO d o).cells,.int .i64 (addN d o),.int .i64 (addE d o)]):=by
 refine FnP.intro Tryz.func76 rfl rfl (by simp [Tryz.ntmps76]) ?_
 simp only [argEnv,Tryz.ntmps76,Tryz.results76]
 refine AW.rS ?_
 refine AW.rSC ?_
 refine awOps.cons (awGuard.c1 (c_docs_Free _ d (by omega)) ?_)
 refine awOps.rn ?_
 refine AW.seq ?_
 refine AW.rS ?_
 refine AW.c2 ?_ ?_
 ·intro h7
  refine AW.rS ?_
  refine AW.rt ?_
  rw [(add_free h7).1,(add_free h7).2.1,(add_free h7).2.2] <;> rfl
 ·intro h7
  refine AW.skip ?_
  refine AW.rSC ?_
  refine awOps.cons (awGuard.c1 (c_docs_Put _ d ⟨freeN d,0,o⟩ (by show d.bulk + o.bulk ≤ _; omega)) ?_)
  refine awOps.rn ?_
  refine AW.seq ?_
  refine AW.rS ?_
  refine AW.c2 ?_ ?_
  ·intro h17
   refine AW.rS ?_
   refine AW.rt ?_
   rw [(add_put h7 h17).1,(add_put h7 h17).2.1,(add_put h7 h17).2.2] <;> rfl
  ·intro h17
   refine AW.skip ?_
   refine AW.rS ?_
   refine AW.rt ?_
   rw [(add_ok h7 h17).1,(add_ok h7 h17).2.1,(add_ok h7 h17).2.2]
end Go.Proofs




namespace Aw
open Go
theorem Dc_eq (a b : Dc) : a = b ↔ a.items = b.items ∧ a.trailer = b.trailer:=by cases a; cases b; simp
instance dcDec : DecidableEq Dc:=fun a b=>decidable_of_iff (a.items = b.items ∧ a.trailer = b.trailer) (Dc_eq a b).symm
end Aw

namespace Go.Proofs
open Go Aw
set_option linter.unusedSimpArgs false
set_option linter.unusedVariables false
set_option maxRecDepth 100000
set_option maxHeartbeats 4000000
end Go.Proofs

namespace Aw
open Go
end Aw
namespace Aw
open Go
end Aw

namespace Go.Proofs
open Go Aw
set_option linter.unusedSimpArgs false
set_option linter.unusedVariables false
set_option maxRecDepth 100000
set_option maxHeartbeats 4000000
theorem c_foliantref19_Size (gl : List (Nat × AV)) (d : Dc) (h : d.bulk ≤ 16777216) (hp : d.size ≤ 4611686018427387904) : FnP Tryz.prog (gl) 24 [.agg d.cells] fun r=>r = .ret (.int .i64 d.size):=by
 refine FnP.intro Tryz.func24 rfl rfl (by simp [Tryz.ntmps24]) ?_
 simp only [argEnv,Tryz.ntmps24,Tryz.results24]
 have hlen:=ibulk_len d.items
 have hdb : d.bulk = ibulk d.items + d.trailer.bulk:=rfl
 have hds : d.size = d.trailer.psize + isize d.items:=rfl
 have hk0:=isize_nil
 refine AW.rS ?_
 refine AW.rSC ?_
 refine awOps.cons (awGuard.c1 (c_foliantref05_Size _ d.trailer (by omega) (by omega)) ?_)
 refine awOps.rn ?_
 refine AW.seq ?_
 refine AW.rS ?_
 refine AW.block ?_
 refine AW.lk (S:={ i : Nat // i ≤ d.items.length }) [10,11] (fun s_=>[(3,.int .i64 ((d.trailer.psize + isize (d.items.take s_.1) : Nat) : Int)),(12,.int .i64 s_.1)]) (fun s_=>[(0,.cells d.cells)]) 1 (fun s_=>d.items.length - s_.1) ⟨0,Nat.zero_le _⟩ ?_ ?_
 ·refine St.le.vw [0]
 rintro ⟨i,hi⟩
 try dsimp only at hi
 refine AW.rS ?_
 refine AW.seq ?_
 refine AW.c2 ?_ ?_
 ·intro h11
  have h1:=isize_take h11
  have h2:=isize_take_le d.items (i + 1)
  have hgb:=ibulk_get (l:=d.items) (i:=i) (by omega)
  refine AW.skip ?_
  refine AW.seq ?_
  refine AW.block ?_
  refine AW.rS ?_
  refine AW.rLC ?_
  refine awOps.cons (awGuard.c1 (c_foliantref05_Size _ (d.items.getD i Itm.zero).obj (by omega) (by omega)) ?_)
  refine awOps.rn ?_
  refine AW.rL ?_
  refine ⟨⟨i + 1,by omega⟩,?_,?_⟩
  ·refine St.le.vw [0]
  ·simp only []; omega
 ·intro h11
  refine AW.exit ?_
  refine AW.rS ?_
  refine AW.rt ?_
  obtain rfl : i = d.items.length:=by omega
  rw [List.take_length,hds]
end Go.Proofs

namespace Aw
open Go
mutual
def Pob.pre : Pob → List Pob
 | .mk k n g s ks l=>.mk k n g s ks l :: pres l
def pres : List Pob → List Pob
 | []=>[]
 | o :: l=>o.pre ++ pres l
end
attribute [irreducible] Pob.pre pres
def Pob.has (o : Pob) (k : List UInt8) (v : Pob) : Prop:=∃ i,i < o.keys.length ∧ o.keys.getD i [] = k ∧ o.kids.getD i Pob.null = v
theorem kidxI_cases (ks : List (List UInt8)) (k : List UInt8) : (∃ i : Nat,i < ks.length ∧ kidxI ks k = i ∧ ks.getD i [] = k) ∨ (kidxI ks k = -1 ∧ ∀ j,j < ks.length → ks.getD j [] ≠ k):=by
 by_cases h : kidx ks k < ks.length
 ·left
  refine ⟨kidx ks k,h,by simp [kidxI,h],?_⟩
  have h2 : decide (ks[kidx ks k] = k) = true:=List.findIdx_getElem (p:=fun x=>decide (x = k)) (w:=h)
  simpa [List.getD,h] using h2
 ·right
  refine ⟨by simp [kidxI,h],fun j hj e=>h ?_⟩
  unfold kidx
  rw [List.findIdx_lt_length]
  refine ⟨ks[j],List.getElem_mem hj,?_⟩
  simpa [List.getD,hj] using e
end Aw

set_option linter.unusedVariables false
namespace Aw
open Go
end Aw

set_option linter.unusedVariables false
set_option linter.unusedSimpArgs false
namespace Aw
open Go
theorem idxb_neg : ∀ {s : List UInt8} {c : UInt8},Lib.indexByte s c < 0 ↔ ∀ i,i < s.length → s.getD i 0 ≠ c
 | [],c=>by simp [Lib.indexByte]
 | b :: l,c=>by
  have ih:=idxb_neg (s:=l) (c:=c)
  have hg:=Lib.indexByte_ge l c
  rw [Lib.indexByte]
  by_cases hb : b = c
  ·rw [if_pos (by simpa using hb)]
   refine ⟨fun h=>absurd h (by omega),fun h=>absurd (h 0 (by simp)) (by simpa using hb)⟩
  ·rw [if_neg (by simpa using hb)]
   constructor
   ·intro h i hi
    cases i with
    | zero=>simpa using hb
    | succ i =>
     have h' : Lib.indexByte l c < 0:=by
      split at h <;> rename_i h1
      ·have h1 : Lib.indexByte l c = -1:=by simpa using h1
       omega
      ·omega
     simpa using ih.1 h' i (by simpa using hi)
   ·intro h
    have h':=ih.2 fun i hi=>by simpa using h (i + 1) (by simpa using hi)
    have h2 : Lib.indexByte l c = -1:=by omega
    simp [h2]
theorem nameB_no {s : List UInt8} {i : Nat} (hi : i < s.length) (h : s.getD i 0 = 0) : nameB s = false:=by
 have : ¬ Lib.indexByte s 0 < 0:=fun h'=>idxb_neg.1 h' i hi h
 simp [nameB,this]
theorem nameB_all {s : List UInt8} (h : ∀ i,i < s.length → s.getD i 0 ≠ 0) : nameB s = decide ((s.length : Int) ≤ 127):=by
 have : Lib.indexByte s 0 < 0:=idxb_neg.2 h
 simp [nameB,this]
/-! a key less -/
/-! a key put -/
/-! numbers in order -/
end Aw
