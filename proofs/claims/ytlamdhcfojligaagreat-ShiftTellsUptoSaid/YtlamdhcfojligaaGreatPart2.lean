/- A part of the proof: no condition of its own. -/
import Derived.Test.YtlamdhcfojligaaGreatPart1
import Derived.JoinedCond
import Derived.Test.YtlamdhcfojligaaGreatRows
import Derived.Shelf.Small.Strs
import Derived.Test.YtlamdhcfojligaaGreatProg
namespace Go.Proofs.YtlamdhcfojligaaGreat
open Go Aw
theorem own : ownKnob Tryz.prog.godebug = none:=by kernel_rfl
theorem laidOut : laidOutB Tryz.prog = true:=by kernel_rfl
theorem objT : ObjT Tryz.prog 26 3 2 9 23 24 where
 o:=⟨_,Tryz.underlying26,rfl⟩
 i:=Tryz.underlying3
 l:=Tryz.underlying2
 s:=Tryz.underlying9
 ks:=Tryz.underlying23
 os:=Tryz.underlying24
 c:=by and_intros <;> kernel_rfl
theorem docT : DocT Tryz.prog 26 3 2 9 23 24 45 22 28 where
 o:=objT
 it:=⟨_,Tryz.underlying45,rfl⟩
 its:=Tryz.underlying22
 d:=⟨_,Tryz.underlying28,rfl⟩
 c:=by and_intros <;> kernel_rfl
mutual
theorem dle_upto {H : Type} : ∀ d : DataW H,dbulk d ≤ Rows.uptoBulk d
 | .lit (.string _)=>by simp only [dbulk,Rows.uptoBulk]; omega
 | .lit (.bool _)=>by simp only [dbulk,Rows.uptoBulk]; omega
 | .lit (.int _ _)=>by simp only [dbulk,Rows.uptoBulk]; omega
 | .lit (.float _ _)=>by simp only [dbulk,Rows.uptoBulk]; omega
 | .lit .nil=>by simp only [dbulk,Rows.uptoBulk]; omega
 | .nil=>by simp only [dbulk,Rows.uptoBulk]; omega
 | .ptr d=>by have:=dle_upto d; simp only [dbulk,Rows.uptoBulk]; omega
 | .slice es sp=>by have:=dles_upto es; have:=dles_upto sp; simp only [dbulk,Rows.uptoBulk]; omega
 | .agg ps=>by have:=dles_upto ps; simp only [dbulk,Rows.uptoBulk]; omega
 | .iface _ d=>by have:=dle_upto d; simp only [dbulk,Rows.uptoBulk]; omega
 | .map _=>by simp only [dbulk,Rows.uptoBulk]; omega
 | .held _=>by simp only [dbulk,Rows.uptoBulk]; omega
theorem dles_upto {H : Type} : ∀ l : List (DataW H),dbulks l ≤ Rows.uptoBulkAll l
 | []=>by simp only [dbulks,Rows.uptoBulkAll]; omega
 | d :: r=>by have:=dle_upto d; have:=dles_upto r; simp only [dbulks,Rows.uptoBulkAll]; omega
end
end Go.Proofs.YtlamdhcfojligaaGreat

namespace Go.Proofs
open Go Aw
set_option linter.unusedSimpArgs false
set_option maxRecDepth 100000
set_option maxHeartbeats 4000000
theorem c_slices_Clone_string_string (gl : List (Nat × AV)) (ks : List (List UInt8)) (hk : ks.length ≤ 16777216:=by first | omega | exact u8_le _ | assumption | (simp; done) | (simp; omega)) : FnP Tryz.prog (gl) 104 [.sl (strsAV ks)] fun r=>r = .ret (.sl (strsAV ks)):=by
 refine FnP.intro Tryz.func104 rfl rfl (by simp [Tryz.ntmps104]) ?_
 simp only [argEnv,Tryz.ntmps104,Tryz.results104]
 refine AW.rS ?_
 refine AW.seq ?_
 refine AW.rSC ?_
 refine awOps.cons (awGuard.nS ?_)
 intro b4 hb4
 simp only [nilBool]
 refine awOps.rn ?_
 refine AW.c2 ?_ ?_
 ·intro h6
  refine AW.rS ?_
  refine AW.pre (St.le.nilrow 2 1 (by (simp only [go_sem,seval]; iterate 2 try (simp (disch:=omega) only [zq]; try simp only [go_sem,seval])))) ?_
  refine wk ?_
  refine AW.rt ?_
  rw [nil_strs hb4 h6,strsAV_nil]
 ·intro h6
  refine AW.skip ?_
  refine AW.rS ?_
  refine AW.rt ?_
  all_goals first | contradiction | rfl | (simp; done) | (simp; omega)
theorem c_value_Clone_1 (gl : List (Nat × AV)) (o : Pob) : FnP Tryz.prog (gl) 79 [.agg o.cells] fun r=>r = .ret (.agg o.cells):=by
 refine FnP.intro Tryz.func79 rfl rfl (by simp [Tryz.ntmps79]) ?_
 simp only [argEnv,Tryz.ntmps79,Tryz.results79]
 refine AW.rS ?_
 refine AW.rS ?_
 refine AW.rt ?_
 all_goals first | contradiction | rfl | (simp; done) | (simp; omega)
theorem changed_step (gl : List (Nat × AV)) (N : Nat) (hN : N ≤ 16777216) (ih : ∀ o' : Pob,o'.bulk < N → FnP Tryz.prog gl 78 [.agg o'.cells,.clos 79 []] fun r=>r = .ret (.agg o'.cells)) (o : Pob) (_ : o.bulk ≤ N) (hk : o.keys.length ≤ N) (hl : o.kids.length ≤ N) (hb : ∀ i,i < o.kids.length → (o.kids.getD i Pob.null).bulk < N) : FnP Tryz.prog (gl) 78 [.agg o.cells,.clos 79 []] fun r=>r = .ret (.agg o.cells):=by
 refine FnP.intro Tryz.func78 rfl rfl (by simp [Tryz.ntmps78]) ?_
 simp only [argEnv,Tryz.ntmps78,Tryz.results78]
 refine AW.rS ?_
 refine AW.rSC ?_
 refine awOps.cons (awGuard.c1 (c_value_Clone_1 _ o) ?_)
 refine awOps.rn ?_
 refine AW.rSC ?_
 refine awOps.cons (awGuard.c1 (c_slices_Clone_string_string _ o.keys) ?_)
 refine awOps.rn ?_
 refine AW.seq ?_
 refine AW.rSC ?_
 refine awOps.cons (awGuard.nS ?_)
 intro b10 hb10
 simp only [nilBool]
 refine awOps.rn ?_
 refine AW.c2 ?_ ?_
 ·intro h12
  refine AW.rS ?_
  refine AW.seq ?_
  refine AW.rS ?_
  refine AW.block ?_
  refine AW.lk (S:={ i : Nat // i ≤ o.kids.length }) [1,2,4,5,23,24] (fun s_=>[(25,.int .i64 s_.1)]) (fun s_=>[(0,.cells [.int .i64 o.kind,.int .i64 o.num,.int .i64 o.gen,.str o.str,.sl (strsAV o.keys),.sl (objsAV o.kids)]),(1,.cells [.int .i64 0,.int .i64 0,.int .i64 0,.str [],.raw (.slice none 0 0),.raw (.slice none 0 0)]),(2,.row 6 (fillO o.kids s_.1) true)]) 3 (fun s_=>o.kids.length - s_.1) ⟨0,Nat.zero_le _⟩ ?_ ?_
  ·refine St.le.vw [0,1,2]
  rintro ⟨i,hi⟩
  try dsimp only at hi
  refine AW.rS ?_
  refine AW.seq ?_
  refine AW.c2 ?_ ?_
  ·intro h20
   refine AW.skip ?_
   refine AW.seq ?_
   refine AW.block ?_
   refine AW.rS ?_
   refine AW.rLC ?_
   refine awOps.cons (awGuard.c1 (ih (o.kids.getD i Pob.null) (hb i (by omega))) ?_)
   refine awOps.rn ?_
   refine AW.rL ?_
   refine ⟨⟨i + 1,by omega⟩,?_,?_⟩
   ·refine St.le.vw [0,1,2]
   ·simp only []; omega
  ·intro h20
   refine AW.exit ?_
   refine AW.rL ?_
   refine AW.rS ?_
   refine AW.rt ?_
   rw [fillO_all hi h20,objsAV_take_len]
 ·intro h12
  refine AW.skip ?_
  refine AW.rS ?_
  refine AW.rt ?_
  all_goals first | contradiction | rfl | (simp; done) | (simp; omega)
theorem changed_clone (gl : List (Nat × AV)) (N : Nat) : N ≤ 16777216 → ∀ o : Pob,o.bulk ≤ N → FnP Tryz.prog gl 78 [.agg o.cells,.clos 79 []] fun r=>r = .ret (.agg o.cells):=by
 induction N using Nat.strongRecOn with
 | ind N IH =>
  intro hN o ho
  have hb:=Pob.bulk_eq o
  exact changed_step gl N hN (fun o' h=>IH o'.bulk h (by omega) o' (Nat.le_refl _)) o ho (by omega) (by omega) (fun i hi=>Nat.lt_of_lt_of_le (Pob.bulk_kid hi) ho)
theorem c_value_changed (gl : List (Nat × AV)) (o : Pob) (h : o.bulk ≤ 16777216:=by assumption) : FnP Tryz.prog gl 78 [.agg o.cells,.clos 79 []] fun r=>r = .ret (.agg o.cells):=changed_clone gl 16777216 (Nat.le_refl _) o h
theorem c_value_Clone (gl : List (Nat × AV)) (o : Pob) (h : o.bulk ≤ 16777216:=by first | omega | exact u8_le _ | assumption | (simp; done) | (simp; omega)) : FnP Tryz.prog (gl) 48 [.agg o.cells] fun r=>r = .ret (.agg o.cells):=by
 refine FnP.intro Tryz.func48 rfl rfl (by simp [Tryz.ntmps48]) ?_
 simp only [argEnv,Tryz.ntmps48,Tryz.results48]
 refine AW.rS ?_
 refine AW.rSC ?_
 refine awOps.cons (awGuard.c1 (c_value_changed _ o) ?_)
 refine awOps.rn ?_
 refine AW.rt ?_
 all_goals first | contradiction | rfl | (simp; done) | (simp; omega)
theorem c_value_keyed (gl : List (Nat × AV)) (o : Pob) : FnP Tryz.prog (gl) 110 [.agg o.cells] fun r=>r = .ret (.bool (keyedB o.kind)):=by
 refine FnP.intro Tryz.func110 rfl rfl (by simp [Tryz.ntmps110]) ?_
 simp only [argEnv,Tryz.ntmps110,Tryz.results110]
 refine AW.rS ?_
 refine AW.rS ?_
 refine AW.rt ?_
 all_goals first | contradiction | rfl | (simp; done) | (simp; omega)
theorem c_slices_Index_string_string (gl : List (Nat × AV)) (ks : List (List UInt8)) (k : List UInt8) (hk : ks.length ≤ 16777216:=by first | omega | exact u8_le _ | assumption | (simp; done) | (simp; omega)) : FnP Tryz.prog (gl) 109 [.sl (strsAV ks),.str k] fun r=>r = .ret (.int .i64 (kidxI ks k)):=by
 refine FnP.intro Tryz.func109 rfl rfl (by simp [Tryz.ntmps109]) ?_
 simp only [argEnv,Tryz.ntmps109,Tryz.results109]
 refine AW.rS ?_
 refine AW.seq ?_
 refine AW.rS ?_
 refine AW.block ?_
 refine AW.lk (S:={ i : Nat // i ≤ ks.length ∧ ∀ j,j < i → ks.getD j [] ≠ k }) [0,1,7] (fun s_=>[(8,.int .i64 s_.1)]) (fun s_=>[]) 0 (fun s_=>ks.length - s_.1) ⟨0,Nat.zero_le _,fun j h=>absurd h (by omega)⟩ ?_ ?_
 ·refine St.le.vw []
 rintro ⟨i,hi,hs⟩
 try dsimp only at hi
 try dsimp only at hs
 refine AW.rS ?_
 refine AW.seq ?_
 refine AW.c2 ?_ ?_
 ·intro h8
  refine AW.skip ?_
  refine AW.seq ?_
  refine AW.block ?_
  refine AW.rS ?_
  refine AW.rS ?_
  refine AW.c2 ?_ ?_
  ·intro h14
   refine AW.rS ?_
   refine AW.rt ?_
   rw [kidx_hit h8 hs h14]
  ·intro h14
   refine AW.skip ?_
   refine AW.rL ?_
   refine ⟨⟨i + 1,by omega,fun j hj=>by rcases Nat.lt_succ_iff_lt_or_eq.1 hj with h | rfl; exact hs j h; exact fun e=>h14 e.symm⟩,?_,?_⟩
   ·refine St.le.vw []
   ·simp only []; omega
 ·intro h8
  refine AW.exit ?_
  refine AW.rS ?_
  refine AW.rt ?_
  rw [kidx_miss (fun j hj=>hs j (by omega))]
theorem c_value_Get (gl : List (Nat × AV)) (o : Pob) (key : List UInt8) (h : o.bulk ≤ 16777216:=by first | omega | exact u8_le _ | assumption | (simp; done) | (simp; omega)) : FnP Tryz.prog (gl) 90 [.agg o.cells,.str key] fun r=>r = .ret (.tup [.agg (getO o key).cells,.bool (getB o key)]):=by
 refine FnP.intro Tryz.func90 rfl rfl (by simp [Tryz.ntmps90]) ?_
 simp only [argEnv,Tryz.ntmps90,Tryz.results90]
 have hb:=Pob.bulk_eq o
 refine AW.rS ?_
 refine AW.seq ?_
 refine AW.rSC ?_
 refine awOps.cons (awGuard.c1 (c_value_keyed _ o) ?_)
 refine awOps.rn ?_
 refine AW.c2 ?_ ?_
 ·intro h6
  refine AW.rS ?_
  refine AW.rt ?_
  rw [(get_unkeyed h6).1,(get_unkeyed h6).2] <;> rfl
 ·intro h6
  refine AW.skip ?_
  refine AW.rSC ?_
  refine awOps.cons (awGuard.c1 (c_slices_Index_string_string _ o.keys key (by omega)) ?_)
  refine awOps.rn ?_
  refine AW.seq ?_
  refine AW.rS ?_
  refine AW.c2 ?_ ?_
  ·intro h16
   refine AW.rS ?_
   refine AW.rt ?_
   rw [(get_miss h16).1,(get_miss h16).2] <;> rfl
  ·intro h16
   refine AW.skip ?_
   refine AW.rSC ?_
   refine awOps.cons (awGuard.c1 (c_value_Clone _ (o.kids.getD (kidxI o.keys key).toNat Pob.null) (by have:=Pob.bulk_kid (o:=o) (i:=(kidxI o.keys key).toNat) (by omega); omega)) ?_)
   refine awOps.rn ?_
   refine AW.rt ?_
   rw [(get_hit h6 h16).1,(get_hit h6 h16).2,← Pob.cells_eq]
theorem c_slices_Equal_string_string (gl : List (Nat × AV)) (a b : List (List UInt8)) (ha : a.length ≤ 16777216:=by first | omega | exact u8_le _ | assumption | (simp; done) | (simp; omega)) : FnP Tryz.prog (gl) 94 [.sl (strsAV a),.sl (strsAV b)] fun r=>r = .ret (.bool (decide (a = b))):=by
 refine FnP.intro Tryz.func94 rfl rfl (by simp [Tryz.ntmps94]) ?_
 simp only [argEnv,Tryz.ntmps94,Tryz.results94]
 refine AW.rS ?_
 refine AW.seq ?_
 refine AW.rS ?_
 refine AW.c2 ?_ ?_
 ·intro h4
  refine AW.rS ?_
  refine AW.rt ?_
  rw [decide_eq_false (fun e=>h4 (by rw [e]))]
 ·intro h4
  refine AW.skip ?_
  refine AW.seq ?_
  refine AW.rS ?_
  refine AW.block ?_
  refine AW.lk (S:={ i : Nat // i ≤ a.length ∧ a.take i = b.take i }) [0,1,12] (fun s_=>[(13,.int .i64 s_.1)]) (fun s_=>[]) 0 (fun s_=>a.length - s_.1) ⟨0,Nat.zero_le _,rfl⟩ ?_ ?_
  ·refine St.le.vw []
  rintro ⟨i,hi,hs⟩
  try dsimp only at hi
  try dsimp only at hs
  refine AW.rS ?_
  refine AW.seq ?_
  refine AW.c2 ?_ ?_
  ·intro h15
   refine AW.skip ?_
   refine AW.seq ?_
   refine AW.block ?_
   refine AW.rS ?_
   refine AW.dS [(0,0),(1,0),(2,1),(3,1),(4,0),(5,0),(6,1),(7,1),(8,0)] ?_
   refine AW.c2 ?_ ?_
   ·intro h21
    refine AW.rS ?_
    refine AW.rt ?_
    rw [decide_eq_false (fun e=>h21 (by rw [e]))]
   ·intro h21
    refine AW.skip ?_
    refine AW.rL ?_
    refine ⟨⟨i + 1,by omega,takeS_succ h15 (by omega) hs h21⟩,?_,?_⟩
    ·refine St.le.vw []
    ·simp only []; omega
  ·intro h15
   refine AW.exit ?_
   refine AW.rS ?_
   refine AW.rt ?_
   rw [List.take_of_length_le (by omega),List.take_of_length_le (by omega)] at hs
   simp [hs]
end Go.Proofs

namespace Go.Proofs
open Go Aw
set_option linter.unusedSimpArgs false
set_option linter.unusedVariables false
set_option maxRecDepth 100000
set_option maxHeartbeats 4000000
theorem equalObjs_step (gl : List (Nat × AV)) (N : Nat) (ih : ∀ x y : Pob,x.bulk < N → FnP Tryz.prog gl 71 [.agg x.cells,.agg y.cells] fun r=>r = .ret (.bool (decide (x = y)))) (a b : List Pob) (ha : a.length ≤ 16777216) (hb : ∀ i,i < a.length → (a.getD i Pob.null).bulk < N) : FnP Tryz.prog (gl) 95 [.sl (objsAV a),.sl (objsAV b),.clos 71 []] fun r=>r = .ret (.bool (decide (a = b))):=by
 refine FnP.intro Tryz.func95 rfl rfl (by simp [Tryz.ntmps95]) ?_
 simp only [argEnv,Tryz.ntmps95,Tryz.results95]
 refine AW.rS ?_
 refine AW.seq ?_
 refine AW.rS ?_
 refine AW.c2 ?_ ?_
 ·intro h4
  refine AW.rS ?_
  refine AW.rt ?_
  rw [decide_eq_false (fun e=>h4 (by rw [e]))]
 ·intro h4
  refine AW.skip ?_
  refine AW.seq ?_
  refine AW.rS ?_
  refine AW.block ?_
  refine AW.lk (S:={ i : Nat // i ≤ a.length ∧ a.take i = b.take i }) [1,2,15,16] (fun s_=>[(17,.int .i64 s_.1)]) (fun s_=>[]) 0 (fun s_=>a.length - s_.1) ⟨0,Nat.zero_le _,rfl⟩ ?_ ?_
  ·refine St.le.vw []
  rintro ⟨i,hi,hs⟩
  try dsimp only at hi
  try dsimp only at hs
  refine AW.rS ?_
  refine AW.seq ?_
  refine AW.c2 ?_ ?_
  ·intro h15
   refine AW.skip ?_
   refine AW.seq ?_
   refine AW.block ?_
   refine AW.rS ?_
   refine AW.rS ?_
   refine AW.rSC ?_
   refine awOps.cons (awGuard.c1 (ih (a.getD i Pob.null) (b.getD i Pob.null) (hb i (by omega))) ?_)
   refine awOps.rn ?_
   refine AW.c2 ?_ ?_
   ·intro h24
    refine AW.rS ?_
    refine AW.rt ?_
    rw [decide_eq_false (fun e=>h24 (by rw [e]))]
   ·intro h24
    refine AW.skip ?_
    refine AW.rL ?_
    refine ⟨⟨i + 1,by omega,takeO_succ h15 (by omega) hs h24⟩,?_,?_⟩
    ·refine St.le.vw []
    ·simp only []; omega
  ·intro h15
   refine AW.exit ?_
   refine AW.rS ?_
   refine AW.rt ?_
   rw [List.take_of_length_le (by omega),List.take_of_length_le (by omega)] at hs
   simp [hs]
theorem same_step (gl : List (Nat × AV)) (N : Nat) (hN : N ≤ 16777216) (ih : ∀ x y : Pob,x.bulk < N → FnP Tryz.prog gl 71 [.agg x.cells,.agg y.cells] fun r=>r = .ret (.bool (decide (x = y)))) (a b : Pob) (ha : a.bulk ≤ N) : FnP Tryz.prog (gl) 71 [.agg a.cells,.agg b.cells] fun r=>r = .ret (.bool (decide (a = b))):=by
 refine FnP.intro Tryz.func71 rfl rfl (by simp [Tryz.ntmps71]) ?_
 simp only [argEnv,Tryz.ntmps71,Tryz.results71]
 have hbulk:=Pob.bulk_eq a
 refine AW.rS ?_
 refine AW.rSC ?_
 refine awOps.cons (awGuard.cG (fun hg=>c_slices_Equal_string_string _ a.keys b.keys (by omega)) ?_)
 refine awOps.rn ?_
 refine awOps.cons (awGuard.cG (fun hg=>equalObjs_step _ N ih a.kids b.kids (by omega) (fun i hi=>Nat.lt_of_lt_of_le (Pob.bulk_kid hi) ha)) ?_)
 refine awOps.rn ?_
 refine AW.rt ?_
 rw [show ∀ x y : Bool,x = y → AE.ret (.bool x) = AE.ret (.bool y) from fun _ _ h=>by rw [h]]
 rw [Bool.eq_iff_iff]
 simp only [decide_eq_true_eq,Bool.cond_false_right,Bool.and_eq_true,Pob_eq a b,and_assoc]
theorem same_all (gl : List (Nat × AV)) (N : Nat) : N ≤ 16777216 → ∀ a b : Pob,a.bulk ≤ N → FnP Tryz.prog gl 71 [.agg a.cells,.agg b.cells] fun r=>r = .ret (.bool (decide (a = b))):=by
 induction N using Nat.strongRecOn with
 | ind N IH=>exact fun hN a b ha=>same_step gl N hN (fun x y h=>IH x.bulk h (by omega) x y (Nat.le_refl _)) a b ha
theorem c_value_Same (gl : List (Nat × AV)) (a b : Pob) (h : a.bulk ≤ 16777216:=by assumption) : FnP Tryz.prog gl 71 [.agg a.cells,.agg b.cells] fun r=>r = .ret (.bool (decide (a = b))):=same_all gl 16777216 (Nat.le_refl _) a b h
theorem c_docs_numbers (gl : List (Nat × AV)) (i : Itm) : FnP Tryz.prog (gl) 86 [.agg i.cells] fun r=>r = .ret (.bool (decide (1 ≤ i.num) && decide (i.num ≤ 8191) && decide (0 ≤ i.gen) && decide (i.gen ≤ 65535))):=by
 refine FnP.intro Tryz.func86 rfl rfl (by simp [Tryz.ntmps86]) ?_
 simp only [argEnv,Tryz.ntmps86,Tryz.results86]
 refine AW.rS ?_
 refine AW.rS ?_
 refine AW.rt ?_
 simp only [Bool.cond_false_right]
theorem c_docs_same (gl : List (Nat × AV)) (a b : Itm) (h : a.obj.bulk ≤ 16777216:=by first | omega | exact u8_le _ | assumption | (simp; done) | (simp; omega)) : FnP Tryz.prog (gl) 70 [.agg a.cells,.agg b.cells] fun r=>r = .ret (.bool (decide (a = b))):=by
 refine FnP.intro Tryz.func70 rfl rfl (by simp [Tryz.ntmps70]) ?_
 simp only [argEnv,Tryz.ntmps70,Tryz.results70]
 refine AW.rS ?_
 refine AW.rSC ?_
 refine awOps.cons (awGuard.cG (fun hg=>c_value_Same _ a.obj b.obj) ?_)
 refine awOps.rn ?_
 refine AW.rt ?_
 rw [show ∀ x y : Bool,x = y → AE.ret (.bool x) = AE.ret (.bool y) from fun _ _ h=>by rw [h]]
 rw [Bool.eq_iff_iff]
 simp only [decide_eq_true_eq,Bool.cond_false_right,Bool.and_eq_true,Itm_eq a b,and_assoc]
theorem c_docs_copied (gl : List (Nat × AV)) (i : Itm) (h : i.obj.bulk ≤ 16777216:=by first | omega | exact u8_le _ | assumption | (simp; done) | (simp; omega)) : FnP Tryz.prog (gl) 59 [.agg i.cells] fun r=>r = .ret (.agg i.cells):=by
 refine FnP.intro Tryz.func59 rfl rfl (by simp [Tryz.ntmps59]) ?_
 simp only [argEnv,Tryz.ntmps59,Tryz.results59]
 refine AW.rS ?_
 refine AW.rSC ?_
 refine awOps.cons (awGuard.c1 (c_value_Clone _ i.obj) ?_)
 refine awOps.rn ?_
 refine AW.rS ?_
 refine AW.rt ?_
 all_goals first | contradiction | rfl | (simp; done) | (simp; omega)
def badAV (e : Int) : AV:=.iface 107 (.agg [.int .i64 e])
attribute [go_sem] badAV
theorem c_value_must (gl : List (Nat × AV)) (b : Bool) (e : Int) : FnP Tryz.prog (gl) 98 [.bool b,.int .i64 e] fun r=>r = if b = true then .ret (.tup []) else .panic (badAV e):=by
 refine FnP.intro Tryz.func98 rfl rfl (by simp [Tryz.ntmps98]) ?_
 simp only [argEnv,Tryz.ntmps98,Tryz.results98]
 refine AW.rS ?_
 refine AW.c2 ?_ ?_
 ·intro h2
  refine AW.rLC ?_
  refine awOps.cons (awGuard.pn ?_)
  refine wk ?_
  rw [if_neg (by simp [h2])]
 ·intro h2
  refine AW.skip ?_
  refine wk ?_
  rw [if_pos h2]
theorem c_value_within_int64 (gl : List (Nat × AV)) (n a b : Int) : FnP Tryz.prog (gl) 125 [.int .i64 n,.int .i64 a,.int .i64 b] fun r=>r = .ret (.bool (decide (a ≤ n) && decide (n ≤ b))):=by
 refine FnP.intro Tryz.func125 rfl rfl (by simp [Tryz.ntmps125]) ?_
 simp only [argEnv,Tryz.ntmps125,Tryz.results125]
 refine AW.rS ?_
 refine AW.rS ?_
 refine AW.rt ?_
 simp only [Bool.cond_false_right]
theorem c_value_within_int (gl : List (Nat × AV)) (n a b : Int) : FnP Tryz.prog (gl) 126 [.int .i64 n,.int .i64 a,.int .i64 b] fun r=>r = .ret (.bool (decide (a ≤ n) && decide (n ≤ b))):=by
 refine FnP.intro Tryz.func126 rfl rfl (by simp [Tryz.ntmps126]) ?_
 simp only [argEnv,Tryz.ntmps126,Tryz.results126]
 refine AW.rS ?_
 refine AW.rS ?_
 refine AW.rt ?_
 simp only [Bool.cond_false_right]
theorem c_value_fits (gl : List (Nat × AV)) (o : Pob) : FnP Tryz.prog (gl) 100 [.agg o.cells] fun r=>r = .ret (.bool (fitsB o)):=by
 refine FnP.intro Tryz.func100 rfl rfl (by simp [Tryz.ntmps100]) ?_
 simp only [argEnv,Tryz.ntmps100,Tryz.results100]
 refine AW.rS ?_
 refine AW.seq ?_
 refine AW.rS ?_
 refine AW.block ?_
 refine AW.rS ?_
 refine AW.c2 ?_ ?_
 ·intro h6
  refine AW.rSC ?_
  refine awOps.cons (awGuard.c1 (c_value_within_int64 _ o.num 0 1) ?_)
  refine awOps.rn ?_
  refine AW.rt ?_
  simp_all [fitsB]
 ·intro h6
  refine AW.rS ?_
  refine AW.c2 ?_ ?_
  ·intro h13
   refine AW.rSC ?_
   refine awOps.cons (awGuard.c1 (c_value_within_int64 _ o.num (-2147483647) 2147483647) ?_)
   refine awOps.rn ?_
   refine AW.rt ?_
   simp_all [fitsB]
  ·intro h13
   refine AW.rS ?_
   refine AW.c2 ?_ ?_
   ·intro h20
    refine AW.rSC ?_
    refine awOps.cons (awGuard.c1 (c_value_within_int64 _ o.num (-1073741824) 1073741824) ?_)
    refine awOps.rn ?_
    refine AW.rt ?_
    simp_all [fitsB]
   ·intro h20
    refine AW.rS ?_
    refine AW.c2 ?_ ?_
    ·intro h27
     refine AW.rSC ?_
     refine awOps.cons (awGuard.c1 (c_value_within_int64 _ o.num 1 8191) ?_)
     refine awOps.rn ?_
     refine awOps.cons (awGuard.cG (fun hg=>c_value_within_int _ o.gen 0 65535) ?_)
     refine awOps.rn ?_
     refine AW.rt ?_
     simp_all [fitsB]
    ·intro h27
     refine AW.skip ?_
     refine AW.rS ?_
     refine AW.rt ?_
     simp_all [fitsB]
theorem c_value_short (gl : List (Nat × AV)) (o : Pob) : FnP Tryz.prog (gl) 101 [.agg o.cells] fun r=>r = .ret (.bool (shortB o)):=by
 refine FnP.intro Tryz.func101 rfl rfl (by simp [Tryz.ntmps101]) ?_
 simp only [argEnv,Tryz.ntmps101,Tryz.results101]
 refine AW.rS ?_
 refine AW.seq ?_
 refine AW.rS ?_
 refine AW.block ?_
 refine AW.rS ?_
 refine AW.c2 ?_ ?_
 ·intro h6
  refine AW.rS ?_
  refine AW.rt ?_
  simp_all [shortB]
 ·intro h6
  refine AW.rS ?_
  refine AW.c2 ?_ ?_
  ·intro h11
   refine AW.rS ?_
   refine AW.rt ?_
   simp_all [shortB]
  ·intro h11
   refine AW.skip ?_
   refine AW.rS ?_
   refine AW.rt ?_
   simp_all [shortB]
theorem c_value_used (gl : List (Nat × AV)) (k : Int) : FnP Tryz.prog (gl) 99 [.int .i64 k] fun r=>r = .ret (.tup [.agg [.bool (uN k),.bool (uG k),.bool (uS k),.bool (uKeys k),.bool (uKids k)],.bool (uOk k)]):=by
 refine FnP.intro Tryz.func99 rfl rfl (by simp [Tryz.ntmps99]) ?_
 simp only [argEnv,Tryz.ntmps99,Tryz.results99]
 refine AW.rS ?_
 refine AW.seq ?_
 refine AW.rS ?_
 refine AW.block ?_
 refine AW.rS ?_
 refine AW.c2 ?_ ?_
 ·intro h6
  refine AW.rS ?_
  refine AW.rt ?_
  first | (exfalso; omega) | (refine used_eq ?_ ?_ ?_ ?_ ?_ ?_ <;> simp only [uN,uG,uS,uKeys,uKids,uOk] <;> first | (subst_vars; rfl) | grind)
 ·intro h6
  refine AW.seq ?_
  refine AW.rS ?_
  refine AW.c2 ?_ ?_
  ·intro h12
   refine AW.skip ?_
   refine AW.c2 ?_ ?_
   ·intro h14
    refine AW.rS ?_
    refine AW.rt ?_
    first | (exfalso; omega) | (refine used_eq ?_ ?_ ?_ ?_ ?_ ?_ <;> simp only [uN,uG,uS,uKeys,uKids,uOk] <;> first | (subst_vars; rfl) | grind)
   ·intro h14
    refine AW.seq ?_
    refine AW.rS ?_
    refine AW.c2 ?_ ?_
    ·intro h20
     refine AW.skip ?_
     refine AW.c2 ?_ ?_
     ·intro h22
      refine AW.rS ?_
      refine AW.rt ?_
      first | (exfalso; omega) | (refine used_eq ?_ ?_ ?_ ?_ ?_ ?_ <;> simp only [uN,uG,uS,uKeys,uKids,uOk] <;> first | (subst_vars; rfl) | grind)
     ·intro h22
      refine AW.rS ?_
      refine AW.c2 ?_ ?_
      ·intro h27
       refine AW.rS ?_
       refine AW.rt ?_
       first | (exfalso; omega) | (refine used_eq ?_ ?_ ?_ ?_ ?_ ?_ <;> simp only [uN,uG,uS,uKeys,uKids,uOk] <;> first | (subst_vars; rfl) | grind)
      ·intro h27
       refine AW.rS ?_
       refine AW.c2 ?_ ?_
       ·intro h32
        refine AW.rS ?_
        refine AW.rt ?_
        first | (exfalso; omega) | (refine used_eq ?_ ?_ ?_ ?_ ?_ ?_ <;> simp only [uN,uG,uS,uKeys,uKids,uOk] <;> first | (subst_vars; rfl) | grind)
       ·intro h32
        refine AW.rS ?_
        refine AW.c2 ?_ ?_
        ·intro h37
         refine AW.rS ?_
         refine AW.rt ?_
         first | (exfalso; omega) | (refine used_eq ?_ ?_ ?_ ?_ ?_ ?_ <;> simp only [uN,uG,uS,uKeys,uKids,uOk] <;> first | (subst_vars; rfl) | grind)
        ·intro h37
         refine AW.rS ?_
         refine AW.c2 ?_ ?_
         ·intro h42
          refine AW.rS ?_
          refine AW.rt ?_
          first | (exfalso; omega) | (refine used_eq ?_ ?_ ?_ ?_ ?_ ?_ <;> simp only [uN,uG,uS,uKeys,uKids,uOk] <;> first | (subst_vars; rfl) | grind)
         ·intro h42
          refine AW.skip ?_
          refine AW.rS ?_
          refine AW.rt ?_
          first | (exfalso; omega) | (refine used_eq ?_ ?_ ?_ ?_ ?_ ?_ <;> simp only [uN,uG,uS,uKeys,uKids,uOk] <;> first | (subst_vars; rfl) | grind)
    ·intro h20
     refine AW.rL ?_
     refine AW.c2 ?_ ?_
     ·intro h51
      refine AW.rS ?_
      refine AW.rt ?_
      first | (exfalso; omega) | (refine used_eq ?_ ?_ ?_ ?_ ?_ ?_ <;> simp only [uN,uG,uS,uKeys,uKids,uOk] <;> first | (subst_vars; rfl) | grind)
     ·intro h51
      refine AW.rS ?_
      refine AW.c2 ?_ ?_
      ·intro h56
       refine AW.rS ?_
       refine AW.rt ?_
       first | (exfalso; omega) | (refine used_eq ?_ ?_ ?_ ?_ ?_ ?_ <;> simp only [uN,uG,uS,uKeys,uKids,uOk] <;> first | (subst_vars; rfl) | grind)
      ·intro h56
       refine AW.rS ?_
       refine AW.c2 ?_ ?_
       ·intro h61
        refine AW.rS ?_
        refine AW.rt ?_
        first | (exfalso; omega) | (refine used_eq ?_ ?_ ?_ ?_ ?_ ?_ <;> simp only [uN,uG,uS,uKeys,uKids,uOk] <;> first | (subst_vars; rfl) | grind)
       ·intro h61
        refine AW.rS ?_
        refine AW.c2 ?_ ?_
        ·intro h66
         refine AW.rS ?_
         refine AW.rt ?_
         first | (exfalso; omega) | (refine used_eq ?_ ?_ ?_ ?_ ?_ ?_ <;> simp only [uN,uG,uS,uKeys,uKids,uOk] <;> first | (subst_vars; rfl) | grind)
        ·intro h66
         refine AW.rS ?_
         refine AW.c2 ?_ ?_
         ·intro h71
          refine AW.rS ?_
          refine AW.rt ?_
          first | (exfalso; omega) | (refine used_eq ?_ ?_ ?_ ?_ ?_ ?_ <;> simp only [uN,uG,uS,uKeys,uKids,uOk] <;> first | (subst_vars; rfl) | grind)
         ·intro h71
          refine AW.skip ?_
          refine AW.rS ?_
          refine AW.rt ?_
          first | (exfalso; omega) | (refine used_eq ?_ ?_ ?_ ?_ ?_ ?_ <;> simp only [uN,uG,uS,uKeys,uKids,uOk] <;> first | (subst_vars; rfl) | grind)
  ·intro h12
   refine AW.rS ?_
   refine AW.c2 ?_ ?_
   ·intro h80
    refine AW.skip ?_
    refine AW.c2 ?_ ?_
    ·intro h82
     refine AW.rS ?_
     refine AW.rt ?_
     first | (exfalso; omega) | (refine used_eq ?_ ?_ ?_ ?_ ?_ ?_ <;> simp only [uN,uG,uS,uKeys,uKids,uOk] <;> first | (subst_vars; rfl) | grind)
    ·intro h82
     refine AW.seq ?_
     refine AW.rS ?_
     refine AW.c2 ?_ ?_
     ·intro h88
      refine AW.skip ?_
      refine AW.c2 ?_ ?_
      ·intro h90
       refine AW.rS ?_
       refine AW.rt ?_
       first | (exfalso; omega) | (refine used_eq ?_ ?_ ?_ ?_ ?_ ?_ <;> simp only [uN,uG,uS,uKeys,uKids,uOk] <;> first | (subst_vars; rfl) | grind)
      ·intro h90
       refine AW.rS ?_
       refine AW.c2 ?_ ?_
       ·intro h95
        refine AW.rS ?_
        refine AW.rt ?_
        first | (exfalso; omega) | (refine used_eq ?_ ?_ ?_ ?_ ?_ ?_ <;> simp only [uN,uG,uS,uKeys,uKids,uOk] <;> first | (subst_vars; rfl) | grind)
       ·intro h95
        refine AW.rS ?_
        refine AW.c2 ?_ ?_
        ·intro h100
         refine AW.rS ?_
         refine AW.rt ?_
         first | (exfalso; omega) | (refine used_eq ?_ ?_ ?_ ?_ ?_ ?_ <;> simp only [uN,uG,uS,uKeys,uKids,uOk] <;> first | (subst_vars; rfl) | grind)
        ·intro h100
         refine AW.rS ?_
         refine AW.c2 ?_ ?_
         ·intro h105
          refine AW.rS ?_
          refine AW.rt ?_
          first | (exfalso; omega) | (refine used_eq ?_ ?_ ?_ ?_ ?_ ?_ <;> simp only [uN,uG,uS,uKeys,uKids,uOk] <;> first | (subst_vars; rfl) | grind)
         ·intro h105
          refine AW.rS ?_
          refine AW.c2 ?_ ?_
          ·intro h110
           refine AW.rS ?_
           refine AW.rt ?_
           first | (exfalso; omega) | (refine used_eq ?_ ?_ ?_ ?_ ?_ ?_ <;> simp only [uN,uG,uS,uKeys,uKids,uOk] <;> first | (subst_vars; rfl) | grind)
          ·intro h110
           refine AW.skip ?_
           refine AW.rS ?_
           refine AW.rt ?_
           first | (exfalso; omega) | (refine used_eq ?_ ?_ ?_ ?_ ?_ ?_ <;> simp only [uN,uG,uS,uKeys,uKids,uOk] <;> first | (subst_vars; rfl) | grind)
     ·intro h88
      refine AW.rL ?_
      refine AW.c2 ?_ ?_
      ·intro h119
       refine AW.rS ?_
       refine AW.rt ?_
       first | (exfalso; omega) | (refine used_eq ?_ ?_ ?_ ?_ ?_ ?_ <;> simp only [uN,uG,uS,uKeys,uKids,uOk] <;> first | (subst_vars; rfl) | grind)
      ·intro h119
       refine AW.rS ?_
       refine AW.c2 ?_ ?_
       ·intro h124
        refine AW.rS ?_
        refine AW.rt ?_
        first | (exfalso; omega) | (refine used_eq ?_ ?_ ?_ ?_ ?_ ?_ <;> simp only [uN,uG,uS,uKeys,uKids,uOk] <;> first | (subst_vars; rfl) | grind)
       ·intro h124
        refine AW.rS ?_
        refine AW.c2 ?_ ?_
        ·intro h129
         refine AW.rS ?_
         refine AW.rt ?_
         first | (exfalso; omega) | (refine used_eq ?_ ?_ ?_ ?_ ?_ ?_ <;> simp only [uN,uG,uS,uKeys,uKids,uOk] <;> first | (subst_vars; rfl) | grind)
        ·intro h129
         refine AW.rS ?_
         refine AW.c2 ?_ ?_
         ·intro h134
          refine AW.rS ?_
          refine AW.rt ?_
          first | (exfalso; omega) | (refine used_eq ?_ ?_ ?_ ?_ ?_ ?_ <;> simp only [uN,uG,uS,uKeys,uKids,uOk] <;> first | (subst_vars; rfl) | grind)
         ·intro h134
          refine AW.rS ?_
          refine AW.c2 ?_ ?_
          ·intro h139
           refine AW.rS ?_
           refine AW.rt ?_
           first | (exfalso; omega) | (refine used_eq ?_ ?_ ?_ ?_ ?_ ?_ <;> simp only [uN,uG,uS,uKeys,uKids,uOk] <;> first | (subst_vars; rfl) | grind)
          ·intro h139
           refine AW.skip ?_
           refine AW.rS ?_
           refine AW.rt ?_
           first | (exfalso; omega) | (refine used_eq ?_ ?_ ?_ ?_ ?_ ?_ <;> simp only [uN,uG,uS,uKeys,uKids,uOk] <;> first | (subst_vars; rfl) | grind)
   ·intro h80
    refine AW.rL ?_
    refine AW.c2 ?_ ?_
    ·intro h148
     refine AW.rS ?_
     refine AW.rt ?_
     first | (exfalso; omega) | (refine used_eq ?_ ?_ ?_ ?_ ?_ ?_ <;> simp only [uN,uG,uS,uKeys,uKids,uOk] <;> first | (subst_vars; rfl) | grind)
    ·intro h148
     refine AW.seq ?_
     refine AW.rS ?_
     refine AW.c2 ?_ ?_
     ·intro h154
      refine AW.skip ?_
      refine AW.c2 ?_ ?_
      ·intro h156
       refine AW.rS ?_
       refine AW.rt ?_
       first | (exfalso; omega) | (refine used_eq ?_ ?_ ?_ ?_ ?_ ?_ <;> simp only [uN,uG,uS,uKeys,uKids,uOk] <;> first | (subst_vars; rfl) | grind)
      ·intro h156
       refine AW.rS ?_
       refine AW.c2 ?_ ?_
       ·intro h161
        refine AW.rS ?_
        refine AW.rt ?_
        first | (exfalso; omega) | (refine used_eq ?_ ?_ ?_ ?_ ?_ ?_ <;> simp only [uN,uG,uS,uKeys,uKids,uOk] <;> first | (subst_vars; rfl) | grind)
       ·intro h161
        refine AW.rS ?_
        refine AW.c2 ?_ ?_
        ·intro h166
         refine AW.rS ?_
         refine AW.rt ?_
         first | (exfalso; omega) | (refine used_eq ?_ ?_ ?_ ?_ ?_ ?_ <;> simp only [uN,uG,uS,uKeys,uKids,uOk] <;> first | (subst_vars; rfl) | grind)
        ·intro h166
         refine AW.rS ?_
         refine AW.c2 ?_ ?_
         ·intro h171
          refine AW.rS ?_
          refine AW.rt ?_
          first | (exfalso; omega) | (refine used_eq ?_ ?_ ?_ ?_ ?_ ?_ <;> simp only [uN,uG,uS,uKeys,uKids,uOk] <;> first | (subst_vars; rfl) | grind)
         ·intro h171
          refine AW.rS ?_
          refine AW.c2 ?_ ?_
          ·intro h176
           refine AW.rS ?_
           refine AW.rt ?_
           first | (exfalso; omega) | (refine used_eq ?_ ?_ ?_ ?_ ?_ ?_ <;> simp only [uN,uG,uS,uKeys,uKids,uOk] <;> first | (subst_vars; rfl) | grind)
          ·intro h176
           refine AW.skip ?_
           refine AW.rS ?_
           refine AW.rt ?_
           first | (exfalso; omega) | (refine used_eq ?_ ?_ ?_ ?_ ?_ ?_ <;> simp only [uN,uG,uS,uKeys,uKids,uOk] <;> first | (subst_vars; rfl) | grind)
     ·intro h154
      refine AW.rL ?_
      refine AW.c2 ?_ ?_
      ·intro h185
       refine AW.rS ?_
       refine AW.rt ?_
       first | (exfalso; omega) | (refine used_eq ?_ ?_ ?_ ?_ ?_ ?_ <;> simp only [uN,uG,uS,uKeys,uKids,uOk] <;> first | (subst_vars; rfl) | grind)
      ·intro h185
       refine AW.rS ?_
       refine AW.c2 ?_ ?_
       ·intro h190
        refine AW.rS ?_
        refine AW.rt ?_
        first | (exfalso; omega) | (refine used_eq ?_ ?_ ?_ ?_ ?_ ?_ <;> simp only [uN,uG,uS,uKeys,uKids,uOk] <;> first | (subst_vars; rfl) | grind)
       ·intro h190
        refine AW.rS ?_
        refine AW.c2 ?_ ?_
        ·intro h195
         refine AW.rS ?_
         refine AW.rt ?_
         first | (exfalso; omega) | (refine used_eq ?_ ?_ ?_ ?_ ?_ ?_ <;> simp only [uN,uG,uS,uKeys,uKids,uOk] <;> first | (subst_vars; rfl) | grind)
        ·intro h195
         refine AW.rS ?_
         refine AW.c2 ?_ ?_
         ·intro h200
          refine AW.rS ?_
          refine AW.rt ?_
          first | (exfalso; omega) | (refine used_eq ?_ ?_ ?_ ?_ ?_ ?_ <;> simp only [uN,uG,uS,uKeys,uKids,uOk] <;> first | (subst_vars; rfl) | grind)
         ·intro h200
          refine AW.rS ?_
          refine AW.c2 ?_ ?_
          ·intro h205
           refine AW.rS ?_
           refine AW.rt ?_
           first | (exfalso; omega) | (refine used_eq ?_ ?_ ?_ ?_ ?_ ?_ <;> simp only [uN,uG,uS,uKeys,uKids,uOk] <;> first | (subst_vars; rfl) | grind)
          ·intro h205
           refine AW.skip ?_
           refine AW.rS ?_
           refine AW.rt ?_
           first | (exfalso; omega) | (refine used_eq ?_ ?_ ?_ ?_ ?_ ?_ <;> simp only [uN,uG,uS,uKeys,uKids,uOk] <;> first | (subst_vars; rfl) | grind)
end Go.Proofs

namespace Go.Proofs
open Go.Shelf
def Tryz.lays137_ren : Go.Shelf.Ren:=⟨fun | 137=>127 | 217=>138 | 266=>145 | n=>n,fun | 9=>9 | 5=>5 | 3=>3 | n=>n,fun | n=>n⟩
theorem Tryz.lays137 : Go.Proofs.Lays.n137 Tryz.prog Tryz.lays137_ren:={
 mixed:=by kernel_rfl
 f137:=Tryz.func127.trans (congrArg some (by kernel_rfl))
 f217:=Tryz.func138.trans (congrArg some (by kernel_rfl))
 f266:=Tryz.func145.trans (congrArg some (by kernel_rfl))
 t3:=Tryz.underlying3
 a3:=Tryz.isAgg3
 z3:=Tryz.sizeOf3
 v3:=Tryz.zeroValue3
 t5:=Tryz.underlying5
 a5:=Tryz.isAgg5
 z5:=Tryz.sizeOf5
 v5:=Tryz.zeroValue5
 t9:=Tryz.underlying9
 a9:=Tryz.isAgg9
 z9:=Tryz.sizeOf9
 v9:=Tryz.zeroValue9 }
open Go.RowKit in
theorem Tryz.strings_IndexByte (s : ByteArray) (c : Int) (w : World) :
  Calls Tryz.prog 127 #[.string s,.int .u8 c] w fun e w'=>e = .returned (.int .i64 (Lib.indexByte s.data.toList c.toNat.toUInt8)) ∧ w' = w:=Any.strings_IndexByte Tryz.lays137 s c w
end Go.Proofs

namespace Go.Proofs
open Go Aw
set_option linter.unusedSimpArgs false
set_option linter.unusedVariables false
set_option maxRecDepth 100000
set_option maxHeartbeats 4000000
theorem c_strings_IndexByte (gl : List (Nat × AV)) (s : List UInt8) (c : Int) : FnP Tryz.prog gl 127 [.str s,.int .u8 c] fun r=>r = .ret (.int .i64 (Lib.indexByte s c.toNat.toUInt8)):=by
 refine FnP.same (enters_of Tryz.func127 rfl rfl) ?_
 intro m vs _ hv
 simp only [RepL,Rep] at hv
 obtain ⟨_,_,rfl,rfl,_,_,rfl,rfl,rfl⟩:=hv
 refine (Tryz.strings_IndexByte ⟨s.toArray⟩ c m.w).mono ?_
 rintro e w' ⟨rfl,rfl⟩
 exact ⟨⟨_,rfl,fun m=>by simp only [Rep]⟩,rfl⟩
theorem c_value_key (gl : List (Nat × AV)) (s : List UInt8) : FnP Tryz.prog (gl) 102 [.str s] fun r=>r = .ret (.bool (nameB s)):=by
 refine FnP.intro Tryz.func102 rfl rfl (by simp [Tryz.ntmps102]) ?_
 simp only [argEnv,Tryz.ntmps102,Tryz.results102]
 refine AW.rS ?_
 refine AW.rSC ?_
 refine awOps.cons (awGuard.cG (fun hg=>c_strings_IndexByte _ s 0) ?_)
 refine awOps.rn ?_
 refine AW.rt ?_
 simp only [nameB,Bool.cond_false_right]; rfl
theorem c_value_rising (gl : List (Nat × AV)) (o : Pob) (hk : o.keys.length ≤ 16777216:=by first | omega | exact u8_le _ | assumption | (simp; done) | (simp; omega)) : FnP Tryz.prog (gl) 103 [.agg o.cells] fun r=>r = .ret (.bool (risingB o)):=by
 refine FnP.intro Tryz.func103 rfl rfl (by simp [Tryz.ntmps103]) ?_
 simp only [argEnv,Tryz.ntmps103,Tryz.results103]
 refine AW.rS ?_
 refine AW.seq ?_
 refine AW.rS ?_
 refine AW.c2 ?_ ?_
 ·intro h4
  refine AW.rS ?_
  refine AW.rt ?_
  rw [rising_no (fun h=>by have:=h.1; omega)]
 ·intro h4
  refine AW.skip ?_
  refine AW.seq ?_
  refine AW.rS ?_
  refine AW.block ?_
  refine AW.lk (S:={ i : Nat // i ≤ o.keys.length ∧ ∀ j,j < i → okKey o j }) [1,13,14] (fun s_=>[(15,.int .i64 s_.1)]) (fun s_=>[(0,.cells [.int .i64 o.kind,.int .i64 o.num,.int .i64 o.gen,.str o.str,.sl (strsAV o.keys),.sl (objsAV o.kids)])]) 1 (fun s_=>o.keys.length - s_.1) ⟨0,Nat.zero_le _,fun j h=>absurd h (by omega)⟩ ?_ ?_
  ·refine St.le.vw [0]
  rintro ⟨i,hi,hs⟩
  try dsimp only at hi
  try dsimp only at hs
  refine AW.rS ?_
  refine AW.seq ?_
  refine AW.c2 ?_ ?_
  ·intro h15
   refine AW.skip ?_
   refine AW.seq ?_
   refine AW.block ?_
   refine AW.rS ?_
   refine AW.rSC ?_
   refine awOps.cons (awGuard.c1 (c_value_key _ (o.keys.getD i [])) ?_)
   refine awOps.rn ?_
   refine AW.c2 ?_ ?_
   ·intro h23
    refine AW.rS ?_
    refine AW.rt ?_
    rw [rising_no (fun h=>by have:=h.2 i h15; simp only [okKey] at this; grind)]
   ·intro h23
    refine AW.skip ?_
    have hok : okKey o i:=by simp only [okKey]; grind
    refine AW.rL ?_
    refine ⟨⟨i + 1,by omega,fun j hj=>by rcases Nat.lt_succ_iff_lt_or_eq.1 hj with h | rfl; exact hs j h; exact hok⟩,?_,?_⟩
    ·refine St.le.vw [0]
    ·simp only []; omega
  ·intro h15
   refine AW.exit ?_
   refine AW.rS ?_
   refine AW.rt ?_
   rw [rising_yes ⟨by omega,fun j hj=>hs j (by omega)⟩]
theorem check_step (gl : List (Nat × AV)) (N : Nat) (hN : N ≤ 16777216) (ih : ∀ (o' : Pob) (d : Int),o'.bulk < N → 0 ≤ d → FnP Tryz.prog gl 77 [.agg o'.cells,.int .i64 d] fun r=>r = if decide (chk o' d = 0) = true then .ret (.tup []) else .panic (badAV (chk o' d))) (o : Pob) (d : Int) (ho : o.bulk ≤ N) (hd : 0 ≤ d) : FnP Tryz.prog (gl) 77 [.agg o.cells,.int .i64 d] fun r=>r = if decide (chk o d = 0) = true then .ret (.tup []) else .panic (badAV (chk o d)):=by
 refine FnP.intro Tryz.func77 rfl rfl (by simp [Tryz.ntmps77]) ?_
 simp only [argEnv,Tryz.ntmps77,Tryz.results77]
 have hbulk:=Pob.bulk_eq o
 refine AW.rS ?_
 refine AW.rSC ?_
 refine awOps.cons (awGuard.cM (c_value_must _ (decide (d ≤ 24)) 7) ?_ ?_)
 ·intro hp3
  refine wk ?_
  rw [chk_bad (e:=7) (by simp [ownE,hp3]) (by omega)]; simp
 intro hm3
 refine awOps.rn ?_
 refine AW.rSC ?_
 refine awOps.cons (awGuard.c1 (c_value_used _ o.kind) ?_)
 refine awOps.rn ?_
 refine AW.rSC ?_
 refine awOps.cons (awGuard.cM (c_value_must _ (useB o d) 10) ?_ ?_)
 ·intro hp9
  refine wk ?_
  rw [chk_bad (e:=10) (by simp [ownE,hm3,hp9]) (by omega)]; simp
 intro hm9
 refine awOps.rn ?_
 refine AW.rSC ?_
 refine awOps.cons (awGuard.c1 (c_value_fits _ o) ?_)
 refine awOps.rn ?_
 refine awOps.cons (awGuard.cM (c_value_must _ (fitsB o) 2) ?_ ?_)
 ·intro hp14
  refine wk ?_
  rw [chk_bad (e:=2) (by simp [ownE,hm3,hm9,hp14]) (by omega)]; simp
 intro hm14
 refine awOps.rn ?_
 refine AW.rSC ?_
 refine awOps.cons (awGuard.c1 (c_value_short _ o) ?_)
 refine awOps.rn ?_
 refine awOps.cons (awGuard.cM (c_value_must _ (shortB o) 5) ?_ ?_)
 ·intro hp19
  refine wk ?_
  rw [chk_bad (e:=5) (by simp [ownE,hm3,hm9,hm14,hp19]) (by omega)]; simp
 intro hm19
 refine awOps.rn ?_
 refine AW.rSC ?_
 refine awOps.cons (awGuard.cM (c_value_must _ (decide ((o.kids.length : Int) ≤ 8191)) 6) ?_ ?_)
 ·intro hp22
  refine wk ?_
  rw [chk_bad (e:=6) (by simp [ownE,hm3,hm9,hm14,hm19,hp22]) (by omega)]; simp
 intro hm22
 refine awOps.rn ?_
 refine AW.rSC ?_
 refine awOps.cons (awGuard.cG (fun hg=>c_value_key _ o.str) ?_)
 refine awOps.rn ?_
 refine awOps.cons (awGuard.cG (fun hg=>c_value_rising _ o (by omega)) ?_)
 refine awOps.rn ?_
 refine awOps.cons (awGuard.cM (c_value_must _ (formB o) 3) ?_ ?_)
 ·intro hp29
  refine wk ?_
  rw [chk_bad (e:=3) (by simp [ownE,hm3,hm9,hm14,hm19,hm22,hp29]) (by omega)]; simp
 intro hm29
 refine awOps.rn ?_
 refine AW.rS ?_
 refine AW.block ?_
 have hown : ownE o d = 0:=by simp [ownE,hm3,hm9,hm14,hm19,hm22,hm29]
 refine AW.lk (S:={ i : Nat // i ≤ o.kids.length ∧ chkL o.kids (d + 1) = chkL (o.kids.drop i) (d + 1) }) [1,105,106] (fun s_=>[(107,.int .i64 s_.1)]) (fun s_=>[]) 0 (fun s_=>o.kids.length - s_.1) ⟨0,Nat.zero_le _,rfl⟩ ?_ ?_
 ·refine St.le.vw []
 rintro ⟨i,hi,hs⟩
 try dsimp only at hi
 try dsimp only at hs
 refine AW.rS ?_
 refine AW.seq ?_
 refine AW.c2 ?_ ?_
 ·intro h36
  refine AW.skip ?_
  refine AW.seq ?_
  refine AW.block ?_
  refine AW.rS ?_
  refine AW.rLC ?_
  refine awOps.cons (awGuard.cM (ih (o.kids.getD i Pob.null) (d + 1) (Nat.lt_of_lt_of_le (Pob.bulk_kid (by omega)) ho) (by omega)) ?_ ?_)
  ·intro hp42
   refine wk ?_
   rw [chk_eq o d,hown,if_pos rfl,hs,chkL_drop (by omega),if_neg hp42,decide_eq_false hp42] <;> rfl
  intro hm42
  refine awOps.rn ?_
  refine AW.rL ?_
  refine ⟨⟨i + 1,by omega,by rw [hs,chkL_drop (by omega),if_pos hm42]⟩,?_,?_⟩
  ·refine St.le.vw []
  ·simp only []; omega
 ·intro h36
  refine AW.exit ?_
  refine wk ?_
  rw [chk_eq o d,hown,if_pos rfl,hs,List.drop_of_length_le (by omega)]; simp [chkL]
theorem check_all (gl : List (Nat × AV)) (N : Nat) : N ≤ 16777216 → ∀ (o : Pob) (d : Int),0 ≤ d → o.bulk ≤ N → FnP Tryz.prog gl 77 [.agg o.cells,.int .i64 d] fun r=>r = if decide (chk o d = 0) = true then .ret (.tup []) else .panic (badAV (chk o d)):=by
 induction N using Nat.strongRecOn with
 | ind N IH=>exact fun hN o d hd ho=>check_step gl N hN (fun o' d' h hd'=>IH o'.bulk h (by omega) o' d' hd' (Nat.le_refl _)) o d ho hd
theorem c_value_check (gl : List (Nat × AV)) (o : Pob) (d : Int) (hd : 0 ≤ d) (h : o.bulk ≤ 16777216:=by assumption) : FnP Tryz.prog gl 77 [.agg o.cells,.int .i64 d] fun r=>r = if decide (chk o d = 0) = true then .ret (.tup []) else .panic (badAV (chk o d)):=check_all gl 16777216 (Nat.le_refl _) o d hd h
theorem d_caught_ret (gl : List (Nat × AV)) (e : Int) : FnD Tryz.prog gl 97 [.ptr 0 0] [(0,.cells [.int .i64 e])] 1 .ret (fun u hp nx=>u = .ret ∧ hp = [(0,.cells [.int .i64 e])] ∧ nx = 1):=by
 refine FnD.intro Tryz.func97 rfl rfl (by simp [Tryz.ntmps97]) ?_
 simp only [argEnv,Tryz.ntmps97,Tryz.results97]
 refine AWD.seq (AWD.regRecover rfl rfl rfl rfl (by simp only [go_sem,seval]) ?_)
 refine awOps.rn ?_
 refine AWD.of ?_
 refine AW.block ?_
 refine AW.rS ?_
 refine AW.c2 ?_ ?_
 ·intro h4
  refine AW.rL ?_
  refine wk ?_
  trivial
 ·intro h4
  simp at h4
theorem d_caught_pan (gl : List (Nat × AV)) (e0 e : Int) : FnD Tryz.prog gl 97 [.ptr 0 0] [(0,.cells [.int .i64 e0])] 1 (.pan (badAV e)) (fun u hp nx=>u = .ret ∧ hp = [(0,.cells [.int .i64 e]),(1,.cells [.int .i64 e])] ∧ nx = 2):=by
 refine FnD.intro Tryz.func97 rfl rfl (by simp [Tryz.ntmps97]) ?_
 simp only [argEnv,Tryz.ntmps97,Tryz.results97]
 refine AWD.seq (AWD.regRecover rfl rfl rfl rfl (by simp only [go_sem,seval]) ?_)
 refine awOps.rn ?_
 refine AWD.of ?_
 refine AW.block ?_
 simp only [badAV]
 refine AW.rS ?_
 refine AW.c2 ?_ ?_
 ·intro h4
  simp at h4
 ·intro h4
  refine AW.rS ?_
  refine AW.c2 ?_ ?_
  ·intro h9
   refine AW.rS ?_
   refine AW.rL ?_
   refine wk ?_
   trivial
  ·intro h9
   simp at h9
theorem c_value_caught (gl : List (Nat × AV)) (f : FuncId) (cs : List AV) (e : Int) (hc : FnP Tryz.prog gl f [.tptr cs] fun r=>r = if decide (e = 0) = true then .ret (.tup []) else .panic (badAV e)) : FnP Tryz.prog (gl) 75 [.clos f [.tptr cs]] fun r=>r = .ret (.int .i64 e):=by
 refine FnP.introD Tryz.func75 rfl rfl (by simp [Tryz.ntmps75]) ?_
 simp only [argEnv,Tryz.ntmps75]
 refine AW.rS ?_
 refine AW.df ?_
 refine AW.rSC ?_
 refine awOps.cons (awGuard.cM (hc) ?_ ?_)
 ·intro hp4
  refine wk ?_
  refine finD_pan ?_
  refine LeaveS.c1 [0] (d_caught_pan _ 0 e) ?_
  refine LeaveS.rt Tryz.results75 ?_
  trivial
 intro hm4
 refine awOps.rn ?_
 refine AW.rS ?_
 refine AW.rt ?_
 refine LeaveS.c1 [0] (d_caught_ret _ 0) ?_
 refine LeaveS.rt Tryz.results75 ?_
 rw [hm4]
theorem c_value_Check_1 (gl : List (Nat × AV)) (o : Pob) (h : o.bulk ≤ 16777216:=by first | omega | exact u8_le _ | assumption | (simp; done) | (simp; omega)) : FnP Tryz.prog (gl) 76 [.tptr o.cells] fun r=>r = if decide (chk o 1 = 0) = true then .ret (.tup []) else .panic (badAV (chk o 1)):=by
 refine FnP.intro Tryz.func76 rfl rfl (by simp [Tryz.ntmps76]) ?_
 simp only [argEnv,Tryz.ntmps76,Tryz.results76]
 refine AW.rLC ?_
 refine awOps.cons (awGuard.cM (c_value_check _ o 1 (by omega)) ?_ ?_)
 ·intro hp2
  refine wk ?_
  rw [decide_eq_false hp2]; simp
 intro hm2
 refine awOps.rn ?_
 refine wk ?_
 rw [decide_eq_true hm2]; simp
theorem c_value_Check (gl : List (Nat × AV)) (o : Pob) (h : o.bulk ≤ 16777216:=by first | omega | exact u8_le _ | assumption | (simp; done) | (simp; omega)) : FnP Tryz.prog (gl) 47 [.agg o.cells] fun r=>r = .ret (.int .i64 (chk o 1)):=by
 refine FnP.intro Tryz.func47 rfl rfl (by simp [Tryz.ntmps47]) ?_
 simp only [argEnv,Tryz.ntmps47,Tryz.results47]
 refine AW.rS ?_
 refine AW.rSC ?_
 refine awOps.cons (awGuard.c1 (c_value_caught _ 76 o.cells (chk o 1) (c_value_Check_1 _ o)) ?_)
 refine awOps.rn ?_
 refine AW.rt ?_
 all_goals first | contradiction | rfl | (simp; done) | (simp; omega)
theorem c_value_Null (gl : List (Nat × AV))  : FnP Tryz.prog (gl) 64 [] fun r=>r = .ret (.agg Pob.null.cells):=by
 refine FnP.intro Tryz.func64 rfl rfl (by simp [Tryz.ntmps64]) ?_
 simp only [argEnv,Tryz.ntmps64,Tryz.results64]
 refine AW.rS ?_
 refine AW.rS ?_
 refine AW.rt ?_
 all_goals first | contradiction | rfl | (simp; done) | (simp; omega)
theorem c_value_Ref (gl : List (Nat × AV)) (n g : Int) (hn : -9223372036854775808 ≤ n ∧ n ≤ 9223372036854775807:=by first | omega | exact u8_le _ | assumption | (simp; done) | (simp; omega)) : FnP Tryz.prog (gl) 65 [.int .i64 n,.int .i64 g] fun r=>r = .ret (.agg (refO n g).cells):=by
 refine FnP.intro Tryz.func65 rfl rfl (by simp [Tryz.ntmps65]) ?_
 simp only [argEnv,Tryz.ntmps65,Tryz.results65]
 refine AW.rS ?_
 refine AW.rS ?_
 refine AW.rt ?_
 all_goals first | contradiction | rfl | (simp; done) | (simp; omega)
theorem c_foliantref05_Texts (gl : List (Nat × AV)) (a b : List (List UInt8)) (ha : a.length ≤ 16777216:=by first | omega | exact u8_le _ | assumption | (simp; done) | (simp; omega)) : FnP Tryz.prog (gl) 49 [.sl (strsAV a),.sl (strsAV b)] fun r=>r = .ret (.bool (decide (a = b))):=by
 refine FnP.intro Tryz.func49 rfl rfl (by simp [Tryz.ntmps49]) ?_
 simp only [argEnv,Tryz.ntmps49,Tryz.results49]
 refine AW.rS ?_
 refine AW.seq ?_
 refine AW.rS ?_
 refine AW.c2 ?_ ?_
 ·intro h4
  refine AW.rS ?_
  refine AW.rt ?_
  rw [decide_eq_false (fun e=>h4 (by rw [e]))]
 ·intro h4
  refine AW.skip ?_
  refine AW.seq ?_
  refine AW.rS ?_
  refine AW.block ?_
  refine AW.lk (S:={ i : Nat // i ≤ a.length ∧ a.take i = b.take i }) [0,1,12] (fun s_=>[(13,.int .i64 s_.1)]) (fun s_=>[]) 0 (fun s_=>a.length - s_.1) ⟨0,Nat.zero_le _,rfl⟩ ?_ ?_
  ·refine St.le.vw []
  rintro ⟨i,hi,hs⟩
  try dsimp only at hi
  try dsimp only at hs
  refine AW.rS ?_
  refine AW.seq ?_
  refine AW.c2 ?_ ?_
  ·intro h15
   refine AW.skip ?_
   refine AW.seq ?_
   refine AW.block ?_
   refine AW.rS ?_
   refine AW.dS [(0,0),(1,0),(2,1),(3,1),(4,0),(5,0),(6,1),(7,1),(8,0)] ?_
   refine AW.c2 ?_ ?_
   ·intro h21
    refine AW.rS ?_
    refine AW.rt ?_
    rw [decide_eq_false (fun e=>h21 (by rw [e]))]
   ·intro h21
    refine AW.skip ?_
    refine AW.rL ?_
    refine ⟨⟨i + 1,by omega,takeS_succ h15 (by omega) hs h21⟩,?_,?_⟩
    ·refine St.le.vw []
    ·simp only []; omega
  ·intro h15
   refine AW.exit ?_
   refine AW.rS ?_
   refine AW.rt ?_
   rw [List.take_of_length_le (by omega),List.take_of_length_le (by omega)] at hs
   simp [hs]
theorem rlist_step (gl : List (Nat × AV)) (N : Nat) (ih : ∀ x y : Pob,x.bulk < N → FnP Tryz.prog gl 20 [.agg x.cells,.agg y.cells] fun r=>r = .ret (.bool (decide (x = y)))) (a b : List Pob) (ha : a.length ≤ 16777216) (hb : ∀ i,i < a.length → (a.getD i Pob.null).bulk < N) : FnP Tryz.prog (gl) 50 [.sl (objsAV a),.sl (objsAV b)] fun r=>r = .ret (.bool (decide (a = b))):=by
 refine FnP.intro Tryz.func50 rfl rfl (by simp [Tryz.ntmps50]) ?_
 simp only [argEnv,Tryz.ntmps50,Tryz.results50]
 refine AW.rS ?_
 refine AW.seq ?_
 refine AW.rS ?_
 refine AW.c2 ?_ ?_
 ·intro h4
  refine AW.rS ?_
  refine AW.rt ?_
  rw [decide_eq_false (fun e=>h4 (by rw [e]))]
 ·intro h4
  refine AW.skip ?_
  refine AW.seq ?_
  refine AW.rS ?_
  refine AW.block ?_
  refine AW.lk (S:={ i : Nat // i ≤ a.length ∧ a.take i = b.take i }) [0,1,12] (fun s_=>[(13,.int .i64 s_.1)]) (fun s_=>[]) 0 (fun s_=>a.length - s_.1) ⟨0,Nat.zero_le _,rfl⟩ ?_ ?_
  ·refine St.le.vw []
  rintro ⟨i,hi,hs⟩
  try dsimp only at hi
  try dsimp only at hs
  refine AW.rS ?_
  refine AW.seq ?_
  refine AW.c2 ?_ ?_
  ·intro h15
   refine AW.skip ?_
   refine AW.seq ?_
   refine AW.block ?_
   refine AW.rS ?_
   refine AW.dSC [(0,0),(1,0),(2,0),(3,1),(4,0),(5,0),(6,0),(7,1),(8,2),(9,0)] ?_
   refine awPlan.only rfl ?_
   refine awGuard.c1 (ih (a.getD i Pob.null) (b.getD i Pob.null) (hb i (by omega))) ?_
   refine awPlan.rn ?_
   refine AW.c2 ?_ ?_
   ·intro h23
    refine AW.rS ?_
    refine AW.rt ?_
    rw [decide_eq_false (fun e=>h23 (by rw [e]))]
   ·intro h23
    refine AW.skip ?_
    refine AW.rL ?_
    refine ⟨⟨i + 1,by omega,takeO_succ h15 (by omega) hs h23⟩,?_,?_⟩
    ·refine St.le.vw []
    ·simp only []; omega
  ·intro h15
   refine AW.exit ?_
   refine AW.rS ?_
   refine AW.rt ?_
   rw [List.take_of_length_le (by omega),List.take_of_length_le (by omega)] at hs
   simp [hs]
theorem rsame_step (gl : List (Nat × AV)) (N : Nat) (hN : N ≤ 16777216) (ih : ∀ x y : Pob,x.bulk < N → FnP Tryz.prog gl 20 [.agg x.cells,.agg y.cells] fun r=>r = .ret (.bool (decide (x = y)))) (a b : Pob) (ha : a.bulk ≤ N) : FnP Tryz.prog (gl) 20 [.agg a.cells,.agg b.cells] fun r=>r = .ret (.bool (decide (a = b))):=by
 refine FnP.intro Tryz.func20 rfl rfl (by simp [Tryz.ntmps20]) ?_
 simp only [argEnv,Tryz.ntmps20,Tryz.results20]
 have hbulk:=Pob.bulk_eq a
 refine AW.rS ?_
 refine AW.rSC ?_
 refine awOps.cons (awGuard.cG (fun hg=>c_foliantref05_Texts _ a.keys b.keys (by omega)) ?_)
 refine awOps.rn ?_
 refine awOps.cons (awGuard.cG (fun hg=>rlist_step _ N ih a.kids b.kids (by omega) (fun i hi=>Nat.lt_of_lt_of_le (Pob.bulk_kid hi) ha)) ?_)
 refine awOps.rn ?_
 refine AW.rt ?_
 rw [show ∀ x y : Bool,x = y → AE.ret (.bool x) = AE.ret (.bool y) from fun _ _ h=>by rw [h]]
 rw [Bool.eq_iff_iff]
 simp only [decide_eq_true_eq,Bool.cond_false_right,Bool.and_eq_true,Pob_eq a b,and_assoc]
theorem rsame_all (gl : List (Nat × AV)) (N : Nat) : N ≤ 16777216 → ∀ x y : Pob,x.bulk ≤ N → FnP Tryz.prog gl 20 [.agg x.cells,.agg y.cells] fun r=>r = .ret (.bool (decide (x = y))):=by
 induction N using Nat.strongRecOn with
 | ind N IH=>exact fun hN x y hx=>rsame_step gl N hN (fun x' y' h=>IH x'.bulk h (by omega) x' y' (Nat.le_refl _)) x y hx
theorem c_foliantref05_Same (gl : List (Nat × AV)) (x y : Pob) (h : x.bulk ≤ 16777216:=by first | assumption | omega) : FnP Tryz.prog gl 20 [.agg x.cells,.agg y.cells] fun r=>r = .ret (.bool (decide (x = y))):=rsame_all gl 16777216 (Nat.le_refl _) x y h
theorem size_step (gl : List (Nat × AV)) (N : Nat) (hN : N ≤ 16777216) (ih : ∀ o' : Pob,o'.bulk < N → o'.psize ≤ 4611686018427387904 → FnP Tryz.prog gl 17 [.agg o'.cells] fun r=>r = .ret (.int .i64 o'.psize)) (o : Pob) (ho : o.bulk ≤ N) (hp : o.psize ≤ 4611686018427387904) : FnP Tryz.prog (gl) 17 [.agg o.cells] fun r=>r = .ret (.int .i64 o.psize):=by
 refine FnP.intro Tryz.func17 rfl rfl (by simp [Tryz.ntmps17]) ?_
 simp only [argEnv,Tryz.ntmps17,Tryz.results17]
 have hb:=Pob.bulk_eq o
 have hpe:=Pob.psize_eq o
 have hk0:=ksize_nil
 have hp0:=psizes_nil
 refine AW.rS ?_
 refine AW.rS ?_
 refine AW.seq ?_
 refine AW.rS ?_
 refine AW.block ?_
 refine AW.lk (S:={ i : Nat // i ≤ o.keys.length }) [1,14,15] (fun s_=>[(3,.int .i64 ((1 + o.str.length / 50 + ksize (o.keys.take s_.1) : Nat) : Int)),(16,.int .i64 s_.1)]) (fun s_=>[(0,.cells o.cells)]) 1 (fun s_=>o.keys.length - s_.1) ⟨0,Nat.zero_le _⟩ ?_ ?_
 ·refine St.le.vw [0]
 rintro ⟨i,hi⟩
 try dsimp only at hi
 refine AW.rS ?_
 refine AW.seq ?_
 refine AW.c2 ?_ ?_
 ·intro h9
  have h1:=ksize_take h9
  have h2:=ksize_take_le o.keys (i + 1)
  refine AW.skip ?_
  refine AW.seq ?_
  refine AW.block ?_
  refine AW.rS ?_
  refine AW.rL ?_
  refine AW.rL ?_
  refine ⟨⟨i + 1,by omega⟩,?_,?_⟩
  ·refine St.le.vw [0]
  ·simp only []; omega
 ·intro h9
  refine AW.exit ?_
  obtain rfl : i = o.keys.length:=by omega
  rw [List.take_length]
  refine AW.seq ?_
  refine AW.rS ?_
  refine AW.block ?_
  refine AW.lk (S:={ i : Nat // i ≤ o.kids.length }) [27,28] (fun s_=>[(3,.int .i64 ((1 + o.str.length / 50 + ksize o.keys + psizes (o.kids.take s_.1) : Nat) : Int)),(29,.int .i64 s_.1)]) (fun s_=>[(0,.cells o.cells)]) 1 (fun s_=>o.kids.length - s_.1) ⟨0,Nat.zero_le _⟩ ?_ ?_
  ·refine St.le.vw [0]
  rintro ⟨j,hj⟩
  try dsimp only at hj
  refine AW.rS ?_
  refine AW.seq ?_
  refine AW.c2 ?_ ?_
  ·intro h24
   have h1:=psizes_take h24
   have h2:=psizes_take_le o.kids (j + 1)
   have h3:=psizes_get h24
   refine AW.skip ?_
   refine AW.seq ?_
   refine AW.block ?_
   refine AW.rS ?_
   refine AW.rLC ?_
   refine awOps.cons (awGuard.c1 (ih (o.kids.getD j Pob.null) (Nat.lt_of_lt_of_le (Pob.bulk_kid (by omega)) ho) (by omega)) ?_)
   refine awOps.rn ?_
   refine AW.rL ?_
   refine ⟨⟨j + 1,by omega⟩,?_,?_⟩
   ·refine St.le.vw [0]
   ·simp only []; omega
  ·intro h24
   refine AW.exit ?_
   refine AW.rS ?_
   refine AW.rt ?_
   obtain rfl : j = o.kids.length:=by omega
   rw [List.take_length,hpe]
theorem size_all (gl : List (Nat × AV)) (N : Nat) : N ≤ 16777216 → ∀ o : Pob,o.bulk ≤ N → o.psize ≤ 4611686018427387904 → FnP Tryz.prog gl 17 [.agg o.cells] fun r=>r = .ret (.int .i64 o.psize):=by
 induction N using Nat.strongRecOn with
 | ind N IH=>exact fun hN x hx hp=>size_step gl N hN (fun x' h hp'=>IH x'.bulk h (by omega) x' (Nat.le_refl _) hp') x hx hp
theorem c_foliantref05_Size (gl : List (Nat × AV)) (o : Pob) (h : o.bulk ≤ 16777216) (hp : o.psize ≤ 4611686018427387904) : FnP Tryz.prog gl 17 [.agg o.cells] fun r=>r = .ret (.int .i64 o.psize):=size_all gl 16777216 (Nat.le_refl _) o h hp
end Go.Proofs

namespace Aw
open Go
mutual
def Pob.pre : Pob → List Pob
 | .mk k n g s ks l=>.mk k n g s ks l :: pres l
def pres : List Pob → List Pob
 | []=>[]
 | o :: l=>o.pre ++ pres l
end
theorem pres_nil : pres [] = []:=by simp only [pres]
theorem Pob.pre_eq (o : Pob) : o.pre = o :: pres o.kids:=by cases o; simp only [Pob.pre,Pob.kids]
theorem pres_append (a b : List Pob) : pres (a ++ b) = pres a ++ pres b:=by
 induction a with
 | nil=>simp [pres]
 | cons x a ih=>simp only [List.cons_append,pres,ih,List.append_assoc]
theorem pres_take {l : List Pob} {i : Nat} (h : i < l.length) : pres (l.take (i + 1)) = pres (l.take i) ++ (l.getD i Pob.null).pre:=by
 rw [List.take_succ_eq_append_getElem h,pres_append]
 simp [pres,List.getD,h]
attribute [irreducible] Pob.pre pres
def Pob.has (o : Pob) (k : List UInt8) (v : Pob) : Prop:=∃ i,i < o.keys.length ∧ o.keys.getD i [] = k ∧ o.kids.getD i Pob.null = v
def Pob.kvOk (o : Pob) : Prop:=incr o.keys ∧ o.keys.length = o.kids.length
theorem incr_inj {ks : List (List UInt8)} (hs : incr ks) {i j : Nat} (hi : i < ks.length) (hj : j < ks.length) (h : ks.getD i [] = ks.getD j []) : i = j:=by
 rcases Nat.lt_trichotomy i j with g | g | g
 ·have:=hs i j g hj; rw [h,bl_irrefl] at this; cases this
 ·exact g
 ·have:=hs j i g hi; rw [h,bl_irrefl] at this; cases this
theorem kvOk_of_chk {o : Pob} {d : Int} (h : chk o d = 0) (hk : keyedB o.kind = true) : o.kvOk:=⟨rising_incr (chk_rising h hk),(chk_rising h hk).1⟩
theorem incr_keys_ext : ∀ {a b : List (List UInt8)},incr a → incr b → (∀ k,(∃ i,i < a.length ∧ a.getD i [] = k) ↔ ∃ i,i < b.length ∧ b.getD i [] = k) → a = b
 | [],[],_,_,_=>rfl
 | [],y :: b,_,_,h=>by
  obtain ⟨i,hi,_⟩:=(h y).2 ⟨0,by simp,rfl⟩
  simp at hi
 | x :: a,[],_,_,h=>by
  obtain ⟨i,hi,_⟩:=(h x).1 ⟨0,by simp,rfl⟩
  simp at hi
 | x :: a,y :: b,ha,hb,h=>by
  have hxy : x = y:=by
   obtain ⟨i,hi,e1⟩:=(h x).1 ⟨0,by simp,rfl⟩
   obtain ⟨j,hj,e2⟩:=(h y).2 ⟨0,by simp,rfl⟩
   rcases Nat.eq_zero_or_pos i with rfl | g1
   ·simpa using e1.symm
   ·rcases Nat.eq_zero_or_pos j with rfl | g2
    ·simpa using e2
    ·have l1:=hb 0 i g1 hi
     have l2:=ha 0 j g2 hj
     rw [e1] at l1
     rw [e2] at l2
     simp only [List.getD_cons_zero] at l1 l2
     rw [bl_asymm l1] at l2
     cases l2
  subst hxy
  have tl : ∀ {l : List (List UInt8)},incr (x :: l) → incr l:=fun hl a b hab hb=>by
   have:=hl (a + 1) (b + 1) (by omega) (by simpa using hb)
   simpa using this
  congr 1
  refine incr_keys_ext (tl ha) (tl hb) fun k=>?_
  have half : ∀ {l m : List (List UInt8)},incr (x :: l) → incr (x :: m) → ((∃ i,i < (x :: l).length ∧ (x :: l).getD i [] = k) → ∃ i,i < (x :: m).length ∧ (x :: m).getD i [] = k) → (∃ i,i < l.length ∧ l.getD i [] = k) → ∃ i,i < m.length ∧ m.getD i [] = k:=by
   rintro l m hl hm hh ⟨i,hi,e⟩
   obtain ⟨j,hj,e2⟩:=hh ⟨i + 1,by simpa using hi,by simpa using e⟩
   cases j with
   | zero =>
    have:=hl 0 (i + 1) (by omega) (by simpa using hi)
    simp only [List.getD_cons_zero,List.getD_cons_succ] at this e2
    rw [e,← e2,bl_irrefl] at this
    cases this
   | succ j=>exact ⟨j,by simpa using hj,by simpa using e2⟩
  exact ⟨half ha hb (h k).1,half hb ha (h k).2⟩
theorem has_key {o : Pob} {k : List UInt8} : (∃ v,o.has k v) ↔ ∃ i,i < o.keys.length ∧ o.keys.getD i [] = k :=
 ⟨fun ⟨_,i,hi,e,_⟩=>⟨i,hi,e⟩,fun ⟨i,hi,e⟩=>⟨_,i,hi,e,rfl⟩⟩
theorem kv_ext {a b : Pob} (ha : a.kvOk) (hb : b.kvOk) (h1 : a.kind = b.kind) (h2 : a.num = b.num) (h3 : a.gen = b.gen) (h4 : a.str = b.str) (h : ∀ k v,a.has k v ↔ b.has k v) : a = b:=by
 have hk : a.keys = b.keys:=incr_keys_ext ha.1 hb.1 fun k=>by
  rw [← has_key,← has_key]
  exact ⟨fun ⟨v,hv⟩=>⟨v,(h k v).1 hv⟩,fun ⟨v,hv⟩=>⟨v,(h k v).2 hv⟩⟩
 have hl : a.kids.length = b.kids.length:=by rw [← ha.2,← hb.2,hk]
 refine (Pob_eq a b).2 ⟨h1,h2,h3,h4,hk,?_⟩
 apply List.ext_getElem hl
 intro i hi hi'
 obtain ⟨j,hj,e1,e2⟩:=(h (a.keys.getD i []) (a.kids.getD i Pob.null)).1 ⟨i,by have:=ha.2; omega,rfl,rfl⟩
 rw [hk] at e1
 have:=incr_inj hb.1 hj (by have:=hb.2; omega) e1
 subst this
 simp only [List.getD,List.getElem?_eq_getElem hi',List.getElem?_eq_getElem hi,Option.getD_some] at e2
 exact e2.symm
theorem kidxI_cases (ks : List (List UInt8)) (k : List UInt8) : (∃ i : Nat,i < ks.length ∧ kidxI ks k = i ∧ ks.getD i [] = k) ∨ (kidxI ks k = -1 ∧ ∀ j,j < ks.length → ks.getD j [] ≠ k):=by
 by_cases h : kidx ks k < ks.length
 ·left
  refine ⟨kidx ks k,h,by simp [kidxI,h],?_⟩
  have h2 : decide (ks[kidx ks k] = k) = true:=List.findIdx_getElem (p:=fun x=>decide (x = k)) (w:=h)
  simpa [List.getD,h] using h2
 ·right
  refine ⟨by simp [kidxI,h],fun j hj e=>h ?_⟩
  unfold kidx
  rw [List.findIdx_lt_length]
  refine ⟨ks[j],List.getElem_mem hj,?_⟩
  simpa [List.getD,hj] using e
theorem get_has {o : Pob} (hs : o.kvOk) (hk : keyedB o.kind = true) {k : List UInt8} {v : Pob} : (getB o k = true ∧ getO o k = v) ↔ o.has k v:=by
 rcases kidxI_cases o.keys k with ⟨i,hi,e,e2⟩ | ⟨e,h⟩
 ·have hg:=get_hit (o:=o) (key:=k) hk (by rw [e]; have:=hs.2; omega)
  rw [hg.1,hg.2,e]
  simp only [true_and,Int.toNat_natCast]
  constructor
  ·intro h; exact ⟨i,hi,e2,h⟩
  ·rintro ⟨j,hj,e3,rfl⟩
   rw [incr_inj hs.1 hi hj (e2.trans e3.symm)]
 ·have hg:=get_miss (o:=o) (key:=k) (.inl (by omega))
  rw [hg.1]
  simp only [Bool.false_eq_true,false_and,false_iff]
  rintro ⟨j,hj,e3,_⟩
  exact h j hj e3
theorem get_no {o : Pob} (hs : o.kvOk) (hk : keyedB o.kind = true) {k : List UInt8} (h : ∀ v,¬ o.has k v) : getB o k = false ∧ getO o k = Pob.null:=by
 cases hb : getB o k with
 | true=>exact absurd ((get_has hs hk).1 ⟨hb,rfl⟩) (h _)
 | false=>exact ⟨rfl,by simp [getO,hb]⟩
theorem chkL_iff {l : List Pob} {d : Int} : chkL l d = 0 ↔ ∀ x ∈ l,chk x d = 0:=by
 induction l with
 | nil=>simp [chkL]
 | cons o l ih =>
  simp only [chkL,List.mem_cons]
  constructor
  ·intro h
   split at h
   ·rename_i h1
    rintro x (rfl | hx)
    ·exact h1
    ·exact ih.1 h x hx
   ·rename_i h1; exact absurd h h1
  ·intro h
   rw [if_pos (h o (.inl rfl))]
   exact ih.2 fun x hx=>h x (.inr hx)
theorem chk_iff {o : Pob} {d : Int} : chk o d = 0 ↔ ownE o d = 0 ∧ ∀ x ∈ o.kids,chk x (d + 1) = 0:=by
 rw [chk_eq]
 constructor
 ·intro h
  split at h
  ·rename_i h1; exact ⟨h1,chkL_iff.1 h⟩
  ·rename_i h1; exact absurd h h1
 ·rintro ⟨h1,h2⟩
  rw [if_pos h1,chkL_iff.2 h2]
theorem ownE_iff {o : Pob} {d : Int} : ownE o d = 0 ↔ d ≤ 24 ∧ useB o d = true ∧ fitsB o = true ∧ shortB o = true ∧ (o.kids.length : Int) ≤ 8191 ∧ formB o = true:=by
 refine ⟨ownE_spec,fun ⟨h1,h2,h3,h4,h5,h6⟩=>?_⟩
 unfold ownE
 simp [h1,h2,h3,h4,h5,h6]
theorem rising_iff {o : Pob} : risingP o ↔ o.kvOk ∧ ∀ k v,o.has k v → nameB k = true ∧ ¬ (o.kind = 9 ∧ k = lengthK) ∧ v.kind ≠ 0:=by
 constructor
 ·intro h
  refine ⟨⟨rising_incr h,h.1⟩,?_⟩
  rintro k v ⟨i,hi,rfl,rfl⟩
  have:=h.2 i hi
  exact ⟨this.1,this.2.2.1,this.2.2.2⟩
 ·rintro ⟨h1,h2⟩
  refine ⟨h1.2,fun i hi=>?_⟩
  have:=h2 _ _ ⟨i,hi,rfl,rfl⟩
  exact ⟨this.1,fun h0=>h1.1 (i - 1) i (by omega) hi,this.2.1,this.2.2⟩
theorem has_kid {o : Pob} (hs : o.kvOk) {x : Pob} : x ∈ o.kids ↔ ∃ k,o.has k x:=by
 constructor
 ·intro h
  obtain ⟨i,hi,rfl⟩:=List.getElem_of_mem h
  exact ⟨o.keys.getD i [],i,by have:=hs.2; omega,rfl,by simp [List.getD,hi]⟩
 ·rintro ⟨k,i,hi,_,rfl⟩
  have hi' : i < o.kids.length:=by have:=hs.2; omega
  simp only [List.getD,List.getElem?_eq_getElem hi',Option.getD_some]
  exact List.getElem_mem hi'
theorem keyed_cases {k : Int} (h : keyedB k = true) : k = 7 ∨ k = 9:=by simpa [keyedB] using h
theorem useB_keyed {o : Pob} (hk : keyedB o.kind = true) {d : Int} : useB o d = true ↔ o.num = 0 ∧ o.gen = 0 ∧ (o.kind = 9 ∨ o.str = []) ∧ (d = 1 ∨ o.kind = 7):=by
 rcases keyed_cases hk with h | h <;> simp [useB,uOk,uN,uG,uS,uKeys,uKids,h] <;> grind
theorem formB_keyed {o : Pob} (hk : keyedB o.kind = true) : formB o = true ↔ risingP o:=by
 rcases keyed_cases hk with h | h <;> simp [formB,uKeys,h,risingB]
theorem fitsB_keyed {o : Pob} (hk : keyedB o.kind = true) : fitsB o = true:=by
 rcases keyed_cases hk with h | h <;> simp [fitsB,h]
theorem shortB_keyed {o : Pob} (hk : keyedB o.kind = true) : shortB o = true ↔ (o.str.length : Int) ≤ 1048576:=by
 rcases keyed_cases hk with h | h <;> simp [shortB,h]
theorem chk_keyed {o : Pob} (hk : keyedB o.kind = true) {d : Int} : chk o d = 0 ↔ (d ≤ 24 ∧ o.num = 0 ∧ o.gen = 0 ∧ (o.kind = 9 ∨ o.str = []) ∧ (d = 1 ∨ o.kind = 7) ∧ (o.str.length : Int) ≤ 1048576 ∧ (o.kids.length : Int) ≤ 8191) ∧ o.kvOk ∧
  ∀ k v,o.has k v → nameB k = true ∧ ¬ (o.kind = 9 ∧ k = lengthK) ∧ v.kind ≠ 0 ∧ chk v (d + 1) = 0:=by
 rw [chk_iff,ownE_iff,useB_keyed hk,formB_keyed hk,shortB_keyed hk,rising_iff]
 constructor
 ·rintro ⟨⟨h1,⟨h2,h3,h4,h5⟩,_,h6,h7,hs,h8⟩,h9⟩
  refine ⟨⟨h1,h2,h3,h4,h5,h6,h7⟩,hs,fun k v hv=>?_⟩
  obtain ⟨g1,g2,g3⟩:=h8 k v hv
  exact ⟨g1,g2,g3,h9 v ((has_kid hs).2 ⟨k,hv⟩)⟩
 ·rintro ⟨⟨h1,h2,h3,h4,h5,h6,h7⟩,hs,h8⟩
  refine ⟨⟨h1,⟨h2,h3,h4,h5⟩,fitsB_keyed hk,h6,h7,hs,fun k v hv=>?_⟩,fun v hv=>?_⟩
  ·obtain ⟨g1,g2,g3,_⟩:=h8 k v hv
   exact ⟨g1,g2,g3⟩
  ·obtain ⟨k,hk'⟩:=(has_kid hs).1 hv
   exact (h8 k v hk').2.2.2
def sortI (s : List Int) : List Int:=s.mergeSort fun x y=>decide (x ≤ y)
theorem nidxI_cases (l : List Int) (n : Int) : (∃ i : Nat,i < l.length ∧ nidxI l n = i ∧ l.getD i 0 = n) ∨ (nidxI l n = -1 ∧ n ∉ l):=by
 unfold nidxI
 by_cases h : nidx l n < l.length
 ·left
  refine ⟨nidx l n,h,by simp [h],?_⟩
  have h2 : decide (l[nidx l n] = n) = true:=List.findIdx_getElem (p:=fun x=>decide (x = n)) (w:=h)
  simpa [List.getD,h] using h2
 ·right
  refine ⟨by simp [h],fun hm=>h ?_⟩
  unfold nidx
  rw [List.findIdx_lt_length]
  exact ⟨n,hm,by simp⟩
end Aw

set_option linter.unusedVariables false
namespace Aw
open Go
end Aw

set_option linter.unusedVariables false
set_option linter.unusedSimpArgs false
namespace Aw
open Go
theorem idxb_neg : ∀ {s : List UInt8} {c : UInt8},Lib.indexByte s c < 0 ↔ ∀ i,i < s.length → s.getD i 0 ≠ c
 | [],c=>by simp [Lib.indexByte]
 | b :: l,c=>by
  have ih:=idxb_neg (s:=l) (c:=c)
  have hg:=Lib.indexByte_ge l c
  rw [Lib.indexByte]
  by_cases hb : b = c
  ·rw [if_pos (by simpa using hb)]
   refine ⟨fun h=>absurd h (by omega),fun h=>absurd (h 0 (by simp)) (by simpa using hb)⟩
  ·rw [if_neg (by simpa using hb)]
   constructor
   ·intro h i hi
    cases i with
    | zero=>simpa using hb
    | succ i =>
     have h' : Lib.indexByte l c < 0:=by
      split at h <;> rename_i h1
      ·have h1 : Lib.indexByte l c = -1:=by simpa using h1
       omega
      ·omega
     simpa using ih.1 h' i (by simpa using hi)
   ·intro h
    have h':=ih.2 fun i hi=>by simpa using h (i + 1) (by simpa using hi)
    have h2 : Lib.indexByte l c = -1:=by omega
    simp [h2]
theorem nameB_no {s : List UInt8} {i : Nat} (hi : i < s.length) (h : s.getD i 0 = 0) : nameB s = false:=by
 have : ¬ Lib.indexByte s 0 < 0:=fun h'=>idxb_neg.1 h' i hi h
 simp [nameB,this]
theorem nameB_all {s : List UInt8} (h : ∀ i,i < s.length → s.getD i 0 ≠ 0) : nameB s = decide ((s.length : Int) ≤ 127):=by
 have : Lib.indexByte s 0 < 0:=idxb_neg.2 h
 simp [nameB,this]
/-! a key less -/
/-! a key put -/
/-! numbers in order -/
theorem use_split (o : Pob) (d : Int) : useB o d = (useB o 1 && (decide (d = 1) || !decide (o.kind = 9))):=by
 unfold useB
 cases (bif bif bif bif bif uOk o.kind then bif uN o.kind then true else decide (o.num = 0) else false then bif uG o.kind then true else decide (o.gen = 0) else false then bif uS o.kind then true else decide (o.str = []) else false
  then bif uKeys o.kind then true else decide ((o.keys.length : Int) = 0) else false then bif uKids o.kind then true else decide ((o.kids.length : Int) = 0) else false) <;> simp
theorem own_deep {o : Pob} {d : Int} (h : 24 < d) : chk o d = 7:=chk_bad (by unfold ownE; rw [if_pos (by omega)]) (by decide)
theorem own_use {o : Pob} {d : Int} (h : ¬ 24 < d) (h' : useB o d = false) : chk o d = 10:=chk_bad (by unfold ownE; rw [if_neg (by omega),if_pos h']) (by decide)
theorem own_fits {o : Pob} {d : Int} (h : ¬ 24 < d) (h1 : useB o d = true) (h' : fitsB o = false) : chk o d = 2:=chk_bad (by unfold ownE; rw [if_neg (by omega),if_neg (by simp [h1]),if_pos h']) (by decide)
theorem own_long {o : Pob} {d : Int} (h : ¬ 24 < d) (h1 : useB o d = true) (h2 : fitsB o = true) (h' : shortB o = false) : chk o d = 5:=chk_bad (by unfold ownE; rw [if_neg (by omega),if_neg (by simp [h1]),if_neg (by simp [h2]),if_pos h']) (by decide)
theorem own_many {o : Pob} {d : Int} (h : ¬ 24 < d) (h1 : useB o d = true) (h2 : fitsB o = true) (h3 : shortB o = true) (h' : 8191 < (o.kids.length : Int)) : chk o d = 6:=chk_bad (by unfold ownE; rw [if_neg (by omega),if_neg (by simp [h1]),if_neg (by simp [h2]),if_neg (by simp [h3]),if_pos (by omega)]) (by decide)
theorem own_form {o : Pob} {d : Int} (h : ¬ 24 < d) (h1 : useB o d = true) (h2 : fitsB o = true) (h3 : shortB o = true) (h4 : ¬ 8191 < (o.kids.length : Int)) (h' : formB o = false) : chk o d = 3:=chk_bad (by unfold ownE; rw [if_neg (by omega),if_neg (by simp [h1]),if_neg (by simp [h2]),if_neg (by simp [h3]),if_neg (by omega),if_pos h']) (by decide)
theorem own_ok {o : Pob} {d : Int} (h : ¬ 24 < d) (h1 : useB o d = true) (h2 : fitsB o = true) (h3 : shortB o = true) (h4 : ¬ 8191 < (o.kids.length : Int)) (h' : formB o = true) : chk o d = chkL o.kids (d + 1):=by
 rw [chk_eq,if_pos]
 unfold ownE
 rw [if_neg (by omega),if_neg (by simp [h1]),if_neg (by simp [h2]),if_neg (by simp [h3]),if_neg (by omega),if_neg (by simp [h'])]
def longN (k : Int) : Int:=if k = 5 then 127 else if k = 9 then 1048576 else 32767
theorem short_ref {o : Pob} (hu : useB o 1 = true) : shortB o = decide ((o.str.length : Int) ≤ longN o.kind):=by
 by_cases h4 : o.kind = 4
 ·simp [shortB,longN,h4]
 by_cases h5 : o.kind = 5
 ·simp [shortB,longN,h5]
 by_cases h9 : o.kind = 9
 ·simp [shortB,longN,h9]
 have hs : o.str = []:=by
  have hb : uS o.kind = false:=by simp [uS,h4,h5,h9]
  unfold useB at hu
  rw [hb] at hu
  cases hc : decide (o.str = []) with
  | true=>simpa using hc
  | false=>rw [hc] at hu; revert hu; cases (bif bif bif uOk o.kind then bif uN o.kind then true else decide (o.num = 0) else false then bif uG o.kind then true else decide (o.gen = 0) else false then true else false) <;> simp
 simp only [shortB,longN,if_neg h4,if_neg h5,if_neg h9,hs]
 simp
theorem form_name {o : Pob} (h : o.kind = 5) : formB o = nameB o.str:=by
 have : uKeys 5 = false:=rfl
 simp [formB,h,this]
theorem form_none {o : Pob} (h : ¬ o.kind = 5) (h7 : ¬ o.kind = 7) (h9 : ¬ o.kind = 9) : formB o = true:=by
 have : uKeys o.kind = false:=by simp [uKeys,h7,h9]
 simp [formB,h,this]
theorem form_keys {o : Pob} (h7 : o.kind = 7 ∨ o.kind = 9) : formB o = risingB o:=by
 have : uKeys o.kind = true:=by simpa [uKeys] using h7
 have h5 : ¬ o.kind = 5:=by omega
 simp [formB,h5,this]
/-! sizes -/
theorem Pob.tot_eq (o : Pob) : o.tot = o.str.length + (o.keys.map fun k=>k.length + 1).sum + tots o.kids + 7:=by cases o; simp only [Pob.tot,Pob.str,Pob.keys,Pob.kids]
theorem tots_get : ∀ {l : List Pob} {i : Nat},i < l.length → (l.getD i Pob.null).tot ≤ tots l
 | o :: l,0,_=>by simp [tots]
 | o :: l,i + 1,h=>by
  have:=tots_get (l:=l) (i:=i) (by simpa using h)
  simp only [List.getD_cons_succ,tots]
  omega
theorem Pob.tot_kid {o : Pob} {i : Nat} (h : i < o.kids.length) : (o.kids.getD i Pob.null).tot + 7 ≤ o.tot:=by
 have:=Pob.tot_eq o
 have:=tots_get h
 omega
theorem ktot_get : ∀ {l : List (List UInt8)} {i : Nat},i < l.length → (l.getD i []).length + 1 ≤ (l.map fun k=>k.length + 1).sum
 | k :: l,0,_=>by simp
 | k :: l,i + 1,h=>by
  have:=ktot_get (l:=l) (i:=i) (by simpa using h)
  simp only [List.getD_cons_succ,List.map_cons,List.sum_cons]
  omega
theorem Pob.tot_key {o : Pob} {i : Nat} (h : i < o.keys.length) : (o.keys.getD i []).length + 8 ≤ o.tot:=by
 have:=Pob.tot_eq o
 have:=ktot_get h
 omega
theorem Pob.tot_str (o : Pob) : o.str.length + 7 ≤ o.tot:=by
 have:=Pob.tot_eq o
 omega
end Aw

namespace Go.Proofs
open Go Aw
set_option linter.unusedSimpArgs false
set_option linter.unusedVariables false
set_option maxRecDepth 100000
set_option maxHeartbeats 4000000
attribute [local go_sem] take_strsAV app1_strsAV take_intsAV app1_intsAV app1_objsAV
end Go.Proofs

namespace Go.Proofs
open Go Aw
set_option linter.unusedSimpArgs false
set_option linter.unusedVariables false
set_option maxRecDepth 100000
set_option maxHeartbeats 4000000
theorem c_foliantref05_Name (gl : List (Nat × AV)) (s : List UInt8) (hl : s.length ≤ 16777216:=by first | omega | exact u8_le _ | assumption | (simp; done) | (simp; omega)) : FnP Tryz.prog (gl) 107 [.str s] fun r=>r = .ret (.bool (nameB s)):=by
 refine FnP.intro Tryz.func107 rfl rfl (by simp [Tryz.ntmps107]) ?_
 simp only [argEnv,Tryz.ntmps107,Tryz.results107]
 refine AW.rS ?_
 refine AW.seq ?_
 refine AW.rS ?_
 refine AW.block ?_
 refine AW.lk (S:={ i : Nat // i ≤ s.length ∧ ∀ j,j < i → s.getD j 0 ≠ 0 }) [0] (fun s_=>[(3,.int .i64 s_.1)]) (fun s_=>[]) 0 (fun s_=>s.length - s_.1) ⟨0,Nat.zero_le _,fun j h=>absurd h (by omega)⟩ ?_ ?_
 ·refine St.le.vw []
 rintro ⟨i,hi,hs⟩
 try dsimp only at hi
 try dsimp only at hs
 refine AW.seq ?_
 refine AW.rS ?_
 refine AW.c2 ?_ ?_
 ·intro h8
  refine AW.skip ?_
  refine AW.seq ?_
  refine AW.block ?_
  refine AW.rS ?_
  refine AW.c2 ?_ ?_
  ·intro h13
   refine AW.rS ?_
   refine AW.rt ?_
   rw [nameB_no h8 (by simpa [← UInt8.toNat_inj] using h13)]
  ·intro h13
   refine AW.skip ?_
   refine AW.rL ?_
   refine ⟨⟨i + 1,by omega,fun j hj=>(Nat.lt_or_ge j i).elim (hs j) (fun h=>(show j = i by omega) ▸ (by simpa [← UInt8.toNat_inj] using h13))⟩,?_,?_⟩
   ·refine St.le.vw []
   ·simp only []; omega
 ·intro h8
  refine AW.exit ?_
  refine AW.rS ?_
  refine AW.rt ?_
  rw [nameB_all (fun j hj=>hs j (by omega))]
theorem c_foliantref05_zero (gl : List (Nat × AV)) (o : Pob) (n g s l : Bool) : FnP Tryz.prog (gl) 106 [.agg o.cells,.bool n,.bool g,.bool s,.bool l] fun r=>r = .ret (.bool ((n || decide (o.num = 0)) && (g || decide (o.gen = 0)) && (s || decide (o.str = [])) && (l || (decide ((o.keys.length : Int) = 0) && decide ((o.kids.length : Int) = 0))))):=by
 refine FnP.intro Tryz.func106 rfl rfl (by simp [Tryz.ntmps106]) ?_
 simp only [argEnv,Tryz.ntmps106,Tryz.results106]
 refine AW.rS ?_
 refine AW.rS ?_
 refine AW.rt ?_
 cases n <;> cases g <;> cases s <;> cases l <;> simp
theorem c_foliantref05_uses (gl : List (Nat × AV)) (o : Pob) : FnP Tryz.prog (gl) 82 [.agg o.cells] fun r=>r = .ret (.bool (useB o 1)):=by
 refine FnP.intro Tryz.func82 rfl rfl (by simp [Tryz.ntmps82]) ?_
 simp only [argEnv,Tryz.ntmps82,Tryz.results82]
 refine AW.rS ?_
 refine AW.seq ?_
 refine AW.rS ?_
 refine AW.block ?_
 refine AW.rS ?_
 refine AW.c2 ?_ ?_
 ·intro h6
  refine AW.rSC ?_
  refine awOps.cons (awGuard.c1 (c_foliantref05_zero _ o false false false false) ?_)
  refine awOps.rn ?_
  refine AW.rt ?_
  first | (simp_all [useB,uN,uG,uS,uKeys,uKids,uOk,Bool.and_assoc]; done) | (simp_all [useB,uN,uG,uS,uKeys,uKids,uOk]; omega)
 ·intro h6
  refine AW.seq ?_
  refine AW.rS ?_
  refine AW.c2 ?_ ?_
  ·intro h14
   refine AW.skip ?_
   refine AW.c2 ?_ ?_
   ·intro h16
    refine AW.rSC ?_
    refine awOps.cons (awGuard.c1 (c_foliantref05_zero _ o true false false false) ?_)
    refine awOps.rn ?_
    refine AW.rt ?_
    first | (simp_all [useB,uN,uG,uS,uKeys,uKids,uOk,Bool.and_assoc]; done) | (simp_all [useB,uN,uG,uS,uKeys,uKids,uOk]; omega)
   ·intro h16
    refine AW.seq ?_
    refine AW.rS ?_
    refine AW.c2 ?_ ?_
    ·intro h24
     refine AW.skip ?_
     refine AW.c2 ?_ ?_
     ·intro h26
      refine AW.rSC ?_
      refine awOps.cons (awGuard.c1 (c_foliantref05_zero _ o false false true false) ?_)
      refine awOps.rn ?_
      refine AW.rt ?_
      first | (simp_all [useB,uN,uG,uS,uKeys,uKids,uOk,Bool.and_assoc]; done) | (simp_all [useB,uN,uG,uS,uKeys,uKids,uOk]; omega)
     ·intro h26
      refine AW.rS ?_
      refine AW.c2 ?_ ?_
      ·intro h33
       refine AW.rSC ?_
       refine awOps.cons (awGuard.c1 (c_foliantref05_zero _ o false false false true) ?_)
       refine awOps.rn ?_
       refine AW.rt ?_
       first | (simp_all [useB,uN,uG,uS,uKeys,uKids,uOk,Bool.and_assoc]; done) | (simp_all [useB,uN,uG,uS,uKeys,uKids,uOk]; omega)
      ·intro h33
       refine AW.rS ?_
       refine AW.c2 ?_ ?_
       ·intro h40
        refine AW.rSC ?_
        refine awOps.cons (awGuard.c1 (c_foliantref05_zero ..) ?_)
        refine awOps.rn ?_
        refine AW.rt ?_
        first | (simp_all [useB,uN,uG,uS,uKeys,uKids,uOk,Bool.and_assoc]; done) | (simp_all [useB,uN,uG,uS,uKeys,uKids,uOk]; omega)
       ·intro h40
        refine AW.rS ?_
        refine AW.c2 ?_ ?_
        ·intro h47
         refine AW.rSC ?_
         refine awOps.cons (awGuard.c1 (c_foliantref05_zero ..) ?_)
         refine awOps.rn ?_
         refine AW.rt ?_
         first | (simp_all [useB,uN,uG,uS,uKeys,uKids,uOk,Bool.and_assoc]; done) | (simp_all [useB,uN,uG,uS,uKeys,uKids,uOk]; omega)
        ·intro h47
         refine AW.rS ?_
         refine AW.c2 ?_ ?_
         ·intro h54
          refine AW.rSC ?_
          refine awOps.cons (awGuard.c1 (c_foliantref05_zero ..) ?_)
          refine awOps.rn ?_
          refine AW.rt ?_
          first | (simp_all [useB,uN,uG,uS,uKeys,uKids,uOk,Bool.and_assoc]; done) | (simp_all [useB,uN,uG,uS,uKeys,uKids,uOk]; omega)
         ·intro h54
          refine AW.skip ?_
          refine AW.rS ?_
          refine AW.rt ?_
          first | (simp_all [useB,uN,uG,uS,uKeys,uKids,uOk,Bool.and_assoc]; done) | (simp_all [useB,uN,uG,uS,uKeys,uKids,uOk]; omega)
    ·intro h24
     refine AW.rL ?_
     refine AW.c2 ?_ ?_
     ·intro h65
      refine AW.rSC ?_
      refine awOps.cons (awGuard.c1 (c_foliantref05_zero ..) ?_)
      refine awOps.rn ?_
      refine AW.rt ?_
      first | (simp_all [useB,uN,uG,uS,uKeys,uKids,uOk,Bool.and_assoc]; done) | (simp_all [useB,uN,uG,uS,uKeys,uKids,uOk]; omega)
     ·intro h65
      refine AW.rS ?_
      refine AW.c2 ?_ ?_
      ·intro h72
       refine AW.rSC ?_
       refine awOps.cons (awGuard.c1 (c_foliantref05_zero ..) ?_)
       refine awOps.rn ?_
       refine AW.rt ?_
       first | (simp_all [useB,uN,uG,uS,uKeys,uKids,uOk,Bool.and_assoc]; done) | (simp_all [useB,uN,uG,uS,uKeys,uKids,uOk]; omega)
      ·intro h72
       refine AW.rS ?_
       refine AW.c2 ?_ ?_
       ·intro h79
        refine AW.rSC ?_
        refine awOps.cons (awGuard.c1 (c_foliantref05_zero ..) ?_)
        refine awOps.rn ?_
        refine AW.rt ?_
        first | (simp_all [useB,uN,uG,uS,uKeys,uKids,uOk,Bool.and_assoc]; done) | (simp_all [useB,uN,uG,uS,uKeys,uKids,uOk]; omega)
       ·intro h79
        refine AW.rS ?_
        refine AW.c2 ?_ ?_
        ·intro h86
         refine AW.rSC ?_
         refine awOps.cons (awGuard.c1 (c_foliantref05_zero ..) ?_)
         refine awOps.rn ?_
         refine AW.rt ?_
         first | (simp_all [useB,uN,uG,uS,uKeys,uKids,uOk,Bool.and_assoc]; done) | (simp_all [useB,uN,uG,uS,uKeys,uKids,uOk]; omega)
        ·intro h86
         refine AW.rS ?_
         refine AW.c2 ?_ ?_
         ·intro h93
          refine AW.rSC ?_
          refine awOps.cons (awGuard.c1 (c_foliantref05_zero ..) ?_)
          refine awOps.rn ?_
          refine AW.rt ?_
          first | (simp_all [useB,uN,uG,uS,uKeys,uKids,uOk,Bool.and_assoc]; done) | (simp_all [useB,uN,uG,uS,uKeys,uKids,uOk]; omega)
         ·intro h93
          refine AW.skip ?_
          refine AW.rS ?_
          refine AW.rt ?_
          first | (simp_all [useB,uN,uG,uS,uKeys,uKids,uOk,Bool.and_assoc]; done) | (simp_all [useB,uN,uG,uS,uKeys,uKids,uOk]; omega)
  ·intro h14
   refine AW.rS ?_
   refine AW.c2 ?_ ?_
   ·intro h104
    refine AW.skip ?_
    refine AW.c2 ?_ ?_
    ·intro h106
     refine AW.rSC ?_
     refine awOps.cons (awGuard.c1 (c_foliantref05_zero ..) ?_)
     refine awOps.rn ?_
     refine AW.rt ?_
     first | (simp_all [useB,uN,uG,uS,uKeys,uKids,uOk,Bool.and_assoc]; done) | (simp_all [useB,uN,uG,uS,uKeys,uKids,uOk]; omega)
    ·intro h106
     refine AW.seq ?_
     refine AW.rS ?_
     refine AW.c2 ?_ ?_
     ·intro h114
      refine AW.skip ?_
      refine AW.c2 ?_ ?_
      ·intro h116
       refine AW.rSC ?_
       refine awOps.cons (awGuard.c1 (c_foliantref05_zero ..) ?_)
       refine awOps.rn ?_
       refine AW.rt ?_
       first | (simp_all [useB,uN,uG,uS,uKeys,uKids,uOk,Bool.and_assoc]; done) | (simp_all [useB,uN,uG,uS,uKeys,uKids,uOk]; omega)
      ·intro h116
       refine AW.rS ?_
       refine AW.c2 ?_ ?_
       ·intro h123
        refine AW.rSC ?_
        refine awOps.cons (awGuard.c1 (c_foliantref05_zero ..) ?_)
        refine awOps.rn ?_
        refine AW.rt ?_
        first | (simp_all [useB,uN,uG,uS,uKeys,uKids,uOk,Bool.and_assoc]; done) | (simp_all [useB,uN,uG,uS,uKeys,uKids,uOk]; omega)
       ·intro h123
        refine AW.rS ?_
        refine AW.c2 ?_ ?_
        ·intro h130
         refine AW.rSC ?_
         refine awOps.cons (awGuard.c1 (c_foliantref05_zero ..) ?_)
         refine awOps.rn ?_
         refine AW.rt ?_
         first | (simp_all [useB,uN,uG,uS,uKeys,uKids,uOk,Bool.and_assoc]; done) | (simp_all [useB,uN,uG,uS,uKeys,uKids,uOk]; omega)
        ·intro h130
         refine AW.rS ?_
         refine AW.c2 ?_ ?_
         ·intro h137
          refine AW.rSC ?_
          refine awOps.cons (awGuard.c1 (c_foliantref05_zero ..) ?_)
          refine awOps.rn ?_
          refine AW.rt ?_
          first | (simp_all [useB,uN,uG,uS,uKeys,uKids,uOk,Bool.and_assoc]; done) | (simp_all [useB,uN,uG,uS,uKeys,uKids,uOk]; omega)
         ·intro h137
          refine AW.rS ?_
          refine AW.c2 ?_ ?_
          ·intro h144
           refine AW.rSC ?_
           refine awOps.cons (awGuard.c1 (c_foliantref05_zero ..) ?_)
           refine awOps.rn ?_
           refine AW.rt ?_
           first | (simp_all [useB,uN,uG,uS,uKeys,uKids,uOk,Bool.and_assoc]; done) | (simp_all [useB,uN,uG,uS,uKeys,uKids,uOk]; omega)
          ·intro h144
           refine AW.skip ?_
           refine AW.rS ?_
           refine AW.rt ?_
           first | (simp_all [useB,uN,uG,uS,uKeys,uKids,uOk,Bool.and_assoc]; done) | (simp_all [useB,uN,uG,uS,uKeys,uKids,uOk]; omega)
     ·intro h114
      refine AW.rL ?_
      refine AW.c2 ?_ ?_
      ·intro h155
       refine AW.rSC ?_
       refine awOps.cons (awGuard.c1 (c_foliantref05_zero ..) ?_)
       refine awOps.rn ?_
       refine AW.rt ?_
       first | (simp_all [useB,uN,uG,uS,uKeys,uKids,uOk,Bool.and_assoc]; done) | (simp_all [useB,uN,uG,uS,uKeys,uKids,uOk]; omega)
      ·intro h155
       refine AW.rS ?_
       refine AW.c2 ?_ ?_
       ·intro h162
        refine AW.rSC ?_
        refine awOps.cons (awGuard.c1 (c_foliantref05_zero ..) ?_)
        refine awOps.rn ?_
        refine AW.rt ?_
        first | (simp_all [useB,uN,uG,uS,uKeys,uKids,uOk,Bool.and_assoc]; done) | (simp_all [useB,uN,uG,uS,uKeys,uKids,uOk]; omega)
       ·intro h162
        refine AW.rS ?_
        refine AW.c2 ?_ ?_
        ·intro h169
         refine AW.rSC ?_
         refine awOps.cons (awGuard.c1 (c_foliantref05_zero ..) ?_)
         refine awOps.rn ?_
         refine AW.rt ?_
         first | (simp_all [useB,uN,uG,uS,uKeys,uKids,uOk,Bool.and_assoc]; done) | (simp_all [useB,uN,uG,uS,uKeys,uKids,uOk]; omega)
        ·intro h169
         refine AW.rS ?_
         refine AW.c2 ?_ ?_
         ·intro h176
          refine AW.rSC ?_
          refine awOps.cons (awGuard.c1 (c_foliantref05_zero ..) ?_)
          refine awOps.rn ?_
          refine AW.rt ?_
          first | (simp_all [useB,uN,uG,uS,uKeys,uKids,uOk,Bool.and_assoc]; done) | (simp_all [useB,uN,uG,uS,uKeys,uKids,uOk]; omega)
         ·intro h176
          refine AW.rS ?_
          refine AW.c2 ?_ ?_
          ·intro h183
           refine AW.rSC ?_
           refine awOps.cons (awGuard.c1 (c_foliantref05_zero ..) ?_)
           refine awOps.rn ?_
           refine AW.rt ?_
           first | (simp_all [useB,uN,uG,uS,uKeys,uKids,uOk,Bool.and_assoc]; done) | (simp_all [useB,uN,uG,uS,uKeys,uKids,uOk]; omega)
          ·intro h183
           refine AW.skip ?_
           refine AW.rS ?_
           refine AW.rt ?_
           first | (simp_all [useB,uN,uG,uS,uKeys,uKids,uOk,Bool.and_assoc]; done) | (simp_all [useB,uN,uG,uS,uKeys,uKids,uOk]; omega)
   ·intro h104
    refine AW.rL ?_
    refine AW.c2 ?_ ?_
    ·intro h194
     refine AW.rSC ?_
     refine awOps.cons (awGuard.c1 (c_foliantref05_zero ..) ?_)
     refine awOps.rn ?_
     refine AW.rt ?_
     first | (simp_all [useB,uN,uG,uS,uKeys,uKids,uOk,Bool.and_assoc]; done) | (simp_all [useB,uN,uG,uS,uKeys,uKids,uOk]; omega)
    ·intro h194
     refine AW.seq ?_
     refine AW.rS ?_
     refine AW.c2 ?_ ?_
     ·intro h202
      refine AW.skip ?_
      refine AW.c2 ?_ ?_
      ·intro h204
       refine AW.rSC ?_
       refine awOps.cons (awGuard.c1 (c_foliantref05_zero ..) ?_)
       refine awOps.rn ?_
       refine AW.rt ?_
       first | (simp_all [useB,uN,uG,uS,uKeys,uKids,uOk,Bool.and_assoc]; done) | (simp_all [useB,uN,uG,uS,uKeys,uKids,uOk]; omega)
      ·intro h204
       refine AW.rS ?_
       refine AW.c2 ?_ ?_
       ·intro h211
        refine AW.rSC ?_
        refine awOps.cons (awGuard.c1 (c_foliantref05_zero ..) ?_)
        refine awOps.rn ?_
        refine AW.rt ?_
        first | (simp_all [useB,uN,uG,uS,uKeys,uKids,uOk,Bool.and_assoc]; done) | (simp_all [useB,uN,uG,uS,uKeys,uKids,uOk]; omega)
       ·intro h211
        refine AW.rS ?_
        refine AW.c2 ?_ ?_
        ·intro h218
         refine AW.rSC ?_
         refine awOps.cons (awGuard.c1 (c_foliantref05_zero ..) ?_)
         refine awOps.rn ?_
         refine AW.rt ?_
         first | (simp_all [useB,uN,uG,uS,uKeys,uKids,uOk,Bool.and_assoc]; done) | (simp_all [useB,uN,uG,uS,uKeys,uKids,uOk]; omega)
        ·intro h218
         refine AW.rS ?_
         refine AW.c2 ?_ ?_
         ·intro h225
          refine AW.rSC ?_
          refine awOps.cons (awGuard.c1 (c_foliantref05_zero ..) ?_)
          refine awOps.rn ?_
          refine AW.rt ?_
          first | (simp_all [useB,uN,uG,uS,uKeys,uKids,uOk,Bool.and_assoc]; done) | (simp_all [useB,uN,uG,uS,uKeys,uKids,uOk]; omega)
         ·intro h225
          refine AW.rS ?_
          refine AW.c2 ?_ ?_
          ·intro h232
           refine AW.rSC ?_
           refine awOps.cons (awGuard.c1 (c_foliantref05_zero ..) ?_)
           refine awOps.rn ?_
           refine AW.rt ?_
           first | (simp_all [useB,uN,uG,uS,uKeys,uKids,uOk,Bool.and_assoc]; done) | (simp_all [useB,uN,uG,uS,uKeys,uKids,uOk]; omega)
          ·intro h232
           refine AW.skip ?_
           refine AW.rS ?_
           refine AW.rt ?_
           first | (simp_all [useB,uN,uG,uS,uKeys,uKids,uOk,Bool.and_assoc]; done) | (simp_all [useB,uN,uG,uS,uKeys,uKids,uOk]; omega)
     ·intro h202
      refine AW.rL ?_
      refine AW.c2 ?_ ?_
      ·intro h243
       refine AW.rSC ?_
       refine awOps.cons (awGuard.c1 (c_foliantref05_zero ..) ?_)
       refine awOps.rn ?_
       refine AW.rt ?_
       first | (simp_all [useB,uN,uG,uS,uKeys,uKids,uOk,Bool.and_assoc]; done) | (simp_all [useB,uN,uG,uS,uKeys,uKids,uOk]; omega)
      ·intro h243
       refine AW.rS ?_
       refine AW.c2 ?_ ?_
       ·intro h250
        refine AW.rSC ?_
        refine awOps.cons (awGuard.c1 (c_foliantref05_zero ..) ?_)
        refine awOps.rn ?_
        refine AW.rt ?_
        first | (simp_all [useB,uN,uG,uS,uKeys,uKids,uOk,Bool.and_assoc]; done) | (simp_all [useB,uN,uG,uS,uKeys,uKids,uOk]; omega)
       ·intro h250
        refine AW.rS ?_
        refine AW.c2 ?_ ?_
        ·intro h257
         refine AW.rSC ?_
         refine awOps.cons (awGuard.c1 (c_foliantref05_zero ..) ?_)
         refine awOps.rn ?_
         refine AW.rt ?_
         first | (simp_all [useB,uN,uG,uS,uKeys,uKids,uOk,Bool.and_assoc]; done) | (simp_all [useB,uN,uG,uS,uKeys,uKids,uOk]; omega)
        ·intro h257
         refine AW.rS ?_
         refine AW.c2 ?_ ?_
         ·intro h264
          refine AW.rSC ?_
          refine awOps.cons (awGuard.c1 (c_foliantref05_zero ..) ?_)
          refine awOps.rn ?_
          refine AW.rt ?_
          first | (simp_all [useB,uN,uG,uS,uKeys,uKids,uOk,Bool.and_assoc]; done) | (simp_all [useB,uN,uG,uS,uKeys,uKids,uOk]; omega)
         ·intro h264
          refine AW.rS ?_
          refine AW.c2 ?_ ?_
          ·intro h271
           refine AW.rSC ?_
           refine awOps.cons (awGuard.c1 (c_foliantref05_zero ..) ?_)
           refine awOps.rn ?_
           refine AW.rt ?_
           first | (simp_all [useB,uN,uG,uS,uKeys,uKids,uOk,Bool.and_assoc]; done) | (simp_all [useB,uN,uG,uS,uKeys,uKids,uOk]; omega)
          ·intro h271
           refine AW.skip ?_
           refine AW.rS ?_
           refine AW.rt ?_
           first | (simp_all [useB,uN,uG,uS,uKeys,uKids,uOk,Bool.and_assoc]; done) | (simp_all [useB,uN,uG,uS,uKeys,uKids,uOk]; omega)
theorem c_foliantref05_fits (gl : List (Nat × AV)) (o : Pob) : FnP Tryz.prog (gl) 83 [.agg o.cells] fun r=>r = .ret (.bool (fitsB o)):=by
 refine FnP.intro Tryz.func83 rfl rfl (by simp [Tryz.ntmps83]) ?_
 simp only [argEnv,Tryz.ntmps83,Tryz.results83]
 refine AW.rS ?_
 refine AW.seq ?_
 refine AW.rS ?_
 refine AW.block ?_
 refine AW.rS ?_
 refine AW.c2 ?_ ?_
 ·intro h6
  refine AW.rS ?_
  refine AW.rt ?_
  first | (simp_all [fitsB,Bool.and_assoc]; done) | (simp_all only [fitsB]; simp; rw [Bool.eq_iff_iff]; simp; omega)
 ·intro h6
  refine AW.rS ?_
  refine AW.c2 ?_ ?_
  ·intro h11
   refine AW.rS ?_
   refine AW.rt ?_
   first | (simp_all [fitsB,Bool.and_assoc]; done) | (simp_all only [fitsB]; simp; rw [Bool.eq_iff_iff]; simp; omega)
  ·intro h11
   refine AW.rS ?_
   refine AW.c2 ?_ ?_
   ·intro h16
    refine AW.rS ?_
    refine AW.rt ?_
    first | (simp_all [fitsB,Bool.and_assoc]; done) | (simp_all only [fitsB]; simp; rw [Bool.eq_iff_iff]; simp; omega)
   ·intro h16
    refine AW.rS ?_
    refine AW.c2 ?_ ?_
    ·intro h21
     refine AW.rS ?_
     refine AW.rt ?_
     first | (simp_all [fitsB,Bool.and_assoc]; done) | (simp_all only [fitsB]; simp; rw [Bool.eq_iff_iff]; simp; omega)
    ·intro h21
     refine AW.skip ?_
     refine AW.rS ?_
     refine AW.rt ?_
     first | (simp_all [fitsB,Bool.and_assoc]; done) | (simp_all only [fitsB]; simp; rw [Bool.eq_iff_iff]; simp; omega)
theorem c_foliantref05_long (gl : List (Nat × AV)) (k : Int) : FnP Tryz.prog (gl) 84 [.int .i64 k] fun r=>r = .ret (.int .i64 (longN k)):=by
 refine FnP.intro Tryz.func84 rfl rfl (by simp [Tryz.ntmps84]) ?_
 simp only [argEnv,Tryz.ntmps84,Tryz.results84]
 refine AW.rS ?_
 refine AW.seq ?_
 refine AW.rS ?_
 refine AW.c2 ?_ ?_
 ·intro h4
  refine AW.rS ?_
  refine AW.rt ?_
  simp_all [longN]
 ·intro h4
  refine AW.skip ?_
  refine AW.seq ?_
  refine AW.rS ?_
  refine AW.c2 ?_ ?_
  ·intro h11
   refine AW.rS ?_
   refine AW.rt ?_
   simp_all [longN]
  ·intro h11
   refine AW.skip ?_
   refine AW.rS ?_
   refine AW.rt ?_
   simp_all [longN]
attribute [local go_sem] take_strsAV app1_strsAV take_intsAV app1_intsAV app1_objsAV
theorem c_foliantref05_keys (gl : List (Nat × AV)) (o : Pob) (h : o.tot ≤ 16777216) : FnP Tryz.prog (gl) 85 [.agg o.cells] fun r=>r = .ret (.bool (formB o)):=by
 refine FnP.intro Tryz.func85 rfl rfl (by simp [Tryz.ntmps85]) ?_
 simp only [argEnv,Tryz.ntmps85,Tryz.results85]
 have hb:=Pob.bulk_tot o
 have hbe:=Pob.bulk_eq o
 have hts:=Pob.tot_str o
 refine AW.rS ?_
 refine AW.seq ?_
 refine AW.rS ?_
 refine AW.c2 ?_ ?_
 ·intro h4
  refine AW.rSC ?_
  refine awOps.cons (awGuard.c1 (c_foliantref05_Name _ o.str (by omega)) ?_)
  refine awOps.rn ?_
  refine AW.rt ?_
  rw [form_name h4]
 ·intro h4
  refine AW.skip ?_
  refine AW.seq ?_
  refine AW.rS ?_
  refine AW.c2 ?_ ?_
  ·intro h13
   refine AW.rS ?_
   refine AW.rt ?_
   ·rw [form_none h4 h13.1 h13.2]
   all_goals first | contradiction | rfl | (simp; done) | (simp; omega)
  ·intro h13
   have h79 : o.kind = 7 ∨ o.kind = 9:=by omega
   rw [form_keys h79]
   refine AW.skip ?_
   refine AW.seq ?_
   refine AW.rS ?_
   refine AW.c2 ?_ ?_
   ·intro h20
    refine AW.rS ?_
    refine AW.rt ?_
    rw [rising_no (fun h'=>h20 (by have:=h'.1; omega))]
   ·intro h20
    refine AW.skip ?_
    refine AW.seq ?_
    refine AW.rS ?_
    refine AW.block ?_
    refine AW.lk (S:={ i : Nat // i ≤ o.keys.length ∧ ∀ j,j < i → okKey o j }) [1,27,28] (fun s_=>[(29,.int .i64 s_.1)]) (fun s_=>[(0,.cells o.cells)]) 1 (fun s_=>o.keys.length - s_.1) ⟨0,Nat.zero_le _,fun j h=>absurd h (by omega)⟩ ?_ ?_
    ·refine St.le.vw [0]
    rintro ⟨i,hi,hs⟩
    try dsimp only at hi
    try dsimp only at hs
    refine AW.rS ?_
    refine AW.seq ?_
    refine AW.c2 ?_ ?_
    ·intro h31
     have hkt:=Pob.tot_key (o:=o) h31
     refine AW.skip ?_
     refine AW.seq ?_
     refine AW.block ?_
     refine AW.rS ?_
     refine AW.rSC ?_
     refine awOps.cons (awGuard.c1 (c_foliantref05_Name _ (o.keys.getD i []) (by omega)) ?_)
     refine awOps.rn ?_
     refine AW.c2 ?_ ?_
     ·intro h39
      refine AW.rS ?_
      refine AW.rt ?_
      rw [rising_no (fun h'=>?_)]
      obtain ⟨k1,k2,k3,k4⟩:=h'.2 i h31
      rcases h39 with ((h | ⟨hi0,h | h⟩) | ⟨h,h9⟩) | h
      ·rw [k1] at h; cases h
      ·have:=bl_asymm (k2 (by omega)); rw [h] at this; cases this
      ·have:=k2 (by omega); rw [← h,bl_irrefl] at this; cases this
      ·exact k3 ⟨h9,h⟩
      ·exact k4 h
     ·intro h39
      have hok : okKey o i:=by
       refine ⟨h39.1.1.1,fun hi0=>?_,?_,h39.2⟩
       ·rcases h39.1.1.2 with h | ⟨h,h'⟩
        ·omega
        ·rcases bl_total (o.keys.getD (i - 1) []) (o.keys.getD i []) with e | e | e
         ·exact absurd e.symm h'
         ·exact e
         ·rw [h] at e; cases e
       ·rintro ⟨h9,hL⟩
        rcases h39.1.2 with h | h
        ·exact h hL
        ·exact h h9
      refine AW.skip ?_
      refine AW.rL ?_
      refine ⟨⟨i + 1,by omega,fun j hj=>(Nat.lt_or_ge j i).elim (hs j) (fun h=>(show j = i by omega) ▸ hok)⟩,?_,?_⟩
      ·refine St.le.vw [0]
      ·simp only []; omega
    ·intro h31
     refine AW.exit ?_
     refine AW.rS ?_
     refine AW.rt ?_
     rw [rising_yes ⟨by omega,fun j hj=>hs j (by omega)⟩]
theorem rcheck_step (gl : List (Nat × AV)) (N : Nat) (hN : N ≤ 16777216) (ih : ∀ (o' : Pob) (d' : Int),o'.tot < N → 1 ≤ d' → d' ≤ 25 → FnP Tryz.prog gl 53 [.agg o'.cells,.int .i64 d'] fun r=>r = .ret (.int .i64 (chk o' d'))) (o : Pob) (d : Int) (ho : o.tot ≤ N) (hd : 1 ≤ d) (hd2 : d ≤ 25) : FnP Tryz.prog (gl) 53 [.agg o.cells,.int .i64 d] fun r=>r = .ret (.int .i64 (chk o d)):=by
 refine FnP.intro Tryz.func53 rfl rfl (by simp [Tryz.ntmps53]) ?_
 simp only [argEnv,Tryz.ntmps53,Tryz.results53]
 have hb:=Pob.bulk_tot o
 have hbe:=Pob.bulk_eq o
 have hts:=Pob.tot_str o
 refine AW.rS ?_
 refine AW.seq ?_
 refine AW.rS ?_
 refine AW.c2 ?_ ?_
 ·intro h4
  refine AW.rS ?_
  refine AW.rt ?_
  rw [own_deep (by omega)]
 ·intro h4
  refine AW.skip ?_
  refine AW.seq ?_
  refine AW.rSC ?_
  refine awOps.cons (awGuard.c1 (c_foliantref05_uses _ o) ?_)
  refine awOps.rn ?_
  refine AW.c2 ?_ ?_
  ·intro h13
   refine AW.rS ?_
   refine AW.rt ?_
   rw [own_use (by omega) (by rw [use_split]; rcases h13 with h | ⟨h,h'⟩; simp [h]; simp [h,show ¬ d = 1 by omega])]
  ·intro h13
   have hu : useB o d = true:=by rw [use_split,h13.1]; rcases h13.2 with h | h; simp [h]; simp [show d = 1 by omega]
   have hu1 : useB o 1 = true:=h13.1
   refine AW.skip ?_
   refine AW.seq ?_
   refine AW.rSC ?_
   refine awOps.cons (awGuard.c1 (c_foliantref05_fits _ o) ?_)
   refine awOps.rn ?_
   refine AW.c2 ?_ ?_
   ·intro h22
    refine AW.rS ?_
    refine AW.rt ?_
    rw [own_fits (by omega) hu h22]
   ·intro h22
    have hf : fitsB o = true:=h22
    refine AW.skip ?_
    refine AW.seq ?_
    refine AW.fS [0,1,2,3,4,5,6] [] ?_
    refine awFun.rn ?_
    refine awFun.c1 [29] (c_foliantref05_long _ o.kind) ?_
    refine awFun.rn ?_
    rw [Aw.awFun_nil,Aw.awPlan_nil]
    refine AW.c2 ?_ ?_
    ·intro h33
     refine AW.rS ?_
     refine AW.rt ?_
     rw [own_long (by omega) hu hf (by rw [short_ref hu1]; simp; omega)]
    ·intro h33
     have hsh : shortB o = true:=by rw [short_ref hu1]; simpa using h33
     refine AW.skip ?_
     refine AW.seq ?_
     refine AW.rS ?_
     refine AW.c2 ?_ ?_
     ·intro h40
      refine AW.rS ?_
      refine AW.rt ?_
      rw [own_many (by omega) hu hf hsh (by omega)]
     ·intro h40
      refine AW.skip ?_
      refine AW.seq ?_
      refine AW.rSC ?_
      refine awOps.cons (awGuard.c1 (c_foliantref05_keys _ o (by omega)) ?_)
      refine awOps.rn ?_
      refine AW.c2 ?_ ?_
      ·intro h49
       refine AW.rS ?_
       refine AW.rt ?_
       rw [own_form (by omega) hu hf hsh (by omega) h49]
      ·intro h49
       have hfo : formB o = true:=h49
       refine AW.skip ?_
       refine AW.seq ?_
       refine AW.rS ?_
       refine AW.block ?_
       refine AW.lk (S:={ i : Nat // i ≤ o.kids.length ∧ chkL o.kids (d + 1) = chkL (o.kids.drop i) (d + 1) }) [1,40,41] (fun s_=>[(42,.int .i64 s_.1)]) (fun s_=>[(0,.cells o.cells)]) 1 (fun s_=>o.kids.length - s_.1) ⟨0,Nat.zero_le _,rfl⟩ ?_ ?_
       ·refine St.le.vw [0]
       rintro ⟨i,hi,hs⟩
       try dsimp only at hi
       try dsimp only at hs
       refine AW.rS ?_
       refine AW.seq ?_
       refine AW.c2 ?_ ?_
       ·intro h60
        have hkt:=Pob.tot_kid (o:=o) h60
        refine AW.skip ?_
        refine AW.seq ?_
        refine AW.block ?_
        refine AW.rS ?_
        refine AW.rSC ?_
        refine awOps.cons (awGuard.c1 (ih (o.kids.getD i Pob.null) (d + 1) (by omega) (by omega) (by omega)) ?_)
        refine awOps.rn ?_
        refine AW.rS ?_
        refine AW.c2 ?_ ?_
        ·intro h69
         refine AW.rS ?_
         refine AW.rt ?_
         rw [own_ok (by omega) hu hf hsh (by omega) hfo,hs,chkL_drop h60,if_neg h69]
        ·intro h69
         refine AW.skip ?_
         refine AW.rL ?_
         refine ⟨⟨i + 1,by omega,by rw [hs,chkL_drop h60,if_pos h69]⟩,?_,?_⟩
         ·refine St.le.vw [0]
         ·simp only []; omega
       ·intro h60
        refine AW.exit ?_
        refine AW.rS ?_
        refine AW.rt ?_
        rw [own_ok (by omega) hu hf hsh (by omega) hfo,hs,List.drop_of_length_le (by omega)]
        with_unfolding_all rfl
theorem rcheck_all (gl : List (Nat × AV)) (N : Nat) : N ≤ 16777216 → ∀ (o : Pob) (d : Int),o.tot ≤ N → 1 ≤ d → d ≤ 25 → FnP Tryz.prog gl 53 [.agg o.cells,.int .i64 d] fun r=>r = .ret (.int .i64 (chk o d)):=by
 induction N using Nat.strongRecOn with
 | ind N IH=>exact fun hN o d ho hd hd2=>rcheck_step gl N hN (fun o' d' h h1 h2=>IH o'.tot h (by omega) o' d' (Nat.le_refl _) h1 h2) o d ho hd hd2
theorem c_foliantref05_Check (gl : List (Nat × AV)) (o : Pob) (h : o.tot ≤ 16777216) : FnP Tryz.prog (gl) 22 [.agg o.cells] fun r=>r = .ret (.int .i64 (chk o 1)):=by
 refine FnP.intro Tryz.func22 rfl rfl (by simp [Tryz.ntmps22]) ?_
 simp only [argEnv,Tryz.ntmps22,Tryz.results22]
 refine AW.rS ?_
 refine AW.rSC ?_
 refine awOps.cons (awGuard.c1 (rcheck_all _ 16777216 (Nat.le_refl _) o 1 h (by omega) (by omega)) ?_)
 refine awOps.rn ?_
 refine AW.rt ?_
 all_goals first | contradiction | rfl | (simp; done) | (simp; omega)
end Go.Proofs

namespace Go.Proofs
open Go Aw
set_option linter.unusedSimpArgs false
set_option linter.unusedVariables false
set_option maxRecDepth 100000
set_option maxHeartbeats 4000000
attribute [local go_sem] take_strsAV app1_strsAV take_intsAV app1_intsAV app1_objsAV
theorem c_foliantref05_Get (gl : List (Nat × AV)) (o : Pob) (key : List UInt8) (h : o.bulk ≤ 16777216) : FnP Tryz.prog (gl) 81 [.agg o.cells,.str key] fun r=>r = .ret (.tup [.agg (getO o key).cells,.bool (getB o key)]):=by
 refine FnP.intro Tryz.func81 rfl rfl (by simp [Tryz.ntmps81]) ?_
 simp only [argEnv,Tryz.ntmps81,Tryz.results81]
 have hbe:=Pob.bulk_eq o
 refine AW.rS ?_
 refine AW.seq ?_
 refine AW.rS ?_
 refine AW.c2 ?_ ?_
 ·intro h4
  refine AW.rS ?_
  refine AW.rt ?_
  have hg:=get_unkeyed (o:=o) (key:=key) (by simp [keyedB,h4.1,h4.2])
  rw [hg.1,hg.2] <;> rfl
 ·intro h4
  refine AW.skip ?_
  refine AW.seq ?_
  refine AW.rS ?_
  refine AW.block ?_
  refine AW.lk (S:={ i : Nat // i ≤ o.keys.length ∧ ∀ j,j < i → o.keys.getD j [] ≠ key }) [1,2,4,18,19] (fun s_=>[(20,.int .i64 s_.1)]) (fun s_=>[(0,.cells o.cells),(1,.cells [.int .i64 0,.int .i64 0,.int .i64 0,.str [],.raw (.slice none 0 0),.raw (.slice none 0 0)])]) 2 (fun s_=>o.keys.length - s_.1) ⟨0,Nat.zero_le _,fun j h=>absurd h (by omega)⟩ ?_ ?_
  ·refine St.le.vw [0,1]
  rintro ⟨i,hi,hs⟩
  try dsimp only at hi
  try dsimp only at hs
  refine AW.rS ?_
  refine AW.seq ?_
  refine AW.c2 ?_ ?_
  ·intro h15
   refine AW.skip ?_
   refine AW.seq ?_
   refine AW.block ?_
   refine AW.rS ?_
   refine AW.rS ?_
   refine AW.c2 ?_ ?_
   ·intro h21
    have hkx:=kidx_hit h15 hs h21.symm
    refine AW.seq ?_
    refine AW.rS ?_
    refine AW.c2 ?_ ?_
    ·intro h24
     refine AW.rS ?_
     refine AW.rt ?_
     have hg:=get_miss (o:=o) (key:=key) (by rw [hkx]; omega)
     rw [hg.1,hg.2] <;> rfl
    ·intro h24
     refine AW.skip ?_
     refine AW.rS ?_
     refine AW.rt ?_
     have hg:=get_hit (o:=o) (key:=key) (by simp only [keyedB]; simp; omega) (by rw [hkx]; omega)
     rw [hg.1,hg.2,hkx]
     rfl
   ·intro h21
    refine AW.skip ?_
    refine AW.rL ?_
    refine ⟨⟨i + 1,by omega,fun j hj=>(Nat.lt_or_ge j i).elim (hs j) (fun h=>(show j = i by omega) ▸ h21)⟩,?_,?_⟩
    ·refine St.le.vw [0,1]
    ·simp only []; omega
  ·intro h15
   refine AW.exit ?_
   refine AW.rS ?_
   refine AW.rt ?_
   have hg:=get_miss (o:=o) (key:=key) (by rw [kidx_miss (fun j hj=>hs j (by omega))]; omega)
   rw [hg.1,hg.2] <;> rfl
end Go.Proofs

namespace Go.Proofs
open Go Aw
set_option linter.unusedSimpArgs false
set_option linter.unusedVariables false
set_option maxRecDepth 100000
set_option maxHeartbeats 4000000
theorem c_docs_kind (gl : List (Nat × AV)) (o : Pob) (h : o.bulk ≤ 16777216:=by first | omega | exact u8_le _ | assumption | (simp; done) | (simp; omega)) : FnP Tryz.prog (gl) 128 [.agg o.cells] fun r=>r = .ret (.str (docKind o)):=by
 refine FnP.intro Tryz.func128 rfl rfl (by simp [Tryz.ntmps128]) ?_
 simp only [argEnv,Tryz.ntmps128,Tryz.results128]
 refine AW.rS ?_
 refine AW.rSC ?_
 refine awOps.cons (awGuard.c1 (c_value_Get ..) ?_)
 refine awOps.rn ?_
 refine AW.seq ?_
 refine AW.rS ?_
 refine AW.c2 ?_ ?_
 ·intro h7
  refine AW.rS ?_
  refine AW.rt ?_
  simp_all [docKind,typeK]
 ·intro h7
  refine AW.skip ?_
  refine AW.rS ?_
  refine AW.rt ?_
  simp_all [docKind,typeK]
theorem c_docs_holds (gl : List (Nat × AV)) (o : Pob) (h : o.bulk ≤ 16777216:=by first | omega | exact u8_le _ | assumption | (simp; done) | (simp; omega)) : FnP Tryz.prog (gl) 108 [.agg o.cells] fun r=>r = .ret (.bool (holdsB o)):=by
 refine FnP.intro Tryz.func108 rfl rfl (by simp [Tryz.ntmps108]) ?_
 simp only [argEnv,Tryz.ntmps108,Tryz.results108]
 refine AW.rS ?_
 refine AW.rSC ?_
 refine awOps.cons (awGuard.cG (fun hg=>c_docs_kind ..) ?_)
 refine awOps.rn ?_
 refine awOps.cons (awGuard.cG (fun hg=>c_docs_kind ..) ?_)
 refine awOps.rn ?_
 refine AW.rt ?_
 simp_all [holdsB]
theorem c_docs_content (gl : List (Nat × AV)) (i : Itm) (h : i.obj.bulk ≤ 16777216:=by first | omega | exact u8_le _ | assumption | (simp; done) | (simp; omega)) : FnP Tryz.prog (gl) 87 [.agg i.cells] fun r=>r = .ret (.int .i64 (contentE i)):=by
 refine FnP.intro Tryz.func87 rfl rfl (by simp [Tryz.ntmps87]) ?_
 simp only [argEnv,Tryz.ntmps87,Tryz.results87]
 refine AW.rS ?_
 refine AW.seq ?_
 refine AW.rSC ?_
 refine awOps.cons (awGuard.c1 (c_value_Check _ i.obj) ?_)
 refine awOps.rn ?_
 refine AW.rS ?_
 refine AW.c2 ?_ ?_
 ·intro h7
  refine AW.rS ?_
  refine AW.rt ?_
  ·rw [content_bad h7]
  all_goals first | contradiction | rfl | (simp; done) | (simp; omega)
 ·intro h7
  refine AW.skip ?_
  refine AW.seq ?_
  refine AW.rSC ?_
  refine awOps.cons (awGuard.cG (fun hg=>c_docs_holds _ i.obj) ?_)
  refine awOps.rn ?_
  refine AW.c2 ?_ ?_
  ·intro h16
   refine AW.rS ?_
   refine AW.rt ?_
   simp only [contentE]; simp_all
  ·intro h16
   refine AW.skip ?_
   refine AW.rS ?_
   refine AW.rt ?_
   simp only [contentE]; simp_all
theorem c_docs_items (gl : List (Nat × AV)) (l : List Itm) (h : ibulk l ≤ 16777216) : FnP Tryz.prog (gl) 55 [.sl (itemsAV l)] fun r=>r = .ret (.int .i64 (itemsE l)):=by
 refine FnP.intro Tryz.func55 rfl rfl (by simp [Tryz.ntmps55]) ?_
 simp only [argEnv,Tryz.ntmps55,Tryz.results55]
 have hlen:=ibulk_len l
 refine AW.rS ?_
 refine AW.seq ?_
 refine AW.rS ?_
 refine AW.block ?_
 refine AW.lk (S:={ k : Nat // k ≤ l.length ∧ itemsE l = itemsFrom l k (l.length - k) }) [0,6,7] (fun s_=>[(8,.int .i64 s_.1)]) (fun s_=>[]) 0 (fun s_=>l.length - s_.1) ⟨0,Nat.zero_le _,rfl⟩ ?_ ?_
 ·refine St.le.vw []
 rintro ⟨k,hk,hs⟩
 try dsimp only at hk
 try dsimp only at hs
 refine AW.rS ?_
 refine AW.seq ?_
 refine AW.c2 ?_ ?_
 ·intro h8
  have hgb:=ibulk_get (l:=l) (i:=k) (by omega)
  refine AW.skip ?_
  refine AW.seq ?_
  refine AW.block ?_
  refine AW.rS ?_
  refine AW.seq ?_
  refine AW.block ?_
  refine AW.rSC ?_
  refine awOps.cons (awGuard.c1 (c_docs_numbers _ (l.getD k Itm.zero)) ?_)
  refine awOps.rn ?_
  refine AW.c2 ?_ ?_
  ·intro h18
   refine AW.rS ?_
   refine AW.rt ?_
   rw [hs,itemsFrom_step h8,if_pos (nums_no h18)]
  ·intro h18
   refine AW.dS [(0,0),(1,0),(2,0),(3,0),(4,1),(5,0),(6,0),(7,0),(8,1),(9,0),(10,1),(11,0),(12,0),(13,0)] ?_
   refine AW.c2 ?_ ?_
   ·intro h23
    refine AW.rS ?_
    refine AW.rt ?_
    rw [hs,itemsFrom_step h8,if_neg (by rw [nums_yes h18]; simp),if_pos (by omega)]
   ·intro h23
    refine AW.skip ?_
    refine AW.rSC ?_
    refine awOps.cons (awGuard.c1 (c_docs_content _ (l.getD k Itm.zero)) ?_)
    refine awOps.rn ?_
    refine AW.rS ?_
    refine AW.c2 ?_ ?_
    ·intro h32
     refine AW.rS ?_
     refine AW.rt ?_
     rw [hs,itemsFrom_step h8,if_neg (by rw [nums_yes h18]; simp),if_neg (by omega),if_pos h32]
    ·intro h32
     refine AW.skip ?_
     refine AW.rL ?_
     refine ⟨⟨k + 1,by omega,by rw [hs,itemsFrom_step (by omega),if_neg (by rw [nums_yes h18]; simp),if_neg (by omega),if_neg (by simpa using h32)]⟩,?_,?_⟩
     ·refine St.le.vw []
     ·simp only []; omega
 ·intro h8
  refine AW.exit ?_
  refine AW.rS ?_
  refine AW.rt ?_
  rw [hs,show l.length - k = 0 from by omega,itemsFrom]
theorem c_docs_Follow_1 (gl : List (Nat × AV)) (i : Itm) (o : Pob) : FnP Tryz.prog (gl) 111 [.agg i.cells,.tptr o.cells] fun r=>r = .ret (.bool (decide (i.num = o.num))):=by
 refine FnP.intro Tryz.func111 rfl rfl (by simp [Tryz.ntmps111]) ?_
 simp only [argEnv,Tryz.ntmps111,Tryz.results111]
 refine AW.rS ?_
 refine AW.rS ?_
 refine AW.rt ?_
 all_goals first | contradiction | rfl | (simp; done) | (simp; omega)
theorem c_IndexFunc_Follow (gl : List (Nat × AV)) (l : List Itm) (o : Pob) (hl : l.length ≤ 16777216:=by first | omega | exact u8_le _ | assumption | (simp; done) | (simp; omega)) : FnP Tryz.prog (gl) 57 [.sl (itemsAV l),.clos 111 [.tptr o.cells]] fun r=>r = .ret (.int .i64 (iidxI l o.num)):=by
 refine FnP.intro Tryz.func57 rfl rfl (by simp [Tryz.ntmps57]) ?_
 simp only [argEnv,Tryz.ntmps57,Tryz.results57]
 refine AW.rS ?_
 refine AW.seq ?_
 refine AW.rS ?_
 refine AW.block ?_
 refine AW.lk (S:={ i : Nat // i ≤ l.length ∧ ∀ j,j < i → (l.getD j Itm.zero).num ≠ o.num }) [0,1,7] (fun s_=>[(8,.int .i64 s_.1)]) (fun s_=>[]) 0 (fun s_=>l.length - s_.1) ⟨0,Nat.zero_le _,fun j h=>absurd h (by omega)⟩ ?_ ?_
 ·refine St.le.vw []
 rintro ⟨i,hi,hs⟩
 try dsimp only at hi
 try dsimp only at hs
 refine AW.rS ?_
 refine AW.seq ?_
 refine AW.c2 ?_ ?_
 ·intro h8
  refine AW.skip ?_
  refine AW.seq ?_
  refine AW.block ?_
  refine AW.rS ?_
  refine AW.rSC ?_
  refine awOps.cons (awGuard.c1 (c_docs_Follow_1 _ (l.getD i Itm.zero) o) ?_)
  refine awOps.rn ?_
  refine AW.c2 ?_ ?_
  ·intro h16
   refine AW.rS ?_
   refine AW.rt ?_
   rw [iidx_hit h8 hs h16]
  ·intro h16
   refine AW.skip ?_
   refine AW.rL ?_
   refine ⟨⟨i + 1,by omega,fun j hj=>(Nat.lt_or_ge j i).elim (hs j) (fun h=>(show j = i by omega) ▸ h16)⟩,?_,?_⟩
   ·refine St.le.vw []
   ·simp only []; omega
 ·intro h8
  refine AW.exit ?_
  refine AW.rS ?_
  refine AW.rt ?_
  rw [iidx_miss (fun j hj=>hs j (by omega))]
theorem c_docs_Follow (gl : List (Nat × AV)) (d : Dc) (o : Pob) (h : d.bulk ≤ 16777216:=by first | omega | exact u8_le _ | assumption | (simp; done) | (simp; omega)) (ho : o.bulk ≤ 16777216:=by first | omega | exact u8_le _ | assumption | (simp; done) | (simp; omega)) : FnP Tryz.prog (gl) 91 [.agg d.cells,.agg o.cells] fun r=>r = .ret (.agg (followO d o).cells):=by
 refine FnP.intro Tryz.func91 rfl rfl (by simp [Tryz.ntmps91]) ?_
 simp only [argEnv,Tryz.ntmps91,Tryz.results91]
 have hlen:=ibulk_len d.items
 have hlt:=iidxI_lt (l:=d.items) (n:=o.num)
 simp only [Dc.bulk] at h
 refine AW.rS ?_
 refine AW.seq ?_
 refine AW.rS ?_
 refine AW.c2 ?_ ?_
 ·intro h4
  refine AW.rSC ?_
  refine awOps.cons (awGuard.c1 (c_value_Clone _ o ho) ?_)
  refine awOps.rn ?_
  refine AW.rt ?_
  rw [followO,if_pos h4]
 ·intro h4
  refine AW.skip ?_
  refine AW.rSC ?_
  refine awOps.cons (awGuard.c1 (c_IndexFunc_Follow _ d.items o (by omega)) ?_)
  refine awOps.rn ?_
  refine AW.seq ?_
  by_cases hs15 : 0 ≤ iidxI d.items o.num
  ·skip
   refine AW.dS [(0,0),(1,0),(2,0),(3,0),(4,1),(5,0),(6,1),(7,0),(8,1),(9,0),(10,1),(11,0),(12,0)] ?_
   refine AW.c2 ?_ ?_
   ·intro h16
    refine AW.rS ?_
    refine AW.rt ?_
    have hf : followO d o = Pob.null:=by simp only [followO]; grind
    rw [hf] <;> rfl
   ·intro h16
    refine AW.skip ?_
    refine AW.rSC ?_
    refine awOps.cons (awGuard.c1 (c_value_Clone _ (d.items.getD (iidxI d.items o.num).toNat Itm.zero).obj (by have:=ibulk_get (l:=d.items) (i:=(iidxI d.items o.num).toNat) (by omega); omega)) ?_)
    refine awOps.rn ?_
    refine AW.rt ?_
    have hf : followO d o = (d.items.getD (iidxI d.items o.num).toNat Itm.zero).obj:=by simp only [followO]; grind
    rw [hf]
  ·skip
   by_cases hs15 : 0 < d.items.length
   ·skip
    refine AW.dS [(0,0),(1,0),(2,0),(3,0),(4,1),(5,0),(6,1),(7,0),(8,1),(9,0),(10,1),(11,0),(12,0)] ?_
    refine AW.c2 ?_ ?_
    ·intro h16
     refine AW.rS ?_
     refine AW.rt ?_
     have hf : followO d o = Pob.null:=by simp only [followO]; grind
     rw [hf] <;> rfl
    ·intro h16
     exfalso; first | omega | (simp at h16; omega)
   ·skip
    refine AW.dS [(0,0),(1,0),(2,0),(3,0),(4,1),(5,0),(6,1),(7,0),(8,1),(9,0),(10,1),(11,0),(12,0)] ?_
    refine AW.c2 ?_ ?_
    ·intro h16
     refine AW.rS ?_
     refine AW.rt ?_
     have hf : followO d o = Pob.null:=by simp only [followO]; grind
     rw [hf] <;> rfl
    ·intro h16
     exfalso; first | omega | (simp at h16; omega)
end Go.Proofs
