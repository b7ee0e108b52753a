/- A part of the proof: no condition of its own. -/
import Derived.Test.YtlamdhcfojligaaGreatPart5
namespace Go.Proofs
open Go Aw
set_option linter.unusedSimpArgs false
set_option linter.unusedVariables false
set_option maxRecDepth 100000
set_option maxHeartbeats 4000000
theorem take_splice {α : Type} {sp zs : List α} {i : Nat} (h : i ≤ sp.length) : List.take i (splice sp i zs) = sp.take i:=by
 simp only [splice,List.append_assoc]
 rw [List.take_append_of_le_length (by rw [List.length_take]; omega),List.take_take,Nat.min_self]
attribute [local go_sem] itemsAV_length take_strsAV app1_strsAV take_intsAV app1_intsAV take_itemsAV app_itemsAV app1_itemsAV
theorem c_shift_reached_1 (gl : List (Nat × AV)) (R : List Int) (i : Itm) (hR : R.length ≤ 16777216:=by first | omega | exact u8_le _ | assumption | (simp; done) | (simp; omega)) : FnP Tryz.prog (gl) 74 [.agg i.cells,.tptr [.sl (intsAV R)]] fun r=>r = .ret (.bool (goneP R i)):=by
 refine FnP.intro Tryz.func74 rfl rfl (by simp [Tryz.ntmps74]) ?_
 simp only [argEnv,Tryz.ntmps74,Tryz.results74]
 refine AW.rS ?_
 refine AW.rSC ?_
 refine awOps.cons (awGuard.c1 (c_Contains_int _ R i.num) ?_)
 refine awOps.rn ?_
 refine AW.rt ?_
 all_goals first | contradiction | rfl | (simp; done) | (simp; omega)
theorem h_IndexFunc_gone (gl : List (Nat × AV)) (R : List Int) (hR : R.length ≤ 16777216) (l : List Itm) (hl : l.length ≤ 16777216:=by first | omega | exact u8_le _ | assumption | (simp; done) | (simp; omega)) : FnH Tryz.prog (gl) 57 [.row 0 0 l.length,.clos 74 [.ptr 1 0]] ([(0,.row 8 (itemsAV l) true),(1,.cells [.row 2 0 R.length]),(2,.row 1 (intsAV R) false)]) 3 (fun r h n=>r = .ret (.int .i64 (firstI (goneP R) l)) ∧ h = [(0,.row 8 (itemsAV l) true),(1,.cells [.row 2 0 R.length]),(2,.row 1 (intsAV R) false)] ∧ n = 3):=by
 refine FnH.intro Tryz.func57 rfl rfl (by simp [Tryz.ntmps57]) ?_
 simp only [argEnv,Tryz.ntmps57,Tryz.results57]
 refine AW.rS ?_
 refine AW.seq ?_
 refine AW.rS ?_
 refine AW.block ?_
 refine AW.lk (S:={ i : Nat // i ≤ l.length ∧ ∀ j,j < i → goneP R (l.getD j Itm.zero) = false }) [0,1,7] (fun s_=>[(8,.int .i64 s_.1)]) (fun s_=>[(0,.row 8 (itemsAV l) true),(1,.cells [.row 2 0 R.length]),(2,.row 1 (intsAV R) false)]) 3 (fun s_=>l.length - s_.1) ⟨0,Nat.zero_le _,fun j h=>absurd h (by omega)⟩ ?_ ?_
 ·refine St.le.vw [0,1,2] (hpre:=lt3)
 rintro ⟨i,hi,hs⟩
 try dsimp only at hi
 try dsimp only at hs
 refine AW.rS ?_
 refine AW.seq ?_
 refine AW.c2 ?_ ?_
 ·intro h8
  refine AW.skip ?_
  refine AW.seq ?_
  refine AW.block ?_
  refine AW.rS ?_
  refine AW.rSC ?_
  refine awOps.cons (awGuard.c1 (c_shift_reached_1 _ R (l.getD i Itm.zero)) ?_)
  refine awOps.rn ?_
  refine AW.c2 ?_ ?_
  ·intro h16
   refine AW.rS ?_
   refine AW.rt ?_
   rw [firstI_hit h8 hs h16]
  ·intro h16
   refine AW.skip ?_
   refine AW.rL ?_
   refine ⟨⟨i + 1,by omega,fun j hj=>(Nat.lt_or_ge j i).elim (hs j) (fun h=>(show j = i by omega) ▸ (by simpa using h16))⟩,?_,?_⟩
   ·refine St.le.vw [0,1,2] (hpre:=lt3)
   ·simp only []; omega
 ·intro h8
  refine AW.exit ?_
  refine AW.rS ?_
  refine AW.rt ?_
  rw [firstI_miss (fun j hj=>hs j (by omega))]
theorem h_DeleteFunc_gone (gl : List (Nat × AV)) (R : List Int) (hR : R.length ≤ 16777216) (l : List Itm) (hl : l.length ≤ 16777216:=by first | omega | exact u8_le _ | assumption | (simp; done) | (simp; omega)) : FnH Tryz.prog (gl) 73 [.row 0 0 l.length,.clos 74 [.ptr 1 0]] ([(0,.row 8 (itemsAV l) true),(1,.cells [.row 2 0 R.length]),(2,.row 1 (intsAV R) false)]) 3 (fun r h n=>r = .ret (.row 0 0 (l.filter fun x=>!goneP R x).length) ∧ h = [(0,.row 8 (itemsAV (l.filter fun x=>!goneP R x)) true),(1,.cells [.row 2 0 R.length]),(2,.row 1 (intsAV R) false)] ∧ n = 3):=by
 refine FnH.intro Tryz.func73 rfl rfl (by simp [Tryz.ntmps73]) ?_
 simp only [argEnv,Tryz.ntmps73,Tryz.results73]
 refine AW.rS ?_
 refine AW.rSC ?_
 refine awOps.cons (awGuard.cH [0,1,2] (h_IndexFunc_gone _ R hR l) ?_)
 refine awOps.rn ?_
 refine AW.seq ?_
 refine AW.rS ?_
 refine AW.c2 ?_ ?_
 ·intro h7
  have hall : ∀ x ∈ l,goneP R x = false:=((firstI_cases (goneP R) l).resolve_right (by rintro ⟨i,e,_⟩; omega)).2
  have hfl : l.filter (fun x=>!goneP R x) = l:=List.filter_eq_self.2 fun x hx=>by rw [hall x hx] <;> rfl
  refine AW.rS ?_
  refine AW.rt ?_
  rw [hfl]
  exact ⟨rfl,rfl⟩
 ·intro h7
  rcases firstI_cases (goneP R) l with ⟨e,_⟩ | ⟨i0,e,hi0,hs0,hp0⟩
  ·exact absurd e h7
  rw [e]
  refine AW.skip ?_
  refine AW.seq ?_
  refine AW.rS ?_
  refine AW.block ?_
  refine AW.lk (S:={ p : List Itm × Nat × Nat // delJ (goneP R) l p.1 p.2.1 p.2.2 ∧ p.2.1 < p.2.2 }) [0,1] (fun s_=>[(5,.int .i64 s_.1.2.1),(6,.int .i64 s_.1.2.2)]) (fun s_=>[(0,.row 8 (itemsAV s_.1.1) true),(1,.cells [.row 2 0 R.length]),(2,.row 1 (intsAV R) false)]) 3 (fun s_=>l.length - s_.1.2.2) ⟨(l,i0,i0 + 1),delJ_top hi0 hs0 hp0,Nat.lt_succ_self _⟩ ?_ ?_
  ·refine St.le.vw [0,1,2] (hpre:=lt3)
  rintro ⟨⟨cur,i,j⟩,hd,hij⟩
  try dsimp only at hd
  try dsimp only at hij
  have hcl:=hd.1
  have hjb:=hd.2.2.1
  refine AW.seq ?_
  refine AW.rS ?_
  refine AW.c2 ?_ ?_
  ·intro h18
   have hjl : j < l.length:=by omega
   have hat:=delJ_at hd hjl
   refine AW.skip ?_
   refine AW.seq ?_
   refine AW.block ?_
   refine AW.rS ?_
   refine AW.rSC ?_
   refine awOps.cons (awGuard.c1 (c_shift_reached_1 _ R (cur.getD j Itm.zero)) ?_)
   refine awOps.rn ?_
   refine AW.c2 ?_ ?_
   ·intro h26
    have hk:=delJ_keep hd hjl hij (by rw [← hat]; simpa using h26)
    refine AW.rS ?_
    refine AW.rL ?_
    refine AW.rL ?_
    refine ⟨⟨(cur.set i (l.getD j Itm.zero),i + 1,j + 1),hk,by dsimp only; omega⟩,?_,?_⟩
    ·refine St.le.vx [0,1,2] (hpre:=lt3) ?_; rw [itemsAV_set',hat]
    ·simp only []; omega
   ·intro h26
    have hk:=delJ_skip hd hjl (by rw [← hat]; simpa using h26)
    refine AW.skip ?_
    refine AW.rL ?_
    refine ⟨⟨(cur,i,j + 1),hk,by dsimp only; omega⟩,?_,?_⟩
    ·refine St.le.vw [0,1,2] (hpre:=lt3)
    ·simp only []; omega
  ·intro h18
   refine AW.exit ?_
   have hend:=delJ_end hd (by omega)
   refine AW.tf 0 (fun sp hsp hse=>?_)
   rw [itemsAV_length,hcl] at hsp hse
   have hij2 : i ≤ l.length:=by omega
   refine AW.rSC ?_
   refine awOps.cons ?_
   refine awGuard.fcr ?_ ?_
   ·first | omega | (simp; done) | (simp; omega)
   refine awOps.rn ?_
   refine AW.uf 0 i ?_
   refine AW.rS ?_
   refine AW.rt ?_
   have hi2 : (l.filter fun x=>!goneP R x).length = i:=by
    rw [← hend,List.length_take]
    omega
   have ht : ∀ zs : List (List AV),List.take i (splice sp i zs) = itemsAV (l.filter fun x=>!goneP R x):=fun zs=>by
    rw [take_splice (by omega),← hend,← take_itemsAV,← hse,List.take_take,Nat.min_eq_left hij2]
   rw [ht,hi2]
   exact ⟨rfl,rfl⟩
theorem c_shift_reached (gl : List (Nat × AV)) (d : Dc) (h : d.bulk ≤ 16777216) (hd : docE d = 0) : FnP Tryz.prog (gl) 45 [.agg d.cells] fun r=>r = .ret (.agg (reachedD (compD d)).cells):=by
 refine FnP.intro Tryz.func45 rfl rfl (by simp [Tryz.ntmps45]) ?_
 simp only [argEnv,Tryz.ntmps45,Tryz.results45]
 have hcb:=comp_bulk d
 have hcd:=comp_doc hd
 have hfl:=fromP_len (compD d) (compD d).trailer
 refine AW.rS ?_
 refine AW.trim [1,2] ?_
 refine AW.rSC ?_
 refine awOps.cons (awGuard.cH [] (h_shift_Compact _ d h) ?_)
 refine awOps.rn ?_
 refine AW.trim [1,2] ?_
 refine AW.rSC ?_
 refine awOps.cons (awGuard.cL (h_graph_Reach _ (compD d) hcd (by omega)) ?_)
 refine awOps.rn ?_
 refine AW.trim [1,2,3] ?_
 refine AW.fz [3] ?_
 refine AW.rSC ?_
 refine awOps.cons (awGuard.cH [2,4,3] (h_DeleteFunc_gone _ (fromP (compD d) (compD d).trailer) (by omega) (compD d).items (by have:=ibulk_len (compD d).items; have : (compD d).bulk = ibulk (compD d).items + (compD d).trailer.bulk:=rfl; omega)) ?_)
 refine awOps.rn ?_
 refine AW.trim [1,2] ?_
 refine AW.rS ?_
 refine AW.trim [2] ?_
 refine AW.rt ?_
 rw [reached_from hcd (by omega)]
 rfl
theorem c_shift_Alike (gl : List (Nat × AV)) (a b : Dc) (ha : a.bulk ≤ 16777216) (hb : b.bulk ≤ 16777216) : FnP Tryz.prog (gl) 15 [.agg a.cells,.agg b.cells] fun r=>r = .ret (.bool (alikeB a b)):=by
 refine FnP.intro Tryz.func15 rfl rfl (by simp [Tryz.ntmps15]) ?_
 simp only [argEnv,Tryz.ntmps15,Tryz.results15]
 refine AW.rS ?_
 refine AW.trim [2,3] ?_
 refine AW.seq ?_
 refine AW.rSC ?_
 refine awOps.cons (awGuard.c1 (c_docs_Check _ a ha) ?_)
 refine awOps.rn ?_
 refine awOps.cons (awGuard.cG (fun hg=>c_docs_Check _ b hb) ?_)
 refine awOps.rn ?_
 refine AW.trim [2,3,12] ?_
 refine AW.c2 ?_ ?_
 ·intro h8
  refine AW.rS ?_
  refine AW.trim [4] ?_
  refine AW.rt ?_
  have hn : ¬ (docE a = 0 ∧ docE b = 0):=fun hh=>h8.elim (fun h=>h hh.1) fun h=>h hh.2
  unfold alikeB
  rw [show (decide (docE a = 0) && decide (docE b = 0)) = false from by simpa using hn]
  rfl
 ·intro h8
  have hda : docE a = 0:=h8.1
  have hdb : docE b = 0:=h8.2
  refine AW.skip ?_
  refine AW.cf 2 0 ?_
  refine AW.cf 3 1 ?_
  refine AW.dSC [(0,0),(2,0),(1,2),(3,2),(4,2),(5,0)] ?_
  refine awPlan.only rfl ?_
  refine awGuard.c1 (c_shift_reached _ a ha hda) ?_
  refine awPlan.rn ?_
  refine awPlan.only rfl ?_
  refine awGuard.c1 (c_shift_reached _ b hb hdb) ?_
  refine awPlan.rn ?_
  refine awPlan.only rfl ?_
  refine awGuard.c1 (c_docs_Same _ (reachedD (compD a)) (reachedD (compD b)) (by have:=reached_bulk (compD a); have:=comp_bulk a; omega)) ?_
  refine awPlan.rn ?_
  refine AW.trim [4] ?_
  refine AW.rt ?_
  unfold alikeB
  rw [decide_eq_true hda,decide_eq_true hdb]
  rfl
end Go.Proofs

namespace Aw
open Go
variable {d x : Dc} {o : Pob}
def impM (d x : Dc) (o : Pob) : List (Int × Itm):=mapB [] (metO x.items o) (impT d x o) (metO x.items o).length
theorem imp_found {n : Int} (hn : n ∈ metO x.items o) : foundI (impM d x o) n = ⟨newN (metO x.items o) (impT d x o) n,0,Pob.null⟩:=by
 obtain ⟨hk,e⟩:=nidx_at hn
 have:=mapB_in (M:=[]) (to:=impT d x o) (metO_nodup x.items o) (metO x.items o).length (Nat.le_refl _) hk
 rw [e] at this
 unfold foundI impM
 rw [this,newN,if_pos hn]
 rfl
theorem imp_turn {q : Pob} (hq : ∀ r ∈ q.rr,ledB x.items r = true → r.num ∈ metO x.items o) : q.turn (turnM x.items (impM d x o)) = q.turn (turnF x.items (metO x.items o) (impT d x o)):=by
 refine turnM_eq fun r hr hb=>?_
 have hm:=hq r hr hb
 rw [imp_found hm,newG,if_pos hm]
 exact ⟨rfl,rfl⟩
theorem imp_items (hx : docE x = 0) : (metO x.items o).map (turnMI x.items (impM d x o)) = impL d x o:=by
 unfold impL
 refine List.map_congr_left fun n hn=>?_
 obtain ⟨i,hi,hin⟩:=metO_in n hn
 have hl : lookI x.items n = some i:=(look_some (doc_incr hx)).2 ⟨hi,hin⟩
 unfold turnMI turnI
 rw [imp_found hn,hl]
 simp only [Option.getD_some]
 rw [imp_turn fun r hr hb=>(metO_closed x.items o).2 n hn i hl r hr hb,hin,newG,if_pos hn]
theorem imp_sort (hx : docE x = 0) : sortN (impL d x o) = impL d x o:=by
 refine sorted_eq (sortN_perm _) (sortN_sorted _) ?_ ?_
 ·have h:=imp_nums (d:=d) (o:=o) hx
  have hi : (impT d x o).Pairwise (· < ·):=upTo_incr _ _
  rw [← h,List.pairwise_map] at hi
  exact hi.imp fun h=>by omega
 ·have:=((sortN_perm (impL d x o)).map (·.num)).nodup_iff.2 (by rw [imp_nums hx]; exact upTo_nodup _ _)
  exact this
theorem imp_nodup (hx : docE x = 0) : ((metO x.items o).map fun n=>(foundI (impM d x o) n).num).Nodup:=by
 have h:=imp_nums (d:=d) (o:=o) hx
 rw [← imp_items hx,List.map_map] at h
 have h2 : ((metO x.items o).map fun n=>(foundI (impM d x o) n).num) = impT d x o:=h
 rw [h2]
 exact upTo_nodup _ _
theorem imp_range (hl : 1 ≤ lastN d.items) (h : lastN d.items - 1 + ((metO x.items o).length : Int) ≤ 8191) (n : Int) : 0 ≤ (foundI (impM d x o) n).num ∧ (foundI (impM d x o) n).num ≤ 16777216:=by
 by_cases hn : n ∈ metO x.items o
 ·rw [imp_found hn]
  show 0 ≤ newN _ _ n ∧ newN _ _ n ≤ 16777216
  obtain ⟨k,hk,e⟩:=mem_at hn
  have:=imp_new (d:=d) hk
  rw [e] at this
  omega
 ·unfold foundI impM
  rw [mapB_out _ (Nat.le_refl _) hn]
  simp [mfind,Itm.zero]
end Aw

namespace Go.Proofs
open Go Aw
set_option linter.unusedSimpArgs false
set_option linter.unusedVariables false
set_option maxRecDepth 100000
set_option maxHeartbeats 4000000
attribute [local go_sem] take_strsAV app1_strsAV take_intsAV app1_intsAV take_itemsAV app_itemsAV app1_itemsAV
attribute [local go_sem] itemsAV_length mres VI
attribute [local go_sem ↓ high] rids_cmapOf noTBm_net renHp_cons noTHm_cons
theorem c_shift_Import (gl : List (Nat × AV)) (d x : Dc) (o : Pob) (hdb : d.bulk ≤ 16777216) (hxb : x.bulk ≤ 16777216) (hob : o.bulk ≤ 16777216) : FnP Tryz.prog (gl) 18 [.agg d.cells,.agg x.cells,.agg o.cells] fun r=>r = .ret (.tup [.agg (impD d x o).cells,.agg (impO d x o).cells,.int .i64 (impE d x o)]):=by
 refine FnP.intro Tryz.func18 rfl rfl (by simp [Tryz.ntmps18]) ?_
 simp only [argEnv,Tryz.ntmps18,Tryz.results18]
 have hd9 : d.bulk = ibulk d.items + d.trailer.bulk:=rfl
 have hx9 : x.bulk = ibulk x.items + x.trailer.bulk:=rfl
 have hdl:=ibulk_len d.items
 have hxl:=ibulk_len x.items
 have hml:=metO_len x.items o
 refine AW.rS ?_
 refine AW.trim [3,4,5,6,7] ?_
 refine AW.cf 3 0 ?_
 refine AW.cf 4 1 ?_
 refine AW.cf 5 2 ?_
 refine AW.seq ?_
 refine AW.dSC [(0,0),(2,0),(4,0),(7,0),(1,2),(3,2),(5,2),(6,2)] ?_
 refine awPlan.only rfl ?_
 refine awGuard.c1 (c_docs_Check _ d hdb) ?_
 refine awPlan.rn ?_
 refine awPlan.only rfl ?_
 refine awGuard.c1 (c_docs_Check _ x hxb) ?_
 refine awPlan.rn ?_
 refine awPlan.only rfl ?_
 refine awGuard.c1 (c_value_Check _ o hob) ?_
 refine awPlan.rn ?_
 refine AW.trim [3,4,5,6,7,26,27] ?_
 refine AW.block ?_
 refine AW.un 3 ?_
 refine AW.rS ?_
 refine AW.trim [3,4,5,6,7,26,27,28] ?_
 refine AW.seq ?_
 refine AW.c2 ?_ ?_
 ·intro h14
  refine AW.skip ?_
  refine AW.seq ?_
  refine AW.block ?_
  refine AW.rS ?_
  refine AW.trim [3,4,5,6,7,10,26,27] ?_
  refine AW.rS ?_
  refine AW.trim [3,4,5,6,7,10,26,27,31] ?_
  refine AW.c2 ?_ ?_
  ·intro h20
   have h7 : docE d ≠ 0:=by simpa using h20
   have he : impE d x o = docE d:=if_pos h7
   refine AW.rS ?_
   refine AW.trim [6,7,8] ?_
   refine AW.rt ?_
   rw [impD,impO,if_pos (by rw [he]; exact h7),if_pos (by rw [he]; exact h7),he]
   rfl
  ·intro h20
   have hd : docE d = 0:=by simpa using h20
   have hlr2:=last_range hd
   refine AW.skip ?_
   refine AW.rL ?_
   refine AWR.s ?_
   refine AW.rS ?_
   refine AW.trim [3,4,5,6,7,26,27,28] ?_
   refine AW.seq ?_
   refine AW.c2 ?_ ?_
   ·intro h29
    refine AW.skip ?_
    refine AW.seq ?_
    refine AW.block ?_
    refine AW.rS ?_
    refine AW.trim [3,4,5,6,7,10,26,27] ?_
    refine AW.rS ?_
    refine AW.trim [3,4,5,6,7,10,26,27,31] ?_
    refine AW.c2 ?_ ?_
    ·intro h35
     have h17 : docE x ≠ 0:=by simpa using h35
     have he : impE d x o = docE x:=by unfold impE; rw [if_neg (by rw [hd]; decide),if_pos h17]
     refine AW.rS ?_
     refine AW.trim [6,7,8] ?_
     refine AW.rt ?_
     rw [impD,impO,if_pos (by rw [he]; exact h17),if_pos (by rw [he]; exact h17),he]
     rfl
    ·intro h35
     have hx : docE x = 0:=by simpa using h35
     refine AW.skip ?_
     refine AW.rL ?_
     refine AWR.s ?_
     refine AW.rS ?_
     refine AW.trim [3,4,5,6,7,26,27,28] ?_
     refine AW.seq ?_
     refine AW.c2 ?_ ?_
     ·intro h44
      refine AW.skip ?_
      refine AW.seq ?_
      refine AW.block ?_
      refine AW.rS ?_
      refine AW.trim [3,4,5,6,7,10,26,27] ?_
      refine AW.rS ?_
      refine AW.trim [3,4,5,6,7,10,26,27,31] ?_
      refine AW.c2 ?_ ?_
      ·intro h50
       have h27 : chk o 1 ≠ 0:=by simpa using h50
       have he : impE d x o = chk o 1:=by unfold impE; rw [if_neg (by rw [hd]; decide),if_neg (by rw [hx]; decide),if_pos h27]
       refine AW.rS ?_
       refine AW.trim [6,7,8] ?_
       refine AW.rt ?_
       rw [impD,impO,if_pos (by rw [he]; exact h27),if_pos (by rw [he]; exact h27),he]
       rfl
      ·intro h50
       have ho : chk o 1 = 0:=by simpa using h50
       refine AW.skip ?_
       refine AW.rL ?_
       refine AWR.s ?_
       refine AW.rS ?_
       refine AW.trim [3,4,5,6,7,26,27,28] ?_
       refine AW.seq ?_
       refine AW.c2 ?_ ?_
       ·intro h59
        first | contradiction | (simp at h59; done) | (exfalso; omega) | (exfalso; revert h59; decide)
       ·intro h59
        refine AW.exit ?_
        refine AW.rS ?_
        refine AW.trim [3,4,5,6,7,11] ?_
        refine AW.join ⟨109,[(3,.cptr d.cells),(4,.cptr x.cells),(5,.cptr o.cells),(6,.ptr 3 0),(7,.ptr 4 0),(11,.int .i64 (lastN d.items - 1))],[(3,.cells [.raw (.slice none 0 0),.int .i64 0,.int .i64 0,.int .i64 0,.str [],.raw (.slice none 0 0),.raw (.slice none 0 0)]),(4,.cells [.int .i64 0,.int .i64 0,.int .i64 0,.str [],.raw (.slice none 0 0),.raw (.slice none 0 0)])],5,gl,0,[]⟩ ?_ ?_
        ·skip
         refine AW.rS ?_
         refine AW.trim [3,4,5,6,7,11,12] ?_
         refine AW.rS ?_
         refine AW.trim [3,4,5,6,7,11,12,40] ?_
         refine AW.c2 ?_ ?_
         ·intro h65
          rw [show lastN d.items - 1 = (d.items.getD (d.items.length - 1) Itm.zero).num from by unfold lastN; rw [if_neg (by omega)]; omega]
          refine AW.rL ?_
          refine St.le.vw [0,1,2,3,4]
         ·intro h65
          rw [show lastN d.items - 1 = 0 from by unfold lastN; rw [if_pos (by omega)]; rfl]
          refine AW.skip ?_
          refine St.le.vw [0,1,2,3,4]
        ·skip
         refine AW.rSC ?_
         refine awOps.cons (awGuard.cH [] (h_shift_from _ x o 1 hxb hx ho hob) ?_)
         refine awOps.rn ?_
         refine AW.trim [3,4,5,6,7,11,13] ?_
         refine AW.clo 13 ?_
         refine AW.seq ?_
         refine AW.rS ?_
         refine AW.trim [3,4,5,6,7,11,13,55] ?_
         refine AW.c2 ?_ ?_
         ·intro h75
          have he : impE d x o = 30:=by unfold impE; rw [if_neg (by rw [hd]; decide),if_neg (by rw [hx]; decide),if_neg (by rw [ho]; decide),if_pos (by omega)]
          refine AW.rS ?_
          refine AW.trim [6,7,8] ?_
          refine AW.rt ?_
          rw [impD,impO,if_pos (by rw [he]; decide),if_pos (by rw [he]; decide),he]
          rfl
         ·intro h75
          have he : impE d x o = 0:=by unfold impE; rw [if_neg (by rw [hd]; decide),if_neg (by rw [hx]; decide),if_neg (by rw [ho]; decide),if_neg (by omega)]
          obtain ⟨eD,eO⟩:=imp_eq he
          refine AW.skip ?_
          refine AW.rSC ?_
          refine awOps.cons ?_
          refine awGuard.mkM0 VI (keyOk_int .i64) ?_
          refine awOps.rn ?_
          refine AW.trim [3,4,5,6,7,11,13,14] ?_
          refine AW.seq ?_
          refine AW.rS ?_
          refine AW.trim [3,4,5,6,7,11,13,14,59,60,61] ?_
          refine AW.block ?_
          refine AW.lk (S:={ k : Nat // k ≤ (metO x.items o).length }) [3,4,5,6,7,11,13,14,59,60] (fun s_=>[(61,.int .i64 s_.1)]) (fun s_=>[(3,.cells [.raw (.slice none 0 0),.int .i64 0,.int .i64 0,.int .i64 0,.str [],.raw (.slice none 0 0),.raw (.slice none 0 0)]),(4,.cells [.int .i64 0,.int .i64 0,.int .i64 0,.str [],.raw (.slice none 0 0),.raw (.slice none 0 0)]),(6,mapOf KI VI (mapB [] (metO x.items o) (impT d x o) s_.1))]) 7 (fun s_=>(metO x.items o).length - s_.1) ⟨0,Nat.zero_le _⟩ ?_ ?_
          ·refine St.le.vw [0,1,2,3,4,5,6]
          rintro ⟨k,hk⟩
          try dsimp only at hk
          refine AW.rS ?_
          refine AW.trim [3,4,5,6,7,11,13,14,59,60,61,62] ?_
          refine AW.seq ?_
          refine AW.c2 ?_ ?_
          ·intro h89
           have hk2 : k < (metO x.items o).length:=by omega
           have htk : (impT d x o).getD k 0 = lastN d.items + (k : Int):=upTo_get hk2
           refine AW.skip ?_
           refine AW.seq ?_
           refine AW.block ?_
           refine AW.rS ?_
           refine AW.trim [3,4,5,6,7,11,13,14,15,16,59,60,61] ?_
           refine AW.rLC ?_
           refine awOps.cons ?_
           refine awGuard.upM (V:=VI) (keyOk_int .i64) (⟨lastN d.items - 1 + 1 + (k : Int),0,Pob.null⟩ : Itm) ?_
           refine awOps.rn ?_
           refine AW.rL ?_
           refine ⟨⟨k + 1,by omega⟩,?_,?_⟩
           ·refine St.le.vx [0,1,2,3,4,5,6] ?_
            rw [mapB_succ,htk,show lastN d.items + (k : Int) = lastN d.items - 1 + 1 + (k : Int) from by omega]
           ·simp only []; omega
          ·intro h89
           obtain rfl : k = (metO x.items o).length:=by omega
           have hrg:=imp_range (d:=d) (x:=x) (o:=o) hlr2.1 (by omega)
           have hnd:=imp_nodup (d:=d) (o:=o) hx
           have hit:=imp_items (d:=d) (o:=o) hx
           have hst:=imp_sort (d:=d) (o:=o) hx
           have htn:=imp_turn (d:=d) (x:=x) (o:=o) (q:=o) (metO_closed x.items o).1
           rw [show mapB [] (metO x.items o) (impT d x o) (metO x.items o).length = impM d x o from rfl]
           generalize impM d x o = M at *
           refine AW.exit ?_
           refine AW.rSC ?_
           refine awOps.cons (awGuard.c1 (c_value_Clone _ d.trailer (by omega)) ?_)
           refine awOps.rn ?_
           refine AW.trim [3,4,5,6,7,13,14,17] ?_
           refine AW.seq ?_
           refine AW.rS ?_
           refine AW.trim [4,5,6,7,13,14,17,79,80,81] ?_
           refine AW.pre (St.le.nilcell 7 0 8 (by (simp only [go_sem,seval]; iterate 2 try (simp (disch:=omega) only [zq]; try simp only [go_sem,seval])); exact rfl) (by exact rfl)) ?_
           refine wk ?_
           refine AW.block ?_
           refine AW.lk (S:={ i : Nat // i ≤ d.items.length }) [4,5,6,7,13,14,17,79,80] (fun s_=>[(81,.int .i64 s_.1)]) (fun s_=>[(3,.cells [.raw (.slice none 0 0),.int .i64 0,.int .i64 0,.int .i64 0,.str [],.raw (.slice none 0 0),.raw (.slice none 0 0)]),(4,.cells [.int .i64 0,.int .i64 0,.int .i64 0,.str [],.raw (.slice none 0 0),.raw (.slice none 0 0)]),(6,mapOf KI VI M),(7,.cells [.row 8 0 (d.items.take s_.1).length,.int .i64 d.trailer.kind,.int .i64 d.trailer.num,.int .i64 d.trailer.gen,.str d.trailer.str,.sl (strsAV d.trailer.keys),.sl (objsAV d.trailer.kids)]),(8,.row 8 (itemsAV (d.items.take s_.1)) true)]) 9 (fun s_=>d.items.length - s_.1) ⟨0,Nat.zero_le _⟩ ?_ ?_
           ·refine St.le.vw [0,1,2,3,4,5,6,7,8]
           rintro ⟨i,hi⟩
           try dsimp only at hi
           refine AW.rS ?_
           refine AW.trim [4,5,6,7,13,14,17,79,80,81,82] ?_
           refine AW.seq ?_
           refine AW.c2 ?_ ?_
           ·intro h109
            have hi2 : i < d.items.length:=by omega
            have hti : d.items.take (i + 1) = d.items.take i ++ [d.items.getD i Itm.zero]:=by rw [List.take_succ_eq_append_getElem hi2]; simp [List.getD,hi2]
            have htl : (d.items.take i).length = i:=by simp; omega
            have hbi:=ibulk_get hi2
            refine AW.skip ?_
            refine AW.seq ?_
            refine AW.block ?_
            refine AW.rS ?_
            refine AW.trim [4,5,6,7,13,14,17,19,79,80,81] ?_
            refine AW.rSC ?_
            refine awOps.cons (awGuard.c1 (c_value_Clone _ (d.items.getD i Itm.zero).obj (by omega)) ?_)
            refine awOps.rn ?_
            refine AW.trim [4,5,6,7,13,14,17,19,79,80,81] ?_
            refine AW.rL ?_
            refine AW.rL ?_
            refine ⟨⟨i + 1,by omega⟩,?_,?_⟩
            ·refine St.le.vx [0,1,2,3,4,5,6,7,11] ?_
             rw [hti]; exact ⟨by simp,rfl⟩
            ·simp only []; omega
           ·intro h109
            obtain rfl : i = d.items.length:=by omega
            rw [List.take_length]
            have hI:=h_shift_items gl x (metO x.items o) M hxb hx hrg (fun n hn=>has_mem.2 (metO_in n hn)) hnd (by omega)
            have hLl : (metO x.items o).length = (impL d x o).length:=by rw [← hit,List.length_map]
            rw [hit,hst,hLl] at hI
            have hLb : (impL d x o).length ≤ 16777216:=by omega
            refine AW.exit ?_
            refine AW.tG (σf:=?sf121) (.take 0 0 (.take 2 0 (.take 3 0 (.take 4 0 (.fork 1 (.fork 5 (.fork 6 (.take 7 0 (.fork 8 .done .stop)) .stop) .stop) (.fork 5 (.take 1 2 (.fork 6 (.take 7 0 (.fork 8 .done .stop)) .stop)) .stop)))))) ?tree121 ?rest121
            case tree121 =>
             repeat' (first | exact True.intro | refine awTree.tk ?_ | refine awTree.fC (c_shift_numbers_items ..) ?_ ?_ | refine awTree.fH rfl (awGuard.cHm [6] hI ?_) ?_ | refine awTree.fA ?_ ?_ | refine awTree.fB ?_ ?_ | refine awTree.fK ?_ ?_ | exact awTree.dn)
            case rest121 =>
            refine AW.trim [4,5,6,7,14,17] ?_
            refine AW.tG (σf:=?sf122) (.take 1 0 (.take 2 0 (.take 3 0 (.fork 0 (.fork 4 (.fork 5 (.fork 6 (.take 7 0 .done) .stop) .stop) .stop) (.fork 4 (.take 0 2 (.fork 5 (.fork 6 (.take 7 0 .done) .stop) .stop)) .stop))))) ?tree122 ?rest122
            case tree122 =>
             repeat' (first | exact True.intro | refine awTree.tk ?_ | refine awTree.fC (c_shift_other _ x o M 1 hxb hrg hob ho) ?_ ?_ | refine awTree.fA ?_ ?_ | refine awTree.fB ?_ ?_ | refine awTree.fK ?_ ?_ | exact awTree.dn)
            case rest122 =>
            refine AW.trim [6,7,8] ?_
            refine AW.rt ?_
            refine ⟨by simp,?_⟩
            rw [eD,eO,he,htn,← List.length_append,List.take_length]
     ·intro h44
      first | contradiction | (simp at h44; done) | (exfalso; omega) | (exfalso; revert h44; decide)
   ·intro h29
    first | contradiction | (simp at h29; done) | (exfalso; omega) | (exfalso; revert h29; decide)
 ·intro h14
  first | contradiction | (simp at h14; done) | (exfalso; omega) | (exfalso; revert h14; decide)
end Go.Proofs

namespace Go.Proofs
open Go Aw
set_option linter.unusedSimpArgs false
set_option linter.unusedVariables false
set_option maxRecDepth 100000
set_option maxHeartbeats 4000000
attribute [local go_sem] take_strsAV app1_strsAV take_intsAV app1_intsAV take_itemsAV app_itemsAV app1_itemsAV cond_true cond_false
def shOb (a b : Int) : Pob:=.mk 7 0 0 [] [[65],[66]] [refO a 0,refO b 0]
def shTr (a : Int) : Pob:=.mk 7 0 0 [] [rootK] [refO a 0]
def shD : Dc:=⟨[⟨5,0,shOb 9 7⟩,⟨7,0,intO 70⟩,⟨9,0,intO 90⟩],shTr 5⟩
def shC : Dc:=⟨[⟨1,0,shOb 2 3⟩,⟨2,0,intO 90⟩,⟨3,0,intO 70⟩],shTr 1⟩
def shM : Dc:=⟨[⟨7,0,intO 70⟩,⟨8,0,shOb 9 7⟩,⟨9,0,intO 90⟩],shTr 8⟩
def shX : Dc:=⟨[⟨5,0,shOb 9 7⟩,⟨7,0,intO 70⟩,⟨9,0,intO 90⟩,⟨10,0,intO 70⟩],shTr 5⟩
theorem sh1 : compD shD = shC:=by decide +kernel
theorem sh2 : mapE shD [5] [7] = 9:=by decide +kernel
theorem sh3 : mapE shD [6] [1] = 8:=by decide +kernel
theorem sh4 : mapE shD [5] [8] = 0:=by decide +kernel
theorem sh5 : mapD shD [5] [8] = shM:=by decide +kernel
theorem sh6 : impE shD shD (refO 7 0) = 0:=by decide +kernel
theorem sh7 : impD shD shD (refO 7 0) = shX:=by decide +kernel
theorem sh8 : impO shD shD (refO 7 0) = refO 10 0:=by decide +kernel
theorem sh9 : alikeB shM shC = true:=by decide +kernel
theorem sh10 : alikeB Dc.zero Dc.zero = false:=by decide +kernel
theorem sh11 : shD.bulk ≤ 16777216 ∧ shM.bulk ≤ 16777216 ∧ shC.bulk ≤ 16777216 ∧ Dc.zero.bulk ≤ 16777216 ∧ (refO 7 0).bulk ≤ 16777216:=by decide +kernel
theorem sh12 : mapD shD [5] [7] = Dc.zero ∧ mapD shD [6] [1] = Dc.zero:=by decide +kernel
theorem c_law30_doc (gl : List (Nat × AV))  : FnP Tryz.prog (gl) 27 [] fun r=>r = .ret (.agg shD.cells):=by
 refine FnP.intro Tryz.func27 rfl rfl (by simp [Tryz.ntmps27]) ?_
 simp only [argEnv,Tryz.ntmps27,Tryz.results27]
 refine AW.rS ?_
 refine AW.trim [0] ?_
 refine AW.rS ?_
 refine AW.trim [0,1] ?_
 refine AW.rS ?_
 refine AW.trim [0] ?_
 refine AW.rt ?_
 rfl
theorem se1 (gl : List (Nat × AV)) : FnP Tryz.prog gl 13 [.agg shD.cells] fun r=>r = .ret (.agg [.sl [[.int .i64 1,.int .i64 0,.int .i64 7,.int .i64 0,.int .i64 0,.str [],.sl [[.str [65]],[.str [66]]],.sl [[.int .i64 8,.int .i64 2,.int .i64 0,.str [],.sl [],.sl []],[.int .i64 8,.int .i64 3,.int .i64 0,.str [],.sl [],.sl []]]],[.int .i64 2,.int .i64 0,.int .i64 2,.int .i64 90,.int .i64 0,.str [],.sl [],.sl []],[.int .i64 3,.int .i64 0,.int .i64 2,.int .i64 70,.int .i64 0,.str [],.sl [],.sl []]],.int .i64 7,.int .i64 0,.int .i64 0,.str [],.sl [[.str [82,111,111,116]]],.sl [[.int .i64 8,.int .i64 1,.int .i64 0,.str [],.sl [],.sl []]]]):=by
 have h:=c_shift_Compact gl shD sh11.1
 rw [sh1] at h
 exact h
theorem se2 (gl : List (Nat × AV)) : FnP Tryz.prog gl 10 [.agg shD.cells,.sl (intsAV [5]),.sl (intsAV [7])] fun r=>r = .ret (.tup [.agg [.sl [],.int .i64 0,.int .i64 0,.int .i64 0,.str [],.sl [],.sl []],.int .i64 9]):=by
 have h:=c_shift_Map gl shD [5] [7] sh11.1 (by decide) (by decide)
 rw [sh2,sh12.1] at h
 exact h
theorem se3 (gl : List (Nat × AV)) : FnP Tryz.prog gl 10 [.agg shD.cells,.sl (intsAV [6]),.sl (intsAV [1])] fun r=>r = .ret (.tup [.agg [.sl [],.int .i64 0,.int .i64 0,.int .i64 0,.str [],.sl [],.sl []],.int .i64 8]):=by
 have h:=c_shift_Map gl shD [6] [1] sh11.1 (by decide) (by decide)
 rw [sh3,sh12.2] at h
 exact h
theorem se4 (gl : List (Nat × AV)) : FnP Tryz.prog gl 10 [.agg shD.cells,.sl (intsAV [5]),.sl (intsAV [8])] fun r=>r = .ret (.tup [.agg [.sl [[.int .i64 7,.int .i64 0,.int .i64 2,.int .i64 70,.int .i64 0,.str [],.sl [],.sl []],[.int .i64 8,.int .i64 0,.int .i64 7,.int .i64 0,.int .i64 0,.str [],.sl [[.str [65]],[.str [66]]],.sl [[.int .i64 8,.int .i64 9,.int .i64 0,.str [],.sl [],.sl []],[.int .i64 8,.int .i64 7,.int .i64 0,.str [],.sl [],.sl []]]],[.int .i64 9,.int .i64 0,.int .i64 2,.int .i64 90,.int .i64 0,.str [],.sl [],.sl []]],.int .i64 7,.int .i64 0,.int .i64 0,.str [],.sl [[.str [82,111,111,116]]],.sl [[.int .i64 8,.int .i64 8,.int .i64 0,.str [],.sl [],.sl []]]],.int .i64 0]):=by
 have h:=c_shift_Map gl shD [5] [8] sh11.1 (by decide) (by decide)
 rw [sh4,sh5] at h
 exact h
theorem se5 (gl : List (Nat × AV)) : FnP Tryz.prog gl 18 [.agg shD.cells,.agg shD.cells,.agg (refO 7 0).cells] fun r=>r = .ret (.tup [.agg [.sl [[.int .i64 5,.int .i64 0,.int .i64 7,.int .i64 0,.int .i64 0,.str [],.sl [[.str [65]],[.str [66]]],.sl [[.int .i64 8,.int .i64 9,.int .i64 0,.str [],.sl [],.sl []],[.int .i64 8,.int .i64 7,.int .i64 0,.str [],.sl [],.sl []]]],[.int .i64 7,.int .i64 0,.int .i64 2,.int .i64 70,.int .i64 0,.str [],.sl [],.sl []],[.int .i64 9,.int .i64 0,.int .i64 2,.int .i64 90,.int .i64 0,.str [],.sl [],.sl []],[.int .i64 10,.int .i64 0,.int .i64 2,.int .i64 70,.int .i64 0,.str [],.sl [],.sl []]],.int .i64 7,.int .i64 0,.int .i64 0,.str [],.sl [[.str [82,111,111,116]]],.sl [[.int .i64 8,.int .i64 5,.int .i64 0,.str [],.sl [],.sl []]]],.agg [.int .i64 8,.int .i64 10,.int .i64 0,.str [],.sl [],.sl []],.int .i64 0]):=by
 have h:=c_shift_Import gl shD shD (refO 7 0) sh11.1 sh11.1 sh11.2.2.2.2
 rw [sh6,sh7,sh8] at h
 exact h
theorem se6 (gl : List (Nat × AV)) : FnP Tryz.prog gl 15 [.agg shM.cells,.agg shC.cells] fun r=>r = .ret (.bool true):=by
 have h:=c_shift_Alike gl shM shC sh11.2.1 sh11.2.2.1
 rw [sh9] at h
 exact h
theorem se7 (gl : List (Nat × AV)) : FnP Tryz.prog gl 15 [.agg Dc.zero.cells,.agg Dc.zero.cells] fun r=>r = .ret (.bool false):=by
 have h:=c_shift_Alike gl Dc.zero Dc.zero sh11.2.2.2.1 sh11.2.2.2.1
 rw [sh10] at h
 exact h
theorem c_law30_light (gl : List (Nat × AV)) (d : Dc) (h : d.bulk ≤ 16777216) (hs : d.size ≤ 4611686018427387904) : FnP Tryz.prog (gl) 8 [.agg d.cells] fun r=>r = .ret (.bool (decide ((d.items.length : Int) ≤ 40) && decide ((d.size : Int) ≤ 600))):=by
 refine FnP.intro Tryz.func8 rfl rfl (by simp [Tryz.ntmps8]) ?_
 simp only [argEnv,Tryz.ntmps8,Tryz.results8]
 refine AW.rS ?_
 refine AW.trim [1] ?_
 refine AW.rSC ?_
 refine awOps.cons (awGuard.cG (fun hg=>c_foliantref19_Size _ d (by omega) (by omega)) ?_)
 refine awOps.rn ?_
 refine AW.trim [2] ?_
 refine AW.rt ?_
 all_goals first | contradiction | rfl | (simp; done) | (simp; omega)
theorem c_law30_lives (gl : List (Nat × AV))  : FnP Tryz.prog (gl) 9 [] fun r=>r = .ret (.bool true):=by
 refine FnP.intro Tryz.func9 rfl rfl (by simp [Tryz.ntmps9]) ?_
 simp only [argEnv,Tryz.ntmps9,Tryz.results9]
 refine AW.rS ?_
 refine AW.trim [] ?_
 refine AW.rSC ?_
 refine awOps.cons (awGuard.c1 (c_law30_doc _) ?_)
 refine awOps.rn ?_
 refine awOps.cons (awGuard.c1 (se1 _) ?_)
 refine awOps.rn ?_
 refine AW.trim [1] ?_
 refine AW.seq ?_
 refine AW.rS ?_
 refine AW.trim [1,33] ?_
 refine AW.c2 ?_ ?_
 ·intro h9
  exfalso; revert h9; decide
 ·intro h9
  refine AW.skip ?_
  refine AW.rSC ?_
  refine awOps.cons (awGuard.c1 (c_law30_doc _) ?_)
  refine awOps.rn ?_
  refine awOps.cons (awGuard.c1 (se2 _) ?_)
  refine awOps.rn ?_
  refine AW.trim [1,3] ?_
  refine AW.rSC ?_
  refine awOps.cons (awGuard.c1 (c_law30_doc _) ?_)
  refine awOps.rn ?_
  refine awOps.cons (awGuard.c1 (se3 _) ?_)
  refine awOps.rn ?_
  refine AW.trim [1,3,5] ?_
  refine AW.rSC ?_
  refine awOps.cons (awGuard.c1 (c_law30_doc _) ?_)
  refine awOps.rn ?_
  refine awOps.cons (awGuard.c1 (se4 _) ?_)
  refine awOps.rn ?_
  refine AW.trim [1,3,5,6,7] ?_
  refine AW.rSC ?_
  refine awOps.cons (awGuard.c1 (c_law30_doc _) ?_)
  refine awOps.rn ?_
  refine awOps.cons (awGuard.c1 (c_law30_doc _) ?_)
  refine awOps.rn ?_
  refine awOps.cons (awGuard.c1 (se5 _) ?_)
  refine awOps.rn ?_
  refine AW.trim [1,3,5,6,7,8,9,10] ?_
  refine AW.seq (AW.region ?_)
  iterate 81 (refine awOps.s1 ?_)
  refine awOps.cons (awGuard.cG (fun hg=>se6 _) ?_)
  iterate 2 (refine awOps.s1 ?_)
  iterate 2 (refine awOps.cons (awGuard.gT ?_))
  refine awOps.cons (awGuard.cG (fun hg=>se7 _) ?_)
  iterate 3 (refine awOps.s1 ?_)
  simp only [Aw.awOps_nil,andThen]
  skip
  skip
  skip
  skip
  refine AW.trim [0] ?_
  refine AW.rt ?_
  all_goals first | contradiction | rfl | (simp; done) | (simp; omega)
end Go.Proofs

namespace Aw
open Go
end Aw

namespace Go.Proofs
open Go Aw
set_option linter.unusedSimpArgs false
set_option linter.unusedVariables false
set_option maxRecDepth 100000
set_option maxHeartbeats 4000000
theorem c_law_ShiftTells (gl : List (Nat × AV)) (a b : Dc) (fr to : List Int) (h : a.tot + b.tot + fr.length + to.length ≤ 1048576) : FnP Tryz.prog (gl) 3 [.agg a.cells,.agg b.cells,.sl (intsAV fr),.sl (intsAV to)] fun r=>r = .ret (.bool true):=by
 refine FnP.intro Tryz.func3 rfl rfl (by simp [Tryz.ntmps3]) ?_
 simp only [argEnv,Tryz.ntmps3,Tryz.results3]
 have h1:=Dc.bulk_tot a
 have h2:=Dc.size_tot a
 have h3:=Dc.bulk_tot b
 have h4:=Dc.size_tot b
 have hxb:=map_bulk a fr to
 have hcb:=comp_bulk a
 refine AW.rS ?_
 refine AW.trim [2,3,4,5] ?_
 refine AW.cf 4 0 ?_
 refine AW.cf 5 1 ?_
 refine AW.seq ?_
 refine AW.rSC ?_
 refine awOps.cons (awGuard.c1 (c_law30_light _ a (by omega) (by omega)) ?_)
 refine awOps.rn ?_
 refine awOps.cons (awGuard.cG (fun hg=>c_law30_light _ b (by omega) (by omega)) ?_)
 refine awOps.rn ?_
 refine AW.trim [2,3,4,5,30] ?_
 refine AW.c2 ?_ ?_
 ·intro h8
  refine AW.rSC ?_
  refine awOps.cons (awGuard.c1 (c_law30_lives _) ?_)
  refine awOps.rn ?_
  refine AW.trim [8] ?_
  refine AW.rt ?_
  all_goals first | contradiction | rfl | (simp; done) | (simp; omega)
 ·intro h8
  refine AW.skip ?_
  refine AW.rSC ?_
  refine awOps.cons (awGuard.c1 (c_shift_Map _ a fr to (by omega) (by omega) (by omega)) ?_)
  refine awOps.rn ?_
  refine AW.trim [2,3,4,5,9,10] ?_
  refine AW.rSC ?_
  refine awOps.cons (awGuard.c1 (c_rMap _ a fr to (by omega) (by omega) (by omega)) ?_)
  refine awOps.rn ?_
  refine AW.trim [4,5,9,10,11,12] ?_
  refine AW.cf 9 2 ?_
  refine AW.cf 11 3 ?_
  refine AW.dSC [(0,0),(1,0),(2,2),(3,0),(4,0),(5,0),(6,0),(7,0),(8,0),(9,0),(11,0),(10,2),(12,2),(13,2),(14,0),(15,0),(16,0),(17,0),(19,0),(20,0),(18,2),(21,2),(22,0),(23,0),(24,0),(25,2),(26,0),(27,0)] ?_
  refine awPlan.only rfl ?_
  refine awGuard.c1 (c_foliantref19_Same _ (mapD a fr to) (mapD a fr to) (by omega)) ?_
  refine awPlan.rn ?_
  refine awPlan.only rfl ?_
  refine awGuard.cG (fun hg=>c_shift_Compact _ a (by omega)) ?_
  refine awPlan.rn ?_
  refine awPlan.only rfl ?_
  refine awGuard.cG (fun hg=>c_rCompact _ a (by omega)) ?_
  refine awPlan.rn ?_
  refine awPlan.only rfl ?_
  refine awGuard.cG (fun hg=>c_foliantref19_Same _ (compD a) (compD a) (by omega)) ?_
  refine awPlan.rn ?_
  refine awPlan.only rfl ?_
  refine awGuard.cG (fun hg=>c_shift_Alike _ a b (by omega) (by omega)) ?_
  refine awPlan.rn ?_
  refine awPlan.only rfl ?_
  refine awGuard.cG (fun hg=>c_rAlike _ a b (by omega) (by omega)) ?_
  refine awPlan.rn ?_
  refine awPlan.only rfl ?_
  refine awGuard.cG (fun hg=>c_law30_lives _) ?_
  refine awPlan.rn ?_
  refine AW.trim [8] ?_
  refine AW.rt ?_
  all_goals first | contradiction | rfl | (simp; done) | (simp; omega)
end Go.Proofs
