/- A part of the proof: no condition of its own. -/
import Derived.Test.YtlamdhcfojligaaGreatPart5
namespace Go.Proofs
open Go Aw
set_option linter.unusedSimpArgs false
set_option linter.unusedVariables false
set_option maxRecDepth 100000
set_option maxHeartbeats 4000000
attribute [local go_sem] take_strsAV app1_strsAV take_intsAV drop_intsAV app_intsAV app1_intsAV take_itemsAV app_itemsAV app1_itemsAV
attribute [local go_sem] mres VI
attribute [local go_sem ↓ high] rids_cmapOf
theorem look_chk {d : Dc} (hd : docE d = 0) (h : d.bulk ≤ 16777216) {n : Int} (hn : hasI d.items n = true) : chk ((lookI d.items n).getD Itm.zero).obj 1 = 0 ∧ ((lookI d.items n).getD Itm.zero).obj.bulk ≤ 16777216:=by
 obtain ⟨i,hi⟩:=Option.isSome_iff_exists.1 hn
 have hm : i ∈ d.items:=by
  have hl : ledB d.items (refO n i.gen) = true:=led_some.2 ⟨i,hi,rfl⟩
  have:=(led_mem hl).1
  rwa [show ledI d.items (refO n i.gen) = i from by unfold ledI; rw [show (refO n i.gen).num = n from rfl,hi]; rfl] at this
 have hb:=ibulk_in hm
 have hdb : d.bulk = ibulk d.items + d.trailer.bulk:=rfl
 rw [hi]
 exact ⟨(doc_obj hd hm).1,by show i.obj.bulk ≤ _; omega⟩
theorem h_shift_items (gl : List (Nat × AV)) (d : Dc) (l : List Int) (M : List (Int × Itm)) (h : d.bulk ≤ 16777216) (hd : docE d = 0) (hM : ∀ n,0 ≤ (foundI M n).num ∧ (foundI M n).num ≤ 16777216) (hin : ∀ n ∈ l,hasI d.items n = true) (hnd : (l.map fun n=>(foundI M n).num).Nodup) (hl : l.length ≤ 16777216) : FnH Tryz.prog (gl) 32 [.map 0,.agg d.cells,.sl (intsAV l)] ([(0,mapOf KI VI M)]) 1 (fun r h n=>r = .ret (.row 1 0 l.length) ∧ h = [(0,mapOf KI VI M),(1,.row 8 (itemsAV (sortN (l.map (turnMI d.items M)))) true)] ∧ n = 2):=by
 refine FnH.intro Tryz.func32 rfl rfl (by simp [Tryz.ntmps32]) ?_
 simp only [argEnv,Tryz.ntmps32,Tryz.results32]
 refine AW.rS ?_
 refine AW.trim [0,2,4] ?_
 refine AW.rS ?_
 refine AW.trim [0,2,4,7] ?_
 refine AW.seq ?_
 refine AW.rS ?_
 refine AW.trim [0,4,7,13,14,15] ?_
 refine AW.block ?_
 refine AW.pre (St.le.nilrow 7 8 (by (simp only [go_sem,seval]; iterate 2 try (simp (disch:=omega) only [zq]; try simp only [go_sem,seval])))) ?_
 refine wk ?_
 refine AW.lk (S:={ i : Nat // i ≤ l.length }) [0,4,13,14] (fun s_=>[(7,.row 2 0 ((l.take s_.1).map (turnMI d.items M)).length),(15,.int .i64 s_.1)]) (fun s_=>[(0,mapOf KI VI M),(1,.cells d.cells),(2,.row 8 (itemsAV ((l.take s_.1).map (turnMI d.items M))) true)]) 3 (fun s_=>l.length - s_.1) ⟨0,Nat.zero_le _⟩ ?_ ?_
 ·refine St.le.vw [0,1,2] (hpre:=(by decide : ∀ i,i < 1 → nth [0,1,2] i = some i))
 rintro ⟨i,hi⟩
 try dsimp only at hi
 refine AW.rS ?_
 refine AW.trim [0,4,7,13,14,15,16] ?_
 refine AW.seq ?_
 refine AW.c2 ?_ ?_
 ·intro h9
  have hi2 : i < l.length:=by omega
  have hlt : (l.take (i + 1)).map (turnMI d.items M) = (l.take i).map (turnMI d.items M) ++ [turnMI d.items M (l.getD i 0)]:=by rw [List.take_succ_eq_append_getElem hi2,List.map_append]; simp [List.getD,hi2]
  have hll : ((l.take i).map (turnMI d.items M)).length = i:=by simp; omega
  have hlc:=look_chk hd h (hin (l.getD i 0) (at_mem hi2))
  refine AW.skip ?_
  refine AW.seq ?_
  refine AW.block ?_
  refine AW.rS ?_
  refine AW.trim [0,4,7,9,13,14,15] ?_
  refine AW.rSC ?_
  refine awOps.cons (awGuard.c1 (c_docs_Get _ d (l.getD i 0) h) ?_)
  refine awOps.rn ?_
  refine AW.trim [0,4,7,9,10,13,14,15] ?_
  refine AW.rSC ?_
  refine awOps.cons ?_
  refine awGuard.lkM (keyOk_int .i64) Itm.zero zero_itm rfl ?_
  refine awOps.rn ?_
  refine AW.trim [0,4,7,10,12,13,14,15] ?_
  refine AW.rSC ?_
  refine awOps.cons (awGuard.c1 (c_shift_other _ d ((lookI d.items (l.getD i 0)).getD Itm.zero).obj M 1 h hM hlc.2 hlc.1) ?_)
  refine awOps.rn ?_
  refine AW.trim [0,4,7,12,13,14,15] ?_
  refine AW.rL ?_
  refine AW.rL ?_
  refine ⟨⟨i + 1,by omega⟩,?_,?_⟩
  ·refine St.le.vx [0,1,6] (hpre:=(by decide : ∀ i,i < 1 → nth [0,1,6] i = some i)) ?_
   rw [hlt,← app_itemsAV] <;> rfl
  ·simp only []; omega
 ·intro h9
  obtain rfl : i = l.length:=by omega
  rw [List.take_length]
  have hml : (l.map (turnMI d.items M)).length = l.length:=by simp
  refine AW.exit ?_
  refine AW.rSC ?_
  refine awOps.cons (awGuard.cH [2] (h_SortFunc_items _ (l.map (turnMI d.items M)) (by rw [List.map_map]; exact hnd) (fun i hi=>by obtain ⟨n,_,rfl⟩:=List.mem_map.1 hi; exact hM n) (by omega)) ?_)
  refine awOps.rn ?_
  refine AW.trim [7] ?_
  refine AW.rS ?_
  refine AW.trim [6] ?_
  refine AW.vw [0,2] [(6,.row 1 0 l.length)] [(0,mapOf KI VI M),(1,.row 8 (itemsAV (sortN (l.map (turnMI d.items M)))) true)] (hpre:=(by decide : ∀ i,i < 1 → nth [0,2] i = some i)) ?_
  refine AW.rt ?_
  trivial
end Go.Proofs

namespace Go.Proofs
open Go Aw
set_option linter.unusedSimpArgs false
set_option linter.unusedVariables false
set_option maxRecDepth 100000
set_option maxHeartbeats 4000000
attribute [local go_sem] take_strsAV app1_strsAV take_intsAV drop_intsAV app_intsAV app1_intsAV take_itemsAV app_itemsAV app1_itemsAV
def impI (d x : Dc) (o : Pob) (n : Int) : Itm:=turnI x.items (metO x.items o) (impT d x o) ((lookI x.items n).getD Itm.zero)
theorem last_range {d : Dc} (hd : docE d = 0) : 1 ≤ lastN d.items ∧ lastN d.items ≤ 8192:=by
 refine ⟨last_pos (docE_items hd),?_⟩
 unfold lastN
 split
 ·decide
 ·have hlm : d.items.getD (d.items.length - 1) Itm.zero ∈ d.items:=by
   rw [show d.items.getD (d.items.length - 1) Itm.zero = d.items[d.items.length - 1]'(by omega) from by simp [List.getD,show d.items.length - 1 < d.items.length by omega]]
   exact List.getElem_mem _
  have:=num_range hd (has_mem.2 ⟨_,hlm,rfl⟩)
  omega
theorem metO_len (l : List Itm) (o : Pob) : (metO l o).length ≤ l.length:=fitsM_len (fitsM_met (rs:=o.rr) (fitsM_nil l))
theorem c_rImport (gl : List (Nat × AV)) (d x : Dc) (o : Pob) (hdt : d.tot ≤ 16777216) (hxt : x.tot ≤ 16777216) (hot : o.tot ≤ 16777216) : FnP Tryz.prog (gl) 19 [.agg d.cells,.agg x.cells,.agg o.cells] fun r=>r = .ret (.tup [.agg (impD d x o).cells,.agg (impO d x o).cells,.int .i64 (impE d x o)]):=by
 refine FnP.intro Tryz.func19 rfl rfl (by simp [Tryz.ntmps19]) ?_
 simp only [argEnv,Tryz.ntmps19,Tryz.results19]
 have hdb : d.bulk ≤ 16777216:=Nat.le_trans (Dc.bulk_tot d) hdt
 have hxb : x.bulk ≤ 16777216:=Nat.le_trans (Dc.bulk_tot x) hxt
 have hob : o.bulk ≤ 16777216:=by have:=Pob.bulk_tot o; omega
 have hd9 : d.bulk = ibulk d.items + d.trailer.bulk:=rfl
 have hx9 : x.bulk = ibulk x.items + x.trailer.bulk:=rfl
 have hdl:=ibulk_len d.items
 have hxl:=ibulk_len x.items
 have hml:=metO_len x.items o
 refine AW.rS ?_
 refine AW.trim [3,4,5,6,7] ?_
 refine AW.cf 3 0 ?_
 refine AW.cf 4 1 ?_
 refine AW.cf 5 2 ?_
 refine AW.seq ?_
 refine AW.rSC ?_
 refine awOps.cons (awGuard.c1 (c_foliantref19_Check _ d hdt) ?_)
 refine awOps.rn ?_
 refine AW.trim [3,4,5,6,7,9] ?_
 refine AW.rS ?_
 refine AW.trim [3,4,5,6,7,9,23] ?_
 refine AW.c2 ?_ ?_
 ·intro h7
  have he : impE d x o = docE d:=if_pos h7
  refine AW.rS ?_
  refine AW.trim [6,7,8] ?_
  refine AW.rt ?_
  rw [impD,impO,if_pos (by rw [he]; exact h7),if_pos (by rw [he]; exact h7),he]
  rfl
 ·intro h7
  have hd : docE d = 0:=by simpa using h7
  refine AW.skip ?_
  refine AW.seq ?_
  refine AW.rSC ?_
  refine awOps.cons (awGuard.c1 (c_foliantref19_Check _ x hxt) ?_)
  refine awOps.rn ?_
  refine AW.trim [3,4,5,6,7,10] ?_
  refine AW.rS ?_
  refine AW.trim [3,4,5,6,7,10,30] ?_
  refine AW.c2 ?_ ?_
  ·intro h17
   have he : impE d x o = docE x:=by unfold impE; rw [if_neg (by rw [hd]; decide),if_pos h17]
   refine AW.rS ?_
   refine AW.trim [6,7,8] ?_
   refine AW.rt ?_
   rw [impD,impO,if_pos (by rw [he]; exact h17),if_pos (by rw [he]; exact h17),he]
   rfl
  ·intro h17
   have hx : docE x = 0:=by simpa using h17
   have hlr2:=last_range hd
   refine AW.skip ?_
   refine AW.seq ?_
   refine AW.rSC ?_
   refine awOps.cons (awGuard.c1 (c_foliantref05_Check _ o hot) ?_)
   refine awOps.rn ?_
   refine AW.trim [3,4,5,6,7,11] ?_
   refine AW.rS ?_
   refine AW.trim [3,4,5,6,7,11,37] ?_
   refine AW.c2 ?_ ?_
   ·intro h27
    have he : impE d x o = chk o 1:=by unfold impE; rw [if_neg (by rw [hd]; decide),if_neg (by rw [hx]; decide),if_pos h27]
    refine AW.rS ?_
    refine AW.trim [6,7,8] ?_
    refine AW.rt ?_
    rw [impD,impO,if_pos (by rw [he]; exact h27),if_pos (by rw [he]; exact h27),he]
    rfl
   ·intro h27
    have ho : chk o 1 = 0:=by simpa using h27
    refine AW.skip ?_
    refine AW.rSC ?_
    refine awOps.cons (awGuard.cH [] (h_rmet _ x o 1 hxb hx ho hob) ?_)
    refine awOps.rn ?_
    refine AW.trim [3,4,5,6,7,12] ?_
    refine AW.rS ?_
    refine AW.trim [3,4,5,6,7,12,13] ?_
    refine AW.join ⟨122,[(3,.cptr d.cells),(4,.cptr x.cells),(5,.cptr o.cells),(6,.ptr 3 0),(7,.ptr 4 0),(12,.row 5 0 (metO x.items o).length),(13,.int .i64 (lastN d.items))],[(3,.cells [.raw (.slice none 0 0),.int .i64 0,.int .i64 0,.int .i64 0,.str [],.raw (.slice none 0 0),.raw (.slice none 0 0)]),(4,.cells [.int .i64 0,.int .i64 0,.int .i64 0,.str [],.raw (.slice none 0 0),.raw (.slice none 0 0)]),(5,.row 1 (intsAV (metO x.items o)) true)],6,gl,0,[]⟩ ?_ ?_
    ·skip
     refine AW.rS ?_
     refine AW.trim [3,4,5,6,7,12,13,47] ?_
     refine AW.c2 ?_ ?_
     ·intro h38
      have hlm : d.items.getD (d.items.length - 1) Itm.zero ∈ d.items:=by rw [show d.items.getD (d.items.length - 1) Itm.zero = d.items[d.items.length - 1]'(by omega) from by simp [List.getD,show d.items.length - 1 < d.items.length by omega]]; exact List.getElem_mem _
      have hlr:=num_range hd (has_mem.2 ⟨_,hlm,rfl⟩)
      rw [show lastN d.items = (d.items.getD (d.items.length - 1) Itm.zero).num + 1 from if_neg (by omega)]
      refine AW.rL ?_
      refine St.le.vw [0,1,2,3,4,5]
     ·intro h38
      rw [show lastN d.items = 1 from if_pos (by omega)]
      refine AW.skip ?_
      refine St.le.vw [0,1,2,3,4,5]
    ·skip
     refine AW.clo 12 ?_
     refine AW.seq ?_
     refine AW.rS ?_
     refine AW.trim [3,4,5,6,7,12,13,63] ?_
     refine AW.c2 ?_ ?_
     ·intro h45
      have he : impE d x o = 30:=by unfold impE; rw [if_neg (by rw [hd]; decide),if_neg (by rw [hx]; decide),if_neg (by rw [ho]; decide),if_pos (by omega)]
      refine AW.rS ?_
      refine AW.trim [6,7,8] ?_
      refine AW.rt ?_
      rw [impD,impO,if_pos (by rw [he]; decide),if_pos (by rw [he]; decide),he]
      rfl
     ·intro h45
      have he : impE d x o = 0:=by unfold impE; rw [if_neg (by rw [hd]; decide),if_neg (by rw [hx]; decide),if_neg (by rw [ho]; decide),if_neg (by omega)]
      obtain ⟨eD,eO⟩:=imp_eq he
      refine AW.skip ?_
      refine AW.rS ?_
      refine AW.trim [3,4,5,6,7,12,13,14] ?_
      refine AW.seq ?_
      refine AW.rS ?_
      refine AW.trim [3,4,5,6,7,12,13,14,15] ?_
      refine AW.pre (St.le.nilrow 14 1 (by (simp only [go_sem,seval]; iterate 2 try (simp (disch:=omega) only [zq]; try simp only [go_sem,seval])))) ?_
      refine wk ?_
      refine AW.block ?_
      refine AW.lk (S:={ k : Nat // k ≤ (metO x.items o).length }) [3,4,5,6,7,12,13] (fun s_=>[(14,.row 6 0 (upTo (lastN d.items) s_.1).length),(15,.int .i64 s_.1)]) (fun s_=>[(3,.cells [.raw (.slice none 0 0),.int .i64 0,.int .i64 0,.int .i64 0,.str [],.raw (.slice none 0 0),.raw (.slice none 0 0)]),(4,.cells [.int .i64 0,.int .i64 0,.int .i64 0,.str [],.raw (.slice none 0 0),.raw (.slice none 0 0)]),(6,.row 1 (intsAV (upTo (lastN d.items) s_.1)) true)]) 7 (fun s_=>(metO x.items o).length - s_.1) ⟨0,Nat.zero_le _⟩ ?_ ?_
      ·refine St.le.vw [0,1,2,3,4,5,6]
      rintro ⟨k,hk⟩
      try dsimp only at hk
      have hul:=upTo_len (lastN d.items) k
      have hul2:=upTo_len (lastN d.items) (k + 1)
      refine AW.seq ?_
      refine AW.rS ?_
      refine AW.trim [3,4,5,6,7,12,13,14,15,69] ?_
      refine AW.c2 ?_ ?_
      ·intro h57
       refine AW.skip ?_
       refine AW.seq ?_
       refine AW.block ?_
       refine AW.rL ?_
       refine AW.rL ?_
       refine ⟨⟨k + 1,by omega⟩,?_,?_⟩
       ·refine St.le.vx [0,1,2,3,4,5,8] ?_
        rw [upTo_succ]
       ·simp only []; omega
      ·intro h57
       obtain rfl : k = (metO x.items o).length:=by omega
       rw [show upTo (lastN d.items) (metO x.items o).length = impT d x o from rfl]
       have hil : (impT d x o).length = (metO x.items o).length:=impT_len
       refine AW.exit ?_
       refine AW.clo 14 ?_
       refine AW.tVd (σ1:=⟨122,[(4,.cptr x.cells),(5,.cptr o.cells),(6,.ptr 3 0),(7,.ptr 4 0),(12,.sl (intsAV (metO x.items o))),(14,.sl (intsAV (impT d x o))),(16,.ptr 6 0)],[(3,.cells [.raw (.slice none 0 0),.int .i64 0,.int .i64 0,.int .i64 0,.str [],.raw (.slice none 0 0),.raw (.slice none 0 0)]),(4,.cells [.int .i64 0,.int .i64 0,.int .i64 0,.str [],.raw (.slice none 0 0),.raw (.slice none 0 0)]),(6,.cells [.row 5 0 d.items.length,.int .i64 d.trailer.kind,.int .i64 d.trailer.num,.int .i64 d.trailer.gen,.str d.trailer.str,.sl (strsAV d.trailer.keys),.sl (objsAV d.trailer.kids)]),(5,.row 8 (itemsAV d.items) true)],7,gl,0,[]⟩) (.take 1 0 (.take 2 0 (.take 4 0 (.take 5 0 (.fork 0 (.fork 3 (.fork 6 (.fork 7 (.fork 8 .done .stop) .stop) (.fork 7 (.fork 6 (.fork 8 .done .stop) .stop) .stop)) (.fork 7 (.fork 3 (.fork 6 (.fork 8 .done .stop) .stop) .stop) .stop)) (.fork 7 (.fork 0 (.fork 3 (.fork 6 (.fork 8 .done .stop) .stop) .stop) .stop) .stop)))))) ?tree65 ?rest65
       case tree65 =>
        repeat' (first | exact True.intro | refine awTree.tk ?_ | refine awTree.fA ?_ ?_ | refine awTree.fB ?_ ?_ | refine awTree.fK ?_ ?_ | (refine awTree.dnV trivial (St.le.vw [0,1,2,3,4,8,9] (henv:=?e1) (hhp:=?h1)); (case e1=>((try dsimp only) <;> (try (simp only [go_sem,seval]; iterate 2 try (simp (disch:=omega) only [zq]; try simp only [go_sem,seval]))) <;> (and_intros <;> first | exact Less.refl _ | trivial | (refine Less.int ?_; omega) | (refine Less.row ?_; first | omega | (simp; done) | (simp; omega)) | (refine Less.of_eq ?_; simp; done)))); (case h1=>((try dsimp only) <;> (try (simp only [go_sem,seval]; iterate 2 try (simp (disch:=omega) only [zq]; try simp only [go_sem,seval]))) <;> (first | rfl | (and_intros <;> first | rfl | trivial))))) | (refine awTree.dnV trivial (St.le.vw [0,1,2,3,4,9,7] (henv:=?e2) (hhp:=?h2)); (case e2=>((try dsimp only) <;> (try (simp only [go_sem,seval]; iterate 2 try (simp (disch:=omega) only [zq]; try simp only [go_sem,seval]))) <;> (and_intros <;> first | exact Less.refl _ | trivial | (refine Less.int ?_; omega) | (refine Less.row ?_; first | omega | (simp; done) | (simp; omega)) | (refine Less.of_eq ?_; simp; done)))); (case h2=>((try dsimp only) <;> (try (simp only [go_sem,seval]; iterate 2 try (simp (disch:=omega) only [zq]; try simp only [go_sem,seval]))) <;> (first | rfl | (and_intros <;> first | rfl | trivial))))) | (refine awTree.dnV trivial (St.le.vw [0,1,2,3,4,9,8] (henv:=?e3) (hhp:=?h3)); (case e3=>((try dsimp only) <;> (try (simp only [go_sem,seval]; iterate 2 try (simp (disch:=omega) only [zq]; try simp only [go_sem,seval]))) <;> (and_intros <;> first | exact Less.refl _ | trivial | (refine Less.int ?_; omega) | (refine Less.row ?_; first | omega | (simp; done) | (simp; omega)) | (refine Less.of_eq ?_; simp; done)))); (case h3=>((try dsimp only) <;> (try (simp only [go_sem,seval]; iterate 2 try (simp (disch:=omega) only [zq]; try simp only [go_sem,seval]))) <;> (first | rfl | (and_intros <;> first | rfl | trivial))))))
       case rest65 =>
       refine AW.trim [4,5,6,7,12,14,16] ?_
       refine AW.seq ?_
       refine AW.rS ?_
       refine AW.trim [4,5,6,7,12,14,16,17] ?_
       refine AW.block ?_
       refine AW.lk (S:={ k : Nat // k ≤ (metO x.items o).length }) [4,5,6,7,12,14,16] (fun s_=>[(17,.int .i64 s_.1)]) (fun s_=>[(3,.cells [.raw (.slice none 0 0),.int .i64 0,.int .i64 0,.int .i64 0,.str [],.raw (.slice none 0 0),.raw (.slice none 0 0)]),(4,.cells [.int .i64 0,.int .i64 0,.int .i64 0,.str [],.raw (.slice none 0 0),.raw (.slice none 0 0)]),(6,.cells [.row 5 0 (d.items ++ ((metO x.items o).take s_.1).map (impI d x o)).length,.int .i64 d.trailer.kind,.int .i64 d.trailer.num,.int .i64 d.trailer.gen,.str d.trailer.str,.sl (strsAV d.trailer.keys),.sl (objsAV d.trailer.kids)]),(5,.row 8 (itemsAV (d.items ++ ((metO x.items o).take s_.1).map (impI d x o))) true)]) 7 (fun s_=>(metO x.items o).length - s_.1) ⟨0,Nat.zero_le _⟩ ?_ ?_
       ·refine St.le.vw [0,1,2,3,4,5,6]
       rintro ⟨k,hk2⟩
       try dsimp only at hk2
       refine AW.seq ?_
       refine AW.rS ?_
       refine AW.trim [4,5,6,7,12,14,16,17,88] ?_
       refine AW.c2 ?_ ?_
       ·intro h72
        have hk3 : k < (metO x.items o).length:=by omega
        have hmn : hasI x.items ((metO x.items o).getD k 0) = true:=has_mem.2 (metO_in _ (at_mem hk3))
        have hlc:=look_chk hx hxb hmn
        have hit : (d.items ++ ((metO x.items o).take (k + 1)).map (impI d x o)) = (d.items ++ ((metO x.items o).take k).map (impI d x o)) ++ [impI d x o ((metO x.items o).getD k 0)]:=by
         rw [List.take_succ_eq_append_getElem hk3,List.map_append,List.append_assoc]
         simp [List.getD,hk3]
        have hnw:=imp_new (d:=d) hk3
        have hin : (metO x.items o).getD k 0 ∈ metO x.items o:=at_mem hk3
        have hxx : impI d x o ((metO x.items o).getD k 0) = ⟨(impT d x o).getD k 0,0,((lookI x.items ((metO x.items o).getD k 0)).getD Itm.zero).obj.turn (turnF x.items (metO x.items o) (impT d x o))⟩:=by
         obtain ⟨i,hi⟩:=Option.isSome_iff_exists.1 hmn
         have hin2 : i.num = (metO x.items o).getD k 0:=((look_some (doc_incr hx)).1 hi).2
         unfold impI turnI
         rw [hi]
         simp only [Option.getD_some]
         rw [hin2,hnw,newG,if_pos hin,show (impT d x o).getD k 0 = lastN d.items + (k : Int) from upTo_get hk3]
        have hll : (d.items ++ ((metO x.items o).take k).map (impI d x o)).length = d.items.length + k:=by simp; omega
        refine AW.skip ?_
        refine AW.seq ?_
        refine AW.block ?_
        refine AW.tG (σf:=?sf76) (.take 0 0 (.take 1 0 (.take 2 0 (.fork 3 (.take 4 0 (.fork 5 (.take 6 0 (.take 7 0 (.take 8 0 (.fork 9 (.fork 10 (.take 11 0 .done) .stop) .stop)))) (.fork 9 (.fork 5 (.take 6 0 (.take 7 0 (.take 8 0 (.fork 10 (.take 11 0 .done) .stop)))) .stop) .stop))) (.fork 9 (.fork 3 (.take 4 0 (.fork 5 (.take 6 0 (.take 7 0 (.take 8 0 (.fork 10 (.take 11 0 .done) .stop)))) .stop)) .stop) .stop))))) ?tree76 ?rest76
        case tree76 =>
         repeat' (first | exact True.intro | refine awTree.tk ?_ | refine awTree.fC (c_foliantref19_Get _ x ((metO x.items o).getD k 0) hxb) ?_ ?_ | refine awTree.fA ?_ ?_ | refine awTree.fB ?_ ?_ | refine awTree.fK ?_ ?_ | exact awTree.dn)
        case rest76 =>
        refine AW.trim [4,5,6,7,12,14,16,17,18] ?_
        refine AW.cf 18 7 ?_
        refine AW.tGL (σf:=?sf77) (.take 0 0 (.take 2 0 (.take 3 0 (.take 6 0 (.take 7 0 (.take 8 0 (.take 9 0 (.take 10 0 (.fork 1 (.fork 4 (.take 5 0 (.fork 11 (.fork 12 (.fork 13 (.fork 14 (.take 15 0 (.fork 16 .done .stop)) .stop) .stop) .stop) .stop)) (.fork 11 (.fork 4 (.take 5 0 (.fork 12 (.fork 13 (.fork 14 (.take 15 0 (.fork 16 .done .stop)) .stop) .stop) .stop)) .stop) .stop)) (.fork 4 (.take 5 0 (.fork 1 (.fork 11 (.fork 12 (.fork 13 (.fork 14 (.take 15 0 (.fork 16 .done .stop)) .stop) .stop) .stop) .stop) (.fork 11 (.fork 1 (.fork 12 (.fork 13 (.fork 14 (.take 15 0 (.fork 16 .done .stop)) .stop) .stop) .stop) (.fork 12 (.fork 1 (.fork 13 (.fork 14 (.take 15 0 (.fork 16 .done .stop)) .stop) .stop) (.fork 13 (.take 1 2 (.fork 14 (.take 15 0 (.fork 16 .done .stop)) .stop)) .stop)) .stop)) .stop))) (.fork 11 (.fork 1 (.fork 4 (.take 5 0 (.fork 12 (.fork 13 (.fork 14 (.take 15 0 (.fork 16 .done .stop)) .stop) .stop) .stop)) .stop) (.fork 4 (.take 5 0 (.fork 1 (.fork 12 (.fork 13 (.fork 14 (.take 15 0 (.fork 16 .done .stop)) .stop) .stop) .stop) (.fork 12 (.fork 1 (.fork 13 (.fork 14 (.take 15 0 (.fork 16 .done .stop)) .stop) .stop) (.fork 13 (.take 1 2 (.fork 14 (.take 15 0 (.fork 16 .done .stop)) .stop)) .stop)) .stop))) .stop)) .stop))))))))))) ?tree77 ?rest77
        case tree77 =>
         repeat' (first | exact True.intro | refine awTree.tk ?_ | refine awTree.fC (c_foliantref30_turned _ x ((lookI x.items ((metO x.items o).getD k 0)).getD Itm.zero).obj (metO x.items o) (impT d x o) 1 hxb (by omega) (by omega) hlc.2 hlc.1) ?_ ?_ | refine awTree.fA ?_ ?_ | refine awTree.fB ?_ ?_ | refine awTree.fK ?_ ?_ | exact awTree.dn)
        case rest77 =>
        refine AW.rL ?_
        refine ⟨⟨k + 1,by omega⟩,?_,?_⟩
        ·refine St.le.vx [0,1,2,3,4,9,6] ?_
         rw [hit,hxx]; exact ⟨by simp; omega,congrArg (fun z=>ABlk.row 8 z true) (by simp only [itemsAV,List.map_append,List.map_cons,List.map_nil,Itm.cells])⟩
        ·simp only []; omega
       ·intro h72
        obtain rfl : k = (metO x.items o).length:=by omega
        rw [List.take_length]
        refine AW.exit ?_
        refine AW.tG (σf:=?sf81) (.take 1 0 (.take 2 0 (.take 3 0 (.take 4 0 (.fork 0 (.fork 5 (.fork 6 (.fork 7 (.take 8 0 .done) .stop) .stop) .stop) (.fork 5 (.take 0 2 (.fork 6 (.fork 7 (.take 8 0 .done) .stop) .stop)) .stop)))))) ?tree81 ?rest81
        case tree81 =>
         repeat' (first | exact True.intro | refine awTree.tk ?_ | refine awTree.fC (c_foliantref30_turned _ x o (metO x.items o) (impT d x o) 1 hxb (by omega) (by omega) hob ho) ?_ ?_ | refine awTree.fA ?_ ?_ | refine awTree.fB ?_ ?_ | refine awTree.fK ?_ ?_ | exact awTree.dn)
        case rest81 =>
        refine AW.trim [6,7,8] ?_
        refine AW.rt ?_
        rw [eD,eO,he]
        rfl
end Go.Proofs

namespace Go.Proofs
open Go Aw
set_option linter.unusedSimpArgs false
set_option linter.unusedVariables false
set_option maxRecDepth 100000
set_option maxHeartbeats 4000000
attribute [local go_sem] take_strsAV app1_strsAV take_intsAV drop_intsAV app_intsAV app1_intsAV take_itemsAV app_itemsAV app1_itemsAV
attribute [local go_sem] mres VI
attribute [local go_sem ↓ high] rids_cmapOf noTBm_net renHp_cons noTHm_cons
theorem c_slices_Index_int_int (gl : List (Nat × AV)) (l : List Int) (n : Int) (hk : l.length ≤ 16777216:=by first | omega | exact u8_le _ | assumption | (simp; done) | (simp; omega)) : FnP Tryz.prog (gl) 60 [.sl (intsAV l),.int .i64 n] fun r=>r = .ret (.int .i64 (nidxI l n)):=by
 refine FnP.intro Tryz.func60 rfl rfl (by simp [Tryz.ntmps60]) ?_
 simp only [argEnv,Tryz.ntmps60,Tryz.results60]
 refine AW.rS ?_
 refine AW.seq ?_
 refine AW.rS ?_
 refine AW.block ?_
 refine AW.lk (S:={ i : Nat // i ≤ l.length ∧ ∀ j,j < i → l.getD j 0 ≠ n }) [0,1,7] (fun s_=>[(8,.int .i64 s_.1)]) (fun s_=>[]) 0 (fun s_=>l.length - s_.1) ⟨0,Nat.zero_le _,fun j h=>absurd h (by omega)⟩ ?_ ?_
 ·refine St.le.vw []
 rintro ⟨i,hi,hs⟩
 try dsimp only at hi
 try dsimp only at hs
 refine AW.rS ?_
 refine AW.seq ?_
 refine AW.c2 ?_ ?_
 ·intro h8
  refine AW.skip ?_
  refine AW.seq ?_
  refine AW.block ?_
  refine AW.rS ?_
  refine AW.rS ?_
  refine AW.c2 ?_ ?_
  ·intro h14
   refine AW.rS ?_
   refine AW.rt ?_
   rw [nidx_hit h8 hs (by first | exact h14 | exact h14.symm)]
  ·intro h14
   refine AW.skip ?_
   refine AW.rL ?_
   refine ⟨⟨i + 1,by omega,fun j hj=>by rcases Nat.lt_succ_iff_lt_or_eq.1 hj with h | rfl; exact hs j h; exact fun e=>h14 e.symm⟩,?_,?_⟩
   ·refine St.le.vw []
   ·simp only []; omega
 ·intro h8
  refine AW.exit ?_
  refine AW.rS ?_
  refine AW.rt ?_
  rw [nidx_miss (fun j hj=>hs j (by omega))]
theorem c_Contains_int (gl : List (Nat × AV)) (l : List Int) (n : Int) (h : l.length ≤ 16777216:=by first | omega | exact u8_le _ | assumption | (simp; done) | (simp; omega)) : FnP Tryz.prog (gl) 31 [.sl (intsAV l),.int .i64 n] fun r=>r = .ret (.bool (decide (n ∈ l))):=by
 refine FnP.intro Tryz.func31 rfl rfl (by simp [Tryz.ntmps31]) ?_
 simp only [argEnv,Tryz.ntmps31,Tryz.results31]
 refine AW.rS ?_
 refine AW.rSC ?_
 refine awOps.cons (awGuard.c1 (c_slices_Index_int_int _ l n) ?_)
 refine awOps.rn ?_
 refine AW.rt ?_
 rcases nidxI_cases l n with ⟨i,hi,e,hn⟩ | ⟨e,hn⟩
 ·rw [e,decide_eq_true (show (0 : Int) ≤ (i : Int) by omega),decide_eq_true (hn ▸ at_mem hi)]
 ·rw [e,decide_eq_false hn]
  rfl
theorem map_raw (gl : List (Nat × AV)) (d : Dc) (fr to : List Int) (h : d.bulk ≤ 16777216) (hf : fr.length ≤ 16777216) (ht : to.length ≤ 16777216) : FnH Tryz.prog (gl) 10 [.agg d.cells,.sl (intsAV fr),.sl (intsAV to)] ([]) 0 (fun r h n=>r = .ret (.tup [.agg [.row 0 0 (mapD d fr to).items.length,.int .i64 (mapD d fr to).trailer.kind,.int .i64 (mapD d fr to).trailer.num,.int .i64 (mapD d fr to).trailer.gen,.str (mapD d fr to).trailer.str,.sl (strsAV (mapD d fr to).trailer.keys),.sl (objsAV (mapD d fr to).trailer.kids)],.int .i64 (mapE d fr to)]) ∧ h = [(0,.row 8 (itemsAV (mapD d fr to).items) true),(1,.cells [.row 0 0 (mapD d fr to).items.length,.int .i64 (mapD d fr to).trailer.kind,.int .i64 (mapD d fr to).trailer.num,.int .i64 (mapD d fr to).trailer.gen,.str (mapD d fr to).trailer.str,.sl (strsAV (mapD d fr to).trailer.keys),.sl (objsAV (mapD d fr to).trailer.kids)])] ∧ n = 2):=by
 refine FnH.intro Tryz.func10 rfl rfl (by simp [Tryz.ntmps10]) ?_
 simp only [argEnv,Tryz.ntmps10,Tryz.results10]
 have hdb : d.bulk = ibulk d.items + d.trailer.bulk:=rfl
 have hil:=ibulk_len d.items
 refine AW.rS ?_
 refine AW.trim [1,2,3,6] ?_
 refine AW.seq ?_
 refine AW.rSC ?_
 refine awOps.cons (awGuard.c1 (c_docs_Check _ d h) ?_)
 refine awOps.rn ?_
 refine AW.trim [1,2,3,6,8] ?_
 refine AW.rS ?_
 refine AW.trim [1,2,3,6,8,23] ?_
 refine AW.c2 ?_ ?_
 ·intro h7
  have he : mapE d fr to = docE d:=by unfold mapE; rw [if_pos h7]
  refine AW.rS ?_
  refine AW.trim [6,7] ?_
  refine AW.pre (St.le.nilcell 1 0 8 (by (simp only [go_sem,seval]; iterate 2 try (simp (disch:=omega) only [zq]; try simp only [go_sem,seval])); exact rfl) (by exact rfl)) ?_
  refine wk ?_
  refine AW.nilc 1 5 ?_
  refine AW.nilc 1 6 ?_
  rw [mapD_bad (by rw [he] <;> first | exact h7 | decide),he]
  refine AW.vw [2,1] [(6,.ptr 1 0),(7,.int .i64 (docE d))] [(0,.row 8 [] true),(1,.cells [.row 0 0 0,.int .i64 0,.int .i64 0,.int .i64 0,.str [],.sl [],.sl []])] ?_
  refine AW.rt ?_
  first | trivial | exact ⟨rfl,rfl,rfl⟩
 ·intro h7
  have hd : docE d = 0:=by simpa using h7
  refine AW.skip ?_
  refine AW.seq ?_
  refine AW.rSC ?_
  refine awOps.cons (awGuard.cG (fun hg=>c_shift_bad _ fr hf) ?_)
  refine awOps.rn ?_
  refine awOps.cons (awGuard.cG (fun hg=>c_shift_bad _ to ht) ?_)
  refine awOps.rn ?_
  refine AW.trim [1,2,3,6,38] ?_
  refine AW.c2 ?_ ?_
  ·intro h18
   have he : mapE d fr to = 1:=by
    unfold mapE
    rw [if_neg (by rw [hd]; decide),if_pos (by rcases h18 with (h | h) | h <;> first | exact .inr (.inl h) | exact .inr (.inr h) | (left; omega))]
   refine AW.rS ?_
   refine AW.trim [6,7] ?_
   refine AW.pre (St.le.nilcell 1 0 8 (by (simp only [go_sem,seval]; iterate 2 try (simp (disch:=omega) only [zq]; try simp only [go_sem,seval])); exact rfl) (by exact rfl)) ?_
   refine wk ?_
   refine AW.nilc 1 5 ?_
   refine AW.nilc 1 6 ?_
   rw [mapD_bad (by rw [he] <;> first | exact h7 | decide),he]
   refine AW.vw [2,1] [(6,.ptr 1 0),(7,.int .i64 1)] [(0,.row 8 [] true),(1,.cells [.row 0 0 0,.int .i64 0,.int .i64 0,.int .i64 0,.str [],.sl [],.sl []])] ?_
   refine AW.rt ?_
   first | trivial | exact ⟨rfl,rfl,rfl⟩
  ·intro h18
   have hl : fr.length = to.length:=by omega
   refine AW.skip ?_
   refine AW.rSC ?_
   refine awOps.cons ?_
   refine awGuard.mkM0 VI (keyOk_int .i64) ?_
   refine awOps.rn ?_
   refine AW.trim [1,2,3,6,9] ?_
   refine AW.seq ?_
   refine AW.rS ?_
   refine AW.trim [1,2,3,6,9,42,43,44] ?_
   refine AW.block ?_
   refine AW.lk (S:={ k : Nat // k ≤ d.items.length }) [1,2,3,6,9,42,43] (fun s_=>[(44,.int .i64 s_.1)]) (fun s_=>[(0,.cells d.cells),(1,.cells [.raw (.slice none 0 0),.int .i64 0,.int .i64 0,.int .i64 0,.str [],.raw (.slice none 0 0),.raw (.slice none 0 0)]),(2,mapOf KI VI (mapA (d.items.take s_.1)))]) 3 (fun s_=>d.items.length - s_.1) ⟨0,Nat.zero_le _⟩ ?_ ?_
   ·refine St.le.vw [0,1,2]
   rintro ⟨k,hk⟩
   try dsimp only at hk
   refine AW.rS ?_
   refine AW.trim [1,2,3,6,9,42,43,44,45] ?_
   refine AW.seq ?_
   refine AW.c2 ?_ ?_
   ·intro h32
    have hk2 : k < d.items.length:=by omega
    have hat:=mapA_take hk2
    refine AW.skip ?_
    refine AW.seq ?_
    refine AW.block ?_
    refine AW.rS ?_
    refine AW.trim [1,2,3,6,9,11,42,43,44] ?_
    refine AW.rLC ?_
    refine awOps.cons ?_
    refine awGuard.upM (V:=VI) (keyOk_int .i64) (⟨(d.items.getD k Itm.zero).num,(d.items.getD k Itm.zero).gen,Pob.null⟩ : Itm) ?_
    refine awOps.rn ?_
    refine AW.rL ?_
    refine ⟨⟨k + 1,by omega⟩,?_,?_⟩
    ·refine St.le.vx [0,1,2] ?_
     rw [hat]
    ·simp only []; omega
   ·intro h32
    obtain rfl : k = d.items.length:=by omega
    rw [List.take_length]
    refine AW.exit ?_
    refine AW.seq ?_
    refine AW.rS ?_
    refine AW.trim [1,2,3,6,9,57,58,59] ?_
    refine AW.block ?_
    refine AW.lk (S:={ k : Nat // k ≤ fr.length ∧ ∀ j,j < k → hasI d.items (fr.getD j 0) = true }) [1,2,3,6,9,57,58] (fun s_=>[(59,.int .i64 s_.1)]) (fun s_=>[(0,.cells d.cells),(1,.cells [.raw (.slice none 0 0),.int .i64 0,.int .i64 0,.int .i64 0,.str [],.raw (.slice none 0 0),.raw (.slice none 0 0)]),(2,mapOf KI VI (mapB (mapA d.items) fr to s_.1))]) 3 (fun s_=>fr.length - s_.1) ⟨0,Nat.zero_le _,fun j h=>absurd h (Nat.not_lt_zero j)⟩ ?_ ?_
    ·refine St.le.vw [0,1,2]
    rintro ⟨k,hk,hs⟩
    try dsimp only at hk
    try dsimp only at hs
    refine AW.rS ?_
    refine AW.trim [1,2,3,6,9,57,58,59,60] ?_
    refine AW.seq ?_
    refine AW.c2 ?_ ?_
    ·intro h49
     have hk2 : k < fr.length:=by omega
     have hms:=mapB_some (M:=mapA d.items) (to:=to) (n:=fr.getD k 0) k hk (fun j hj=>by rw [mapA_has (doc_nums hd)]; exact hs j hj)
     rw [mapA_has (doc_nums hd)] at hms
     refine AW.skip ?_
     refine AW.seq ?_
     refine AW.block ?_
     refine AW.rS ?_
     refine AW.trim [1,2,3,6,9,12,13,57,58,59] ?_
     refine AW.seq ?_
     refine AW.rSC ?_
     refine awOps.cons ?_
     refine awGuard.lkM (keyOk_int .i64) Itm.zero zero_itm rfl ?_
     refine awOps.rn ?_
     refine AW.trim [1,2,3,6,9,12,13,15,57,58,59] ?_
     refine AW.rS ?_
     refine AW.trim [1,2,3,6,9,12,13,57,58,59,71] ?_
     refine AW.c2 ?_ ?_
     ·intro h59
      have he : mapE d fr to = 8:=by
       unfold mapE
       rw [if_neg (by rw [hd]; decide),if_neg (by rintro (h | h | h) <;> first | exact h18.1.2 h | exact h18.2 h | exact h hl),if_pos (fun h=>by have:=h _ (at_mem hk2); rw [← hms,h59] at this; cases this)]
      refine AW.rS ?_
      refine AW.trim [6,7] ?_
      refine AW.pre (St.le.nilcell 1 0 8 (by (simp only [go_sem,seval]; iterate 2 try (simp (disch:=omega) only [zq]; try simp only [go_sem,seval])); exact rfl) (by exact rfl)) ?_
      refine wk ?_
      refine AW.nilc 1 5 ?_
      refine AW.nilc 1 6 ?_
      rw [mapD_bad (by rw [he] <;> first | exact h7 | decide),he]
      refine AW.vw [4,1] [(6,.ptr 1 0),(7,.int .i64 8)] [(0,.row 8 [] true),(1,.cells [.row 0 0 0,.int .i64 0,.int .i64 0,.int .i64 0,.str [],.sl [],.sl []])] ?_
      refine AW.rt ?_
      first | trivial | exact ⟨rfl,rfl,rfl⟩
     ·intro h59
      have hh : hasI d.items (fr.getD k 0) = true:=by rw [← hms]; exact h59
      refine AW.skip ?_
      refine AW.rLC ?_
      refine awOps.cons ?_
      refine awGuard.upM (V:=VI) (keyOk_int .i64) (⟨to.getD k 0,0,Pob.null⟩ : Itm) ?_
      refine awOps.rn ?_
      refine AW.rL ?_
      refine ⟨⟨k + 1,by omega,fun j hj=>(Nat.lt_or_ge j k).elim (hs j) (fun hge=>by rw [show j = k by omega]; exact hh)⟩,?_,?_⟩
      ·refine St.le.vx [0,1,2] ?_
       rw [mapB_succ]
      ·simp only []; omega
    ·intro h49
     obtain rfl : k = fr.length:=by omega
     refine AW.exit ?_
     refine AW.seq ?_
     refine AW.rS ?_
     refine AW.trim [1,3,6,9,81,82,83] ?_
     refine AW.block ?_
     refine AW.lk (S:={ k : Nat // k ≤ to.length ∧ ∀ j,j < k → hasI d.items (to.getD j 0) = true → to.getD j 0 ∈ fr }) [1,3,6,9,81,82] (fun s_=>[(83,.int .i64 s_.1)]) (fun s_=>[(0,.cells d.cells),(1,.cells [.raw (.slice none 0 0),.int .i64 0,.int .i64 0,.int .i64 0,.str [],.raw (.slice none 0 0),.raw (.slice none 0 0)]),(2,mapOf KI VI (mapB (mapA d.items) fr to fr.length))]) 3 (fun s_=>to.length - s_.1) ⟨0,Nat.zero_le _,fun j h=>absurd h (Nat.not_lt_zero j)⟩ ?_ ?_
     ·refine St.le.vw [0,1,2]
     rintro ⟨k,hk,hs2⟩
     try dsimp only at hk
     try dsimp only at hs2
     refine AW.rS ?_
     refine AW.trim [1,3,6,9,81,82,83,84] ?_
     refine AW.seq ?_
     refine AW.c2 ?_ ?_
     ·intro h76
      have hk2 : k < to.length:=by omega
      refine AW.skip ?_
      refine AW.seq ?_
      refine AW.block ?_
      refine AW.rS ?_
      refine AW.trim [1,3,6,9,17,81,82,83] ?_
      refine AW.rSC ?_
      refine awOps.cons (awGuard.c1 (c_docs_Get _ d (to.getD k 0) h) ?_)
      refine awOps.rn ?_
      refine AW.trim [1,3,6,9,17,19,81,82,83] ?_
      refine AW.rSC ?_
      refine awOps.cons (awGuard.cG (fun hg=>c_Contains_int _ fr (to.getD k 0) hf) ?_)
      refine awOps.rn ?_
      refine AW.trim [1,3,6,9,81,82,83,99] ?_
      refine AW.c2 ?_ ?_
      ·intro h87
       have he : mapE d fr to = 9:=by
        unfold mapE
        rw [if_neg (by rw [hd]; decide),if_neg (by rintro (h | h | h) <;> first | exact h18.1.2 h | exact h18.2 h | exact h hl),if_neg (fun h=>h fun n hn=>by obtain ⟨j,hj,rfl⟩:=mem_at hn; exact hs j hj),if_pos (fun h=>h87.2 (h _ (at_mem hk2) h87.1))]
       refine AW.rS ?_
       refine AW.trim [6,7] ?_
       refine AW.pre (St.le.nilcell 1 0 8 (by (simp only [go_sem,seval]; iterate 2 try (simp (disch:=omega) only [zq]; try simp only [go_sem,seval])); exact rfl) (by exact rfl)) ?_
       refine wk ?_
       refine AW.nilc 1 5 ?_
       refine AW.nilc 1 6 ?_
       rw [mapD_bad (by rw [he] <;> first | exact h7 | decide),he]
       refine AW.vw [4,1] [(6,.ptr 1 0),(7,.int .i64 9)] [(0,.row 8 [] true),(1,.cells [.row 0 0 0,.int .i64 0,.int .i64 0,.int .i64 0,.str [],.sl [],.sl []])] ?_
       refine AW.rt ?_
       first | trivial | exact ⟨rfl,rfl,rfl⟩
      ·intro h87
       refine AW.skip ?_
       refine AW.rL ?_
       refine ⟨⟨k + 1,by omega,fun j hj=>(Nat.lt_or_ge j k).elim (hs2 j) (fun hge hh=>by rw [show j = k by omega] at hh ⊢; exact h87.elim (fun h=>by have hx : (lookI d.items (to.getD k 0)).isSome = true:=hh; rw [h] at hx; cases hx) (fun h=>h))⟩,?_,?_⟩
       ·refine St.le.vw [0,1,2]
       ·simp only []; omega
     ·intro h76
      obtain rfl : k = to.length:=by omega
      have F : ShMap d fr to:=mapE_facts (by
       unfold mapE
       rw [if_neg (by rw [hd]; decide),if_neg (by rintro (h | h | h) <;> first | exact h18.1.2 h | exact h18.2 h | exact h hl),if_neg (fun h=>h fun n hn=>by obtain ⟨j,hj,rfl⟩:=mem_at hn; exact hs j hj),if_neg (fun h=>h fun n hn=>by obtain ⟨j,hj,rfl⟩:=mem_at hn; exact hs2 j hj)])
      have hend:=map_end F
      have hnl : (numsI d).length = d.items.length:=nums_len d
      have hrg : ∀ n,0 ≤ (foundI (mapB (mapA d.items) fr to fr.length) n).num ∧ (foundI (mapB (mapA d.items) fr to fr.length) n).num ≤ 16777216:=fun n=>found_range hd F.to2 hl n fr.length (Nat.le_refl _)
      have hmn:=map_nodup F
      have hin : ∀ n ∈ numsI d,hasI d.items n = true:=fun n hn=>nums_has.1 hn
      have hsl : (sortN ((numsI d).map (turnMI d.items (mapB (mapA d.items) fr to fr.length)))).length = (numsI d).length:=by rw [sortN_len,List.length_map]
      generalize hMM : (mapB (mapA d.items) fr to fr.length) = M at *
      refine AW.trim [3,6,9] ?_
      refine AW.cf 3 0 ?_
      refine AW.exit ?_
      refine AW.dSC [(0,0),(1,0),(2,0),(5,0),(6,0),(7,0),(8,0),(3,2),(4,2),(9,2),(10,2),(11,2),(12,0)] ?_
      refine awPlan.only rfl ?_
      refine awGuard.c1 (c_shift_all _ d h) ?_
      refine awPlan.rn ?_
      refine awPlan.only rfl ?_
      refine awGuard.cHm [2] (h_shift_items _ d (numsI d) M h hd hrg hin hmn (by omega)) ?_
      refine awPlan.rn ?_
      refine awPlan.only rfl ?_
      refine awGuard.c1 (c_shift_other _ d d.trailer M 1 h hrg (by have:=ibulk_len d.items; omega) (doc_top hd)) ?_
      refine awPlan.rn ?_
      refine AW.trim [6,7] ?_
      refine AW.vw [3,1] [(6,.ptr 1 0),(7,.int .i64 0)] [(0,.row 8 (itemsAV (sortN ((numsI d).map (turnMI d.items M)))) true),(1,.cells [.row 0 0 (numsI d).length,.int .i64 (d.trailer.turn (turnM d.items M)).kind,.int .i64 (d.trailer.turn (turnM d.items M)).num,.int .i64 (d.trailer.turn (turnM d.items M)).gen,.str (d.trailer.turn (turnM d.items M)).str,.sl (strsAV (d.trailer.turn (turnM d.items M)).keys),.sl (objsAV (d.trailer.turn (turnM d.items M)).kids)])] ?_
      refine AW.rt ?_
      rw [hend.1,hend.2.1,hend.2.2,hsl]
      first | rfl | exact ⟨rfl,rfl⟩ | exact ⟨rfl,rfl,rfl⟩
end Go.Proofs

namespace Go.Proofs
open Go Aw
set_option linter.unusedSimpArgs false
set_option linter.unusedVariables false
set_option maxRecDepth 100000
set_option maxHeartbeats 4000000
attribute [local go_sem] take_strsAV app1_strsAV take_intsAV drop_intsAV app_intsAV app1_intsAV take_itemsAV app_itemsAV app1_itemsAV
attribute [local go_sem ↓ high] renHp_cons noTHm_cons
theorem h_shift_Map (gl : List (Nat × AV)) (d : Dc) (fr to : List Int) (h : d.bulk ≤ 16777216) (hf : fr.length ≤ 16777216) (ht : to.length ≤ 16777216) :
  FnH Tryz.prog gl 10 [.agg d.cells,.sl (intsAV fr),.sl (intsAV to)] [] 0 fun r h n=>r = .ret (.tup [.agg [.row 0 0 (mapD d fr to).items.length,.int .i64 (mapD d fr to).trailer.kind,.int .i64 (mapD d fr to).trailer.num,.int .i64 (mapD d fr to).trailer.gen,.str (mapD d fr to).trailer.str,.sl (strsAV (mapD d fr to).trailer.keys),.sl (objsAV (mapD d fr to).trailer.kids)],.int .i64 (mapE d fr to)]) ∧ h = [(0,.row 8 (itemsAV (mapD d fr to).items) true)] ∧ n = 1 :=
 FnH.cut (map_raw gl d fr to h hf ht) [0] (by decide) (by simp only [go_sem,seval]) (by simp only [go_sem,seval]; try rfl)
theorem c_shift_Map (gl : List (Nat × AV)) (d : Dc) (fr to : List Int) (h : d.bulk ≤ 16777216) (hf : fr.length ≤ 16777216) (ht : to.length ≤ 16777216) :
  FnP Tryz.prog gl 10 [.agg d.cells,.sl (intsAV fr),.sl (intsAV to)] fun r=>r = .ret (.tup [.agg (mapD d fr to).cells,.int .i64 (mapE d fr to)]) :=
 FnP.ofH (h_shift_Map gl d fr to h hf ht) (by simp only [go_sem,seval]; exact rfl) (by simp only [go_sem,seval])
theorem compact_raw (gl : List (Nat × AV)) (d : Dc) (h : d.bulk ≤ 16777216) : FnH Tryz.prog (gl) 13 [.agg d.cells] ([]) 0 (fun r h n=>r = .ret (.agg [.row 0 0 (compD d).items.length,.int .i64 (compD d).trailer.kind,.int .i64 (compD d).trailer.num,.int .i64 (compD d).trailer.gen,.str (compD d).trailer.str,.sl (strsAV (compD d).trailer.keys),.sl (objsAV (compD d).trailer.kids)]) ∧ h = [(0,.row 8 (itemsAV (compD d).items) true),(1,.cells [.row 0 0 (compD d).items.length,.int .i64 (compD d).trailer.kind,.int .i64 (compD d).trailer.num,.int .i64 (compD d).trailer.gen,.str (compD d).trailer.str,.sl (strsAV (compD d).trailer.keys),.sl (objsAV (compD d).trailer.kids)])] ∧ n = 2):=by
 refine FnH.intro Tryz.func13 rfl rfl (by simp [Tryz.ntmps13]) ?_
 simp only [argEnv,Tryz.ntmps13,Tryz.results13]
 have hdb : d.bulk = ibulk d.items + d.trailer.bulk:=rfl
 have hil:=ibulk_len d.items
 refine AW.rS ?_
 refine AW.trim [1,2] ?_
 refine AW.seq ?_
 refine AW.rSC ?_
 refine awOps.cons (awGuard.c1 (c_docs_Check _ d h) ?_)
 refine awOps.rn ?_
 refine AW.trim [1,2,12] ?_
 refine AW.c2 ?_ ?_
 ·intro h6
  have hcb : compD d = Dc.zero:=compD_bad h6
  refine AW.rS ?_
  refine AW.trim [2] ?_
  refine AW.pre (St.le.nilcell 1 0 8 (by (simp only [go_sem,seval]; iterate 2 try (simp (disch:=omega) only [zq]; try simp only [go_sem,seval])); exact rfl) (by exact rfl)) ?_
  refine wk ?_
  refine AW.nilc 1 5 ?_
  refine AW.nilc 1 6 ?_
  rw [hcb]
  refine AW.vw [2,1] [(2,.ptr 1 0)] [(0,.row 8 [] true),(1,.cells [.row 0 0 0,.int .i64 0,.int .i64 0,.int .i64 0,.str [],.sl [],.sl []])] ?_
  refine AW.rt ?_
  first | trivial | exact ⟨rfl,rfl,rfl⟩
 ·intro h6
  have hd : docE d = 0:=by simpa using h6
  refine AW.skip ?_
  refine AW.rSC ?_
  refine awOps.cons (awGuard.cH [] (h_shift_from _ d d.trailer 1 h hd (doc_top hd) (by omega)) ?_)
  refine awOps.rn ?_
  refine AW.trim [1,2,3] ?_
  refine AW.seq ?_
  refine AW.rSC ?_
  refine awOps.cons (awGuard.c1 (c_shift_all _ d h) ?_)
  refine awOps.rn ?_
  refine AW.trim [1,2,3,19,20,21] ?_
  refine AW.block ?_
  refine AW.fz [2] ?_
  rw [← compL_zero d]
  refine AW.lk (S:={ k : Nat // k ≤ d.items.length }) [1,2,19,20] (fun s_=>[(3,.row 2 0 (compL d s_.1).length),(21,.int .i64 s_.1)]) (fun s_=>[(0,.cells d.cells),(1,.cells [.raw (.slice none 0 0),.int .i64 0,.int .i64 0,.int .i64 0,.str [],.raw (.slice none 0 0),.raw (.slice none 0 0)]),(2,.row 1 (intsAV (compL d s_.1)) false)]) 3 (fun s_=>d.items.length - s_.1) ⟨0,Nat.zero_le _⟩ ?_ ?_
  ·refine St.le.vw [0,1,2]
  rintro ⟨k,hk⟩
  try dsimp only at hk
  have hnl : (numsI d).length = d.items.length:=nums_len d
  refine AW.rS ?_
  refine AW.trim [1,2,3,19,20,21,22] ?_
  refine AW.seq ?_
  refine AW.c2 ?_ ?_
  ·intro h22
   have hk2 : k < d.items.length:=by omega
   have hsu:=compL_succ hd hk2
   have hcl:=compL_len hd k
   have hng : (numsI d).getD k 0 = (d.items.getD k Itm.zero).num:=by rw [show numsI d = d.items.map (·.num) from rfl]; simp [List.getD,hk2]
   refine AW.skip ?_
   refine AW.seq ?_
   refine AW.block ?_
   refine AW.rS ?_
   refine AW.trim [1,2,3,5,19,20,21] ?_
   refine AW.rSC ?_
   refine awOps.cons (awGuard.c1 (c_Contains_int _ (compL d k) ((numsI d).getD k 0) (by omega)) ?_)
   refine awOps.rn ?_
   refine AW.trim [1,2,3,5,19,20,21,28] ?_
   refine AW.c2 ?_ ?_
   ·intro h30
    rw [if_neg (by rw [← hng]; simpa using h30)] at hsu
    have hcl2 : (compL d (k + 1)).length = (compL d k).length + 1:=by rw [hsu]; simp
    refine AW.rL ?_
    refine AW.fz [4] ?_
    refine AW.rL ?_
    refine ⟨⟨k + 1,by omega⟩,?_,?_⟩
    ·refine St.le.vx [0,1,4] ?_
     rw [hsu,hng]
    ·simp only []; omega
   ·intro h30
    rw [if_pos (by rw [← hng]; simpa using h30)] at hsu
    have hcl2 : (compL d (k + 1)).length = (compL d k).length:=by rw [hsu]
    refine AW.skip ?_
    refine AW.rL ?_
    refine ⟨⟨k + 1,by omega⟩,?_,?_⟩
    ·refine St.le.vx [0,1,2] ?_
     rw [hsu]
    ·simp only []; omega
  ·intro h22
   obtain rfl : k = d.items.length:=by omega
   rw [compL_all (Nat.le_refl _)]
   have hcl:=compF_len hd
   refine AW.exit ?_
   refine AW.rS ?_
   refine AW.trim [1,2,3,6] ?_
   refine AW.seq ?_
   refine AW.rS ?_
   refine AW.trim [1,2,3,6,35,36] ?_
   refine AW.block ?_
   refine AW.pre (St.le.nilrow 6 1 (by (simp only [go_sem,seval]; iterate 2 try (simp (disch:=omega) only [zq]; try simp only [go_sem,seval])))) ?_
   refine wk ?_
   refine AW.lk (S:={ k : Nat // k ≤ (compF d).length }) [1,2,3,35] (fun s_=>[(6,.row 3 0 (upTo 1 s_.1).length),(36,.int .i64 s_.1)]) (fun s_=>[(0,.cells d.cells),(1,.cells [.raw (.slice none 0 0),.int .i64 0,.int .i64 0,.int .i64 0,.str [],.raw (.slice none 0 0),.raw (.slice none 0 0)]),(2,.row 1 (intsAV (compF d)) false),(3,.row 1 (intsAV (upTo 1 s_.1)) true)]) 4 (fun s_=>(compF d).length - s_.1) ⟨0,Nat.zero_le _⟩ ?_ ?_
   ·refine St.le.vw [0,1,2,3]
   rintro ⟨k,hk2⟩
   try dsimp only at hk2
   have hul:=upTo_len 1 k
   have hul2:=upTo_len 1 (k + 1)
   refine AW.rS ?_
   refine AW.trim [1,2,3,6,35,36,37] ?_
   refine AW.seq ?_
   refine AW.c2 ?_ ?_
   ·intro h45
    refine AW.skip ?_
    refine AW.seq ?_
    refine AW.block ?_
    refine AW.rS ?_
    refine AW.trim [1,2,3,6,7,35,36] ?_
    refine AW.rL ?_
    refine AW.rL ?_
    refine ⟨⟨k + 1,by omega⟩,?_,?_⟩
    ·refine St.le.vx [0,1,2,5] ?_
     rw [upTo_succ,Int.add_comm 1]
    ·simp only []; omega
   ·intro h45
    obtain rfl : k = (compF d).length:=by omega
    have hcd : compD d = mapD d (compF d) (upTo 1 (compF d).length):=if_neg (fun hh=>hh hd)
    rw [hcd]
    refine AW.exit ?_
    refine AW.fz [3] ?_
    refine AW.rSC ?_
    refine awOps.cons (awGuard.cH [] (h_shift_Map _ d (compF d) (upTo 1 (compF d).length) h (by omega) (by omega)) ?_)
    refine awOps.rn ?_
    refine AW.trim [2,8] ?_
    refine AW.rS ?_
    refine AW.trim [2] ?_
    refine AW.vw [4,1] [(2,.ptr 1 0)] [(0,.row 8 (itemsAV (mapD d (compF d) (upTo 1 (compF d).length)).items) true),(1,.cells [.row 0 0 (mapD d (compF d) (upTo 1 (compF d).length)).items.length,.int .i64 (mapD d (compF d) (upTo 1 (compF d).length)).trailer.kind,.int .i64 (mapD d (compF d) (upTo 1 (compF d).length)).trailer.num,.int .i64 (mapD d (compF d) (upTo 1 (compF d).length)).trailer.gen,.str (mapD d (compF d) (upTo 1 (compF d).length)).trailer.str,.sl (strsAV (mapD d (compF d) (upTo 1 (compF d).length)).trailer.keys),.sl (objsAV (mapD d (compF d) (upTo 1 (compF d).length)).trailer.kids)])] ?_
    refine AW.rt ?_
    trivial
theorem h_shift_Compact (gl : List (Nat × AV)) (d : Dc) (h : d.bulk ≤ 16777216) :
  FnH Tryz.prog gl 13 [.agg d.cells] [] 0 fun r h n=>r = .ret (.agg [.row 0 0 (compD d).items.length,.int .i64 (compD d).trailer.kind,.int .i64 (compD d).trailer.num,.int .i64 (compD d).trailer.gen,.str (compD d).trailer.str,.sl (strsAV (compD d).trailer.keys),.sl (objsAV (compD d).trailer.kids)]) ∧ h = [(0,.row 8 (itemsAV (compD d).items) true)] ∧ n = 1 :=
 FnH.cut (compact_raw gl d h) [0] (by decide) (by simp only [go_sem,seval]) (by simp only [go_sem,seval]; try rfl)
theorem c_shift_Compact (gl : List (Nat × AV)) (d : Dc) (h : d.bulk ≤ 16777216) : FnP Tryz.prog gl 13 [.agg d.cells] fun r=>r = .ret (.agg (compD d).cells) :=
 FnP.ofH (h_shift_Compact gl d h) (by simp only [go_sem,seval]; exact rfl) (by simp only [go_sem,seval])
end Go.Proofs

namespace Go.Proofs
open Go Aw
theorem noTL_dcells (z : Dc) : noTL z.cells = true:=by cases z; rfl
end Go.Proofs

namespace Go.Proofs
open Go Aw
set_option linter.unusedSimpArgs false
set_option linter.unusedVariables false
set_option maxRecDepth 100000
set_option maxHeartbeats 4000000
attribute [local go_sem ↓ high] noTBm_net
end Go.Proofs

namespace Go.Proofs
open Go Aw
set_option linter.unusedSimpArgs false
set_option linter.unusedVariables false
set_option maxRecDepth 100000
set_option maxHeartbeats 4000000
attribute [local go_sem ↓ high] noTBm_net
end Go.Proofs

namespace Go.Proofs
open Go Aw
set_option linter.unusedSimpArgs false
set_option linter.unusedVariables false
set_option maxRecDepth 100000
set_option maxHeartbeats 4000000
attribute [local go_sem ↓ high] noTBm_net
theorem wr_step (gl : List (Nat × AV)) (l : List Itm) (o0 : Pob) (stp : (List Int × List Pob) → Pob → (List Int × List Pob) × Bool) (c0 : Code) (I : (List Int × List Pob) → Prop) (hI : ∀ s o,I s → I (stp s o).1) (lq : Nat) (rc : Option Code → Loop) {Ω : Mem → Prop} [LastsU Ω]
  (hY : ∀ s o,I s → RoundU Ω Tryz.prog gl lq [.agg (Pob.cells o)] ([(0,.cells [.map 1]),(1,mapOf KI VI (netL l)),(2,.cells [.map 3]),(3,setOf (fun n=>AV.int .i64 n) (s).1),(4,.cells [.row 7 0 (s).2.length]),(5,.cells (Pob.cells o0)),(7,.row 6 (objsAV (s).2) true),(6,.lp lq (rc none))]) 8 7 fun r h n=>r = .ret (.bool (!(stp s o).2)) ∧ h = [(0,.cells [.map 1]),(1,mapOf KI VI (netL l)),(2,.cells [.map 3]),(3,setOf (fun n=>AV.int .i64 n) ((stp s o).1).1),(4,.cells [.row 7 0 ((stp s o).1).2.length]),(5,.cells (Pob.cells o0)),(7,.row 6 (objsAV ((stp s o).1).2) true),(6,.lp lq (rc (if (stp s o).2 then some c0 else none)))] ∧ n = 8)
  (N : Nat) (hN : N ≤ 16777216) (ih : ∀ s (o' : Pob),I s → o'.bulk < N → FnU Ω Tryz.prog gl 144 [.agg (Pob.cells o'),.raw (.func (.yield lq) #[] #[])] ([(0,.cells [.map 1]),(1,mapOf KI VI (netL l)),(2,.cells [.map 3]),(3,setOf (fun n=>AV.int .i64 n) (s).1),(4,.cells [.row 7 0 (s).2.length]),(5,.cells (Pob.cells o0)),(7,.row 6 (objsAV (s).2) true),(6,.lp lq (rc none))]) 8 7 (fun r h n=>r = .ret (.bool (!(walkR stp s (Pob.pre o')).2)) ∧ h = [(0,.cells [.map 1]),(1,mapOf KI VI (netL l)),(2,.cells [.map 3]),(3,setOf (fun n=>AV.int .i64 n) ((walkR stp s (Pob.pre o')).1).1),(4,.cells [.row 7 0 ((walkR stp s (Pob.pre o')).1).2.length]),(5,.cells (Pob.cells o0)),(7,.row 6 (objsAV ((walkR stp s (Pob.pre o')).1).2) true),(6,.lp lq (rc (if (walkR stp s (Pob.pre o')).2 then some c0 else none)))] ∧ n = 8))
  (s : (List Int × List Pob)) (hs : I s) (o : Pob) (hl : o.kids.length ≤ 16777216) (hb : ∀ i,i < o.kids.length → (o.kids.getD i Pob.null).bulk < N) :
  FnU Ω Tryz.prog gl 144 [.agg (Pob.cells o),.raw (.func (.yield lq) #[] #[])] ([(0,.cells [.map 1]),(1,mapOf KI VI (netL l)),(2,.cells [.map 3]),(3,setOf (fun n=>AV.int .i64 n) (s).1),(4,.cells [.row 7 0 (s).2.length]),(5,.cells (Pob.cells o0)),(7,.row 6 (objsAV (s).2) true),(6,.lp lq (rc none))]) 8 7 (fun r h n=>r = .ret (.bool (!(walkR stp s (Pob.pre o)).2)) ∧ h = [(0,.cells [.map 1]),(1,mapOf KI VI (netL l)),(2,.cells [.map 3]),(3,setOf (fun n=>AV.int .i64 n) ((walkR stp s (Pob.pre o)).1).1),(4,.cells [.row 7 0 ((walkR stp s (Pob.pre o)).1).2.length]),(5,.cells (Pob.cells o0)),(7,.row 6 (objsAV ((walkR stp s (Pob.pre o)).1).2) true),(6,.lp lq (rc (if (walkR stp s (Pob.pre o)).2 then some c0 else none)))] ∧ n = 8):=by
 have hpre:=Pob.pre_eq o
 refine FnU.intro Tryz.func144 rfl rfl (by simp [Tryz.ntmps144]) ?_ ?_
 ·rintro q hp' nx' ⟨rfl,rfl,rfl⟩
  exact ⟨by simp only [↓noTHm_cons,noTHm,↓noTBm_ints,↓noTBm_net,noTBm,noTL,noT,noTL_cells,Bool.and_self],_,rfl,rfl⟩
 intro B_
 simp only [argEnv,Tryz.ntmps144,Tryz.results144]
 refine AWT.rS ?_
 refine AWT.seq ?_
 refine AWT.rSC ?_
 by_cases hk : o.kind = 8
 ·have hy:=hY s o hs
  cases hst : (stp s o).2
  ·simp only [hst,Bool.not_false,Bool.false_eq_true,if_false] at hy
   have hw_stop : ∀ i,i < o.kids.length → (walkR stp (stp s o).1 (pres (o.kids.take i))).2 = false → (walkR stp (walkR stp (stp s o).1 (pres (o.kids.take i))).1 (o.kids.getD i Pob.null).pre).2 = true → walkR stp s (o :: pres o.kids) = ((walkR stp (walkR stp (stp s o).1 (pres (o.kids.take i))).1 (o.kids.getD i Pob.null).pre).1,true):=fun i hi hg hh=>by rw [walkR_go hk hst]; exact walkR_kid hi hg hh
   have hw_end : ∀ i,¬ i < o.kids.length → (walkR stp (stp s o).1 (pres (o.kids.take i))).2 = false → walkR stp s (o :: pres o.kids) = ((walkR stp (stp s o).1 (pres (o.kids.take i))).1,false):=fun i hi hg=>by rw [walkR_go hk hst,← hg]; rw [List.take_of_length_le (by omega)]
   refine OpsT.cYG [0,1,2,3,4,5,6,7] hy (hgv:=by simp only [go_sem,seval]; simp [hk]) ?_
   refine OpsT.rn ?_
   refine OpsT.nil ?_
   refine AWT.c2 ?_ ?_
   ·intro h
    simp at h
   ·intro _
    refine AWT.skip ?_
    refine AWT.seq ?_
    refine AWT.rS ?_
    refine AWT.block ?_
    refine AWT.lk (S:={ i : Nat // i ≤ o.kids.length ∧ (walkR stp (stp s o).1 (pres (o.kids.take i))).2 = false }) [1,17,18] (fun s_=>[(19,.int .i64 s_.1)]) (fun s_=>[(0,.cells [.map 1]),(1,mapOf KI VI (netL l)),(2,.cells [.map 3]),(3,setOf (fun n=>AV.int .i64 n) ((walkR stp (stp s o).1 (pres (o.kids.take s_.1))).1).1),(4,.cells [.row 7 0 ((walkR stp (stp s o).1 (pres (o.kids.take s_.1))).1).2.length]),(5,.cells (Pob.cells o0)),(7,.row 6 (objsAV ((walkR stp (stp s o).1 (pres (o.kids.take s_.1))).1).2) true),(6,.lp lq (rc none))]) 8 (fun s_=>o.kids.length - s_.1) ⟨0,Nat.zero_le _,by simp [pres_nil,walkR_nil]⟩ ?_ ?_
    ·refine St.le.vx [0,1,2,3,4,5,6,9] (hpre:=(by decide : ∀ i,i < 7 → nth [0,1,2,3,4,5,6,9] i = some i)) ?_
     simp [pres_nil,walkR_nil]
    rintro ⟨i,hi,hgo⟩
    try dsimp only at hi
    try dsimp only at hgo
    have hsi : I (walkR stp (stp s o).1 (pres (o.kids.take i))).1:=walkR_inv hI _ _ (hI _ _ hs)
    refine AWT.rS ?_
    refine AWT.seq ?_
    refine AWT.c2 ?_ ?_
    ·intro h17
     refine AWT.skip ?_
     refine AWT.seq ?_
     refine AWT.block ?_
     refine AWT.rS ?_
     refine AWT.rSC ?_
     have hc:=ih _ (o.kids.getD i Pob.null) hsi (hb i (by omega))
     have htk:=pres_take (l:=o.kids) (i:=i) (by omega)
     cases hst : (walkR stp (walkR stp (stp s o).1 (pres (o.kids.take i))).1 (o.kids.getD i Pob.null).pre).2
     ·simp only [hst,Bool.not_false,Bool.false_eq_true,if_false] at hc
      refine OpsT.cTU [0,1,2,3,4,5,6,7] hc ?_
      refine OpsT.rn ?_
      refine OpsT.nil ?_
      refine AWT.c2 ?_ ?_
      ·intro h
       simp at h
      ·intro _
       refine AWT.skip ?_
       refine AWT.rL ?_
       have e1 : walkR stp (stp s o).1 (pres (o.kids.take (i + 1))) = ((walkR stp (walkR stp (stp s o).1 (pres (o.kids.take i))).1 (o.kids.getD i Pob.null).pre).1,false):=walkR_more (by omega) hgo hst
       refine ⟨⟨i + 1,by omega,by rw [e1]⟩,?_,?_⟩
       ·refine St.le.vx [0,1,2,3,4,5,6,9] (hpre:=(by decide : ∀ i,i < 7 → nth [0,1,2,3,4,5,6,9] i = some i)) ?_
        rw [e1]
        all_goals simp
       ·simp only []; omega
     ·simp only [hst,Bool.not_true,if_true] at hc
      refine OpsT.cTU [0,1,2,3,4,5,6,7] hc ?_
      refine OpsT.rn ?_
      refine OpsT.nil ?_
      refine AWT.c2 ?_ ?_
      ·intro h
       refine AWT.rS ?_
       refine AWT.pre (σ':=⟨28,[(4,.bool false)],[(0,.cells [.map 1]),(1,mapOf KI VI (netL l)),(2,.cells [.map 3]),(3,setOf (fun n=>AV.int .i64 n) ((walkR stp (walkR stp (stp s o).1 (pres (o.kids.take i))).1 (o.kids.getD i Pob.null).pre).1).1),(4,.cells [.row 7 0 ((walkR stp (walkR stp (stp s o).1 (pres (o.kids.take i))).1 (o.kids.getD i Pob.null).pre).1).2.length]),(5,.cells (Pob.cells o0)),(7,.row 6 (objsAV ((walkR stp (walkR stp (stp s o).1 (pres (o.kids.take i))).1 (o.kids.getD i Pob.null).pre).1).2) true),(6,.lp lq (rc (some c0)))],8,gl,7,[]⟩) (St.le.vw [0,1,2,3,4,5,6,9] (hpre:=(by decide : ∀ i,i < 7 → nth [0,1,2,3,4,5,6,9] i = some i))) ?_
       refine AWT.rt ?_
       have e:=hw_stop  i (by omega) hgo hst
       rw [hpre,e]
       simp
      ·intro h
       simp at h
    ·intro h17
     refine AWT.exit ?_
     refine AWT.rS ?_
     refine AWT.pre (σ':=⟨28,[(4,.bool true)],[(0,.cells [.map 1]),(1,mapOf KI VI (netL l)),(2,.cells [.map 3]),(3,setOf (fun n=>AV.int .i64 n) ((walkR stp (stp s o).1 (pres (o.kids.take i))).1).1),(4,.cells [.row 7 0 ((walkR stp (stp s o).1 (pres (o.kids.take i))).1).2.length]),(5,.cells (Pob.cells o0)),(7,.row 6 (objsAV ((walkR stp (stp s o).1 (pres (o.kids.take i))).1).2) true),(6,.lp lq (rc none))],8,gl,7,[]⟩) (St.le.vw [0,1,2,3,4,5,6,7] (hpre:=(by decide : ∀ i,i < 7 → nth [0,1,2,3,4,5,6,7] i = some i))) ?_
     refine AWT.rt ?_
     have e:=hw_end i (by omega) hgo
     rw [hpre,e]
     simp
  ·simp only [hst,Bool.not_true,if_true] at hy
   refine OpsT.cYG [0,1,2,3,4,5,6,7] hy (hgv:=by simp only [go_sem,seval]; simp [hk]) ?_
   refine OpsT.rn ?_
   refine OpsT.nil ?_
   refine AWT.c2 ?_ ?_
   ·intro h
    refine AWT.rS ?_
    refine AWT.pre (σ':=⟨28,[(4,.bool false)],[(0,.cells [.map 1]),(1,mapOf KI VI (netL l)),(2,.cells [.map 3]),(3,setOf (fun n=>AV.int .i64 n) ((stp s o).1).1),(4,.cells [.row 7 0 ((stp s o).1).2.length]),(5,.cells (Pob.cells o0)),(7,.row 6 (objsAV ((stp s o).1).2) true),(6,.lp lq (rc (some c0)))],8,gl,7,[]⟩) (St.le.vw [0,1,2,3,4,5,6,9] (hpre:=(by decide : ∀ i,i < 7 → nth [0,1,2,3,4,5,6,9] i = some i))) ?_
    refine AWT.rt ?_
    rw [hpre,walkR_stop hk hst]
    simp
   ·intro h
    simp [hk] at h
 ·skip
  have hw_stop : ∀ i,i < o.kids.length → (walkR stp s (pres (o.kids.take i))).2 = false → (walkR stp (walkR stp s (pres (o.kids.take i))).1 (o.kids.getD i Pob.null).pre).2 = true → walkR stp s (o :: pres o.kids) = ((walkR stp (walkR stp s (pres (o.kids.take i))).1 (o.kids.getD i Pob.null).pre).1,true):=fun i hi hg hh=>by rw [walkR_no hk]; exact walkR_kid hi hg hh
  have hw_end : ∀ i,¬ i < o.kids.length → (walkR stp s (pres (o.kids.take i))).2 = false → walkR stp s (o :: pres o.kids) = ((walkR stp s (pres (o.kids.take i))).1,false):=fun i hi hg=>by rw [walkR_no hk,← hg]; rw [List.take_of_length_le (by omega)]
  refine OpsT.gN (.bool true) ?_ (hgv:=by simp only [go_sem,seval]; simp [hk])
  refine OpsT.rn ?_
  refine OpsT.nil ?_
  refine AWT.c2 ?_ ?_
  ·intro h
   simp [hk] at h
  ·intro _
   refine AWT.skip ?_
   refine AWT.seq ?_
   refine AWT.rS ?_
   refine AWT.block ?_
   refine AWT.lk (S:={ i : Nat // i ≤ o.kids.length ∧ (walkR stp s (pres (o.kids.take i))).2 = false }) [1,17,18] (fun s_=>[(19,.int .i64 s_.1)]) (fun s_=>[(0,.cells [.map 1]),(1,mapOf KI VI (netL l)),(2,.cells [.map 3]),(3,setOf (fun n=>AV.int .i64 n) ((walkR stp s (pres (o.kids.take s_.1))).1).1),(4,.cells [.row 7 0 ((walkR stp s (pres (o.kids.take s_.1))).1).2.length]),(5,.cells (Pob.cells o0)),(7,.row 6 (objsAV ((walkR stp s (pres (o.kids.take s_.1))).1).2) true),(6,.lp lq (rc none))]) 8 (fun s_=>o.kids.length - s_.1) ⟨0,Nat.zero_le _,by simp [pres_nil,walkR_nil]⟩ ?_ ?_
   ·refine St.le.vx [0,1,2,3,4,5,6,7] (hpre:=(by decide : ∀ i,i < 7 → nth [0,1,2,3,4,5,6,7] i = some i)) ?_
    simp [pres_nil,walkR_nil]
   rintro ⟨i,hi,hgo⟩
   try dsimp only at hi
   try dsimp only at hgo
   have hsi : I (walkR stp s (pres (o.kids.take i))).1:=walkR_inv hI _ _ hs
   refine AWT.rS ?_
   refine AWT.seq ?_
   refine AWT.c2 ?_ ?_
   ·intro h17
    refine AWT.skip ?_
    refine AWT.seq ?_
    refine AWT.block ?_
    refine AWT.rS ?_
    refine AWT.rSC ?_
    have hc:=ih _ (o.kids.getD i Pob.null) hsi (hb i (by omega))
    have htk:=pres_take (l:=o.kids) (i:=i) (by omega)
    cases hst : (walkR stp (walkR stp s (pres (o.kids.take i))).1 (o.kids.getD i Pob.null).pre).2
    ·simp only [hst,Bool.not_false,Bool.false_eq_true,if_false] at hc
     refine OpsT.cTU [0,1,2,3,4,5,6,7] hc ?_
     refine OpsT.rn ?_
     refine OpsT.nil ?_
     refine AWT.c2 ?_ ?_
     ·intro h
      simp at h
     ·intro _
      refine AWT.skip ?_
      refine AWT.rL ?_
      have e1 : walkR stp s (pres (o.kids.take (i + 1))) = ((walkR stp (walkR stp s (pres (o.kids.take i))).1 (o.kids.getD i Pob.null).pre).1,false):=walkR_more (by omega) hgo hst
      refine ⟨⟨i + 1,by omega,by rw [e1]⟩,?_,?_⟩
      ·refine St.le.vx [0,1,2,3,4,5,6,9] (hpre:=(by decide : ∀ i,i < 7 → nth [0,1,2,3,4,5,6,9] i = some i)) ?_
       rw [e1]
       all_goals simp
      ·simp only []; omega
    ·simp only [hst,Bool.not_true,if_true] at hc
     refine OpsT.cTU [0,1,2,3,4,5,6,7] hc ?_
     refine OpsT.rn ?_
     refine OpsT.nil ?_
     refine AWT.c2 ?_ ?_
     ·intro h
      refine AWT.rS ?_
      refine AWT.pre (σ':=⟨28,[(4,.bool false)],[(0,.cells [.map 1]),(1,mapOf KI VI (netL l)),(2,.cells [.map 3]),(3,setOf (fun n=>AV.int .i64 n) ((walkR stp (walkR stp s (pres (o.kids.take i))).1 (o.kids.getD i Pob.null).pre).1).1),(4,.cells [.row 7 0 ((walkR stp (walkR stp s (pres (o.kids.take i))).1 (o.kids.getD i Pob.null).pre).1).2.length]),(5,.cells (Pob.cells o0)),(7,.row 6 (objsAV ((walkR stp (walkR stp s (pres (o.kids.take i))).1 (o.kids.getD i Pob.null).pre).1).2) true),(6,.lp lq (rc (some c0)))],8,gl,7,[]⟩) (St.le.vw [0,1,2,3,4,5,6,9] (hpre:=(by decide : ∀ i,i < 7 → nth [0,1,2,3,4,5,6,9] i = some i))) ?_
      refine AWT.rt ?_
      have e:=hw_stop  i (by omega) hgo hst
      rw [hpre,e]
      simp
     ·intro h
      simp at h
   ·intro h17
    refine AWT.exit ?_
    refine AWT.rS ?_
    refine AWT.pre (σ':=⟨28,[(4,.bool true)],[(0,.cells [.map 1]),(1,mapOf KI VI (netL l)),(2,.cells [.map 3]),(3,setOf (fun n=>AV.int .i64 n) ((walkR stp s (pres (o.kids.take i))).1).1),(4,.cells [.row 7 0 ((walkR stp s (pres (o.kids.take i))).1).2.length]),(5,.cells (Pob.cells o0)),(7,.row 6 (objsAV ((walkR stp s (pres (o.kids.take i))).1).2) true),(6,.lp lq (rc none))],8,gl,7,[]⟩) (St.le.vw [0,1,2,3,4,5,6,7] (hpre:=(by decide : ∀ i,i < 7 → nth [0,1,2,3,4,5,6,7] i = some i))) ?_
    refine AWT.rt ?_
    have e:=hw_end i (by omega) hgo
    rw [hpre,e]
    simp
theorem wr_all (gl : List (Nat × AV)) (l : List Itm) (o0 : Pob) (stp : (List Int × List Pob) → Pob → (List Int × List Pob) × Bool) (c0 : Code) (I : (List Int × List Pob) → Prop) (hI : ∀ s o,I s → I (stp s o).1) (lq : Nat) (rc : Option Code → Loop) {Ω : Mem → Prop} [LastsU Ω]
  (hY : ∀ s o,I s → RoundU Ω Tryz.prog gl lq [.agg (Pob.cells o)] ([(0,.cells [.map 1]),(1,mapOf KI VI (netL l)),(2,.cells [.map 3]),(3,setOf (fun n=>AV.int .i64 n) (s).1),(4,.cells [.row 7 0 (s).2.length]),(5,.cells (Pob.cells o0)),(7,.row 6 (objsAV (s).2) true),(6,.lp lq (rc none))]) 8 7 fun r h n=>r = .ret (.bool (!(stp s o).2)) ∧ h = [(0,.cells [.map 1]),(1,mapOf KI VI (netL l)),(2,.cells [.map 3]),(3,setOf (fun n=>AV.int .i64 n) ((stp s o).1).1),(4,.cells [.row 7 0 ((stp s o).1).2.length]),(5,.cells (Pob.cells o0)),(7,.row 6 (objsAV ((stp s o).1).2) true),(6,.lp lq (rc (if (stp s o).2 then some c0 else none)))] ∧ n = 8) (N : Nat) :
  N ≤ 16777216 → ∀ s (o : Pob),I s → o.bulk ≤ N → FnU Ω Tryz.prog gl 144 [.agg (Pob.cells o),.raw (.func (.yield lq) #[] #[])] ([(0,.cells [.map 1]),(1,mapOf KI VI (netL l)),(2,.cells [.map 3]),(3,setOf (fun n=>AV.int .i64 n) (s).1),(4,.cells [.row 7 0 (s).2.length]),(5,.cells (Pob.cells o0)),(7,.row 6 (objsAV (s).2) true),(6,.lp lq (rc none))]) 8 7 (fun r h n=>r = .ret (.bool (!(walkR stp s (Pob.pre o)).2)) ∧ h = [(0,.cells [.map 1]),(1,mapOf KI VI (netL l)),(2,.cells [.map 3]),(3,setOf (fun n=>AV.int .i64 n) ((walkR stp s (Pob.pre o)).1).1),(4,.cells [.row 7 0 ((walkR stp s (Pob.pre o)).1).2.length]),(5,.cells (Pob.cells o0)),(7,.row 6 (objsAV ((walkR stp s (Pob.pre o)).1).2) true),(6,.lp lq (rc (if (walkR stp s (Pob.pre o)).2 then some c0 else none)))] ∧ n = 8):=by
 induction N using Nat.strongRecOn with
 | ind N IH =>
  intro hN s o hs ho
  have hb:=Pob.bulk_eq o
  exact wr_step gl l o0 stp c0 I hI lq rc hY N hN (fun s o' hs h=>IH o'.bulk h (by omega) s o' hs (Nat.le_refl _)) s hs o (by omega) (fun i hi=>Nat.lt_of_lt_of_le (Pob.bulk_kid hi) ho)

theorem wr_refs (gl : List (Nat × AV)) (l : List Itm) (o0 : Pob) (stp : (List Int × List Pob) → Pob → (List Int × List Pob) × Bool) (c0 : Code) (I : (List Int × List Pob) → Prop) (hI : ∀ s o,I s → I (stp s o).1) (lq : Nat) (rc : Option Code → Loop) {Ω : Mem → Prop} [LastsU Ω]
  (hY : ∀ s o,I s → RoundU Ω Tryz.prog gl lq [.agg (Pob.cells o)] ([(0,.cells [.map 1]),(1,mapOf KI VI (netL l)),(2,.cells [.map 3]),(3,setOf (fun n=>AV.int .i64 n) (s).1),(4,.cells [.row 7 0 (s).2.length]),(5,.cells (Pob.cells o0)),(7,.row 6 (objsAV (s).2) true),(6,.lp lq (rc none))]) 8 7 fun r h n=>r = .ret (.bool (!(stp s o).2)) ∧ h = [(0,.cells [.map 1]),(1,mapOf KI VI (netL l)),(2,.cells [.map 3]),(3,setOf (fun n=>AV.int .i64 n) ((stp s o).1).1),(4,.cells [.row 7 0 ((stp s o).1).2.length]),(5,.cells (Pob.cells o0)),(7,.row 6 (objsAV ((stp s o).1).2) true),(6,.lp lq (rc (if (stp s o).2 then some c0 else none)))] ∧ n = 8)
  (s : (List Int × List Pob)) (hs : I s) (h : (Pob.bulk o0) ≤ 16777216) : FnU Ω Tryz.prog gl 143 [.raw (.func (.yield lq) #[] #[]),.ptr 5 0] ([(0,.cells [.map 1]),(1,mapOf KI VI (netL l)),(2,.cells [.map 3]),(3,setOf (fun n=>AV.int .i64 n) (s).1),(4,.cells [.row 7 0 (s).2.length]),(5,.cells (Pob.cells o0)),(7,.row 6 (objsAV (s).2) true),(6,.lp lq (rc none))]) 8 7 (fun r h n=>r = .ret (.tup []) ∧ h = [(0,.cells [.map 1]),(1,mapOf KI VI (netL l)),(2,.cells [.map 3]),(3,setOf (fun n=>AV.int .i64 n) ((walkR stp s (Pob.pre o0)).1).1),(4,.cells [.row 7 0 ((walkR stp s (Pob.pre o0)).1).2.length]),(5,.cells (Pob.cells o0)),(7,.row 6 (objsAV ((walkR stp s (Pob.pre o0)).1).2) true),(6,.lp lq (rc (if (walkR stp s (Pob.pre o0)).2 then some c0 else none)))] ∧ n = 8):=by
 refine FnU.intro Tryz.func143 rfl rfl (by simp [Tryz.ntmps143]) ?_ ?_
 ·rintro q hp' nx' ⟨rfl,rfl,rfl⟩
  exact ⟨by simp only [↓noTHm_cons,noTHm,↓noTBm_ints,↓noTBm_net,noTBm,noTL,noT,noTL_cells,noTL_dcells,Bool.and_self],_,rfl,rfl⟩
 intro B_
 simp only [argEnv,Tryz.ntmps143,Tryz.results143]
 refine AWT.post ?_
 refine AWT.rLC ?_
 refine OpsT.cTU [0,1,2,3,4,5,6,7] (wr_all gl l o0 stp c0 I hI lq rc hY 16777216 (Nat.le_refl _) s o0 hs h) ?_
 refine OpsT.rn ?_
 refine OpsT.nil ?_
 refine ⟨rfl,⟨6,[],[(0,.cells [.map 1]),(1,mapOf KI VI (netL l)),(2,.cells [.map 3]),(3,setOf (fun n=>AV.int .i64 n) ((walkR stp s (Pob.pre o0)).1).1),(4,.cells [.row 7 0 ((walkR stp s (Pob.pre o0)).1).2.length]),(5,.cells (Pob.cells o0)),(7,.row 6 (objsAV ((walkR stp s (Pob.pre o0)).1).2) true),(6,.lp lq (rc (if (walkR stp s (Pob.pre o0)).2 then some c0 else none)))],8,gl,7,[]⟩,(St.le.vw [0,1,2,3,4,5,6,8] (hpre:=(by decide : ∀ i,i < 7 → nth [0,1,2,3,4,5,6,8] i = some i))),?_⟩
 refine wk ?_
 all_goals first | contradiction | rfl | (simp; done) | (simp; omega)

end Go.Proofs

namespace Go.Proofs
open Go Aw
set_option linter.unusedSimpArgs false
set_option linter.unusedVariables false
set_option maxRecDepth 100000
set_option maxHeartbeats 4000000
attribute [local go_sem ↓ high] noTBm_net
attribute [local go_sem] mres netL_nil
end Go.Proofs

namespace Go.Proofs
open Go Aw
set_option linter.unusedSimpArgs false
set_option linter.unusedVariables false
set_option maxRecDepth 100000
set_option maxHeartbeats 4000000
attribute [local go_sem ↓ high] noTBm_net
attribute [local go_sem] mres netL_nil ebuildC acellsC partsC List.length_append List.length_cons List.length_nil
theorem h_graph_reach (gl : List (Nat × AV)) (l : List Itm) (o : Pob) (hl : l.length ≤ 8000000) (hb : ∀ i ∈ l,i.obj.bulk ≤ 16777216) (ho : o.bulk ≤ 16777216) :
  FnT (fun _=>True) Tryz.prog gl 124 [.map 0,.agg o.cells] [(0,mapOf KI VI (netL l))] 1 fun r h n=>r = .ret (.map 1) ∧ h = [(0,mapOf KI VI (netL l)),(1,setOf (fun n=>AV.int .i64 n) (reachS l o))] ∧ n = 2:=by
 refine FnT.intro Tryz.func124 rfl rfl (by simp [Tryz.ntmps124]) ?_ ?_
 ·rintro q hp' nx' ⟨rfl,rfl,rfl⟩
  exact ⟨by simp only [↓noTHm_cons,noTHm,↓noTBm_ints,↓noTBm_net,Bool.and_self],_,rfl,rfl⟩
 intro B_
 simp only [argEnv,Tryz.ntmps124,Tryz.results124]
 refine AWT.rS ?_
 refine AWT.rSC ?_
 refine OpsT.cs (awGuard.mkS (keyOk_int .i64) ?_)
 refine OpsT.rn ?_
 refine OpsT.nil ?_
 refine AWT.rS ?_
 refine AWT.seq ?_
 refine AWT.block ?_
 refine AWT.lk (S:={ p : (List Int × List Pob) × Pob // reachJ l o p.1 ∧ reachK 16777216 p.1 }) [2,3,5,6] (fun s_=>[]) (fun s_=>[(0,mapOf KI VI (netL l)),(1,.cells [.map 0]),(2,.cells (Pob.cells s_.1.2)),(3,setOf (fun n=>AV.int .i64 n) s_.1.1.1),(4,.cells [.map 3]),(5,.row 6 (objsAV s_.1.1.2) true),(6,.cells [.row 5 0 s_.1.1.2.length])]) 7 (fun s_=>reachM l s_.1.1) ⟨(([],[o]),o),reachJ_top l o,by intro p hp; simp only [List.mem_singleton] at hp; subst hp; exact ho⟩ ?_ ?_
 ·refine St.le.vx [0,1,2,3,4,5,6] (hpre:=(by decide : ∀ i,i < 1 → nth [0,1,2,3,4,5,6] i = some i)) ?_
  simp [objsAV_map]
  rw [← objsAV_map]
  cases o
  rfl
 rintro ⟨⟨s,cur⟩,hj,hk⟩
 try dsimp only at hj
 try dsimp only at hk
 have hlen:=reachI_len hj.1
 refine AWT.seq ?_
 refine AWT.rS ?_
 refine AWT.c2 ?_ ?_
 ·intro h15
  have hn : 0 < s.2.length:=by omega
  have hel:=reachK_at hk hn
  refine AWT.skip ?_
  refine AWT.block ?_
  refine AWT.sS [0,1,2,3,4,5,6,7,8,9,10] 11 [(12,2)] [(0,mapOf KI VI (netL l)),(1,.cells [.map 0]),(2,.cells (Pob.cells (s.2.getD (s.2.length - 1) Pob.null))),(3,setOf (fun n=>AV.int .i64 n) s.1),(4,.cells [.map 3]),(5,.row 6 (objsAV s.2) true),(6,.cells [.row 5 0 s.2.length])] ?_
  iterate 11 refine awFunE.p ?_
  rw [Aw.awFunE_nil]
  refine ⟨EffAt.of [3,21],?_⟩
  refine awPlan.rn ?_
  refine AWT.pre (St.le.rowTake 5 (s.2.length - 1) rfl) ?_
  refine AWT.trim [2,3,5,6] ?_
  rw [objsAV_take]
  have hpop : popS l s = (walkR (reachStp l) (s.1,(s.2.take (s.2.length - 1))) (Pob.pre (s.2.getD (s.2.length - 1) Pob.null))).1:=rfl
  have hmm:=popS_M hj.1 hn
  have hpj:=reachJ_pop hj hn
  have hpk:=popS_K hb hk
  have hpi:=pop_inv hj.1
  generalize hps : popS l s = ps at hpop hmm hpj hpk
  generalize (s.2.getD (s.2.length - 1) Pob.null) = el at hel hpop ⊢
  have htl : s.2.length - 1 = (s.2.take (s.2.length - 1)).length:=by simp
  generalize (s.2.take (s.2.length - 1)) = td at hpop hpi htl ⊢
  rw [htl]
  refine AWT.rSC ?_
  refine OpsT.cN [] (FnT.ofH (h_graph_refs _ el)) ?_
  refine OpsT.rn ?_
  refine OpsT.nil ?_
  refine AWT.block ?_
  refine AWT.rU [1,0,4,3,6,7] [5] [(2,.ptr 0 0),(5,.ptr 2 0),(6,.ptr 4 0)] (fun j h k=>j = none ∧ (∃ rl lq,h = [(0,.cells [.map 1]),(1,mapOf KI VI (netL l)),(2,.cells [.map 3]),(3,setOf (fun n=>AV.int .i64 n) ps.1),(4,.cells [.row 7 0 (ps.2).length]),(5,.cells (Pob.cells el)),(7,.row 6 (objsAV ps.2) true),(6,.lp lq rl)]) ∧ k = 8) (xs:=[.ptr 5 0]) (hp0:=[(0,.cells [.map 1]),(1,mapOf KI VI (netL l)),(2,.cells [.map 3]),(3,setOf (fun n=>AV.int .i64 n) s.1),(4,.cells [.row 7 0 (td).length]),(5,.cells (Pob.cells el)),(7,.row 6 (objsAV td) true)]) ?_ ?_
  ·intro Ω _ lq rb rc hr
   refine (wr_refs gl l el (reachStp l) .skip (fun s=>reachI l s) (fun s o h=>reachI_stp s o h) lq rc (fun s1 o1 hs1=>?_) (s.1,td) hpi hel).mono (fun q hp nx hh=>?_)
   ·have hl1:=reachI_len hs1
    refine hr [_] _ 8 _ rfl rfl ?_
    refine AWT.rL ?_
    refine ⟨rfl,rfl,?_⟩
    refine AWT.block ?_
    refine AWT.rSC ?_
    refine OpsT.cs (awGuard.c1 (c_graph_leads _ l o1) ?_)
    refine OpsT.rn ?_
    refine OpsT.nil ?_
    refine AWT.seq ?_
    refine AWT.rSC ?_
    refine OpsT.cs (awGuard.lkG (keyOk_int .i64) ?_)
    refine OpsT.rn ?_
    refine OpsT.nil ?_
    refine AWT.c2 ?_ ?_
    ·intro hq
     have hb1 : grchB l s1.1 o1 = false:=by
      cases hb1 : grchB l s1.1 o1
      ·rfl
      ·exfalso
       simp [grchB] at hb1
       simp [hb1.1,hb1.2] at hq
     refine AWT.exit ?_
     refine ⟨none,rfl,⟨55,[],[(0,.cells [.map 1]),(1,mapOf KI VI (netL l)),(2,.cells [.map 3]),(3,setOf (fun n=>AV.int .i64 n) (reachStp l s1 o1).1.1),(4,.cells [.row 7 0 ((reachStp l s1 o1).1.2).length]),(5,.cells (Pob.cells el)),(7,.row 6 (objsAV (reachStp l s1 o1).1.2) true),(6,.lp lq rb)],8,gl,7,[]⟩,?_,rfl,by simp only [go_sem,seval],rfl,rfl,rfl⟩
     refine St.le.vx [0,1,2,3,4,5,6,7] (hpre:=(by decide : ∀ i,i < 7 → nth [0,1,2,3,4,5,6,7] i = some i)) ?_
     simp [reachStp,hb1]
    ·intro hq
     have hb1 : grchB l s1.1 o1 = true:=by
      cases hb1 : grchB l s1.1 o1
      ·exfalso
       simp only [grchB,Bool.and_eq_false_iff,Bool.not_eq_false',decide_eq_true_eq] at hb1
       rcases hb1 with hb1 | hb1
       ·simp [hb1] at hq
       ·simp [hb1] at hq
      ·rfl
     refine AWT.skip ?_
     refine AWT.rSC ?_
     refine OpsT.cs (awGuard.upS (keyOk_int .i64) ?_)
     refine OpsT.rn ?_
     refine OpsT.nil ?_
     refine AWT.trim [6,8] ?_
     refine AWT.tGL (σf:=?sf10) (.take 1 0 (.fork 0 (.fork 2 (.fork 3 (.fork 4 (.fork 5 (.fork 6 (.fork 7 (.fork 8 .done .stop) (.fork 8 (.fork 7 .done .stop) .stop)) (.fork 8 (.fork 6 (.fork 7 .done .stop) .stop) .stop)) .stop) .stop) (.fork 4 (.fork 3 (.fork 5 (.fork 6 (.fork 7 (.fork 8 .done .stop) (.fork 8 (.fork 7 .done .stop) .stop)) (.fork 8 (.fork 6 (.fork 7 .done .stop) .stop) .stop)) .stop) .stop) .stop)) (.fork 3 (.fork 2 (.fork 4 (.fork 5 (.fork 6 (.fork 7 (.fork 8 .done .stop) (.fork 8 (.fork 7 .done .stop) .stop)) (.fork 8 (.fork 6 (.fork 7 .done .stop) .stop) .stop)) .stop) .stop) (.fork 4 (.fork 2 (.fork 5 (.fork 6 (.fork 7 (.fork 8 .done .stop) (.fork 8 (.fork 7 .done .stop) .stop)) (.fork 8 (.fork 6 (.fork 7 .done .stop) .stop) .stop)) .stop) .stop) .stop)) (.fork 4 (.fork 2 (.fork 3 (.fork 5 (.fork 6 (.fork 7 (.fork 8 .done .stop) (.fork 8 (.fork 7 .done .stop) .stop)) (.fork 8 (.fork 6 (.fork 7 .done .stop) .stop) .stop)) .stop) .stop) (.fork 3 (.fork 2 (.fork 5 (.fork 6 (.fork 7 (.fork 8 .done .stop) (.fork 8 (.fork 7 .done .stop) .stop)) (.fork 8 (.fork 6 (.fork 7 .done .stop) .stop) .stop)) .stop) .stop) .stop)) .stop))) (.fork 2 (.fork 0 (.fork 3 (.fork 4 (.fork 5 (.fork 6 (.fork 7 (.fork 8 .done .stop) (.fork 8 (.fork 7 .done .stop) .stop)) (.fork 8 (.fork 6 (.fork 7 .done .stop) .stop) .stop)) .stop) .stop) (.fork 4 (.fork 3 (.fork 5 (.fork 6 (.fork 7 (.fork 8 .done .stop) (.fork 8 (.fork 7 .done .stop) .stop)) (.fork 8 (.fork 6 (.fork 7 .done .stop) .stop) .stop)) .stop) .stop) .stop)) (.fork 4 (.fork 0 (.fork 3 (.fork 5 (.fork 6 (.fork 7 (.fork 8 .done .stop) (.fork 8 (.fork 7 .done .stop) .stop)) (.fork 8 (.fork 6 (.fork 7 .done .stop) .stop) .stop)) .stop) .stop) .stop) .stop)) (.fork 4 (.fork 0 (.fork 2 (.fork 3 (.fork 5 (.fork 6 (.fork 7 (.fork 8 .done .stop) (.fork 8 (.fork 7 .done .stop) .stop)) (.fork 8 (.fork 6 (.fork 7 .done .stop) .stop) .stop)) .stop) .stop) (.fork 3 (.fork 2 (.fork 5 (.fork 6 (.fork 7 (.fork 8 .done .stop) (.fork 8 (.fork 7 .done .stop) .stop)) (.fork 8 (.fork 6 (.fork 7 .done .stop) .stop) .stop)) .stop) .stop) .stop)) (.fork 2 (.fork 0 (.fork 3 (.fork 5 (.fork 6 (.fork 7 (.fork 8 .done .stop) (.fork 8 (.fork 7 .done .stop) .stop)) (.fork 8 (.fork 6 (.fork 7 .done .stop) .stop) .stop)) .stop) .stop) .stop) .stop)) .stop)))) ?tree10 ?rest10
     case tree10 =>
      refine awTree.tk ?_
      refine awTree.fA ?_ ?_
      ·refine awTree.fA ?_ ?_
       ·refine awTree.fA ?_ ?_
        ·refine awTree.fK ?_ trivial
         refine awTree.fA ?_ trivial
         refine awTree.fA ?_ ?_
         ·refine awTree.fA ?_ ?_
          ·refine awTree.fA ?_ trivial
           exact awTree.dn
          ·refine awTree.fA ?_ trivial
           refine awTree.fA ?_ trivial
           exact awTree.dn
         ·refine awTree.fA ?_ trivial
          refine awTree.fA ?_ trivial
          refine awTree.fA ?_ trivial
          exact awTree.dn
        ·refine awTree.fK ?_ trivial
         refine awTree.fA ?_ trivial
         refine awTree.fA ?_ trivial
         refine awTree.fA ?_ ?_
         ·refine awTree.fA ?_ ?_
          ·refine awTree.fA ?_ trivial
           exact awTree.dn
          ·refine awTree.fA ?_ trivial
           refine awTree.fA ?_ trivial
           exact awTree.dn
         ·refine awTree.fA ?_ trivial
          refine awTree.fA ?_ trivial
          refine awTree.fA ?_ trivial
          exact awTree.dn
       ·refine awTree.fA ?_ ?_
        ·refine awTree.fA ?_ ?_
         ·refine awTree.fK ?_ trivial
          refine awTree.fA ?_ trivial
          refine awTree.fA ?_ ?_
          ·refine awTree.fA ?_ ?_
           ·refine awTree.fA ?_ trivial
            exact awTree.dn
           ·refine awTree.fA ?_ trivial
            refine awTree.fA ?_ trivial
            exact awTree.dn
          ·refine awTree.fA ?_ trivial
           refine awTree.fA ?_ trivial
           refine awTree.fA ?_ trivial
           exact awTree.dn
         ·refine awTree.fK ?_ trivial
          refine awTree.fA ?_ trivial
          refine awTree.fA ?_ trivial
          refine awTree.fA ?_ ?_
          ·refine awTree.fA ?_ ?_
           ·refine awTree.fA ?_ trivial
            exact awTree.dn
           ·refine awTree.fA ?_ trivial
            refine awTree.fA ?_ trivial
            exact awTree.dn
          ·refine awTree.fA ?_ trivial
           refine awTree.fA ?_ trivial
           refine awTree.fA ?_ trivial
           exact awTree.dn
        ·refine awTree.fK ?_ trivial
         refine awTree.fA ?_ ?_
         ·refine awTree.fA ?_ trivial
          refine awTree.fA ?_ trivial
          refine awTree.fA ?_ ?_
          ·refine awTree.fA ?_ ?_
           ·refine awTree.fA ?_ trivial
            exact awTree.dn
           ·refine awTree.fA ?_ trivial
            refine awTree.fA ?_ trivial
            exact awTree.dn
          ·refine awTree.fA ?_ trivial
           refine awTree.fA ?_ trivial
           refine awTree.fA ?_ trivial
           exact awTree.dn
         ·refine awTree.fA ?_ trivial
          refine awTree.fA ?_ trivial
          refine awTree.fA ?_ trivial
          refine awTree.fA ?_ ?_
          ·refine awTree.fA ?_ ?_
           ·refine awTree.fA ?_ trivial
            exact awTree.dn
           ·refine awTree.fA ?_ trivial
            refine awTree.fA ?_ trivial
            exact awTree.dn
          ·refine awTree.fA ?_ trivial
           refine awTree.fA ?_ trivial
           refine awTree.fA ?_ trivial
           exact awTree.dn
      ·refine awTree.fA ?_ ?_
       ·refine awTree.fA ?_ ?_
        ·refine awTree.fA ?_ ?_
         ·refine awTree.fK ?_ trivial
          refine awTree.fA ?_ trivial
          refine awTree.fA ?_ ?_
          ·refine awTree.fA ?_ ?_
           ·refine awTree.fA ?_ trivial
            exact awTree.dn
           ·refine awTree.fA ?_ trivial
            refine awTree.fA ?_ trivial
            exact awTree.dn
          ·refine awTree.fA ?_ trivial
           refine awTree.fA ?_ trivial
           refine awTree.fA ?_ trivial
           exact awTree.dn
         ·refine awTree.fK ?_ trivial
          refine awTree.fA ?_ trivial
          refine awTree.fA ?_ trivial
          refine awTree.fA ?_ ?_
          ·refine awTree.fA ?_ ?_
           ·refine awTree.fA ?_ trivial
            exact awTree.dn
           ·refine awTree.fA ?_ trivial
            refine awTree.fA ?_ trivial
            exact awTree.dn
          ·refine awTree.fA ?_ trivial
           refine awTree.fA ?_ trivial
           refine awTree.fA ?_ trivial
           exact awTree.dn
        ·refine awTree.fK ?_ trivial
         refine awTree.fA ?_ trivial
         refine awTree.fA ?_ trivial
         refine awTree.fA ?_ trivial
         refine awTree.fA ?_ ?_
         ·refine awTree.fA ?_ ?_
          ·refine awTree.fA ?_ trivial
           exact awTree.dn
          ·refine awTree.fA ?_ trivial
           refine awTree.fA ?_ trivial
           exact awTree.dn
         ·refine awTree.fA ?_ trivial
          refine awTree.fA ?_ trivial
          refine awTree.fA ?_ trivial
          exact awTree.dn
       ·refine awTree.fK ?_ trivial
        refine awTree.fA ?_ ?_
        ·refine awTree.fA ?_ ?_
         ·refine awTree.fA ?_ trivial
          refine awTree.fA ?_ trivial
          refine awTree.fA ?_ ?_
          ·refine awTree.fA ?_ ?_
           ·refine awTree.fA ?_ trivial
            exact awTree.dn
           ·refine awTree.fA ?_ trivial
            refine awTree.fA ?_ trivial
            exact awTree.dn
          ·refine awTree.fA ?_ trivial
           refine awTree.fA ?_ trivial
           refine awTree.fA ?_ trivial
           exact awTree.dn
         ·refine awTree.fA ?_ trivial
          refine awTree.fA ?_ trivial
          refine awTree.fA ?_ trivial
          refine awTree.fA ?_ ?_
          ·refine awTree.fA ?_ ?_
           ·refine awTree.fA ?_ trivial
            exact awTree.dn
           ·refine awTree.fA ?_ trivial
            refine awTree.fA ?_ trivial
            exact awTree.dn
          ·refine awTree.fA ?_ trivial
           refine awTree.fA ?_ trivial
           refine awTree.fA ?_ trivial
           exact awTree.dn
        ·refine awTree.fA ?_ trivial
         refine awTree.fA ?_ trivial
         refine awTree.fA ?_ trivial
         refine awTree.fA ?_ trivial
         refine awTree.fA ?_ ?_
         ·refine awTree.fA ?_ ?_
          ·refine awTree.fA ?_ trivial
           exact awTree.dn
          ·refine awTree.fA ?_ trivial
           refine awTree.fA ?_ trivial
           exact awTree.dn
         ·refine awTree.fA ?_ trivial
          refine awTree.fA ?_ trivial
          refine awTree.fA ?_ trivial
          exact awTree.dn
     case rest10 =>
      refine ⟨none,rfl,⟨55,[],[(0,.cells [.map 1]),(1,mapOf KI VI (netL l)),(2,.cells [.map 3]),(3,setOf (fun n=>AV.int .i64 n) (reachStp l s1 o1).1.1),(4,.cells [.row 7 0 ((reachStp l s1 o1).1.2).length]),(5,.cells (Pob.cells el)),(7,.row 6 (objsAV (reachStp l s1 o1).1.2) true),(6,.lp lq rb)],8,gl,7,[]⟩,?_,rfl,by simp only [go_sem,seval],rfl,rfl,rfl⟩
      refine St.le.vx [0,1,2,3,4,5,6,10] (hpre:=(by decide : ∀ i,i < 7 → nth [0,1,2,3,4,5,6,10] i = some i)) ?_
      simp [reachStp,hb1,objsAV_map]
      rw [← objsAV_map]
      generalize (leadI l o1).obj = oo
      cases oo
      rfl
   ·have hlast:=walkR_last (reach_last l) (Pob.pre el) (s.1,td)
    refine ⟨⟨_,hh.1⟩,none,?_,rfl,?_,hh.2.2⟩
    ·rw [hh.2.1,hlast] <;> rfl
    ·rw [hpop]; exact ⟨_,_,hh.2.1⟩
  ·rintro j hp' nx' ⟨rfl,⟨rl,lq,rfl⟩,rfl⟩
   refine ⟨by simp only [go_sem,seval],?_⟩
   refine ⟨⟨(ps,el),hpj,hpk⟩,?_,hmm⟩
   exact St.le.vw [0,1,2,3,4,9,6] (hpre:=(by decide : ∀ i,i < 1 → nth [0,1,2,3,4,9,6] i = some i))
 ·intro h15
  refine AWT.exit ?_
  refine AWT.rS ?_
  refine AWT.pre (σ':=⟨55,[(4,.map 1)],[(0,mapOf KI VI (netL l)),(1,setOf (fun n=>AV.int .i64 n) (reachS l o))],2,gl,1,[]⟩) ?_ ?_
  ·rw [← reachJ_end hj (by omega)]
   exact St.le.vw [0,3] (hpre:=(by decide : ∀ i,i < 1 → nth [0,3] i = some i))
  ·refine AWT.rt ?_
   trivial
end Go.Proofs

namespace Go.Proofs
open Go Aw
set_option linter.unusedSimpArgs false
set_option linter.unusedVariables false
set_option maxRecDepth 100000
set_option maxHeartbeats 4000000
attribute [local go_sem ↓ high] noTBm_net
attribute [local go_sem] mres netL_nil
theorem repY_ints {m : Mem} {g : Nat} : ∀ (l : List Int) (o : Nat),(∀ i,i < l.length → m.w.cell? ⟨g,o + i,none⟩ = some (.int .i64 (l.getD i 0))) → RepY m (intsAV l) g o 1
 | [],_,_=>by simp [intsAV,RepY]
 | x :: l,o,h=>by
  simp only [intsAV,List.map_cons,RepY,RepX]
  refine ⟨rfl,⟨⟨_,h 0 (by simp),by simp only [Rep]; rfl⟩,trivial⟩,?_⟩
  refine repY_ints l (o + 1) fun i hi=>?_
  have:=h (i + 1) (by simp; omega)
  rw [show o + (i + 1) = o + 1 + i from by omega] at this
  simpa using this
theorem h_slices_SortedR (gl : List (Nat × AV)) (s : List Int) (hwf : ∀ x ∈ s,(Lit.int .i64 x).wf = true) (hl : s.length ≤ 16777216) :
  FnT (fun _=>True) Tryz.prog gl 134 [.clos 142 [.ptr 1 0]] [(0,setOf (fun n=>AV.int .i64 n) s),(1,.cells [.map 0])] 2 fun r h n=>r = .ret (.row 2 0 (sortI s).length) ∧ h = [(0,setOf (fun n=>AV.int .i64 n) s),(1,.cells [.map 0]),(2,.row 1 (intsAV (sortI s)) true)] ∧ n = 3:=by
 refine ⟨Aw.enters_of Tryz.func134 rfl rfl,fun m vs hm _ hv=>?_⟩
 obtain ⟨ri0,r0,b0⟩:=hm.h.blk 0 _ rfl
 obtain ⟨ri1,r1,b1⟩:=hm.h.blk 1 _ rfl
 obtain ⟨n1,_,f1,c,T,hc,hcl⟩:=b1
 simp only [RepL,Rep] at hcl hv
 obtain ⟨v0,rest0,hc0,⟨_,ri0',r0',rfl⟩,rfl⟩:=hcl
 rw [r0] at r0'
 injection r0' with r0'
 subst r0'
 obtain ⟨v,rest,rfl,⟨cv,rfl,v1,rest1,hcv,⟨_,ri1',r1',rfl⟩,rfl⟩,rfl⟩:=hv
 rw [r1] at r1'
 injection r1' with r1'
 subst r1'
 have hcv' : cv = #[.pointer (some ⟨ri1.b,0,none⟩)]:=by
  apply Array.ext'
  exact hcv
 subst hcv'
 have hc' : c = #[.map (some ri0.b)]:=by
  apply Array.ext'
  exact hc0
 subst hc'
 obtain ⟨D0,hown,hperm,hsize⟩:=set_owns b0 hwf hl
 have hb1 : ri1.b < m.w.heap.size:=lt_of_getElem? hc
 have hcell : m.w.cell? ⟨ri1.b,0,none⟩ = some (.map (some ri0.b)):=by simp [World.cell?,hc]
 have hcall:=Tryz.sortedKeys ri1.b ri0.b s.length D0 (plainElem Tryz.prog 4) m.w hb1 hcell hown (by rw [hsize]; simp only [maxLen]; omega) (by rw [hsize]; omega)
 refine hcall.mono ?_
 rintro e w' ⟨v,ss,rfl,hp,hrow,_,hbel⟩
 have hss : ss.mergeSort (fun x y=>decide (x ≤ y)) = sortI s:=mergeSort_of_perm_i (hp.trans hperm)
 have hsl : ss.length = s.length:=(hp.trans hperm).length_eq
 rw [hss] at hrow
 have hlen : (sortI s).length = ss.length:=by rw [← hss]; exact (List.mergeSort_perm _ _).length_eq
 obtain ⟨_,⟨rfl,h0⟩ | ⟨g,cap,cur,rfl,hgb,hgc,hcap,_,hcs,hct⟩⟩:=hrow
 ·have hnil : sortI s = []:=List.eq_nil_of_length_eq_zero (by omega)
  have hle:=withRow_le (w':=w') (ri:=⟨0,0,0,1,true⟩) hm.h hbel.block hbel.size hbel.os hbel.tape hbel.output
  have hsim:=withRow_simH (w':=w') (ri:=⟨0,0,0,1,true⟩) (x:=.row 1 (intsAV (sortI s)) true) hm.h hbel.block hbel.size (fun h=>by cases h) (by rw [hnil]; exact .inl ⟨rfl,rfl⟩)
  refine ⟨_,.ret (.row 2 0 (sortI s).length),_,_,rfl,hle,hsim,⟨_,rfl,?_⟩,rfl,rfl,rfl⟩
  simp only [Rep]
  exact ⟨trivial,_,rfl,.inl ⟨rfl,rfl,by rw [hnil]; rfl,rfl⟩⟩
 ·have hil : (intsAV (sortI s)).length = ss.length:=by rw [← hlen]; simp [intsAV]
  have hle:=withRow_le (w':=w') (ri:=⟨g,0,cap,1,false⟩) hm.h hbel.block hbel.size hbel.os hbel.tape hbel.output
  have hsim:=withRow_simH (w':=w') (ri:=⟨g,0,cap,1,false⟩) (x:=.row 1 (intsAV (sortI s)) true) hm.h hbel.block hbel.size (fun _=>hgb) (by
   refine .inr ⟨rfl,fun hp=>?_,⟨Nat.le_refl _,rfl⟩,by rw [hil]; exact hcap,⟨cur,_,0,0,hgc,fun i _=>by omega,by rw [hcs]; simp⟩,?_⟩
   ·have:=hm.h.Pold g hp
    omega
   ·rw [if_pos rfl]
    refine ⟨repY_ints _ 0 fun i hi=>?_,fun i _ hf=>?_⟩
    ·have hcur : cur[i]? = some (.int .i64 ((sortI s).getD i 0)):=by
      have e : (cur.toList.take (ss.length * 1))[i]? = ((sortI s).map encZ)[i]?:=by rw [hct]
      rw [List.getElem?_take_of_lt (by omega),Array.getElem?_toList,List.getElem?_map,List.getElem?_eq_getElem hi] at e
      rw [e]
      simp [List.getD,hi]
     show w'.cell? ⟨g,0 + i,none⟩ = _
     simp [World.cell?,hgc,hcur]
    ·have:=hm.h.Fold g i hf
     omega)
  refine ⟨_,.ret (.row 2 0 (sortI s).length),_,_,rfl,hle,hsim,⟨_,rfl,?_⟩,rfl,rfl,rfl⟩
  simp only [Rep]
  refine ⟨trivial,_,rfl,?_⟩
  rcases Nat.eq_zero_or_pos cap with h0 | h0
  ·subst h0
   obtain rfl : ss = []:=List.eq_nil_of_length_eq_zero (by omega)
   exact .inr (.inr ⟨rfl,rfl,by rw [hlen]; rfl,_,rfl⟩)
  ·exact .inr (.inl ⟨rfl,by rw [hlen]; simpa using hcap,h0,by rw [hlen]; simp⟩)
theorem h_graph_risingR (gl : List (Nat × AV)) (s : List Int) (hwf : ∀ x ∈ s,(Lit.int .i64 x).wf = true) (hl : s.length ≤ 16777216) :
  FnT (fun _=>True) Tryz.prog gl 123 [.map 0] [(0,setOf (fun n=>AV.int .i64 n) s)] 1 fun r h n=>r = .ret (.row 1 0 (sortI s).length) ∧ h = [(0,setOf (fun n=>AV.int .i64 n) s),(1,.row 1 (intsAV (sortI s)) true)] ∧ n = 2:=by
 refine FnT.intro Tryz.func123 rfl rfl (by simp [Tryz.ntmps123]) ?_ ?_
 ·rintro q hp' nx' ⟨rfl,rfl,rfl⟩
  exact ⟨by simp only [↓noTHm_cons,noTHm,↓noTBm_ints,noTBm,Bool.and_self],_,rfl,rfl⟩
 intro B_
 simp only [argEnv,Tryz.ntmps123,Tryz.results123]
 refine AWT.rS ?_
 refine AWT.rSC ?_
 refine OpsT.cN [0] (FnT.ofH (h_maps_Keys _ _)) ?_
 refine OpsT.rn ?_
 refine OpsT.cN [0,1] (h_slices_SortedR _ s hwf hl) ?_
 refine OpsT.rn ?_
 refine OpsT.nil ?_
 refine AWT.pre (σ':=⟨6,[(2,.row 1 0 (sortI s).length)],[(0,setOf (fun n=>AV.int .i64 n) s),(1,.row 1 (intsAV (sortI s)) true)],2,gl,1,[]⟩) (St.le.vw [0,2] (hpre:=(by decide : ∀ i,i < 1 → nth [0,2] i = some i))) ?_
 refine AWT.rt ?_
 trivial
theorem h_graph_From (gl : List (Nat × AV)) (d : Dc) (o : Pob) (hv : docE d = 0) (hc : chk o 1 = 0) (h : d.bulk ≤ 16777216) (ho : o.bulk ≤ 16777216) : FnH Tryz.prog gl 96 [.agg d.cells,.agg o.cells] [] 0 fun r h n=>r = .ret (.row 0 0 (fromP d o).length) ∧ h = [(0,.row 1 (intsAV (fromP d o)) true)] ∧ n = 1:=by
 refine FnH.ofT (FnT.intro Tryz.func96 rfl rfl (by simp [Tryz.ntmps96]) (by rintro q hp' nx' ⟨rfl,rfl,rfl⟩; exact ⟨rfl,_,rfl,rfl⟩) ?_)
 intro B_
 simp only [argEnv,Tryz.ntmps96,Tryz.results96]
 refine AWT.rS ?_
 refine AWT.rSC ?_
 refine OpsT.cN [] (FnT.ofH (h_graph_of _ d hv h)) ?_
 refine OpsT.rn ?_
 refine OpsT.nil ?_
 refine AWT.seq ?_
 refine AWT.rSC ?_
 refine OpsT.cs (awGuard.cG (fun hg=>c_value_Check _ o ho) ?_)
 refine OpsT.rn ?_
 refine OpsT.nil ?_
 refine AWT.c2 ?_ ?_
 ·intro h17
  exfalso
  simp [hc] at h17
 ·intro h17
  refine AWT.skip ?_
  refine AWT.rSC ?_
  refine OpsT.cN [2] (h_graph_reach _ d.items o (Nat.le_trans (items_len hv) (by omega)) (items_bulk h) ho) ?_
  refine OpsT.rn ?_
  refine OpsT.cN [3] (h_graph_risingR _ (reachS d.items o) (fun x hx=>litwf (reachS_wf hv _ x hx)) (Nat.le_trans (reachS_len d.items o) (Nat.le_trans (items_len hv) (by omega)))) ?_
  refine OpsT.rn ?_
  refine OpsT.nil ?_
  refine AWT.pre (σ':=⟨23,[(4,.row 0 0 (fromP d o).length)],[(0,.row 1 (intsAV (fromP d o)) true)],1,gl,0,[]⟩) (by
   rw [fromP,if_pos ⟨hv,hc⟩]
   exact St.le.vw [4]) ?_
  refine AWT.rt ?_
  trivial
theorem h_graph_Reach (gl : List (Nat × AV)) (d : Dc) (hv : docE d = 0) (h : d.bulk ≤ 16777216) : FnH Tryz.prog (gl) 72 [.agg d.cells] ([]) 0 (fun r h n=>r = .ret (.row 0 0 (fromP d d.trailer).length) ∧ h = [(0,.row 1 (intsAV (fromP d d.trailer)) true)] ∧ n = 1):=by
 refine FnH.intro Tryz.func72 rfl rfl (by simp [Tryz.ntmps72]) ?_
 simp only [argEnv,Tryz.ntmps72,Tryz.results72]
 refine AW.rS ?_
 refine AW.rSC ?_
 refine awOps.cons (awGuard.cH [] (h_graph_From _ d d.trailer hv (chk_top hv) h (Nat.le_trans (Nat.le_add_left _ _) h)) ?_)
 refine awOps.rn ?_
 refine AW.vw [1] [(2,.row 0 0 (fromP d d.trailer).length)] [(0,.row 1 (intsAV (fromP d d.trailer)) true)] ?_
 refine AW.rt ?_
 trivial
end Go.Proofs

namespace Go.Proofs
open Go Aw
set_option linter.unusedSimpArgs false
set_option linter.unusedVariables false
set_option maxRecDepth 100000
set_option maxHeartbeats 4000000
theorem take_splice {α : Type} {sp zs : List α} {i : Nat} (h : i ≤ sp.length) : List.take i (splice sp i zs) = sp.take i:=by
 simp only [splice,List.append_assoc]
 rw [List.take_append_of_le_length (by rw [List.length_take]; omega),List.take_take,Nat.min_self]
attribute [local go_sem] itemsAV_length take_strsAV app1_strsAV take_intsAV drop_intsAV app_intsAV app1_intsAV take_itemsAV app_itemsAV app1_itemsAV
theorem c_shift_reached_1 (gl : List (Nat × AV)) (R : List Int) (i : Itm) (hR : R.length ≤ 16777216:=by first | omega | exact u8_le _ | assumption | (simp; done) | (simp; omega)) : FnP Tryz.prog (gl) 74 [.agg i.cells,.tptr [.sl (intsAV R)]] fun r=>r = .ret (.bool (goneP R i)):=by
 refine FnP.intro Tryz.func74 rfl rfl (by simp [Tryz.ntmps74]) ?_
 simp only [argEnv,Tryz.ntmps74,Tryz.results74]
 refine AW.rS ?_
 refine AW.rSC ?_
 refine awOps.cons (awGuard.c1 (c_Contains_int _ R i.num) ?_)
 refine awOps.rn ?_
 refine AW.rt ?_
 all_goals first | contradiction | rfl | (simp; done) | (simp; omega)
theorem h_IndexFunc_gone (gl : List (Nat × AV)) (R : List Int) (hR : R.length ≤ 16777216) (l : List Itm) (hl : l.length ≤ 16777216:=by first | omega | exact u8_le _ | assumption | (simp; done) | (simp; omega)) : FnH Tryz.prog (gl) 57 [.row 0 0 l.length,.clos 74 [.ptr 1 0]] ([(0,.row 8 (itemsAV l) true),(1,.cells [.row 2 0 R.length]),(2,.row 1 (intsAV R) false)]) 3 (fun r h n=>r = .ret (.int .i64 (firstI (goneP R) l)) ∧ h = [(0,.row 8 (itemsAV l) true),(1,.cells [.row 2 0 R.length]),(2,.row 1 (intsAV R) false)] ∧ n = 3):=by
 refine FnH.intro Tryz.func57 rfl rfl (by simp [Tryz.ntmps57]) ?_
 simp only [argEnv,Tryz.ntmps57,Tryz.results57]
 refine AW.rS ?_
 refine AW.seq ?_
 refine AW.rS ?_
 refine AW.block ?_
 refine AW.lk (S:={ i : Nat // i ≤ l.length ∧ ∀ j,j < i → goneP R (l.getD j Itm.zero) = false }) [0,1,7] (fun s_=>[(8,.int .i64 s_.1)]) (fun s_=>[(0,.row 8 (itemsAV l) true),(1,.cells [.row 2 0 R.length]),(2,.row 1 (intsAV R) false)]) 3 (fun s_=>l.length - s_.1) ⟨0,Nat.zero_le _,fun j h=>absurd h (by omega)⟩ ?_ ?_
 ·refine St.le.vw [0,1,2] (hpre:=lt3)
 rintro ⟨i,hi,hs⟩
 try dsimp only at hi
 try dsimp only at hs
 refine AW.rS ?_
 refine AW.seq ?_
 refine AW.c2 ?_ ?_
 ·intro h8
  refine AW.skip ?_
  refine AW.seq ?_
  refine AW.block ?_
  refine AW.rS ?_
  refine AW.rSC ?_
  refine awOps.cons (awGuard.c1 (c_shift_reached_1 _ R (l.getD i Itm.zero)) ?_)
  refine awOps.rn ?_
  refine AW.c2 ?_ ?_
  ·intro h16
   refine AW.rS ?_
   refine AW.rt ?_
   rw [firstI_hit h8 hs h16]
  ·intro h16
   refine AW.skip ?_
   refine AW.rL ?_
   refine ⟨⟨i + 1,by omega,fun j hj=>(Nat.lt_or_ge j i).elim (hs j) (fun h=>(show j = i by omega) ▸ (by simpa using h16))⟩,?_,?_⟩
   ·refine St.le.vw [0,1,2] (hpre:=lt3)
   ·simp only []; omega
 ·intro h8
  refine AW.exit ?_
  refine AW.rS ?_
  refine AW.rt ?_
  rw [firstI_miss (fun j hj=>hs j (by omega))]
theorem h_DeleteFunc_gone (gl : List (Nat × AV)) (R : List Int) (hR : R.length ≤ 16777216) (l : List Itm) (hl : l.length ≤ 16777216:=by first | omega | exact u8_le _ | assumption | (simp; done) | (simp; omega)) : FnH Tryz.prog (gl) 73 [.row 0 0 l.length,.clos 74 [.ptr 1 0]] ([(0,.row 8 (itemsAV l) true),(1,.cells [.row 2 0 R.length]),(2,.row 1 (intsAV R) false)]) 3 (fun r h n=>r = .ret (.row 0 0 (l.filter fun x=>!goneP R x).length) ∧ h = [(0,.row 8 (itemsAV (l.filter fun x=>!goneP R x)) true),(1,.cells [.row 2 0 R.length]),(2,.row 1 (intsAV R) false)] ∧ n = 3):=by
 refine FnH.intro Tryz.func73 rfl rfl (by simp [Tryz.ntmps73]) ?_
 simp only [argEnv,Tryz.ntmps73,Tryz.results73]
 refine AW.rS ?_
 refine AW.rSC ?_
 refine awOps.cons (awGuard.cH [0,1,2] (h_IndexFunc_gone _ R hR l) ?_)
 refine awOps.rn ?_
 refine AW.seq ?_
 refine AW.rS ?_
 refine AW.c2 ?_ ?_
 ·intro h7
  have hall : ∀ x ∈ l,goneP R x = false:=((firstI_cases (goneP R) l).resolve_right (by rintro ⟨i,e,_⟩; omega)).2
  have hfl : l.filter (fun x=>!goneP R x) = l:=List.filter_eq_self.2 fun x hx=>by rw [hall x hx] <;> rfl
  refine AW.rS ?_
  refine AW.rt ?_
  rw [hfl]
  exact ⟨rfl,rfl⟩
 ·intro h7
  rcases firstI_cases (goneP R) l with ⟨e,_⟩ | ⟨i0,e,hi0,hs0,hp0⟩
  ·exact absurd e h7
  rw [e]
  refine AW.skip ?_
  refine AW.seq ?_
  refine AW.rS ?_
  refine AW.block ?_
  refine AW.lk (S:={ p : List Itm × Nat × Nat // delJ (goneP R) l p.1 p.2.1 p.2.2 ∧ p.2.1 < p.2.2 }) [0,1] (fun s_=>[(5,.int .i64 s_.1.2.1),(6,.int .i64 s_.1.2.2)]) (fun s_=>[(0,.row 8 (itemsAV s_.1.1) true),(1,.cells [.row 2 0 R.length]),(2,.row 1 (intsAV R) false)]) 3 (fun s_=>l.length - s_.1.2.2) ⟨(l,i0,i0 + 1),delJ_top hi0 hs0 hp0,Nat.lt_succ_self _⟩ ?_ ?_
  ·refine St.le.vw [0,1,2] (hpre:=lt3)
  rintro ⟨⟨cur,i,j⟩,hd,hij⟩
  try dsimp only at hd
  try dsimp only at hij
  have hcl:=hd.1
  have hjb:=hd.2.2.1
  refine AW.seq ?_
  refine AW.rS ?_
  refine AW.c2 ?_ ?_
  ·intro h18
   have hjl : j < l.length:=by omega
   have hat:=delJ_at hd hjl
   refine AW.skip ?_
   refine AW.seq ?_
   refine AW.block ?_
   refine AW.rS ?_
   refine AW.rSC ?_
   refine awOps.cons (awGuard.c1 (c_shift_reached_1 _ R (cur.getD j Itm.zero)) ?_)
   refine awOps.rn ?_
   refine AW.c2 ?_ ?_
   ·intro h26
    have hk:=delJ_keep hd hjl hij (by rw [← hat]; simpa using h26)
    refine AW.rS ?_
    refine AW.rL ?_
    refine AW.rL ?_
    refine ⟨⟨(cur.set i (l.getD j Itm.zero),i + 1,j + 1),hk,by dsimp only; omega⟩,?_,?_⟩
    ·refine St.le.vx [0,1,2] (hpre:=lt3) ?_; rw [itemsAV_set',hat]
    ·simp only []; omega
   ·intro h26
    have hk:=delJ_skip hd hjl (by rw [← hat]; simpa using h26)
    refine AW.skip ?_
    refine AW.rL ?_
    refine ⟨⟨(cur,i,j + 1),hk,by dsimp only; omega⟩,?_,?_⟩
    ·refine St.le.vw [0,1,2] (hpre:=lt3)
    ·simp only []; omega
  ·intro h18
   refine AW.exit ?_
   have hend:=delJ_end hd (by omega)
   refine AW.tf 0 (fun sp hsp hse=>?_)
   rw [itemsAV_length,hcl] at hsp hse
   have hij2 : i ≤ l.length:=by omega
   refine AW.rSC ?_
   refine awOps.cons ?_
   refine awGuard.fcr ?_ ?_
   ·first | omega | (simp; done) | (simp; omega)
   refine awOps.rn ?_
   refine AW.uf 0 i ?_
   refine AW.rS ?_
   refine AW.rt ?_
   have hi2 : (l.filter fun x=>!goneP R x).length = i:=by
    rw [← hend,List.length_take]
    omega
   have ht : ∀ zs : List (List AV),List.take i (splice sp i zs) = itemsAV (l.filter fun x=>!goneP R x):=fun zs=>by
    rw [take_splice (by omega),← hend,← take_itemsAV,← hse,List.take_take,Nat.min_eq_left hij2]
   rw [ht,hi2]
   exact ⟨rfl,rfl⟩
theorem c_shift_reached (gl : List (Nat × AV)) (d : Dc) (h : d.bulk ≤ 16777216) (hd : docE d = 0) : FnP Tryz.prog (gl) 45 [.agg d.cells] fun r=>r = .ret (.agg (reachedD (compD d)).cells):=by
 refine FnP.intro Tryz.func45 rfl rfl (by simp [Tryz.ntmps45]) ?_
 simp only [argEnv,Tryz.ntmps45,Tryz.results45]
 have hcb:=comp_bulk d
 have hcd:=comp_doc hd
 have hfl:=fromP_len (compD d) (compD d).trailer
 refine AW.rS ?_
 refine AW.trim [1,2] ?_
 refine AW.rSC ?_
 refine awOps.cons (awGuard.cH [] (h_shift_Compact _ d h) ?_)
 refine awOps.rn ?_
 refine AW.trim [1,2] ?_
 refine AW.rSC ?_
 refine awOps.cons (awGuard.cL (h_graph_Reach _ (compD d) hcd (by omega)) ?_)
 refine awOps.rn ?_
 refine AW.trim [1,2,3] ?_
 refine AW.fz [3] ?_
 refine AW.rSC ?_
 refine awOps.cons (awGuard.cH [2,4,3] (h_DeleteFunc_gone _ (fromP (compD d) (compD d).trailer) (by omega) (compD d).items (by have:=ibulk_len (compD d).items; have : (compD d).bulk = ibulk (compD d).items + (compD d).trailer.bulk:=rfl; omega)) ?_)
 refine awOps.rn ?_
 refine AW.trim [1,2] ?_
 refine AW.rS ?_
 refine AW.trim [2] ?_
 refine AW.rt ?_
 rw [reached_from hcd (by omega)]
 rfl
theorem c_shift_Alike (gl : List (Nat × AV)) (a b : Dc) (ha : a.bulk ≤ 16777216) (hb : b.bulk ≤ 16777216) : FnP Tryz.prog (gl) 15 [.agg a.cells,.agg b.cells] fun r=>r = .ret (.bool (alikeB a b)):=by
 refine FnP.intro Tryz.func15 rfl rfl (by simp [Tryz.ntmps15]) ?_
 simp only [argEnv,Tryz.ntmps15,Tryz.results15]
 refine AW.rS ?_
 refine AW.trim [2,3] ?_
 refine AW.seq ?_
 refine AW.rSC ?_
 refine awOps.cons (awGuard.c1 (c_docs_Check _ a ha) ?_)
 refine awOps.rn ?_
 refine awOps.cons (awGuard.cG (fun hg=>c_docs_Check _ b hb) ?_)
 refine awOps.rn ?_
 refine AW.trim [2,3,12] ?_
 refine AW.c2 ?_ ?_
 ·intro h8
  refine AW.rS ?_
  refine AW.trim [4] ?_
  refine AW.rt ?_
  have hn : ¬ (docE a = 0 ∧ docE b = 0):=fun hh=>h8.elim (fun h=>h hh.1) fun h=>h hh.2
  unfold alikeB
  rw [show (decide (docE a = 0) && decide (docE b = 0)) = false from by simpa using hn]
  rfl
 ·intro h8
  have hda : docE a = 0:=h8.1
  have hdb : docE b = 0:=h8.2
  refine AW.skip ?_
  refine AW.cf 2 0 ?_
  refine AW.cf 3 1 ?_
  refine AW.dSC [(0,0),(2,0),(1,2),(3,2),(4,2),(5,0)] ?_
  refine awPlan.only rfl ?_
  refine awGuard.c1 (c_shift_reached _ a ha hda) ?_
  refine awPlan.rn ?_
  refine awPlan.only rfl ?_
  refine awGuard.c1 (c_shift_reached _ b hb hdb) ?_
  refine awPlan.rn ?_
  refine awPlan.only rfl ?_
  refine awGuard.c1 (c_docs_Same _ (reachedD (compD a)) (reachedD (compD b)) (by have:=reached_bulk (compD a); have:=comp_bulk a; omega)) ?_
  refine awPlan.rn ?_
  refine AW.trim [4] ?_
  refine AW.rt ?_
  unfold alikeB
  rw [decide_eq_true hda,decide_eq_true hdb]
  rfl
end Go.Proofs

namespace Aw
open Go
variable {d x : Dc} {o : Pob}
def impM (d x : Dc) (o : Pob) : List (Int × Itm):=mapB [] (metO x.items o) (impT d x o) (metO x.items o).length
theorem imp_found {n : Int} (hn : n ∈ metO x.items o) : foundI (impM d x o) n = ⟨newN (metO x.items o) (impT d x o) n,0,Pob.null⟩:=by
 obtain ⟨hk,e⟩:=nidx_at hn
 have:=mapB_in (M:=[]) (to:=impT d x o) (metO_nodup x.items o) (metO x.items o).length (Nat.le_refl _) hk
 rw [e] at this
 unfold foundI impM
 rw [this,newN,if_pos hn]
 rfl
theorem imp_turn {q : Pob} (hq : ∀ r ∈ q.rr,ledB x.items r = true → r.num ∈ metO x.items o) : q.turn (turnM x.items (impM d x o)) = q.turn (turnF x.items (metO x.items o) (impT d x o)):=by
 refine turnM_eq fun r hr hb=>?_
 have hm:=hq r hr hb
 rw [imp_found hm,newG,if_pos hm]
 exact ⟨rfl,rfl⟩
theorem imp_items (hx : docE x = 0) : (metO x.items o).map (turnMI x.items (impM d x o)) = impL d x o:=by
 unfold impL
 refine List.map_congr_left fun n hn=>?_
 obtain ⟨i,hi,hin⟩:=metO_in n hn
 have hl : lookI x.items n = some i:=(look_some (doc_incr hx)).2 ⟨hi,hin⟩
 unfold turnMI turnI
 rw [imp_found hn,hl]
 simp only [Option.getD_some]
 rw [imp_turn fun r hr hb=>(metO_closed x.items o).2 n hn i hl r hr hb,hin,newG,if_pos hn]
theorem imp_sort (hx : docE x = 0) : sortN (impL d x o) = impL d x o:=by
 refine sorted_eq (sortN_perm _) (sortN_sorted _) ?_ ?_
 ·have h:=imp_nums (d:=d) (o:=o) hx
  have hi : (impT d x o).Pairwise (· < ·):=upTo_incr _ _
  rw [← h,List.pairwise_map] at hi
  exact hi.imp fun h=>by omega
 ·have:=((sortN_perm (impL d x o)).map (·.num)).nodup_iff.2 (by rw [imp_nums hx]; exact upTo_nodup _ _)
  exact this
theorem imp_nodup (hx : docE x = 0) : ((metO x.items o).map fun n=>(foundI (impM d x o) n).num).Nodup:=by
 have h:=imp_nums (d:=d) (o:=o) hx
 rw [← imp_items hx,List.map_map] at h
 have h2 : ((metO x.items o).map fun n=>(foundI (impM d x o) n).num) = impT d x o:=h
 rw [h2]
 exact upTo_nodup _ _
theorem imp_range (hl : 1 ≤ lastN d.items) (h : lastN d.items - 1 + ((metO x.items o).length : Int) ≤ 8191) (n : Int) : 0 ≤ (foundI (impM d x o) n).num ∧ (foundI (impM d x o) n).num ≤ 16777216:=by
 by_cases hn : n ∈ metO x.items o
 ·rw [imp_found hn]
  show 0 ≤ newN _ _ n ∧ newN _ _ n ≤ 16777216
  obtain ⟨k,hk,e⟩:=mem_at hn
  have:=imp_new (d:=d) hk
  rw [e] at this
  omega
 ·unfold foundI impM
  rw [mapB_out _ (Nat.le_refl _) hn]
  simp [mfind,Itm.zero]
end Aw
