/- A part of the proof: no condition of its own. -/
import Derived.Test.YtlamdhcfojligaaGreatPart6
namespace Go.Proofs
open Go Aw
set_option linter.unusedSimpArgs false
set_option linter.unusedVariables false
set_option maxRecDepth 100000
set_option maxHeartbeats 4000000
attribute [local go_sem] take_strsAV app1_strsAV take_intsAV drop_intsAV app_intsAV app1_intsAV take_itemsAV app_itemsAV app1_itemsAV
attribute [local go_sem] itemsAV_length mres VI
attribute [local go_sem ↓ high] rids_cmapOf noTBm_net renHp_cons noTHm_cons
theorem c_shift_Import (gl : List (Nat × AV)) (d x : Dc) (o : Pob) (hdb : d.bulk ≤ 16777216) (hxb : x.bulk ≤ 16777216) (hob : o.bulk ≤ 16777216) : FnP Tryz.prog (gl) 18 [.agg d.cells,.agg x.cells,.agg o.cells] fun r=>r = .ret (.tup [.agg (impD d x o).cells,.agg (impO d x o).cells,.int .i64 (impE d x o)]):=by
 refine FnP.intro Tryz.func18 rfl rfl (by simp [Tryz.ntmps18]) ?_
 simp only [argEnv,Tryz.ntmps18,Tryz.results18]
 have hd9 : d.bulk = ibulk d.items + d.trailer.bulk:=rfl
 have hx9 : x.bulk = ibulk x.items + x.trailer.bulk:=rfl
 have hdl:=ibulk_len d.items
 have hxl:=ibulk_len x.items
 have hml:=metO_len x.items o
 refine AW.rS ?_
 refine AW.trim [3,4,5,6,7] ?_
 refine AW.cf 3 0 ?_
 refine AW.cf 4 1 ?_
 refine AW.cf 5 2 ?_
 refine AW.seq ?_
 refine AW.dSC [(0,0),(2,0),(4,0),(7,0),(1,2),(3,2),(5,2),(6,2)] ?_
 refine awPlan.only rfl ?_
 refine awGuard.c1 (c_docs_Check _ d hdb) ?_
 refine awPlan.rn ?_
 refine awPlan.only rfl ?_
 refine awGuard.c1 (c_docs_Check _ x hxb) ?_
 refine awPlan.rn ?_
 refine awPlan.only rfl ?_
 refine awGuard.c1 (c_value_Check _ o hob) ?_
 refine awPlan.rn ?_
 refine AW.trim [3,4,5,6,7,26,27] ?_
 refine AW.block ?_
 refine AW.un 3 ?_
 refine AW.rS ?_
 refine AW.trim [3,4,5,6,7,26,27,28] ?_
 refine AW.seq ?_
 refine AW.c2 ?_ ?_
 ·intro h14
  refine AW.skip ?_
  refine AW.seq ?_
  refine AW.block ?_
  refine AW.rS ?_
  refine AW.trim [3,4,5,6,7,10,26,27] ?_
  refine AW.rS ?_
  refine AW.trim [3,4,5,6,7,10,26,27,31] ?_
  refine AW.c2 ?_ ?_
  ·intro h20
   have h7 : docE d ≠ 0:=by simpa using h20
   have he : impE d x o = docE d:=if_pos h7
   refine AW.rS ?_
   refine AW.trim [6,7,8] ?_
   refine AW.rt ?_
   rw [impD,impO,if_pos (by rw [he]; exact h7),if_pos (by rw [he]; exact h7),he]
   rfl
  ·intro h20
   have hd : docE d = 0:=by simpa using h20
   have hlr2:=last_range hd
   refine AW.skip ?_
   refine AW.rL ?_
   refine AWR.s ?_
   refine AW.rS ?_
   refine AW.trim [3,4,5,6,7,26,27,28] ?_
   refine AW.seq ?_
   refine AW.c2 ?_ ?_
   ·intro h29
    refine AW.skip ?_
    refine AW.seq ?_
    refine AW.block ?_
    refine AW.rS ?_
    refine AW.trim [3,4,5,6,7,10,26,27] ?_
    refine AW.rS ?_
    refine AW.trim [3,4,5,6,7,10,26,27,31] ?_
    refine AW.c2 ?_ ?_
    ·intro h35
     have h17 : docE x ≠ 0:=by simpa using h35
     have he : impE d x o = docE x:=by unfold impE; rw [if_neg (by rw [hd]; decide),if_pos h17]
     refine AW.rS ?_
     refine AW.trim [6,7,8] ?_
     refine AW.rt ?_
     rw [impD,impO,if_pos (by rw [he]; exact h17),if_pos (by rw [he]; exact h17),he]
     rfl
    ·intro h35
     have hx : docE x = 0:=by simpa using h35
     refine AW.skip ?_
     refine AW.rL ?_
     refine AWR.s ?_
     refine AW.rS ?_
     refine AW.trim [3,4,5,6,7,26,27,28] ?_
     refine AW.seq ?_
     refine AW.c2 ?_ ?_
     ·intro h44
      refine AW.skip ?_
      refine AW.seq ?_
      refine AW.block ?_
      refine AW.rS ?_
      refine AW.trim [3,4,5,6,7,10,26,27] ?_
      refine AW.rS ?_
      refine AW.trim [3,4,5,6,7,10,26,27,31] ?_
      refine AW.c2 ?_ ?_
      ·intro h50
       have h27 : chk o 1 ≠ 0:=by simpa using h50
       have he : impE d x o = chk o 1:=by unfold impE; rw [if_neg (by rw [hd]; decide),if_neg (by rw [hx]; decide),if_pos h27]
       refine AW.rS ?_
       refine AW.trim [6,7,8] ?_
       refine AW.rt ?_
       rw [impD,impO,if_pos (by rw [he]; exact h27),if_pos (by rw [he]; exact h27),he]
       rfl
      ·intro h50
       have ho : chk o 1 = 0:=by simpa using h50
       refine AW.skip ?_
       refine AW.rL ?_
       refine AWR.s ?_
       refine AW.rS ?_
       refine AW.trim [3,4,5,6,7,26,27,28] ?_
       refine AW.seq ?_
       refine AW.c2 ?_ ?_
       ·intro h59
        first | contradiction | (simp at h59; done) | (exfalso; omega) | (exfalso; revert h59; decide)
       ·intro h59
        refine AW.exit ?_
        refine AW.rS ?_
        refine AW.trim [3,4,5,6,7,11] ?_
        refine AW.join ⟨109,[(3,.cptr d.cells),(4,.cptr x.cells),(5,.cptr o.cells),(6,.ptr 3 0),(7,.ptr 4 0),(11,.int .i64 (lastN d.items - 1))],[(3,.cells [.raw (.slice none 0 0),.int .i64 0,.int .i64 0,.int .i64 0,.str [],.raw (.slice none 0 0),.raw (.slice none 0 0)]),(4,.cells [.int .i64 0,.int .i64 0,.int .i64 0,.str [],.raw (.slice none 0 0),.raw (.slice none 0 0)])],5,gl,0,[]⟩ ?_ ?_
        ·skip
         refine AW.rS ?_
         refine AW.trim [3,4,5,6,7,11,12] ?_
         refine AW.rS ?_
         refine AW.trim [3,4,5,6,7,11,12,40] ?_
         refine AW.c2 ?_ ?_
         ·intro h65
          rw [show lastN d.items - 1 = (d.items.getD (d.items.length - 1) Itm.zero).num from by unfold lastN; rw [if_neg (by omega)]; omega]
          refine AW.rL ?_
          refine St.le.vw [0,1,2,3,4]
         ·intro h65
          rw [show lastN d.items - 1 = 0 from by unfold lastN; rw [if_pos (by omega)]; rfl]
          refine AW.skip ?_
          refine St.le.vw [0,1,2,3,4]
        ·skip
         refine AW.rSC ?_
         refine awOps.cons (awGuard.cH [] (h_shift_from _ x o 1 hxb hx ho hob) ?_)
         refine awOps.rn ?_
         refine AW.trim [3,4,5,6,7,11,13] ?_
         refine AW.clo 13 ?_
         refine AW.seq ?_
         refine AW.rS ?_
         refine AW.trim [3,4,5,6,7,11,13,55] ?_
         refine AW.c2 ?_ ?_
         ·intro h75
          have he : impE d x o = 30:=by unfold impE; rw [if_neg (by rw [hd]; decide),if_neg (by rw [hx]; decide),if_neg (by rw [ho]; decide),if_pos (by omega)]
          refine AW.rS ?_
          refine AW.trim [6,7,8] ?_
          refine AW.rt ?_
          rw [impD,impO,if_pos (by rw [he]; decide),if_pos (by rw [he]; decide),he]
          rfl
         ·intro h75
          have he : impE d x o = 0:=by unfold impE; rw [if_neg (by rw [hd]; decide),if_neg (by rw [hx]; decide),if_neg (by rw [ho]; decide),if_neg (by omega)]
          obtain ⟨eD,eO⟩:=imp_eq he
          refine AW.skip ?_
          refine AW.rSC ?_
          refine awOps.cons ?_
          refine awGuard.mkM0 VI (keyOk_int .i64) ?_
          refine awOps.rn ?_
          refine AW.trim [3,4,5,6,7,11,13,14] ?_
          refine AW.seq ?_
          refine AW.rS ?_
          refine AW.trim [3,4,5,6,7,11,13,14,59,60,61] ?_
          refine AW.block ?_
          refine AW.lk (S:={ k : Nat // k ≤ (metO x.items o).length }) [3,4,5,6,7,11,13,14,59,60] (fun s_=>[(61,.int .i64 s_.1)]) (fun s_=>[(3,.cells [.raw (.slice none 0 0),.int .i64 0,.int .i64 0,.int .i64 0,.str [],.raw (.slice none 0 0),.raw (.slice none 0 0)]),(4,.cells [.int .i64 0,.int .i64 0,.int .i64 0,.str [],.raw (.slice none 0 0),.raw (.slice none 0 0)]),(6,mapOf KI VI (mapB [] (metO x.items o) (impT d x o) s_.1))]) 7 (fun s_=>(metO x.items o).length - s_.1) ⟨0,Nat.zero_le _⟩ ?_ ?_
          ·refine St.le.vw [0,1,2,3,4,5,6]
          rintro ⟨k,hk⟩
          try dsimp only at hk
          refine AW.rS ?_
          refine AW.trim [3,4,5,6,7,11,13,14,59,60,61,62] ?_
          refine AW.seq ?_
          refine AW.c2 ?_ ?_
          ·intro h89
           have hk2 : k < (metO x.items o).length:=by omega
           have htk : (impT d x o).getD k 0 = lastN d.items + (k : Int):=upTo_get hk2
           refine AW.skip ?_
           refine AW.seq ?_
           refine AW.block ?_
           refine AW.rS ?_
           refine AW.trim [3,4,5,6,7,11,13,14,15,16,59,60,61] ?_
           refine AW.rLC ?_
           refine awOps.cons ?_
           refine awGuard.upM (V:=VI) (keyOk_int .i64) (⟨lastN d.items - 1 + 1 + (k : Int),0,Pob.null⟩ : Itm) ?_
           refine awOps.rn ?_
           refine AW.rL ?_
           refine ⟨⟨k + 1,by omega⟩,?_,?_⟩
           ·refine St.le.vx [0,1,2,3,4,5,6] ?_
            rw [mapB_succ,htk,show lastN d.items + (k : Int) = lastN d.items - 1 + 1 + (k : Int) from by omega]
           ·simp only []; omega
          ·intro h89
           obtain rfl : k = (metO x.items o).length:=by omega
           have hrg:=imp_range (d:=d) (x:=x) (o:=o) hlr2.1 (by omega)
           have hnd:=imp_nodup (d:=d) (o:=o) hx
           have hit:=imp_items (d:=d) (o:=o) hx
           have hst:=imp_sort (d:=d) (o:=o) hx
           have htn:=imp_turn (d:=d) (x:=x) (o:=o) (q:=o) (metO_closed x.items o).1
           rw [show mapB [] (metO x.items o) (impT d x o) (metO x.items o).length = impM d x o from rfl]
           generalize impM d x o = M at *
           refine AW.exit ?_
           refine AW.rSC ?_
           refine awOps.cons (awGuard.c1 (c_value_Clone _ d.trailer (by omega)) ?_)
           refine awOps.rn ?_
           refine AW.trim [3,4,5,6,7,13,14,17] ?_
           refine AW.seq ?_
           refine AW.rS ?_
           refine AW.trim [4,5,6,7,13,14,17,79,80,81] ?_
           refine AW.pre (St.le.nilcell 7 0 8 (by (simp only [go_sem,seval]; iterate 2 try (simp (disch:=omega) only [zq]; try simp only [go_sem,seval])); exact rfl) (by exact rfl)) ?_
           refine wk ?_
           refine AW.block ?_
           refine AW.lk (S:={ i : Nat // i ≤ d.items.length }) [4,5,6,7,13,14,17,79,80] (fun s_=>[(81,.int .i64 s_.1)]) (fun s_=>[(3,.cells [.raw (.slice none 0 0),.int .i64 0,.int .i64 0,.int .i64 0,.str [],.raw (.slice none 0 0),.raw (.slice none 0 0)]),(4,.cells [.int .i64 0,.int .i64 0,.int .i64 0,.str [],.raw (.slice none 0 0),.raw (.slice none 0 0)]),(6,mapOf KI VI M),(7,.cells [.row 8 0 (d.items.take s_.1).length,.int .i64 d.trailer.kind,.int .i64 d.trailer.num,.int .i64 d.trailer.gen,.str d.trailer.str,.sl (strsAV d.trailer.keys),.sl (objsAV d.trailer.kids)]),(8,.row 8 (itemsAV (d.items.take s_.1)) true)]) 9 (fun s_=>d.items.length - s_.1) ⟨0,Nat.zero_le _⟩ ?_ ?_
           ·refine St.le.vw [0,1,2,3,4,5,6,7,8]
           rintro ⟨i,hi⟩
           try dsimp only at hi
           refine AW.rS ?_
           refine AW.trim [4,5,6,7,13,14,17,79,80,81,82] ?_
           refine AW.seq ?_
           refine AW.c2 ?_ ?_
           ·intro h109
            have hi2 : i < d.items.length:=by omega
            have hti : d.items.take (i + 1) = d.items.take i ++ [d.items.getD i Itm.zero]:=by rw [List.take_succ_eq_append_getElem hi2]; simp [List.getD,hi2]
            have htl : (d.items.take i).length = i:=by simp; omega
            have hbi:=ibulk_get hi2
            refine AW.skip ?_
            refine AW.seq ?_
            refine AW.block ?_
            refine AW.rS ?_
            refine AW.trim [4,5,6,7,13,14,17,19,79,80,81] ?_
            refine AW.rSC ?_
            refine awOps.cons (awGuard.c1 (c_value_Clone _ (d.items.getD i Itm.zero).obj (by omega)) ?_)
            refine awOps.rn ?_
            refine AW.trim [4,5,6,7,13,14,17,19,79,80,81] ?_
            refine AW.rL ?_
            refine AW.rL ?_
            refine ⟨⟨i + 1,by omega⟩,?_,?_⟩
            ·refine St.le.vx [0,1,2,3,4,5,6,7,11] ?_
             rw [hti]; exact ⟨by simp,rfl⟩
            ·simp only []; omega
           ·intro h109
            obtain rfl : i = d.items.length:=by omega
            rw [List.take_length]
            have hI:=h_shift_items gl x (metO x.items o) M hxb hx hrg (fun n hn=>has_mem.2 (metO_in n hn)) hnd (by omega)
            have hLl : (metO x.items o).length = (impL d x o).length:=by rw [← hit,List.length_map]
            rw [hit,hst,hLl] at hI
            have hLb : (impL d x o).length ≤ 16777216:=by omega
            refine AW.exit ?_
            refine AW.tG (σf:=?sf121) (.take 0 0 (.take 2 0 (.take 3 0 (.take 4 0 (.fork 1 (.fork 5 (.fork 6 (.take 7 0 (.fork 8 .done .stop)) .stop) .stop) (.fork 5 (.take 1 2 (.fork 6 (.take 7 0 (.fork 8 .done .stop)) .stop)) .stop)))))) ?tree121 ?rest121
            case tree121 =>
             repeat' (first | exact True.intro | refine awTree.tk ?_ | refine awTree.fC (c_shift_numbers_items ..) ?_ ?_ | refine awTree.fH rfl (awGuard.cHm [6] hI ?_) ?_ | refine awTree.fA ?_ ?_ | refine awTree.fB ?_ ?_ | refine awTree.fK ?_ ?_ | exact awTree.dn)
            case rest121 =>
            refine AW.trim [4,5,6,7,14,17] ?_
            refine AW.tG (σf:=?sf122) (.take 1 0 (.take 2 0 (.take 3 0 (.fork 0 (.fork 4 (.fork 5 (.fork 6 (.take 7 0 .done) .stop) .stop) .stop) (.fork 4 (.take 0 2 (.fork 5 (.fork 6 (.take 7 0 .done) .stop) .stop)) .stop))))) ?tree122 ?rest122
            case tree122 =>
             repeat' (first | exact True.intro | refine awTree.tk ?_ | refine awTree.fC (c_shift_other _ x o M 1 hxb hrg hob ho) ?_ ?_ | refine awTree.fA ?_ ?_ | refine awTree.fB ?_ ?_ | refine awTree.fK ?_ ?_ | exact awTree.dn)
            case rest122 =>
            refine AW.trim [6,7,8] ?_
            refine AW.rt ?_
            refine ⟨by simp,?_⟩
            rw [eD,eO,he,htn,← List.length_append,List.take_length]
     ·intro h44
      first | contradiction | (simp at h44; done) | (exfalso; omega) | (exfalso; revert h44; decide)
   ·intro h29
    first | contradiction | (simp at h29; done) | (exfalso; omega) | (exfalso; revert h29; decide)
 ·intro h14
  first | contradiction | (simp at h14; done) | (exfalso; omega) | (exfalso; revert h14; decide)
end Go.Proofs

namespace Go.Proofs
open Go Aw
set_option linter.unusedSimpArgs false
set_option linter.unusedVariables false
set_option maxRecDepth 100000
set_option maxHeartbeats 4000000
attribute [local go_sem] take_strsAV app1_strsAV take_intsAV drop_intsAV app_intsAV app1_intsAV take_itemsAV app_itemsAV app1_itemsAV cond_true cond_false
def shOb (a b : Int) : Pob:=.mk 7 0 0 [] [[65],[66]] [refO a 0,refO b 0]
def shTr (a : Int) : Pob:=.mk 7 0 0 [] [rootK] [refO a 0]
def shD : Dc:=⟨[⟨5,0,shOb 9 7⟩,⟨7,0,intO 70⟩,⟨9,0,intO 90⟩],shTr 5⟩
def shC : Dc:=⟨[⟨1,0,shOb 2 3⟩,⟨2,0,intO 90⟩,⟨3,0,intO 70⟩],shTr 1⟩
def shM : Dc:=⟨[⟨7,0,intO 70⟩,⟨8,0,shOb 9 7⟩,⟨9,0,intO 90⟩],shTr 8⟩
def shX : Dc:=⟨[⟨5,0,shOb 9 7⟩,⟨7,0,intO 70⟩,⟨9,0,intO 90⟩,⟨10,0,intO 70⟩],shTr 5⟩
theorem sh1 : compD shD = shC:=by decide +kernel
theorem sh2 : mapE shD [5] [7] = 9:=by decide +kernel
theorem sh3 : mapE shD [6] [1] = 8:=by decide +kernel
theorem sh4 : mapE shD [5] [8] = 0:=by decide +kernel
theorem sh5 : mapD shD [5] [8] = shM:=by decide +kernel
theorem sh6 : impE shD shD (refO 7 0) = 0:=by decide +kernel
theorem sh7 : impD shD shD (refO 7 0) = shX:=by decide +kernel
theorem sh8 : impO shD shD (refO 7 0) = refO 10 0:=by decide +kernel
theorem sh9 : alikeB shM shC = true:=by decide +kernel
theorem sh10 : alikeB Dc.zero Dc.zero = false:=by decide +kernel
theorem sh11 : shD.bulk ≤ 16777216 ∧ shM.bulk ≤ 16777216 ∧ shC.bulk ≤ 16777216 ∧ Dc.zero.bulk ≤ 16777216 ∧ (refO 7 0).bulk ≤ 16777216:=by decide +kernel
theorem sh12 : mapD shD [5] [7] = Dc.zero ∧ mapD shD [6] [1] = Dc.zero:=by decide +kernel
theorem c_law30_doc (gl : List (Nat × AV))  : FnP Tryz.prog (gl) 27 [] fun r=>r = .ret (.agg shD.cells):=by
 refine FnP.intro Tryz.func27 rfl rfl (by simp [Tryz.ntmps27]) ?_
 simp only [argEnv,Tryz.ntmps27,Tryz.results27]
 refine AW.rS ?_
 refine AW.trim [0] ?_
 refine AW.rS ?_
 refine AW.trim [0,1] ?_
 refine AW.rS ?_
 refine AW.trim [0] ?_
 refine AW.rt ?_
 rfl
theorem se1 (gl : List (Nat × AV)) : FnP Tryz.prog gl 13 [.agg shD.cells] fun r=>r = .ret (.agg [.sl [[.int .i64 1,.int .i64 0,.int .i64 7,.int .i64 0,.int .i64 0,.str [],.sl [[.str [65]],[.str [66]]],.sl [[.int .i64 8,.int .i64 2,.int .i64 0,.str [],.sl [],.sl []],[.int .i64 8,.int .i64 3,.int .i64 0,.str [],.sl [],.sl []]]],[.int .i64 2,.int .i64 0,.int .i64 2,.int .i64 90,.int .i64 0,.str [],.sl [],.sl []],[.int .i64 3,.int .i64 0,.int .i64 2,.int .i64 70,.int .i64 0,.str [],.sl [],.sl []]],.int .i64 7,.int .i64 0,.int .i64 0,.str [],.sl [[.str [82,111,111,116]]],.sl [[.int .i64 8,.int .i64 1,.int .i64 0,.str [],.sl [],.sl []]]]):=by
 have h:=c_shift_Compact gl shD sh11.1
 rw [sh1] at h
 exact h
theorem se2 (gl : List (Nat × AV)) : FnP Tryz.prog gl 10 [.agg shD.cells,.sl (intsAV [5]),.sl (intsAV [7])] fun r=>r = .ret (.tup [.agg [.sl [],.int .i64 0,.int .i64 0,.int .i64 0,.str [],.sl [],.sl []],.int .i64 9]):=by
 have h:=c_shift_Map gl shD [5] [7] sh11.1 (by decide) (by decide)
 rw [sh2,sh12.1] at h
 exact h
theorem se3 (gl : List (Nat × AV)) : FnP Tryz.prog gl 10 [.agg shD.cells,.sl (intsAV [6]),.sl (intsAV [1])] fun r=>r = .ret (.tup [.agg [.sl [],.int .i64 0,.int .i64 0,.int .i64 0,.str [],.sl [],.sl []],.int .i64 8]):=by
 have h:=c_shift_Map gl shD [6] [1] sh11.1 (by decide) (by decide)
 rw [sh3,sh12.2] at h
 exact h
theorem se4 (gl : List (Nat × AV)) : FnP Tryz.prog gl 10 [.agg shD.cells,.sl (intsAV [5]),.sl (intsAV [8])] fun r=>r = .ret (.tup [.agg [.sl [[.int .i64 7,.int .i64 0,.int .i64 2,.int .i64 70,.int .i64 0,.str [],.sl [],.sl []],[.int .i64 8,.int .i64 0,.int .i64 7,.int .i64 0,.int .i64 0,.str [],.sl [[.str [65]],[.str [66]]],.sl [[.int .i64 8,.int .i64 9,.int .i64 0,.str [],.sl [],.sl []],[.int .i64 8,.int .i64 7,.int .i64 0,.str [],.sl [],.sl []]]],[.int .i64 9,.int .i64 0,.int .i64 2,.int .i64 90,.int .i64 0,.str [],.sl [],.sl []]],.int .i64 7,.int .i64 0,.int .i64 0,.str [],.sl [[.str [82,111,111,116]]],.sl [[.int .i64 8,.int .i64 8,.int .i64 0,.str [],.sl [],.sl []]]],.int .i64 0]):=by
 have h:=c_shift_Map gl shD [5] [8] sh11.1 (by decide) (by decide)
 rw [sh4,sh5] at h
 exact h
theorem se5 (gl : List (Nat × AV)) : FnP Tryz.prog gl 18 [.agg shD.cells,.agg shD.cells,.agg (refO 7 0).cells] fun r=>r = .ret (.tup [.agg [.sl [[.int .i64 5,.int .i64 0,.int .i64 7,.int .i64 0,.int .i64 0,.str [],.sl [[.str [65]],[.str [66]]],.sl [[.int .i64 8,.int .i64 9,.int .i64 0,.str [],.sl [],.sl []],[.int .i64 8,.int .i64 7,.int .i64 0,.str [],.sl [],.sl []]]],[.int .i64 7,.int .i64 0,.int .i64 2,.int .i64 70,.int .i64 0,.str [],.sl [],.sl []],[.int .i64 9,.int .i64 0,.int .i64 2,.int .i64 90,.int .i64 0,.str [],.sl [],.sl []],[.int .i64 10,.int .i64 0,.int .i64 2,.int .i64 70,.int .i64 0,.str [],.sl [],.sl []]],.int .i64 7,.int .i64 0,.int .i64 0,.str [],.sl [[.str [82,111,111,116]]],.sl [[.int .i64 8,.int .i64 5,.int .i64 0,.str [],.sl [],.sl []]]],.agg [.int .i64 8,.int .i64 10,.int .i64 0,.str [],.sl [],.sl []],.int .i64 0]):=by
 have h:=c_shift_Import gl shD shD (refO 7 0) sh11.1 sh11.1 sh11.2.2.2.2
 rw [sh6,sh7,sh8] at h
 exact h
theorem se6 (gl : List (Nat × AV)) : FnP Tryz.prog gl 15 [.agg shM.cells,.agg shC.cells] fun r=>r = .ret (.bool true):=by
 have h:=c_shift_Alike gl shM shC sh11.2.1 sh11.2.2.1
 rw [sh9] at h
 exact h
theorem se7 (gl : List (Nat × AV)) : FnP Tryz.prog gl 15 [.agg Dc.zero.cells,.agg Dc.zero.cells] fun r=>r = .ret (.bool false):=by
 have h:=c_shift_Alike gl Dc.zero Dc.zero sh11.2.2.2.1 sh11.2.2.2.1
 rw [sh10] at h
 exact h
theorem c_law30_light (gl : List (Nat × AV)) (d : Dc) (h : d.bulk ≤ 16777216) (hs : d.size ≤ 4611686018427387904) : FnP Tryz.prog (gl) 8 [.agg d.cells] fun r=>r = .ret (.bool (decide ((d.items.length : Int) ≤ 40) && decide ((d.size : Int) ≤ 600))):=by
 refine FnP.intro Tryz.func8 rfl rfl (by simp [Tryz.ntmps8]) ?_
 simp only [argEnv,Tryz.ntmps8,Tryz.results8]
 refine AW.rS ?_
 refine AW.trim [1] ?_
 refine AW.rSC ?_
 refine awOps.cons (awGuard.cG (fun hg=>c_foliantref19_Size _ d (by omega) (by omega)) ?_)
 refine awOps.rn ?_
 refine AW.trim [2] ?_
 refine AW.rt ?_
 all_goals first | contradiction | rfl | (simp; done) | (simp; omega)
theorem c_law30_lives (gl : List (Nat × AV))  : FnP Tryz.prog (gl) 9 [] fun r=>r = .ret (.bool true):=by
 refine FnP.intro Tryz.func9 rfl rfl (by simp [Tryz.ntmps9]) ?_
 simp only [argEnv,Tryz.ntmps9,Tryz.results9]
 refine AW.rS ?_
 refine AW.trim [] ?_
 refine AW.rSC ?_
 refine awOps.cons (awGuard.c1 (c_law30_doc _) ?_)
 refine awOps.rn ?_
 refine awOps.cons (awGuard.c1 (se1 _) ?_)
 refine awOps.rn ?_
 refine AW.trim [1] ?_
 refine AW.seq ?_
 refine AW.rS ?_
 refine AW.trim [1,33] ?_
 refine AW.c2 ?_ ?_
 ·intro h9
  exfalso; revert h9; decide
 ·intro h9
  refine AW.skip ?_
  refine AW.rSC ?_
  refine awOps.cons (awGuard.c1 (c_law30_doc _) ?_)
  refine awOps.rn ?_
  refine awOps.cons (awGuard.c1 (se2 _) ?_)
  refine awOps.rn ?_
  refine AW.trim [1,3] ?_
  refine AW.rSC ?_
  refine awOps.cons (awGuard.c1 (c_law30_doc _) ?_)
  refine awOps.rn ?_
  refine awOps.cons (awGuard.c1 (se3 _) ?_)
  refine awOps.rn ?_
  refine AW.trim [1,3,5] ?_
  refine AW.rSC ?_
  refine awOps.cons (awGuard.c1 (c_law30_doc _) ?_)
  refine awOps.rn ?_
  refine awOps.cons (awGuard.c1 (se4 _) ?_)
  refine awOps.rn ?_
  refine AW.trim [1,3,5,6,7] ?_
  refine AW.rSC ?_
  refine awOps.cons (awGuard.c1 (c_law30_doc _) ?_)
  refine awOps.rn ?_
  refine awOps.cons (awGuard.c1 (c_law30_doc _) ?_)
  refine awOps.rn ?_
  refine awOps.cons (awGuard.c1 (se5 _) ?_)
  refine awOps.rn ?_
  refine AW.trim [1,3,5,6,7,8,9,10] ?_
  refine AW.seq (AW.region ?_)
  iterate 81 (refine awOps.s1 ?_)
  refine awOps.cons (awGuard.cG (fun hg=>se6 _) ?_)
  iterate 2 (refine awOps.s1 ?_)
  iterate 2 (refine awOps.cons (awGuard.gT ?_))
  refine awOps.cons (awGuard.cG (fun hg=>se7 _) ?_)
  iterate 3 (refine awOps.s1 ?_)
  simp only [Aw.awOps_nil,andThen]
  skip
  skip
  skip
  skip
  refine AW.trim [0] ?_
  refine AW.rt ?_
  all_goals first | contradiction | rfl | (simp; done) | (simp; omega)
end Go.Proofs

namespace Aw
open Go
theorem ibulk_sub : ∀ (L l : List Itm),L.Nodup → (∀ i ∈ L,i ∈ l) → ibulk L ≤ ibulk l:=by
 intro L
 induction L with
 | nil=>intro l _ _; exact Nat.zero_le _
 | cons a L ih =>
  intro l hn hs
  have ha:=hs a List.mem_cons_self
  rw [List.nodup_cons] at hn
  have hp:=ibulk_perm (List.perm_cons_erase ha)
  rw [hp,ibulk_cons,ibulk_cons]
  have:=ih (l.erase a) hn.2 fun i hi=>(List.mem_erase_of_ne (by rintro rfl; exact hn.1 hi)).2 (hs i (List.mem_cons_of_mem _ hi))
  omega
theorem look_of {l : List Itm} (hl : incrN l) {n : Int} (h : ∃ i ∈ l,i.num = n) : (lookI l n).getD Itm.zero ∈ l ∧ ((lookI l n).getD Itm.zero).num = n:=by
 obtain ⟨i,hi,e⟩:=h
 rw [(look_some hl).2 ⟨hi,e⟩]
 exact ⟨hi,e⟩
theorem impL_bulk {d x : Dc} {o : Pob} (hx : docE x = 0) : ibulk (impL d x o) ≤ ibulk x.items:=by
 have h1 : impL d x o = ((metO x.items o).map fun n=>(lookI x.items n).getD Itm.zero).map (turnI x.items (metO x.items o) (impT d x o)):=by rw [List.map_map] <;> rfl
 rw [h1]
 refine Nat.le_trans (ibulk_map fun i _=>turn_le _ _ _ _) (ibulk_sub _ _ ?_ ?_)
 ·refine List.pairwise_map.2 ((metO_nodup x.items o).imp_of_mem fun {a b} ha hb hab e=>hab ?_)
  have ea:=(look_of (doc_incr hx) (metO_in a ha)).2
  have eb:=(look_of (doc_incr hx) (metO_in b hb)).2
  rw [← ea,← eb,e]
 ·intro i hi
  obtain ⟨n,hn,rfl⟩:=List.mem_map.1 hi
  exact (look_of (doc_incr hx) (metO_in n hn)).1
theorem ibulk_app2 (a b : List Itm) : ibulk (a ++ b) = ibulk a + ibulk b:=by
 induction a with
 | nil=>simp [ibulk]
 | cons x a ih=>rw [List.cons_append,ibulk_cons,ibulk_cons,ih]; omega
theorem imp_bulk (d x : Dc) (o : Pob) : (impD d x o).bulk ≤ d.bulk + x.bulk ∧ (impO d x o).bulk ≤ o.bulk:=by
 by_cases h : impE d x o = 0
 ·obtain ⟨e1,e2⟩:=imp_eq h
  have hp:=imp_parts h
  rw [e1,e2]
  have h1:=impL_bulk (d:=d) (o:=o) hp.2.1
  have h2:=ibulk_app2 d.items (impL d x o)
  have h3:=turn_le x.items (metO x.items o) (impT d x o) o
  refine ⟨?_,h3⟩
  show ibulk (d.items ++ impL d x o) + d.trailer.bulk ≤ (ibulk d.items + d.trailer.bulk) + (ibulk x.items + x.trailer.bulk)
  omega
 ·unfold impD impO
  rw [if_pos h,if_pos h]
  have h1:=bulk_pos d
  have h2 : 1 ≤ o.bulk:=by have:=Pob.bulk_eq o; omega
  have h3 : (Dc.zero).bulk = 1:=zero_bulk
  have h4 : (Pob.null).bulk = 1:=by decide
  omega
end Aw

namespace Go.Proofs
end Go.Proofs

namespace Aw
open Go
theorem nullS_tot : (Pob.null).tot = 7:=by simp [Pob.null,Pob.tot,tots]
theorem zeroS_tot : Dc.zero.tot = 7:=by simp [Dc.zero,Dc.tot,itots,nullS_tot]
theorem trailS_tot (d : Dc) : d.trailer.tot ≤ d.tot:=by simp only [Dc.tot]; omega
theorem itots_cons (x : Itm) (l : List Itm) : itots (x :: l) = x.tot + itots l:=by simp [itots]
theorem itots_perm {a b : List Itm} (h : a.Perm b) : itots a = itots b:=by
 induction h with
 | nil=>rfl
 | cons x _ ih=>rw [itots_cons,itots_cons,ih]
 | swap x y l=>rw [itots_cons,itots_cons,itots_cons,itots_cons]; omega
 | trans _ _ h1 h2=>rw [h1,h2]
theorem itots_map {l : List Itm} {f : Itm → Itm} (h : ∀ i ∈ l,(f i).tot ≤ i.tot) : itots (l.map f) ≤ itots l:=by
 induction l with
 | nil=>exact Nat.le_refl _
 | cons x l ih =>
  rw [List.map_cons,itots_cons,itots_cons]
  have:=h x List.mem_cons_self
  have:=ih fun i hi=>h i (List.mem_cons_of_mem _ hi)
  omega
theorem tot7 (o : Pob) : 7 ≤ o.tot:=by cases o; simp only [Pob.tot]; omega
theorem turnI_tot (l : List Itm) (fr to : List Int) (i : Itm) : (turnI l fr to i).tot ≤ i.tot:=by
 have:=turn_let l fr to i.obj
 show (i.obj.turn _).tot + 3 ≤ i.obj.tot + 3
 omega
theorem map_tot (d : Dc) (fr to : List Int) : (mapD d fr to).tot ≤ d.tot:=by
 unfold mapD
 split
 ·rw [zeroS_tot]
  have:=tot7 d.trailer
  have:=trailS_tot d
  omega
 ·show itots (sortN _) + (d.trailer.turn _).tot ≤ itots d.items + d.trailer.tot
  have h1:=itots_perm (sortN_perm (d.items.map (turnI d.items fr to)))
  have h2:=itots_map (l:=d.items) (f:=turnI d.items fr to) fun i _=>turnI_tot _ _ _ _
  have h3:=turn_let d.items fr to d.trailer
  omega
theorem comp_tot (d : Dc) : (compD d).tot ≤ d.tot:=by
 unfold compD
 split
 ·rw [zeroS_tot]
  have:=tot7 d.trailer
  have:=trailS_tot d
  omega
 ·exact map_tot _ _ _
theorem comp_flat (d : Dc) : (∀ k,k < (compD d).items.length → ((compD d).items.getD k Itm.zero).num = (k : Int) + 1 ∧ ((compD d).items.getD k Itm.zero).gen = 0) ∧
  ∀ o,(o = (compD d).trailer ∨ ∃ i ∈ (compD d).items,o = i.obj) → ∀ r ∈ o.rr,r.num ≤ (compD d).items.length:=by
 by_cases h : docE d = 0
 ·refine ⟨fun k hk=>?_,fun o ho r hr=>(comp_refs h ho hr).2⟩
  have hn:=comp_nums h
  have hl:=comp_len h
  have e : (compD d).items.getD k Itm.zero = (compD d).items[k]:=by simp [List.getD,hk]
  rw [e]
  refine ⟨?_,comp_gens h _ (List.getElem_mem hk)⟩
  have h1 : ((compD d).items.map (·.num))[k]'(by simpa using hk) = (upTo 1 d.items.length)[k]'(by rw [upTo_len]; omega):=by simp only [hn]
  rw [List.getElem_map] at h1
  rw [h1]
  simp [upTo]
  omega
 ·have e : compD d = Dc.zero:=if_pos h
  rw [e]
  refine ⟨fun k hk=>absurd hk (Nat.not_lt_zero _),fun o ho r hr=>?_⟩
  rcases ho with rfl | ⟨i,hi,rfl⟩
  ·rw [show Dc.zero.trailer.rr = [] from by decide] at hr
   cases hr
  ·cases hi
theorem comp_refsO (d : Dc) : ∀ o,(o = (compD d).trailer ∨ ∃ i ∈ (compD d).items,o = i.obj) → ∀ n ∈ refsO o,n ≤ (compD d).items.length:=by
 intro o ho n hn
 obtain ⟨p,hp,h8,rfl⟩:=refs_mem.1 hn
 refine (comp_flat d).2 o ho p ?_
 have hk : ∃ k,chk o k = 0:=by
  by_cases h : docE d = 0
  ·have hc:=doc_chk (comp_doc h)
   rcases ho with rfl | ⟨i,hi,rfl⟩
   ·exact hc _ (List.mem_cons_self)
   ·exact hc _ (List.mem_cons_of_mem _ (List.mem_map_of_mem hi))
  ·have e : compD d = Dc.zero:=if_pos h
   rw [e] at ho
   rcases ho with rfl | ⟨i,hi,rfl⟩
   ·exact ⟨1,by decide +kernel⟩
   ·cases hi
 obtain ⟨k,hk⟩:=hk
 rw [chk_rr o k hk,List.mem_filter]
 refine ⟨hp,?_⟩
 unfold refB at h8
 simp only [Bool.and_eq_true] at h8
 exact h8.1
end Aw

namespace Go.Proofs
end Go.Proofs

namespace Go.Proofs
open Go Aw
set_option linter.unusedSimpArgs false
set_option linter.unusedVariables false
set_option maxRecDepth 100000
set_option maxHeartbeats 4000000
attribute [local go_sem] take_strsAV app1_strsAV take_intsAV drop_intsAV app_intsAV app1_intsAV take_objsAV app1_objsAV
theorem kidR_zero (l : List Pob) (s : List Int) : kidR (l.take 0) s = s:=rfl
theorem intsAV_one (n : Int) : intsAV [n] = [[.int .i64 n]]:=rfl
attribute [local go_sem] kidR_zero intsAV_one
theorem rrefs_step (gl : List (Nat × AV)) (N : Nat) (hN : N ≤ 8000000) (ih : ∀ o' : Pob,o'.bulk < N → FnP Tryz.prog gl 25 [.agg o'.cells] fun r=>r = .ret (.sl (intsAV (refsO o')))) (o : Pob) (ho : o.bulk ≤ N) : FnP Tryz.prog (gl) 25 [.agg o.cells] fun r=>r = .ret (.sl (intsAV (refsO o))):=by
 refine FnP.intro Tryz.func25 rfl rfl (by simp [Tryz.ntmps25]) ?_
 simp only [argEnv,Tryz.ntmps25,Tryz.results25]
 have hb:=Pob.bulk_eq o
 refine AW.rS ?_
 refine AW.rS ?_
 refine AW.seq ?_
 refine AW.rS ?_
 refine AW.c2 ?_ ?_
 ·intro h5
  have hro : refB o = true:=by simp [refB,h5.1.1,h5.1.2,h5.2]
  have how : ownR o = [o.num]:=by rw [ownR,if_pos hro]
  refine AW.rL ?_
  refine AW.seq ?_
  refine AW.rS ?_
  refine AW.block ?_
  refine AW.clo 3 ?_
  refine wk ?_
  refine AW.lk (S:={ i : Nat // i ≤ o.kids.length }) [25,26] (fun s_=>[(3,.sl (intsAV (kidR (o.kids.take s_.1) [o.num]))),(27,.int .i64 s_.1)]) (fun s_=>[]) 0 (fun s_=>o.kids.length - s_.1) ⟨0,Nat.zero_le _⟩ ?_ ?_
  ·refine St.le.vw []
  rintro ⟨i,hi⟩
  try dsimp only at hi
  refine AW.rS ?_
  refine AW.seq ?_
  refine AW.c2 ?_ ?_
  ·intro h13
   have hkb:=Pob.bulk_kid (o:=o) (i:=i) (by omega)
   have hrl:=refs_len (o.kids.getD i Pob.null)
   have hkl:=kidR_len (o.kids.take i) [o.num]
   have hbt:=bulks_takele o.kids i
   have hol : [o.num].length ≤ 1:=by simp
   have hks:=kidR_succ (l:=o.kids) (i:=i) (by omega) [o.num]
   refine AW.skip ?_
   refine AW.seq ?_
   refine AW.block ?_
   refine AW.rS ?_
   refine AW.rSC ?_
   refine awOps.cons (awGuard.c1 (ih (o.kids.getD i Pob.null) (Nat.lt_of_lt_of_le hkb ho)) ?_)
   refine awOps.rn ?_
   refine AW.block ?_
   refine AW.lk (S:={ j : Nat // j ≤ (refsO (o.kids.getD i Pob.null)).length }) [25,26,27,32,33] (fun s_=>[(3,.sl (intsAV (((refsO (o.kids.getD i Pob.null)).take s_.1).foldl numIns (kidR (o.kids.take i) [o.num])))),(34,.int .i64 s_.1)]) (fun s_=>[]) 0 (fun s_=>(refsO (o.kids.getD i Pob.null)).length - s_.1) ⟨0,Nat.zero_le _⟩ ?_ ?_
   ·refine St.le.vw []
   rintro ⟨j,hj⟩
   try dsimp only at hj
   refine AW.rS ?_
   refine AW.seq ?_
   refine AW.c2 ?_ ?_
   ·intro h25
    have hfl:=foldN_len ((refsO (o.kids.getD i Pob.null)).take j) (kidR (o.kids.take i) [o.num])
    have hfs:=foldN_succ (l:=refsO (o.kids.getD i Pob.null)) (i:=j) (by omega) (kidR (o.kids.take i) [o.num])
    have htl : ((refsO (o.kids.getD i Pob.null)).take j).length ≤ (refsO (o.kids.getD i Pob.null)).length:=by rw [List.length_take]; omega
    refine AW.skip ?_
    refine AW.seq ?_
    refine AW.block ?_
    refine AW.rS ?_
    refine AW.rLC ?_
    refine awOps.cons (awGuard.c1 (c_foliantref05_Num _ (((refsO (o.kids.getD i Pob.null)).take j).foldl numIns (kidR (o.kids.take i) [o.num])) ((refsO (o.kids.getD i Pob.null)).getD j 0) (by omega)) ?_)
    refine awOps.rn ?_
    refine AW.rL ?_
    rw [← hfs]
    refine ⟨⟨j + 1,by omega⟩,?_,?_⟩
    ·refine St.le.vw []
    ·simp only []; omega
   ·intro h25
    refine AW.exit ?_
    refine AW.rL ?_
    obtain rfl : j = (refsO (o.kids.getD i Pob.null)).length:=by omega
    rw [List.take_length,← hks]
    refine ⟨⟨i + 1,by omega⟩,?_,?_⟩
    ·refine St.le.vw []
    ·simp only []; omega
  ·intro h13
   refine AW.exit ?_
   refine AW.rS ?_
   refine AW.rt ?_
   obtain rfl : i = o.kids.length:=by omega
   rw [List.take_length,← how,kidR_all]
 ·intro h5
  have hro : refB o = false:=by
   simp only [refB,Bool.and_eq_false_iff,decide_eq_false_iff_not]
   omega
  have how : ownR o = []:=by rw [ownR,if_neg (by simp [hro])]
  refine AW.skip ?_
  refine AW.seq ?_
  refine AW.rS ?_
  refine AW.block ?_
  refine AW.pre (St.le.nilrow 3 1 (by (simp only [go_sem,seval]; iterate 2 try (simp (disch:=omega) only [zq]; try simp only [go_sem,seval])))) ?_
  refine wk ?_
  refine AW.clo 3 ?_
  refine wk ?_
  refine AW.lk (S:={ i : Nat // i ≤ o.kids.length }) [25,26] (fun s_=>[(3,.sl (intsAV (kidR (o.kids.take s_.1) ([] : List Int)))),(27,.int .i64 s_.1)]) (fun s_=>[]) 0 (fun s_=>o.kids.length - s_.1) ⟨0,Nat.zero_le _⟩ ?_ ?_
  ·refine St.le.vw []
  rintro ⟨i,hi⟩
  try dsimp only at hi
  refine AW.rS ?_
  refine AW.seq ?_
  refine AW.c2 ?_ ?_
  ·intro h49
   have hkb:=Pob.bulk_kid (o:=o) (i:=i) (by omega)
   have hrl:=refs_len (o.kids.getD i Pob.null)
   have hkl:=kidR_len (o.kids.take i) ([] : List Int)
   have hbt:=bulks_takele o.kids i
   have hol : ([] : List Int).length ≤ 1:=by simp
   have hks:=kidR_succ (l:=o.kids) (i:=i) (by omega) ([] : List Int)
   refine AW.skip ?_
   refine AW.seq ?_
   refine AW.block ?_
   refine AW.rS ?_
   refine AW.rSC ?_
   refine awOps.cons (awGuard.c1 (ih (o.kids.getD i Pob.null) (Nat.lt_of_lt_of_le hkb ho)) ?_)
   refine awOps.rn ?_
   refine AW.block ?_
   refine AW.lk (S:={ j : Nat // j ≤ (refsO (o.kids.getD i Pob.null)).length }) [25,26,27,32,33] (fun s_=>[(3,.sl (intsAV (((refsO (o.kids.getD i Pob.null)).take s_.1).foldl numIns (kidR (o.kids.take i) ([] : List Int))))),(34,.int .i64 s_.1)]) (fun s_=>[]) 0 (fun s_=>(refsO (o.kids.getD i Pob.null)).length - s_.1) ⟨0,Nat.zero_le _⟩ ?_ ?_
   ·refine St.le.vw []
   rintro ⟨j,hj⟩
   try dsimp only at hj
   refine AW.rS ?_
   refine AW.seq ?_
   refine AW.c2 ?_ ?_
   ·intro h61
    have hfl:=foldN_len ((refsO (o.kids.getD i Pob.null)).take j) (kidR (o.kids.take i) ([] : List Int))
    have hfs:=foldN_succ (l:=refsO (o.kids.getD i Pob.null)) (i:=j) (by omega) (kidR (o.kids.take i) ([] : List Int))
    have htl : ((refsO (o.kids.getD i Pob.null)).take j).length ≤ (refsO (o.kids.getD i Pob.null)).length:=by rw [List.length_take]; omega
    refine AW.skip ?_
    refine AW.seq ?_
    refine AW.block ?_
    refine AW.rS ?_
    refine AW.rLC ?_
    refine awOps.cons (awGuard.c1 (c_foliantref05_Num _ (((refsO (o.kids.getD i Pob.null)).take j).foldl numIns (kidR (o.kids.take i) ([] : List Int))) ((refsO (o.kids.getD i Pob.null)).getD j 0) (by omega)) ?_)
    refine awOps.rn ?_
    refine AW.rL ?_
    rw [← hfs]
    refine ⟨⟨j + 1,by omega⟩,?_,?_⟩
    ·refine St.le.vw []
    ·simp only []; omega
   ·intro h61
    refine AW.exit ?_
    refine AW.rL ?_
    obtain rfl : j = (refsO (o.kids.getD i Pob.null)).length:=by omega
    rw [List.take_length,← hks]
    refine ⟨⟨i + 1,by omega⟩,?_,?_⟩
    ·refine St.le.vw []
    ·simp only []; omega
  ·intro h49
   refine AW.exit ?_
   refine AW.rS ?_
   refine AW.rt ?_
   obtain rfl : i = o.kids.length:=by omega
   rw [List.take_length,← how,kidR_all]
theorem rrefs_all (gl : List (Nat × AV)) (N : Nat) : N ≤ 8000000 → ∀ o : Pob,o.bulk ≤ N → FnP Tryz.prog gl 25 [.agg o.cells] fun r=>r = .ret (.sl (intsAV (refsO o))):=by
 induction N using Nat.strongRecOn with
 | ind N IH=>exact fun hN o ho=>rrefs_step gl N hN (fun o' h=>IH o'.bulk h (by omega) o' (Nat.le_refl _)) o ho
theorem c_foliantref05_Refs (gl : List (Nat × AV)) (o : Pob) (h : o.bulk ≤ 8000000:=by first | assumption | omega) : FnP Tryz.prog gl 25 [.agg o.cells] fun r=>r = .ret (.sl (intsAV (refsO o))):=rrefs_all gl 8000000 (Nat.le_refl _) o h
end Go.Proofs

namespace Go.Proofs
end Go.Proofs
