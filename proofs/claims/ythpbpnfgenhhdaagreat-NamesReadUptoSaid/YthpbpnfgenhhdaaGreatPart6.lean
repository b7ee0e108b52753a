/- A part of the proof: no condition of its own. -/
import Derived.Test.YthpbpnfgenhhdaaGreatPart5
namespace Go.Proofs
open Go Aw
set_option linter.unusedSimpArgs false
set_option linter.unusedVariables false
set_option maxRecDepth 100000
set_option maxHeartbeats 4000000
attribute [local go_sem] En.cells Gr.cells entsAV_length grsAV_length entsAV_len7 grsAV_len3 entsAV_first entsAV_lastP grsAV_first grsAV_lastP grsAV_takeL
theorem c_names_Make (gl : List (Nat × AV)) (d : Dc) (l : List En) (fan : Int) (h : d.bulk + esum l ≤ 1100000) :
  FnP Tryz.prog gl 17 [.agg d.cells,.sl (entsAV l),.int .i64 fan] fun r=>r = .ret (.tup [.agg (makeD d l fan).cells,.agg (makeO d l fan).cells,.int .i64 (makeE d l fan)]):=by
 have hel:=ebulk_esum l
 refine FnP.introN Tryz.func17 rfl rfl (by simp [Tryz.ntmps17]) ?_
 simp only [argEnv,Tryz.ntmps17,Tryz.results17,Dc.cells,Pob.cells_eq]
 refine AW.rL ?_
 refine ⟨rfl,?_⟩
 refine AW.dfL ?_
 refine ⟨rfl,fun n_ ds_=>?_⟩
 refine AWT.trim [1,2,3,6,7,8] ?_
 refine AWT.seq ?_
 refine AWT.rSC ?_
 refine OpsT.cs (awGuard.c1 (c_docs_Check _ d (by omega)) ?_)
 refine OpsT.rn ?_
 refine OpsT.nil ?_
 refine AWT.rS ?_
 refine AWT.c2 ?_ ?_
 ·intro hC
  refine AWT.rS ?_
  refine AWT.ret ?_
  simp only [andThen_ret,finD_ret]
  refine LeaveS.c1 [3] (d_face_ret _ _) ?_
  refine LeaveS.rt Tryz.results17 ?_
  obtain ⟨e1,e2,e3⟩:=make_err0 (make0_doc (l:=l) (fan:=fan) hC) hC
  rw [e1,e2,e3]
  rfl
 intro hC0
 have hC : docE d = 0:=by simpa using hC0
 refine AWT.skip ?_
 refine AWT.trim [1,2,3,6,7,8] ?_
 refine AWT.rSC ?_
 refine OpsT.cs (awGuard.cM (c_names_checked _ l fan (by omega)) ?_ ?_)
 ·intro hD
  refine finD_pan ?_
  refine LeaveS.c1 [3] (d_face_pan _ _) ?_
  refine LeaveS.rt Tryz.results17 ?_
  obtain ⟨e1,e2,e3⟩:=make_err0 (make0_may (l:=l) (fan:=fan) hC hD) hD
  rw [e1,e2,e3]
  rfl
 intro hD
 refine OpsT.rn ?_
 refine OpsT.nil ?_
 obtain ⟨f,rfl,hf2,hf16,hl⟩:=may_facts hD
 have hft : ((f : Nat) : Int).toNat = f:=Int.toNat_natCast f
 refine AWT.trim [1,2,3,6,7,8] ?_
 refine AWT.rSC ?_
 refine OpsT.cs (awGuard.c1 (c_names_nodes _ l.length f hl ⟨hf2,hf16⟩) ?_)
 refine OpsT.rn ?_
 refine OpsT.cs (awGuard.cM (c_names_must _ _ 6) ?_ ?_)
 ·intro hE
  refine finD_pan ?_
  refine LeaveS.c1 [3] (d_face_pan _ _) ?_
  refine LeaveS.rt Tryz.results17 ?_
  obtain ⟨e1,e2,e3⟩:=make_err0 (make0_many (l:=l) (fan:=(f : Int)) hC hD (by rw [hft]; omega)) (by decide)
  rw [e1,e2,e3]
  rfl
 intro hE
 have h0 : makeE0 d l (f : Int) = 0:=make0_ok hC hD (by rw [hft]; omega)
 have hbad:=fun e=>make_bad (e:=e) h0
 have hgood:=make_ok h0
 rw [hft] at hbad hgood
 refine OpsT.rn ?_
 refine OpsT.nil ?_
 refine AWT.trim [1,2,3,6,7,8] ?_
 refine AWT.rS ?_
 refine AWT.trim [1,2,6,7,8,10] ?_
 refine AWT.seq ?_
 refine AWT.rS ?_
 refine AWT.c2 ?_ ?_
 ·intro hF
  have hF2 : l.length ≤ f:=by omega
  have htl:=tree_low (d:=d) hF2
  have hpb:=pairsP_bulk l
  have hlb:=len_esum l
  rw [htl] at hbad hgood
  have hb9 : ¬ addE d (nodeO true (pairsP l) [] [] false) = 0 → makeE d l (f : Int) = addE d (nodeO true (pairsP l) [] [] false) ∧ makeD d l (f : Int) = Dc.zero ∧ makeO d l (f : Int) = Pob.null:=fun hC=>hbad _ (addB_bad (s:=⟨0,d,[]⟩) rfl hC) hC
  refine AWT.trim [1,6,7,8,10] ?_
  refine AWT.tVE (E0:=[(6,.ptr 1 0),(7,.ptr 2 0),(8,.ptr 3 0)]) (C:=addE d (nodeO true (pairsP l) [] [] false) = 0) (σ1:=⟨111,[(6,.ptr 1 0),(7,.ptr 2 0),(8,.ptr 3 0),(10,.ptr 5 0),(11,.ptr 6 0)],[(0,.cells [.sl (itemsAV d.items),.int .i64 d.trailer.kind,.int .i64 d.trailer.num,.int .i64 d.trailer.gen,.str d.trailer.str,.sl (strsAV d.trailer.keys),.sl (objsAV d.trailer.kids)]),(1,.cells [.raw (.slice none 0 0),.int .i64 0,.int .i64 0,.int .i64 0,.str [],.raw (.slice none 0 0),.raw (.slice none 0 0)]),(2,.cells [.int .i64 0,.int .i64 0,.int .i64 0,.str [],.raw (.slice none 0 0),.raw (.slice none 0 0)]),(3,.cells [.int .i64 0]),(4,.cells [.sl (itemsAV (addO d (nodeO true (pairsP l) [] [] false)).items),.int .i64 (addO d (nodeO true (pairsP l) [] [] false)).trailer.kind,.int .i64 (addO d (nodeO true (pairsP l) [] [] false)).trailer.num,.int .i64 (addO d (nodeO true (pairsP l) [] [] false)).trailer.gen,.str (addO d (nodeO true (pairsP l) [] [] false)).trailer.str,.sl (strsAV (addO d (nodeO true (pairsP l) [] [] false)).trailer.keys),.sl (objsAV (addO d (nodeO true (pairsP l) [] [] false)).trailer.kids)]),(5,.cells [.ptr 4 0]),(6,.cells [.int .i64 (addN d (nodeO true (pairsP l) [] [] false)),.str [],.str []])],7,gl,0,[(26,[.ptr 3 0])]⟩) (.take 1 0 (.fork 0 (.fork 2 (.fork 3 (.fork 4 (.fork 5 .done .stop) .stop) (.fork 4 (.fork 3 (.fork 5 .done .stop) .stop) .stop)) (.fork 4 (.fork 2 (.fork 3 (.fork 5 .done .stop) .stop) .stop) .stop)) (.fork 2 (.fork 0 (.fork 3 (.fork 4 (.fork 5 .done .stop) .stop) (.fork 4 (.fork 3 (.fork 5 .done .stop) .stop) .stop)) (.fork 4 (.fork 0 (.fork 3 (.fork 5 .done .stop) .stop) .stop) .stop)) (.fork 4 (.fork 0 (.fork 2 (.fork 3 (.fork 5 .done .stop) .stop) .stop) (.fork 2 (.fork 0 (.fork 3 (.fork 5 .done .stop) .stop) .stop) .stop)) .stop)))) ?tree9 ?rest9
  case tree9 =>
   refine awTree.tk ?_
   refine awTree.fA ?_ ?_
   ·refine awTree.fC (c_names_pairs _ l (by omega)) ?_ ?_
    ·refine awTree.fKM 1 [4] (h_add_bareC _ d true (pairsP l) [] [] (by omega)) ?_ ?_ ?_
     ·intro hC n_ hn_
      simp only [andThen_pan,unblock_pan,withE_pan]
      refine panD ?_
      refine LeaveS.c1 [3] (d_face_pan _ _) ?_
      refine LeaveS.rt Tryz.results17 ?_
      obtain ⟨e1,e2,e3⟩:=hb9 hC
      rw [e1,e2,e3]
      rfl
     ·intro hC
      refine awTree.fA ?_ trivial
      refine awTree.fA ?_ trivial
      exact awTree.dnV hC (St.le.vw [0,1,2,3,4,5,6])
     ·refine awTree.fA ?_ trivial
      refine awTree.fKM 1 [4] (h_add_bareC _ d true (pairsP l) [] [] (by omega)) ?_ ?_ ?_
      ·intro hC n_ hn_
       simp only [andThen_pan,unblock_pan,withE_pan]
       refine panD ?_
       refine LeaveS.c1 [3] (d_face_pan _ _) ?_
       refine LeaveS.rt Tryz.results17 ?_
       obtain ⟨e1,e2,e3⟩:=hb9 hC
       rw [e1,e2,e3]
       rfl
      ·intro hC
       refine awTree.fA ?_ trivial
       exact awTree.dnV hC (St.le.vw [0,1,2,3,4,5,6])
      ·exact trivial
    ·refine awTree.fA ?_ trivial
     refine awTree.fC (c_names_pairs _ l (by omega)) ?_ trivial
     refine awTree.fKM 1 [4] (h_add_bareC _ d true (pairsP l) [] [] (by omega)) ?_ ?_ ?_
     ·intro hC n_ hn_
      simp only [andThen_pan,unblock_pan,withE_pan]
      refine panD ?_
      refine LeaveS.c1 [3] (d_face_pan _ _) ?_
      refine LeaveS.rt Tryz.results17 ?_
      obtain ⟨e1,e2,e3⟩:=hb9 hC
      rw [e1,e2,e3]
      rfl
     ·intro hC
      refine awTree.fA ?_ trivial
      exact awTree.dnV hC (St.le.vw [0,1,2,3,4,5,6])
     ·exact trivial
   ·refine awTree.fC (c_names_pairs _ l (by omega)) ?_ ?_
    ·refine awTree.fA ?_ ?_
     ·refine awTree.fKM 1 [4] (h_add_bareC _ d true (pairsP l) [] [] (by omega)) ?_ ?_ ?_
      ·intro hC n_ hn_
       simp only [andThen_pan,unblock_pan,withE_pan]
       refine panD ?_
       refine LeaveS.c1 [3] (d_face_pan _ _) ?_
       refine LeaveS.rt Tryz.results17 ?_
       obtain ⟨e1,e2,e3⟩:=hb9 hC
       rw [e1,e2,e3]
       rfl
      ·intro hC
       refine awTree.fA ?_ trivial
       refine awTree.fA ?_ trivial
       exact awTree.dnV hC (St.le.vw [0,1,2,3,4,5,6])
      ·refine awTree.fA ?_ trivial
       refine awTree.fKM 1 [4] (h_add_bareC _ d true (pairsP l) [] [] (by omega)) ?_ ?_ ?_
       ·intro hC n_ hn_
        simp only [andThen_pan,unblock_pan,withE_pan]
        refine panD ?_
        refine LeaveS.c1 [3] (d_face_pan _ _) ?_
        refine LeaveS.rt Tryz.results17 ?_
        obtain ⟨e1,e2,e3⟩:=hb9 hC
        rw [e1,e2,e3]
        rfl
       ·intro hC
        refine awTree.fA ?_ trivial
        exact awTree.dnV hC (St.le.vw [0,1,2,3,4,5,6])
       ·exact trivial
     ·refine awTree.fA ?_ trivial
      refine awTree.fA ?_ trivial
      refine awTree.fKM 1 [4] (h_add_bareC _ d true (pairsP l) [] [] (by omega)) ?_ ?_ ?_
      ·intro hC n_ hn_
       simp only [andThen_pan,unblock_pan,withE_pan]
       refine panD ?_
       refine LeaveS.c1 [3] (d_face_pan _ _) ?_
       refine LeaveS.rt Tryz.results17 ?_
       obtain ⟨e1,e2,e3⟩:=hb9 hC
       rw [e1,e2,e3]
       rfl
      ·intro hC
       refine awTree.fA ?_ trivial
       exact awTree.dnV hC (St.le.vw [0,1,2,3,4,5,6])
      ·exact trivial
    ·refine awTree.fA ?_ trivial
     refine awTree.fA ?_ ?_
     ·refine awTree.fC (c_names_pairs _ l (by omega)) ?_ trivial
      refine awTree.fKM 1 [4] (h_add_bareC _ d true (pairsP l) [] [] (by omega)) ?_ ?_ ?_
      ·intro hC n_ hn_
       simp only [andThen_pan,unblock_pan,withE_pan]
       refine panD ?_
       refine LeaveS.c1 [3] (d_face_pan _ _) ?_
       refine LeaveS.rt Tryz.results17 ?_
       obtain ⟨e1,e2,e3⟩:=hb9 hC
       rw [e1,e2,e3]
       rfl
      ·intro hC
       refine awTree.fA ?_ trivial
       exact awTree.dnV hC (St.le.vw [0,1,2,3,4,5,6])
      ·exact trivial
     ·refine awTree.fC (c_names_pairs _ l (by omega)) ?_ trivial
      refine awTree.fA ?_ trivial
      refine awTree.fKM 1 [4] (h_add_bareC _ d true (pairsP l) [] [] (by omega)) ?_ ?_ ?_
      ·intro hC n_ hn_
       simp only [andThen_pan,unblock_pan,withE_pan]
       refine panD ?_
       refine LeaveS.c1 [3] (d_face_pan _ _) ?_
       refine LeaveS.rt Tryz.results17 ?_
       obtain ⟨e1,e2,e3⟩:=hb9 hC
       rw [e1,e2,e3]
       rfl
      ·intro hC
       refine awTree.fA ?_ trivial
       exact awTree.dnV hC (St.le.vw [0,1,2,3,4,5,6])
      ·exact trivial
  case rest9 =>
  intro hG
  have hb:=addB_ok (s:=⟨0,d,[]⟩) (low:=true) (l:=pairsP l) (lo:=[]) (hi:=[]) (lim:=false) rfl hG
  obtain ⟨e1,e2,e3⟩:=hgood (by rw [hb])
  rw [hb] at e2 e3
  refine AWT.noPan ?_
  refine AWT.fS [0,1,2,3,4,5,6] [(7,2),(8,2),(9,2)] ?_ (hQ:=by repeat (first | exact Aw.PI.noPan | refine Aw.PI.unblock ?_ | refine Aw.PI.andThen ?_))
  refine awFun.rn ?_
  refine awFun.c1 [49] (c_value_Ref _ (addN d (nodeO true (pairsP l) [] [] false)) 0 (by have:=addN_range d (nodeO true (pairsP l) [] [] false); omega)) ?_
  refine awFun.rn ?_
  rw [Aw.awFun_nil]
  refine awPlan.rn ?_
  refine AWT.ret ?_
  simp only [andThen_ret,unblock_ret,noPan_ret,finD_ret]
  refine LeaveS.c1 [3] (d_face_ret _ _) ?_
  refine LeaveS.rt Tryz.results17 ?_
  rw [e1,e2,e3]
  rfl
 ·intro hF
  have hF2 : ¬ l.length ≤ f:=by omega
  have htl:=tree_high (d:=d) hF2
  rw [htl] at hbad hgood
  have hpn : partsN l.length f ≤ (l.length + 1) / 2:=parts_le hf2
  have hbs1:=leaves_bulk d l f (partsN l.length f)
  have hes1 : esum (l.take (partsN l.length f * f)) ≤ esum l:=sum_take_le l _ _
  have hls1:=leaves_len d l f (partsN l.length f)
  have hns1:=leaves_nums d l f (partsN l.length f)
  refine AWT.skip ?_
  refine AWT.rS ?_
  refine AWT.trim [1,2,6,7,8,10,12] ?_
  refine AWT.pre (St.le.nilcell 6 0 3 rfl rfl) ?_
  refine AWT.seq ?_
  refine AWT.rSC ?_
  refine OpsT.cs (awGuard.cH [] (h_chunk_E _ l f (by omega)) ?_)
  refine OpsT.rn ?_
  refine OpsT.nil ?_
  refine AWT.block ?_
  refine AWT.rP (f0:=17) (fnc:=Tryz.f17) rfl Tryz.func17 [5,4,6,8,9] [7] [(10,.ptr 0 0),(12,.ptr 2 0)] (fun j hp' nx'=>j = none ∧ (leavesB d l f (partsN l.length f)).err = 0 ∧ (∃ lq rl,hp' = cHp (entsAV l) f (leavesB d l f (partsN l.length f)) (.lp lq rl)) ∧ nx' = 7) (Rp:=fun x=>(leavesB d l f (partsN l.length f)).err ≠ 0 ∧ x = .iface 105 (.int .i64 (leavesB d l f (partsN l.length f)).err)) (xs:=[.ptr 3 0,.ptr 4 0]) (hp0:=[(0,.cells [.ptr 1 0]),(1,.cells [.sl (itemsAV d.items),.int .i64 d.trailer.kind,.int .i64 d.trailer.num,.int .i64 d.trailer.gen,.str d.trailer.str,.sl (strsAV d.trailer.keys),.sl (objsAV d.trailer.kids)]),(2,.cells [.row 6 0 (([] : List Gr)).length]),(3,.cells [.sl (entsAV l)]),(4,.cells [.int .i64 (f : Int)]),(6,.row 3 (grsAV (([] : List Gr))) true)]) ?hit ?hKp ?hK
  case hit =>
   intro Ω hΩ lq rb rc hr
   refine (chunk_E gl l f (leavesB d l f) lq rc hf2 hf16 hl rfl (fun i h k hk=>leaves_stop h k hk) (fun k hk hek=>?_)).mono (fun q hp nx hh=>?_)
   ·skip
    have hne:=part_ne (l:=l) (by omega) hk
    have hbk:=leaves_bulk d l f k
    have hln:=leaves_len d l f k
    have hsum : esum (l.take (k * f)) + esum (partL l f k) ≤ esum l:=by rw [← esum_append,← take_part]; exact sum_take_le l _ _
    have hkp : k < partsN l.length f:=(parts_more (by omega)).2 hk
    have hstep : leavesB d l f (k + 1) = addB (leavesB d l f k) true (pairsP (partL l f k)) ((partL l f k).getD 0 En.zero).key ((partL l f k).getD ((partL l f k).length - 1) En.zero).key true:=rfl
    rw [hstep]
    obtain ⟨p,hp⟩ : ∃ p : { x : List En // x ≠ [] },p.1 = partL l f k:=⟨⟨_,hne⟩,rfl⟩
    rw [← hp] at hsum ⊢
    have hpl : 0 < p.1.length:=List.length_pos_iff.2 p.2
    have hel3:=len_esum p.1
    have hpb:=pairsP_bulk p.1
    clear hstep
    generalize hts : leavesB d l f k = t at *
    have hok:=addB_ok (s:=t) (low:=true) (l:=pairsP p.1) (lo:=(p.1.getD 0 En.zero).key) (hi:=(p.1.getD (p.1.length - 1) En.zero).key) (lim:=true) hek
    have hbd:=addB_bad (s:=t) (low:=true) (l:=pairsP p.1) (lo:=(p.1.getD 0 En.zero).key) (hi:=(p.1.getD (p.1.length - 1) En.zero).key) (lim:=true) hek
    simp only [cHp,Dc.cells]
    refine hr [_] _ 7 _ rfl rfl ?_
    intro b_
    refine AWT.rL ?_
    refine ⟨rfl,rfl,?_⟩
    refine AWT.block ?_
    refine AWT.tGLC (C:=addE t.d (nodeO true (pairsP p.1) ((p.1.getD 0 En.zero).key) ((p.1.getD (p.1.length - 1) En.zero).key) true) = 0) (σf:=?sf14) (.take 2 0 (.take 4 0 (.take 5 0 (.take 6 0 (.take 7 0 (.take 8 0 (.take 9 0 (.take 10 0 (.take 11 0 (.take 12 0 (.take 13 0 (.take 14 0 (.fork 0 (.fork 1 (.fork 3 (.fork 15 (.fork 16 (.fork 17 (.fork 18 .done .stop) .stop) .stop) .stop) .stop) (.fork 3 (.fork 1 (.fork 15 (.fork 16 (.fork 17 (.fork 18 .done .stop) .stop) .stop) .stop) .stop) .stop)) (.fork 1 (.fork 0 (.fork 3 (.fork 15 (.fork 16 (.fork 17 (.fork 18 .done .stop) .stop) .stop) .stop) .stop) (.fork 3 (.fork 0 (.fork 15 (.fork 16 (.fork 17 (.fork 18 .done .stop) .stop) .stop) .stop) (.fork 15 (.fork 0 (.fork 16 (.fork 17 (.fork 18 .done .stop) .stop) .stop) (.fork 16 (.fork 0 (.fork 17 (.fork 18 .done .stop) .stop) .stop) .stop)) .stop)) .stop)) (.fork 3 (.fork 0 (.fork 1 (.fork 15 (.fork 16 (.fork 17 (.fork 18 .done .stop) .stop) .stop) .stop) .stop) (.fork 1 (.fork 0 (.fork 15 (.fork 16 (.fork 17 (.fork 18 .done .stop) .stop) .stop) .stop) (.fork 15 (.fork 0 (.fork 16 (.fork 17 (.fork 18 .done .stop) .stop) .stop) (.fork 16 (.fork 0 (.fork 17 (.fork 18 .done .stop) .stop) .stop) .stop)) .stop)) .stop)) .stop))))))))))))))) ?tree14 ?rest14
    case tree14 =>
     refine awTree.tk ?_
     refine awTree.tk ?_
     refine awTree.tk ?_
     refine awTree.tk ?_
     refine awTree.tk ?_
     refine awTree.tk ?_
     refine awTree.tk ?_
     refine awTree.tk ?_
     refine awTree.tk ?_
     refine awTree.tk ?_
     refine awTree.tk ?_
     refine awTree.tk ?_
     refine awTree.fA ?_ ?_
     ·refine awTree.fA ?_ ?_
      ·refine awTree.fC (c_names_pairs _ p.1 (by omega)) ?_ trivial
       refine awTree.fKM 1 [1] (h_add_limC _ t.d true (pairsP p.1) ((p.1.getD 0 En.zero).key) ((p.1.getD (p.1.length - 1) En.zero).key) (by omega)) ?_ ?_ ?_
       ·intro hC n_ hn_
        refine wkR ?_
        exact .inr ⟨by rw [hbd hC]; exact hC,by rw [hbd hC],by omega⟩
       ·intro hC
        refine awTree.fA ?_ trivial
        refine awTree.fA ?_ trivial
        refine awTree.fA ?_ trivial
        exact awTree.dnC hC
       ·exact trivial
      ·refine awTree.fC (c_names_pairs _ p.1 (by omega)) ?_ trivial
       refine awTree.fA ?_ trivial
       refine awTree.fKM 1 [1] (h_add_limC _ t.d true (pairsP p.1) ((p.1.getD 0 En.zero).key) ((p.1.getD (p.1.length - 1) En.zero).key) (by omega)) ?_ ?_ ?_
       ·intro hC n_ hn_
        refine wkR ?_
        exact .inr ⟨by rw [hbd hC]; exact hC,by rw [hbd hC],by omega⟩
       ·intro hC
        refine awTree.fA ?_ trivial
        refine awTree.fA ?_ trivial
        refine awTree.fA ?_ trivial
        exact awTree.dnC hC
       ·exact trivial
     ·refine awTree.fA ?_ ?_
      ·refine awTree.fA ?_ ?_
       ·refine awTree.fC (c_names_pairs _ p.1 (by omega)) ?_ trivial
        refine awTree.fKM 1 [1] (h_add_limC _ t.d true (pairsP p.1) ((p.1.getD 0 En.zero).key) ((p.1.getD (p.1.length - 1) En.zero).key) (by omega)) ?_ ?_ ?_
        ·intro hC n_ hn_
         refine wkR ?_
         exact .inr ⟨by rw [hbd hC]; exact hC,by rw [hbd hC],by omega⟩
        ·intro hC
         refine awTree.fA ?_ trivial
         refine awTree.fA ?_ trivial
         refine awTree.fA ?_ trivial
         exact awTree.dnC hC
        ·exact trivial
       ·refine awTree.fC (c_names_pairs _ p.1 (by omega)) ?_ trivial
        refine awTree.fA ?_ ?_
        ·refine awTree.fKM 1 [1] (h_add_limC _ t.d true (pairsP p.1) ((p.1.getD 0 En.zero).key) ((p.1.getD (p.1.length - 1) En.zero).key) (by omega)) ?_ ?_ ?_
         ·intro hC n_ hn_
          refine wkR ?_
          exact .inr ⟨by rw [hbd hC]; exact hC,by rw [hbd hC],by omega⟩
         ·intro hC
          refine awTree.fA ?_ trivial
          refine awTree.fA ?_ trivial
          refine awTree.fA ?_ trivial
          exact awTree.dnC hC
         ·exact trivial
        ·refine awTree.fKM 1 [1] (h_add_limC _ t.d true (pairsP p.1) ((p.1.getD 0 En.zero).key) ((p.1.getD (p.1.length - 1) En.zero).key) (by omega)) ?_ ?_ ?_
         ·intro hC n_ hn_
          refine wkR ?_
          exact .inr ⟨by rw [hbd hC]; exact hC,by rw [hbd hC],by omega⟩
         ·intro hC
          refine awTree.fA ?_ ?_
          ·refine awTree.fA ?_ trivial
           refine awTree.fA ?_ trivial
           refine awTree.fA ?_ trivial
           exact awTree.dnC hC
          ·refine awTree.fA ?_ trivial
           refine awTree.fA ?_ trivial
           refine awTree.fA ?_ trivial
           refine awTree.fA ?_ trivial
           exact awTree.dnC hC
         ·exact trivial
      ·refine awTree.fC (c_names_pairs _ p.1 (by omega)) ?_ trivial
       refine awTree.fA ?_ ?_
       ·refine awTree.fA ?_ trivial
        refine awTree.fKM 1 [1] (h_add_limC _ t.d true (pairsP p.1) ((p.1.getD 0 En.zero).key) ((p.1.getD (p.1.length - 1) En.zero).key) (by omega)) ?_ ?_ ?_
        ·intro hC n_ hn_
         refine wkR ?_
         exact .inr ⟨by rw [hbd hC]; exact hC,by rw [hbd hC],by omega⟩
        ·intro hC
         refine awTree.fA ?_ trivial
         refine awTree.fA ?_ trivial
         refine awTree.fA ?_ trivial
         exact awTree.dnC hC
        ·exact trivial
       ·refine awTree.fA ?_ trivial
        refine awTree.fA ?_ ?_
        ·refine awTree.fKM 1 [1] (h_add_limC _ t.d true (pairsP p.1) ((p.1.getD 0 En.zero).key) ((p.1.getD (p.1.length - 1) En.zero).key) (by omega)) ?_ ?_ ?_
         ·intro hC n_ hn_
          refine wkR ?_
          exact .inr ⟨by rw [hbd hC]; exact hC,by rw [hbd hC],by omega⟩
         ·intro hC
          refine awTree.fA ?_ trivial
          refine awTree.fA ?_ trivial
          refine awTree.fA ?_ trivial
          exact awTree.dnC hC
         ·exact trivial
        ·refine awTree.fKM 1 [1] (h_add_limC _ t.d true (pairsP p.1) ((p.1.getD 0 En.zero).key) ((p.1.getD (p.1.length - 1) En.zero).key) (by omega)) ?_ ?_ ?_
         ·intro hC n_ hn_
          refine wkR ?_
          exact .inr ⟨by rw [hbd hC]; exact hC,by rw [hbd hC],by omega⟩
         ·intro hC
          refine awTree.fA ?_ ?_
          ·refine awTree.fA ?_ trivial
           refine awTree.fA ?_ trivial
           refine awTree.fA ?_ trivial
           exact awTree.dnC hC
          ·refine awTree.fA ?_ trivial
           refine awTree.fA ?_ trivial
           refine awTree.fA ?_ trivial
           refine awTree.fA ?_ trivial
           exact awTree.dnC hC
         ·exact trivial
    case rest14 =>
    intro hc
    rw [hok hc]
    simp only [andThen,unblock]
    refine rdU none [(0,.cells [.ptr 1 0]),(1,.cells [.sl (itemsAV (addO t.d (nodeO true (pairsP p.1) (p.1.getD 0 En.zero).key (p.1.getD (p.1.length - 1) En.zero).key true)).items),.int .i64 (addO t.d (nodeO true (pairsP p.1) (p.1.getD 0 En.zero).key (p.1.getD (p.1.length - 1) En.zero).key true)).trailer.kind,.int .i64 (addO t.d (nodeO true (pairsP p.1) (p.1.getD 0 En.zero).key (p.1.getD (p.1.length - 1) En.zero).key true)).trailer.num,.int .i64 (addO t.d (nodeO true (pairsP p.1) (p.1.getD 0 En.zero).key (p.1.getD (p.1.length - 1) En.zero).key true)).trailer.gen,.str (addO t.d (nodeO true (pairsP p.1) (p.1.getD 0 En.zero).key (p.1.getD (p.1.length - 1) En.zero).key true)).trailer.str,.sl (strsAV (addO t.d (nodeO true (pairsP p.1) (p.1.getD 0 En.zero).key (p.1.getD (p.1.length - 1) En.zero).key true)).trailer.keys),.sl (objsAV (addO t.d (nodeO true (pairsP p.1) (p.1.getD 0 En.zero).key (p.1.getD (p.1.length - 1) En.zero).key true)).trailer.kids)]),(2,.cells [.row 6 0 (t.row ++ [Gr.mk (addN t.d (nodeO true (pairsP p.1) (p.1.getD 0 En.zero).key (p.1.getD (p.1.length - 1) En.zero).key true)) (p.1.getD 0 En.zero).key (p.1.getD (p.1.length - 1) En.zero).key]).length]),(3,.cells [.sl (entsAV l)]),(4,.cells [.int .i64 (f : Int)]),(6,.row 3 (grsAV (t.row ++ [Gr.mk (addN t.d (nodeO true (pairsP p.1) (p.1.getD 0 En.zero).key (p.1.getD (p.1.length - 1) En.zero).key true)) (p.1.getD 0 En.zero).key (p.1.getD (p.1.length - 1) En.zero).key])) true),(5,.lp lq rb)] 7 (St.le.vx [0,1,2,3,4,5,8] (hpre:=(by decide : ∀ i,i < 6 → nth [0,1,2,3,4,5,8] i = some i)) ?vE) ?rE
    case vE =>
     refine ⟨?_,?_⟩
     ·first | rfl | simp
     ·rw [grsAV_append]
      rfl
    case rE=>exact .inl ⟨by trivial,rfl,rfl,rfl⟩
   ·rcases hh with ⟨he,rfl,rfl,rfl⟩ | ⟨he,rfl,rfl,hn⟩
    ·exact .inl ⟨⟨_,rfl⟩,none,rfl,rfl,he,⟨_,_,rfl⟩,rfl⟩
    ·exact .inr ⟨_,rfl,⟨he,rfl⟩,hn⟩
  case hKp =>
   rintro x N hN ⟨he,rfl⟩
   simp only [andThen_pan,unblock_pan]
   refine panD ?_
   refine LeaveS.c1 [3] (d_face_pan _ _) ?_
   refine LeaveS.rt Tryz.results17 ?_
   obtain ⟨e1,e2,e3⟩:=hbad _ (by rw [climb_err he,top_err he]) he
   rw [e1,e2,e3]
   rfl
  case hK =>
   rintro j hp' nx' ⟨rfl,he,⟨lq,rl,rfl⟩,rfl⟩
   simp only [cHp,Dc.cells]
   refine ⟨by simp only [go_sem,seval],?_⟩
   simp only [andThen,unblock]
   generalize leavesB d l f (partsN l.length f) = s1 at *
   refine AWT.trim [2,6,7,8,10,12] ?_
   refine AWT.seq ?_
   refine AWT.block ?_
   refine AWT.lk (S:={ p : Nat × BS // p.2.err = 0 ∧ p.2.row.length ≤ p.1 ∧ climbB f l.length s1 = climbB f p.1 p.2 ∧ p.2.d.bulk + 30 * p.2.row.length ≤ 2400000 ∧ p.2.row.length ≤ 4096 ∧ numsOk p.2.row }) [2,6,7,8,10,12] (fun s_=>[]) (fun s_=>[(0,.cells [.sl (itemsAV d.items),.int .i64 d.trailer.kind,.int .i64 d.trailer.num,.int .i64 d.trailer.gen,.str d.trailer.str,.sl (strsAV d.trailer.keys),.sl (objsAV d.trailer.kids)]),(1,.cells [.raw (.slice none 0 0),.int .i64 0,.int .i64 0,.int .i64 0,.str [],.raw (.slice none 0 0),.raw (.slice none 0 0)]),(2,.cells [.int .i64 0,.int .i64 0,.int .i64 0,.str [],.raw (.slice none 0 0),.raw (.slice none 0 0)]),(3,.cells [.int .i64 0]),(4,.cells [.sl (itemsAV s_.1.2.d.items),.int .i64 s_.1.2.d.trailer.kind,.int .i64 s_.1.2.d.trailer.num,.int .i64 s_.1.2.d.trailer.gen,.str s_.1.2.d.trailer.str,.sl (strsAV s_.1.2.d.trailer.keys),.sl (objsAV s_.1.2.d.trailer.kids)]),(5,.cells [.ptr 4 0]),(6,.cells [.row 7 0 s_.1.2.row.length]),(7,.row 3 (grsAV s_.1.2.row) true)]) 8 (fun s_=>s_.1.2.row.length) ⟨(l.length,s1),he,by show s1.row.length ≤ l.length; omega,rfl,by show s1.d.bulk + 30 * s1.row.length ≤ 2400000; omega,by show s1.row.length ≤ 4096; omega,hns1⟩ ?_ ?_
   ·exact St.le.vw [0,1,2,3,4,5,6,11] (hpre:=(by decide : ∀ i,i < 0 → nth [0,1,2,3,4,5,6,11] i = some i))
   rintro ⟨⟨k,s⟩,hse,hsk,hsc,hsb,hsl,hnum⟩
   try dsimp only at hse
   try dsimp only at hsk
   try dsimp only at hsc
   try dsimp only at hsb
   try dsimp only at hsl
   try dsimp only at hnum
   refine AWT.seq ?_
   refine AWT.rS ?_
   refine AWT.c2 ?_ ?_
   ·intro hG
    have hG2 : ¬ s.row.length ≤ f:=by omega
    obtain ⟨k1,rfl⟩ : ∃ k1,k = k1 + 1:=⟨k - 1,by omega⟩
    have hsc2:=climb_step (k:=k1) hse hG2
    rw [hsc2] at hsc
    have hpn2 : partsN s.row.length f ≤ (s.row.length + 1) / 2:=parts_le hf2
    have hba:=above_bulk s.d s.row f (partsN s.row.length f)
    have hta : (s.row.take (partsN s.row.length f * f)).length ≤ s.row.length:=by rw [List.length_take]; exact Nat.min_le_right _ _
    have hla:=above_len s.d s.row f (partsN s.row.length f)
    have hna:=above_nums s.d s.row f (partsN s.row.length f)
    refine AWT.skip ?_
    refine AWT.block ?_
    refine AWT.rS ?_
    refine AWT.trim [2,6,7,8,10,12,14] ?_
    refine AWT.pre (St.le.nilcell 8 0 3 rfl rfl) ?_
    refine AWT.fz [7] ?_
    refine AWT.seq ?_
    refine AWT.rSC ?_
    refine OpsT.cs (awGuard.cH [] (h_chunk_G _ s.row f (by omega)) ?_)
    refine OpsT.rn ?_
    refine OpsT.nil ?_
    refine AWT.block ?_
    refine AWT.rP (f0:=17) (fnc:=Tryz.f17) rfl Tryz.func17 [5,4,8,10,11] [9] [(10,.ptr 0 0),(14,.ptr 2 0)] (fun j hp' nx'=>j = none ∧ (aboveB s.d s.row f (partsN s.row.length f)).err = 0 ∧ (∃ lq rl,hp' = cHp (grsAV s.row) f (aboveB s.d s.row f (partsN s.row.length f)) (.lp lq rl)) ∧ nx' = 7) (Rp:=fun x=>(aboveB s.d s.row f (partsN s.row.length f)).err ≠ 0 ∧ x = .iface 105 (.int .i64 (aboveB s.d s.row f (partsN s.row.length f)).err)) (xs:=[.ptr 3 0,.ptr 4 0]) (hp0:=[(0,.cells [.ptr 1 0]),(1,.cells [.sl (itemsAV s.d.items),.int .i64 s.d.trailer.kind,.int .i64 s.d.trailer.num,.int .i64 s.d.trailer.gen,.str s.d.trailer.str,.sl (strsAV s.d.trailer.keys),.sl (objsAV s.d.trailer.kids)]),(2,.cells [.row 6 0 (([] : List Gr)).length]),(3,.cells [.sl (grsAV s.row)]),(4,.cells [.int .i64 (f : Int)]),(6,.row 3 (grsAV (([] : List Gr))) true)]) ?hit ?hKp ?hK
    case hit =>
     intro Ω hΩ lq rb rc hr
     refine (chunk_G gl s.row f (aboveB s.d s.row f) lq rc hf2 hf16 (by omega) rfl (fun i h k hk=>above_stop h k hk) (fun k hk hek=>?_)).mono (fun q hp nx hh=>?_)
     ·skip
      have hne:=part_ne (l:=s.row) (by omega) hk
      have hbk:=above_bulk s.d s.row f k
      have hln:=above_len s.d s.row f k
      have hsum : (s.row.take (k * f)).length + (partL s.row f k).length ≤ s.row.length:=by rw [← List.length_append,← take_part]; rw [List.length_take]; exact Nat.min_le_right _ _
      have hkp : k < partsN s.row.length f:=(parts_more (by omega)).2 hk
      have hstep : aboveB s.d s.row f (k + 1) = addB (aboveB s.d s.row f k) false (refsP (partL s.row f k)) ((partL s.row f k).getD 0 Gr.zero).lo ((partL s.row f k).getD ((partL s.row f k).length - 1) Gr.zero).hi true:=rfl
      rw [hstep]
      obtain ⟨p,hp⟩ : ∃ p : { x : List Gr // x ≠ [] },p.1 = partL s.row f k:=⟨⟨_,hne⟩,rfl⟩
      rw [← hp] at hsum ⊢
      have hpl : 0 < p.1.length:=List.length_pos_iff.2 p.2
      have hpnum : numsOk p.1:=fun g hg=>hnum g (List.mem_of_mem_drop (List.mem_of_mem_take (by rw [hp] at hg; exact hg)))
      have hpb:=refsP_bulk p.1
      clear hstep
      generalize hts : aboveB s.d s.row f k = t at *
      have hok:=addB_ok (s:=t) (low:=false) (l:=refsP p.1) (lo:=(p.1.getD 0 Gr.zero).lo) (hi:=(p.1.getD (p.1.length - 1) Gr.zero).hi) (lim:=true) hek
      have hbd:=addB_bad (s:=t) (low:=false) (l:=refsP p.1) (lo:=(p.1.getD 0 Gr.zero).lo) (hi:=(p.1.getD (p.1.length - 1) Gr.zero).hi) (lim:=true) hek
      simp only [cHp,Dc.cells]
      refine hr [_] _ 7 _ rfl rfl ?_
      intro b_
      refine AWT.rL ?_
      refine ⟨rfl,rfl,?_⟩
      refine AWT.block ?_
      refine AWT.tGLC (C:=addE t.d (nodeO false (refsP p.1) ((p.1.getD 0 Gr.zero).lo) ((p.1.getD (p.1.length - 1) Gr.zero).hi) true) = 0) (σf:=?sf19) (.take 2 0 (.take 4 0 (.take 5 0 (.take 6 0 (.take 7 0 (.take 8 0 (.take 9 0 (.take 10 0 (.take 11 0 (.take 12 0 (.take 13 0 (.take 14 0 (.fork 0 (.fork 1 (.fork 3 (.fork 15 (.fork 16 (.fork 17 (.fork 18 .done .stop) .stop) .stop) .stop) .stop) (.fork 3 (.fork 1 (.fork 15 (.fork 16 (.fork 17 (.fork 18 .done .stop) .stop) .stop) .stop) .stop) .stop)) (.fork 1 (.fork 0 (.fork 3 (.fork 15 (.fork 16 (.fork 17 (.fork 18 .done .stop) .stop) .stop) .stop) .stop) (.fork 3 (.fork 0 (.fork 15 (.fork 16 (.fork 17 (.fork 18 .done .stop) .stop) .stop) .stop) (.fork 15 (.fork 0 (.fork 16 (.fork 17 (.fork 18 .done .stop) .stop) .stop) (.fork 16 (.fork 0 (.fork 17 (.fork 18 .done .stop) .stop) .stop) .stop)) .stop)) .stop)) (.fork 3 (.fork 0 (.fork 1 (.fork 15 (.fork 16 (.fork 17 (.fork 18 .done .stop) .stop) .stop) .stop) .stop) (.fork 1 (.fork 0 (.fork 15 (.fork 16 (.fork 17 (.fork 18 .done .stop) .stop) .stop) .stop) (.fork 15 (.fork 0 (.fork 16 (.fork 17 (.fork 18 .done .stop) .stop) .stop) (.fork 16 (.fork 0 (.fork 17 (.fork 18 .done .stop) .stop) .stop) .stop)) .stop)) .stop)) .stop))))))))))))))) ?tree19 ?rest19
      case tree19 =>
       refine awTree.tk ?_
       refine awTree.tk ?_
       refine awTree.tk ?_
       refine awTree.tk ?_
       refine awTree.tk ?_
       refine awTree.tk ?_
       refine awTree.tk ?_
       refine awTree.tk ?_
       refine awTree.tk ?_
       refine awTree.tk ?_
       refine awTree.tk ?_
       refine awTree.tk ?_
       refine awTree.fA ?_ ?_
       ·refine awTree.fA ?_ ?_
        ·refine awTree.fC (c_names_refs _ p.1 (by omega) hpnum) ?_ trivial
         refine awTree.fKM 1 [1] (h_add_limC _ t.d false (refsP p.1) ((p.1.getD 0 Gr.zero).lo) ((p.1.getD (p.1.length - 1) Gr.zero).hi) (by omega)) ?_ ?_ ?_
         ·intro hC n_ hn_
          refine wkR ?_
          exact .inr ⟨by rw [hbd hC]; exact hC,by rw [hbd hC],by omega⟩
         ·intro hC
          refine awTree.fA ?_ trivial
          refine awTree.fA ?_ trivial
          refine awTree.fA ?_ trivial
          exact awTree.dnC hC
         ·exact trivial
        ·refine awTree.fC (c_names_refs _ p.1 (by omega) hpnum) ?_ trivial
         refine awTree.fA ?_ trivial
         refine awTree.fKM 1 [1] (h_add_limC _ t.d false (refsP p.1) ((p.1.getD 0 Gr.zero).lo) ((p.1.getD (p.1.length - 1) Gr.zero).hi) (by omega)) ?_ ?_ ?_
         ·intro hC n_ hn_
          refine wkR ?_
          exact .inr ⟨by rw [hbd hC]; exact hC,by rw [hbd hC],by omega⟩
         ·intro hC
          refine awTree.fA ?_ trivial
          refine awTree.fA ?_ trivial
          refine awTree.fA ?_ trivial
          exact awTree.dnC hC
         ·exact trivial
       ·refine awTree.fA ?_ ?_
        ·refine awTree.fA ?_ ?_
         ·refine awTree.fC (c_names_refs _ p.1 (by omega) hpnum) ?_ trivial
          refine awTree.fKM 1 [1] (h_add_limC _ t.d false (refsP p.1) ((p.1.getD 0 Gr.zero).lo) ((p.1.getD (p.1.length - 1) Gr.zero).hi) (by omega)) ?_ ?_ ?_
          ·intro hC n_ hn_
           refine wkR ?_
           exact .inr ⟨by rw [hbd hC]; exact hC,by rw [hbd hC],by omega⟩
          ·intro hC
           refine awTree.fA ?_ trivial
           refine awTree.fA ?_ trivial
           refine awTree.fA ?_ trivial
           exact awTree.dnC hC
          ·exact trivial
         ·refine awTree.fC (c_names_refs _ p.1 (by omega) hpnum) ?_ trivial
          refine awTree.fA ?_ ?_
          ·refine awTree.fKM 1 [1] (h_add_limC _ t.d false (refsP p.1) ((p.1.getD 0 Gr.zero).lo) ((p.1.getD (p.1.length - 1) Gr.zero).hi) (by omega)) ?_ ?_ ?_
           ·intro hC n_ hn_
            refine wkR ?_
            exact .inr ⟨by rw [hbd hC]; exact hC,by rw [hbd hC],by omega⟩
           ·intro hC
            refine awTree.fA ?_ trivial
            refine awTree.fA ?_ trivial
            refine awTree.fA ?_ trivial
            exact awTree.dnC hC
           ·exact trivial
          ·refine awTree.fKM 1 [1] (h_add_limC _ t.d false (refsP p.1) ((p.1.getD 0 Gr.zero).lo) ((p.1.getD (p.1.length - 1) Gr.zero).hi) (by omega)) ?_ ?_ ?_
           ·intro hC n_ hn_
            refine wkR ?_
            exact .inr ⟨by rw [hbd hC]; exact hC,by rw [hbd hC],by omega⟩
           ·intro hC
            refine awTree.fA ?_ ?_
            ·refine awTree.fA ?_ trivial
             refine awTree.fA ?_ trivial
             refine awTree.fA ?_ trivial
             exact awTree.dnC hC
            ·refine awTree.fA ?_ trivial
             refine awTree.fA ?_ trivial
             refine awTree.fA ?_ trivial
             refine awTree.fA ?_ trivial
             exact awTree.dnC hC
           ·exact trivial
        ·refine awTree.fC (c_names_refs _ p.1 (by omega) hpnum) ?_ trivial
         refine awTree.fA ?_ ?_
         ·refine awTree.fA ?_ trivial
          refine awTree.fKM 1 [1] (h_add_limC _ t.d false (refsP p.1) ((p.1.getD 0 Gr.zero).lo) ((p.1.getD (p.1.length - 1) Gr.zero).hi) (by omega)) ?_ ?_ ?_
          ·intro hC n_ hn_
           refine wkR ?_
           exact .inr ⟨by rw [hbd hC]; exact hC,by rw [hbd hC],by omega⟩
          ·intro hC
           refine awTree.fA ?_ trivial
           refine awTree.fA ?_ trivial
           refine awTree.fA ?_ trivial
           exact awTree.dnC hC
          ·exact trivial
         ·refine awTree.fA ?_ trivial
          refine awTree.fA ?_ ?_
          ·refine awTree.fKM 1 [1] (h_add_limC _ t.d false (refsP p.1) ((p.1.getD 0 Gr.zero).lo) ((p.1.getD (p.1.length - 1) Gr.zero).hi) (by omega)) ?_ ?_ ?_
           ·intro hC n_ hn_
            refine wkR ?_
            exact .inr ⟨by rw [hbd hC]; exact hC,by rw [hbd hC],by omega⟩
           ·intro hC
            refine awTree.fA ?_ trivial
            refine awTree.fA ?_ trivial
            refine awTree.fA ?_ trivial
            exact awTree.dnC hC
           ·exact trivial
          ·refine awTree.fKM 1 [1] (h_add_limC _ t.d false (refsP p.1) ((p.1.getD 0 Gr.zero).lo) ((p.1.getD (p.1.length - 1) Gr.zero).hi) (by omega)) ?_ ?_ ?_
           ·intro hC n_ hn_
            refine wkR ?_
            exact .inr ⟨by rw [hbd hC]; exact hC,by rw [hbd hC],by omega⟩
           ·intro hC
            refine awTree.fA ?_ ?_
            ·refine awTree.fA ?_ trivial
             refine awTree.fA ?_ trivial
             refine awTree.fA ?_ trivial
             exact awTree.dnC hC
            ·refine awTree.fA ?_ trivial
             refine awTree.fA ?_ trivial
             refine awTree.fA ?_ trivial
             refine awTree.fA ?_ trivial
             exact awTree.dnC hC
           ·exact trivial
      case rest19 =>
      intro hc
      rw [hok hc]
      simp only [andThen,unblock]
      refine rdU none [(0,.cells [.ptr 1 0]),(1,.cells [.sl (itemsAV (addO t.d (nodeO false (refsP p.1) (p.1.getD 0 Gr.zero).lo (p.1.getD (p.1.length - 1) Gr.zero).hi true)).items),.int .i64 (addO t.d (nodeO false (refsP p.1) (p.1.getD 0 Gr.zero).lo (p.1.getD (p.1.length - 1) Gr.zero).hi true)).trailer.kind,.int .i64 (addO t.d (nodeO false (refsP p.1) (p.1.getD 0 Gr.zero).lo (p.1.getD (p.1.length - 1) Gr.zero).hi true)).trailer.num,.int .i64 (addO t.d (nodeO false (refsP p.1) (p.1.getD 0 Gr.zero).lo (p.1.getD (p.1.length - 1) Gr.zero).hi true)).trailer.gen,.str (addO t.d (nodeO false (refsP p.1) (p.1.getD 0 Gr.zero).lo (p.1.getD (p.1.length - 1) Gr.zero).hi true)).trailer.str,.sl (strsAV (addO t.d (nodeO false (refsP p.1) (p.1.getD 0 Gr.zero).lo (p.1.getD (p.1.length - 1) Gr.zero).hi true)).trailer.keys),.sl (objsAV (addO t.d (nodeO false (refsP p.1) (p.1.getD 0 Gr.zero).lo (p.1.getD (p.1.length - 1) Gr.zero).hi true)).trailer.kids)]),(2,.cells [.row 6 0 (t.row ++ [Gr.mk (addN t.d (nodeO false (refsP p.1) (p.1.getD 0 Gr.zero).lo (p.1.getD (p.1.length - 1) Gr.zero).hi true)) (p.1.getD 0 Gr.zero).lo (p.1.getD (p.1.length - 1) Gr.zero).hi]).length]),(3,.cells [.sl (grsAV s.row)]),(4,.cells [.int .i64 (f : Int)]),(6,.row 3 (grsAV (t.row ++ [Gr.mk (addN t.d (nodeO false (refsP p.1) (p.1.getD 0 Gr.zero).lo (p.1.getD (p.1.length - 1) Gr.zero).hi true)) (p.1.getD 0 Gr.zero).lo (p.1.getD (p.1.length - 1) Gr.zero).hi])) true),(5,.lp lq rb)] 7 (St.le.vx [0,1,2,3,4,5,8] (hpre:=(by decide : ∀ i,i < 6 → nth [0,1,2,3,4,5,8] i = some i)) ?vG) ?rG
      case vG =>
       refine ⟨?_,?_⟩
       ·first | rfl | simp
       ·rw [grsAV_append]
        rfl
      case rG=>exact .inl ⟨by trivial,rfl,rfl,rfl⟩
     ·rcases hh with ⟨he,rfl,rfl,rfl⟩ | ⟨he,rfl,rfl,hn⟩
      ·exact .inl ⟨⟨_,rfl⟩,none,rfl,rfl,he,⟨_,_,rfl⟩,rfl⟩
      ·exact .inr ⟨_,rfl,⟨he,rfl⟩,hn⟩
    case hKp =>
     rintro x N hN ⟨he,rfl⟩
     simp only [andThen_pan,unblock_pan]
     refine panD ?_
     refine LeaveS.c1 [3] (d_face_pan _ _) ?_
     refine LeaveS.rt Tryz.results17 ?_
     obtain ⟨e1,e2,e3⟩:=hbad _ (by rw [hsc,climb_err he,top_err he]) he
     rw [e1,e2,e3]
     rfl
    case hK =>
     rintro j hp' nx' ⟨rfl,hea,⟨lq,rl,rfl⟩,rfl⟩
     simp only [cHp,Dc.cells]
     refine ⟨by simp only [go_sem,seval],?_⟩
     simp only [andThen,unblock]
     refine AWT.trim [2,6,7,8,10,12,14] ?_
     refine AWT.rL ?_
     refine ⟨⟨(k1,aboveB s.d s.row f (partsN s.row.length f)),hea,?_,hsc,?_,?_,hna⟩,?_,?_⟩
     ·show (aboveB s.d s.row f (partsN s.row.length f)).row.length ≤ k1; omega
     ·show (aboveB s.d s.row f (partsN s.row.length f)).d.bulk + 30 * (aboveB s.d s.row f (partsN s.row.length f)).row.length ≤ 2400000; omega
     ·show (aboveB s.d s.row f (partsN s.row.length f)).row.length ≤ 4096; omega
     ·exact St.le.vw [0,1,2,3,4,5,6,13] (hpre:=(by decide : ∀ i,i < 0 → nth [0,1,2,3,4,5,6,13] i = some i))
     ·show (aboveB s.d s.row f (partsN s.row.length f)).row.length < s.row.length; omega
   ·intro hG
    have hG2 : s.row.length ≤ f:=by omega
    rw [climb_low hG2] at hsc
    rw [hsc,top_ok hse] at hbad hgood
    have hrb:=refsP_bulk s.row
    have hb21 : ¬ addE s.d (nodeO false (refsP s.row) [] [] false) = 0 → makeE d l (f : Int) = addE s.d (nodeO false (refsP s.row) [] [] false) ∧ makeD d l (f : Int) = Dc.zero ∧ makeO d l (f : Int) = Pob.null:=fun hC=>hbad _ (addB_bad (s:=⟨0,s.d,[]⟩) rfl hC) hC
    refine AWT.exit ?_
    simp only [andThen,unblock,if_true]
    refine AWT.trim [6,7,8,10,12] ?_
    refine AWT.fz [7] ?_
    refine AWT.tVE (E0:=[(6,.ptr 1 0),(7,.ptr 2 0),(8,.ptr 3 0)]) (C:=addE s.d (nodeO false (refsP s.row) [] [] false) = 0) (σ1:=⟨111,[(6,.ptr 1 0),(7,.ptr 2 0),(8,.ptr 3 0),(10,.ptr 5 0),(16,.ptr 6 0)],[(0,.cells [.sl (itemsAV d.items),.int .i64 d.trailer.kind,.int .i64 d.trailer.num,.int .i64 d.trailer.gen,.str d.trailer.str,.sl (strsAV d.trailer.keys),.sl (objsAV d.trailer.kids)]),(1,.cells [.raw (.slice none 0 0),.int .i64 0,.int .i64 0,.int .i64 0,.str [],.raw (.slice none 0 0),.raw (.slice none 0 0)]),(2,.cells [.int .i64 0,.int .i64 0,.int .i64 0,.str [],.raw (.slice none 0 0),.raw (.slice none 0 0)]),(3,.cells [.int .i64 0]),(4,.cells [.sl (itemsAV (addO s.d (nodeO false (refsP s.row) [] [] false)).items),.int .i64 (addO s.d (nodeO false (refsP s.row) [] [] false)).trailer.kind,.int .i64 (addO s.d (nodeO false (refsP s.row) [] [] false)).trailer.num,.int .i64 (addO s.d (nodeO false (refsP s.row) [] [] false)).trailer.gen,.str (addO s.d (nodeO false (refsP s.row) [] [] false)).trailer.str,.sl (strsAV (addO s.d (nodeO false (refsP s.row) [] [] false)).trailer.keys),.sl (objsAV (addO s.d (nodeO false (refsP s.row) [] [] false)).trailer.kids)]),(5,.cells [.ptr 4 0]),(6,.cells [.int .i64 (addN s.d (nodeO false (refsP s.row) [] [] false)),.str [],.str []])],7,gl,0,[(26,[.ptr 3 0])]⟩) (.fork 0 (.fork 1 (.fork 2 (.fork 3 (.fork 4 (.fork 5 .done .stop) .stop) (.fork 4 (.fork 3 (.fork 5 .done .stop) .stop) .stop)) (.fork 4 (.fork 2 (.fork 3 (.fork 5 .done .stop) .stop) .stop) .stop)) (.fork 4 (.fork 1 (.fork 2 (.fork 3 (.fork 5 .done .stop) .stop) .stop) .stop) .stop)) (.fork 1 (.fork 0 (.fork 2 (.fork 3 (.fork 4 (.fork 5 .done .stop) .stop) (.fork 4 (.fork 3 (.fork 5 .done .stop) .stop) .stop)) (.fork 4 (.fork 2 (.fork 3 (.fork 5 .done .stop) .stop) .stop) .stop)) (.fork 2 (.fork 0 (.fork 3 (.fork 4 (.fork 5 .done .stop) .stop) (.fork 4 (.fork 3 (.fork 5 .done .stop) .stop) .stop)) (.fork 4 (.fork 0 (.fork 3 (.fork 5 .done .stop) .stop) .stop) .stop)) (.fork 4 (.fork 0 (.fork 2 (.fork 3 (.fork 5 .done .stop) .stop) .stop) (.fork 2 (.fork 0 (.fork 3 (.fork 5 .done .stop) .stop) .stop) .stop)) .stop))) (.fork 4 (.fork 0 (.fork 1 (.fork 2 (.fork 3 (.fork 5 .done .stop) .stop) .stop) .stop) (.fork 1 (.fork 0 (.fork 2 (.fork 3 (.fork 5 .done .stop) .stop) .stop) (.fork 2 (.fork 0 (.fork 3 (.fork 5 .done .stop) .stop) .stop) .stop)) .stop)) .stop))) ?tree21 ?rest21
    case tree21 =>
     refine awTree.fA ?_ ?_
     ·refine awTree.fA ?_ ?_
      ·refine awTree.fC (c_names_refs _ s.row (by omega) hnum) ?_ ?_
       ·refine awTree.fKM 1 [4] (h_add_bareC _ s.d false (refsP s.row) [] [] (by omega)) ?_ ?_ ?_
        ·intro hC n_ hn_
         simp only [andThen_pan,unblock_pan,withE_pan]
         refine panD ?_
         refine LeaveS.c1 [3] (d_face_pan _ _) ?_
         refine LeaveS.rt Tryz.results17 ?_
         obtain ⟨e1,e2,e3⟩:=hb21 hC
         rw [e1,e2,e3]
         rfl
        ·intro hC
         refine awTree.fA ?_ trivial
         refine awTree.fA ?_ trivial
         exact awTree.dnV hC (St.le.vw [0,1,2,3,4,5,8])
        ·refine awTree.fA ?_ trivial
         refine awTree.fKM 1 [4] (h_add_bareC _ s.d false (refsP s.row) [] [] (by omega)) ?_ ?_ ?_
         ·intro hC n_ hn_
          simp only [andThen_pan,unblock_pan,withE_pan]
          refine panD ?_
          refine LeaveS.c1 [3] (d_face_pan _ _) ?_
          refine LeaveS.rt Tryz.results17 ?_
          obtain ⟨e1,e2,e3⟩:=hb21 hC
          rw [e1,e2,e3]
          rfl
         ·intro hC
          refine awTree.fA ?_ trivial
          exact awTree.dnV hC (St.le.vw [0,1,2,3,4,5,8])
         ·exact trivial
       ·refine awTree.fA ?_ trivial
        refine awTree.fC (c_names_refs _ s.row (by omega) hnum) ?_ trivial
        refine awTree.fKM 1 [4] (h_add_bareC _ s.d false (refsP s.row) [] [] (by omega)) ?_ ?_ ?_
        ·intro hC n_ hn_
         simp only [andThen_pan,unblock_pan,withE_pan]
         refine panD ?_
         refine LeaveS.c1 [3] (d_face_pan _ _) ?_
         refine LeaveS.rt Tryz.results17 ?_
         obtain ⟨e1,e2,e3⟩:=hb21 hC
         rw [e1,e2,e3]
         rfl
        ·intro hC
         refine awTree.fA ?_ trivial
         exact awTree.dnV hC (St.le.vw [0,1,2,3,4,5,8])
        ·exact trivial
      ·refine awTree.fA ?_ trivial
       refine awTree.fA ?_ trivial
       refine awTree.fC (c_names_refs _ s.row (by omega) hnum) ?_ trivial
       refine awTree.fKM 1 [4] (h_add_bareC _ s.d false (refsP s.row) [] [] (by omega)) ?_ ?_ ?_
       ·intro hC n_ hn_
        simp only [andThen_pan,unblock_pan,withE_pan]
        refine panD ?_
        refine LeaveS.c1 [3] (d_face_pan _ _) ?_
        refine LeaveS.rt Tryz.results17 ?_
        obtain ⟨e1,e2,e3⟩:=hb21 hC
        rw [e1,e2,e3]
        rfl
       ·intro hC
        refine awTree.fA ?_ trivial
        exact awTree.dnV hC (St.le.vw [0,1,2,3,4,5,8])
       ·exact trivial
     ·refine awTree.fA ?_ ?_
      ·refine awTree.fA ?_ ?_
       ·refine awTree.fC (c_names_refs _ s.row (by omega) hnum) ?_ ?_
        ·refine awTree.fKM 1 [4] (h_add_bareC _ s.d false (refsP s.row) [] [] (by omega)) ?_ ?_ ?_
         ·intro hC n_ hn_
          simp only [andThen_pan,unblock_pan,withE_pan]
          refine panD ?_
          refine LeaveS.c1 [3] (d_face_pan _ _) ?_
          refine LeaveS.rt Tryz.results17 ?_
          obtain ⟨e1,e2,e3⟩:=hb21 hC
          rw [e1,e2,e3]
          rfl
         ·intro hC
          refine awTree.fA ?_ trivial
          refine awTree.fA ?_ trivial
          exact awTree.dnV hC (St.le.vw [0,1,2,3,4,5,8])
         ·refine awTree.fA ?_ trivial
          refine awTree.fKM 1 [4] (h_add_bareC _ s.d false (refsP s.row) [] [] (by omega)) ?_ ?_ ?_
          ·intro hC n_ hn_
           simp only [andThen_pan,unblock_pan,withE_pan]
           refine panD ?_
           refine LeaveS.c1 [3] (d_face_pan _ _) ?_
           refine LeaveS.rt Tryz.results17 ?_
           obtain ⟨e1,e2,e3⟩:=hb21 hC
           rw [e1,e2,e3]
           rfl
          ·intro hC
           refine awTree.fA ?_ trivial
           exact awTree.dnV hC (St.le.vw [0,1,2,3,4,5,8])
          ·exact trivial
        ·refine awTree.fA ?_ trivial
         refine awTree.fC (c_names_refs _ s.row (by omega) hnum) ?_ trivial
         refine awTree.fKM 1 [4] (h_add_bareC _ s.d false (refsP s.row) [] [] (by omega)) ?_ ?_ ?_
         ·intro hC n_ hn_
          simp only [andThen_pan,unblock_pan,withE_pan]
          refine panD ?_
          refine LeaveS.c1 [3] (d_face_pan _ _) ?_
          refine LeaveS.rt Tryz.results17 ?_
          obtain ⟨e1,e2,e3⟩:=hb21 hC
          rw [e1,e2,e3]
          rfl
         ·intro hC
          refine awTree.fA ?_ trivial
          exact awTree.dnV hC (St.le.vw [0,1,2,3,4,5,8])
         ·exact trivial
       ·refine awTree.fC (c_names_refs _ s.row (by omega) hnum) ?_ ?_
        ·refine awTree.fA ?_ ?_
         ·refine awTree.fKM 1 [4] (h_add_bareC _ s.d false (refsP s.row) [] [] (by omega)) ?_ ?_ ?_
          ·intro hC n_ hn_
           simp only [andThen_pan,unblock_pan,withE_pan]
           refine panD ?_
           refine LeaveS.c1 [3] (d_face_pan _ _) ?_
           refine LeaveS.rt Tryz.results17 ?_
           obtain ⟨e1,e2,e3⟩:=hb21 hC
           rw [e1,e2,e3]
           rfl
          ·intro hC
           refine awTree.fA ?_ trivial
           refine awTree.fA ?_ trivial
           exact awTree.dnV hC (St.le.vw [0,1,2,3,4,5,8])
          ·refine awTree.fA ?_ trivial
           refine awTree.fKM 1 [4] (h_add_bareC _ s.d false (refsP s.row) [] [] (by omega)) ?_ ?_ ?_
           ·intro hC n_ hn_
            simp only [andThen_pan,unblock_pan,withE_pan]
            refine panD ?_
            refine LeaveS.c1 [3] (d_face_pan _ _) ?_
            refine LeaveS.rt Tryz.results17 ?_
            obtain ⟨e1,e2,e3⟩:=hb21 hC
            rw [e1,e2,e3]
            rfl
           ·intro hC
            refine awTree.fA ?_ trivial
            exact awTree.dnV hC (St.le.vw [0,1,2,3,4,5,8])
           ·exact trivial
         ·refine awTree.fA ?_ trivial
          refine awTree.fA ?_ trivial
          refine awTree.fKM 1 [4] (h_add_bareC _ s.d false (refsP s.row) [] [] (by omega)) ?_ ?_ ?_
          ·intro hC n_ hn_
           simp only [andThen_pan,unblock_pan,withE_pan]
           refine panD ?_
           refine LeaveS.c1 [3] (d_face_pan _ _) ?_
           refine LeaveS.rt Tryz.results17 ?_
           obtain ⟨e1,e2,e3⟩:=hb21 hC
           rw [e1,e2,e3]
           rfl
          ·intro hC
           refine awTree.fA ?_ trivial
           exact awTree.dnV hC (St.le.vw [0,1,2,3,4,5,8])
          ·exact trivial
        ·refine awTree.fA ?_ trivial
         refine awTree.fA ?_ ?_
         ·refine awTree.fC (c_names_refs _ s.row (by omega) hnum) ?_ trivial
          refine awTree.fKM 1 [4] (h_add_bareC _ s.d false (refsP s.row) [] [] (by omega)) ?_ ?_ ?_
          ·intro hC n_ hn_
           simp only [andThen_pan,unblock_pan,withE_pan]
           refine panD ?_
           refine LeaveS.c1 [3] (d_face_pan _ _) ?_
           refine LeaveS.rt Tryz.results17 ?_
           obtain ⟨e1,e2,e3⟩:=hb21 hC
           rw [e1,e2,e3]
           rfl
          ·intro hC
           refine awTree.fA ?_ trivial
           exact awTree.dnV hC (St.le.vw [0,1,2,3,4,5,8])
          ·exact trivial
         ·refine awTree.fC (c_names_refs _ s.row (by omega) hnum) ?_ trivial
          refine awTree.fA ?_ trivial
          refine awTree.fKM 1 [4] (h_add_bareC _ s.d false (refsP s.row) [] [] (by omega)) ?_ ?_ ?_
          ·intro hC n_ hn_
           simp only [andThen_pan,unblock_pan,withE_pan]
           refine panD ?_
           refine LeaveS.c1 [3] (d_face_pan _ _) ?_
           refine LeaveS.rt Tryz.results17 ?_
           obtain ⟨e1,e2,e3⟩:=hb21 hC
           rw [e1,e2,e3]
           rfl
          ·intro hC
           refine awTree.fA ?_ trivial
           exact awTree.dnV hC (St.le.vw [0,1,2,3,4,5,8])
          ·exact trivial
      ·refine awTree.fA ?_ trivial
       refine awTree.fA ?_ ?_
       ·refine awTree.fA ?_ trivial
        refine awTree.fC (c_names_refs _ s.row (by omega) hnum) ?_ trivial
        refine awTree.fKM 1 [4] (h_add_bareC _ s.d false (refsP s.row) [] [] (by omega)) ?_ ?_ ?_
        ·intro hC n_ hn_
         simp only [andThen_pan,unblock_pan,withE_pan]
         refine panD ?_
         refine LeaveS.c1 [3] (d_face_pan _ _) ?_
         refine LeaveS.rt Tryz.results17 ?_
         obtain ⟨e1,e2,e3⟩:=hb21 hC
         rw [e1,e2,e3]
         rfl
        ·intro hC
         refine awTree.fA ?_ trivial
         exact awTree.dnV hC (St.le.vw [0,1,2,3,4,5,8])
        ·exact trivial
       ·refine awTree.fA ?_ trivial
        refine awTree.fA ?_ ?_
        ·refine awTree.fC (c_names_refs _ s.row (by omega) hnum) ?_ trivial
         refine awTree.fKM 1 [4] (h_add_bareC _ s.d false (refsP s.row) [] [] (by omega)) ?_ ?_ ?_
         ·intro hC n_ hn_
          simp only [andThen_pan,unblock_pan,withE_pan]
          refine panD ?_
          refine LeaveS.c1 [3] (d_face_pan _ _) ?_
          refine LeaveS.rt Tryz.results17 ?_
          obtain ⟨e1,e2,e3⟩:=hb21 hC
          rw [e1,e2,e3]
          rfl
         ·intro hC
          refine awTree.fA ?_ trivial
          exact awTree.dnV hC (St.le.vw [0,1,2,3,4,5,8])
         ·exact trivial
        ·refine awTree.fC (c_names_refs _ s.row (by omega) hnum) ?_ trivial
         refine awTree.fA ?_ trivial
         refine awTree.fKM 1 [4] (h_add_bareC _ s.d false (refsP s.row) [] [] (by omega)) ?_ ?_ ?_
         ·intro hC n_ hn_
          simp only [andThen_pan,unblock_pan,withE_pan]
          refine panD ?_
          refine LeaveS.c1 [3] (d_face_pan _ _) ?_
          refine LeaveS.rt Tryz.results17 ?_
          obtain ⟨e1,e2,e3⟩:=hb21 hC
          rw [e1,e2,e3]
          rfl
         ·intro hC
          refine awTree.fA ?_ trivial
          exact awTree.dnV hC (St.le.vw [0,1,2,3,4,5,8])
         ·exact trivial
    case rest21 =>
    intro hH
    have hb:=addB_ok (s:=⟨0,s.d,[]⟩) (low:=false) (l:=refsP s.row) (lo:=[]) (hi:=[]) (lim:=false) rfl hH
    obtain ⟨e1,e2,e3⟩:=hgood (by rw [hb])
    rw [hb] at e2 e3
    refine AWT.noPan ?_
    refine AWT.fS [0,1,2,3,4,5,6] [(7,2),(8,2),(9,2)] ?_ (hQ:=by repeat (first | exact Aw.PI.noPan | refine Aw.PI.unblock ?_ | refine Aw.PI.andThen ?_))
    refine awFun.rn ?_
    refine awFun.c1 [109] (c_value_Ref _ (addN s.d (nodeO false (refsP s.row) [] [] false)) 0 (by have:=addN_range s.d (nodeO false (refsP s.row) [] [] false); omega)) ?_
    refine awFun.rn ?_
    rw [Aw.awFun_nil]
    refine awPlan.rn ?_
    refine AWT.ret ?_
    simp only [andThen_ret,unblock_ret,noPan_ret,finD_ret]
    refine LeaveS.c1 [3] (d_face_ret _ _) ?_
    refine LeaveS.rt Tryz.results17 ?_
    rw [e1,e2,e3]
    rfl
end Go.Proofs

namespace Go.Proofs
open Go Aw
set_option linter.unusedSimpArgs false
set_option linter.unusedVariables false
set_option maxRecDepth 100000
set_option maxHeartbeats 4000000
attribute [local go_sem] En.cells entsAV_ok entsAV_length entsAV_len7 entsAV_at entsAV_next0 entsAV_next1 entsAV_atl entsAV_atr entsAV_take entsAV_drop entsAV_lit entsAV_end List.take_length List.length_take List.length_drop
theorem h_Ins_ent' (gl : List (Nat × AV)) (l : List En) (o : En) (i : Nat) (hi : i ≤ l.length) (hl : l.length ≤ 16777216:=by omega) : FnH Tryz.prog gl 57 [.row 0 0 l.length,.int .i64 i,.row 1 0 1]
  [(0,.row 7 (entsAV l) true),(1,.row 7 (entsAV [o]) true)] 2 fun r h n=>r = .ret (.row 2 0 (l.length + 1)) ∧ h = [(1,.row 7 (entsAV [o]) true),(2,.row 7 (entsAV (insAt l i o)) true)] ∧ n = 3:=h_Ins_ent gl l o i hi hl
theorem c_names_Set (gl : List (Nat × AV)) (l : List En) (key : List UInt8) (v : Pob) (h : ebulk l + v.bulk ≤ 16777000) : FnP Tryz.prog (gl) 21 [.sl (entsAV l),.str key,.agg v.cells] fun r=>r = .ret (.sl (entsAV (setN l key v))):=by
 refine FnP.intro Tryz.func21 rfl rfl (by simp [Tryz.ntmps21]) ?_
 simp only [argEnv,Tryz.ntmps21,Tryz.results21]
 have hlen:=ebulk_len l
 refine AW.rS ?_
 refine AW.trim [0,4,5] ?_
 refine AW.rSC ?_
 refine awOps.cons (awGuard.cH [] (h_Clone_Entry _ l (by omega)) ?_)
 refine awOps.rn ?_
 refine AW.trim [0,4,5,7] ?_
 refine AW.eS [0,1,2,3] 4 [(5,2)] ?_
 refine awFunE.p ?_
 refine awFunE.p ?_
 refine awFunE.c1 [14] (c_value_Clone _ v (by omega)) ?_
 refine awFunE.ef [13,15] ?_
 rw [Aw.awFunE_nil]
 refine awPlan.rn ?_
 refine AW.trim [0,4,7,8] ?_
 refine AW.seq ?_
 refine AW.rSC ?_
 refine awOps.cons (awGuard.c1 (c_IndexFunc_Set1 _ l key (by omega)) ?_)
 refine awOps.rn ?_
 refine AW.trim [0,4,7,8,9] ?_
 by_cases hs16 : eidx l key < l.length
 ·skip
  rw [show eidxI l key = (eidx l key : Int) from if_pos hs16]
  refine AW.rS ?_
  refine AW.trim [0,4,7,8,9,21] ?_
  refine AW.c2 ?_ ?_
  ·intro h17
   refine AW.rS ?_
   rw [show [AV.str key,AV.int IntKind.i64 v.kind,AV.int IntKind.i64 v.num,AV.int IntKind.i64 v.gen,AV.str v.str,AV.sl (strsAV v.keys),AV.sl (objsAV v.kids)] = (En.mk key v).cells from rfl,entsAV_set,show l.set (eidx l key) (En.mk key v) = setN l key v from (if_pos hs16).symm]
   refine AW.trim [7] ?_
   refine AW.rS ?_
   refine AW.trim [6] ?_
   refine AW.rt ?_
   have hl : (setN l key v).length = l.length:=by rw [setN,if_pos hs16,List.length_set]
   rw [List.take_of_length_le (by omega)]
   exact ⟨by omega,rfl⟩
  ·intro h17
   exfalso; omega
 ·skip
  rw [show eidxI l key = -1 from if_neg hs16]
  refine AW.rS ?_
  refine AW.trim [0,4,7,8,9,21] ?_
  refine AW.c2 ?_ ?_
  ·intro h17
   exfalso; first | omega | (simp at h17)
  ·intro h17
   refine AW.skip ?_
   refine AW.rSC ?_
   refine awOps.cons (awGuard.c1 (c_IndexFunc_Set2 _ l key (by omega)) ?_)
   refine awOps.rn ?_
   refine AW.trim [0,7,8,10] ?_
   refine AW.seq ?_
   by_cases hs27 : gidx l key < l.length
   ·skip
    rw [show gidxI l key = (gidx l key : Int) from if_pos hs27]
    refine AW.rS ?_
    refine AW.trim [0,7,8,10,31] ?_
    refine AW.c2 ?_ ?_
    ·intro h28
     exfalso; first | omega | (simp at h28) | contradiction
    ·intro h28
     refine AW.skip ?_
     refine AW.rSC ?_
     refine awOps.cons (awGuard.cH [3,5] (h_Ins_ent' _ l ⟨key,v⟩ (gidx l key) (by omega) (by omega)) ?_)
     refine awOps.rn ?_
     refine AW.trim [6] ?_
     refine AW.rt ?_
     have hl : (insAt l (gidx l key) (En.mk key v)).length = l.length + 1:=insAt_length
     rw [List.take_of_length_le (by omega),setN,if_neg hs16]
     exact ⟨by omega,rfl⟩
   ·skip
    rw [show gidxI l key = -1 from if_neg hs27]
    refine AW.rS ?_
    refine AW.trim [0,7,8,10,31] ?_
    refine AW.c2 ?_ ?_
    ·intro h28
     refine AW.rL ?_
     refine AW.rSC ?_
     refine awOps.cons (awGuard.cH [3,5] (h_Ins_ent' _ l ⟨key,v⟩ l.length (by omega) (by omega)) ?_)
     refine awOps.rn ?_
     refine AW.trim [6] ?_
     refine AW.rt ?_
     have hgl : gidx l key = l.length:=by have:=gidx_le l key; omega
     have hl : (insAt l l.length (En.mk key v)).length = l.length + 1:=insAt_length
     rw [List.take_of_length_le (by omega),setN,if_neg hs16,hgl]
     exact ⟨by omega,rfl⟩
    ·intro h28
     exfalso; first | omega | (simp at h28) | contradiction
theorem c_names_Drop (gl : List (Nat × AV)) (l : List En) (key : List UInt8) (h : ebulk l ≤ 16777000) : FnP Tryz.prog (gl) 19 [.sl (entsAV l),.str key] fun r=>r = .ret (.tup [.sl (entsAV (dropNL l key)),.int .i64 (dropNE l key)]):=by
 refine FnP.intro Tryz.func19 rfl rfl (by simp [Tryz.ntmps19]) ?_
 simp only [argEnv,Tryz.ntmps19,Tryz.results19]
 have hlen:=ebulk_len l
 refine AW.rS ?_
 refine AW.trim [0,3] ?_
 refine AW.rSC ?_
 refine awOps.cons (awGuard.c1 (c_IndexFunc_Drop _ l key (by omega)) ?_)
 refine awOps.rn ?_
 refine AW.trim [0,6] ?_
 refine AW.seq ?_
 by_cases hs6 : eidx l key < l.length
 ·skip
  rw [show eidxI l key = (eidx l key : Int) from if_pos hs6]
  refine AW.rS ?_
  refine AW.trim [0,6,11] ?_
  refine AW.c2 ?_ ?_
  ·intro h7
   exfalso; omega
  ·intro h7
   refine AW.skip ?_
   refine AW.rSC ?_
   refine awOps.cons (awGuard.cH [] (h_Clone_Entry _ l (by omega)) ?_)
   refine awOps.rn ?_
   refine awOps.cons (awGuard.cH [2] (h_Del_ent _ l (eidx l key) hs6 (by omega)) ?_)
   refine awOps.rn ?_
   refine AW.trim [4,5] ?_
   refine AW.rt ?_
   have hl:=delAt_length hs6
   rw [List.take_of_length_le (by omega),dropNL,dropNE,if_pos hs6,if_pos hs6]
   exact ⟨by omega,rfl⟩
 ·skip
  rw [show eidxI l key = -1 from if_neg hs6]
  refine AW.rS ?_
  refine AW.trim [0,6,11] ?_
  refine AW.c2 ?_ ?_
  ·intro h7
   refine AW.rS ?_
   refine AW.trim [4,5] ?_
   refine AW.rt ?_
   rw [dropNL,dropNE,if_neg hs6,if_neg hs6] <;> rfl
  ·intro h7
   exfalso; first | omega | (simp at h7)
end Go.Proofs

namespace Aw
open Go
def lnInt (n : Int) : Pob:=.mk 2 n 0 [] [] []
def lnT : Pob:=.mk 7 0 0 [] [[82,111,111,116]] [.mk 8 1 0 [] [] []]
def lnD0 : Dc:=⟨[⟨1,0,.mk 7 0 0 [] [] []⟩],lnT⟩
def lnL : List En:=[⟨[97],lnInt 1⟩,⟨[98],lnInt 2⟩,⟨[99],lnInt 3⟩]
theorem ln1 : makeE lnD0 lnL 2 = 0:=by decide +kernel
theorem ln2 : (makeD lnD0 lnL 2).items.length = 4:=by decide +kernel
theorem ln3 : (makeO lnD0 lnL 2) = .mk 8 4 0 [] [] []:=by decide +kernel
theorem ln4 : (makeD lnD0 lnL 2).bulk ≤ 16777216:=by decide +kernel
theorem ln5 : readNE (makeD lnD0 lnL 2) (.mk 8 4 0 [] [] []) = 0:=by decide +kernel
theorem ln6 : readNL (makeD lnD0 lnL 2) (.mk 8 4 0 [] [] []) = lnL:=by decide +kernel
theorem ln7 : findN (makeD lnD0 lnL 2) (.mk 8 4 0 [] [] []) [98] = (0,lnInt 2):=by decide +kernel
theorem ln8 : findN (makeD lnD0 lnL 2) (.mk 8 4 0 [] [] []) [98,98] = (8,Pob.null):=by decide +kernel
theorem ln9 : readNE (makeD lnD0 lnL 2) Pob.null = 8:=by decide +kernel
theorem ln10 : readNE (makeD lnD0 lnL 2) (lnInt 0) = 25:=by decide +kernel
theorem ln11 : makeE lnD0 lnL 1 = 1:=by decide +kernel
theorem ln12 : setN lnL [98,98] Pob.null = [⟨[97],lnInt 1⟩,⟨[98],lnInt 2⟩,⟨[98,98],Pob.null⟩,⟨[99],lnInt 3⟩]:=by decide +kernel
theorem ln13 : dropNE lnL [97] = 0:=by decide +kernel
theorem ln14 : dropNL lnL [97] = [⟨[98],lnInt 2⟩,⟨[99],lnInt 3⟩]:=by decide +kernel
theorem ln15 : lnD0.bulk + esum lnL ≤ 1100000:=by decide +kernel
theorem ln16 : (makeO lnD0 lnL 1) = Pob.null:=by decide +kernel
end Aw

namespace Go.Proofs
open Go Aw
set_option linter.unusedSimpArgs false
set_option linter.unusedVariables false
set_option maxRecDepth 100000
set_option maxHeartbeats 4000000
def lnD : Dc:=makeD lnD0 lnL 2
theorem lnD2 : lnD.items.length = 4:=ln2
theorem lnD4 : lnD.bulk ≤ 16777216:=ln4
theorem cn1 (gl : List (Nat × AV)) : FnP Tryz.prog gl 17 [.agg lnD0.cells,.sl [[.str [97],.int .i64 2,.int .i64 1,.int .i64 0,.str [],.sl [],.sl []],[.str [98],.int .i64 2,.int .i64 2,.int .i64 0,.str [],.sl [],.sl []],[.str [99],.int .i64 2,.int .i64 3,.int .i64 0,.str [],.sl [],.sl []]],.int .i64 2] fun r=>r = .ret (.tup [.agg lnD.cells,.agg [.int .i64 8,.int .i64 4,.int .i64 0,.str [],.sl [],.sl []],.int .i64 0]):=by
 have h:=c_names_Make gl lnD0 lnL 2 ln15
 rw [ln1,ln3] at h
 exact h
theorem cn2 (gl : List (Nat × AV)) : FnP Tryz.prog gl 10 [.agg lnD.cells,.agg [.int .i64 8,.int .i64 4,.int .i64 0,.str [],.sl [],.sl []]] fun r=>r = .ret (.tup [.sl [[.str [97],.int .i64 2,.int .i64 1,.int .i64 0,.str [],.sl [],.sl []],[.str [98],.int .i64 2,.int .i64 2,.int .i64 0,.str [],.sl [],.sl []],[.str [99],.int .i64 2,.int .i64 3,.int .i64 0,.str [],.sl [],.sl []]],.int .i64 0]):=by
 have h:=c_names_Read gl lnD (.mk 8 4 0 [] [] []) lnD4 (by decide +kernel)
 rw [show readNE lnD (.mk 8 4 0 [] [] []) = 0 from ln5,show readNL lnD (.mk 8 4 0 [] [] []) = lnL from ln6] at h
 exact h
theorem cn3 (gl : List (Nat × AV)) : FnP Tryz.prog gl 12 [.agg lnD.cells,.agg [.int .i64 8,.int .i64 4,.int .i64 0,.str [],.sl [],.sl []],.str [98]] fun r=>r = .ret (.tup [.agg [.int .i64 2,.int .i64 2,.int .i64 0,.str [],.sl [],.sl []],.int .i64 0]):=by
 have h:=c_names_Find gl lnD (.mk 8 4 0 [] [] []) [98] lnD4 (by decide +kernel)
 rw [show findN lnD (.mk 8 4 0 [] [] []) [98] = (0,lnInt 2) from ln7] at h
 exact h
theorem cn4 (gl : List (Nat × AV)) : FnP Tryz.prog gl 12 [.agg lnD.cells,.agg [.int .i64 8,.int .i64 4,.int .i64 0,.str [],.sl [],.sl []],.str [98,98]] fun r=>r = .ret (.tup [.agg [.int .i64 0,.int .i64 0,.int .i64 0,.str [],.sl [],.sl []],.int .i64 8]):=by
 have h:=c_names_Find gl lnD (.mk 8 4 0 [] [] []) [98,98] lnD4 (by decide +kernel)
 rw [show findN lnD (.mk 8 4 0 [] [] []) [98,98] = (8,Pob.null) from ln8] at h
 exact h
theorem cn5 (gl : List (Nat × AV)) : FnP Tryz.prog gl 10 [.agg lnD.cells,.agg [.int .i64 0,.int .i64 0,.int .i64 0,.str [],.sl [],.sl []]] fun r=>r = .ret (.tup [.sl [],.int .i64 8]):=by
 have h:=c_names_Read gl lnD Pob.null lnD4 (by decide +kernel)
 rw [readNL,show readNE lnD Pob.null = 8 from ln9] at h
 exact h
theorem cn6 (gl : List (Nat × AV)) : FnP Tryz.prog gl 10 [.agg lnD.cells,.agg [.int .i64 2,.int .i64 0,.int .i64 0,.str [],.sl [],.sl []]] fun r=>r = .ret (.tup [.sl [],.int .i64 25]):=by
 have h:=c_names_Read gl lnD (lnInt 0) lnD4 (by decide +kernel)
 rw [readNL,show readNE lnD (lnInt 0) = 25 from ln10] at h
 exact h
theorem cn7 (gl : List (Nat × AV)) : FnP Tryz.prog gl 17 [.agg lnD0.cells,.sl [[.str [97],.int .i64 2,.int .i64 1,.int .i64 0,.str [],.sl [],.sl []],[.str [98],.int .i64 2,.int .i64 2,.int .i64 0,.str [],.sl [],.sl []],[.str [99],.int .i64 2,.int .i64 3,.int .i64 0,.str [],.sl [],.sl []]],.int .i64 1] fun r=>r = .ret (.tup [.agg (Dc.zero).cells,.agg [.int .i64 0,.int .i64 0,.int .i64 0,.str [],.sl [],.sl []],.int .i64 1]):=by
 have h:=c_names_Make gl lnD0 lnL 1 ln15
 rw [makeD,ln11,ln16] at h
 exact h
theorem cn8 (gl : List (Nat × AV)) : FnP Tryz.prog gl 21 [.sl [[.str [97],.int .i64 2,.int .i64 1,.int .i64 0,.str [],.sl [],.sl []],[.str [98],.int .i64 2,.int .i64 2,.int .i64 0,.str [],.sl [],.sl []],[.str [99],.int .i64 2,.int .i64 3,.int .i64 0,.str [],.sl [],.sl []]],.str [98,98],.agg [.int .i64 0,.int .i64 0,.int .i64 0,.str [],.sl [],.sl []]] fun r=>r = .ret (.sl [[.str [97],.int .i64 2,.int .i64 1,.int .i64 0,.str [],.sl [],.sl []],[.str [98],.int .i64 2,.int .i64 2,.int .i64 0,.str [],.sl [],.sl []],[.str [98,98],.int .i64 0,.int .i64 0,.int .i64 0,.str [],.sl [],.sl []],[.str [99],.int .i64 2,.int .i64 3,.int .i64 0,.str [],.sl [],.sl []]]):=by
 have h:=c_names_Set gl lnL [98,98] Pob.null (by decide +kernel)
 rw [ln12] at h
 exact h
theorem cn9 (gl : List (Nat × AV)) : FnP Tryz.prog gl 19 [.sl [[.str [97],.int .i64 2,.int .i64 1,.int .i64 0,.str [],.sl [],.sl []],[.str [98],.int .i64 2,.int .i64 2,.int .i64 0,.str [],.sl [],.sl []],[.str [99],.int .i64 2,.int .i64 3,.int .i64 0,.str [],.sl [],.sl []]],.str [97]] fun r=>r = .ret (.tup [.sl [[.str [98],.int .i64 2,.int .i64 2,.int .i64 0,.str [],.sl [],.sl []],[.str [99],.int .i64 2,.int .i64 3,.int .i64 0,.str [],.sl [],.sl []]],.int .i64 0]):=by
 have h:=c_names_Drop gl lnL [97] (by decide +kernel)
 rw [ln13,ln14] at h
 exact h
theorem lnD2i : ((lnD.items.length : Nat) : Int) = 4:=by rw [lnD2] <;> rfl
attribute [local irreducible] lnD
attribute [local go_sem] lnD2i
theorem c_foliantlaw37_NamesDoc (gl : List (Nat × AV))  : FnP Tryz.prog (gl) 25 [] fun r=>r = .ret (.agg lnD0.cells):=by
 refine FnP.intro Tryz.func25 rfl rfl (by simp [Tryz.ntmps25]) ?_
 simp only [argEnv,Tryz.ntmps25,Tryz.results25]
 refine AW.rS ?_
 refine AW.rS ?_
 refine AW.rt ?_
 all_goals first | contradiction | rfl | (simp; done) | (simp; omega)
theorem c_law37_lives (gl : List (Nat × AV))  : FnP Tryz.prog (gl) 9 [] fun r=>r = .ret (.bool true):=by
 refine FnP.intro Tryz.func9 rfl rfl (by simp [Tryz.ntmps9]) ?_
 simp only [argEnv,Tryz.ntmps9,Tryz.results9]
 refine AW.rS ?_
 refine AW.trim [] ?_
 refine AW.rS ?_
 refine AW.trim [1] ?_
 refine AW.rSC ?_
 refine awOps.cons (awGuard.c1 (c_foliantlaw37_NamesDoc _) ?_)
 refine awOps.rn ?_
 refine awOps.cons (awGuard.c1 (cn1 _) ?_)
 refine awOps.rn ?_
 refine AW.trim [1,2,3,4] ?_
 refine AW.rSC ?_
 refine awOps.cons (awGuard.c1 (cn2 _) ?_)
 refine awOps.rn ?_
 refine AW.trim [1,2,3,4,5,6] ?_
 refine AW.rSC ?_
 refine awOps.cons (awGuard.c1 (cn3 _) ?_)
 refine awOps.rn ?_
 refine AW.trim [1,2,3,4,5,6,7,8] ?_
 refine AW.rSC ?_
 refine awOps.cons (awGuard.c1 (cn4 _) ?_)
 refine awOps.rn ?_
 refine AW.trim [1,2,3,4,5,6,7,8,10] ?_
 refine AW.rSC ?_
 refine awOps.cons (awGuard.c1 (cn5 _) ?_)
 refine awOps.rn ?_
 refine AW.trim [1,2,3,4,5,6,7,8,10,12] ?_
 refine AW.rSC ?_
 refine awOps.cons (awGuard.c1 (cn6 _) ?_)
 refine awOps.rn ?_
 refine AW.trim [1,2,3,4,5,6,7,8,10,12,14] ?_
 refine AW.rSC ?_
 refine awOps.cons (awGuard.c1 (c_foliantlaw37_NamesDoc _) ?_)
 refine awOps.rn ?_
 refine awOps.cons (awGuard.c1 (cn7 _) ?_)
 refine awOps.rn ?_
 refine AW.trim [1,2,3,4,5,6,7,8,10,12,14,17] ?_
 refine AW.rSC ?_
 refine awOps.cons (awGuard.c1 (cn8 _) ?_)
 refine awOps.rn ?_
 refine AW.trim [1,2,3,4,5,6,7,8,10,12,14,17,18] ?_
 refine AW.rSC ?_
 refine awOps.cons (awGuard.c1 (cn9 _) ?_)
 refine awOps.rn ?_
 refine AW.trim [2,3,4,5,6,7,8,10,12,14,17,18,19,20] ?_
 refine AW.seq (AW.region ?_)
 iterate 83 (refine awOps.s1 ?_)
 simp only [Aw.awOps_nil,andThen]
 refine AW.trim [0] ?_
 refine AW.rt ?_
 all_goals first | contradiction | rfl | (simp; done) | (simp; omega)
end Go.Proofs

namespace Aw
open Go
def valsOk (l : List En) : Prop:=∀ e ∈ l,e.val.bulk ≤ 16777216
theorem valsOk_get {l : List En} (h : valsOk l) {i : Nat} (hi : i < l.length) : (l.getD i En.zero).val.bulk ≤ 16777216:=by
 have : l.getD i En.zero = l[i]:=by simp [List.getD,hi]
 rw [this]
 exact h _ (List.getElem_mem hi)
theorem addT_vals {s : TS} {x : En} (h : valsOk s.l) (hx : x.val.bulk ≤ 16777216) : valsOk (addT s x).l:=by
 rw [addT]
 split
 ·exact h
 ·split
  ·exact h
  ·split
   ·exact h
   ·intro e he
    rcases List.mem_append.1 he with he | he
    ·exact h e he
    ·simp only [List.mem_singleton] at he
     rw [he]; exact hx
theorem addTs_vals : ∀ (xs : List En) (s : TS),valsOk s.l → valsOk xs → valsOk (xs.foldl addT s).l
 | [],_,h,_=>h
 | x :: xs,s,h,hx=>by
  rw [List.foldl_cons]
  exact addTs_vals xs _ (addT_vals h (hx x List.mem_cons_self)) (fun e he=>hx e (List.mem_cons_of_mem _ he))
theorem pairs_vals : ∀ {l : List Pob},(∀ o ∈ l,o.bulk ≤ 16777216) → valsOk (pairsOf l)
 | [],_=>fun e he=>by cases he
 | [_],_=>fun e he=>by cases he
 | k :: v :: r,h=>by
  intro e he
  rw [pairsOf] at he
  rcases List.mem_cons.1 he with rfl | he
  ·exact h v (by simp)
  ·exact pairs_vals (l:=r) (fun o ho=>h o (by simp [ho])) e he
theorem kids_all {o : Pob} (h : o.bulk ≤ 16777216) : ∀ k ∈ o.kids,k.bulk ≤ 16777216:=by
 intro k hk
 obtain ⟨i,hi,rfl⟩:=List.getElem_of_mem hk
 have:=kid_bulk hi
 have e : o.kids.getD i Pob.null = o.kids[i]:=by simp [List.getD,hi]
 rw [e] at this
 omega
theorem kfold_vals {d : Dc} {k : Nat} (hk : ∀ o s,o.bulk ≤ 16777216 → valsOk s.l → valsOk (thru d k o s).l) : ∀ (xs : List Pob) (s : TS),(∀ o ∈ xs,o.bulk ≤ 16777216) → valsOk s.l → valsOk (xs.foldl (kstep d k) s).l
 | [],_,_,h=>h
 | x :: xs,s,hx,h=>by
  rw [List.foldl_cons]
  refine kfold_vals hk xs _ (fun o ho=>hx o (List.mem_cons_of_mem _ ho)) ?_
  rw [kstep]
  split
  ·exact h
  ·exact hk x s (hx x List.mem_cons_self) h
theorem thru_vals {d : Dc} (hd : d.bulk ≤ 16777216) : ∀ (k : Nat) (o : Pob) (s : TS),o.bulk ≤ 16777216 → valsOk s.l → valsOk (thru d k o s).l
 | 0,_,_,_,h=>by rw [thru]; exact h
 | k + 1,o,⟨e,n,l⟩,ho,h=>by
  have hf:=follow_bulk hd ho
  by_cases hn : 4096 ≤ n
  ·rw [thru_many hn]; exact h
  ·by_cases hb : lowB d (followO d o) ∨ highB d (followO d o)
   ·rw [thru_succ hn hb]
    refine kfold_vals (thru_vals hd k) _ _ ?_ (addTs_vals _ _ h (pairs_vals ?_))
    ·rw [nkids]
     split
     ·intro o ho; cases ho
     ·exact kids_all (atO_bulk hd hf _)
    ·rw [npairs]
     split
     ·exact kids_all (atO_bulk hd hf _)
     ·intro o ho; cases ho
   ·rw [thru_name hn hb]; exact h
theorem readN_vals {d : Dc} {o : Pob} (hd : d.bulk ≤ 16777216) (ho : o.bulk ≤ 16777216) : valsOk (readNL d o):=by
 rw [readNL]
 split
 ·intro e he; cases he
 ·exact thru_vals hd 24 o _ ho (fun e he=>by cases he)
theorem readN_len {d : Dc} {o : Pob} : (readNL d o).length ≤ 8191:=by
 rw [readNL]
 split
 ·exact Nat.zero_le _
 ·exact (thru_fits d 24 o ⟨0,0,[]⟩ ⟨Nat.zero_le _,Nat.zero_le _⟩).2
theorem findE_bulk {key : List UInt8} : ∀ {l : List En},valsOk l → (findE key l).2.bulk ≤ 16777216
 | [],_=>by rw [findE]; decide
 | x :: l,h=>by
  rw [findE]
  split
  ·exact h x List.mem_cons_self
  ·exact findE_bulk (fun e he=>h e (List.mem_cons_of_mem _ he))
theorem findT_bulk {d : Dc} (hd : d.bulk ≤ 16777216) {key : List UInt8} : ∀ (k : Nat) (o : Pob),o.bulk ≤ 16777216 → (findT d key k o).2.bulk ≤ 16777216
 | 0,_,_=>by rw [findT]; decide
 | k + 1,o,ho=>by
  have hf:=follow_bulk hd ho
  by_cases hl : lowB d (followO d o)
  ·rw [find_low hl]
   refine findE_bulk (pairs_vals ?_)
   rw [npairs,if_pos hl]
   exact kids_all (atO_bulk hd hf _)
  ·by_cases hh : highB d (followO d o)
   ·rw [find_high hh hl]
    split
    ·show Pob.null.bulk ≤ _; decide
    ·rename_i h0
     obtain ⟨i,hi,hx⟩:=down_mem d key (nkids d (followO d o)) (Classical.not_not.1 h0)
     rw [hx]
     exact findT_bulk hd k _ ((nkids_le hd hf).2 i hi)
   ·rw [find_name (fun h=>h.elim hl hh)]; decide
theorem findN_bulk {d : Dc} (hd : d.bulk ≤ 16777216) {o : Pob} (ho : o.bulk ≤ 16777216) (key : List UInt8) : (findN d o key).2.bulk ≤ 16777216:=by
 rw [findN]
 split
 ·show Pob.null.bulk ≤ _; decide
 ·split
  ·show Pob.null.bulk ≤ _; decide
  ·exact findT_bulk hd 24 o ho
end Aw

namespace Go.Proofs
open Go Aw
set_option linter.unusedSimpArgs false
set_option linter.unusedVariables false
set_option maxRecDepth 100000
set_option maxHeartbeats 4000000
attribute [local go_sem] En.cells entsAV_length entsAV_len7 entsAV_at entsAV_atl entsAV_atr
theorem c_R37_SameV (gl : List (Nat × AV)) (a b : List En) (hla : a.length ≤ 16777216) (hv : valsOk a) (hb : b.length ≤ 16777216) : FnP Tryz.prog (gl) 14 [.sl (entsAV a),.sl (entsAV b)] fun r=>r = .ret (.bool (decide (a = b))):=by
 refine FnP.intro Tryz.func14 rfl rfl (by simp [Tryz.ntmps14]) ?_
 simp only [argEnv,Tryz.ntmps14,Tryz.results14]
 refine AW.rS ?_
 refine AW.trim [0,1] ?_
 refine AW.seq ?_
 refine AW.rS ?_
 refine AW.trim [0,1,10] ?_
 refine AW.c2 ?_ ?_
 ·intro h4
  refine AW.rS ?_
  refine AW.trim [4] ?_
  refine AW.rt ?_
  have : a ≠ b:=fun e=>by subst e; simp at h4
  rw [decide_eq_false this]
 ·intro h4
  refine AW.skip ?_
  refine AW.seq ?_
  refine AW.rS ?_
  refine AW.trim [0,1,5] ?_
  refine AW.block ?_
  refine AW.lk (S:={ i : Nat // i ≤ a.length ∧ ∀ j,j < i → a.getD j En.zero = b.getD j En.zero }) [0,1] (fun s_=>[(5,.int .i64 s_.1)]) (fun s_=>[]) 0 (fun s_=>a.length - s_.1) ⟨0,Nat.zero_le _,fun j h=>absurd h (by omega)⟩ ?_ ?_
  ·refine St.le.vw []
  rintro ⟨i,hi,hs⟩
  try dsimp only at hi
  try dsimp only at hs
  refine AW.seq ?_
  refine AW.rS ?_
  refine AW.trim [0,1,5,14] ?_
  refine AW.c2 ?_ ?_
  ·intro h15
   have hgb:=valsOk_get hv (i:=i) (by omega)
   obtain ⟨j,rfl⟩ : ∃ j : { k : Nat // k < a.length ∧ k < b.length },i = j.1:=⟨⟨i,by omega,by omega⟩,rfl⟩
   refine AW.skip ?_
   refine AW.seq ?_
   refine AW.block ?_
   refine AW.dSC [(0,0),(1,0),(2,0),(3,0),(4,0),(5,0),(6,0),(7,0),(8,0),(9,0),(10,0),(11,0),(12,0),(13,0),(14,0),(15,0),(16,1),(17,0),(18,0),(19,0),(20,0),(21,1),(22,2),(23,0),(24,0)] ?_
   refine awPlan.only rfl ?_
   refine awGuard.cG (fun hg=>c_foliantref05_Same _ (a.getD j.1 En.zero).val (b.getD j.1 En.zero).val (by omega)) ?_
   refine awPlan.rn ?_
   refine AW.trim [0,1,5,41] ?_
   refine AW.c2 ?_ ?_
   ·intro h22
    refine AW.rS ?_
    refine AW.trim [4] ?_
    refine AW.rt ?_
    have : a ≠ b:=fun e=>by subst e; simp at h22
    rw [decide_eq_false this]
   ·intro h22
    refine AW.skip ?_
    refine AW.rL ?_
    refine ⟨⟨j.1 + 1,by omega,fun i hj=>(Nat.lt_or_ge i j.1).elim (hs i) (fun h=>by rw [show i = j.1 from by omega]; exact en_eq.2 ⟨h22.1,h22.2⟩)⟩,?_,?_⟩
    ·refine St.le.vw []
    ·simp only []; omega
  ·intro h15
   refine AW.exit ?_
   refine AW.rS ?_
   refine AW.trim [4] ?_
   refine AW.rt ?_
   rw [decide_eq_true (ents_ext (by omega) fun j hj=>hs j (by omega))]
theorem c_law37_lightR (gl : List (Nat × AV)) (d : Dc) (h : d.bulk ≤ 16777216) (hs : d.size ≤ 4611686018427387904) : FnP Tryz.prog (gl) 7 [.agg d.cells] fun r=>r = .ret (.bool (decide ((d.items.length : Int) ≤ 40) && decide ((d.size : Int) ≤ 600))):=by
 refine FnP.intro Tryz.func7 rfl rfl (by simp [Tryz.ntmps7]) ?_
 simp only [argEnv,Tryz.ntmps7,Tryz.results7]
 refine AW.rS ?_
 refine AW.trim [1] ?_
 refine AW.rSC ?_
 refine awOps.cons (awGuard.cG (fun hg=>c_foliantref19_Size _ d (by omega) (by omega)) ?_)
 refine awOps.rn ?_
 refine AW.trim [2] ?_
 refine AW.rt ?_
 all_goals first | contradiction | rfl | (simp; done) | (simp; omega)
theorem c_law_NamesRead (gl : List (Nat × AV)) (d : Dc) (o : Pob) (key : List UInt8) (h : d.tot + o.tot ≤ 1048576) : FnP Tryz.prog (gl) 3 [.agg d.cells,.agg o.cells,.str key] fun r=>r = .ret (.bool true):=by
 refine FnP.intro Tryz.func3 rfl rfl (by simp [Tryz.ntmps3]) ?_
 simp only [argEnv,Tryz.ntmps3,Tryz.results3]
 have h1:=Dc.bulk_tot d
 have h2:=Dc.size_tot d
 have h3:=Pob.bulk_tot o
 have h4:=Pob.psize_tot o
 have hdb : d.bulk ≤ 16777216:=by omega
 have hob : o.bulk ≤ 16777216:=by omega
 have hrl:=readN_len (d:=d) (o:=o)
 have hrv:=readN_vals hdb hob
 have hfb:=findN_bulk hdb hob key
 refine AW.rS ?_
 refine AW.trim [2,3,4] ?_
 refine AW.seq ?_
 refine AW.rSC ?_
 refine awOps.cons (awGuard.c1 (c_law37_lightR _ d hdb (by omega)) ?_)
 refine awOps.rn ?_
 refine awOps.cons (awGuard.cG (fun hg=>c_foliantref05_Size _ o (by omega) (by omega)) ?_)
 refine awOps.rn ?_
 refine AW.trim [2,3,4,27] ?_
 refine AW.c2 ?_ ?_
 ·intro h8
  refine AW.rSC ?_
  refine awOps.cons (awGuard.c1 (c_law37_lives _) ?_)
  refine awOps.rn ?_
  refine AW.trim [6] ?_
  refine AW.rt ?_
  all_goals first | contradiction | rfl | (simp; done) | (simp; omega)
 ·intro h8
  refine AW.skip ?_
  refine AW.rSC ?_
  refine awOps.cons (awGuard.c1 (c_names_Read _ d o hdb hob) ?_)
  refine awOps.rn ?_
  refine AW.trim [2,3,4,7,8] ?_
  refine AW.rSC ?_
  refine awOps.cons (awGuard.c1 (c_foliantref37_Read _ d o hdb hob (by omega)) ?_)
  refine awOps.rn ?_
  refine AW.trim [2,3,4,7,8,9,10] ?_
  refine AW.rSC ?_
  refine awOps.cons (awGuard.c1 (c_names_Find _ d o key hdb hob) ?_)
  refine awOps.rn ?_
  refine AW.trim [2,3,4,7,8,9,10,11,12] ?_
  refine AW.rSC ?_
  refine awOps.cons (awGuard.c1 (c_foliantref37_Find _ d o key hdb hob (by omega)) ?_)
  refine awOps.rn ?_
  refine AW.trim [7,8,9,10,11,12,13,14] ?_
  refine AW.rSC ?_
  refine awOps.cons (awGuard.c1 (c_R37_SameV _ (readNL d o) (readNL d o) (by omega) hrv (by omega)) ?_)
  refine awOps.rn ?_
  refine awOps.cons (awGuard.cG (fun hg=>c_foliantref05_Same _ (findN d o key).2 (findN d o key).2 hfb) ?_)
  refine awOps.rn ?_
  refine awOps.cons (awGuard.cG (fun hg=>c_law37_lives _) ?_)
  refine awOps.rn ?_
  refine AW.trim [6] ?_
  refine AW.rt ?_
  all_goals first | contradiction | rfl | (simp; done) | (simp; omega)
end Go.Proofs
