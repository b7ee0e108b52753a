/- A part of the proof: no condition of its own. -/
import Derived.Test.YthpbpnfgenhhdaaGreatPart3
namespace Go.Proofs
open Go Aw
set_option linter.unusedSimpArgs false
set_option linter.unusedVariables false
set_option maxRecDepth 100000
set_option maxHeartbeats 4000000
attribute [local go_sem] En.cells entsAV_length
theorem h_node_entries (gl : List (Nat × AV)) (ps ks : List Pob) (low : Bool) : FnH Tryz.prog (gl) 35 [.agg [.sl (objsAV ps),.sl (objsAV ks),.bool low]] ([]) 0 (fun r h n=>r = .ret (.clos 64 [.ptr 0 0]) ∧ h = [(0,.cells [.sl (objsAV ps),.sl (objsAV ks),.bool low])] ∧ n = 1):=by
 refine FnH.intro Tryz.func35 rfl rfl (by simp [Tryz.ntmps35]) ?_
 simp only [argEnv,Tryz.ntmps35,Tryz.results35]
 refine AW.rS ?_
 refine AW.rS ?_
 refine AW.rt ?_
 trivial
theorem ent_all (gl : List (Nat × AV)) (d : Dc) (nodes : Nat) (ps ks : List Pob) (low : Bool) (lq : Nat) (rc : Option Code → Loop) {Ω : Mem → Prop} [LastsU Ω] (l0 : List En) (hps : ps.length ≤ 16777216) (hev : ps.length % 2 = 0)
  (hl0 : l0.length ≤ 8191)
  (hY : ∀ l x,l.length ≤ 8191 → RoundU Ω Tryz.prog gl lq [.agg x.cells] (jHp d nodes l ps ks low (.lp lq (rc none))) 5 4 fun r h n =>
   (okX l x ∧ r = .ret (.bool true) ∧ h = jHp d nodes (l ++ [x]) ps ks low (.lp lq (rc none)) ∧ n = 5) ∨
   (¬ okX l x ∧ r = .panic (.iface 105 (.int .i64 (errX l x))) ∧ h = [] ∧ 4 ≤ n)) :
  FnU Ω Tryz.prog gl 64 [.raw (.func (.yield lq) #[] #[]),.ptr 2 0] (jHp d nodes l0 ps ks low (.lp lq (rc none))) 5 4 fun r h n =>
   (((pairsOf ps).foldl addT ⟨0,nodes,l0⟩).err = 0 ∧ r = .ret (.tup []) ∧ h = jHp d nodes ((pairsOf ps).foldl addT ⟨0,nodes,l0⟩).l ps ks low (.lp lq (rc none)) ∧ n = 5) ∨
   (((pairsOf ps).foldl addT ⟨0,nodes,l0⟩).err ≠ 0 ∧ r = .panic (.iface 105 (.int .i64 ((pairsOf ps).foldl addT ⟨0,nodes,l0⟩).err)) ∧ h = [] ∧ 4 ≤ n):=by
 have hpl:=pairsOf_len ps
 simp only [jHp,wCells] at hY ⊢
 refine FnU.introN Tryz.func64 rfl rfl (by simp [Tryz.ntmps64]) ?_ ?_
 ·rintro q hp' nx' (⟨_,h1,rfl,rfl⟩ | ⟨_,h1,_⟩)
  ·cases h1
   exact ⟨by simp only [↓noTHm_cons,noTHm,noTBm,noTL,noT,entsAV,Bool.and_self],rfl⟩
  ·cases h1
 intro B_
 simp only [argEnv,Tryz.ntmps64,Tryz.results64]
 refine AWT.rS ?_
 refine AWT.block ?_
 refine AWT.lk (S:={ i : Nat // i ≤ (pairsOf ps).length ∧ (foldS (pairsOf ps) nodes l0 i).err = 0 }) [0,1] (fun s_=>[(3,.int .i64 (2 * (s_.1 : Int)))]) (fun s_=>[(0,.cells [.sl (itemsAV d.items),.int .i64 d.trailer.kind,.int .i64 d.trailer.num,.int .i64 d.trailer.gen,.str d.trailer.str,.sl (strsAV d.trailer.keys),.sl (objsAV d.trailer.kids),.int .i64 nodes,.row 4 0 (foldS (pairsOf ps) nodes l0 s_.1).l.length]),(1,.cells [.ptr 0 0]),(2,.cells [.sl (objsAV ps),.sl (objsAV ks),.bool low]),(4,.row 7 (entsAV (foldS (pairsOf ps) nodes l0 s_.1).l) true),(3,.lp lq (rc none))]) 5 (fun s_=>(pairsOf ps).length - s_.1) ⟨0,Nat.zero_le _,rfl⟩ ?_ ?_
 ·refine St.le.vx [0,1,2,3,4] (hpre:=(by decide : ∀ i,i < 4 → nth [0,1,2,3,4] i = some i)) ?_
  exact ⟨rfl,rfl⟩
 rintro ⟨i,hi,he⟩
 try dsimp only at hi
 try dsimp only at he
 refine AWT.seq ?_
 refine AWT.rS ?_
 refine AWT.c2 ?_ ?_
 ·intro h6
  refine AWT.skip ?_
  refine AWT.seq ?_
  refine AWT.block ?_
  refine AWT.yS 14 [0,1,2,3,4,5,6,7,8,9,10,11,12,13] ?_ (hQ:=by repeat (first | exact Aw.PI.finU | refine Aw.PI.unblock ?_ | refine Aw.PI.andThen ?_))
  refine awFun.rn ?_
  refine awFun.ef [18,24] ?_
  refine awFun.rn ?_
  rw [Aw.awFun_nil,Aw.awPlan_nil]
  have hx : (pairsOf ps).getD i En.zero = ⟨(ps.getD (2 * (i : Int)).toNat Pob.null).str,ps.getD (2 * (i : Int) + 1).toNat Pob.null⟩:=by
   rw [pairsOf_get ps i (by omega),show (2 * (i : Int)).toNat = 2 * i from by omega,show (2 * (i : Int) + 1).toNat = 2 * i + 1 from by omega]
  have hi2 : i < (pairsOf ps).length:=by omega
  have hst:=foldS_step (k:=nodes) (l:=l0) hi2
  rw [foldS_mk he] at hst
  refine chainT.cYP [0,1,2,3,4] (hY (foldS (pairsOf ps) nodes l0 i).l ⟨(ps.getD (2 * (i : Int)).toNat Pob.null).str,ps.getD (2 * (i : Int) + 1).toNat Pob.null⟩ (foldS_len _ _ _ _ hl0)) ?_ ?_
  ·intro hc n hn
   have hb:=addT_bad (k:=nodes) hc
   rw [hx] at hst
   have he2 : (foldS (pairsOf ps) nodes l0 (i + 1)).err = errX (foldS (pairsOf ps) nodes l0 i).l ⟨(ps.getD (2 * (i : Int)).toNat Pob.null).str,ps.getD (2 * (i : Int) + 1).toNat Pob.null⟩:=by rw [hst]; exact hb.1
   have hf:=foldS_err (xs:=pairsOf ps) (k:=nodes) (l:=l0) (i:=i + 1) (by rw [he2]; exact hb.2)
   refine wkU ?_
   rw [hf,he2]
   exact .inr ⟨hb.2,rfl,by omega⟩
  intro hc
  have hok:=addT_ok (k:=nodes) hc
  rw [hx,hok] at hst
  refine chainT.p ?_
  refine chainT.nil ?_
  refine AWT.c2 ?_ ?_
  ·intro h13
   simp at h13
  ·intro h13
   refine AWT.skip ?_
   refine AWT.rL ?_
   refine ⟨⟨i + 1,by omega,by rw [hst]⟩,?_,?_⟩
   ·refine St.le.vx [0,1,2,3,5] (hpre:=(by decide : ∀ i,i < 4 → nth [0,1,2,3,5] i = some i)) ?_
    rw [hst]
    exact ⟨rfl,rfl⟩
   ·simp only []; omega
 ·intro h6
  have ha:=foldS_all (xs:=pairsOf ps) (k:=nodes) (l:=l0) (i:=i) (by omega)
  refine AWT.exit ?_
  simp only [andThen,unblock,if_true]
  refine wkU ?_
  rw [← ha]
  exact .inl ⟨he,rfl⟩
end Go.Proofs

namespace Go.Proofs
open Go Aw
set_option linter.unusedSimpArgs false
set_option linter.unusedVariables false
set_option maxRecDepth 100000
set_option maxHeartbeats 4000000
attribute [local go_sem] En.cells entsAV_length entsAV_last
theorem h_through (gl : List (Nat × AV)) (d : Dc) (hd : d.bulk ≤ 16777216) : ∀ (k : Nat) (dp : Int) (hk : dp + k = 24) (hdp : 0 ≤ dp) (o : Pob) (ho : o.bulk ≤ 16777216) (nodes : Nat) (l : List En) (hf : fitsT ⟨0,nodes,l⟩),
  FnK Tryz.prog gl 28 [.ptr 0 0,.agg o.cells,.int .i64 dp] [(0,.cells (wCells d nodes 1 l)),(1,.row 7 (entsAV l) true)] 2 1 fun r h n =>
   ((thru d k o ⟨0,nodes,l⟩).err = 0 ∧ r = .ret (.tup []) ∧ h = [(0,.cells (wCells d (thru d k o ⟨0,nodes,l⟩).nodes 1 (thru d k o ⟨0,nodes,l⟩).l)),(1,.row 7 (entsAV (thru d k o ⟨0,nodes,l⟩).l) true)] ∧ n = 2) ∨
   ((thru d k o ⟨0,nodes,l⟩).err ≠ 0 ∧ r = .panic (.iface 105 (.int .i64 (thru d k o ⟨0,nodes,l⟩).err)) ∧ h = [] ∧ 1 ≤ n):=by
 intro k
 induction k with
 | zero =>
  intro dp hk hdp o ho nodes l hf
  simp only [wCells]
  refine FnK.introN Tryz.func28 rfl rfl (by simp [Tryz.ntmps28]) ?_ ?_
  ·rintro q hp' nx' (⟨_,h1,rfl,rfl⟩ | ⟨_,h1,_⟩)
   ·cases h1
    exact ⟨by simp only [↓noTHm_cons,noTHm,noTBm,noTL,noT,entsAV,Bool.and_self],rfl⟩
   ·cases h1
  intro B_
  simp only [argEnv,Tryz.ntmps28,Tryz.results28]
  refine AWT.rS ?_
  refine AWT.trim [2,3,4] ?_
  refine AWT.rSC ?_
  refine OpsT.cs (awGuard.cM (c_names_must _ _ 7) ?_ ?_)
  ·intro hC
   refine wkU ?_
   exact .inr ⟨by rw [thru]; simp,by rw [thru]⟩
  ·intro hC
   exact absurd hC (by simp at hk; omega)
 | succ k ih =>
  intro dp hk hdp o ho nodes l hf
  have hq:=follow_bulk hd ho
  have hfn : nodes ≤ 4096:=hf.1
  have hfl : l.length ≤ 8191:=hf.2
  simp only [wCells]
  refine FnK.introN Tryz.func28 rfl rfl (by simp [Tryz.ntmps28]) ?_ ?_
  ·rintro q hp' nx' (⟨_,h1,rfl,rfl⟩ | ⟨_,h1,_⟩)
   ·cases h1
    exact ⟨by simp only [↓noTHm_cons,noTHm,noTBm,noTL,noT,entsAV,Bool.and_self],rfl⟩
   ·cases h1
  intro B_
  simp only [argEnv,Tryz.ntmps28,Tryz.results28]
  refine AWT.rS ?_
  refine AWT.trim [2,3,4] ?_
  refine AWT.rSC ?_
  refine OpsT.cs (awGuard.cM (c_names_must _ _ 7) ?_ ?_)
  ·intro hC
   exact absurd hC (by omega)
  intro hC
  refine OpsT.rn ?_
  refine OpsT.nil ?_
  refine AWT.trim [2,3,4] ?_
  refine AWT.rSC ?_
  refine OpsT.cs (awGuard.cM (c_names_must _ _ 6) ?_ ?_)
  ·intro hC
   refine wkU ?_
   rw [thru_many (by omega)]
   exact .inr ⟨by simp,rfl⟩
  intro hC
  have hnn : ¬ 4096 ≤ nodes:=by omega
  refine OpsT.rn ?_
  refine OpsT.nil ?_
  refine AWT.trim [2,3,4] ?_
  refine AWT.rS ?_
  refine AWT.trim [2,3,4] ?_
  refine AWT.tGC (C:=lowB d (followO d o) ∨ highB d (followO d o)) (σf:=⟨90,[(2,.int .i64 dp),(3,.ptr 2 0),(4,.ptr 3 0),(6,.ptr 4 0),(26,.ptr 0 0),(27,.ptr 0 0),(28,.ptr 0 0),(29,.agg [.sl (itemsAV d.items),.int .i64 d.trailer.kind,.int .i64 d.trailer.num,.int .i64 d.trailer.gen,.str d.trailer.str,.sl (strsAV d.trailer.keys),.sl (objsAV d.trailer.kids)]),(30,.agg [.int .i64 o.kind,.int .i64 o.num,.int .i64 o.gen,.str o.str,.sl (strsAV o.keys),.sl (objsAV o.kids)]),(31,.agg [.sl (objsAV (npairs d (followO d o))),.sl (objsAV (nkids d (followO d o))),.bool (decide (lowB d (followO d o)))])],[(0,.cells [.sl (itemsAV d.items),.int .i64 d.trailer.kind,.int .i64 d.trailer.num,.int .i64 d.trailer.gen,.str d.trailer.str,.sl (strsAV d.trailer.keys),.sl (objsAV d.trailer.kids),.int .i64 ((nodes : Int) + 1),.row 1 0 l.length]),(1,.row 7 (entsAV l) true),(2,.cells [.ptr 0 0]),(3,.cells [.int .i64 o.kind,.int .i64 o.num,.int .i64 o.gen,.str o.str,.sl (strsAV o.keys),.sl (objsAV o.kids)]),(4,.cells [.sl (objsAV (npairs d (followO d o))),.sl (objsAV (nkids d (followO d o))),.bool (decide (lowB d (followO d o)))])],5,gl,1,[]⟩) (.fork 0 (.take 1 0 (.take 2 0 (.fork 3 (.fork 4 (.fork 5 (.fork 6 (.fork 7 .done .stop) .stop) (.fork 6 (.fork 5 (.fork 7 .done .stop) .stop) .stop)) (.fork 6 (.fork 4 (.fork 5 (.fork 7 .done .stop) .stop) .stop) .stop)) (.fork 4 (.fork 3 (.fork 5 (.fork 6 (.fork 7 .done .stop) .stop) (.fork 6 (.fork 5 (.fork 7 .done .stop) .stop) .stop)) (.fork 6 (.fork 3 (.fork 5 (.fork 7 .done .stop) .stop) .stop) .stop)) (.fork 6 (.fork 3 (.fork 4 (.fork 5 (.fork 7 .done .stop) .stop) .stop) (.fork 4 (.fork 3 (.fork 5 (.fork 7 .done .stop) .stop) .stop) .stop)) .stop))))) (.fork 4 (.fork 0 (.take 1 0 (.take 2 0 (.fork 3 (.fork 5 (.fork 6 (.fork 7 .done .stop) .stop) (.fork 6 (.fork 5 (.fork 7 .done .stop) .stop) .stop)) (.fork 6 (.fork 3 (.fork 5 (.fork 7 .done .stop) .stop) .stop) .stop)))) (.fork 6 (.fork 0 (.take 1 0 (.take 2 0 (.fork 3 (.fork 5 (.fork 7 .done .stop) .stop) .stop))) .stop) .stop)) (.fork 6 (.fork 0 (.take 1 0 (.take 2 0 (.fork 3 (.fork 4 (.fork 5 (.fork 7 .done .stop) .stop) .stop) (.fork 4 (.fork 3 (.fork 5 (.fork 7 .done .stop) .stop) .stop) .stop)))) (.fork 4 (.fork 0 (.take 1 0 (.take 2 0 (.fork 3 (.fork 5 (.fork 7 .done .stop) .stop) .stop))) .stop) .stop)) .stop))) ?tree4 ?rest4
  case tree4 =>
   refine awTree.fA ?_ ?_
   ·refine awTree.tk ?_
    refine awTree.tk ?_
    refine awTree.fA ?_ ?_
    ·refine awTree.fA ?_ ?_
     ·refine awTree.fM (c_names_of _ d o hd ho) ?_ ?_ ?_
      ·intro hC
       refine wkU ?_
       rw [thru_name hnn hC]
       exact .inr ⟨by simp,rfl⟩
      ·intro hC
       refine awTree.fA ?_ trivial
       refine awTree.fA ?_ trivial
       exact awTree.dnC hC
      ·refine awTree.fA ?_ trivial
       refine awTree.fM (c_names_of _ d o hd ho) ?_ ?_ ?_
       ·intro hC
        refine wkU ?_
        rw [thru_name hnn hC]
        exact .inr ⟨by simp,rfl⟩
       ·intro hC
        refine awTree.fA ?_ trivial
        exact awTree.dnC hC
       ·exact trivial
     ·refine awTree.fA ?_ trivial
      refine awTree.fA ?_ trivial
      refine awTree.fM (c_names_of _ d o hd ho) ?_ ?_ ?_
      ·intro hC
       refine wkU ?_
       rw [thru_name hnn hC]
       exact .inr ⟨by simp,rfl⟩
      ·intro hC
       refine awTree.fA ?_ trivial
       exact awTree.dnC hC
      ·exact trivial
    ·refine awTree.fA ?_ ?_
     ·refine awTree.fA ?_ ?_
      ·refine awTree.fM (c_names_of _ d o hd ho) ?_ ?_ ?_
       ·intro hC
        refine wkU ?_
        rw [thru_name hnn hC]
        exact .inr ⟨by simp,rfl⟩
       ·intro hC
        refine awTree.fA ?_ trivial
        refine awTree.fA ?_ trivial
        exact awTree.dnC hC
       ·refine awTree.fA ?_ trivial
        refine awTree.fM (c_names_of _ d o hd ho) ?_ ?_ ?_
        ·intro hC
         refine wkU ?_
         rw [thru_name hnn hC]
         exact .inr ⟨by simp,rfl⟩
        ·intro hC
         refine awTree.fA ?_ trivial
         exact awTree.dnC hC
        ·exact trivial
      ·refine awTree.fA ?_ trivial
       refine awTree.fA ?_ trivial
       refine awTree.fM (c_names_of _ d o hd ho) ?_ ?_ ?_
       ·intro hC
        refine wkU ?_
        rw [thru_name hnn hC]
        exact .inr ⟨by simp,rfl⟩
       ·intro hC
        refine awTree.fA ?_ trivial
        exact awTree.dnC hC
       ·exact trivial
     ·refine awTree.fA ?_ trivial
      refine awTree.fA ?_ ?_
      ·refine awTree.fA ?_ trivial
       refine awTree.fM (c_names_of _ d o hd ho) ?_ ?_ ?_
       ·intro hC
        refine wkU ?_
        rw [thru_name hnn hC]
        exact .inr ⟨by simp,rfl⟩
       ·intro hC
        refine awTree.fA ?_ trivial
        exact awTree.dnC hC
       ·exact trivial
      ·refine awTree.fA ?_ trivial
       refine awTree.fA ?_ trivial
       refine awTree.fM (c_names_of _ d o hd ho) ?_ ?_ ?_
       ·intro hC
        refine wkU ?_
        rw [thru_name hnn hC]
        exact .inr ⟨by simp,rfl⟩
       ·intro hC
        refine awTree.fA ?_ trivial
        exact awTree.dnC hC
       ·exact trivial
   ·refine awTree.fA ?_ ?_
    ·refine awTree.fA ?_ ?_
     ·refine awTree.tk ?_
      refine awTree.tk ?_
      refine awTree.fA ?_ ?_
      ·refine awTree.fM (c_names_of _ d o hd ho) ?_ ?_ ?_
       ·intro hC
        refine wkU ?_
        rw [thru_name hnn hC]
        exact .inr ⟨by simp,rfl⟩
       ·intro hC
        refine awTree.fA ?_ trivial
        refine awTree.fA ?_ trivial
        exact awTree.dnC hC
       ·refine awTree.fA ?_ trivial
        refine awTree.fM (c_names_of _ d o hd ho) ?_ ?_ ?_
        ·intro hC
         refine wkU ?_
         rw [thru_name hnn hC]
         exact .inr ⟨by simp,rfl⟩
        ·intro hC
         refine awTree.fA ?_ trivial
         exact awTree.dnC hC
        ·exact trivial
      ·refine awTree.fA ?_ trivial
       refine awTree.fA ?_ trivial
       refine awTree.fM (c_names_of _ d o hd ho) ?_ ?_ ?_
       ·intro hC
        refine wkU ?_
        rw [thru_name hnn hC]
        exact .inr ⟨by simp,rfl⟩
       ·intro hC
        refine awTree.fA ?_ trivial
        exact awTree.dnC hC
       ·exact trivial
     ·refine awTree.fA ?_ trivial
      refine awTree.fA ?_ trivial
      refine awTree.tk ?_
      refine awTree.tk ?_
      refine awTree.fA ?_ trivial
      refine awTree.fM (c_names_of _ d o hd ho) ?_ ?_ ?_
      ·intro hC
       refine wkU ?_
       rw [thru_name hnn hC]
       exact .inr ⟨by simp,rfl⟩
      ·intro hC
       refine awTree.fA ?_ trivial
       exact awTree.dnC hC
      ·exact trivial
    ·refine awTree.fA ?_ trivial
     refine awTree.fA ?_ ?_
     ·refine awTree.tk ?_
      refine awTree.tk ?_
      refine awTree.fA ?_ ?_
      ·refine awTree.fA ?_ trivial
       refine awTree.fM (c_names_of _ d o hd ho) ?_ ?_ ?_
       ·intro hC
        refine wkU ?_
        rw [thru_name hnn hC]
        exact .inr ⟨by simp,rfl⟩
       ·intro hC
        refine awTree.fA ?_ trivial
        exact awTree.dnC hC
       ·exact trivial
      ·refine awTree.fA ?_ trivial
       refine awTree.fA ?_ trivial
       refine awTree.fM (c_names_of _ d o hd ho) ?_ ?_ ?_
       ·intro hC
        refine wkU ?_
        rw [thru_name hnn hC]
        exact .inr ⟨by simp,rfl⟩
       ·intro hC
        refine awTree.fA ?_ trivial
        exact awTree.dnC hC
       ·exact trivial
     ·refine awTree.fA ?_ trivial
      refine awTree.fA ?_ trivial
      refine awTree.tk ?_
      refine awTree.tk ?_
      refine awTree.fA ?_ trivial
      refine awTree.fM (c_names_of _ d o hd ho) ?_ ?_ ?_
      ·intro hC
       refine wkU ?_
       rw [thru_name hnn hC]
       exact .inr ⟨by simp,rfl⟩
      ·intro hC
       refine awTree.fA ?_ trivial
       exact awTree.dnC hC
      ·exact trivial
  case rest4 =>
  intro hC
  have hsucc:=thru_succ (e:=0) (k:=k) (l:=l) hnn hC
  have hpl:=npairs_le hd hq
  have hpe:=npairs_even (d:=d) (q:=followO d o)
  have hkl:=nkids_le hd hq
  have hfit : fitsT ((pairsOf (npairs d (followO d o))).foldl addT ⟨0,nodes + 1,l⟩):=addTs_fits _ _ ⟨by show nodes + 1 ≤ 4096; omega,hfl⟩
  have hnd : ((pairsOf (npairs d (followO d o))).foldl addT ⟨0,nodes + 1,l⟩).nodes = nodes + 1:=foldT_nodes' _ _
  rw [hsucc]
  clear hsucc
  generalize npairs d (followO d o) = ps at *
  generalize nkids d (followO d o) = ks at *
  generalize decide (lowB d (followO d o)) = low at *
  have hent:=fun lq rc Ω (I : LastsU Ω)=>@ent_all gl d (nodes + 1) ps ks low lq rc Ω I l hpl hpe hfl
  generalize (pairsOf ps).foldl addT ⟨0,nodes + 1,l⟩ = s1 at *
  refine AWT.trim [2,3,6] ?_
  refine AWT.seq ?_
  refine AWT.rSC ?_
  refine OpsT.cs (awGuard.cH [] (h_node_entries _ ps ks low) ?_)
  refine OpsT.rn ?_
  refine OpsT.nil ?_
  refine AWT.block ?_
  refine AWT.rP (f0:=28) (fnc:=Tryz.f28) rfl Tryz.func28 [0,2,5] [1] [(3,.ptr 1 0)] (fun j hp' nx'=>j = none ∧ s1.err = 0 ∧ (∃ lq rl,hp' = jHp d s1.nodes s1.l ps ks low (.lp lq rl)) ∧ nx' = 5) (Rp:=fun x=>s1.err ≠ 0 ∧ x = .iface 105 (.int .i64 s1.err)) (xs:=[.ptr 2 0]) (hp0:=[(0,.cells [.sl (itemsAV d.items),.int .i64 d.trailer.kind,.int .i64 d.trailer.num,.int .i64 d.trailer.gen,.str d.trailer.str,.sl (strsAV d.trailer.keys),.sl (objsAV d.trailer.kids),.int .i64 (nodes + 1),.row 4 0 l.length]),(1,.cells [.ptr 0 0]),(2,.cells [.sl (objsAV ps),.sl (objsAV ks),.bool low]),(4,.row 7 (entsAV l) true)]) ?hit ?hKp ?hK
  case hit =>
   intro Ω hΩ lq rb rc hr
   refine (hent lq rc Ω hΩ (fun l1 x hl1=>?_)).mono (fun q hp nx hh=>?_)
   ·simp only [jHp,wCells]
    refine hr [_] _ 5 _ rfl rfl ?_
    intro b_
    refine AWT.rL ?_
    refine ⟨rfl,rfl,?_⟩
    refine AWT.block ?_
    refine AWT.trim [3,7] ?_
    refine AWT.twice (σ1:=⟨90,[(3,.ptr 1 0),(7,.ptr 5 0)],[(0,.cells [.sl (itemsAV d.items),.int .i64 d.trailer.kind,.int .i64 d.trailer.num,.int .i64 d.trailer.gen,.str d.trailer.str,.sl (strsAV d.trailer.keys),.sl (objsAV d.trailer.kids),.int .i64 (nodes + 1),.row 4 0 l1.length]),(1,.cells [.ptr 0 0]),(2,.cells [.sl (objsAV ps),.sl (objsAV ks),.bool low]),(4,.row 7 (entsAV l1) true),(3,.lp lq rb),(5,.cells [.str x.key,.int .i64 x.val.kind,.int .i64 x.val.num,.int .i64 x.val.gen,.str x.val.str,.sl (strsAV x.val.keys),.sl (objsAV x.val.kids)])],6,gl,4,[]⟩) (D:=lessE l1 x = true) ?_ ?_
    ·rcases Nat.eq_zero_or_pos l1.length with hz | hz
     ·obtain rfl : l1 = []:=List.eq_nil_of_length_eq_zero hz
      refine AWT.fL [0,1,2,3,4,5,6,7,8,9,10,11,12,13,14,15,16,17,18,19,20,21,22,23] [(24,2)] ?_ (hQ:=by repeat (first | exact Aw.PI.roundE | refine Aw.PI.unblock ?_ | refine Aw.PI.andThen ?_))
      refine awFun.rn ?_
      refine awPlan.only rfl ?_
      refine awGuard.cM (c_names_must _ _ 25) ?_ ?_
      ·intro hC
       exact absurd hC (by simp)
      ·intro hC
       refine ⟨lessE_nil x,?_⟩
       refine St.le.vx [0,1,2,3,4,5] (hpre:=(by decide : ∀ i,i < 4 → nth [0,1,2,3,4,5] i = some i)) ?_
       first | exact rfl | exact ⟨rfl,rfl⟩
     ·obtain ⟨a,e,rfl⟩:=split_last (Nat.ne_of_gt hz)
      have hlen : (a ++ [e]).length = a.length + 1:=by simp
      rw [hlen]
      rw [hlen] at hl1
      refine AWT.fL [0,1,2,3,4,5,6,7,8,9,10,11,12,13,14,15,16,17,18,19,20,21,22,23] [(24,2)] ?_ (hQ:=by repeat (first | exact Aw.PI.roundE | refine Aw.PI.unblock ?_ | refine Aw.PI.andThen ?_))
      refine awFun.rn ?_
      refine awPlan.only rfl ?_
      refine awGuard.cM (c_names_must _ _ 25) ?_ ?_
      ·intro hC
       refine wkR ?_
       have hx : lessE (a ++ [e]) x = false:=by rw [lessE_last]; exact hC.2
       exact .inr ⟨fun h=>(by have:=h.1; rw [hx] at this; cases this),by rw [errX,if_pos hx]⟩
      ·intro hC
       refine ⟨by rw [lessE_last]; exact hC.resolve_left (by omega),?_⟩
       refine St.le.vx [0,1,2,3,4,5] (hpre:=(by decide : ∀ i,i < 4 → nth [0,1,2,3,4,5] i = some i)) ?_
       first | exact rfl | exact ⟨rfl,rfl⟩
    intro hx
    refine AWT.rSC ?_
    refine OpsT.cs (awGuard.cM (c_names_must _ _ 6) ?_ ?_)
    ·intro hC
     refine wkR ?_
     exact .inr ⟨fun h=>(by have:=h.2; omega),by rw [errX,if_neg (by rw [hx]; simp)]⟩
    intro hC
    refine OpsT.rn ?_
    refine OpsT.nil ?_
    refine AWT.trim [3,7] ?_
    refine AWT.tGL (σf:=?sf9) (.fork 0 (.fork 1 (.take 2 0 (.take 3 0 (.fork 4 (.fork 5 (.fork 6 (.fork 7 (.take 8 0 (.take 9 0 (.fork 10 .done .stop))) .stop) .stop) .stop) (.fork 5 (.fork 4 (.fork 6 (.fork 7 (.take 8 0 (.take 9 0 (.fork 10 .done .stop))) .stop) .stop) (.fork 6 (.fork 4 (.fork 7 (.take 8 0 (.take 9 0 (.fork 10 .done .stop))) .stop) .stop) .stop)) .stop)))) (.fork 5 (.fork 1 (.take 2 0 (.take 3 0 (.fork 4 (.fork 6 (.fork 7 (.take 8 0 (.take 9 0 (.fork 10 .done .stop))) .stop) .stop) (.fork 6 (.fork 4 (.fork 7 (.take 8 0 (.take 9 0 (.fork 10 .done .stop))) .stop) .stop) .stop)))) (.fork 6 (.fork 1 (.take 2 0 (.take 3 0 (.fork 4 (.fork 7 (.take 8 0 (.take 9 0 (.fork 10 .done .stop))) .stop) .stop))) .stop) .stop)) .stop)) (.fork 1 (.take 2 0 (.take 3 0 (.fork 0 (.fork 4 (.fork 5 (.fork 6 (.fork 7 (.take 8 0 (.take 9 0 (.fork 10 .done .stop))) .stop) .stop) .stop) (.fork 5 (.fork 4 (.fork 6 (.fork 7 (.take 8 0 (.take 9 0 (.fork 10 .done .stop))) .stop) .stop) (.fork 6 (.fork 4 (.fork 7 (.take 8 0 (.take 9 0 (.fork 10 .done .stop))) .stop) .stop) .stop)) .stop)) (.fork 4 (.fork 0 (.fork 5 (.fork 6 (.fork 7 (.take 8 0 (.take 9 0 (.fork 10 .done .stop))) .stop) .stop) .stop) (.fork 5 (.fork 0 (.fork 6 (.fork 7 (.take 8 0 (.take 9 0 (.fork 10 .done .stop))) .stop) .stop) (.fork 6 (.fork 0 (.fork 7 (.take 8 0 (.take 9 0 (.fork 10 .done .stop))) .stop) (.fork 7 (.fork 0 (.take 8 0 (.take 9 0 (.fork 10 .done .stop))) .stop) .stop)) .stop)) .stop)) (.fork 5 (.fork 0 (.fork 4 (.fork 6 (.fork 7 (.take 8 0 (.take 9 0 (.fork 10 .done .stop))) .stop) .stop) (.fork 6 (.fork 4 (.fork 7 (.take 8 0 (.take 9 0 (.fork 10 .done .stop))) .stop) .stop) .stop)) (.fork 4 (.fork 0 (.fork 6 (.fork 7 (.take 8 0 (.take 9 0 (.fork 10 .done .stop))) .stop) .stop) (.fork 6 (.fork 0 (.fork 7 (.take 8 0 (.take 9 0 (.fork 10 .done .stop))) .stop) (.fork 7 (.fork 0 (.take 8 0 (.take 9 0 (.fork 10 .done .stop))) .stop) .stop)) .stop)) (.fork 6 (.fork 0 (.fork 4 (.fork 7 (.take 8 0 (.take 9 0 (.fork 10 .done .stop))) .stop) .stop) (.fork 4 (.fork 0 (.fork 7 (.take 8 0 (.take 9 0 (.fork 10 .done .stop))) .stop) (.fork 7 (.fork 0 (.take 8 0 (.take 9 0 (.fork 10 .done .stop))) .stop) .stop)) .stop)) .stop))) .stop))))) (.fork 5 (.fork 0 (.fork 1 (.take 2 0 (.take 3 0 (.fork 4 (.fork 6 (.fork 7 (.take 8 0 (.take 9 0 (.fork 10 .done .stop))) .stop) .stop) (.fork 6 (.fork 4 (.fork 7 (.take 8 0 (.take 9 0 (.fork 10 .done .stop))) .stop) .stop) .stop)))) (.fork 6 (.fork 1 (.take 2 0 (.take 3 0 (.fork 4 (.fork 7 (.take 8 0 (.take 9 0 (.fork 10 .done .stop))) .stop) .stop))) .stop) .stop)) (.fork 1 (.take 2 0 (.take 3 0 (.fork 0 (.fork 4 (.fork 6 (.fork 7 (.take 8 0 (.take 9 0 (.fork 10 .done .stop))) .stop) .stop) (.fork 6 (.fork 4 (.fork 7 (.take 8 0 (.take 9 0 (.fork 10 .done .stop))) .stop) .stop) .stop)) (.fork 4 (.fork 0 (.fork 6 (.fork 7 (.take 8 0 (.take 9 0 (.fork 10 .done .stop))) .stop) .stop) (.fork 6 (.fork 0 (.fork 7 (.take 8 0 (.take 9 0 (.fork 10 .done .stop))) .stop) (.fork 7 (.fork 0 (.take 8 0 (.take 9 0 (.fork 10 .done .stop))) .stop) .stop)) .stop)) (.fork 6 (.fork 0 (.fork 4 (.fork 7 (.take 8 0 (.take 9 0 (.fork 10 .done .stop))) .stop) .stop) (.fork 4 (.fork 0 (.fork 7 (.take 8 0 (.take 9 0 (.fork 10 .done .stop))) .stop) (.fork 7 (.fork 0 (.take 8 0 (.take 9 0 (.fork 10 .done .stop))) .stop) .stop)) .stop)) .stop))))) (.fork 6 (.fork 0 (.fork 1 (.take 2 0 (.take 3 0 (.fork 4 (.fork 7 (.take 8 0 (.take 9 0 (.fork 10 .done .stop))) .stop) .stop))) .stop) (.fork 1 (.take 2 0 (.take 3 0 (.fork 0 (.fork 4 (.fork 7 (.take 8 0 (.take 9 0 (.fork 10 .done .stop))) .stop) .stop) (.fork 4 (.fork 0 (.fork 7 (.take 8 0 (.take 9 0 (.fork 10 .done .stop))) .stop) (.fork 7 (.fork 0 (.take 8 0 (.take 9 0 (.fork 10 .done .stop))) .stop) .stop)) .stop)))) .stop)) .stop))) .stop))) ?tree9 ?rest9 (hQ:=by repeat (first | exact Aw.PI.roundE | refine Aw.PI.unblock ?_ | refine Aw.PI.andThen ?_))
    case tree9 =>
     refine awTree.fA ?_ ?_
     ·refine awTree.fA ?_ ?_
      ·refine awTree.tk ?_
       refine awTree.tk ?_
       refine awTree.fA ?_ ?_
       ·refine awTree.fA ?_ trivial
        refine awTree.fA ?_ trivial
        refine awTree.fA ?_ trivial
        refine awTree.tk ?_
        refine awTree.tk ?_
        refine awTree.fA ?_ trivial
        exact awTree.dn
       ·refine awTree.fA ?_ trivial
        refine awTree.fA ?_ ?_
        ·refine awTree.fA ?_ trivial
         refine awTree.fA ?_ trivial
         refine awTree.tk ?_
         refine awTree.tk ?_
         refine awTree.fA ?_ trivial
         exact awTree.dn
        ·refine awTree.fA ?_ trivial
         refine awTree.fA ?_ trivial
         refine awTree.fA ?_ trivial
         refine awTree.tk ?_
         refine awTree.tk ?_
         refine awTree.fA ?_ trivial
         exact awTree.dn
      ·refine awTree.fA ?_ trivial
       refine awTree.fA ?_ ?_
       ·refine awTree.tk ?_
        refine awTree.tk ?_
        refine awTree.fA ?_ ?_
        ·refine awTree.fA ?_ trivial
         refine awTree.fA ?_ trivial
         refine awTree.tk ?_
         refine awTree.tk ?_
         refine awTree.fA ?_ trivial
         exact awTree.dn
        ·refine awTree.fA ?_ trivial
         refine awTree.fA ?_ trivial
         refine awTree.fA ?_ trivial
         refine awTree.tk ?_
         refine awTree.tk ?_
         refine awTree.fA ?_ trivial
         exact awTree.dn
       ·refine awTree.fA ?_ trivial
        refine awTree.fA ?_ trivial
        refine awTree.tk ?_
        refine awTree.tk ?_
        refine awTree.fA ?_ trivial
        refine awTree.fA ?_ trivial
        refine awTree.tk ?_
        refine awTree.tk ?_
        refine awTree.fA ?_ trivial
        exact awTree.dn
     ·refine awTree.fA ?_ ?_
      ·refine awTree.tk ?_
       refine awTree.tk ?_
       refine awTree.fA ?_ ?_
       ·refine awTree.fA ?_ ?_
        ·refine awTree.fA ?_ trivial
         refine awTree.fA ?_ trivial
         refine awTree.fA ?_ trivial
         refine awTree.tk ?_
         refine awTree.tk ?_
         refine awTree.fA ?_ trivial
         exact awTree.dn
        ·refine awTree.fA ?_ trivial
         refine awTree.fA ?_ ?_
         ·refine awTree.fA ?_ trivial
          refine awTree.fA ?_ trivial
          refine awTree.tk ?_
          refine awTree.tk ?_
          refine awTree.fA ?_ trivial
          exact awTree.dn
         ·refine awTree.fA ?_ trivial
          refine awTree.fA ?_ trivial
          refine awTree.fA ?_ trivial
          refine awTree.tk ?_
          refine awTree.tk ?_
          refine awTree.fA ?_ trivial
          exact awTree.dn
       ·refine awTree.fA ?_ ?_
        ·refine awTree.fA ?_ ?_
         ·refine awTree.fA ?_ trivial
          refine awTree.fA ?_ trivial
          refine awTree.fA ?_ trivial
          refine awTree.tk ?_
          refine awTree.tk ?_
          refine awTree.fA ?_ trivial
          exact awTree.dn
         ·refine awTree.fA ?_ trivial
          refine awTree.fA ?_ ?_
          ·refine awTree.fA ?_ trivial
           refine awTree.fA ?_ trivial
           refine awTree.tk ?_
           refine awTree.tk ?_
           refine awTree.fA ?_ trivial
           exact awTree.dn
          ·refine awTree.fA ?_ trivial
           refine awTree.fA ?_ ?_
           ·refine awTree.fA ?_ trivial
            refine awTree.tk ?_
            refine awTree.tk ?_
            refine awTree.fA ?_ trivial
            exact awTree.dn
           ·refine awTree.fA ?_ trivial
            refine awTree.fA ?_ trivial
            refine awTree.tk ?_
            refine awTree.tk ?_
            refine awTree.fA ?_ trivial
            exact awTree.dn
        ·refine awTree.fA ?_ trivial
         refine awTree.fA ?_ ?_
         ·refine awTree.fA ?_ ?_
          ·refine awTree.fA ?_ trivial
           refine awTree.fA ?_ trivial
           refine awTree.tk ?_
           refine awTree.tk ?_
           refine awTree.fA ?_ trivial
           exact awTree.dn
          ·refine awTree.fA ?_ trivial
           refine awTree.fA ?_ trivial
           refine awTree.fA ?_ trivial
           refine awTree.tk ?_
           refine awTree.tk ?_
           refine awTree.fA ?_ trivial
           exact awTree.dn
         ·refine awTree.fA ?_ ?_
          ·refine awTree.fA ?_ ?_
           ·refine awTree.fA ?_ trivial
            refine awTree.fA ?_ trivial
            refine awTree.tk ?_
            refine awTree.tk ?_
            refine awTree.fA ?_ trivial
            exact awTree.dn
           ·refine awTree.fA ?_ trivial
            refine awTree.fA ?_ ?_
            ·refine awTree.fA ?_ trivial
             refine awTree.tk ?_
             refine awTree.tk ?_
             refine awTree.fA ?_ trivial
             exact awTree.dn
            ·refine awTree.fA ?_ trivial
             refine awTree.fA ?_ trivial
             refine awTree.tk ?_
             refine awTree.tk ?_
             refine awTree.fA ?_ trivial
             exact awTree.dn
          ·refine awTree.fA ?_ trivial
           refine awTree.fA ?_ ?_
           ·refine awTree.fA ?_ trivial
            refine awTree.fA ?_ trivial
            refine awTree.tk ?_
            refine awTree.tk ?_
            refine awTree.fA ?_ trivial
            exact awTree.dn
           ·refine awTree.fA ?_ trivial
            refine awTree.fA ?_ ?_
            ·refine awTree.fA ?_ trivial
             refine awTree.tk ?_
             refine awTree.tk ?_
             refine awTree.fA ?_ trivial
             exact awTree.dn
            ·refine awTree.fA ?_ trivial
             refine awTree.fA ?_ trivial
             refine awTree.tk ?_
             refine awTree.tk ?_
             refine awTree.fA ?_ trivial
             exact awTree.dn
      ·refine awTree.fA ?_ trivial
       refine awTree.fA ?_ ?_
       ·refine awTree.fA ?_ ?_
        ·refine awTree.tk ?_
         refine awTree.tk ?_
         refine awTree.fA ?_ ?_
         ·refine awTree.fA ?_ trivial
          refine awTree.fA ?_ trivial
          refine awTree.tk ?_
          refine awTree.tk ?_
          refine awTree.fA ?_ trivial
          exact awTree.dn
         ·refine awTree.fA ?_ trivial
          refine awTree.fA ?_ trivial
          refine awTree.fA ?_ trivial
          refine awTree.tk ?_
          refine awTree.tk ?_
          refine awTree.fA ?_ trivial
          exact awTree.dn
        ·refine awTree.fA ?_ trivial
         refine awTree.fA ?_ trivial
         refine awTree.tk ?_
         refine awTree.tk ?_
         refine awTree.fA ?_ trivial
         refine awTree.fA ?_ trivial
         refine awTree.tk ?_
         refine awTree.tk ?_
         refine awTree.fA ?_ trivial
         exact awTree.dn
       ·refine awTree.fA ?_ ?_
        ·refine awTree.tk ?_
         refine awTree.tk ?_
         refine awTree.fA ?_ ?_
         ·refine awTree.fA ?_ ?_
          ·refine awTree.fA ?_ trivial
           refine awTree.fA ?_ trivial
           refine awTree.tk ?_
           refine awTree.tk ?_
           refine awTree.fA ?_ trivial
           exact awTree.dn
          ·refine awTree.fA ?_ trivial
           refine awTree.fA ?_ trivial
           refine awTree.fA ?_ trivial
           refine awTree.tk ?_
           refine awTree.tk ?_
           refine awTree.fA ?_ trivial
           exact awTree.dn
         ·refine awTree.fA ?_ ?_
          ·refine awTree.fA ?_ ?_
           ·refine awTree.fA ?_ trivial
            refine awTree.fA ?_ trivial
            refine awTree.tk ?_
            refine awTree.tk ?_
            refine awTree.fA ?_ trivial
            exact awTree.dn
           ·refine awTree.fA ?_ trivial
            refine awTree.fA ?_ ?_
            ·refine awTree.fA ?_ trivial
             refine awTree.tk ?_
             refine awTree.tk ?_
             refine awTree.fA ?_ trivial
             exact awTree.dn
            ·refine awTree.fA ?_ trivial
             refine awTree.fA ?_ trivial
             refine awTree.tk ?_
             refine awTree.tk ?_
             refine awTree.fA ?_ trivial
             exact awTree.dn
          ·refine awTree.fA ?_ trivial
           refine awTree.fA ?_ ?_
           ·refine awTree.fA ?_ trivial
            refine awTree.fA ?_ trivial
            refine awTree.tk ?_
            refine awTree.tk ?_
            refine awTree.fA ?_ trivial
            exact awTree.dn
           ·refine awTree.fA ?_ trivial
            refine awTree.fA ?_ ?_
            ·refine awTree.fA ?_ trivial
             refine awTree.tk ?_
             refine awTree.tk ?_
             refine awTree.fA ?_ trivial
             exact awTree.dn
            ·refine awTree.fA ?_ trivial
             refine awTree.fA ?_ trivial
             refine awTree.tk ?_
             refine awTree.tk ?_
             refine awTree.fA ?_ trivial
             exact awTree.dn
        ·refine awTree.fA ?_ trivial
         refine awTree.fA ?_ ?_
         ·refine awTree.fA ?_ trivial
          refine awTree.tk ?_
          refine awTree.tk ?_
          refine awTree.fA ?_ trivial
          refine awTree.fA ?_ trivial
          refine awTree.tk ?_
          refine awTree.tk ?_
          refine awTree.fA ?_ trivial
          exact awTree.dn
         ·refine awTree.fA ?_ trivial
          refine awTree.tk ?_
          refine awTree.tk ?_
          refine awTree.fA ?_ ?_
          ·refine awTree.fA ?_ trivial
           refine awTree.fA ?_ trivial
           refine awTree.tk ?_
           refine awTree.tk ?_
           refine awTree.fA ?_ trivial
           exact awTree.dn
          ·refine awTree.fA ?_ trivial
           refine awTree.fA ?_ ?_
           ·refine awTree.fA ?_ trivial
            refine awTree.tk ?_
            refine awTree.tk ?_
            refine awTree.fA ?_ trivial
            exact awTree.dn
           ·refine awTree.fA ?_ trivial
            refine awTree.fA ?_ trivial
            refine awTree.tk ?_
            refine awTree.tk ?_
            refine awTree.fA ?_ trivial
            exact awTree.dn
    case rest9 =>
    simp only [andThen,unblock]
    refine rdU none [(0,.cells [.sl (itemsAV d.items),.int .i64 d.trailer.kind,.int .i64 d.trailer.num,.int .i64 d.trailer.gen,.str d.trailer.str,.sl (strsAV d.trailer.keys),.sl (objsAV d.trailer.kids),.int .i64 (nodes + 1),.row 4 0 (l1 ++ [x]).length]),(1,.cells [.ptr 0 0]),(2,.cells [.sl (objsAV ps),.sl (objsAV ks),.bool low]),(4,.row 7 (entsAV (l1 ++ [x])) true),(3,.lp lq rb)] 5 (St.le.vx [0,1,2,3,7] (hpre:=(by decide : ∀ i,i < 4 → nth [0,1,2,3,7] i = some i)) ?v9) ?r9
    case v9 =>
     refine ⟨?_,?_⟩
     ·first | rfl | simp
     ·rw [entsAV_take,List.take_length,entsAV_append]
      rfl
    case r9=>exact .inl ⟨⟨hx,by omega⟩,rfl,rfl,rfl⟩
   ·rcases hh with ⟨he,rfl,rfl,rfl⟩ | ⟨he,rfl,rfl,hn⟩
    ·exact .inl ⟨⟨_,rfl⟩,none,rfl,rfl,he,⟨_,_,by rw [hnd]⟩,rfl⟩
    ·exact .inr ⟨_,rfl,⟨he,rfl⟩,hn⟩
  case hKp =>
   rintro x N hN ⟨he,rfl⟩
   have hN1 : 6 ≤ N:=hN
   refine wkU ?_
   rw [kfold_stop d k ks s1 he]
   exact .inr ⟨he,rfl,by omega⟩
  case hK =>
   rintro j hp' nx' ⟨rfl,he,⟨lq,rl,rfl⟩,rfl⟩
   simp only [jHp,wCells]
   refine ⟨by simp only [go_sem,seval],?_⟩
   simp only [andThen,unblock]
   refine AWT.trim [2,3,6] ?_
   refine AWT.rS ?_
   refine AWT.trim [2,3,78,79,80] ?_
   refine AWT.block ?_
   refine AWT.lk (S:={ i : Nat // i ≤ ks.length ∧ (kS d k ks s1 i).err = 0 }) [2,3,78,79] (fun s_=>[(80,.int .i64 (s_.1 : Int))]) (fun s_=>[(0,.cells [.sl (itemsAV d.items),.int .i64 d.trailer.kind,.int .i64 d.trailer.num,.int .i64 d.trailer.gen,.str d.trailer.str,.sl (strsAV d.trailer.keys),.sl (objsAV d.trailer.kids),.int .i64 (kS d k ks s1 s_.1).nodes,.row 1 0 (kS d k ks s1 s_.1).l.length]),(1,.row 7 (entsAV (kS d k ks s1 s_.1).l) true),(2,.cells [.ptr 0 0])]) 3 (fun s_=>ks.length - s_.1) ⟨0,Nat.zero_le _,he⟩ ?_ ?_
   ·refine St.le.vx [0,7,2] (hpre:=(by decide : ∀ i,i < 1 → nth [0,7,2] i = some i)) ?_
    exact ⟨rfl,rfl⟩
   rintro ⟨i,hi,hei⟩
   try dsimp only at hi
   try dsimp only at hei
   have hkl1:=hkl.1
   refine AWT.rS ?_
   refine AWT.seq ?_
   refine AWT.c2 ?_ ?_
   ·intro h6
    refine AWT.skip ?_
    refine AWT.seq ?_
    refine AWT.block ?_
    have hi2 : i < ks.length:=by omega
    have hst : kS d k ks s1 (i + 1) = thru d k (ks.getD i Pob.null) ⟨0,(kS d k ks s1 i).nodes,(kS d k ks s1 i).l⟩:=by rw [kS_step hi2,kstep,if_neg (by rw [hei]; simp),← TS_mk hei]
    have hfi:=kS_fits (d:=d) (k:=k) (ks:=ks) i hfit
    have hih:=ih (dp + 1) (by omega) (by omega) (ks.getD i Pob.null) (hkl.2 i hi2) (kS d k ks s1 i).nodes (kS d k ks s1 i).l ⟨hfi.1,hfi.2⟩
    rw [← hst] at hih
    simp only [wCells,Pob.cells] at hih
    refine AWT.rS ?_
    refine AWT.trim [2,3,9,78,79,80] ?_
    refine AWT.rLC ?_
    refine OpsT.cs (awGuard.cKM 1 [0,1] (hih.mono fun r h n hh=>hh.imp id fun q=>⟨q.1,q.2.1,q.2.2.2⟩) ?_ ?_)
    ·intro hE n hn
     refine wkU ?_
     rw [kS_err hE]
     exact .inr ⟨hE,rfl,by omega⟩
    intro hE
    refine OpsT.rn ?_
    refine OpsT.nil ?_
    simp only [andThen,unblock]
    refine AWT.rL ?_
    refine ⟨⟨i + 1,by omega,hE⟩,?_,?_⟩
    ·exact St.le.vw [0,4,2] (hpre:=(by decide : ∀ i,i < 1 → nth [0,4,2] i = some i))
    ·simp only []; omega
   ·intro h6
    refine AWT.vw [0,1] [] [(0,.cells [.sl (itemsAV d.items),.int .i64 d.trailer.kind,.int .i64 d.trailer.num,.int .i64 d.trailer.gen,.str d.trailer.str,.sl (strsAV d.trailer.keys),.sl (objsAV d.trailer.kids),.int .i64 (kS d k ks s1 i).nodes,.row 1 0 (kS d k ks s1 i).l.length]),(1,.row 7 (entsAV (kS d k ks s1 i).l) true)] trivial ?_
    refine AWT.exit ?_
    simp only [andThen,unblock,if_true]
    refine wkU ?_
    rw [kS_all (i:=i) (by omega)]
    first | exact hei | exact ⟨hei,rfl⟩ | exact .inl ⟨hei,rfl⟩ | exact .inl hei
end Go.Proofs

namespace Aw
open Go
theorem le_yes {a b : List UInt8} (h : Op.bytesLess a b = true ∨ a = b) : leB a b = true:=by simp [leB,leB_gt h]
theorem le_no {a b : List UInt8} (h : ¬ (Op.bytesLess a b = true ∨ a = b)) : leB a b = false:=by
 have h1 : Op.bytesLess a b = false:=by
  cases e : Op.bytesLess a b with
  | false=>rfl
  | true=>exact absurd (.inl e) h
 simp [leB,lt_of_not ⟨h1,fun e=>h (.inr e)⟩]
theorem le_both {a b c : List UInt8} : (leB a b && decide (leB b c = true)) = true ↔ (Op.bytesLess a b = true ∨ a = b) ∧ (Op.bytesLess b c = true ∨ b = c):=by
 constructor
 ·intro h
  simp only [Bool.and_eq_true,decide_eq_true_eq] at h
  exact ⟨Classical.byContradiction fun hc=>(by rw [le_no hc] at h; cases h.1),Classical.byContradiction fun hc=>(by rw [le_no hc] at h; cases h.2)⟩
 ·rintro ⟨h1,h2⟩
  simp [le_yes h1,le_yes h2]
theorem down_step {d : Dc} {key : List UInt8} {l : List Pob} {i : Nat} (h : i < l.length) : downO d key (l.drop i) = if limB d (followO d (l.getD i Pob.null)) then (if leB (limLo d (followO d (l.getD i Pob.null))) key && leB key (limHi d (followO d (l.getD i Pob.null))) = true then (0,l.getD i Pob.null) else downO d key (l.drop (i + 1))) else (25,Pob.null):=by
 rw [List.drop_eq_getElem_cons h,downO]
 simp [List.getD,h]
theorem down_end {d : Dc} {key : List UInt8} {l : List Pob} {i : Nat} (h : l.length ≤ i) : downO d key (l.drop i) = (8,Pob.null):=by
 rw [List.drop_eq_nil_of_le h,downO]
theorem down_mem (d : Dc) (key : List UInt8) : ∀ l : List Pob,(downO d key l).1 = 0 → ∃ i,i < l.length ∧ (downO d key l).2 = l.getD i Pob.null
 | [],h=>by simp [downO] at h
 | x :: l,h=>by
  rw [downO] at h ⊢
  split at h
  ·rename_i h1
   rw [if_pos h1]
   split at h
   ·rename_i h2
    rw [if_pos h2]
    exact ⟨0,by simp,rfl⟩
   ·rename_i h2
    rw [if_neg h2]
    obtain ⟨i,h3,h4⟩:=down_mem d key l h
    exact ⟨i + 1,by simpa using h3,by rw [h4]; rfl⟩
  ·simp at h
theorem find_low {d : Dc} {key : List UInt8} {k : Nat} {o : Pob} (h : lowB d (followO d o)) : findT d key (k + 1) o = findE key (pairsOf (npairs d (followO d o))):=by
 rw [findT,if_pos h,npairs,if_pos h]
theorem find_high {d : Dc} {key : List UInt8} {k : Nat} {o : Pob} (h : highB d (followO d o)) (hl : ¬ lowB d (followO d o)) : findT d key (k + 1) o = if (downO d key (nkids d (followO d o))).1 ≠ 0 then ((downO d key (nkids d (followO d o))).1,Pob.null) else findT d key k (downO d key (nkids d (followO d o))).2:=by
 rw [findT,if_neg hl,if_pos h,nkids,if_neg hl]
theorem find_name {d : Dc} {key : List UInt8} {k : Nat} {o : Pob} (h : ¬ (lowB d (followO d o) ∨ highB d (followO d o))) : findT d key (k + 1) o = (25,Pob.null):=by
 rw [findT,if_neg (fun h'=>h (.inl h')),if_neg (fun h'=>h (.inr h'))]
theorem findE_step {key : List UInt8} {l : List En} {i : Nat} (h : i < l.length) : findE key (l.drop i) = if (l.getD i En.zero).key = key then (0,(l.getD i En.zero).val) else findE key (l.drop (i + 1)):=by
 rw [List.drop_eq_getElem_cons h,findE]
 simp [List.getD,h]
theorem findE_end {key : List UInt8} {l : List En} {i : Nat} (h : l.length ≤ i) : findE key (l.drop i) = (8,Pob.null):=by
 rw [List.drop_eq_nil_of_le h,findE]
theorem readN_there {d : Dc} {o : Pob} (h : thereE d o ≠ 0) : readNE d o = thereE d o ∧ readNL d o = []:=by
 have h1 : readNE d o = thereE d o:=by
  rw [readNE]
  rw [thereE] at h ⊢
  split
  ·rfl
  ·rename_i h1
   rw [if_neg h1] at h
   split
   ·rfl
   ·rename_i h2
    rw [if_neg h2] at h
    exact absurd rfl h
 exact ⟨h1,by rw [readNL,if_pos (by rw [h1]; exact h)]⟩
theorem readN_ok {d : Dc} {o : Pob} (h : thereE d o = 0) : readNE d o = (readT d o).err:=by
 rw [readNE]
 rw [thereE] at h
 split
 ·rename_i h1
  rw [if_pos h1] at h
  exact absurd h h1
 ·rename_i h1
  rw [if_neg h1] at h
  split
  ·rename_i h2
   rw [if_pos h2] at h
   cases h
  ·rfl
theorem readN_err {d : Dc} {o : Pob} (h : thereE d o = 0) (he : (readT d o).err ≠ 0) : readNL d o = []:=by rw [readNL,if_pos (by rw [readN_ok h]; exact he)]
theorem readN_l {d : Dc} {o : Pob} (h : thereE d o = 0) (he : (readT d o).err = 0) : readNL d o = (readT d o).l:=by rw [readNL,if_neg (by rw [readN_ok h,he]; simp)]
theorem findN_there {d : Dc} {o : Pob} {key : List UInt8} (h : thereE d o ≠ 0) : findN d o key = (thereE d o,Pob.null):=by
 rw [findN]
 rw [thereE] at h ⊢
 split
 ·rfl
 ·rename_i h1
  rw [if_neg h1] at h
  split
  ·rfl
  ·rename_i h2
   rw [if_neg h2] at h
   exact absurd rfl h
theorem findN_ok {d : Dc} {o : Pob} {key : List UInt8} (h : thereE d o = 0) : findN d o key = findT d key 24 o:=by
 rw [findN]
 rw [thereE] at h
 split
 ·rename_i h1
  rw [if_pos h1] at h
  exact absurd h h1
 ·rename_i h1
  rw [if_neg h1] at h
  split
  ·rename_i h2
   rw [if_pos h2] at h
   cases h
  ·rfl
end Aw

namespace Go.Proofs
open Go Aw
set_option linter.unusedSimpArgs false
set_option linter.unusedVariables false
set_option maxRecDepth 100000
set_option maxHeartbeats 4000000
attribute [local go_sem] En.cells entsAV_length
theorem c_names_Read (gl : List (Nat × AV)) (d : Dc) (o : Pob) (h : d.bulk ≤ 16777216) (ho : o.bulk ≤ 16777216) :
  FnP Tryz.prog gl 10 [.agg d.cells,.agg o.cells] fun r=>r = .ret (.tup [.sl (entsAV (readNL d o)),.int .i64 (readNE d o)]):=by
 refine FnP.introN Tryz.func10 rfl rfl (by simp [Tryz.ntmps10]) ?_
 simp only [argEnv,Tryz.ntmps10,Tryz.results10,Dc.cells,Pob.cells]
 refine AW.rL ?_
 refine ⟨rfl,?_⟩
 refine AW.dfL ?_
 refine ⟨rfl,fun n_ ds_=>?_⟩
 refine AWT.rSC ?_
 refine OpsT.cs (awGuard.cM (c_names_there _ d o h ho) ?_ ?_)
 ·intro hC
  refine finD_pan ?_
  refine LeaveS.c1 [2] (d_face_pan _ _) ?_
  refine LeaveS.rt Tryz.results10 ?_
  rw [(readN_there hC).1,(readN_there hC).2]
  rfl
 intro hC
 refine OpsT.rn ?_
 refine OpsT.nil ?_
 refine AWT.trim [2,3,4,5] ?_
 refine AWT.rS ?_
 refine AWT.trim [3,4,5,6] ?_
 refine AWT.pre (St.le.nilcell 3 8 7 rfl rfl) ?_
 refine AWT.rSC ?_
 have hih:=h_through gl d h 24 0 rfl (Int.le_refl _) o ho 0 [] ⟨by decide,by decide⟩
 have hr1:=readN_ok hC
 have hr2:=readN_err hC
 have hr3:=readN_l hC
 have het : thru d 24 o ⟨0,0,[]⟩ = readT d o:=by rw [readT]
 rw [het] at hih
 generalize readT d o = t at *
 simp only [wCells] at hih
 refine OpsT.cs (awGuard.cKM 1 [3,4] (hih.mono fun r h n hh=>hh.imp id fun q=>⟨q.1,q.2.1,q.2.2.2⟩) ?_ ?_)
 ·intro hE n hn
  refine finD_pan ?_
  refine LeaveS.c1 [2] (d_face_pan _ _) ?_
  refine LeaveS.rt Tryz.results10 ?_
  rw [hr1,hr2 hE]
  rfl
 intro hE
 refine OpsT.rn ?_
 refine OpsT.nil ?_
 refine AWT.rS ?_
 refine AWT.ret ?_
 simp only [finD_ret]
 refine LeaveS.c1 [2] (d_face_ret _ 0) ?_
 refine LeaveS.rt Tryz.results10 ?_
 rw [hr1,hr3 hE,hE,entsAV_take,List.take_length]
end Go.Proofs

namespace Go.Proofs
open Go Aw
set_option linter.unusedSimpArgs false
set_option linter.unusedVariables false
set_option maxRecDepth 100000
set_option maxHeartbeats 4000000
attribute [local go_sem] En.cells entsAV_length
theorem ent_find (gl : List (Nat × AV)) (key : List UInt8) (ps ks : List Pob) (low : Bool) (lq : Nat) (rc : Option Code → Loop) {Ω : Mem → Prop} [LastsU Ω] (hps : ps.length ≤ 16777216) (hev : ps.length % 2 = 0)
  (hY : ∀ x : En,RoundU Ω Tryz.prog gl lq [.agg x.cells] [(0,.cells [.str key]),(1,.cells [.int .i64 0,.int .i64 0,.int .i64 0,.str [],.raw (.slice none 0 0),.raw (.slice none 0 0)]),(2,.cells [.int .i64 0]),(3,.cells [.sl (objsAV ps),.sl (objsAV ks),.bool low]),(4,.lp lq (rc none))] 5 5 fun r h n =>
   (x.key ≠ key ∧ r = .ret (.bool true) ∧ h = [(0,.cells [.str key]),(1,.cells [.int .i64 0,.int .i64 0,.int .i64 0,.str [],.raw (.slice none 0 0),.raw (.slice none 0 0)]),(2,.cells [.int .i64 0]),(3,.cells [.sl (objsAV ps),.sl (objsAV ks),.bool low]),(4,.lp lq (rc none))] ∧ n = 5) ∨
   (¬ x.key ≠ key ∧ r = .ret (.bool false) ∧ h = [(0,.cells [.str key]),(1,.cells (Pob.cells (x.val))),(2,.cells [.int .i64 0]),(3,.cells [.sl (objsAV ps),.sl (objsAV ks),.bool low]),(4,.lp lq (rc (some .ret)))] ∧ n = 5)) :
  FnU Ω Tryz.prog gl 64 [.raw (.func (.yield lq) #[] #[]),.ptr 3 0] [(0,.cells [.str key]),(1,.cells [.int .i64 0,.int .i64 0,.int .i64 0,.str [],.raw (.slice none 0 0),.raw (.slice none 0 0)]),(2,.cells [.int .i64 0]),(3,.cells [.sl (objsAV ps),.sl (objsAV ks),.bool low]),(4,.lp lq (rc none))] 5 5 fun r h n =>
   (findE key (pairsOf ps) = (8,Pob.null) ∧ r = .ret (.tup []) ∧ h = [(0,.cells [.str key]),(1,.cells [.int .i64 0,.int .i64 0,.int .i64 0,.str [],.raw (.slice none 0 0),.raw (.slice none 0 0)]),(2,.cells [.int .i64 0]),(3,.cells [.sl (objsAV ps),.sl (objsAV ks),.bool low]),(4,.lp lq (rc none))] ∧ n = 5) ∨
   (∃ v : Pob,findE key (pairsOf ps) = (0,v) ∧ r = .ret (.tup []) ∧ h = [(0,.cells [.str key]),(1,.cells (Pob.cells (v))),(2,.cells [.int .i64 0]),(3,.cells [.sl (objsAV ps),.sl (objsAV ks),.bool low]),(4,.lp lq (rc (some .ret)))] ∧ n = 5):=by
 have hpl:=pairsOf_len ps
 simp only [Pob.cells_eq] at hY ⊢
 refine FnU.introN Tryz.func64 rfl rfl (by simp [Tryz.ntmps64]) ?_ ?_
 ·rintro q hp' nx' (⟨_,h1,rfl,rfl⟩ | ⟨v,_,h1,rfl,rfl⟩)
  ·cases h1
   exact ⟨by simp only [↓noTHm_cons,noTHm,noTBm,noTL,noT,Bool.and_self],rfl⟩
  ·cases h1
   exact ⟨by simp only [↓noTHm_cons,noTHm,noTBm,noTL,noT,Bool.and_self],rfl⟩
 intro B_
 simp only [argEnv,Tryz.ntmps64,Tryz.results64]
 refine AWT.rS ?_
 refine AWT.block ?_
 refine AWT.lk (S:={ i : Nat // i ≤ (pairsOf ps).length ∧ findE key (pairsOf ps) = findE key ((pairsOf ps).drop i) }) [0,1] (fun s_=>[(3,.int .i64 (2 * (s_.1 : Int)))]) (fun s_=>[(0,.cells [.str key]),(1,.cells [.int .i64 0,.int .i64 0,.int .i64 0,.str [],.raw (.slice none 0 0),.raw (.slice none 0 0)]),(2,.cells [.int .i64 0]),(3,.cells [.sl (objsAV ps),.sl (objsAV ks),.bool low]),(4,.lp lq (rc none))]) 5 (fun s_=>(pairsOf ps).length - s_.1) ⟨0,Nat.zero_le _,rfl⟩ ?_ ?_
 ·exact St.le.vw [0,1,2,3,4] (hpre:=(by decide : ∀ i,i < 5 → nth [0,1,2,3,4] i = some i))
 rintro ⟨i,hi,he⟩
 try dsimp only at hi
 try dsimp only at he
 refine AWT.seq ?_
 refine AWT.rS ?_
 refine AWT.c2 ?_ ?_
 ·intro h6
  refine AWT.skip ?_
  refine AWT.seq ?_
  refine AWT.block ?_
  refine AWT.yS 14 [0,1,2,3,4,5,6,7,8,9,10,11,12,13] ?_ (hQ:=by repeat (first | exact Aw.PI.finU | refine Aw.PI.unblock ?_ | refine Aw.PI.andThen ?_))
  refine awFun.rn ?_
  refine awFun.ef [18,24] ?_
  refine awFun.rn ?_
  rw [Aw.awFun_nil,Aw.awPlan_nil]
  have hi2 : i < (pairsOf ps).length:=by omega
  have hx : (pairsOf ps).getD i En.zero = ⟨(ps.getD (2 * (i : Int)).toNat Pob.null).str,ps.getD (2 * (i : Int) + 1).toNat Pob.null⟩:=by
   rw [pairsOf_get ps i (by omega),show (2 * (i : Int)).toNat = 2 * i from by omega,show (2 * (i : Int) + 1).toNat = 2 * i + 1 from by omega]
  have hst:=findE_step (key:=key) hi2
  rw [hx] at hst
  refine chainT.cY2 [0,1,2,3,4] (hY ⟨(ps.getD (2 * (i : Int)).toNat Pob.null).str,ps.getD (2 * (i : Int) + 1).toNat Pob.null⟩) ?_ ?_
  ·intro hc
   refine chainT.p ?_
   refine chainT.nil ?_
   refine AWT.c2 ?_ ?_
   ·intro h13
    simp at h13
   ·intro h13
    refine AWT.skip ?_
    refine AWT.rL ?_
    refine ⟨⟨i + 1,by omega,by rw [he,hst,if_neg hc]⟩,?_,?_⟩
    ·exact St.le.vw [0,1,2,3,4] (hpre:=(by decide : ∀ i,i < 5 → nth [0,1,2,3,4] i = some i))
    ·simp only []; omega
  ·intro hc
   refine chainT.p ?_
   refine chainT.nil ?_
   refine AWT.c2 ?_ ?_
   ·intro h13
    refine AWT.rtU ?_
    refine .inr ⟨ps.getD (2 * (i : Int) + 1).toNat Pob.null,?_⟩
    have hf : findE key (pairsOf ps) = (0,ps.getD (2 * (i : Int) + 1).toNat Pob.null):=by rw [he,hst,if_pos (Classical.not_not.1 hc)]
    exact ⟨hf,rfl⟩
   ·intro h13
    simp at h13
 ·intro h6
  refine AWT.exit ?_
  simp only [andThen,unblock,if_true]
  refine wkU ?_
  rw [he,findE_end (by omega)]
  exact .inl rfl
end Go.Proofs

namespace Go.Proofs
open Go Aw
set_option linter.unusedSimpArgs false
set_option linter.unusedVariables false
set_option maxRecDepth 100000
set_option maxHeartbeats 4000000
theorem c_names_down (gl : List (Nat × AV)) (d : Dc) (l : List Pob) (key : List UInt8) (h : d.bulk ≤ 16777216:=by first | omega | exact u8_le _ | assumption | (simp; done) | (simp; omega)) (hl : l.length ≤ 16777216:=by first | omega | exact u8_le _ | assumption | (simp; done) | (simp; omega)) (hb : ∀ i,i < l.length → (l.getD i Pob.null).bulk ≤ 16777216) : FnP Tryz.prog (gl) 34 [.agg d.cells,.sl (objsAV l),.str key] fun r=>r = if decide ((downO d key l).1 = 0) = true then .ret (.agg (downO d key l).2.cells) else .panic (.iface 105 (.int .i64 (downO d key l).1)):=by
 refine FnP.intro Tryz.func34 rfl rfl (by simp [Tryz.ntmps34]) ?_
 simp only [argEnv,Tryz.ntmps34,Tryz.results34]
 refine AW.rS ?_
 refine AW.trim [1,2,3,6] ?_
 refine AW.seq ?_
 refine AW.rS ?_
 refine AW.trim [2,3,6,11,12,13] ?_
 refine AW.block ?_
 refine AW.lk (S:={ k : Nat // k ≤ l.length ∧ downO d key l = downO d key (l.drop k) }) [2,3,6,11,12] (fun s_=>[(13,.int .i64 s_.1)]) (fun s_=>[(0,.cells d.cells),(1,.cells [.int .i64 0,.int .i64 0,.int .i64 0,.str [],.raw (.slice none 0 0),.raw (.slice none 0 0)])]) 2 (fun s_=>l.length - s_.1) ⟨0,Nat.zero_le _,by simp⟩ ?_ ?_
 ·refine St.le.vw [0,1]
 rintro ⟨k,hk,he⟩
 try dsimp only at hk
 try dsimp only at he
 refine AW.rS ?_
 refine AW.trim [2,3,6,11,12,13,14] ?_
 refine AW.seq ?_
 refine AW.c2 ?_ ?_
 ·intro h8
  have hk2 : k < l.length:=by omega
  have hbk:=hb k hk2
  have hst:=down_step (d:=d) (key:=key) hk2
  refine AW.skip ?_
  refine AW.seq ?_
  refine AW.block ?_
  refine AW.rS ?_
  refine AW.trim [2,3,6,8,11,12,13] ?_
  refine AW.rSC ?_
  refine awOps.cons (awGuard.cM (c_names_limits _ d (l.getD k Pob.null)) ?_ ?_)
  ·intro hp14
   refine wk ?_
   rw [he,hst,if_neg hp14] <;> rfl
  intro hm14
  refine awOps.rn ?_
  refine AW.trim [2,3,6,8,9,10,11,12,13] ?_
  refine AW.rS ?_
  refine AW.trim [2,3,6,8,11,12,13,30] ?_
  refine AW.c2 ?_ ?_
  ·intro h17
   refine AW.rS ?_
   refine AW.trim [6] ?_
   refine AW.rt ?_
   rw [he,hst,if_pos hm14,if_pos (le_both.2 h17)]
   rfl
  ·intro h17
   refine AW.skip ?_
   refine AW.rL ?_
   refine ⟨⟨k + 1,by omega,by rw [he,hst,if_pos hm14,if_neg (fun hh=>h17.elim (fun h=>(le_both.1 hh).1.elim (fun e=>by rw [h.1] at e; cases e) h.2) (fun h=>(le_both.1 hh).2.elim (fun e=>by rw [h.1] at e; cases e) h.2))]⟩,?_,?_⟩
   ·refine St.le.vw [0,1]
   ·simp only []; omega
 ·intro h8
  refine AW.exit ?_
  refine AW.rLC ?_
  refine awOps.cons (awGuard.pn ?_)
  refine wk ?_
  rw [he,down_end (by omega)] <;> rfl
attribute [local go_sem] En.cells entsAV_length
theorem c_names_Find (gl : List (Nat × AV)) (d : Dc) (o : Pob) (key : List UInt8) (h : d.bulk ≤ 16777216) (ho : o.bulk ≤ 16777216) :
  FnP Tryz.prog gl 12 [.agg d.cells,.agg o.cells,.str key] fun r=>r = .ret (.tup [.agg (findN d o key).2.cells,.int .i64 (findN d o key).1]):=by
 refine FnP.introN Tryz.func12 rfl rfl (by simp [Tryz.ntmps12]) ?_
 simp only [argEnv,Tryz.ntmps12,Tryz.results12,Dc.cells,Pob.cells_eq]
 refine AW.rL ?_
 refine ⟨rfl,?_⟩
 refine AW.dfL ?_
 refine ⟨rfl,fun n_ ds_=>?_⟩
 refine AWT.rSC ?_
 refine OpsT.cs (awGuard.cM (c_names_there _ d o h ho) ?_ ?_)
 ·intro hC
  refine finD_pan ?_
  refine LeaveS.c1 [4] (d_face_pan _ _) ?_
  refine LeaveS.rt Tryz.results12 ?_
  rw [findN_there hC]
  rfl
 intro hC
 refine OpsT.rn ?_
 refine OpsT.nil ?_
 refine AWT.trim [3,4,5,6,7] ?_
 refine AWT.rS ?_
 refine AWT.block ?_
 have hfn:=findN_ok (key:=key) hC
 rw [hfn]
 refine AWT.lk (S:={ s : Nat × Pob // s.1 ≤ 24 ∧ s.2.bulk ≤ 16777216 ∧ findT d key 24 o = findT d key (24 - s.1) s.2 }) [3,4,5,6,7] (fun s_=>[(8,.int .i64 (s_.1.1 : Int))]) (fun s_=>[(0,.cells [.sl (itemsAV d.items),.int .i64 d.trailer.kind,.int .i64 d.trailer.num,.int .i64 d.trailer.gen,.str d.trailer.str,.sl (strsAV d.trailer.keys),.sl (objsAV d.trailer.kids)]),(1,.cells [.int .i64 s_.1.2.kind,.int .i64 s_.1.2.num,.int .i64 s_.1.2.gen,.str s_.1.2.str,.sl (strsAV s_.1.2.keys),.sl (objsAV s_.1.2.kids)]),(2,.cells [.str key]),(3,.cells [.int .i64 0,.int .i64 0,.int .i64 0,.str [],.raw (.slice none 0 0),.raw (.slice none 0 0)]),(4,.cells [.int .i64 0])]) 5 (fun s_=>24 - s_.1.1) ⟨(0,o),Nat.zero_le _,ho,rfl⟩ ?_ ?_
 ·exact St.le.vw [0,1,2,3,4] (hpre:=(by decide : ∀ i,i < 0 → nth [0,1,2,3,4] i = some i))
 rintro ⟨⟨k,q⟩,hk,hqb,hst⟩
 try dsimp only at hk
 try dsimp only at hqb
 try dsimp only at hst
 have hqf:=follow_bulk h hqb
 refine AWT.seq ?_
 refine AWT.block ?_
 refine AWT.rSC ?_
 refine OpsT.cs (awGuard.cM (c_names_must _ _ 7) ?_ ?_)
 ·intro hD
  simp only [andThen_pan,unblock_pan]
  refine finD_pan ?_
  refine LeaveS.c1 [4] (d_face_pan _ _) ?_
  refine LeaveS.rt Tryz.results12 ?_
  rw [hst,show 24 - k = 0 from by omega,findT]
  rfl
 intro hD
 have hk24 : 24 - k = (24 - (k + 1)) + 1:=by omega
 rw [hk24] at hst
 refine OpsT.rn ?_
 refine OpsT.nil ?_
 refine AWT.rSC ?_
 refine OpsT.cs (awGuard.cM (c_names_of _ d q h hqb) ?_ ?_)
 ·intro hE
  simp only [andThen_pan,unblock_pan]
  refine finD_pan ?_
  refine LeaveS.c1 [4] (d_face_pan _ _) ?_
  refine LeaveS.rt Tryz.results12 ?_
  rw [hst,find_name hE]
  rfl
 intro hE
 refine OpsT.rn ?_
 refine OpsT.nil ?_
 refine AWT.trim [3,4,5,6,7,8,9] ?_
 have hpl:=npairs_le h hqf
 have hpe:=npairs_even (d:=d) (q:=followO d q)
 have hkl:=nkids_le h hqf
 have hlo:=find_low (d:=d) (key:=key) (k:=24 - (k + 1)) (o:=q)
 have hhi:=find_high (d:=d) (key:=key) (k:=24 - (k + 1)) (o:=q)
 generalize hps : npairs d (followO d q) = ps at *
 generalize hks : nkids d (followO d q) = ks at *
 refine AWT.seq ?_
 refine AWT.rS ?_
 refine AWT.c2 ?_ ?_
 ·intro h20
  have hnl : ¬ lowB d (followO d q):=by simpa using h20
  have hhi2:=hhi (hE.resolve_left hnl) hnl
  rw [hhi2] at hst
  refine AWT.rSC ?_
  refine OpsT.cs (awGuard.cM (c_names_down _ d ks key h hkl.1 hkl.2) ?_ ?_)
  ·intro hF
   simp only [andThen_pan,unblock_pan]
   refine finD_pan ?_
   refine LeaveS.c1 [4] (d_face_pan _ _) ?_
   refine LeaveS.rt Tryz.results12 ?_
   rw [hst,if_pos hF]
   rfl
  intro hF
  rw [if_neg (by rw [hF]; simp)] at hst
  obtain ⟨ix,hix,hxe⟩:=down_mem d key ks hF
  have hdb : (downO d key ks).2.bulk ≤ 16777216:=by rw [hxe]; exact hkl.2 ix hix
  refine OpsT.rn ?_
  refine OpsT.nil ?_
  refine AWT.exit ?_
  simp only [andThen,unblock,if_true]
  refine AWT.rL ?_
  refine ⟨⟨(k + 1,(downO d key ks).2),by omega,hdb,hst⟩,?_,?_⟩
  ·exact St.le.vw [0,1,2,3,4] (hpre:=(by decide : ∀ i,i < 0 → nth [0,1,2,3,4] i = some i))
  ·simp only []; omega
 ·intro h20
  have hl : lowB d (followO d q):=by simpa using h20
  rw [hlo hl] at hst
  rw [decide_eq_true hl]
  generalize true = low
  refine AWT.skip ?_
  refine AWT.seq ?_
  refine AWT.rSC ?_
  refine OpsT.cs (awGuard.cH [] (h_node_entries _ ps ks low) ?_)
  refine OpsT.rn ?_
  refine OpsT.nil ?_
  refine AWT.block ?_
  refine AWT.rP (f0:=12) (fnc:=Tryz.f12) rfl Tryz.func12 [2,3,4,6] [] [(5,.ptr 0 0),(6,.ptr 1 0),(7,.ptr 2 0)] (fun j hp' nx'=>(j = none ∧ findE key (pairsOf ps) = (8,Pob.null) ∧ (∃ lq rl,hp' = [(0,.cells [.str key]),(1,.cells [.int .i64 0,.int .i64 0,.int .i64 0,.str [],.raw (.slice none 0 0),.raw (.slice none 0 0)]),(2,.cells [.int .i64 0]),(3,.cells [.sl (objsAV ps),.sl (objsAV ks),.bool low]),(4,.lp lq rl)]) ∧ nx' = 5) ∨ (j = some .ret ∧ ∃ v,findE key (pairsOf ps) = (0,v) ∧ (∃ lq rl,hp' = [(0,.cells [.str key]),(1,.cells (Pob.cells v)),(2,.cells [.int .i64 0]),(3,.cells [.sl (objsAV ps),.sl (objsAV ks),.bool low]),(4,.lp lq rl)]) ∧ nx' = 5)) (Rp:=fun _=>False) (xs:=[.ptr 3 0]) (hp0:=[(0,.cells [.str key]),(1,.cells [.int .i64 0,.int .i64 0,.int .i64 0,.str [],.raw (.slice none 0 0),.raw (.slice none 0 0)]),(2,.cells [.int .i64 0]),(3,.cells [.sl (objsAV ps),.sl (objsAV ks),.bool low])]) ?hit ?hKp ?hK
  case hit =>
   intro Ω hΩ lq rb rc hr
   refine (ent_find gl key ps ks low lq rc hpl hpe (fun x=>?_)).mono (fun q hp nx hh=>?_)
   ·simp only [Pob.cells_eq]
    refine hr [_] _ 5 _ rfl rfl ?_
    intro b_
    refine AWT.rL ?_
    refine ⟨rfl,rfl,?_⟩
    refine AWT.block ?_
    refine AWT.rS ?_
    refine AWT.c2 ?_ ?_
    ·intro hq
     refine AWT.rS ?_
     refine AWT.ret ?_
     simp only [unblock_ret]
     refine rdU (some .ret) [(0,.cells [.str key]),(1,.cells [.int .i64 x.val.kind,.int .i64 x.val.num,.int .i64 x.val.gen,.str x.val.str,.sl (strsAV x.val.keys),.sl (objsAV x.val.kids)]),(2,.cells [.int .i64 0]),(3,.cells [.sl (objsAV ps),.sl (objsAV ks),.bool low]),(4,.lp lq rb)] 5 ?_ (.inr ⟨fun h=>h hq,rfl,rfl,rfl⟩)
     exact St.le.vw [0,1,2,3,4] (hpre:=(by decide : ∀ i,i < 5 → nth [0,1,2,3,4] i = some i))
    ·intro hq
     refine AWT.skip ?_
     simp only [unblock]
     refine rdU none [(0,.cells [.str key]),(1,.cells [.int .i64 0,.int .i64 0,.int .i64 0,.str [],.raw (.slice none 0 0),.raw (.slice none 0 0)]),(2,.cells [.int .i64 0]),(3,.cells [.sl (objsAV ps),.sl (objsAV ks),.bool low]),(4,.lp lq rb)] 5 ?_ (.inl ⟨hq,rfl,rfl,rfl⟩)
     exact St.le.vw [0,1,2,3,4] (hpre:=(by decide : ∀ i,i < 5 → nth [0,1,2,3,4] i = some i))
   ·rcases hh with ⟨he,rfl,rfl,rfl⟩ | ⟨v,he,rfl,rfl,rfl⟩
    ·exact .inl ⟨⟨_,rfl⟩,none,rfl,.inl ⟨rfl,he,⟨_,_,rfl⟩,rfl⟩⟩
    ·exact .inl ⟨⟨_,rfl⟩,some .ret,rfl,.inr ⟨rfl,v,he,⟨_,_,rfl⟩,rfl⟩⟩
  case hKp =>
   intro x N hN hF
   exact hF.elim
  case hK =>
   rintro j hp' nx' (⟨rfl,he,⟨lq,rl,rfl⟩,rfl⟩ | ⟨rfl,v,he,⟨lq,rl,rfl⟩,rfl⟩)
   ·refine ⟨by simp only [go_sem,seval],?_⟩
    simp only [andThen,unblock]
    refine AWT.trim [6,7] ?_
    refine AWT.rS ?_
    refine AWT.ret ?_
    simp only [andThen_ret,unblock_ret,finD_ret]
    refine LeaveS.c1 [4] (d_face_ret _ 8) ?_
    refine LeaveS.rt Tryz.results12 ?_
    rw [hst,he]
    rfl
   ·refine ⟨by simp only [go_sem,seval],?_⟩
    refine AWT.ret ?_
    simp only [andThen_ret,unblock_ret,finD_ret]
    refine LeaveS.c1 [4] (d_face_ret _ 0) ?_
    refine LeaveS.rt Tryz.results12 ?_
    rw [hst,he]
end Go.Proofs

namespace Aw
open Go
def esum (l : List En) : Nat:=(l.map fun e=>e.val.bulk + 3).sum
theorem esum_append (a b : List En) : esum (a ++ b) = esum a + esum b:=by simp [esum]
theorem ebulk_esum (l : List En) : ebulk l ≤ esum l:=by
 induction l with
 | nil=>exact Nat.le_refl _
 | cons x l ih =>
  simp only [ebulk,esum,List.map_cons,List.sum_cons] at ih ⊢
  omega
theorem len_esum (l : List En) : 3 * l.length ≤ esum l:=by
 induction l with
 | nil=>exact Nat.le_refl _
 | cons x l ih =>
  simp only [esum,List.map_cons,List.sum_cons,List.length_cons] at ih ⊢
  omega
theorem pairsP_bulk (l : List En) : (arrO (pairsP l)).bulk ≤ esum l + 1:=by
 have h : (pairsP l).length + bulks (pairsP l) ≤ esum l:=by
  induction l with
  | nil=>exact Nat.le_refl _
  | cons x l ih =>
   have e : pairsP (x :: l) = strO x.key :: x.val :: pairsP l:=rfl
   rw [e]
   have hs : (strO x.key).bulk = 1:=by simp [strO,Pob.bulk,bulks]
   simp only [bulks,esum,List.map_cons,List.sum_cons,List.length_cons,hs] at ih ⊢
   omega
 simp only [arrO,Pob.bulk,List.length_nil]
 omega
theorem refsP_bulk (l : List Gr) : (arrO (refsP l)).bulk ≤ 2 * l.length + 1:=by
 have h : (refsP l).length + bulks (refsP l) ≤ 2 * l.length:=by
  induction l with
  | nil=>exact Nat.le_refl _
  | cons x l ih =>
   have e : refsP (x :: l) = refO x.num 0 :: refsP l:=rfl
   rw [e]
   have hs : (refO x.num 0).bulk = 1:=by simp [refO,Pob.bulk,bulks]
   simp only [bulks,List.length_cons,hs] at ih ⊢
   omega
 simp only [arrO,Pob.bulk,List.length_nil]
 omega
theorem take_part {α : Type} (l : List α) (fan k : Nat) : l.take ((k + 1) * fan) = l.take (k * fan) ++ partL l fan k:=by
 rw [partL,Nat.succ_mul,List.take_add]
theorem part_len {α : Type} (l : List α) (fan k : Nat) : (partL l fan k).length = min fan (l.length - k * fan):=by simp [partL]
theorem addB_bulk (s : BS) (low : Bool) (l : List Pob) (lo hi : List UInt8) (lim : Bool) : (addB s low l lo hi lim).d.bulk ≤ s.d.bulk + (arrO l).bulk + 11:=by
 rw [addB]
 split
 ·omega
 ·split
  ·show s.d.bulk ≤ _; omega
  ·show (addO s.d (nodeO low l lo hi lim)).bulk ≤ _
   have h1:=addO_bulk s.d (nodeO low l lo hi lim)
   have h2:=node_bulk low l lo hi lim
   omega
theorem addB_err {s : BS} {low : Bool} {l : List Pob} {lo hi : List UInt8} {lim : Bool} (h : s.err ≠ 0) : addB s low l lo hi lim = s:=by rw [addB,if_pos h]
theorem addB_ok {s : BS} {low : Bool} {l : List Pob} {lo hi : List UInt8} {lim : Bool} (h : s.err = 0) (h2 : addE s.d (nodeO low l lo hi lim) = 0) : addB s low l lo hi lim = ⟨0,addO s.d (nodeO low l lo hi lim),s.row ++ [⟨addN s.d (nodeO low l lo hi lim),lo,hi⟩]⟩:=by
 rw [addB,if_neg (by rw [h]; simp),if_neg (by rw [h2]; simp)]
theorem addB_bad {s : BS} {low : Bool} {l : List Pob} {lo hi : List UInt8} {lim : Bool} (h : s.err = 0) (h2 : addE s.d (nodeO low l lo hi lim) ≠ 0) : (addB s low l lo hi lim).err = addE s.d (nodeO low l lo hi lim):=by
 rw [addB,if_neg (by rw [h]; simp),if_pos h2]
def numsOk (r : List Gr) : Prop:=∀ g ∈ r,-9223372036854775808 ≤ g.num ∧ g.num ≤ 9223372036854775807
theorem addB_nums {s : BS} {low : Bool} {l : List Pob} {lo hi : List UInt8} {lim : Bool} (h : numsOk s.row) : numsOk (addB s low l lo hi lim).row:=by
 rw [addB]
 split
 ·exact h
 ·split
  ·exact h
  ·intro g hg
   rcases List.mem_append.1 hg with hg | hg
   ·exact h g hg
   ·simp only [List.mem_singleton] at hg
    subst hg
    have:=addN_range s.d (nodeO low l lo hi lim)
    exact ⟨by show _ ≤ addN _ _; omega,by show addN _ _ ≤ _; omega⟩
theorem addB_len (s : BS) (low : Bool) (l : List Pob) (lo hi : List UInt8) (lim : Bool) : (addB s low l lo hi lim).row.length ≤ s.row.length + 1:=by
 rw [addB]
 split
 ·omega
 ·split
  ·show s.row.length ≤ _; omega
  ·simp
theorem leaves_stop {d : Dc} {l : List En} {fan i : Nat} (h : (leavesB d l fan i).err ≠ 0) : ∀ k,i ≤ k → leavesB d l fan k = leavesB d l fan i
 | 0,hk=>by rw [Nat.le_zero.1 hk]
 | k + 1,hk=>by
  rcases Nat.lt_or_ge i (k + 1) with hlt | hge
  ·have:=leaves_stop h k (by omega)
   rw [leavesB,this,addB_err h]
  ·rw [Nat.le_antisymm hk hge]
theorem above_stop {d : Dc} {r : List Gr} {fan i : Nat} (h : (aboveB d r fan i).err ≠ 0) : ∀ k,i ≤ k → aboveB d r fan k = aboveB d r fan i
 | 0,hk=>by rw [Nat.le_zero.1 hk]
 | k + 1,hk=>by
  rcases Nat.lt_or_ge i (k + 1) with hlt | hge
  ·have:=above_stop h k (by omega)
   rw [aboveB,this,addB_err h]
  ·rw [Nat.le_antisymm hk hge]
theorem leaves_bulk (d : Dc) (l : List En) (fan : Nat) : ∀ k,(leavesB d l fan k).d.bulk ≤ d.bulk + esum (l.take (k * fan)) + 12 * k
 | 0=>by show d.bulk ≤ _; omega
 | k + 1=>by
  rw [leavesB,take_part,esum_append]
  have h1:=leaves_bulk d l fan k
  have h2:=addB_bulk (leavesB d l fan k) true (pairsP (partL l fan k)) ((partL l fan k).getD 0 En.zero).key ((partL l fan k).getD ((partL l fan k).length - 1) En.zero).key true
  have h3:=pairsP_bulk (partL l fan k)
  omega
theorem above_bulk (d : Dc) (r : List Gr) (fan : Nat) : ∀ k,(aboveB d r fan k).d.bulk ≤ d.bulk + 2 * (r.take (k * fan)).length + 12 * k
 | 0=>by show d.bulk ≤ _; omega
 | k + 1=>by
  rw [aboveB,take_part,List.length_append]
  have h1:=above_bulk d r fan k
  have h2:=addB_bulk (aboveB d r fan k) false (refsP (partL r fan k)) ((partL r fan k).getD 0 Gr.zero).lo ((partL r fan k).getD ((partL r fan k).length - 1) Gr.zero).hi true
  have h3:=refsP_bulk (partL r fan k)
  omega
theorem leaves_nums (d : Dc) (l : List En) (fan : Nat) : ∀ k,numsOk (leavesB d l fan k).row
 | 0=>by intro g hg; cases hg
 | k + 1=>by rw [leavesB]; exact addB_nums (leaves_nums d l fan k)
theorem above_nums (d : Dc) (r : List Gr) (fan : Nat) : ∀ k,numsOk (aboveB d r fan k).row
 | 0=>by intro g hg; cases hg
 | k + 1=>by rw [aboveB]; exact addB_nums (above_nums d r fan k)
theorem leaves_len (d : Dc) (l : List En) (fan : Nat) : ∀ k,(leavesB d l fan k).row.length ≤ k
 | 0=>Nat.le_refl _
 | k + 1=>by
  rw [leavesB]
  have h1:=leaves_len d l fan k
  have h2:=addB_len (leavesB d l fan k) true (pairsP (partL l fan k)) ((partL l fan k).getD 0 En.zero).key ((partL l fan k).getD ((partL l fan k).length - 1) En.zero).key true
  omega
theorem above_len (d : Dc) (r : List Gr) (fan : Nat) : ∀ k,(aboveB d r fan k).row.length ≤ k
 | 0=>Nat.le_refl _
 | k + 1=>by
  rw [aboveB]
  have h1:=above_len d r fan k
  have h2:=addB_len (aboveB d r fan k) false (refsP (partL r fan k)) ((partL r fan k).getD 0 Gr.zero).lo ((partL r fan k).getD ((partL r fan k).length - 1) Gr.zero).hi true
  omega
theorem parts_le {n fan : Nat} (hf : 2 ≤ fan) : partsN n fan ≤ (n + 1) / 2:=upN_le hf
theorem parts_more {n fan i : Nat} (hf : 0 < fan) : i < partsN n fan ↔ i * fan < n:=by
 rw [partsN,Nat.lt_div_iff_mul_lt hf]
 omega
theorem climb_err {fan k : Nat} {s : BS} (h : s.err ≠ 0) : climbB fan k s = s:=by
 cases k with
 | zero=>rfl
 | succ k=>rw [climbB,if_pos h]
theorem climb_low {fan k : Nat} {s : BS} (h : s.row.length ≤ fan) : climbB fan k s = s:=by
 cases k with
 | zero=>rfl
 | succ k =>
  rw [climbB]
  split
  ·rfl
  ·first | rfl | rw [if_pos h]
theorem climb_step {fan k : Nat} {s : BS} (h : s.err = 0) (hl : ¬ s.row.length ≤ fan) : climbB fan (k + 1) s = climbB fan k (aboveB s.d s.row fan (partsN s.row.length fan)):=by
 rw [climbB,if_neg (by rw [h]; simp),if_neg hl]
end Aw

namespace Aw
open Go Go.RowKit Go.WideShapes Go.ChangeShapes
def En.tot (e : En) : Nat:=e.key.length + e.val.tot + 2
def En.wf (e : En) : Prop:=e.val.wf
section
variable {H : Type} {enc : TypeId × Value → H} {P : Program} {W : World} {tO tI tL tS tKs tOs tE tEs : TypeId}
end
end Aw

namespace Aw
open Go
def bothB (n : Pob) : Bool:=getB n kidsK && getB n namesK
def flwB (d : Dc) (n : Pob) (key : List UInt8) : Bool:=getB n key && decide ((atO d n key).kind = 6)
def shK (d : Dc) (n : Pob) : Pob:=if n.kind ≠ 7 then Pob.null else if bothB n = true then Pob.null else atO d n kidsK
def shN (d : Dc) (n : Pob) : Pob:=if n.kind ≠ 7 then Pob.null else if bothB n = true then Pob.null else atO d n namesK
def shI (d : Dc) (n : Pob) : Bool:=if n.kind ≠ 7 then false else if bothB n = true then true else flwB d n kidsK
def shH (d : Dc) (n : Pob) : Bool:=if n.kind ≠ 7 then false else if bothB n = true then true else flwB d n namesK
theorem sh_kind {d : Dc} {n : Pob} (h : n.kind ≠ 7) : shK d n = Pob.null ∧ shI d n = false ∧ shN d n = Pob.null ∧ shH d n = false:=⟨by rw [shK,if_pos h],by rw [shI,if_pos h],by rw [shN,if_pos h],by rw [shH,if_pos h]⟩
theorem sh_both {d : Dc} {n : Pob} (h : n.kind = 7) (h2 : bothB n = true) : shK d n = Pob.null ∧ shI d n = true ∧ shN d n = Pob.null ∧ shH d n = true:=by
 have h' : ¬ n.kind ≠ 7:=fun hh=>hh h
 exact ⟨by rw [shK,if_neg h',if_pos h2],by rw [shI,if_neg h',if_pos h2],by rw [shN,if_neg h',if_pos h2],by rw [shH,if_neg h',if_pos h2]⟩
theorem sh_one {d : Dc} {n : Pob} (h : n.kind = 7) (h2 : ¬ bothB n = true) : shK d n = atO d n kidsK ∧ shI d n = flwB d n kidsK ∧ shN d n = atO d n namesK ∧ shH d n = flwB d n namesK:=by
 have h' : ¬ n.kind ≠ 7:=fun hh=>hh h
 exact ⟨by rw [shK,if_neg h',if_neg h2],by rw [shI,if_neg h',if_neg h2],by rw [shN,if_neg h',if_neg h2],by rw [shH,if_neg h',if_neg h2]⟩
theorem sh_same {d : Dc} {n : Pob} (h : shI d n = shH d n) : ¬ (lowB d n ∨ highB d n):=by
 rintro (⟨h1,h2,h3,h4,_⟩ | ⟨h1,h2,h3,h4⟩)
 ·have hb : ¬ bothB n = true:=by rw [bothB,h3]; simp
  obtain ⟨_,e1,_,e2⟩:=sh_one (d:=d) h1 hb
  rw [e1,e2,flwB,flwB,h2,h3,h4] at h
  simp at h
 ·have hb : ¬ bothB n = true:=by rw [bothB,h2]; simp
  obtain ⟨_,e1,_,e2⟩:=sh_one (d:=d) h1 hb
  rw [e1,e2,flwB,flwB,h2,h3,h4] at h
  simp at h
theorem sh_cases {d : Dc} {n : Pob} (h : ¬ shI d n = shH d n) : n.kind = 7 ∧ ¬ bothB n = true:=by
 by_cases h1 : n.kind = 7
 ·refine ⟨h1,fun h2=>?_⟩
  obtain ⟨_,e1,_,e2⟩:=sh_both (d:=d) h1 h2
  exact h (e1.trans e2.symm)
 ·obtain ⟨_,e1,_,e2⟩:=sh_kind (d:=d) h1
  exact absurd (e1.trans e2.symm) h
theorem sh_low {d : Dc} {n : Pob} (h : ¬ shI d n = shH d n) (hh : shH d n = true) : shN d n = atO d n namesK ∧ ¬ highB d n ∧ (lowB d n ↔ pairsOk (atO d n namesK).kids):=by
 obtain ⟨h1,h2⟩:=sh_cases h
 obtain ⟨_,e1,e3,e2⟩:=sh_one (d:=d) h1 h2
 rw [e2,flwB,Bool.and_eq_true,decide_eq_true_eq] at hh
 have hk : getB n kidsK = false:=by
  cases hg : getB n kidsK with
  | false=>rfl
  | true=>exact absurd (by rw [bothB,hg,hh.1]; rfl) h2
 exact ⟨e3,(fun hx=>by have:=hx.2.1; rw [hh.1] at this; cases this),(fun hx=>hx.2.2.2.2),(fun hx=>⟨h1,hh.1,hk,hh.2,hx⟩)⟩
theorem sh_high {d : Dc} {n : Pob} (h : ¬ shI d n = shH d n) (hh : ¬ shH d n = true) : shK d n = atO d n kidsK ∧ highB d n ∧ ¬ lowB d n:=by
 obtain ⟨h1,h2⟩:=sh_cases h
 obtain ⟨e3,e1,_,e2⟩:=sh_one (d:=d) h1 h2
 have hi : shI d n = true:=by
  cases hb : shI d n with
  | true=>rfl
  | false =>
   cases hb2 : shH d n with
   | true=>exact absurd hb2 hh
   | false=>exact absurd (hb.trans hb2.symm) h
 rw [e1,flwB,Bool.and_eq_true,decide_eq_true_eq] at hi
 have hn : getB n namesK = false:=by
  cases hg : getB n namesK with
  | false=>rfl
  | true=>exact absurd (by rw [bothB,hg,hi.1]; rfl) h2
 exact ⟨e3,⟨h1,hn,hi.1,hi.2⟩,(fun hx=>by have:=hx.2.1; rw [hn] at this; cases this)⟩
def limSt (b : Prop) [Decidable b] (s : List UInt8) : List UInt8:=if b then s else []
def withinO (l : List Pob) (key : List UInt8) : Int × Pob:=if pairsOk l then findE key (pairsOf l) else (25,Pob.null)
def keysS (ps : List Pob) (n : Nat) (l : List En) : TS:=if pairsOk ps then (pairsOf ps).foldl addT ⟨0,n,l⟩ else ⟨25,n,l⟩
theorem find_has {d : Dc} {key : List UInt8} {k : Nat} {o : Pob} (h : ¬ shI d (followO d o) = shH d (followO d o)) (hh : shH d (followO d o) = true) : findT d key (k + 1) o = withinO (shN d (followO d o)).kids key:=by
 obtain ⟨e,hn,hl⟩:=sh_low h hh
 rw [e,withinO]
 by_cases hp : pairsOk (atO d (followO d o) namesK).kids
 ·rw [if_pos hp,findT,if_pos (hl.2 hp)]
 ·rw [if_neg hp,find_name (fun hx=>hx.elim (fun hx=>hp (hl.1 hx)) hn)]
theorem thru_has {d : Dc} {k nodes : Nat} {o : Pob} {l : List En} {e : Int} (hn : ¬ 4096 ≤ nodes) (h : ¬ shI d (followO d o) = shH d (followO d o)) (hh : shH d (followO d o) = true) : thru d (k + 1) o ⟨e,nodes,l⟩ = keysS (shN d (followO d o)).kids (nodes + 1) l:=by
 obtain ⟨e1,hnh,hl⟩:=sh_low h hh
 rw [e1,keysS]
 by_cases hp : pairsOk (atO d (followO d o) namesK).kids
 ·rw [if_pos hp,thru,if_neg hn,if_pos (hl.2 hp)]
 ·rw [if_neg hp,thru_name hn (fun hx=>hx.elim (fun hx=>hp (hl.1 hx)) hnh)]
theorem thru_kids {d : Dc} {k nodes : Nat} {o : Pob} {l : List En} {e : Int} (hn : ¬ 4096 ≤ nodes) (h : ¬ shI d (followO d o) = shH d (followO d o)) (hh : ¬ shH d (followO d o) = true) : thru d (k + 1) o ⟨e,nodes,l⟩ = (shK d (followO d o)).kids.foldl (kstep d k) ⟨0,nodes + 1,l⟩:=by
 obtain ⟨e1,hh2,hl⟩:=sh_high h hh
 rw [e1,thru,if_neg hn,if_neg hl,if_pos hh2]
 rfl
theorem find_kids2 {d : Dc} {key : List UInt8} {k : Nat} {o : Pob} (h : ¬ shI d (followO d o) = shH d (followO d o)) (hh : ¬ shH d (followO d o) = true) : findT d key (k + 1) o = if (downO d key (shK d (followO d o)).kids).1 ≠ 0 then ((downO d key (shK d (followO d o)).kids).1,Pob.null) else findT d key k (downO d key (shK d (followO d o)).kids).2:=by
 obtain ⟨e1,hh2,hl⟩:=sh_high h hh
 rw [e1,findT,if_neg hl,if_pos hh2]
end Aw

namespace Go.Proofs
open Go Aw
set_option linter.unusedSimpArgs false
set_option linter.unusedVariables false
set_option maxRecDepth 100000
set_option maxHeartbeats 4000000
theorem c_foliantref37_followed (gl : List (Nat × AV)) (d : Dc) (o : Pob) (key : List UInt8) (h : d.bulk ≤ 16777216:=by first | omega | exact u8_le _ | assumption | (simp; done) | (simp; omega)) (ho : o.bulk ≤ 16777216:=by first | omega | exact u8_le _ | assumption | (simp; done) | (simp; omega)) : FnP Tryz.prog (gl) 66 [.agg d.cells,.agg o.cells,.str key] fun r=>r = .ret (.tup [.agg (atO d o key).cells,.bool (flwB d o key)]):=by
 refine FnP.intro Tryz.func66 rfl rfl (by simp [Tryz.ntmps66]) ?_
 simp only [argEnv,Tryz.ntmps66,Tryz.results66]
 have hat : followO d (getO o key) = atO d o key:=rfl
 refine AW.rS ?_
 refine AW.trim [2,3,4,6] ?_
 refine AW.rSC ?_
 refine awOps.cons (awGuard.c1 (c_foliantref05_Get _ o key ho) ?_)
 refine awOps.rn ?_
 refine AW.trim [3,6,8,9] ?_
 refine AW.rSC ?_
 refine awOps.cons (awGuard.c1 (c_foliantref19_Follow _ d (getO o key) h) ?_)
 refine awOps.rn ?_
 refine AW.trim [6,8,9] ?_
 refine AW.tG (σf:=?sf3) (.take 1 0 (.take 2 0 (.take 3 0 (.fork 0 (.fork 4 (.take 5 0 (.take 6 0 (.fork 7 (.take 8 0 .done) .stop))) (.fork 7 (.fork 4 (.take 5 0 (.take 6 0 (.take 8 0 .done))) .stop) .stop)) (.fork 4 (.take 5 0 (.take 6 0 (.fork 0 (.fork 7 (.take 8 0 .done) .stop) .stop))) .stop))))) ?tree3 ?rest3
 case tree3 =>
  refine awTree.tk ?_
  refine awTree.tk ?_
  refine awTree.tk ?_
  refine awTree.fA ?_ ?_
  ·refine awTree.fA ?_ ?_
   ·refine awTree.tk ?_
    refine awTree.tk ?_
    refine awTree.fA ?_ trivial
    refine awTree.tk ?_
    exact awTree.dn
   ·refine awTree.fA ?_ trivial
    refine awTree.fA ?_ trivial
    refine awTree.tk ?_
    refine awTree.tk ?_
    refine awTree.tk ?_
    exact awTree.dn
  ·refine awTree.fA ?_ trivial
   refine awTree.tk ?_
   refine awTree.tk ?_
   refine awTree.fA ?_ trivial
   refine awTree.fA ?_ trivial
   refine awTree.tk ?_
   exact awTree.dn
 case rest3 =>
 refine AW.trim [6,7] ?_
 refine AW.rt ?_
 rw [hat,flwB]
 cases getB o key <;> rfl
theorem c_foliantref37_shape (gl : List (Nat × AV)) (d : Dc) (n : Pob) (h : d.bulk ≤ 16777216:=by first | omega | exact u8_le _ | assumption | (simp; done) | (simp; omega)) (hn : n.bulk ≤ 16777216:=by first | omega | exact u8_le _ | assumption | (simp; done) | (simp; omega)) : FnP Tryz.prog (gl) 36 [.agg d.cells,.agg n.cells] fun r=>r = .ret (.tup [.agg (shK d n).cells,.bool (shI d n),.agg (shN d n).cells,.bool (shH d n)]):=by
 refine FnP.intro Tryz.func36 rfl rfl (by simp [Tryz.ntmps36]) ?_
 simp only [argEnv,Tryz.ntmps36,Tryz.results36]
 refine AW.rS ?_
 refine AW.trim [2,3,4,6] ?_
 refine AW.seq ?_
 refine AW.rS ?_
 refine AW.trim [2,3,4,6,18] ?_
 refine AW.c2 ?_ ?_
 ·intro h4
  refine AW.rS ?_
  refine AW.trim [4,5,6,7] ?_
  refine AW.rt ?_
  obtain ⟨e1,e2,e3,e4⟩:=sh_kind (d:=d) h4
  rw [e1,e2,e3,e4]
  rfl
 ·intro h4
  refine AW.skip ?_
  refine AW.rSC ?_
  refine awOps.cons (awGuard.c1 (c_foliantref05_Get _ n kidsK hn) ?_)
  refine awOps.rn ?_
  refine AW.trim [2,3,4,6,9] ?_
  refine AW.rSC ?_
  refine awOps.cons (awGuard.c1 (c_foliantref05_Get _ n namesK hn) ?_)
  refine awOps.rn ?_
  refine AW.trim [2,3,4,6,9,11] ?_
  refine AW.seq ?_
  refine AW.rS ?_
  refine AW.trim [2,3,4,6,34] ?_
  refine AW.c2 ?_ ?_
  ·intro h17
   refine AW.rS ?_
   refine AW.trim [4,5,6,7] ?_
   refine AW.rt ?_
   obtain ⟨e1,e2,e3,e4⟩:=sh_both (d:=d) (n:=n) (by simpa using h4) (by rw [bothB,h17.1,h17.2]; rfl)
   rw [e1,e2,e3,e4]
   rfl
  ·intro h17
   refine AW.skip ?_
   refine AW.rSC ?_
   refine awOps.cons (awGuard.c1 (c_foliantref37_followed _ d n kidsK) ?_)
   refine awOps.rn ?_
   refine AW.trim [2,3,4,6,12,13] ?_
   refine AW.rSC ?_
   refine awOps.cons (awGuard.c1 (c_foliantref37_followed _ d n namesK) ?_)
   refine awOps.rn ?_
   refine AW.trim [4,6,12,13,14,15] ?_
   refine AW.tG (σf:=?sf9) (.take 1 0 (.take 3 0 (.fork 0 (.fork 2 (.fork 4 (.take 5 0 (.fork 6 (.take 7 0 .done) .stop)) .stop) (.fork 4 (.take 5 0 (.fork 2 (.fork 6 (.take 7 0 .done) .stop) .stop)) .stop)) (.fork 2 (.fork 0 (.fork 4 (.take 5 0 (.fork 6 (.take 7 0 .done) .stop)) .stop) .stop) .stop)))) ?tree9 ?rest9
   case tree9 =>
    refine awTree.tk ?_
    refine awTree.tk ?_
    refine awTree.fA ?_ ?_
    ·refine awTree.fA ?_ ?_
     ·refine awTree.fA ?_ trivial
      refine awTree.tk ?_
      refine awTree.fA ?_ trivial
      refine awTree.tk ?_
      exact awTree.dn
     ·refine awTree.fA ?_ trivial
      refine awTree.tk ?_
      refine awTree.fA ?_ trivial
      refine awTree.fA ?_ trivial
      refine awTree.tk ?_
      exact awTree.dn
    ·refine awTree.fA ?_ trivial
     refine awTree.fA ?_ trivial
     refine awTree.fA ?_ trivial
     refine awTree.tk ?_
     refine awTree.fA ?_ trivial
     refine awTree.tk ?_
     exact awTree.dn
   case rest9 =>
   refine AW.trim [4,5,6,7] ?_
   refine AW.rt ?_
   obtain ⟨e1,e2,e3,e4⟩:=sh_one (d:=d) (n:=n) (by simpa using h4) (by rw [bothB]; rcases h17 with h | h <;> rw [h] <;> simp)
   rw [e1,e2,e3,e4]
theorem limB_flw {d : Dc} {n : Pob} : limB d n ↔ n.kind = 7 ∧ flwB d n limsK = true ∧ (atO d n limsK).kids.length = 2 ∧ ((atO d n limsK).kids.getD 0 Pob.null).kind = 4 ∧ ((atO d n limsK).kids.getD 1 Pob.null).kind = 4:=by
 simp only [limB,flwB,Bool.and_eq_true,decide_eq_true_eq,strAt]
 constructor
 ·rintro ⟨h1,h2,h3,h4,h5,h6⟩; exact ⟨h1,⟨h2,h3⟩,h4,h5,h6⟩
 ·rintro ⟨h1,⟨h2,h3⟩,h4,h5,h6⟩; exact ⟨h1,h2,h3,h4,h5,h6⟩
theorem lim_no {d : Dc} {n : Pob} (h : ¬ limB d n) : limSt (limB d n) (limLo d n) = [] ∧ limSt (limB d n) (limHi d n) = [] ∧ decide (limB d n) = false:=by
 refine ⟨by rw [limSt,if_neg h],by rw [limSt,if_neg h],decide_eq_false h⟩
theorem lim_yes {d : Dc} {n : Pob} (h : limB d n) : limSt (limB d n) (limLo d n) = ((atO d n limsK).kids.getD 0 Pob.null).str ∧ limSt (limB d n) (limHi d n) = ((atO d n limsK).kids.getD 1 Pob.null).str ∧ decide (limB d n) = true:=by
 refine ⟨by rw [limSt,if_pos h]; rfl,by rw [limSt,if_pos h]; rfl,decide_eq_true h⟩
theorem c_foliantref37_limits (gl : List (Nat × AV)) (d : Dc) (n : Pob) (h : d.bulk ≤ 16777216:=by first | omega | exact u8_le _ | assumption | (simp; done) | (simp; omega)) (hn : n.bulk ≤ 16777216:=by first | omega | exact u8_le _ | assumption | (simp; done) | (simp; omega)) : FnP Tryz.prog (gl) 67 [.agg d.cells,.agg n.cells] fun r=>r = .ret (.tup [.str (limSt (limB d n) (limLo d n)),.str (limSt (limB d n) (limHi d n)),.bool (decide (limB d n))]):=by
 refine FnP.intro Tryz.func67 rfl rfl (by simp [Tryz.ntmps67]) ?_
 simp only [argEnv,Tryz.ntmps67,Tryz.results67]
 refine AW.rS ?_
 refine AW.trim [2,3] ?_
 refine AW.rSC ?_
 refine awOps.cons (awGuard.c1 (c_foliantref37_followed _ d n limsK) ?_)
 refine awOps.rn ?_
 refine AW.trim [3,7,8] ?_
 refine AW.seq ?_
 by_cases hs6 : (atO d n limsK).kids.length = 2
 ·skip
  refine AW.rS ?_
  refine AW.trim [7,43] ?_
  refine AW.c2 ?_ ?_
  ·intro h7
   refine AW.rS ?_
   refine AW.trim [4,5,6] ?_
   refine AW.rt ?_
   have hnl : ¬ limB d n:=by
    rw [limB_flw]
    rintro ⟨h1,h2,h3,h4,h5⟩
    rcases h7 with (((h | h) | h) | h) | h
    ·exact h h1
    ·rw [h2] at h; cases h
    ·exact h (by rw [h3]; rfl)
    ·exact h h4
    ·exact h h5
   rw [(lim_no hnl).1,(lim_no hnl).2.1,(lim_no hnl).2.2]
  ·intro h7
   refine AW.skip ?_
   refine AW.fS [0,1,2,3,4,5,6,7,8,9,10,11,12] [] ?_
   refine awFun.rn ?_
   rw [Aw.awFun_nil,Aw.awPlan_nil]
   refine AW.trim [4,5,6] ?_
   refine AW.rt ?_
   have hyl : limB d n:=limB_flw.2 ⟨h7.1.1.1.1,h7.1.1.1.2,hs6,h7.1.2,h7.2⟩
   rw [(lim_yes hyl).1,(lim_yes hyl).2.1,(lim_yes hyl).2.2]
 ·skip
  by_cases hs6 : (atO d n limsK).kids.length = 0
  ·skip
   refine AW.rS ?_
   refine AW.trim [7,43] ?_
   refine AW.c2 ?_ ?_
   ·intro h7
    refine AW.rS ?_
    refine AW.trim [4,5,6] ?_
    refine AW.rt ?_
    have hnl : ¬ limB d n:=fun hl=>absurd (limB_flw.1 hl).2.2.1 (by omega)
    rw [(lim_no hnl).1,(lim_no hnl).2.1,(lim_no hnl).2.2]
   ·intro h7
    exfalso
    simp at h7
    omega
  ·skip
   by_cases hs6 : (atO d n limsK).kids.length = 1
   ·skip
    refine AW.rS ?_
    refine AW.trim [7,43] ?_
    refine AW.c2 ?_ ?_
    ·intro h7
     refine AW.rS ?_
     refine AW.trim [4,5,6] ?_
     refine AW.rt ?_
     have hnl : ¬ limB d n:=fun hl=>absurd (limB_flw.1 hl).2.2.1 (by omega)
     rw [(lim_no hnl).1,(lim_no hnl).2.1,(lim_no hnl).2.2]
    ·intro h7
     exfalso
     simp at h7
     omega
   ·skip
    refine AW.rS ?_
    refine AW.trim [7,43] ?_
    refine AW.c2 ?_ ?_
    ·intro h7
     refine AW.rS ?_
     refine AW.trim [4,5,6] ?_
     refine AW.rt ?_
     have hnl : ¬ limB d n:=fun hl=>absurd (limB_flw.1 hl).2.2.1 (by omega)
     rw [(lim_no hnl).1,(lim_no hnl).2.1,(lim_no hnl).2.2]
    ·intro h7
     exfalso
     simp at h7
     omega
theorem c_foliantref37_within (gl : List (Nat × AV)) (l : Pob) (key : List UInt8) (h : l.bulk ≤ 16777216:=by first | omega | exact u8_le _ | assumption | (simp; done) | (simp; omega)) : FnP Tryz.prog (gl) 37 [.agg l.cells,.str key] fun r=>r = .ret (.tup [.agg (withinO l.kids key).2.cells,.int .i64 (withinO l.kids key).1]):=by
 refine FnP.intro Tryz.func37 rfl rfl (by simp [Tryz.ntmps37]) ?_
 simp only [argEnv,Tryz.ntmps37,Tryz.results37]
 have hkl:=kids_le l
 have hpl:=pairsOf_len l.kids
 refine AW.rS ?_
 refine AW.trim [1,2,4] ?_
 refine AW.seq ?_
 refine AW.rS ?_
 refine AW.trim [1,2,4,12] ?_
 refine AW.c2 ?_ ?_
 ·intro h4
  refine AW.rS ?_
  refine AW.trim [4,5] ?_
  refine AW.rt ?_
  rw [withinO,if_neg (fun hp=>by have:=hp.1; omega)]
  rfl
 ·intro h4
  refine AW.skip ?_
  refine AW.seq ?_
  refine AW.rS ?_
  refine AW.trim [1,2,4,6] ?_
  refine AW.block ?_
  refine AW.lk (S:={ k : Nat // 2 * k ≤ l.kids.length ∧ ∀ j,j < k → strAt l.kids (2 * j) }) [1,2,4] (fun s_=>[(6,.int .i64 (2 * (s_.1 : Int)))]) (fun s_=>[(0,.cells l.cells),(1,.cells [.int .i64 0,.int .i64 0,.int .i64 0,.str [],.raw (.slice none 0 0),.raw (.slice none 0 0)])]) 2 (fun s_=>l.kids.length - s_.1) ⟨0,Nat.zero_le _,fun j h=>absurd h (Nat.not_lt_zero j)⟩ ?_ ?_
  ·refine St.le.vw [0,1]
  rintro ⟨k,hk,hks⟩
  try dsimp only at hk
  try dsimp only at hks
  refine AW.seq ?_
  refine AW.rS ?_
  refine AW.trim [1,2,4,6,19] ?_
  refine AW.c2 ?_ ?_
  ·intro h15
   refine AW.skip ?_
   refine AW.seq ?_
   refine AW.block ?_
   refine AW.rS ?_
   refine AW.trim [1,2,4,6,28] ?_
   refine AW.c2 ?_ ?_
   ·intro h20
    refine AW.rS ?_
    refine AW.trim [4,5] ?_
    refine AW.rt ?_
    rw [withinO,if_neg (fun hp=>by
     have:=hp.2 k (by omega)
     rw [show (2 * (k : Int)).toNat = 2 * k from by omega] at h20
     exact h20 this)]
    rfl
   ·intro h20
    refine AW.skip ?_
    refine AW.rL ?_
    refine ⟨⟨k + 1,by omega,fun j hj=>(Nat.lt_or_ge j k).elim (hks j) (fun h=>by rw [show j = k by omega]; simpa [strAt,show (2 * (k : Int)).toNat = 2 * k from by omega] using h20)⟩,?_,?_⟩
    ·refine St.le.vw [0,1]
    ·simp only []; omega
  ·intro h15
   refine AW.exit ?_
   have hok : pairsOk l.kids:=⟨by omega,fun i hi=>hks i (by omega)⟩
   refine AW.seq ?_
   refine AW.rS ?_
   refine AW.trim [1,2,4,7] ?_
   refine AW.block ?_
   refine AW.lk (S:={ k : Nat // 2 * k ≤ l.kids.length ∧ findE key (pairsOf l.kids) = findE key ((pairsOf l.kids).drop k) }) [1,2,4] (fun s_=>[(7,.int .i64 (2 * (s_.1 : Int)))]) (fun s_=>[(0,.cells l.cells),(1,.cells [.int .i64 0,.int .i64 0,.int .i64 0,.str [],.raw (.slice none 0 0),.raw (.slice none 0 0)])]) 2 (fun s_=>l.kids.length - s_.1) ⟨0,Nat.zero_le _,rfl⟩ ?_ ?_
   ·refine St.le.vw [0,1]
   rintro ⟨q,hq,hqf⟩
   try dsimp only at hq
   try dsimp only at hqf
   refine AW.seq ?_
   refine AW.rS ?_
   refine AW.trim [1,2,4,7,35] ?_
   refine AW.c2 ?_ ?_
   ·intro h34
    have hq2 : q < (pairsOf l.kids).length:=by omega
    have hst:=findE_step (key:=key) hq2
    have hgx:=pairsOf_get l.kids q (by omega)
    rw [hgx] at hst
    refine AW.skip ?_
    refine AW.seq ?_
    refine AW.block ?_
    refine AW.rS ?_
    refine AW.trim [1,2,4,7,45] ?_
    refine AW.c2 ?_ ?_
    ·intro h39
     refine AW.rS ?_
     refine AW.trim [4,5] ?_
     refine AW.rt ?_
     rw [withinO,if_pos hok,hqf,hst,if_pos (by simpa [show (2 * (q : Int)).toNat = 2 * q from by omega] using h39)]
     rw [show (2 * (q : Int) + 1).toNat = 2 * q + 1 from by omega]
    ·intro h39
     refine AW.skip ?_
     refine AW.rL ?_
     refine ⟨⟨q + 1,by omega,by rw [hqf,hst,if_neg (by simpa [show (2 * (q : Int)).toNat = 2 * q from by omega] using h39)]⟩,?_,?_⟩
     ·refine St.le.vw [0,1]
     ·simp only []; omega
   ·intro h34
    refine AW.exit ?_
    refine AW.rS ?_
    refine AW.trim [4,5] ?_
    refine AW.rt ?_
    rw [withinO,if_pos hok,hqf,findE_end (by omega)]
    rfl
theorem c_foliantref37_into (gl : List (Nat × AV)) (d : Dc) (kids : Pob) (key : List UInt8) (h : d.bulk ≤ 16777216:=by first | omega | exact u8_le _ | assumption | (simp; done) | (simp; omega)) (hk : kids.bulk ≤ 16777216:=by first | omega | exact u8_le _ | assumption | (simp; done) | (simp; omega)) : FnP Tryz.prog (gl) 38 [.agg d.cells,.agg kids.cells,.str key] fun r=>r = .ret (.tup [.agg (downO d key kids.kids).2.cells,.int .i64 (downO d key kids.kids).1]):=by
 refine FnP.intro Tryz.func38 rfl rfl (by simp [Tryz.ntmps38]) ?_
 simp only [argEnv,Tryz.ntmps38,Tryz.results38]
 have hkl:=kids_le kids
 refine AW.rS ?_
 refine AW.trim [2,3,4,6] ?_
 refine AW.seq ?_
 refine AW.rS ?_
 refine AW.trim [2,3,4,6,8] ?_
 refine AW.block ?_
 refine AW.lk (S:={ k : Nat // k ≤ kids.kids.length ∧ downO d key kids.kids = downO d key (kids.kids.drop k) }) [2,3,4,6] (fun s_=>[(8,.int .i64 (s_.1 : Int))]) (fun s_=>[(0,.cells d.cells),(1,.cells kids.cells),(2,.cells [.int .i64 0,.int .i64 0,.int .i64 0,.str [],.raw (.slice none 0 0),.raw (.slice none 0 0)])]) 3 (fun s_=>kids.kids.length - s_.1) ⟨0,Nat.zero_le _,rfl⟩ ?_ ?_
 ·refine St.le.vw [0,1,2]
 rintro ⟨k,hkk,he⟩
 try dsimp only at hkk
 try dsimp only at he
 refine AW.seq ?_
 refine AW.rS ?_
 refine AW.trim [2,3,4,6,8,16] ?_
 refine AW.c2 ?_ ?_
 ·intro h8
  have hk2 : k < kids.kids.length:=by omega
  have hbk:=kid_bulk hk2
  have hst:=down_step (d:=d) (key:=key) hk2
  have hfb:=follow_bulk h (Nat.le_trans hbk hk)
  refine AW.skip ?_
  refine AW.seq ?_
  refine AW.block ?_
  refine AW.fS [0,1,2,3,4,5,6,7,8,9,10,11,12,13,14,15] [] ?_
  refine awFun.rn ?_
  refine awFun.c1 [21,26] (c_foliantref19_Follow _ d (kids.kids.getD k Pob.null) h) ?_
  refine awFun.rn ?_
  refine awFun.c1 [20,27] (c_foliantref37_limits _ d (followO d (kids.kids.getD k Pob.null)) h hfb) ?_
  refine awFun.rn ?_
  rw [Aw.awFun_nil,Aw.awPlan_nil]
  refine AW.trim [2,3,4,6,8,9,10,11] ?_
  refine AW.seq ?_
  refine AW.rS ?_
  refine AW.trim [2,3,4,6,8,9,10,33] ?_
  refine AW.c2 ?_ ?_
  ·intro h21
   refine AW.rS ?_
   refine AW.trim [6,7] ?_
   refine AW.rt ?_
   rw [he,hst,if_neg (by simpa using h21)]
   rfl
  ·intro h21
   have hlb : limB d (followO d (kids.kids.getD k Pob.null)):=by simpa using h21
   rw [limSt,limSt,if_pos hlb,if_pos hlb]
   refine AW.skip ?_
   refine AW.rS ?_
   refine AW.trim [2,3,4,6,8,42] ?_
   refine AW.c2 ?_ ?_
   ·intro h27
    refine AW.rS ?_
    refine AW.trim [6,7] ?_
    refine AW.rt ?_
    rw [he,hst,if_pos hlb,if_pos (le_both.2 h27)]
   ·intro h27
    refine AW.skip ?_
    refine AW.rL ?_
    refine ⟨⟨k + 1,by omega,by rw [he,hst,if_pos hlb,if_neg (fun hh=>h27.elim (fun h=>(le_both.1 hh).1.elim (fun e=>by rw [h.1] at e; cases e) h.2) (fun h=>(le_both.1 hh).2.elim (fun e=>by rw [h.1] at e; cases e) h.2))]⟩,?_,?_⟩
    ·refine St.le.vw [0,1,2]
    ·simp only []; omega
 ·intro h8
  refine AW.exit ?_
  refine AW.rS ?_
  refine AW.trim [6,7] ?_
  refine AW.rt ?_
  rw [he,down_end (by omega)]
  rfl
end Go.Proofs
