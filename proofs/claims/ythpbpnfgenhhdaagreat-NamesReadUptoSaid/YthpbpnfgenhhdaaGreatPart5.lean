/- A part of the proof: no condition of its own. -/
import Derived.Test.YthpbpnfgenhhdaaGreatPart4
namespace Go.Proofs
open Go Aw
set_option linter.unusedSimpArgs false
set_option linter.unusedVariables false
set_option maxRecDepth 100000
set_option maxHeartbeats 4000000
attribute [local go_sem] En.cells entsAV_length entsAV_len7 entsAV_last
theorem keys_bad {ps : List Pob} {n : Nat} {l : List En} (h : ¬ pairsOk ps) : keysS ps n l = ⟨25,n,l⟩:=if_neg h
theorem keys_ok {ps : List Pob} {n : Nat} {l : List En} (h : pairsOk ps) : keysS ps n l = (pairsOf ps).foldl addT ⟨0,n,l⟩:=if_pos h
theorem addT_bad2 {l : List En} {x : En} {k : Nat} (h : ¬ okX l x) : addT ⟨0,k,l⟩ x = ⟨errX l x,k,l⟩:=by
 simp only [addT,errX]
 rw [if_neg (by simp)]
 cases hb : lessE l x with
 | false=>simp
 | true =>
  have : 8191 ≤ l.length:=Classical.byContradiction fun hc=>h ⟨hb,by omega⟩
  simp [this]
theorem keys_stop {ps : List Pob} {n i : Nat} {l L : List En} (h : pairsOk ps) (hi : 2 * i + 1 < ps.length) (he : foldS (pairsOf ps) n l i = ⟨0,n,L⟩) (hb : ¬ okX L ⟨(ps.getD (2 * i) Pob.null).str,ps.getD (2 * i + 1) Pob.null⟩) : keysS ps n l = ⟨errX L ⟨(ps.getD (2 * i) Pob.null).str,ps.getD (2 * i + 1) Pob.null⟩,n,L⟩:=by
 have hl:=pairsOf_len ps
 have hst:=foldS_step (k:=n) (l:=l) (i:=i) (xs:=pairsOf ps) (by omega)
 rw [he,pairsOf_get ps i hi,addT_bad2 hb] at hst
 have hne:=(addT_bad (k:=n) hb).2
 rw [keys_ok h,foldS_err (i:=i + 1) (by rw [hst]; exact hne),hst]
theorem keys_next {ps : List Pob} {n i : Nat} {l L : List En} (hi : 2 * i + 1 < ps.length) (he : foldS (pairsOf ps) n l i = ⟨0,n,L⟩) (hb : okX L ⟨(ps.getD (2 * i) Pob.null).str,ps.getD (2 * i + 1) Pob.null⟩) : foldS (pairsOf ps) n l (i + 1) = ⟨0,n,L ++ [⟨(ps.getD (2 * i) Pob.null).str,ps.getD (2 * i + 1) Pob.null⟩]⟩:=by
 have hl:=pairsOf_len ps
 have hst:=foldS_step (k:=n) (l:=l) (i:=i) (xs:=pairsOf ps) (by omega)
 rw [he,pairsOf_get ps i hi,addT_ok hb] at hst
 exact hst
theorem keys_end {ps : List Pob} {n i : Nat} {l L : List En} (h : pairsOk ps) (hi : ¬ 2 * i + 1 < ps.length) (he : foldS (pairsOf ps) n l i = ⟨0,n,L⟩) : keysS ps n l = ⟨0,n,L⟩:=by
 have hl:=pairsOf_len ps
 have h1:=h.1
 rw [keys_ok h,← foldS_all (i:=i) (by omega),he]
theorem h_rkeys (gl : List (Nat × AV)) (d : Dc) (o : Pob) (nodes : Nat) (l : List En) (hl : l.length ≤ 8191) (ho : o.bulk ≤ 16777216) : FnK Tryz.prog (gl) 61 [.ptr 0 0,.agg o.cells] ([(0,.cells [.sl (itemsAV d.items),.int .i64 d.trailer.kind,.int .i64 d.trailer.num,.int .i64 d.trailer.gen,.str d.trailer.str,.sl (strsAV d.trailer.keys),.sl (objsAV d.trailer.kids),.row 1 0 (l).length,.int .i64 (nodes : Nat),.int .i64 0]),(1,.row 7 (entsAV l) true)]) 2 1 (fun r h n=>r = .ret (.tup []) ∧ h = [(0,.cells [.sl (itemsAV d.items),.int .i64 d.trailer.kind,.int .i64 d.trailer.num,.int .i64 d.trailer.gen,.str d.trailer.str,.sl (strsAV d.trailer.keys),.sl (objsAV d.trailer.kids),.row 1 0 ((keysS o.kids nodes l).l).length,.int .i64 (nodes : Nat),.int .i64 (keysS o.kids nodes l).err]),(1,.row 7 (entsAV (keysS o.kids nodes l).l) true),(2,.cells [.int .i64 o.kind,.int .i64 o.num,.int .i64 o.gen,.str o.str,.sl (strsAV o.keys),.sl (objsAV o.kids)])] ∧ n = 3):=by
 refine FnK.intro Tryz.func61 rfl rfl (by simp [Tryz.ntmps61]) ?_
 simp only [argEnv,Tryz.ntmps61,Tryz.results61]
 have hkl:=kids_le o
 have hpl:=pairsOf_len o.kids
 refine AW.rS ?_
 refine AW.trim [0,3] ?_
 refine AW.seq ?_
 refine AW.rS ?_
 refine AW.trim [0,3,12] ?_
 refine AW.c2 ?_ ?_
 ·intro h4
  have hno : ¬ pairsOk o.kids:=fun h=>by have:=h.1; omega
  rw [keys_bad hno]
  refine AW.rL ?_
  refine AW.seq ?_
  refine AW.rS ?_
  refine AW.trim [0,3,4] ?_
  refine AW.block ?_
  refine AW.lk (S:=Unit) [0,3] (fun s=>[(4,.int .i64 0)]) (fun s=>[(0,.cells [.sl (itemsAV d.items),.int .i64 d.trailer.kind,.int .i64 d.trailer.num,.int .i64 d.trailer.gen,.str d.trailer.str,.sl (strsAV d.trailer.keys),.sl (objsAV d.trailer.kids),.row 1 0 (l).length,.int .i64 (nodes : Nat),.int .i64 25]),(1,.row 7 (entsAV l) true),(2,.cells o.cells)]) 3 (fun s=>0) () ?_ ?_
  ·refine St.le.vw [0,1,2]
  rintro ⟨⟩
  refine AW.seq ?_
  refine AW.rS ?_
  refine AW.trim [0,3,4,28] ?_
  refine AW.c2 ?_ ?_
  ·intro h12
   simp at h12
  ·intro h12
   refine AW.exit ?_
   refine AW.rS ?_
   refine AW.trim [0,3,5] ?_
   refine AW.block ?_
   refine AW.lk (S:=Unit) [0,3] (fun s=>[(5,.int .i64 0)]) (fun s=>[(0,.cells [.sl (itemsAV d.items),.int .i64 d.trailer.kind,.int .i64 d.trailer.num,.int .i64 d.trailer.gen,.str d.trailer.str,.sl (strsAV d.trailer.keys),.sl (objsAV d.trailer.kids),.row 1 0 (l).length,.int .i64 (nodes : Nat),.int .i64 25]),(1,.row 7 (entsAV l) true),(2,.cells o.cells)]) 3 (fun s=>0) () ?_ ?_
   ·refine St.le.vw [0,1,2]
   rintro ⟨⟩
   refine AW.seq ?_
   refine AW.rS ?_
   refine AW.trim [0,3,5,53] ?_
   refine AW.c2 ?_ ?_
   ·intro h30
    simp at h30
   ·intro h30
    refine AW.exit ?_
    refine wk ?_
    all_goals first | contradiction | rfl | (simp; done) | (simp; omega)
 ·intro h4
  refine AW.skip ?_
  refine AW.seq ?_
  refine AW.rS ?_
  refine AW.trim [0,3,4] ?_
  refine AW.block ?_
  refine AW.lk (S:={ p : Nat × Int // 2 * p.1 ≤ o.kids.length ∧ ((p.2 = 0 ∧ ∀ j,j < p.1 → strAt o.kids (2 * j)) ∨ (p.2 = 25 ∧ ¬ pairsOk o.kids)) }) [0,3] (fun s_=>[(4,.int .i64 (2 * (s_.1.1 : Int)))]) (fun s_=>[(0,.cells [.sl (itemsAV d.items),.int .i64 d.trailer.kind,.int .i64 d.trailer.num,.int .i64 d.trailer.gen,.str d.trailer.str,.sl (strsAV d.trailer.keys),.sl (objsAV d.trailer.kids),.row 1 0 (l).length,.int .i64 (nodes : Nat),.int .i64 s_.1.2]),(1,.row 7 (entsAV l) true),(2,.cells o.cells)]) 3 (fun s_=>o.kids.length - s_.1.1) ⟨(0,0),Nat.zero_le _,.inl ⟨rfl,fun j h=>absurd h (Nat.not_lt_zero j)⟩⟩ ?_ ?_
  ·refine St.le.vw [0,1,2]
  rintro ⟨⟨k,e⟩,hk,hks⟩
  try dsimp only at hk
  try dsimp only at hks
  refine AW.seq ?_
  refine AW.rS ?_
  refine AW.trim [0,3,4,28] ?_
  refine AW.c2 ?_ ?_
  ·intro h64
   refine AW.skip ?_
   refine AW.seq ?_
   refine AW.block ?_
   refine AW.rS ?_
   refine AW.trim [0,3,4,37] ?_
   refine AW.c2 ?_ ?_
   ·intro h69
    refine AW.rL ?_
    refine AW.rL ?_
    refine ⟨⟨(k + 1,25),by dsimp only; omega,.inr ⟨rfl,fun hp=>h69 (by have:=hp.2 k (by omega); simpa [strAt,show (2 * (k : Int)).toNat = 2 * k from by omega] using this)⟩⟩,?_,?_⟩
    ·refine St.le.vw [0,1,2]
    ·simp only []; omega
   ·intro h69
    refine AW.skip ?_
    refine AW.rL ?_
    refine ⟨⟨(k + 1,e),by dsimp only; omega,hks.imp (fun h=>⟨h.1,fun j hj=>(Nat.lt_or_ge j k).elim (h.2 j) (fun hh=>by rw [show j = k by omega]; simpa [strAt,show (2 * (k : Int)).toNat = 2 * k from by omega] using h69)⟩) id⟩,?_,?_⟩
    ·refine St.le.vw [0,1,2]
    ·simp only []; omega
  ·intro h64
   refine AW.exit ?_
   have hfin : (e = 0 ∧ pairsOk o.kids) ∨ (e = 25 ∧ ¬ pairsOk o.kids):=hks.imp (fun h=>⟨h.1,by omega,fun i hi=>h.2 i (by
    have:=h.1
    subst this
    simp at h64
    omega)⟩) id
   by_cases hs77 : pairsOk o.kids
   ·skip
    obtain ⟨rfl,hok⟩ : e = 0 ∧ pairsOk o.kids:=hfin.resolve_right (fun h=>h.2 hs77)
    refine AW.rS ?_
    refine AW.trim [0,3,5] ?_
    refine AW.block ?_
    refine AW.lk (S:={ p : Nat × List En // 2 * p.1 ≤ o.kids.length ∧ foldS (pairsOf o.kids) nodes l p.1 = ⟨0,nodes,p.2⟩ }) [0,3] (fun s_=>[(5,.int .i64 (2 * (s_.1.1 : Int)))]) (fun s_=>[(0,.cells [.sl (itemsAV d.items),.int .i64 d.trailer.kind,.int .i64 d.trailer.num,.int .i64 d.trailer.gen,.str d.trailer.str,.sl (strsAV d.trailer.keys),.sl (objsAV d.trailer.kids),.row 1 0 (s_.1.2).length,.int .i64 (nodes : Nat),.int .i64 0]),(1,.row 7 (entsAV s_.1.2) true),(2,.cells o.cells)]) 3 (fun s_=>o.kids.length - s_.1.1) ⟨(0,l),Nat.zero_le _,rfl⟩ ?_ ?_
    ·refine St.le.vw [0,1,2]
    rintro ⟨⟨i,L⟩,hi,he⟩
    try dsimp only at hi
    try dsimp only at he
    refine AW.seq ?_
    refine AW.rS ?_
    refine AW.trim [0,3,5,53] ?_
    refine AW.c2 ?_ ?_
    ·intro h82
     have hLl : L.length ≤ 8191:=by
      have:=foldS_len (pairsOf o.kids) nodes l i hl
      rw [he] at this
      exact this
     have hi2 : 2 * i + 1 < o.kids.length:=by omega
     refine AW.skip ?_
     refine AW.seq ?_
     refine AW.block ?_
     refine AW.fS [0,1,2,3,4,5,6,7,8,9,10,11,12] [] ?_
     refine awFun.rn ?_
     rw [Aw.awFun_nil,Aw.awPlan_nil]
     refine AW.trim [0,3,5,6,7] ?_
     refine AW.seq ?_
     by_cases hs90 : L = []
     ·skip
      subst hs90
      refine AW.rS ?_
      refine AW.trim [0,3,5,6,7,81] ?_
      refine AW.c2 ?_ ?_
      ·intro h91
       exfalso; simp at h91
      ·intro h91
       refine AW.skip ?_
       refine AW.seq ?_
       refine AW.rS ?_
       refine AW.trim [0,3,5,6,86] ?_
       refine AW.c2 ?_ ?_
       ·intro h98
        simp at h98
       ·intro h98
        refine AW.skip ?_
        refine AW.tGL (σf:=?sf16a) (.take 0 0 (.take 1 0 (.take 2 0 (.take 3 0 (.take 5 0 (.take 6 0 (.take 8 0 (.take 9 0 (.fork 4 (.fork 7 (.fork 10 (.fork 11 (.fork 12 (.fork 13 (.fork 14 (.take 15 0 (.take 16 0 (.fork 17 .done .stop))) .stop) .stop) .stop) .stop) .stop) .stop) (.fork 7 (.fork 4 (.fork 10 (.fork 11 (.fork 12 (.fork 13 (.fork 14 (.take 15 0 (.take 16 0 (.fork 17 .done .stop))) .stop) .stop) .stop) .stop) .stop) (.fork 10 (.fork 4 (.fork 11 (.fork 12 (.fork 13 (.fork 14 (.take 15 0 (.take 16 0 (.fork 17 .done .stop))) .stop) .stop) .stop) .stop) (.fork 11 (.fork 4 (.fork 12 (.fork 13 (.fork 14 (.take 15 0 (.take 16 0 (.fork 17 .done .stop))) .stop) .stop) .stop) (.fork 12 (.fork 4 (.fork 13 (.fork 14 (.take 15 0 (.take 16 0 (.fork 17 .done .stop))) .stop) .stop) (.fork 13 (.fork 4 (.fork 14 (.take 15 0 (.take 16 0 (.fork 17 .done .stop))) .stop) .stop) .stop)) .stop)) .stop)) .stop)) .stop)))))))))) ?tree16a ?rest16a
        case tree16a =>
         refine awTree.tk ?_
         refine awTree.tk ?_
         refine awTree.tk ?_
         refine awTree.tk ?_
         refine awTree.tk ?_
         refine awTree.tk ?_
         refine awTree.tk ?_
         refine awTree.tk ?_
         refine awTree.fA ?_ ?_
         ·refine awTree.fA ?_ trivial
          refine awTree.fA ?_ trivial
          refine awTree.fA ?_ trivial
          refine awTree.fA ?_ trivial
          refine awTree.fA ?_ trivial
          refine awTree.fA ?_ trivial
          refine awTree.tk ?_
          refine awTree.tk ?_
          refine awTree.fA ?_ trivial
          exact awTree.dn
         ·refine awTree.fA ?_ trivial
          refine awTree.fA ?_ ?_
          ·refine awTree.fA ?_ trivial
           refine awTree.fA ?_ trivial
           refine awTree.fA ?_ trivial
           refine awTree.fA ?_ trivial
           refine awTree.fA ?_ trivial
           refine awTree.tk ?_
           refine awTree.tk ?_
           refine awTree.fA ?_ trivial
           exact awTree.dn
          ·refine awTree.fA ?_ trivial
           refine awTree.fA ?_ ?_
           ·refine awTree.fA ?_ trivial
            refine awTree.fA ?_ trivial
            refine awTree.fA ?_ trivial
            refine awTree.fA ?_ trivial
            refine awTree.tk ?_
            refine awTree.tk ?_
            refine awTree.fA ?_ trivial
            exact awTree.dn
           ·refine awTree.fA ?_ trivial
            refine awTree.fA ?_ ?_
            ·refine awTree.fA ?_ trivial
             refine awTree.fA ?_ trivial
             refine awTree.fA ?_ trivial
             refine awTree.tk ?_
             refine awTree.tk ?_
             refine awTree.fA ?_ trivial
             exact awTree.dn
            ·refine awTree.fA ?_ trivial
             refine awTree.fA ?_ ?_
             ·refine awTree.fA ?_ trivial
              refine awTree.fA ?_ trivial
              refine awTree.tk ?_
              refine awTree.tk ?_
              refine awTree.fA ?_ trivial
              exact awTree.dn
             ·refine awTree.fA ?_ trivial
              refine awTree.fA ?_ trivial
              refine awTree.fA ?_ trivial
              refine awTree.tk ?_
              refine awTree.tk ?_
              refine awTree.fA ?_ trivial
              exact awTree.dn
        case rest16a =>
        refine AW.rL ?_
        refine ⟨⟨(i + 1,[⟨(o.kids.getD (2 * (i : Int)).toNat Pob.null).str,o.kids.getD (2 * (i : Int) + 1).toNat Pob.null⟩]),by dsimp only; omega,?_⟩,?_,?_⟩
        ·have e1 : (2 * (i : Int)).toNat = 2 * i:=by omega
         have e2 : (2 * (i : Int) + 1).toNat = 2 * i + 1:=by omega
         rw [e1,e2]
         exact keys_next hi2 he ⟨lessE_nil _,by decide⟩
        ·refine St.le.vx [0,4,2] (hpre:=(by decide : ∀ i,i < 1 → nth [0,4,2] i = some i)) ?_
         rfl
        ·simp only []; omega
     ·skip
      obtain ⟨a,x,rfl⟩:=split_last (fun hz=>hs90 (List.eq_nil_of_length_eq_zero hz))
      have hlen : (a ++ [x]).length = a.length + 1:=by simp
      rw [hlen]
      refine AW.rS ?_
      refine AW.trim [0,3,5,6,7,81] ?_
      refine AW.c2 ?_ ?_
      ·intro h91
       refine AW.rS ?_
       refine AW.trim [] ?_
       refine AW.rt ?_
       have e1 : (2 * (i : Int)).toNat = 2 * i:=by omega
       rw [e1] at h91
       have hx : lessE (a ++ [x]) ⟨(o.kids.getD (2 * i) Pob.null).str,o.kids.getD (2 * i + 1) Pob.null⟩ = false:=by rw [lessE_last]; exact h91.2
       rw [keys_stop hok hi2 he (fun h=>by rw [okX,hx] at h; cases h.1),errX,if_pos hx]
       dsimp only
       rw [hlen]
      ·intro h91
       refine AW.skip ?_
       refine AW.seq ?_
       refine AW.rS ?_
       refine AW.trim [0,3,5,6,86] ?_
       refine AW.c2 ?_ ?_
       ·intro h98
        refine AW.rS ?_
        refine AW.trim [] ?_
        refine AW.rt ?_
        have e1 : (2 * (i : Int)).toNat = 2 * i:=by omega
        rw [e1] at h91
        have hx : lessE (a ++ [x]) ⟨(o.kids.getD (2 * i) Pob.null).str,o.kids.getD (2 * i + 1) Pob.null⟩ = true:=by rw [lessE_last]; exact h91.resolve_left (by omega)
        rw [keys_stop hok hi2 he (fun h=>by have:=h.2; omega),errX,if_neg (by rw [hx]; simp)]
        dsimp only
        rw [hlen]
       ·intro h98
        refine AW.skip ?_
        refine AW.tGL (σf:=?sf16b) (.take 0 0 (.take 1 0 (.take 2 0 (.take 3 0 (.take 5 0 (.take 6 0 (.take 8 0 (.take 9 0 (.fork 4 (.fork 7 (.fork 10 (.fork 11 (.fork 12 (.fork 13 (.fork 14 (.take 15 0 (.take 16 0 (.fork 17 .done .stop))) .stop) .stop) .stop) .stop) .stop) .stop) (.fork 7 (.fork 4 (.fork 10 (.fork 11 (.fork 12 (.fork 13 (.fork 14 (.take 15 0 (.take 16 0 (.fork 17 .done .stop))) .stop) .stop) .stop) .stop) .stop) (.fork 10 (.fork 4 (.fork 11 (.fork 12 (.fork 13 (.fork 14 (.take 15 0 (.take 16 0 (.fork 17 .done .stop))) .stop) .stop) .stop) .stop) (.fork 11 (.fork 4 (.fork 12 (.fork 13 (.fork 14 (.take 15 0 (.take 16 0 (.fork 17 .done .stop))) .stop) .stop) .stop) (.fork 12 (.fork 4 (.fork 13 (.fork 14 (.take 15 0 (.take 16 0 (.fork 17 .done .stop))) .stop) .stop) (.fork 13 (.fork 4 (.fork 14 (.take 15 0 (.take 16 0 (.fork 17 .done .stop))) .stop) .stop) .stop)) .stop)) .stop)) .stop)) .stop)))))))))) ?tree16b ?rest16b
        case tree16b =>
         refine awTree.tk ?_
         refine awTree.tk ?_
         refine awTree.tk ?_
         refine awTree.tk ?_
         refine awTree.tk ?_
         refine awTree.tk ?_
         refine awTree.tk ?_
         refine awTree.tk ?_
         refine awTree.fA ?_ ?_
         ·refine awTree.fA ?_ trivial
          refine awTree.fA ?_ trivial
          refine awTree.fA ?_ trivial
          refine awTree.fA ?_ trivial
          refine awTree.fA ?_ trivial
          refine awTree.fA ?_ trivial
          refine awTree.tk ?_
          refine awTree.tk ?_
          refine awTree.fA ?_ trivial
          exact awTree.dn
         ·refine awTree.fA ?_ trivial
          refine awTree.fA ?_ ?_
          ·refine awTree.fA ?_ trivial
           refine awTree.fA ?_ trivial
           refine awTree.fA ?_ trivial
           refine awTree.fA ?_ trivial
           refine awTree.fA ?_ trivial
           refine awTree.tk ?_
           refine awTree.tk ?_
           refine awTree.fA ?_ trivial
           exact awTree.dn
          ·refine awTree.fA ?_ trivial
           refine awTree.fA ?_ ?_
           ·refine awTree.fA ?_ trivial
            refine awTree.fA ?_ trivial
            refine awTree.fA ?_ trivial
            refine awTree.fA ?_ trivial
            refine awTree.tk ?_
            refine awTree.tk ?_
            refine awTree.fA ?_ trivial
            exact awTree.dn
           ·refine awTree.fA ?_ trivial
            refine awTree.fA ?_ ?_
            ·refine awTree.fA ?_ trivial
             refine awTree.fA ?_ trivial
             refine awTree.fA ?_ trivial
             refine awTree.tk ?_
             refine awTree.tk ?_
             refine awTree.fA ?_ trivial
             exact awTree.dn
            ·refine awTree.fA ?_ trivial
             refine awTree.fA ?_ ?_
             ·refine awTree.fA ?_ trivial
              refine awTree.fA ?_ trivial
              refine awTree.tk ?_
              refine awTree.tk ?_
              refine awTree.fA ?_ trivial
              exact awTree.dn
             ·refine awTree.fA ?_ trivial
              refine awTree.fA ?_ trivial
              refine awTree.fA ?_ trivial
              refine awTree.tk ?_
              refine awTree.tk ?_
              refine awTree.fA ?_ trivial
              exact awTree.dn
        case rest16b =>
        refine AW.rL ?_
        refine ⟨⟨(i + 1,a ++ [x] ++ [⟨(o.kids.getD (2 * (i : Int)).toNat Pob.null).str,o.kids.getD (2 * (i : Int) + 1).toNat Pob.null⟩]),by dsimp only; omega,?_⟩,?_,?_⟩
        ·have e1 : (2 * (i : Int)).toNat = 2 * i:=by omega
         have e2 : (2 * (i : Int) + 1).toNat = 2 * i + 1:=by omega
         rw [e1] at h91
         rw [e1,e2]
         exact keys_next hi2 he ⟨by rw [lessE_last]; exact h91.resolve_left (by omega),by omega⟩
        ·refine St.le.vx [0,4,2] (hpre:=(by decide : ∀ i,i < 1 → nth [0,4,2] i = some i)) ?_
         refine ⟨by simp,?_⟩
         rw [← hlen,entsAV_take,List.take_length,entsAV_append (a ++ [x])]
         rfl
        ·simp only []; omega
    ·intro h82
     refine AW.exit ?_
     have hie : ¬ 2 * i + 1 < o.kids.length:=by
      simp at h82
      omega
     rw [keys_end hok hie he]
     refine wk ?_
     trivial
   ·skip
    obtain ⟨rfl,hok⟩ : e = 25 ∧ ¬ pairsOk o.kids:=hfin.resolve_left (fun h=>hs77 h.2)
    rw [keys_bad hok]
    refine AW.rS ?_
    refine AW.trim [0,3,5] ?_
    refine AW.block ?_
    refine AW.lk (S:=Unit) [0,3] (fun s=>[(5,.int .i64 0)]) (fun s=>[(0,.cells [.sl (itemsAV d.items),.int .i64 d.trailer.kind,.int .i64 d.trailer.num,.int .i64 d.trailer.gen,.str d.trailer.str,.sl (strsAV d.trailer.keys),.sl (objsAV d.trailer.kids),.row 1 0 (l).length,.int .i64 (nodes : Nat),.int .i64 25]),(1,.row 7 (entsAV l) true),(2,.cells o.cells)]) 3 (fun s=>0) () ?_ ?_
    ·refine St.le.vw [0,1,2]
    rintro ⟨⟩
    refine AW.seq ?_
    refine AW.rS ?_
    refine AW.trim [0,3,5,53] ?_
    refine AW.c2 ?_ ?_
    ·intro h82
     simp at h82
    ·intro h82
     refine AW.exit ?_
     refine wk ?_
     all_goals first | contradiction | rfl | (simp; done) | (simp; omega)
theorem h_rkeysC (gl : List (Nat × AV)) (d : Dc) (o : Pob) (nodes : Nat) (l : List En) (hl : l.length ≤ 8191) (ho : o.bulk ≤ 16777216) : FnK Tryz.prog gl 61 [.ptr 0 0,.agg o.cells] [(0,.cells [.sl (itemsAV d.items),.int .i64 d.trailer.kind,.int .i64 d.trailer.num,.int .i64 d.trailer.gen,.str d.trailer.str,.sl (strsAV d.trailer.keys),.sl (objsAV d.trailer.kids),.row 1 0 (l).length,.int .i64 (nodes : Nat),.int .i64 0]),(1,.row 7 (entsAV l) true)] 2 1 fun r h n=>r = .ret (.tup []) ∧ h = [(0,.cells [.sl (itemsAV d.items),.int .i64 d.trailer.kind,.int .i64 d.trailer.num,.int .i64 d.trailer.gen,.str d.trailer.str,.sl (strsAV d.trailer.keys),.sl (objsAV d.trailer.kids),.row 1 0 ((keysS o.kids nodes l).l).length,.int .i64 (nodes : Nat),.int .i64 (keysS o.kids nodes l).err]),(1,.row 7 (entsAV (keysS o.kids nodes l).l) true)] ∧ n = 2 :=
 (FnK.cut (c:=True) (y:=.tup []) (z:=.bool true) ((h_rkeys gl d o nodes l hl ho).mono fun r h n q=>.inl ⟨trivial,q.1,q.2.1,q.2.2⟩) [0,1] (by decide) (by decide) (by simp only [go_sem,seval]) (by simp only [go_sem,seval])).mono fun r h n q=>q.elim (fun q=>⟨q.2.1,q.2.2.1,q.2.2.2⟩) (fun q=>absurd trivial q.1)
end Go.Proofs

namespace Go.Proofs
open Go Aw
set_option linter.unusedSimpArgs false
set_option linter.unusedVariables false
set_option maxRecDepth 100000
set_option maxHeartbeats 4000000
theorem keys_nodes {ps : List Pob} {n : Nat} {l : List En} : (keysS ps n l).nodes = n:=by
 rw [keysS]
 split
 ·exact foldT_nodes' _ _
 ·rfl
theorem null_bulk : Pob.null.bulk ≤ 16777216:=by decide
theorem shN_bulk {d : Dc} {q : Pob} (hd : d.bulk ≤ 16777216) (hq : q.bulk ≤ 16777216) : (shN d q).bulk ≤ 16777216:=by
 rw [shN]
 split
 ·exact null_bulk
 ·split
  ·exact null_bulk
  ·exact atO_bulk hd hq _
theorem shK_bulk {d : Dc} {q : Pob} (hd : d.bulk ≤ 16777216) (hq : q.bulk ≤ 16777216) : (shK d q).bulk ≤ 16777216:=by
 rw [shK]
 split
 ·exact null_bulk
 ·split
  ·exact null_bulk
  ·exact atO_bulk hd hq _
theorem h_rnode_zero (gl : List (Nat × AV)) (d : Dc) (dp : Int) (hdp : 24 < dp) (o : Pob) (nodes : Nat) (l : List En) : FnK Tryz.prog (gl) 31 [.ptr 0 0,.agg o.cells,.int .i64 dp] ([(0,.cells [.sl (itemsAV d.items),.int .i64 d.trailer.kind,.int .i64 d.trailer.num,.int .i64 d.trailer.gen,.str d.trailer.str,.sl (strsAV d.trailer.keys),.sl (objsAV d.trailer.kids),.row 1 0 (l).length,.int .i64 (nodes : Nat),.int .i64 0]),(1,.row 7 (entsAV l) true)]) 2 1 (fun r h n=>∃ b : ABlk,r = .ret (.tup []) ∧ h = [(0,.cells [.sl (itemsAV d.items),.int .i64 d.trailer.kind,.int .i64 d.trailer.num,.int .i64 d.trailer.gen,.str d.trailer.str,.sl (strsAV d.trailer.keys),.sl (objsAV d.trailer.kids),.row 1 0 ((thru d 0 o ⟨0,nodes,l⟩).l).length,.int .i64 ((thru d 0 o ⟨0,nodes,l⟩).nodes : Nat),.int .i64 (thru d 0 o ⟨0,nodes,l⟩).err]),(1,.row 7 (entsAV (thru d 0 o ⟨0,nodes,l⟩).l) true),(2,b)] ∧ n = 3):=by
 refine FnK.intro Tryz.func31 rfl rfl (by simp [Tryz.ntmps31]) ?_
 simp only [argEnv,Tryz.ntmps31,Tryz.results31]
 refine AW.rS ?_
 refine AW.trim [0,2,4] ?_
 refine AW.seq ?_
 refine AW.rS ?_
 refine AW.trim [0,2,4,13] ?_
 refine AW.c2 ?_ ?_
 ·intro h4
  refine AW.rS ?_
  refine AW.trim [] ?_
  refine AW.rt ?_
  exact ⟨_,rfl⟩
 ·intro h4
  exfalso; omega
theorem h_rnode_succ (gl : List (Nat × AV)) (d : Dc) (hd : d.bulk ≤ 16777216) (k : Nat) (dp : Int) (hk : dp + k = 24) (hdp : 1 ≤ dp) (ih : ∀ (o : Pob) (ho : o.bulk ≤ 16777216) (nodes : Nat) (l : List En) (hf : fitsT ⟨0,nodes,l⟩),FnK Tryz.prog gl 31 [.ptr 0 0,.agg o.cells,.int .i64 (dp + 1)] [(0,.cells [.sl (itemsAV d.items),.int .i64 d.trailer.kind,.int .i64 d.trailer.num,.int .i64 d.trailer.gen,.str d.trailer.str,.sl (strsAV d.trailer.keys),.sl (objsAV d.trailer.kids),.row 1 0 (l).length,.int .i64 (nodes : Nat),.int .i64 0]),(1,.row 7 (entsAV l) true)] 2 1 fun r h n=>r = .ret (.tup []) ∧ h = [(0,.cells [.sl (itemsAV d.items),.int .i64 d.trailer.kind,.int .i64 d.trailer.num,.int .i64 d.trailer.gen,.str d.trailer.str,.sl (strsAV d.trailer.keys),.sl (objsAV d.trailer.kids),.row 1 0 ((thru d k o ⟨0,nodes,l⟩).l).length,.int .i64 ((thru d k o ⟨0,nodes,l⟩).nodes : Nat),.int .i64 (thru d k o ⟨0,nodes,l⟩).err]),(1,.row 7 (entsAV (thru d k o ⟨0,nodes,l⟩).l) true)] ∧ n = 2) (o : Pob) (ho : o.bulk ≤ 16777216) (nodes : Nat) (l : List En) (hf : fitsT ⟨0,nodes,l⟩) : FnK Tryz.prog (gl) 31 [.ptr 0 0,.agg o.cells,.int .i64 dp] ([(0,.cells [.sl (itemsAV d.items),.int .i64 d.trailer.kind,.int .i64 d.trailer.num,.int .i64 d.trailer.gen,.str d.trailer.str,.sl (strsAV d.trailer.keys),.sl (objsAV d.trailer.kids),.row 1 0 (l).length,.int .i64 (nodes : Nat),.int .i64 0]),(1,.row 7 (entsAV l) true)]) 2 1 (fun r h n=>∃ b : ABlk,r = .ret (.tup []) ∧ h = [(0,.cells [.sl (itemsAV d.items),.int .i64 d.trailer.kind,.int .i64 d.trailer.num,.int .i64 d.trailer.gen,.str d.trailer.str,.sl (strsAV d.trailer.keys),.sl (objsAV d.trailer.kids),.row 1 0 ((thru d (k + 1) o ⟨0,nodes,l⟩).l).length,.int .i64 ((thru d (k + 1) o ⟨0,nodes,l⟩).nodes : Nat),.int .i64 (thru d (k + 1) o ⟨0,nodes,l⟩).err]),(1,.row 7 (entsAV (thru d (k + 1) o ⟨0,nodes,l⟩).l) true),(2,b)] ∧ n = 3):=by
 refine FnK.intro Tryz.func31 rfl rfl (by simp [Tryz.ntmps31]) ?_
 simp only [argEnv,Tryz.ntmps31,Tryz.results31]
 have hfo:=follow_bulk hd ho
 have hfn : nodes ≤ 4096:=hf.1
 have hfl : l.length ≤ 8191:=hf.2
 refine AW.rS ?_
 refine AW.trim [0,2,4] ?_
 refine AW.seq ?_
 refine AW.rS ?_
 refine AW.trim [0,2,4,13] ?_
 refine AW.c2 ?_ ?_
 ·intro h4
  exfalso; omega
 ·intro h4
  refine AW.skip ?_
  refine AW.seq ?_
  refine AW.rS ?_
  refine AW.trim [0,2,4,21] ?_
  refine AW.c2 ?_ ?_
  ·intro h11
   refine AW.rS ?_
   refine AW.trim [] ?_
   refine AW.rt ?_
   rw [thru_many (by omega)]
   exact ⟨_,rfl⟩
  ·intro h11
   have hnn : ¬ 4096 ≤ nodes:=by omega
   refine AW.skip ?_
   refine AW.rS ?_
   refine AW.trim [0,2,4] ?_
   refine AW.tG (σf:=?sf6) (.take 0 0 (.take 1 0 (.take 2 0 (.take 3 2 (.take 4 2 (.fork 5 (.fork 6 (.fork 7 .done .stop) .stop) (.fork 6 (.fork 5 (.fork 7 .done .stop) .stop) .stop))))))) ?tree6 ?rest6
   case tree6 =>
    repeat' (first | exact True.intro | refine awTree.tk ?_ | refine awTree.fC (c_foliantref19_Follow _ d o hd) ?_ ?_ | refine awTree.fA ?_ ?_ | exact awTree.dn)
   case rest6 =>
   skip
   skip
   skip
   refine AW.trim [0,2,6] ?_
   refine AW.tVd (σ1:=⟨83,[(0,.ptr 0 0),(2,.int .i64 dp),(7,.ptr 4 0),(8,.bool (shI d (followO d o))),(9,.ptr 5 0),(10,.bool (shH d (followO d o)))],[(0,.cells [.sl (itemsAV d.items),.int .i64 d.trailer.kind,.int .i64 d.trailer.num,.int .i64 d.trailer.gen,.str d.trailer.str,.sl (strsAV d.trailer.keys),.sl (objsAV d.trailer.kids),.row 1 0 (l).length,.int .i64 ((nodes : Int) + 1),.int .i64 0]),(1,.row 7 (entsAV l) true),(2,.cells [.int .i64 (o).kind,.int .i64 (o).num,.int .i64 (o).gen,.str (o).str,.sl (strsAV (o).keys),.sl (objsAV (o).kids)]),(3,.cells [.int .i64 ((followO d o)).kind,.int .i64 ((followO d o)).num,.int .i64 ((followO d o)).gen,.str ((followO d o)).str,.sl (strsAV ((followO d o)).keys),.sl (objsAV ((followO d o)).kids)]),(4,.cells [.int .i64 ((shK d (followO d o))).kind,.int .i64 ((shK d (followO d o))).num,.int .i64 ((shK d (followO d o))).gen,.str ((shK d (followO d o))).str,.sl (strsAV ((shK d (followO d o))).keys),.sl (objsAV ((shK d (followO d o))).kids)]),(5,.cells [.int .i64 ((shN d (followO d o))).kind,.int .i64 ((shN d (followO d o))).num,.int .i64 ((shN d (followO d o))).gen,.str ((shN d (followO d o))).str,.sl (strsAV ((shN d (followO d o))).keys),.sl (objsAV ((shN d (followO d o))).kids)])],6,gl,1,[]⟩) (.take 0 0 (.take 1 0 (.take 2 0 (.take 3 2 (.take 4 2 (.fork 5 (.take 6 0 (.take 7 0 (.take 8 0 (.take 9 0 (.take 10 0 (.fork 11 (.fork 12 (.fork 13 (.take 14 0 (.fork 15 (.take 16 0 .done) .stop)) .stop) .stop) (.fork 12 (.fork 11 (.fork 13 (.take 14 0 (.fork 15 (.take 16 0 .done) .stop)) .stop) .stop) .stop))))))) (.fork 11 (.fork 5 (.take 6 0 (.take 7 0 (.take 8 0 (.take 9 0 (.take 10 0 (.fork 12 (.fork 13 (.take 14 0 (.fork 15 (.take 16 0 .done) .stop)) .stop) .stop)))))) (.fork 12 (.fork 5 (.take 6 0 (.take 7 0 (.take 8 0 (.take 9 0 (.take 10 0 (.fork 13 (.take 14 0 (.fork 15 (.take 16 0 .done) .stop)) .stop)))))) .stop) .stop)) (.fork 12 (.fork 5 (.take 6 0 (.take 7 0 (.take 8 0 (.take 9 0 (.take 10 0 (.fork 11 (.fork 13 (.take 14 0 (.fork 15 (.take 16 0 .done) .stop)) .stop) .stop)))))) (.fork 11 (.fork 5 (.take 6 0 (.take 7 0 (.take 8 0 (.take 9 0 (.take 10 0 (.fork 13 (.take 14 0 (.fork 15 (.take 16 0 .done) .stop)) .stop)))))) .stop) .stop)) .stop)))))))) ?tree7 ?rest7
   case tree7 =>
    repeat' (first | exact True.intro | refine awTree.tk ?_ | refine awTree.fC (c_foliantref37_shape _ d (followO d o) hd hfo) ?_ ?_ | refine awTree.fA ?_ ?_ | (refine awTree.dnV trivial (St.le.vw [0,1,2,3,4,5] (henv:=?e1) (hhp:=?h1)); (case e1=>((try dsimp only) <;> (try (simp only [go_sem,seval]; iterate 2 try (simp (disch:=omega) only [zq]; try simp only [go_sem,seval]))) <;> (and_intros <;> first | exact Less.refl _ | trivial | (refine Less.int ?_; omega) | (refine Less.row ?_; first | omega | (simp; done) | (simp; omega)) | (refine Less.of_eq ?_; simp; done)))); (case h1=>((try dsimp only) <;> (try (simp only [go_sem,seval]; iterate 2 try (simp (disch:=omega) only [zq]; try simp only [go_sem,seval]))) <;> (first | rfl | (and_intros <;> first | rfl | trivial))))) | (refine awTree.dnV trivial (St.le.vw [0,1,2,3,5,4] (henv:=?e2) (hhp:=?h2)); (case e2=>((try dsimp only) <;> (try (simp only [go_sem,seval]; iterate 2 try (simp (disch:=omega) only [zq]; try simp only [go_sem,seval]))) <;> (and_intros <;> first | exact Less.refl _ | trivial | (refine Less.int ?_; omega) | (refine Less.row ?_; first | omega | (simp; done) | (simp; omega)) | (refine Less.of_eq ?_; simp; done)))); (case h2=>((try dsimp only) <;> (try (simp only [go_sem,seval]; iterate 2 try (simp (disch:=omega) only [zq]; try simp only [go_sem,seval]))) <;> (first | rfl | (and_intros <;> first | rfl | trivial))))))
   case rest7 =>
   skip
   skip
   skip
   refine AW.trim [0,2,7,8,9,10] ?_
   refine AW.seq ?_
   refine AW.rS ?_
   refine AW.trim [0,2,7,9,10,52] ?_
   refine AW.c2 ?_ ?_
   ·intro h27
    refine AW.rS ?_
    refine AW.trim [] ?_
    refine AW.vw [0,1,2] [] [(0,.cells [.sl (itemsAV d.items),.int .i64 d.trailer.kind,.int .i64 d.trailer.num,.int .i64 d.trailer.gen,.str d.trailer.str,.sl (strsAV d.trailer.keys),.sl (objsAV d.trailer.kids),.row 1 0 (l).length,.int .i64 ((nodes : Int) + 1),.int .i64 25]),(1,.row 7 (entsAV l) true),(2,.cells [.int .i64 o.kind,.int .i64 o.num,.int .i64 o.gen,.str o.str,.sl (strsAV o.keys),.sl (objsAV o.kids)])] ?_
    refine AW.rt ?_
    rw [thru_name hnn (sh_same h27)]
    exact ⟨_,rfl⟩
   ·intro h27
    have hsame : ¬ shI d (followO d o) = shH d (followO d o):=by simpa using h27
    have hNb : (shN d (followO d o)).bulk ≤ 16777216:=shN_bulk hd hfo
    have hKb : (shK d (followO d o)).bulk ≤ 16777216:=shK_bulk hd hfo
    refine AW.skip ?_
    refine AW.seq ?_
    refine AW.rS ?_
    refine AW.trim [0,2,7,9,56] ?_
    refine AW.c2 ?_ ?_
    ·intro h34
     refine AW.rSC ?_
     refine awOps.cons (awGuard.cK 1 [0,1] (h_rkeysC _ d (shN d (followO d o)) (nodes + 1) l hfl hNb) ?_)
     refine awOps.rn ?_
     refine AW.trim [] ?_
     refine AW.vw [0,6,2] [] [(0,.cells [.sl (itemsAV d.items),.int .i64 d.trailer.kind,.int .i64 d.trailer.num,.int .i64 d.trailer.gen,.str d.trailer.str,.sl (strsAV d.trailer.keys),.sl (objsAV d.trailer.kids),.row 1 0 ((keysS (shN d (followO d o)).kids (nodes + 1) l).l).length,.int .i64 ((nodes + 1 : Nat) : Nat),.int .i64 (keysS (shN d (followO d o)).kids (nodes + 1) l).err]),(1,.row 7 (entsAV (keysS (shN d (followO d o)).kids (nodes + 1) l).l) true),(2,.cells [.int .i64 o.kind,.int .i64 o.num,.int .i64 o.gen,.str o.str,.sl (strsAV o.keys),.sl (objsAV o.kids)])] ?_
     refine AW.rt ?_
     rw [thru_has hnn hsame h34,keys_nodes]
     exact ⟨_,rfl⟩
    ·intro h34
     have hth:=thru_kids (k:=k) (l:=l) (e:=0) hnn hsame (by simpa using h34)
     have hfit : fitsT ⟨0,nodes + 1,l⟩:=⟨by show nodes + 1 ≤ 4096; omega,hfl⟩
     have hkl:=kids_le (shK d (followO d o))
     rw [hth]
     generalize shK d (followO d o) = ks at *
     refine AW.skip ?_
     refine AW.rS ?_
     refine AW.trim [0,2,7,11] ?_
     refine AW.vw [0,1,4] [(0,.ptr 0 0),(2,.int .i64 dp),(7,.ptr 2 0),(11,.int .i64 0)] [(0,.cells [.sl (itemsAV d.items),.int .i64 d.trailer.kind,.int .i64 d.trailer.num,.int .i64 d.trailer.gen,.str d.trailer.str,.sl (strsAV d.trailer.keys),.sl (objsAV d.trailer.kids),.row 1 0 (l).length,.int .i64 ((nodes : Int) + 1),.int .i64 0]),(1,.row 7 (entsAV l) true),(2,.cells [.int .i64 (ks).kind,.int .i64 (ks).num,.int .i64 (ks).gen,.str (ks).str,.sl (strsAV (ks).keys),.sl (objsAV (ks).kids)])] ?_
     refine AW.block ?_
     refine AW.lk (S:={ p : Nat // p ≤ ks.kids.length }) [0,2,7] (fun s_=>[(11,.int .i64 (s_.1 : Int))]) (fun s_=>[(0,.cells [.sl (itemsAV d.items),.int .i64 d.trailer.kind,.int .i64 d.trailer.num,.int .i64 d.trailer.gen,.str d.trailer.str,.sl (strsAV d.trailer.keys),.sl (objsAV d.trailer.kids),.row 1 0 ((kS d k ks.kids ⟨0,nodes + 1,l⟩ s_.1).l).length,.int .i64 ((kS d k ks.kids ⟨0,nodes + 1,l⟩ s_.1).nodes : Nat),.int .i64 (kS d k ks.kids ⟨0,nodes + 1,l⟩ s_.1).err]),(1,.row 7 (entsAV (kS d k ks.kids ⟨0,nodes + 1,l⟩ s_.1).l) true),(2,.cells [.int .i64 (ks).kind,.int .i64 (ks).num,.int .i64 (ks).gen,.str (ks).str,.sl (strsAV (ks).keys),.sl (objsAV (ks).kids)])]) 3 (fun s_=>ks.kids.length - s_.1) ⟨0,Nat.zero_le _⟩ ?_ ?_
     ·refine St.le.vw [0,1,2]
     rintro ⟨p,hp⟩
     try dsimp only at hp
     refine AW.seq ?_
     refine AW.rS ?_
     refine AW.trim [0,2,7,11,71] ?_
     refine AW.c2 ?_ ?_
     ·intro h46
      have hp2 : p < ks.kids.length:=by omega
      have hst:=kS_step (d:=d) (k:=k) (ks:=ks.kids) (s:=⟨0,nodes + 1,l⟩) hp2
      have hft:=kS_fits (d:=d) (k:=k) (ks:=ks.kids) (s:=⟨0,nodes + 1,l⟩) p hfit
      have hbk:=Nat.le_trans (kid_bulk hp2) hKb
      refine AW.skip ?_
      refine AW.seq ?_
      generalize kS d k ks.kids ⟨0,nodes + 1,l⟩ p = t at *
      have he : t.err = 0:=h46.2
      rw [he]
      have hn : kS d k ks.kids ⟨0,nodes + 1,l⟩ (p + 1) = thru d k (ks.kids.getD p Pob.null) ⟨0,t.nodes,t.l⟩:=by rw [hst,kstep,if_neg (by simp [he]),TS_mk he]
      refine AW.block ?_
      refine AW.rLC ?_
      refine awOps.cons (awGuard.cK 1 [0,1] (ih (ks.kids.getD p Pob.null) hbk t.nodes t.l hft) ?_)
      refine awOps.rn ?_
      refine AW.rL ?_
      refine ⟨⟨p + 1,by omega⟩,?_,?_⟩
      ·dsimp only
       rw [hn]
       refine St.le.vw [0,3,2]
      ·simp only []; omega
     ·intro h46
      have hend : ks.kids.foldl (kstep d k) ⟨0,nodes + 1,l⟩ = kS d k ks.kids ⟨0,nodes + 1,l⟩ p:=by
       rcases h46 with h | h
       ·exact kS_all (by omega)
       ·exact kS_err h
      rw [hend]
      refine AW.exit ?_
      refine wk ?_
      exact ⟨_,rfl⟩
theorem h_rnode (gl : List (Nat × AV)) (d : Dc) (hd : d.bulk ≤ 16777216) : ∀ (k : Nat) (dp : Int) (hk : dp + k = 25) (hdp : 1 ≤ dp) (o : Pob) (ho : o.bulk ≤ 16777216) (nodes : Nat) (l : List En) (hf : fitsT ⟨0,nodes,l⟩),
  FnK Tryz.prog gl 31 [.ptr 0 0,.agg o.cells,.int .i64 dp] [(0,.cells [.sl (itemsAV d.items),.int .i64 d.trailer.kind,.int .i64 d.trailer.num,.int .i64 d.trailer.gen,.str d.trailer.str,.sl (strsAV d.trailer.keys),.sl (objsAV d.trailer.kids),.row 1 0 (l).length,.int .i64 (nodes : Nat),.int .i64 0]),(1,.row 7 (entsAV l) true)] 2 1 fun r h n=>r = .ret (.tup []) ∧ h = [(0,.cells [.sl (itemsAV d.items),.int .i64 d.trailer.kind,.int .i64 d.trailer.num,.int .i64 d.trailer.gen,.str d.trailer.str,.sl (strsAV d.trailer.keys),.sl (objsAV d.trailer.kids),.row 1 0 ((thru d k o ⟨0,nodes,l⟩).l).length,.int .i64 ((thru d k o ⟨0,nodes,l⟩).nodes : Nat),.int .i64 (thru d k o ⟨0,nodes,l⟩).err]),(1,.row 7 (entsAV (thru d k o ⟨0,nodes,l⟩).l) true)] ∧ n = 2:=by
 intro k
 induction k with
 | zero =>
  intro dp hk hdp o ho nodes l hf
  exact FnK.cutE (h_rnode_zero gl d dp (by omega) o nodes l) [0,1] (by decide) (by decide) (fun b=>by simp only [go_sem,seval]) (by simp only [go_sem,seval])
 | succ k ih =>
  intro dp hk hdp o ho nodes l hf
  exact FnK.cutE (h_rnode_succ gl d hd k dp (by omega) hdp (fun o ho nodes l hf=>ih (dp + 1) (by omega) (by omega) o ho nodes l hf) o ho nodes l hf) [0,1] (by decide) (by decide) (fun b=>by simp only [go_sem,seval]) (by simp only [go_sem,seval])
theorem down_bulk {d : Dc} {key : List UInt8} {k : Pob} (h0 : (downO d key k.kids).1 = 0) (hk : k.bulk ≤ 16777216) : (downO d key k.kids).2.bulk ≤ 16777216:=by
 obtain ⟨i,hi,hx⟩:=down_mem d key k.kids h0
 rw [hx]
 exact Nat.le_trans (kid_bulk hi) hk
theorem readNE_doc {d : Dc} {o : Pob} (h : docE d ≠ 0) : readNE d o = docE d ∧ readNL d o = []:=by
 have e : readNE d o = docE d:=if_pos h
 exact ⟨e,by rw [readNL,if_pos (by rw [e]; exact h)]⟩
theorem readNE_null {d : Dc} {o : Pob} (h : docE d = 0) (hn : (followO d o).kind = 0) : readNE d o = 8 ∧ readNL d o = []:=by
 have e : readNE d o = 8:=by rw [readNE,if_neg (by simp [h]),if_pos hn]
 exact ⟨e,by rw [readNL,if_pos (by rw [e]; decide)]⟩
theorem readNE_thru {d : Dc} {o : Pob} (h : docE d = 0) (hn : ¬ (followO d o).kind = 0) : readNE d o = (thru d 24 o ⟨0,0,[]⟩).err ∧ readNL d o = if (thru d 24 o ⟨0,0,[]⟩).err ≠ 0 then [] else (thru d 24 o ⟨0,0,[]⟩).l:=by
 have e : readNE d o = (readT d o).err:=by rw [readNE,if_neg (by simp [h]),if_neg hn]
 exact ⟨e,by rw [readNL,e]; rfl⟩
theorem c_foliantref37_Read (gl : List (Nat × AV)) (d : Dc) (o : Pob) (h : d.bulk ≤ 16777216) (ho : o.bulk ≤ 16777216) (ht : d.tot ≤ 16777216) : FnP Tryz.prog (gl) 11 [.agg d.cells,.agg o.cells] fun r=>r = .ret (.tup [.sl (entsAV (readNL d o)),.int .i64 (readNE d o)]):=by
 refine FnP.intro Tryz.func11 rfl rfl (by simp [Tryz.ntmps11]) ?_
 simp only [argEnv,Tryz.ntmps11,Tryz.results11]
 refine AW.rS ?_
 refine AW.trim [2,3] ?_
 refine AW.seq ?_
 refine AW.rSC ?_
 refine awOps.cons (awGuard.c1 (c_foliantref19_Check _ d ht) ?_)
 refine awOps.rn ?_
 refine AW.trim [2,3,6] ?_
 refine AW.rS ?_
 refine AW.trim [2,3,6,11] ?_
 refine AW.c2 ?_ ?_
 ·intro h7
  refine AW.rS ?_
  refine AW.trim [4,5] ?_
  refine AW.rt ?_
  rw [(readNE_doc (by simpa using h7)).1,(readNE_doc (by simpa using h7)).2]
  rfl
 ·intro h7
  have hdoc : docE d = 0:=by simpa using h7
  refine AW.skip ?_
  refine AW.seq ?_
  refine AW.rSC ?_
  refine awOps.cons (awGuard.c1 (c_foliantref19_Follow _ d o h) ?_)
  refine awOps.rn ?_
  refine AW.trim [2,3,17] ?_
  refine AW.c2 ?_ ?_
  ·intro h16
   refine AW.rS ?_
   refine AW.trim [4,5] ?_
   refine AW.rt ?_
   rw [(readNE_null hdoc (by simpa using h16)).1,(readNE_null hdoc (by simpa using h16)).2]
   rfl
  ·intro h16
   have hr:=readNE_thru hdoc (by simpa using h16)
   refine AW.skip ?_
   refine AW.rS ?_
   refine AW.trim [3,7] ?_
   refine AW.pre (St.le.nilcell 2 7 7 rfl rfl) ?_
   refine AW.rSC ?_
   refine awOps.cons (awGuard.cK 1 [2,3] (h_rnode _ d h 24 1 (by decide) (by decide) o ho 0 [] ⟨by decide,by decide⟩) ?_)
   refine awOps.rn ?_
   refine AW.trim [7] ?_
   refine AW.seq ?_
   refine AW.rS ?_
   refine AW.trim [7,28] ?_
   refine AW.c2 ?_ ?_
   ·intro h27
    refine AW.dS [(0,0),(1,0),(2,0),(3,1),(4,0),(5,0)] ?_
    refine AW.trim [4,5] ?_
    refine AW.rt ?_
    rw [hr.1,hr.2,if_pos (by simpa using h27)]
    rfl
   ·intro h27
    refine AW.skip ?_
    refine AW.rS ?_
    refine AW.trim [4,5] ?_
    refine AW.rt ?_
    rw [hr.1,hr.2,if_neg (by simpa using h27),h27,entsAV_take,List.take_length]
    exact ⟨by rw [entsAV_length]; exact Nat.le_refl _,rfl⟩
theorem c_foliantref37_Find (gl : List (Nat × AV)) (d : Dc) (o : Pob) (key : List UInt8) (h : d.bulk ≤ 16777216) (ho : o.bulk ≤ 16777216) (ht : d.tot ≤ 16777216) : FnP Tryz.prog (gl) 13 [.agg d.cells,.agg o.cells,.str key] fun r=>r = .ret (.tup [.agg (findN d o key).2.cells,.int .i64 (findN d o key).1]):=by
 refine FnP.intro Tryz.func13 rfl rfl (by simp [Tryz.ntmps13]) ?_
 simp only [argEnv,Tryz.ntmps13,Tryz.results13]
 refine AW.rS ?_
 refine AW.trim [2,3,4,6] ?_
 refine AW.seq ?_
 refine AW.rSC ?_
 refine awOps.cons (awGuard.c1 (c_foliantref19_Check _ d ht) ?_)
 refine awOps.rn ?_
 refine AW.trim [2,3,4,6,8] ?_
 refine AW.rS ?_
 refine AW.trim [2,3,4,6,8,19] ?_
 refine AW.c2 ?_ ?_
 ·intro h7
  refine AW.rS ?_
  refine AW.trim [6,7] ?_
  refine AW.rt ?_
  rw [findN,if_pos (by simpa using h7)]
  rfl
 ·intro h7
  have hdoc : docE d = 0:=by simpa using h7
  refine AW.skip ?_
  refine AW.seq ?_
  refine AW.rSC ?_
  refine awOps.cons (awGuard.c1 (c_foliantref19_Follow _ d o h) ?_)
  refine awOps.rn ?_
  refine AW.trim [2,3,4,6,26] ?_
  refine AW.c2 ?_ ?_
  ·intro h16
   refine AW.rS ?_
   refine AW.trim [6,7] ?_
   refine AW.rt ?_
   rw [findN,if_neg (by simp [hdoc]),if_pos (by simpa using h16)]
   rfl
  ·intro h16
   have hfi : findN d o key = findT d key 24 o:=by rw [findN,if_neg (by simp [hdoc]),if_neg (by simpa using h16)]
   rw [hfi]
   refine AW.skip ?_
   refine AW.seq ?_
   refine AW.rS ?_
   refine AW.trim [2,3,4,6,9] ?_
   refine AW.block ?_
   refine AW.lk (S:={ x : Nat × Pob // x.1 ≤ 24 ∧ x.2.bulk ≤ 16777216 ∧ findT d key 24 o = findT d key (24 - x.1) x.2 }) [2,3,4,6] (fun s_=>[(9,.int .i64 ((s_.1.1 : Int) + 1))]) (fun s_=>[(0,.cells [.sl (itemsAV d.items),.int .i64 d.trailer.kind,.int .i64 d.trailer.num,.int .i64 d.trailer.gen,.str d.trailer.str,.sl (strsAV d.trailer.keys),.sl (objsAV d.trailer.kids)]),(1,.cells [.int .i64 (s_.1.2).kind,.int .i64 (s_.1.2).num,.int .i64 (s_.1.2).gen,.str (s_.1.2).str,.sl (strsAV (s_.1.2).keys),.sl (objsAV (s_.1.2).kids)]),(2,.cells [.int .i64 0,.int .i64 0,.int .i64 0,.str [],.raw (.slice none 0 0),.raw (.slice none 0 0)])]) 3 (fun s_=>24 - s_.1.1) ⟨(0,o),Nat.zero_le _,ho,rfl⟩ ?_ ?_
   ·refine St.le.vw [0,1,2]
   rintro ⟨⟨p,q⟩,hp,hq,he⟩
   try dsimp only at hp
   try dsimp only at hq
   try dsimp only at he
   refine AW.seq ?_
   refine AW.rS ?_
   refine AW.trim [2,3,4,6,9,29] ?_
   refine AW.c2 ?_ ?_
   ·intro h27
    have hfq:=follow_bulk h hq
    have hp2 : 24 - p = (24 - (p + 1)) + 1:=by omega
    rw [hp2] at he
    refine AW.skip ?_
    refine AW.seq ?_
    refine AW.block ?_
    refine AW.tVd (σ1:=⟨65,[(2,.str key),(3,.ptr 0 0),(4,.ptr 1 0),(6,.ptr 2 0),(9,.int .i64 ((p : Int) + 1)),(10,.ptr 3 0),(11,.bool (shI d (followO d q))),(12,.ptr 4 0),(13,.bool (shH d (followO d q)))],[(0,.cells [.sl (itemsAV d.items),.int .i64 d.trailer.kind,.int .i64 d.trailer.num,.int .i64 d.trailer.gen,.str d.trailer.str,.sl (strsAV d.trailer.keys),.sl (objsAV d.trailer.kids)]),(1,.cells [.int .i64 (q).kind,.int .i64 (q).num,.int .i64 (q).gen,.str (q).str,.sl (strsAV (q).keys),.sl (objsAV (q).kids)]),(2,.cells [.int .i64 0,.int .i64 0,.int .i64 0,.str [],.raw (.slice none 0 0),.raw (.slice none 0 0)]),(3,.cells [.int .i64 ((shK d (followO d q))).kind,.int .i64 ((shK d (followO d q))).num,.int .i64 ((shK d (followO d q))).gen,.str ((shK d (followO d q))).str,.sl (strsAV ((shK d (followO d q))).keys),.sl (objsAV ((shK d (followO d q))).kids)]),(4,.cells [.int .i64 ((shN d (followO d q))).kind,.int .i64 ((shN d (followO d q))).num,.int .i64 ((shN d (followO d q))).gen,.str ((shN d (followO d q))).str,.sl (strsAV ((shN d (followO d q))).keys),.sl (objsAV ((shN d (followO d q))).kids)])],5,gl,0,[]⟩) (.take 1 2 (.take 2 2 (.fork 0 (.fork 3 (.fork 4 (.take 5 0 (.take 6 0 (.take 7 0 (.take 8 0 (.take 9 0 (.fork 10 (.fork 11 (.fork 12 (.take 13 0 (.fork 14 (.take 15 0 .done) .stop)) .stop) .stop) (.fork 11 (.fork 10 (.fork 12 (.take 13 0 (.fork 14 (.take 15 0 .done) .stop)) .stop) .stop) .stop))))))) (.fork 10 (.fork 4 (.take 5 0 (.take 6 0 (.take 7 0 (.take 8 0 (.take 9 0 (.fork 11 (.fork 12 (.take 13 0 (.fork 14 (.take 15 0 .done) .stop)) .stop) .stop)))))) (.fork 11 (.fork 4 (.take 5 0 (.take 6 0 (.take 7 0 (.take 8 0 (.take 9 0 (.fork 12 (.take 13 0 (.fork 14 (.take 15 0 .done) .stop)) .stop)))))) .stop) .stop)) (.fork 11 (.fork 4 (.take 5 0 (.take 6 0 (.take 7 0 (.take 8 0 (.take 9 0 (.fork 10 (.fork 12 (.take 13 0 (.fork 14 (.take 15 0 .done) .stop)) .stop) .stop)))))) (.fork 10 (.fork 4 (.take 5 0 (.take 6 0 (.take 7 0 (.take 8 0 (.take 9 0 (.fork 12 (.take 13 0 (.fork 14 (.take 15 0 .done) .stop)) .stop)))))) .stop) .stop)) .stop))) (.fork 10 (.fork 3 (.fork 4 (.take 5 0 (.take 6 0 (.take 7 0 (.take 8 0 (.take 9 0 (.fork 11 (.fork 12 (.take 13 0 (.fork 14 (.take 15 0 .done) .stop)) .stop) .stop)))))) (.fork 11 (.fork 4 (.take 5 0 (.take 6 0 (.take 7 0 (.take 8 0 (.take 9 0 (.fork 12 (.take 13 0 (.fork 14 (.take 15 0 .done) .stop)) .stop)))))) .stop) .stop)) (.fork 11 (.fork 3 (.fork 4 (.take 5 0 (.take 6 0 (.take 7 0 (.take 8 0 (.take 9 0 (.fork 12 (.take 13 0 (.fork 14 (.take 15 0 .done) .stop)) .stop)))))) .stop) .stop) .stop)) (.fork 11 (.fork 3 (.fork 4 (.take 5 0 (.take 6 0 (.take 7 0 (.take 8 0 (.take 9 0 (.fork 10 (.fork 12 (.take 13 0 (.fork 14 (.take 15 0 .done) .stop)) .stop) .stop)))))) (.fork 10 (.fork 4 (.take 5 0 (.take 6 0 (.take 7 0 (.take 8 0 (.take 9 0 (.fork 12 (.take 13 0 (.fork 14 (.take 15 0 .done) .stop)) .stop)))))) .stop) .stop)) (.fork 10 (.fork 3 (.fork 4 (.take 5 0 (.take 6 0 (.take 7 0 (.take 8 0 (.take 9 0 (.fork 12 (.take 13 0 (.fork 14 (.take 15 0 .done) .stop)) .stop)))))) .stop) .stop) .stop)) .stop))) (.fork 3 (.take 0 2 (.fork 4 (.take 5 0 (.take 6 0 (.take 7 0 (.take 8 0 (.take 9 0 (.fork 10 (.fork 11 (.fork 12 (.take 13 0 (.fork 14 (.take 15 0 .done) .stop)) .stop) .stop) (.fork 11 (.fork 10 (.fork 12 (.take 13 0 (.fork 14 (.take 15 0 .done) .stop)) .stop) .stop) .stop))))))) (.fork 10 (.fork 4 (.take 5 0 (.take 6 0 (.take 7 0 (.take 8 0 (.take 9 0 (.fork 11 (.fork 12 (.take 13 0 (.fork 14 (.take 15 0 .done) .stop)) .stop) .stop)))))) (.fork 11 (.fork 4 (.take 5 0 (.take 6 0 (.take 7 0 (.take 8 0 (.take 9 0 (.fork 12 (.take 13 0 (.fork 14 (.take 15 0 .done) .stop)) .stop)))))) .stop) .stop)) (.fork 11 (.fork 4 (.take 5 0 (.take 6 0 (.take 7 0 (.take 8 0 (.take 9 0 (.fork 10 (.fork 12 (.take 13 0 (.fork 14 (.take 15 0 .done) .stop)) .stop) .stop)))))) (.fork 10 (.fork 4 (.take 5 0 (.take 6 0 (.take 7 0 (.take 8 0 (.take 9 0 (.fork 12 (.take 13 0 (.fork 14 (.take 15 0 .done) .stop)) .stop)))))) .stop) .stop)) .stop)))) (.fork 10 (.fork 0 (.fork 3 (.fork 4 (.take 5 0 (.take 6 0 (.take 7 0 (.take 8 0 (.take 9 0 (.fork 11 (.fork 12 (.take 13 0 (.fork 14 (.take 15 0 .done) .stop)) .stop) .stop)))))) (.fork 11 (.fork 4 (.take 5 0 (.take 6 0 (.take 7 0 (.take 8 0 (.take 9 0 (.fork 12 (.take 13 0 (.fork 14 (.take 15 0 .done) .stop)) .stop)))))) .stop) .stop)) (.fork 11 (.fork 3 (.fork 4 (.take 5 0 (.take 6 0 (.take 7 0 (.take 8 0 (.take 9 0 (.fork 12 (.take 13 0 (.fork 14 (.take 15 0 .done) .stop)) .stop)))))) .stop) .stop) .stop)) (.fork 3 (.take 0 2 (.fork 4 (.take 5 0 (.take 6 0 (.take 7 0 (.take 8 0 (.take 9 0 (.fork 11 (.fork 12 (.take 13 0 (.fork 14 (.take 15 0 .done) .stop)) .stop) .stop)))))) (.fork 11 (.fork 4 (.take 5 0 (.take 6 0 (.take 7 0 (.take 8 0 (.take 9 0 (.fork 12 (.take 13 0 (.fork 14 (.take 15 0 .done) .stop)) .stop)))))) .stop) .stop))) (.fork 11 (.fork 0 (.fork 3 (.fork 4 (.take 5 0 (.take 6 0 (.take 7 0 (.take 8 0 (.take 9 0 (.fork 12 (.take 13 0 (.fork 14 (.take 15 0 .done) .stop)) .stop)))))) .stop) .stop) (.fork 3 (.take 0 2 (.fork 4 (.take 5 0 (.take 6 0 (.take 7 0 (.take 8 0 (.take 9 0 (.fork 12 (.take 13 0 (.fork 14 (.take 15 0 .done) .stop)) .stop)))))) .stop)) .stop)) .stop))) (.fork 11 (.fork 0 (.fork 3 (.fork 4 (.take 5 0 (.take 6 0 (.take 7 0 (.take 8 0 (.take 9 0 (.fork 10 (.fork 12 (.take 13 0 (.fork 14 (.take 15 0 .done) .stop)) .stop) .stop)))))) (.fork 10 (.fork 4 (.take 5 0 (.take 6 0 (.take 7 0 (.take 8 0 (.take 9 0 (.fork 12 (.take 13 0 (.fork 14 (.take 15 0 .done) .stop)) .stop)))))) .stop) .stop)) (.fork 10 (.fork 3 (.fork 4 (.take 5 0 (.take 6 0 (.take 7 0 (.take 8 0 (.take 9 0 (.fork 12 (.take 13 0 (.fork 14 (.take 15 0 .done) .stop)) .stop)))))) .stop) .stop) .stop)) (.fork 3 (.take 0 2 (.fork 4 (.take 5 0 (.take 6 0 (.take 7 0 (.take 8 0 (.take 9 0 (.fork 10 (.fork 12 (.take 13 0 (.fork 14 (.take 15 0 .done) .stop)) .stop) .stop)))))) (.fork 10 (.fork 4 (.take 5 0 (.take 6 0 (.take 7 0 (.take 8 0 (.take 9 0 (.fork 12 (.take 13 0 (.fork 14 (.take 15 0 .done) .stop)) .stop)))))) .stop) .stop))) (.fork 10 (.fork 0 (.fork 3 (.fork 4 (.take 5 0 (.take 6 0 (.take 7 0 (.take 8 0 (.take 9 0 (.fork 12 (.take 13 0 (.fork 14 (.take 15 0 .done) .stop)) .stop)))))) .stop) .stop) (.fork 3 (.take 0 2 (.fork 4 (.take 5 0 (.take 6 0 (.take 7 0 (.take 8 0 (.take 9 0 (.fork 12 (.take 13 0 (.fork 14 (.take 15 0 .done) .stop)) .stop)))))) .stop)) .stop)) .stop))) .stop)))))) ?tree9 ?rest9
    case tree9 =>
     repeat' (first | exact True.intro | refine awTree.tk ?_ | refine awTree.fC (c_foliantref19_Follow _ d q h) ?_ ?_ | refine awTree.fC (c_foliantref37_shape _ d (followO d q) h hfq) ?_ ?_ | refine awTree.fA ?_ ?_ | (refine awTree.dnV trivial (St.le.vw [0,1,2,3,4] (henv:=?e3) (hhp:=?h3)); (case e3=>((try dsimp only) <;> (try (simp only [go_sem,seval]; iterate 2 try (simp (disch:=omega) only [zq]; try simp only [go_sem,seval]))) <;> (and_intros <;> first | exact Less.refl _ | trivial | (refine Less.int ?_; omega) | (refine Less.row ?_; first | omega | (simp; done) | (simp; omega)) | (refine Less.of_eq ?_; simp; done)))); (case h3=>((try dsimp only) <;> (try (simp only [go_sem,seval]; iterate 2 try (simp (disch:=omega) only [zq]; try simp only [go_sem,seval]))) <;> (first | rfl | (and_intros <;> first | rfl | trivial))))) | (refine awTree.dnV trivial (St.le.vw [0,1,2,4,3] (henv:=?e4) (hhp:=?h4)); (case e4=>((try dsimp only) <;> (try (simp only [go_sem,seval]; iterate 2 try (simp (disch:=omega) only [zq]; try simp only [go_sem,seval]))) <;> (and_intros <;> first | exact Less.refl _ | trivial | (refine Less.int ?_; omega) | (refine Less.row ?_; first | omega | (simp; done) | (simp; omega)) | (refine Less.of_eq ?_; simp; done)))); (case h4=>((try dsimp only) <;> (try (simp only [go_sem,seval]; iterate 2 try (simp (disch:=omega) only [zq]; try simp only [go_sem,seval]))) <;> (first | rfl | (and_intros <;> first | rfl | trivial))))))
    case rest9 =>
    skip
    skip
    skip
    refine AW.trim [2,3,4,6,9,10,11,12,13] ?_
    refine AW.seq ?_
    refine AW.rS ?_
    refine AW.trim [2,3,4,6,9,10,12,13,44] ?_
    refine AW.c2 ?_ ?_
    ·intro h37
     refine AW.rS ?_
     refine AW.trim [6,7] ?_
     refine AW.rt ?_
     rw [he,find_name (sh_same h37)]
     rfl
    ·intro h37
     have hsame : ¬ shI d (followO d q) = shH d (followO d q):=by simpa using h37
     refine AW.skip ?_
     refine AW.seq ?_
     refine AW.rS ?_
     refine AW.trim [2,3,4,6,9,10,12,46] ?_
     refine AW.c2 ?_ ?_
     ·intro h44
      refine AW.rSC ?_
      refine awOps.cons (awGuard.c1 (c_foliantref37_within _ (shN d (followO d q)) key (shN_bulk h hfq)) ?_)
      refine awOps.rn ?_
      refine AW.trim [6,7] ?_
      refine AW.rt ?_
      rw [he,find_has hsame (by simpa using h44)]
     ·intro h44
      have hk2:=find_kids2 (key:=key) (k:=24 - (p + 1)) hsame (by simpa using h44)
      rw [hk2] at he
      refine AW.skip ?_
      refine AW.rSC ?_
      refine awOps.cons (awGuard.c1 (c_foliantref37_into _ d (shK d (followO d q)) key h (shK_bulk h hfq)) ?_)
      refine awOps.rn ?_
      refine AW.trim [2,3,4,6,9,14,15] ?_
      refine AW.seq ?_
      refine AW.rS ?_
      refine AW.trim [2,3,4,6,9,14,15,60] ?_
      refine AW.c2 ?_ ?_
      ·intro h56
       refine AW.rS ?_
       refine AW.trim [6,7] ?_
       refine AW.rt ?_
       rw [he,if_pos (by simpa using h56)]
       rfl
      ·intro h56
       refine AW.skip ?_
       refine AW.rL ?_
       refine AW.rL ?_
       refine ⟨⟨(p + 1,(downO d key (shK d (followO d q)).kids).2),by dsimp only; omega,down_bulk (by simpa using h56) (shK_bulk h hfq),by rw [he,if_neg (by simpa using h56)]⟩,?_,?_⟩
       ·refine St.le.vw [0,1,2]
       ·simp only []; omega
   ·intro h27
    refine AW.exit ?_
    refine AW.rS ?_
    refine AW.trim [6,7] ?_
    refine AW.rt ?_
    rw [he,show 24 - p = 0 from by omega,findT]
    rfl
attribute [local go_sem] Gr.cells
theorem h_add_lim (gl : List (Nat × AV)) (d : Dc) (low : Bool) (l : List Pob) (lo hi : List UInt8) (hb : d.bulk + (arrO l).bulk ≤ 3000000) : FnK Tryz.prog (gl) 44 [.ptr 0 0,.str (if low = true then namesK else kidsK),.sl (objsAV l),.str lo,.str hi,.bool true] ([(0,.cells d.cells)]) 1 1 (fun r h n=>((addE d (nodeO low l lo hi true) = 0) ∧ r = .ret (.agg (Gr.mk (addN d (nodeO low l lo hi true)) lo hi).cells) ∧ h = [(0,.cells (addO d (nodeO low l lo hi true)).cells),(1,.cells [.int .i64 (addN d (nodeO low l lo hi true)),.str lo,.str hi])] ∧ n = 2) ∨ (¬ (addE d (nodeO low l lo hi true) = 0) ∧ r = .panic (.iface 105 (.int .i64 (addE d (nodeO low l lo hi true)))) ∧ 1 ≤ n)):=by
 refine FnK.intro Tryz.func44 rfl rfl (by simp [Tryz.ntmps44]) ?_
 simp only [argEnv,Tryz.ntmps44,Tryz.results44]
 have hnb:=node_bulk low l lo hi true
 have hpb:=nodePs_bulk low l lo hi true
 refine AW.rS ?_
 refine AW.trim [0,1,2,3,4,5,12] ?_
 refine AW.rSC ?_
 refine awOps.cons (awGuard.c1 (c_value_Name _ (if low = true then namesK else kidsK)) ?_)
 refine awOps.rn ?_
 refine awOps.cons (awGuard.c1 (c_value_Array _ l (by omega)) ?_)
 refine awOps.rn ?_
 refine AW.trim [0,3,4,5,12,13] ?_
 refine AW.seq ?_
 refine AW.rS ?_
 refine AW.trim [0,3,4,12,13,25] ?_
 refine AW.c2 ?_ ?_
 ·intro h9
  refine AW.rLC ?_
  refine awOps.cons (awGuard.c1 (c_value_Name _ limsK) ?_)
  refine awOps.rn ?_
  refine awOps.cons (awGuard.c1 (c_value_String _ lo) ?_)
  refine awOps.rn ?_
  refine awOps.cons (awGuard.c1 (c_value_String _ hi) ?_)
  refine awOps.rn ?_
  refine awOps.cons (awGuard.c1 (c_value_Array _ [strO lo,strO hi] (by have:=limO_bulk lo hi; rw [limO] at this; omega)) ?_)
  refine awOps.rn ?_
  refine AW.seq ?_
  refine AW.rSC ?_
  refine awOps.cons (awGuard.c1 (c_docs_Free _ d (by omega)) ?_)
  refine awOps.rn ?_
  refine AW.trim [0,3,4,12,13,15] ?_
  refine AW.rS ?_
  refine AW.trim [0,3,4,12,13,15,45] ?_
  refine AW.c2 ?_ ?_
  ·intro h24
   refine AW.rLC ?_
   refine awOps.cons (awGuard.pn ?_)
   refine wk ?_
   exact .inr ⟨by rw [(add_free h24).1]; exact h24,by rw [(add_free h24).1]⟩
  ·intro h24
   refine AW.skip ?_
   refine AW.rSC ?_
   refine awOps.cons (awGuard.c1 (c_value_Dict _ (nodePs low l lo hi true) (by omega)) ?_)
   refine awOps.rn ?_
   refine AW.trim [0,3,4,12,16,17] ?_
   refine AW.seq ?_
   refine AW.rS ?_
   refine AW.trim [0,3,4,12,16,17,54] ?_
   refine AW.c2 ?_ ?_
   ·intro h34
    refine AW.rLC ?_
    refine awOps.cons (awGuard.pn ?_)
    refine wk ?_
    have e:=add_chk (o:=nodeO low l lo hi true) h24 (by rw [← node_E]; exact h34)
    exact .inr ⟨by rw [e,← node_E]; exact h34,by rw [e,node_E]⟩
   ·intro h34
    have e : dictO (nodePs low l lo hi true) = nodeO low l lo hi true:=by rw [node_O,if_pos (by rw [← node_E]; simpa using h34)]
    rw [e]
    refine AW.skip ?_
    refine AW.tG (σf:=?sf10) (.take 0 0 (.take 1 0 (.take 2 0 (.fork 3 (.fork 4 (.fork 5 (.take 6 0 (.take 7 0 (.take 8 0 (.take 9 0 (.fork 10 (.fork 11 (.take 12 0 (.take 13 0 .done)) .stop) .stop))))) (.fork 10 (.fork 5 (.take 6 0 (.take 7 0 (.take 8 0 (.take 9 0 (.fork 11 (.take 12 0 (.take 13 0 .done)) .stop))))) .stop) .stop)) (.fork 10 (.fork 4 (.fork 5 (.take 6 0 (.take 7 0 (.take 8 0 (.take 9 0 (.fork 11 (.take 12 0 (.take 13 0 .done)) .stop))))) .stop) .stop) .stop)) (.fork 4 (.fork 3 (.fork 5 (.take 6 0 (.take 7 0 (.take 8 0 (.take 9 0 (.fork 10 (.fork 11 (.take 12 0 (.take 13 0 .done)) .stop) .stop))))) (.fork 10 (.fork 5 (.take 6 0 (.take 7 0 (.take 8 0 (.take 9 0 (.fork 11 (.take 12 0 (.take 13 0 .done)) .stop))))) .stop) .stop)) (.fork 10 (.fork 3 (.fork 5 (.take 6 0 (.take 7 0 (.take 8 0 (.take 9 0 (.fork 11 (.take 12 0 (.take 13 0 .done)) .stop))))) .stop) .stop) .stop)) (.fork 10 (.fork 3 (.fork 4 (.fork 5 (.take 6 0 (.take 7 0 (.take 8 0 (.take 9 0 (.fork 11 (.take 12 0 (.take 13 0 .done)) .stop))))) .stop) .stop) (.fork 4 (.fork 3 (.fork 5 (.take 6 0 (.take 7 0 (.take 8 0 (.take 9 0 (.fork 11 (.take 12 0 (.take 13 0 .done)) .stop))))) .stop) .stop) .stop)) .stop)))))) ?tree10 ?rest10
    case tree10 =>
     refine awTree.tk ?_
     refine awTree.tk ?_
     refine awTree.tk ?_
     refine awTree.fA ?_ ?_
     ·refine awTree.fA ?_ ?_
      ·refine awTree.fC (c_docs_Add _ d (nodeO low l lo hi true) (by omega)) ?_ ?_
       ·refine awTree.tk ?_
        refine awTree.tk ?_
        refine awTree.tk ?_
        refine awTree.tk ?_
        refine awTree.fA ?_ trivial
        refine awTree.fA ?_ trivial
        refine awTree.tk ?_
        refine awTree.tk ?_
        exact awTree.dn
       ·refine awTree.fA ?_ trivial
        refine awTree.fC (c_docs_Add _ d (nodeO low l lo hi true) (by omega)) ?_ trivial
        refine awTree.tk ?_
        refine awTree.tk ?_
        refine awTree.tk ?_
        refine awTree.tk ?_
        refine awTree.fA ?_ trivial
        refine awTree.tk ?_
        refine awTree.tk ?_
        exact awTree.dn
      ·refine awTree.fA ?_ trivial
       refine awTree.fA ?_ trivial
       refine awTree.fC (c_docs_Add _ d (nodeO low l lo hi true) (by omega)) ?_ trivial
       refine awTree.tk ?_
       refine awTree.tk ?_
       refine awTree.tk ?_
       refine awTree.tk ?_
       refine awTree.fA ?_ trivial
       refine awTree.tk ?_
       refine awTree.tk ?_
       exact awTree.dn
     ·refine awTree.fA ?_ ?_
      ·refine awTree.fA ?_ ?_
       ·refine awTree.fC (c_docs_Add _ d (nodeO low l lo hi true) (by omega)) ?_ ?_
        ·refine awTree.tk ?_
         refine awTree.tk ?_
         refine awTree.tk ?_
         refine awTree.tk ?_
         refine awTree.fA ?_ trivial
         refine awTree.fA ?_ trivial
         refine awTree.tk ?_
         refine awTree.tk ?_
         exact awTree.dn
        ·refine awTree.fA ?_ trivial
         refine awTree.fC (c_docs_Add _ d (nodeO low l lo hi true) (by omega)) ?_ trivial
         refine awTree.tk ?_
         refine awTree.tk ?_
         refine awTree.tk ?_
         refine awTree.tk ?_
         refine awTree.fA ?_ trivial
         refine awTree.tk ?_
         refine awTree.tk ?_
         exact awTree.dn
       ·refine awTree.fA ?_ trivial
        refine awTree.fA ?_ trivial
        refine awTree.fC (c_docs_Add _ d (nodeO low l lo hi true) (by omega)) ?_ trivial
        refine awTree.tk ?_
        refine awTree.tk ?_
        refine awTree.tk ?_
        refine awTree.tk ?_
        refine awTree.fA ?_ trivial
        refine awTree.tk ?_
        refine awTree.tk ?_
        exact awTree.dn
      ·refine awTree.fA ?_ trivial
       refine awTree.fA ?_ ?_
       ·refine awTree.fA ?_ trivial
        refine awTree.fC (c_docs_Add _ d (nodeO low l lo hi true) (by omega)) ?_ trivial
        refine awTree.tk ?_
        refine awTree.tk ?_
        refine awTree.tk ?_
        refine awTree.tk ?_
        refine awTree.fA ?_ trivial
        refine awTree.tk ?_
        refine awTree.tk ?_
        exact awTree.dn
       ·refine awTree.fA ?_ trivial
        refine awTree.fA ?_ trivial
        refine awTree.fC (c_docs_Add _ d (nodeO low l lo hi true) (by omega)) ?_ trivial
        refine awTree.tk ?_
        refine awTree.tk ?_
        refine awTree.tk ?_
        refine awTree.tk ?_
        refine awTree.fA ?_ trivial
        refine awTree.tk ?_
        refine awTree.tk ?_
        exact awTree.dn
    skip
    skip
    skip
    refine AW.trim [0,3,4,12,17,18,19] ?_
    refine AW.seq ?_
    refine AW.rS ?_
    refine AW.trim [0,3,4,12,17,18,19,68] ?_
    refine AW.c2 ?_ ?_
    ·intro h45
     refine AW.rLC ?_
     refine awOps.cons (awGuard.pn ?_)
     refine wk ?_
     exact .inr h45
    ·intro h45
     refine AW.skip ?_
     refine AW.rS ?_
     refine AW.trim [3,4,12,19] ?_
     refine AW.rS ?_
     refine AW.trim [12] ?_
     refine AW.vw [0,1] [(12,.ptr 1 0)] [(0,.cells (addO d (nodeO low l lo hi true)).cells),(1,.cells [.int .i64 (addN d (nodeO low l lo hi true)),.str lo,.str hi])] ?_
     refine AW.rt ?_
     exact .inl h45
 ·intro h9
  simp at h9
theorem h_add_bare (gl : List (Nat × AV)) (d : Dc) (low : Bool) (l : List Pob) (lo hi : List UInt8) (hb : d.bulk + (arrO l).bulk ≤ 3000000) : FnK Tryz.prog (gl) 44 [.ptr 0 0,.str (if low = true then namesK else kidsK),.sl (objsAV l),.str lo,.str hi,.bool false] ([(0,.cells d.cells)]) 1 1 (fun r h n=>((addE d (nodeO low l lo hi false) = 0) ∧ r = .ret (.agg (Gr.mk (addN d (nodeO low l lo hi false)) lo hi).cells) ∧ h = [(0,.cells (addO d (nodeO low l lo hi false)).cells),(1,.cells [.int .i64 (addN d (nodeO low l lo hi false)),.str lo,.str hi])] ∧ n = 2) ∨ (¬ (addE d (nodeO low l lo hi false) = 0) ∧ r = .panic (.iface 105 (.int .i64 (addE d (nodeO low l lo hi false)))) ∧ 1 ≤ n)):=by
 refine FnK.intro Tryz.func44 rfl rfl (by simp [Tryz.ntmps44]) ?_
 simp only [argEnv,Tryz.ntmps44,Tryz.results44]
 have hnb:=node_bulk low l lo hi false
 have hpb:=nodePs_bulk low l lo hi false
 refine AW.rS ?_
 refine AW.trim [0,1,2,3,4,5,12] ?_
 refine AW.rSC ?_
 refine awOps.cons (awGuard.c1 (c_value_Name _ (if low = true then namesK else kidsK)) ?_)
 refine awOps.rn ?_
 refine awOps.cons (awGuard.c1 (c_value_Array _ l (by omega)) ?_)
 refine awOps.rn ?_
 refine AW.trim [0,3,4,5,12,13] ?_
 refine AW.seq ?_
 refine AW.rS ?_
 refine AW.trim [0,3,4,12,13,25] ?_
 refine AW.c2 ?_ ?_
 ·intro h9
  simp at h9
 ·intro h9
  refine AW.skip ?_
  refine AW.seq ?_
  refine AW.rSC ?_
  refine awOps.cons (awGuard.c1 (c_docs_Free _ d (by omega)) ?_)
  refine awOps.rn ?_
  refine AW.trim [0,3,4,12,13,15] ?_
  refine AW.rS ?_
  refine AW.trim [0,3,4,12,13,15,45] ?_
  refine AW.c2 ?_ ?_
  ·intro h60
   refine AW.rLC ?_
   refine awOps.cons (awGuard.pn ?_)
   refine wk ?_
   exact .inr ⟨by rw [(add_free h60).1]; exact h60,by rw [(add_free h60).1]⟩
  ·intro h60
   refine AW.skip ?_
   refine AW.rSC ?_
   refine awOps.cons (awGuard.c1 (c_value_Dict _ (nodePs low l lo hi false) (by omega)) ?_)
   refine awOps.rn ?_
   refine AW.trim [0,3,4,12,16,17] ?_
   refine AW.seq ?_
   refine AW.rS ?_
   refine AW.trim [0,3,4,12,16,17,54] ?_
   refine AW.c2 ?_ ?_
   ·intro h70
    refine AW.rLC ?_
    refine awOps.cons (awGuard.pn ?_)
    refine wk ?_
    have e:=add_chk (o:=nodeO low l lo hi false) h60 (by rw [← node_E]; exact h70)
    exact .inr ⟨by rw [e,← node_E]; exact h70,by rw [e,node_E]⟩
   ·intro h70
    have e : dictO (nodePs low l lo hi false) = nodeO low l lo hi false:=by rw [node_O,if_pos (by rw [← node_E]; simpa using h70)]
    rw [e]
    refine AW.skip ?_
    refine AW.tG (σf:=?sf10) (.take 0 0 (.take 1 0 (.take 2 0 (.fork 3 (.fork 4 (.fork 5 (.take 6 0 (.take 7 0 (.take 8 0 (.take 9 0 (.fork 10 (.fork 11 (.take 12 0 (.take 13 0 .done)) .stop) .stop))))) (.fork 10 (.fork 5 (.take 6 0 (.take 7 0 (.take 8 0 (.take 9 0 (.fork 11 (.take 12 0 (.take 13 0 .done)) .stop))))) .stop) .stop)) (.fork 10 (.fork 4 (.fork 5 (.take 6 0 (.take 7 0 (.take 8 0 (.take 9 0 (.fork 11 (.take 12 0 (.take 13 0 .done)) .stop))))) .stop) .stop) .stop)) (.fork 4 (.fork 3 (.fork 5 (.take 6 0 (.take 7 0 (.take 8 0 (.take 9 0 (.fork 10 (.fork 11 (.take 12 0 (.take 13 0 .done)) .stop) .stop))))) (.fork 10 (.fork 5 (.take 6 0 (.take 7 0 (.take 8 0 (.take 9 0 (.fork 11 (.take 12 0 (.take 13 0 .done)) .stop))))) .stop) .stop)) (.fork 10 (.fork 3 (.fork 5 (.take 6 0 (.take 7 0 (.take 8 0 (.take 9 0 (.fork 11 (.take 12 0 (.take 13 0 .done)) .stop))))) .stop) .stop) .stop)) (.fork 10 (.fork 3 (.fork 4 (.fork 5 (.take 6 0 (.take 7 0 (.take 8 0 (.take 9 0 (.fork 11 (.take 12 0 (.take 13 0 .done)) .stop))))) .stop) .stop) (.fork 4 (.fork 3 (.fork 5 (.take 6 0 (.take 7 0 (.take 8 0 (.take 9 0 (.fork 11 (.take 12 0 (.take 13 0 .done)) .stop))))) .stop) .stop) .stop)) .stop)))))) ?tree10 ?rest10
    case tree10 =>
     refine awTree.tk ?_
     refine awTree.tk ?_
     refine awTree.tk ?_
     refine awTree.fA ?_ ?_
     ·refine awTree.fA ?_ ?_
      ·refine awTree.fC (c_docs_Add _ d (nodeO low l lo hi false) (by omega)) ?_ ?_
       ·refine awTree.tk ?_
        refine awTree.tk ?_
        refine awTree.tk ?_
        refine awTree.tk ?_
        refine awTree.fA ?_ trivial
        refine awTree.fA ?_ trivial
        refine awTree.tk ?_
        refine awTree.tk ?_
        exact awTree.dn
       ·refine awTree.fA ?_ trivial
        refine awTree.fC (c_docs_Add _ d (nodeO low l lo hi false) (by omega)) ?_ trivial
        refine awTree.tk ?_
        refine awTree.tk ?_
        refine awTree.tk ?_
        refine awTree.tk ?_
        refine awTree.fA ?_ trivial
        refine awTree.tk ?_
        refine awTree.tk ?_
        exact awTree.dn
      ·refine awTree.fA ?_ trivial
       refine awTree.fA ?_ trivial
       refine awTree.fC (c_docs_Add _ d (nodeO low l lo hi false) (by omega)) ?_ trivial
       refine awTree.tk ?_
       refine awTree.tk ?_
       refine awTree.tk ?_
       refine awTree.tk ?_
       refine awTree.fA ?_ trivial
       refine awTree.tk ?_
       refine awTree.tk ?_
       exact awTree.dn
     ·refine awTree.fA ?_ ?_
      ·refine awTree.fA ?_ ?_
       ·refine awTree.fC (c_docs_Add _ d (nodeO low l lo hi false) (by omega)) ?_ ?_
        ·refine awTree.tk ?_
         refine awTree.tk ?_
         refine awTree.tk ?_
         refine awTree.tk ?_
         refine awTree.fA ?_ trivial
         refine awTree.fA ?_ trivial
         refine awTree.tk ?_
         refine awTree.tk ?_
         exact awTree.dn
        ·refine awTree.fA ?_ trivial
         refine awTree.fC (c_docs_Add _ d (nodeO low l lo hi false) (by omega)) ?_ trivial
         refine awTree.tk ?_
         refine awTree.tk ?_
         refine awTree.tk ?_
         refine awTree.tk ?_
         refine awTree.fA ?_ trivial
         refine awTree.tk ?_
         refine awTree.tk ?_
         exact awTree.dn
       ·refine awTree.fA ?_ trivial
        refine awTree.fA ?_ trivial
        refine awTree.fC (c_docs_Add _ d (nodeO low l lo hi false) (by omega)) ?_ trivial
        refine awTree.tk ?_
        refine awTree.tk ?_
        refine awTree.tk ?_
        refine awTree.tk ?_
        refine awTree.fA ?_ trivial
        refine awTree.tk ?_
        refine awTree.tk ?_
        exact awTree.dn
      ·refine awTree.fA ?_ trivial
       refine awTree.fA ?_ ?_
       ·refine awTree.fA ?_ trivial
        refine awTree.fC (c_docs_Add _ d (nodeO low l lo hi false) (by omega)) ?_ trivial
        refine awTree.tk ?_
        refine awTree.tk ?_
        refine awTree.tk ?_
        refine awTree.tk ?_
        refine awTree.fA ?_ trivial
        refine awTree.tk ?_
        refine awTree.tk ?_
        exact awTree.dn
       ·refine awTree.fA ?_ trivial
        refine awTree.fA ?_ trivial
        refine awTree.fC (c_docs_Add _ d (nodeO low l lo hi false) (by omega)) ?_ trivial
        refine awTree.tk ?_
        refine awTree.tk ?_
        refine awTree.tk ?_
        refine awTree.tk ?_
        refine awTree.fA ?_ trivial
        refine awTree.tk ?_
        refine awTree.tk ?_
        exact awTree.dn
    skip
    skip
    skip
    refine AW.trim [0,3,4,12,17,18,19] ?_
    refine AW.seq ?_
    refine AW.rS ?_
    refine AW.trim [0,3,4,12,17,18,19,68] ?_
    refine AW.c2 ?_ ?_
    ·intro h81
     refine AW.rLC ?_
     refine awOps.cons (awGuard.pn ?_)
     refine wk ?_
     exact .inr h81
    ·intro h81
     refine AW.skip ?_
     refine AW.rS ?_
     refine AW.trim [3,4,12,19] ?_
     refine AW.rS ?_
     refine AW.trim [12] ?_
     refine AW.vw [0,1] [(12,.ptr 1 0)] [(0,.cells (addO d (nodeO low l lo hi false)).cells),(1,.cells [.int .i64 (addN d (nodeO low l lo hi false)),.str lo,.str hi])] ?_
     refine AW.rt ?_
     exact .inl h81
end Go.Proofs

namespace Aw
open Go
def cHp (es : List (List AV)) (fan : Nat) (s : BS) (lp : ABlk) : List (Nat × ABlk) :=
 [(0,.cells [.ptr 1 0]),(1,.cells s.d.cells),(2,.cells [.row 6 0 s.row.length]),(3,.cells [.sl es]),(4,.cells [.int .i64 (fan : Int)]),(6,.row 3 (grsAV s.row) true),(5,lp)]
theorem part_take {α : Type} (l : List α) (fan i : Nat) (h : i * fan < l.length) : (l.take (i * fan + min fan (l.length - i * fan))).drop (i * fan) = partL l fan i:=by
 rw [partL,List.drop_take,Nat.add_sub_cancel_left]
 rcases Nat.le_total fan (l.length - i * fan) with h1 | h1
 ·rw [Nat.min_eq_left h1]
 ·rw [Nat.min_eq_right h1,List.take_of_length_le (by simp),List.take_of_length_le (by simp; omega)]
theorem entsAV_part (l : List En) (fan i : Nat) : partL (entsAV l) fan i = entsAV (partL l fan i):=by rw [partL,partL,entsAV_drop,entsAV_take]
theorem grsAV_part (l : List Gr) (fan i : Nat) : partL (grsAV l) fan i = grsAV (partL l fan i):=by simp [partL,grsAV,List.map_take,List.map_drop]
end Aw

namespace Go.Proofs
open Go Aw
set_option linter.unusedSimpArgs false
set_option linter.unusedVariables false
set_option maxRecDepth 100000
set_option maxHeartbeats 4000000
attribute [local go_sem] En.cells Gr.cells entsAV_length grsAV_length
theorem h_chunk_E (gl : List (Nat × AV)) (l : List En) (fan : Nat) (hf : 1 ≤ fan) : FnH Tryz.prog (gl) 47 [.sl (entsAV l),.int .i64 (fan : Int)] ([]) 0 (fun r h n=>r = .ret (.clos 77 [.ptr 0 0,.ptr 1 0]) ∧ h = [(0,.cells [.sl (entsAV l)]),(1,.cells [.int .i64 (fan : Int)])] ∧ n = 2):=by
 refine FnH.intro Tryz.func47 rfl rfl (by simp [Tryz.ntmps47]) ?_
 simp only [argEnv,Tryz.ntmps47,Tryz.results47]
 refine AW.rS ?_
 refine AW.trim [2,3] ?_
 refine AW.seq ?_
 refine AW.rS ?_
 refine AW.trim [2,3,6] ?_
 refine AW.c2 ?_ ?_
 ·intro h4
  omega
 ·intro h4
  refine AW.skip ?_
  refine AW.rS ?_
  refine AW.trim [4] ?_
  refine AW.rt ?_
  trivial
theorem chunk_E (gl : List (Nat × AV)) (l : List En) (fan : Nat) (S : Nat → BS) (lq : Nat) (rc : Option Code → Loop) {Ω : Mem → Prop} [LastsU Ω] (hf1 : 2 ≤ fan) (hf2 : fan ≤ 16) (hl : l.length ≤ 8191) (hS0 : (S 0).err = 0) (hstop : ∀ i,(S i).err ≠ 0 → ∀ k,i ≤ k → S k = S i)
  (hY : ∀ k,k * fan < l.length → (S k).err = 0 → RoundU Ω Tryz.prog gl lq [.sl (entsAV (partL l fan k))] (cHp (entsAV l) fan (S k) (.lp lq (rc none))) 7 6 fun r h n =>
   ((S (k + 1)).err = 0 ∧ r = .ret (.bool true) ∧ h = cHp (entsAV l) fan (S (k + 1)) (.lp lq (rc none)) ∧ n = 7) ∨
   (¬ (S (k + 1)).err = 0 ∧ r = .panic (.iface 105 (.int .i64 (S (k + 1)).err)) ∧ h = [] ∧ 6 ≤ n)) :
  FnU Ω Tryz.prog gl 77 [.raw (.func (.yield lq) #[] #[]),.ptr 3 0,.ptr 4 0] (cHp (entsAV l) fan (S 0) (.lp lq (rc none))) 7 6 fun r h n =>
   ((S (partsN l.length fan)).err = 0 ∧ r = .ret (.tup []) ∧ h = cHp (entsAV l) fan (S (partsN l.length fan)) (.lp lq (rc none)) ∧ n = 7) ∨
   ((S (partsN l.length fan)).err ≠ 0 ∧ r = .panic (.iface 105 (.int .i64 (S (partsN l.length fan)).err)) ∧ h = [] ∧ 6 ≤ n):=by
 have hpm:=fun i=>parts_more (n:=l.length) (fan:=fan) (i:=i) (by omega)
 have hall : ∀ c ∈ entsAV l,c.length = 7:=by
  have:=entsAV_len7 l
  rw [this]
  trivial
 simp only [cHp,Dc.cells] at hY ⊢
 refine FnU.introN Tryz.func77 rfl rfl (by simp [Tryz.ntmps77]) ?_ ?_
 ·rintro q hp' nx' (⟨_,h1,rfl,rfl⟩ | ⟨_,h1,_⟩)
  ·cases h1
   exact ⟨by simp only [↓noTHm_cons,noTHm,noTBm,noTL,noT,entsAV,grsAV,Bool.and_self],rfl⟩
  ·cases h1
 intro B_
 simp only [argEnv,Tryz.ntmps77,Tryz.results77]
 refine AWT.rS ?_
 refine AWT.block ?_
 refine AWT.lk (S:={ k : Nat // k ≤ partsN l.length fan ∧ (S k).err = 0 }) [0,1,2] (fun s_=>[(4,.int .i64 ((s_.1 * fan : Nat) : Int))]) (fun s_=>[(0,.cells [.ptr 1 0]),(1,.cells [.sl (itemsAV (S s_.1).d.items),.int .i64 (S s_.1).d.trailer.kind,.int .i64 (S s_.1).d.trailer.num,.int .i64 (S s_.1).d.trailer.gen,.str (S s_.1).d.trailer.str,.sl (strsAV (S s_.1).d.trailer.keys),.sl (objsAV (S s_.1).d.trailer.kids)]),(2,.cells [.row 6 0 (S s_.1).row.length]),(3,.cells [.sl (entsAV l)]),(4,.cells [.int .i64 (fan : Int)]),(6,.row 3 (grsAV (S s_.1).row) true),(5,.lp lq (rc none))]) 7 (fun s_=>partsN l.length fan - s_.1) ⟨0,Nat.zero_le _,hS0⟩ ?_ ?_
 ·exact St.le.vw [0,1,2,3,4,5,6] (hpre:=(by decide : ∀ i,i < 6 → nth [0,1,2,3,4,5,6] i = some i))
 rintro ⟨k,hk,he⟩
 try dsimp only at hk
 try dsimp only at he
 have hkm:=hpm k
 obtain ⟨kf,hkf⟩ : ∃ kf,kf = k * fan:=⟨_,rfl⟩
 have hk1 : (k + 1) * fan = kf + fan:=by rw [hkf,Nat.succ_mul]
 have hpt:=part_take (entsAV l) fan k
 have hYk:=hY k
 rw [← hkf] at hkm hpt hYk
 rw [entsAV_length] at hpt
 show AWT _ _ _ _ _ ⟨_,appE _ [(4,.int .i64 ((k * fan : Nat) : Int))],_,_,_,_,_⟩ _
 rw [← hkf]
 refine AWT.seq ?_
 refine AWT.rS ?_
 refine AWT.c2 ?_ ?_
 ·intro h6
  have hlt : kf < l.length:=by omega
  refine AWT.skip ?_
  refine AWT.seq ?_
  refine AWT.block ?_
  refine AWT.fS [0,1,2,3,4,5,6] [] ?_ (hQ:=by repeat (first | exact Aw.PI.finU | refine Aw.PI.unblock ?_ | refine Aw.PI.andThen ?_))
  refine awFun.rn ?_
  rw [Aw.awFun_nil,Aw.awPlan_nil]
  have hlen : (List.drop kf (List.take l.length (entsAV l))).length = l.length - kf:=by simp [entsAV_length]
  have hmin : min (fan : Int) ((l.length - kf : Nat) : Int) = ((min fan (l.length - kf) : Nat) : Int):=by omega
  have hmle : min fan (l.length - kf) ≤ l.length - kf:=Nat.min_le_right _ _
  have hmf : min fan (l.length - kf) ≤ fan:=Nat.min_le_left _ _
  rw [hlen,hmin]
  generalize min fan (l.length - kf) = e at *
  have ht1 : ((kf : Int) + (e : Int)).toNat = kf + e:=by omega
  have ht2 : ((kf : Int)).toNat = kf:=by omega
  refine AWT.rSC ?_
  refine OpsT.cs (awGuard.s3c (es:=entsAV l) (l:=(kf : Int)) (h:=(kf : Int) + (e : Int)) (k:=(kf : Int) + (e : Int)) ⟨by omega,by omega,by omega,by rw [entsAV_length]; omega⟩ hall ?_)
  rw [ht1,ht2,hpt hlt,entsAV_part]
  refine OpsT.cYP [0,1,2,3,4,5,6] (hYk hlt he) ?_ ?_
  ·intro hc n hn
   have hf:=hstop (k + 1) hc (partsN l.length fan) (by omega)
   refine wkU ?_
   rw [hf]
   exact .inr ⟨hc,rfl,by omega⟩
  intro hc
  refine OpsT.rn ?_
  refine OpsT.nil ?_
  refine AWT.c2 ?_ ?_
  ·intro h13
   simp at h13
  ·intro h13
   refine AWT.skip ?_
   simp only [andThen,unblock]
   refine AWT.rL ?_
   refine ⟨⟨k + 1,by omega,hc⟩,?_,?_⟩
   ·refine St.le.vw [0,1,2,3,4,5,7] (hpre:=(by decide : ∀ i,i < 6 → nth [0,1,2,3,4,5,7] i = some i)) (henv:=by (try dsimp only) <;> (try rw [hk1]) <;> (try simp only [go_sem,seval]) <;> (try (and_intros <;> first | exact Less.refl _ | trivial | (refine Less.int ?_; omega) | (refine Less.of_eq ?_; simp; done))))
   ·simp only []; omega
 ·intro h6
  refine AWT.exit ?_
  simp only [andThen,unblock,if_true]
  refine wkU ?_
  have hke : k = partsN l.length fan:=by omega
  rw [← hke]
  exact .inl ⟨he,rfl⟩
theorem h_chunk_G (gl : List (Nat × AV)) (l : List Gr) (fan : Nat) (hf : 1 ≤ fan) : FnH Tryz.prog (gl) 48 [.sl (grsAV l),.int .i64 (fan : Int)] ([]) 0 (fun r h n=>r = .ret (.clos 78 [.ptr 0 0,.ptr 1 0]) ∧ h = [(0,.cells [.sl (grsAV l)]),(1,.cells [.int .i64 (fan : Int)])] ∧ n = 2):=by
 refine FnH.intro Tryz.func48 rfl rfl (by simp [Tryz.ntmps48]) ?_
 simp only [argEnv,Tryz.ntmps48,Tryz.results48]
 refine AW.rS ?_
 refine AW.trim [2,3] ?_
 refine AW.seq ?_
 refine AW.rS ?_
 refine AW.trim [2,3,6] ?_
 refine AW.c2 ?_ ?_
 ·intro h4
  omega
 ·intro h4
  refine AW.skip ?_
  refine AW.rS ?_
  refine AW.trim [4] ?_
  refine AW.rt ?_
  trivial
theorem chunk_G (gl : List (Nat × AV)) (l : List Gr) (fan : Nat) (S : Nat → BS) (lq : Nat) (rc : Option Code → Loop) {Ω : Mem → Prop} [LastsU Ω] (hf1 : 2 ≤ fan) (hf2 : fan ≤ 16) (hl : l.length ≤ 8191) (hS0 : (S 0).err = 0) (hstop : ∀ i,(S i).err ≠ 0 → ∀ k,i ≤ k → S k = S i)
  (hY : ∀ k,k * fan < l.length → (S k).err = 0 → RoundU Ω Tryz.prog gl lq [.sl (grsAV (partL l fan k))] (cHp (grsAV l) fan (S k) (.lp lq (rc none))) 7 6 fun r h n =>
   ((S (k + 1)).err = 0 ∧ r = .ret (.bool true) ∧ h = cHp (grsAV l) fan (S (k + 1)) (.lp lq (rc none)) ∧ n = 7) ∨
   (¬ (S (k + 1)).err = 0 ∧ r = .panic (.iface 105 (.int .i64 (S (k + 1)).err)) ∧ h = [] ∧ 6 ≤ n)) :
  FnU Ω Tryz.prog gl 78 [.raw (.func (.yield lq) #[] #[]),.ptr 3 0,.ptr 4 0] (cHp (grsAV l) fan (S 0) (.lp lq (rc none))) 7 6 fun r h n =>
   ((S (partsN l.length fan)).err = 0 ∧ r = .ret (.tup []) ∧ h = cHp (grsAV l) fan (S (partsN l.length fan)) (.lp lq (rc none)) ∧ n = 7) ∨
   ((S (partsN l.length fan)).err ≠ 0 ∧ r = .panic (.iface 105 (.int .i64 (S (partsN l.length fan)).err)) ∧ h = [] ∧ 6 ≤ n):=by
 have hpm:=fun i=>parts_more (n:=l.length) (fan:=fan) (i:=i) (by omega)
 have hall : ∀ c ∈ grsAV l,c.length = 3:=by
  have:=grsAV_len3 l
  rw [this]
  trivial
 simp only [cHp,Dc.cells] at hY ⊢
 refine FnU.introN Tryz.func78 rfl rfl (by simp [Tryz.ntmps78]) ?_ ?_
 ·rintro q hp' nx' (⟨_,h1,rfl,rfl⟩ | ⟨_,h1,_⟩)
  ·cases h1
   exact ⟨by simp only [↓noTHm_cons,noTHm,noTBm,noTL,noT,entsAV,grsAV,Bool.and_self],rfl⟩
  ·cases h1
 intro B_
 simp only [argEnv,Tryz.ntmps78,Tryz.results78]
 refine AWT.rS ?_
 refine AWT.block ?_
 refine AWT.lk (S:={ k : Nat // k ≤ partsN l.length fan ∧ (S k).err = 0 }) [0,1,2] (fun s_=>[(4,.int .i64 ((s_.1 * fan : Nat) : Int))]) (fun s_=>[(0,.cells [.ptr 1 0]),(1,.cells [.sl (itemsAV (S s_.1).d.items),.int .i64 (S s_.1).d.trailer.kind,.int .i64 (S s_.1).d.trailer.num,.int .i64 (S s_.1).d.trailer.gen,.str (S s_.1).d.trailer.str,.sl (strsAV (S s_.1).d.trailer.keys),.sl (objsAV (S s_.1).d.trailer.kids)]),(2,.cells [.row 6 0 (S s_.1).row.length]),(3,.cells [.sl (grsAV l)]),(4,.cells [.int .i64 (fan : Int)]),(6,.row 3 (grsAV (S s_.1).row) true),(5,.lp lq (rc none))]) 7 (fun s_=>partsN l.length fan - s_.1) ⟨0,Nat.zero_le _,hS0⟩ ?_ ?_
 ·exact St.le.vw [0,1,2,3,4,5,6] (hpre:=(by decide : ∀ i,i < 6 → nth [0,1,2,3,4,5,6] i = some i))
 rintro ⟨k,hk,he⟩
 try dsimp only at hk
 try dsimp only at he
 have hkm:=hpm k
 obtain ⟨kf,hkf⟩ : ∃ kf,kf = k * fan:=⟨_,rfl⟩
 have hk1 : (k + 1) * fan = kf + fan:=by rw [hkf,Nat.succ_mul]
 have hpt:=part_take (grsAV l) fan k
 have hYk:=hY k
 rw [← hkf] at hkm hpt hYk
 rw [grsAV_length] at hpt
 show AWT _ _ _ _ _ ⟨_,appE _ [(4,.int .i64 ((k * fan : Nat) : Int))],_,_,_,_,_⟩ _
 rw [← hkf]
 refine AWT.seq ?_
 refine AWT.rS ?_
 refine AWT.c2 ?_ ?_
 ·intro h6
  have hlt : kf < l.length:=by omega
  refine AWT.skip ?_
  refine AWT.seq ?_
  refine AWT.block ?_
  refine AWT.fS [0,1,2,3,4,5,6] [] ?_ (hQ:=by repeat (first | exact Aw.PI.finU | refine Aw.PI.unblock ?_ | refine Aw.PI.andThen ?_))
  refine awFun.rn ?_
  rw [Aw.awFun_nil,Aw.awPlan_nil]
  have hlen : (List.drop kf (List.take l.length (grsAV l))).length = l.length - kf:=by simp [grsAV_length]
  have hmin : min (fan : Int) ((l.length - kf : Nat) : Int) = ((min fan (l.length - kf) : Nat) : Int):=by omega
  have hmle : min fan (l.length - kf) ≤ l.length - kf:=Nat.min_le_right _ _
  have hmf : min fan (l.length - kf) ≤ fan:=Nat.min_le_left _ _
  rw [hlen,hmin]
  generalize min fan (l.length - kf) = e at *
  have ht1 : ((kf : Int) + (e : Int)).toNat = kf + e:=by omega
  have ht2 : ((kf : Int)).toNat = kf:=by omega
  refine AWT.rSC ?_
  refine OpsT.cs (awGuard.s3c (es:=grsAV l) (l:=(kf : Int)) (h:=(kf : Int) + (e : Int)) (k:=(kf : Int) + (e : Int)) ⟨by omega,by omega,by omega,by rw [grsAV_length]; omega⟩ hall ?_)
  rw [ht1,ht2,hpt hlt,grsAV_part]
  refine OpsT.cYP [0,1,2,3,4,5,6] (hYk hlt he) ?_ ?_
  ·intro hc n hn
   have hf:=hstop (k + 1) hc (partsN l.length fan) (by omega)
   refine wkU ?_
   rw [hf]
   exact .inr ⟨hc,rfl,by omega⟩
  intro hc
  refine OpsT.rn ?_
  refine OpsT.nil ?_
  refine AWT.c2 ?_ ?_
  ·intro h13
   simp at h13
  ·intro h13
   refine AWT.skip ?_
   simp only [andThen,unblock]
   refine AWT.rL ?_
   refine ⟨⟨k + 1,by omega,hc⟩,?_,?_⟩
   ·refine St.le.vw [0,1,2,3,4,5,7] (hpre:=(by decide : ∀ i,i < 6 → nth [0,1,2,3,4,5,7] i = some i)) (henv:=by (try dsimp only) <;> (try rw [hk1]) <;> (try simp only [go_sem,seval]) <;> (try (and_intros <;> first | exact Less.refl _ | trivial | (refine Less.int ?_; omega) | (refine Less.of_eq ?_; simp; done))))
   ·simp only []; omega
 ·intro h6
  refine AWT.exit ?_
  simp only [andThen,unblock,if_true]
  refine wkU ?_
  have hke : k = partsN l.length fan:=by omega
  rw [← hke]
  exact .inl ⟨he,rfl⟩
end Go.Proofs

namespace Go.Proofs
open Go Aw
set_option linter.unusedSimpArgs false
set_option linter.unusedVariables false
set_option maxRecDepth 100000
set_option maxHeartbeats 4000000
theorem h_add_limC (gl : List (Nat × AV)) (d : Dc) (low : Bool) (l : List Pob) (lo hi : List UInt8) (hb : d.bulk + (arrO l).bulk ≤ 3000000) :
  FnK Tryz.prog gl 44 [.ptr 0 0,.str (if low = true then namesK else kidsK),.sl (objsAV l),.str lo,.str hi,.bool true] [(0,.cells d.cells)] 1 1 fun r h n =>
   (addE d (nodeO low l lo hi true) = 0 ∧ r = .ret (.agg (Gr.mk (addN d (nodeO low l lo hi true)) lo hi).cells) ∧ h = [(0,.cells (addO d (nodeO low l lo hi true)).cells)] ∧ n = 1) ∨
   (¬ addE d (nodeO low l lo hi true) = 0 ∧ r = .panic (.iface 105 (.int .i64 (addE d (nodeO low l lo hi true)))) ∧ 1 ≤ n) :=
 FnK.cut (h_add_lim gl d low l lo hi hb) [0] (by decide) (by decide) (by simp only [Dc.cells]; simp only [go_sem,seval]) (by simp only [Gr.cells]; simp only [go_sem,seval])
theorem h_add_bareC (gl : List (Nat × AV)) (d : Dc) (low : Bool) (l : List Pob) (lo hi : List UInt8) (hb : d.bulk + (arrO l).bulk ≤ 3000000) :
  FnK Tryz.prog gl 44 [.ptr 0 0,.str (if low = true then namesK else kidsK),.sl (objsAV l),.str lo,.str hi,.bool false] [(0,.cells d.cells)] 1 1 fun r h n =>
   (addE d (nodeO low l lo hi false) = 0 ∧ r = .ret (.agg (Gr.mk (addN d (nodeO low l lo hi false)) lo hi).cells) ∧ h = [(0,.cells (addO d (nodeO low l lo hi false)).cells)] ∧ n = 1) ∨
   (¬ addE d (nodeO low l lo hi false) = 0 ∧ r = .panic (.iface 105 (.int .i64 (addE d (nodeO low l lo hi false)))) ∧ 1 ≤ n) :=
 FnK.cut (h_add_bare gl d low l lo hi hb) [0] (by decide) (by decide) (by simp only [Dc.cells]; simp only [go_sem,seval]) (by simp only [Gr.cells]; simp only [go_sem,seval])
attribute [local go_sem] En.cells Gr.cells grsAV_length grsAV_len3 grsAV_at entsAV_ok entsAV_length entsAV_len7 entsAV_at
theorem c_names_pairs (gl : List (Nat × AV)) (l : List En) (h : l.length ≤ 16777000) : FnP Tryz.prog (gl) 45 [.sl (entsAV l)] fun r=>r = .ret (.sl (objsAV (pairsP l))):=by
 refine FnP.intro Tryz.func45 rfl rfl (by simp [Tryz.ntmps45]) ?_
 simp only [argEnv,Tryz.ntmps45,Tryz.results45]
 refine AW.rS ?_
 refine AW.trim [0] ?_
 refine AW.rS ?_
 refine AW.trim [0,3] ?_
 refine AW.seq ?_
 refine AW.rS ?_
 refine AW.trim [3,6,7,8] ?_
 refine AW.block ?_
 refine AW.pre (St.le.nilrow 3 6 (by (simp only [go_sem,seval]; iterate 2 try (simp (disch:=omega) only [zq]; try simp only [go_sem,seval])))) ?_
 refine wk ?_
 refine AW.lk (S:={ i : Nat // i ≤ l.length }) [6,7] (fun s_=>[(3,.row 0 0 (2 * s_.1)),(8,.int .i64 s_.1)]) (fun s_=>[(0,.row 6 (objsAV (pairsP (l.take s_.1))) true)]) 1 (fun s_=>l.length - s_.1) ⟨0,Nat.zero_le _⟩ ?_ ?_
 ·refine St.le.vw [0]
 rintro ⟨i,hi⟩
 try dsimp only at hi
 refine AW.rS ?_
 refine AW.trim [3,6,7,8,9] ?_
 refine AW.seq ?_
 refine AW.c2 ?_ ?_
 ·intro h9
  obtain ⟨j,rfl⟩ : ∃ j : { k : Nat // k < l.length },i = j.1:=⟨⟨i,by omega⟩,rfl⟩
  have hpl : (pairsP (List.take j.1 l)).length = 2 * j.1:=by rw [pairsP_len,List.length_take]; omega
  refine AW.skip ?_
  refine AW.seq ?_
  refine AW.block ?_
  refine AW.rS ?_
  refine AW.trim [3,5,6,7,8] ?_
  refine AW.fL [0,1,2,4,5,3,6] [(7,2),(8,2)] ?_
  refine awFun.rn ?_
  refine awFun.c1 [14] (c_value_String _ (l.getD j.1 En.zero).key) ?_
  refine awFun.rn ?_
  refine awFun.bs [15,17] ?_
  refine awFun.rn ?_
  rw [Aw.awFun_nil]
  refine awPlan.rn ?_
  refine AW.rL ?_
  refine ⟨⟨j.1 + 1,by omega⟩,?_,?_⟩
  ·refine St.le.vx [2] ?_
   rw [pairsP_take j.2]; simp [objsAV_map]; rw [List.take_of_length_le (by rw [List.length_map]; omega),Pob.cells_eq,Pob.cells_eq,objsAV_map,objsAV_map]
  ·simp only []; omega
 ·intro h9
  refine AW.exit ?_
  refine AW.rS ?_
  refine AW.trim [2] ?_
  refine AW.rt ?_
  have e : List.take i l = l:=List.take_of_length_le (by omega)
  rw [e,List.take_of_length_le (by rw [objsAV_length,pairsP_len]; omega)]
  exact ⟨by rw [pairsP_len]; omega,rfl⟩
theorem c_names_refs (gl : List (Nat × AV)) (l : List Gr) (h : l.length ≤ 16777000) (hn : ∀ g ∈ l,-9223372036854775808 ≤ g.num ∧ g.num ≤ 9223372036854775807) : FnP Tryz.prog (gl) 49 [.sl (grsAV l)] fun r=>r = .ret (.sl (objsAV (refsP l))):=by
 refine FnP.intro Tryz.func49 rfl rfl (by simp [Tryz.ntmps49]) ?_
 simp only [argEnv,Tryz.ntmps49,Tryz.results49]
 refine AW.rS ?_
 refine AW.trim [0] ?_
 refine AW.rS ?_
 refine AW.trim [0,3] ?_
 refine AW.seq ?_
 refine AW.rS ?_
 refine AW.trim [3,6,7,8] ?_
 refine AW.block ?_
 refine AW.pre (St.le.nilrow 3 6 (by (simp only [go_sem,seval]; iterate 2 try (simp (disch:=omega) only [zq]; try simp only [go_sem,seval])))) ?_
 refine wk ?_
 refine AW.lk (S:={ i : Nat // i ≤ l.length }) [6,7] (fun s_=>[(3,.row 0 0 s_.1),(8,.int .i64 s_.1)]) (fun s_=>[(0,.row 6 (objsAV (refsP (l.take s_.1))) true)]) 1 (fun s_=>l.length - s_.1) ⟨0,Nat.zero_le _⟩ ?_ ?_
 ·refine St.le.vw [0]
 rintro ⟨i,hi⟩
 try dsimp only at hi
 refine AW.rS ?_
 refine AW.trim [3,6,7,8,9] ?_
 refine AW.seq ?_
 refine AW.c2 ?_ ?_
 ·intro h9
  obtain ⟨j,rfl⟩ : ∃ j : { k : Nat // k < l.length },i = j.1:=⟨⟨i,by omega⟩,rfl⟩
  have hpl : (refsP (List.take j.1 l)).length = j.1:=by rw [refsP_len,List.length_take]; omega
  have hgn:=hn (l.getD j.1 Gr.zero) (by rw [List.getD_eq_getElem?_getD,List.getElem?_eq_getElem j.2]; exact List.getElem_mem _)
  refine AW.skip ?_
  refine AW.seq ?_
  refine AW.block ?_
  refine AW.rS ?_
  refine AW.trim [3,5,6,7,8] ?_
  refine AW.rLC ?_
  refine awOps.cons (awGuard.c1 (c_value_Ref _ (l.getD j.1 Gr.zero).num 0 hgn) ?_)
  refine awOps.rn ?_
  refine AW.rL ?_
  refine ⟨⟨j.1 + 1,by omega⟩,?_,?_⟩
  ·refine St.le.vx [3] ?_
   rw [refsP_take j.2]; simp [objsAV_map]; exact ⟨List.take_of_length_le (by rw [List.length_map,refsP_len,List.length_take]; omega),by rw [Pob.cells_eq,objsAV_map]⟩
  ·simp only []; omega
 ·intro h9
  refine AW.exit ?_
  refine AW.rS ?_
  refine AW.trim [2] ?_
  refine AW.rt ?_
  have e : List.take i l = l:=List.take_of_length_le (by omega)
  rw [e,List.take_of_length_le (by rw [objsAV_length,refsP_len]; omega)]
  exact ⟨by rw [refsP_len]; omega,rfl⟩
end Go.Proofs

namespace Go.Proofs
open Go Aw
set_option linter.unusedSimpArgs false
set_option linter.unusedVariables false
set_option maxRecDepth 100000
set_option maxHeartbeats 4000000
attribute [local go_sem] En.cells Gr.cells grsAV_length grsAV_len3 grsAV_at entsAV_ok entsAV_length entsAV_len7 entsAV_at entsAV_at0 entsAV_at0p zero_ix entsAV_next0 entsAV_next1
theorem c_names_checked (gl : List (Nat × AV)) (l : List En) (fan : Int) (h : ebulk l ≤ 16777000) : FnP Tryz.prog (gl) 42 [.sl (entsAV l),.int .i64 fan] fun r=>r = if decide (mayE l fan = 0) = true then .ret (.tup []) else .panic (.iface 105 (.int .i64 (mayE l fan))):=by
 refine FnP.intro Tryz.func42 rfl rfl (by simp [Tryz.ntmps42]) ?_
 simp only [argEnv,Tryz.ntmps42,Tryz.results42]
 have hlen:=ebulk_len l
 have pan : ∀ e : Int,e ≠ 0 → mayE l fan = e → AE.panic (.iface 105 (.int .i64 e)) = if decide (mayE l fan = 0) = true then AE.ret (.tup []) else AE.panic (.iface 105 (.int .i64 (mayE l fan))):=fun e he h=>by rw [h,if_neg (by rw [decide_eq_true_eq]; exact he)]
 refine AW.rSC ?_
 refine awOps.cons (awGuard.cM (c_names_must _ _ 1) ?_ ?_)
 ·intro hp2
  refine wk ?_
  exact pan 1 (by decide) (by rw [mayE,if_pos (by omega)])
 intro hm2
 refine awOps.rn ?_
 refine AW.trim [0] ?_
 refine AW.rSC ?_
 refine awOps.cons (awGuard.cM (c_names_must _ _ 6) ?_ ?_)
 ·intro hp5
  refine wk ?_
  exact pan 6 (by decide) (by rw [mayE,if_neg (by omega),if_pos (by omega)])
 intro hm5
 refine awOps.rn ?_
 refine AW.trim [0] ?_
 refine AW.rS ?_
 refine AW.trim [0,18,19,20] ?_
 refine AW.block ?_
 refine AW.lk (S:={ i : Nat // i ≤ l.length ∧ entsE l i = 0 }) [0,18,19] (fun s_=>[(20,.int .i64 s_.1)]) (fun s_=>[]) 0 (fun s_=>l.length - s_.1) ⟨0,Nat.zero_le _,rfl⟩ ?_ ?_
 ·refine St.le.vw []
 rintro ⟨i,hi,hs⟩
 try dsimp only at hi
 try dsimp only at hs
 refine AW.rS ?_
 refine AW.trim [0,18,19,20,21] ?_
 refine AW.seq ?_
 refine AW.c2 ?_ ?_
 ·intro h12
  refine AW.skip ?_
  refine AW.seq ?_
  refine AW.block ?_
  by_cases hs16 : 0 < i
  ·skip
   have hgb:=ebulk_get (l:=l) (i:=i) (by omega)
   obtain ⟨j,rfl⟩ : ∃ j : { k : Nat // k + 1 < l.length },i = j.1 + 1:=⟨⟨i - 1,by omega⟩,(Nat.succ_pred_eq_of_pos hs16).symm⟩
   refine AW.rS ?_
   refine AW.trim [0,4,5,18,19,20] ?_
   refine AW.rSC ?_
   refine awOps.cons (awGuard.cM (c_names_must _ _ 5) ?_ ?_)
   ·intro hp18
    refine wk ?_
    exact pan 5 (by decide) (may_stop hm2 (by omega) (by omega) hs (ent_long (by omega)) (by decide))
   intro hm18
   refine awOps.rn ?_
   refine AW.trim [0,4,5,18,19,20] ?_
   refine AW.seq ?_
   refine AW.rSC ?_
   refine awOps.cons (awGuard.c1 (c_value_Check _ (l.getD (j.1 + 1) En.zero).val (by omega)) ?_)
   refine awOps.rn ?_
   refine AW.trim [0,4,5,6,18,19,20] ?_
   refine AW.rS ?_
   refine AW.trim [0,4,5,6,18,19,20,34] ?_
   refine AW.c2 ?_ ?_
   ·intro h25
    refine AW.rLC ?_
    refine awOps.cons (awGuard.pn ?_)
    refine wk ?_
    exact pan _ h25 (may_stop hm2 (by omega) (by omega) hs (ent_chk (by omega) h25) h25)
   ·intro h25
    refine AW.skip ?_
    refine AW.rSC ?_
    refine awOps.cons (awGuard.cM (c_names_must _ _ 10) ?_ ?_)
    ·intro hp31
     refine wk ?_
     exact pan 10 (by decide) (may_stop hm2 (by omega) (by omega) hs (ent_kind (by omega) h25 hp31) (by decide))
    intro hm31
    refine awOps.rn ?_
    refine AW.trim [0,4,5,18,19,20] ?_
    refine AW.fL [0,1,2,3,4,5,6,7,8,9,10,11,12] [(13,2)] ?_
    refine awFun.rn ?_
    rw [Aw.awFun_nil]
    refine awPlan.only rfl ?_
    refine awGuard.cM (c_names_must _ _ 1) ?_ ?_
    ·intro hp34
     refine wk ?_
     exact pan 1 (by decide) (may_stop hm2 (by omega) (by omega) hs (ent_less (by omega) h25 hm31 (by omega) hp34.2) (by decide))
    intro hm34
    refine awPlan.rn ?_
    skip
    refine AW.rL ?_
    refine ⟨⟨j.1 + 2,by omega,ents_next hs (ent_ok (by omega) h25 hm31 fun _=>hm34.elim (fun h=>absurd h (by omega)) id)⟩,?_,?_⟩
    ·refine St.le.vw []
    ·simp only []; omega
  ·skip
   have hgb:=ebulk_get (l:=l) (i:=i) (by omega)
   obtain ⟨j,rfl⟩ : ∃ j : { k : Nat // k < l.length ∧ k = 0 },i = j.1:=⟨⟨i,by omega,by omega⟩,rfl⟩
   refine AW.rS ?_
   refine AW.trim [0,4,5,18,19,20] ?_
   refine AW.rSC ?_
   refine awOps.cons (awGuard.cM (c_names_must _ _ 5) ?_ ?_)
   ·intro hp18
    refine wk ?_
    exact pan 5 (by decide) (may_stop hm2 (by omega) (by omega) hs (ent_long (by omega)) (by decide))
   intro hm18
   refine awOps.rn ?_
   refine AW.trim [0,4,5,18,19,20] ?_
   refine AW.seq ?_
   refine AW.rSC ?_
   refine awOps.cons (awGuard.c1 (c_value_Check _ (l.getD j.1 En.zero).val (by omega)) ?_)
   refine awOps.rn ?_
   refine AW.trim [0,4,5,6,18,19,20] ?_
   refine AW.rS ?_
   refine AW.trim [0,4,5,6,18,19,20,34] ?_
   refine AW.c2 ?_ ?_
   ·intro h25
    refine AW.rLC ?_
    refine awOps.cons (awGuard.pn ?_)
    refine wk ?_
    exact pan _ h25 (may_stop hm2 (by omega) (by omega) hs (ent_chk (by omega) h25) h25)
   ·intro h25
    refine AW.skip ?_
    refine AW.rSC ?_
    refine awOps.cons (awGuard.cM (c_names_must _ _ 10) ?_ ?_)
    ·intro hp31
     refine wk ?_
     exact pan 10 (by decide) (may_stop hm2 (by omega) (by omega) hs (ent_kind (by omega) h25 hp31) (by decide))
    intro hm31
    refine awOps.rn ?_
    refine AW.trim [0,4,5,18,19,20] ?_
    refine AW.fL [0,1,2,3,4,5,6,7,8,9,10,11,12] [(13,2)] ?_
    refine awFun.rn ?_
    rw [Aw.awFun_nil]
    refine awPlan.only rfl ?_
    refine awGuard.cM (c_names_must _ _ 1) ?_ ?_
    ·intro hp34
     refine wk ?_
     exact absurd hp34 (by simp)
    intro hm34
    refine awPlan.rn ?_
    skip
    refine AW.rL ?_
    refine ⟨⟨j.1 + 1,by omega,ents_next hs (ent_ok (by omega) h25 hm31 fun h=>absurd h (by omega))⟩,?_,?_⟩
    ·refine St.le.vw []
    ·simp only []; omega
 ·intro h12
  refine AW.exit ?_
  refine wk ?_
  rw [if_pos (decide_eq_true (may_ok hm2 (by omega) (by omega) hs))]
end Go.Proofs

namespace Aw
open Go
theorem make_err0 {d : Dc} {l : List En} {fan e : Int} (h : makeE0 d l fan = e) (he : e ≠ 0) : makeE d l fan = e ∧ makeD d l fan = Dc.zero ∧ makeO d l fan = Pob.null:=by
 have h1 : makeE d l fan = e:=by rw [makeE,makeS,if_pos (by rw [h]; exact he)]; exact h
 exact ⟨h1,by rw [makeD,if_pos (by rw [h1]; exact he)],by rw [makeO,if_pos (by rw [h1]; exact he)]⟩
theorem make_bad {d : Dc} {l : List En} {fan e : Int} (h : makeE0 d l fan = 0) (he : (treeB d l fan.toNat).err = e) (hne : e ≠ 0) : makeE d l fan = e ∧ makeD d l fan = Dc.zero ∧ makeO d l fan = Pob.null:=by
 have h1 : makeE d l fan = e:=by rw [makeE,makeS,if_neg (by rw [h]; simp)]; exact he
 exact ⟨h1,by rw [makeD,if_pos (by rw [h1]; exact hne)],by rw [makeO,if_pos (by rw [h1]; exact hne)]⟩
theorem make_ok {d : Dc} {l : List En} {fan : Int} (h : makeE0 d l fan = 0) (he : (treeB d l fan.toNat).err = 0) : makeE d l fan = 0 ∧ makeD d l fan = (treeB d l fan.toNat).d ∧ makeO d l fan = refO ((treeB d l fan.toNat).row.getD 0 Gr.zero).num 0:=by
 have hs : makeS d l fan = treeB d l fan.toNat:=by rw [makeS,if_neg (by rw [h]; simp)]
 have h1 : makeE d l fan = 0:=by rw [makeE,hs]; exact he
 exact ⟨h1,by rw [makeD,if_neg (by rw [h1]; simp),hs],by rw [makeO,if_neg (by rw [h1]; simp),hs]⟩
theorem make0_doc {d : Dc} {l : List En} {fan : Int} (h : docE d ≠ 0) : makeE0 d l fan = docE d:=by rw [makeE0,if_pos h]
theorem make0_may {d : Dc} {l : List En} {fan : Int} (h : docE d = 0) (h2 : mayE l fan ≠ 0) : makeE0 d l fan = mayE l fan:=by rw [makeE0,if_neg (by rw [h]; simp),if_pos h2]
theorem make0_many {d : Dc} {l : List En} {fan : Int} (h : docE d = 0) (h2 : mayE l fan = 0) (h3 : 4096 < nodesN l.length fan.toNat) : makeE0 d l fan = 6:=by rw [makeE0,if_neg (by rw [h]; simp),if_neg (by rw [h2]; simp),if_pos h3]
theorem make0_ok {d : Dc} {l : List En} {fan : Int} (h : docE d = 0) (h2 : mayE l fan = 0) (h3 : ¬ 4096 < nodesN l.length fan.toNat) : makeE0 d l fan = 0:=by rw [makeE0,if_neg (by rw [h]; simp),if_neg (by rw [h2]; simp),if_neg h3]
theorem may_facts {l : List En} {fan : Int} (h : mayE l fan = 0) : ∃ f : Nat,fan = f ∧ 2 ≤ f ∧ f ≤ 16 ∧ l.length ≤ 8191:=by
 rw [mayE] at h
 split at h
 ·cases h
 ·rename_i h1
  split at h
  ·cases h
  ·exact ⟨fan.toNat,by omega,by omega,by omega,by omega⟩
theorem tree_low {d : Dc} {l : List En} {fan : Nat} (h : l.length ≤ fan) : treeB d l fan = addB ⟨0,d,[]⟩ true (pairsP l) [] [] false:=by rw [treeB,if_pos h]
theorem tree_high {d : Dc} {l : List En} {fan : Nat} (h : ¬ l.length ≤ fan) : treeB d l fan = topB (climbB fan l.length (leavesB d l fan (partsN l.length fan))) fan:=by rw [treeB,if_neg h]
theorem top_err {s : BS} {fan : Nat} (h : s.err ≠ 0) : topB s fan = s:=by rw [topB,if_pos h]
theorem top_ok {s : BS} {fan : Nat} (h : s.err = 0) : topB s fan = addB ⟨0,s.d,[]⟩ false (refsP s.row) [] [] false:=by rw [topB,if_neg (by rw [h]; simp)]
theorem part_ne {α : Type} {l : List α} {fan i : Nat} (hf : 0 < fan) (h : i * fan < l.length) : partL l fan i ≠ []:=by
 intro h0
 have:=part_len l fan i
 rw [h0] at this
 simp at this
 omega
theorem entsAV_first (p : { l : List En // l ≠ [] }) (x : List AV) : (entsAV p.1).getD 0 x = [.str (p.1.getD 0 En.zero).key,.int .i64 (p.1.getD 0 En.zero).val.kind,.int .i64 (p.1.getD 0 En.zero).val.num,.int .i64 (p.1.getD 0 En.zero).val.gen,.str (p.1.getD 0 En.zero).val.str,.sl (strsAV (p.1.getD 0 En.zero).val.keys),.sl (objsAV (p.1.getD 0 En.zero).val.kids)] :=
 entsAV_getD (List.length_pos_iff.2 p.2)
theorem entsAV_lastP (p : { l : List En // l ≠ [] }) (x : List AV) : (entsAV p.1).getD (p.1.length - 1) x = [.str (p.1.getD (p.1.length - 1) En.zero).key,.int .i64 (p.1.getD (p.1.length - 1) En.zero).val.kind,.int .i64 (p.1.getD (p.1.length - 1) En.zero).val.num,.int .i64 (p.1.getD (p.1.length - 1) En.zero).val.gen,.str (p.1.getD (p.1.length - 1) En.zero).val.str,.sl (strsAV (p.1.getD (p.1.length - 1) En.zero).val.keys),.sl (objsAV (p.1.getD (p.1.length - 1) En.zero).val.kids)] :=
 entsAV_getD (by have:=List.length_pos_iff.2 p.2; omega)
theorem grsAV_first (p : { l : List Gr // l ≠ [] }) (x : List AV) : (grsAV p.1).getD 0 x = [.int .i64 (p.1.getD 0 Gr.zero).num,.str (p.1.getD 0 Gr.zero).lo,.str (p.1.getD 0 Gr.zero).hi]:=grsAV_getD (List.length_pos_iff.2 p.2)
theorem grsAV_lastP (p : { l : List Gr // l ≠ [] }) (x : List AV) : (grsAV p.1).getD (p.1.length - 1) x = [.int .i64 (p.1.getD (p.1.length - 1) Gr.zero).num,.str (p.1.getD (p.1.length - 1) Gr.zero).lo,.str (p.1.getD (p.1.length - 1) Gr.zero).hi] :=
 grsAV_getD (by have:=List.length_pos_iff.2 p.2; omega)
theorem grsAV_takeL (l : List Gr) : (grsAV l).take l.length = grsAV l:=List.take_of_length_le (by rw [grsAV_length]; exact Nat.le_refl _)
end Aw
