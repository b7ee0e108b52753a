/- A part of the proof: no condition of its own. -/
import Derived.Test.YtlamdhcfojligaaGreatPart4
import Derived.Shelf.SlSortCmp.WholeK
import Derived.Shelf.SlSortCmp.NoneTotal
import Derived.Test.YtlamdhcfojligaaGreatProg
namespace Go.Proofs
open Go Aw Go.WideElems Go.Maps Go.RowKit
set_option linter.unusedSimpArgs false
set_option linter.unusedVariables false
set_option maxRecDepth 100000
set_option maxHeartbeats 4000000
def intV : Value → Int
 | .int _ n=>n
 | _=>0
theorem set_owns {m : Mem} {ri : RI} {s : List Int} (hb : BlkRep m ri (setOf (fun n=>AV.int .i64 n) s)) (hwf : ∀ x ∈ s,(Lit.int .i64 x).wf = true) (hl : s.length ≤ 16777216) :
  ∃ D0 : DataW Unit,m.w.ownsMap Tryz.prog 3 (plainElem Tryz.prog 4) ri.b s.length D0 ∧ (intKeys D0).Perm s ∧ Maps.size D0 = s.length:=by
 obtain ⟨h1,h2,h3,es,clock,h4,h5,h6,h7⟩:=set_blk (keyOk_int .i64) hb
 have hlen : es.size = s.length:=by
  have:=congrArg List.length h5
  simpa using this
 have hkey : ∀ x ∈ es.toList,x.key = .int .i64 (intV x.key) ∧ (Lit.int .i64 (intV x.key)).wf = true:=by
  intro x hx
  have : x.key ∈ s.map (fun n : Int=>Value.int .i64 n):=by rw [← h5]; exact List.mem_map_of_mem hx
  obtain ⟨n,hn,e⟩:=List.mem_map.1 this
  rw [← e]
  exact ⟨rfl,hwf n hn⟩
 have hval : ∀ x ∈ es.toList,x.val = .bool true:=by
  intro x hx
  have : x.val ∈ s.map (fun _ : Int=>Value.bool true):=by rw [← h6]; exact List.mem_map_of_mem hx
  obtain ⟨n,hn,e⟩:=List.mem_map.1 this
  exact e.symm
 have hrd : ∀ x ∈ es.toList,rd Tryz.prog 3 (plainElem (H:=Unit) Tryz.prog 4) x = some (.int .i64 (intV x.key),.lit (.bool true)):=by
  intro x hx
  obtain ⟨k1,k2⟩:=hkey x hx
  have hk : keyOf Tryz.prog 3 x.key = some (.int .i64 (intV x.key)):=by
   generalize intV x.key = n at k1 k2
   rw [k1]
   simp [keyOf,Tryz.underlying3,mapKey,k2]
  have hv : plainElem (H:=Unit) Tryz.prog 4 x.val = some (.lit (.bool true),[]):=by rw [hval x hx]; exact plainElem_bool Tryz.underlying4 true
  exact rd_mk (born:=x.born) hk hv
 refine ⟨.map ((es.toList.map (rg Tryz.prog 3 (plainElem Tryz.prog 4))).foldr DataW.insert []),⟨es,clock,h4,⟨by rw [hlen]; simp only [maxLen]; omega,h7,fun x hx=>⟨_,hrd x hx⟩⟩,by rw [hlen]; exact Nat.le_refl _,rfl⟩,?_,?_⟩
 ·simp only [intKeys]
  refine ((Go.WideShapes.sorted_perm _).map _).trans ?_
  rw [List.map_map]
  have : es.toList.map ((fun p : Lit × DataW Unit=>Go.intOf p.1) ∘ rg Tryz.prog 3 (plainElem Tryz.prog 4)) = s:=by
   have e1 : es.toList.map ((fun p : Lit × DataW Unit=>Go.intOf p.1) ∘ rg Tryz.prog 3 (plainElem Tryz.prog 4)) = (es.toList.map (·.key)).map intV:=by
    rw [List.map_map]
    refine List.map_congr_left fun x hx=>?_
    simp only [Function.comp,rg_of (hrd x hx),Go.intOf]
   rw [e1,h5,List.map_map]
   have : (intV ∘ fun n : Int=>Value.int .i64 n) = id:=rfl
   rw [this,List.map_id]
  rw [this]
 ·simp only [Maps.size,length_sorted,List.length_map]
  simpa using hlen
def Mem.rowed (m : Mem) (w' : World) (g len : Nat) : Mem:={ m with w:=w',F:=fun b o=>m.F b o ∨ (b = g ∧ o < len) }
theorem rowed_ok {m : Mem} {hp : List (Nat × ABlk)} {nx : Nat} {w' : World} {g len : Nat} (hH : SimH m hp nx) (hbel : Below m.w.heap.size m.w w') (hg : 0 < len → m.w.heap.size ≤ g ∧ g < w'.heap.size) :
  m.le (Mem.rowed m w' g len) ∧ SimH (Mem.rowed m w' g len) hp nx:=by
 have hcell : ∀ b o,m.F b o → w'.cell? ⟨b,o,none⟩ = m.w.cell? ⟨b,o,none⟩:=fun b o hf=>cell?_of_block (hbel.block b (hH.Fold b o hf))
 refine ⟨⟨hbel.os,hbel.tape,hbel.output,hbel.size,rfl,fun b hb=>hbel.block b (hH.Pold b hb),fun _ _ h=>.inl h,hcell,fun b o hb hf=>?_,rfl,fun _ _ _ h=>h⟩,?_⟩
 ·rcases hf with hf | ⟨rfl,ho⟩
  ·exact hf
  ·have:=hH.Pold _ hb
   have:=hg (by omega)
   omega
 ·refine ⟨fun id x hx=>?_,hH.apart,hH.fresh,fun b o hf=>?_,fun b hb=>Nat.lt_of_lt_of_le (hH.Pold b hb) hbel.size⟩
  ·obtain ⟨ri,h1,h2⟩:=hH.blk id x hx
   refine ⟨ri,h1,?_⟩
   have hm : MapOk m (Mem.rowed m w' g len) (fun i=>i):=⟨fun _ h=>h,fun b hb=>hbel.block b (hH.Pold b hb),fun _ _ h=>.inl h,hcell,fun _ _ h=>h⟩
   have:=BlkRep.map hm (fun hn=>hbel.block ri.b (h2.lt hn)) (fun hn=>h2.noPr hn) (fun hn o hf=>by
    rcases hf with hf | ⟨e,ho⟩
    ·exact hf
    ·have:=h2.lt hn
     have:=hg (by omega)
     omega) h2
   rw [renB_id] at this
   exact this
  ·rcases hf with hf | ⟨rfl,ho⟩
   ·exact Nat.lt_of_lt_of_le (hH.Fold b o hf) hbel.size
   ·exact (hg (by omega)).2
end Go.Proofs

namespace Go.Proofs
open Go Aw
set_option linter.unusedSimpArgs false
set_option linter.unusedVariables false
set_option maxRecDepth 100000
set_option maxHeartbeats 4000000
theorem noTL_VI : ∀ l : List (Int × Itm),noTL (l.map fun p=>VI p.2) = true
 | []=>rfl
 | p :: l=>by simp only [List.map_cons,noTL,VI,noT,Itm.cells,Bool.and_self,Bool.true_and]; exact noTL_VI l
theorem noTL_KI : ∀ l : List (Int × Itm),noTL (l.map fun p=>KI p.1) = true
 | []=>rfl
 | p :: l=>by simp only [List.map_cons,noTL,noT,Bool.true_and]; exact noTL_KI l
theorem noTBm_net (l : List (Int × Itm)) : noTBm (mapOf KI VI l) = true:=by simp only [mapOf,noTBm,noTL_VI,noTL_KI,Bool.and_self]
attribute [local go_sem ↓ high] noTBm_net
attribute [local go_sem] mres netL_nil VI leadI leadB
theorem c_graph_leads (gl : List (Nat × AV)) (l : List Itm) (o : Pob) : FnP Tryz.prog (gl) 137 [cmapOf KI VI (netL l),.agg o.cells] fun r=>r = .ret (.tup [.agg (leadI l o).cells,.bool (leadB l o)]):=by
 refine FnP.intro Tryz.func137 rfl rfl (by simp [Tryz.ntmps137]) ?_
 simp only [argEnv,Tryz.ntmps137,Tryz.results137]
 refine AW.rS ?_
 refine AW.rSC ?_
 refine awOps.cons ?_
 refine awGuard.lkC (keyOk_int .i64) Itm.zero zero_itm rfl ?_
 refine awOps.rn ?_
 refine AW.sS [0,1,2,3,4,5,6,7,8] 9 [(10,2)] [(0,.cells o.cells),(1,.cells (leadI l o).cells),(2,.cells (leadI l o).cells)] ?_
 refine awFunE.p ?_
 refine awFunE.p ?_
 refine awFunE.p ?_
 refine awFunE.p ?_
 refine awFunE.p ?_
 refine awFunE.p ?_
 refine awFunE.p ?_
 refine awFunE.p ?_
 refine awFunE.p ?_
 rw [Aw.awFunE_nil]
 refine ⟨EffAt.of [4,15],?_⟩
 refine awPlan.rn ?_
 refine AW.rt ?_
 simp only [Bool.cond_false_right]; rfl
theorem h_graph_refs (gl : List (Nat × AV)) (o : Pob) : FnH Tryz.prog (gl) 136 [.agg o.cells] ([]) 0 (fun r h n=>r = .ret (.clos 143 [.ptr 0 0]) ∧ h = [(0,.cells o.cells)] ∧ n = 1):=by
 refine FnH.intro Tryz.func136 rfl rfl (by simp [Tryz.ntmps136]) ?_
 simp only [argEnv,Tryz.ntmps136,Tryz.results136]
 refine AW.rS ?_
 refine AW.rS ?_
 refine AW.rt ?_
 all_goals first | contradiction | rfl | (simp; done) | (simp; omega)
theorem h_graph_of (gl : List (Nat × AV)) (d : Dc) (hv : docE d = 0) (h : d.bulk ≤ 16777216) : FnH Tryz.prog (gl) 122 [.agg d.cells] ([]) 0 (fun r h n=>r = .ret (.tup [.map 0,.bool true]) ∧ h = [(0,mapOf KI VI (netL d.items))] ∧ n = 1):=by
 refine FnH.intro Tryz.func122 rfl rfl (by simp [Tryz.ntmps122]) ?_
 simp only [argEnv,Tryz.ntmps122,Tryz.results122]
 have hs:=items_incr (docE_items hv)
 have hb : d.bulk = ibulk d.items + d.trailer.bulk:=rfl
 have hl:=ibulk_len d.items
 refine AW.rS ?_
 refine AW.seq ?_
 refine AW.rSC ?_
 refine awOps.cons (awGuard.c1 (c_docs_Check _ d h) ?_)
 refine awOps.rn ?_
 refine AW.c2 ?_ ?_
 ·intro h6
  exact absurd hv h6
 ·intro h6
  refine AW.skip ?_
  refine AW.rSC ?_
  refine awOps.cons ?_
  refine awGuard.mkM VI (keyOk_int .i64) ?_
  refine awOps.rn ?_
  refine AW.seq ?_
  refine AW.rS ?_
  refine AW.block ?_
  refine AW.lk (S:={ k : Nat // k ≤ d.items.length }) [4,15,16] (fun s_=>[(17,.int .i64 s_.1)]) (fun s_=>[(0,.cells d.cells),(1,mapOf KI VI (netL (d.items.take s_.1)))]) 2 (fun s_=>d.items.length - s_.1) ⟨0,Nat.zero_le _⟩ ?_ ?_
  ·refine St.le.vw [0,1]
  rintro ⟨k,hk⟩
  try dsimp only at hk
  refine AW.rS ?_
  refine AW.seq ?_
  refine AW.c2 ?_ ?_
  ·intro h20
   refine AW.skip ?_
   refine AW.seq ?_
   refine AW.block ?_
   refine AW.rS ?_
   refine AW.rLC ?_
   refine awOps.cons ?_
   refine awGuard.upM (keyOk_int .i64) (d.items.getD k Itm.zero) ?_
   refine awOps.rn ?_
   refine AW.rL ?_
   refine ⟨⟨k + 1,by omega⟩,?_,?_⟩
   ·refine St.le.vx [0,1] ?_
    rw [netL_new hs (by omega)]
   ·simp only []; omega
  ·intro h20
   refine AW.exit ?_
   obtain rfl : k = d.items.length:=by omega
   rw [List.take_length]
   refine AW.rS ?_
   refine AW.pre (σ':=⟨27,[(2,.map 0),(3,.bool true)],[(0,mapOf KI VI (netL d.items))],1,gl,0,[]⟩) (St.le.vw [1]) ?_
   refine AW.rt ?_
   all_goals first | contradiction | rfl | (simp; done) | (simp; omega)
end Go.Proofs

namespace Go.Proofs
open Go Aw
set_option linter.unusedSimpArgs false
set_option linter.unusedVariables false
set_option maxRecDepth 100000
set_option maxHeartbeats 4000000
attribute [local go_sem] take_strsAV app1_strsAV take_intsAV app1_intsAV take_itemsAV app_itemsAV app1_itemsAV
attribute [local go_sem ↓ high] noTBm_net
theorem rids_cmapOf {κ ν : Type} {K : κ → AV} {V : ν → AV} (hp : List (Nat × ABlk)) (l : List (κ × ν)) (xs : List AV) : List.flatMap (rids hp 9) (cmapOf K V l :: xs) = List.flatMap (rids hp 9) xs:=rfl
attribute [local go_sem] mres VI
attribute [local go_sem ↓ high] rids_cmapOf
theorem other_step (gl : List (Nat × AV)) (N : Nat) (hN : N ≤ 16777216) (d : Dc) (h : d.bulk ≤ 16777216) (M : List (Int × Itm)) (hM : ∀ n,0 ≤ (foundI M n).num ∧ (foundI M n).num ≤ 16777216) (ih : ∀ (o' : Pob) (dd : Int),o'.bulk < N → chk o' dd = 0 → FnP Tryz.prog gl 34 [cmapOf KI VI M,.agg d.cells,.agg o'.cells] fun r=>r = .ret (.agg (o'.turn (turnM d.items M)).cells)) (o : Pob) (dd : Int) (hb : o.bulk ≤ N) (hc : chk o dd = 0) : FnP Tryz.prog (gl) 34 [cmapOf KI VI M,.agg d.cells,.agg o.cells] fun r=>r = .ret (.agg (o.turn (turnM d.items M)).cells):=by
 refine FnP.intro Tryz.func34 rfl rfl (by simp [Tryz.ntmps34]) ?_
 simp only [argEnv,Tryz.ntmps34,Tryz.results34]
 have hkl : o.kids.length ≤ o.bulk:=by have:=Pob.bulk_eq o; omega
 refine AW.rS ?_
 refine AW.trim [0,4,5,6] ?_
 refine AW.seq ?_
 refine AW.rS ?_
 refine AW.trim [0,4,5,6,16] ?_
 refine AW.c2 ?_ ?_
 ·intro h4
  have h8 : o.kind = 8:=by simpa using h4
  have htr : o.turn (turnM d.items M) = turnM d.items M o:=turn_ref h8
  refine AW.rSC ?_
  refine awOps.cons (awGuard.c1 (c_shift_leads _ d o h) ?_)
  refine awOps.rn ?_
  refine AW.trim [0,6,7,8] ?_
  refine AW.seq ?_
  refine AW.rS ?_
  refine AW.trim [0,6,7,24] ?_
  refine AW.c2 ?_ ?_
  ·intro h10
   refine AW.rSC ?_
   refine awOps.cons (awGuard.c1 (c_value_Null ..) ?_)
   refine awOps.rn ?_
   refine AW.trim [6] ?_
   refine AW.rt ?_
   rw [htr,turnM,if_neg (by simpa using h10)]
  ·intro h10
   have hl : ledB d.items o = true:=by simpa using h10
   refine AW.skip ?_
   refine AW.rSC ?_
   refine awOps.cons ?_
   refine awGuard.lkC (keyOk_int .i64) Itm.zero zero_itm rfl ?_
   refine awOps.rn ?_
   refine AW.trim [6,9] ?_
   have hMo:=hM o.num
   rw [show (mfind M (ledI d.items o).num).getD Itm.zero = foundI M o.num from by rw [(led_mem hl).2.1]; rfl]
   refine AW.rSC ?_
   refine awOps.cons (awGuard.c1 (c_value_Ref _ (foundI M o.num).num (foundI M o.num).gen) ?_)
   refine awOps.rn ?_
   refine AW.trim [6] ?_
   refine AW.rt ?_
   rw [htr,turnM,if_pos hl]
 ·intro h4
  have h8 : o.kind ≠ 8:=by simpa using h4
  refine AW.skip ?_
  refine AW.rS ?_
  refine AW.trim [0,4,5,6,10] ?_
  refine AW.rS ?_
  refine AW.trim [0,4,5,6,10] ?_
  refine AW.seq ?_
  refine AW.rS ?_
  refine AW.trim [0,4,5,6,10,39,40,41] ?_
  refine AW.pre (St.le.nilcell 3 4 1 (by (simp only [go_sem,seval]; iterate 2 try (simp (disch:=omega) only [zq]; try simp only [go_sem,seval])); exact rfl) (by exact rfl)) ?_
  refine wk ?_
  refine AW.pre (St.le.nilcell 3 5 6 (by (simp only [go_sem,seval]; iterate 2 try (simp (disch:=omega) only [zq]; try simp only [go_sem,seval])); exact rfl) (by exact rfl)) ?_
  refine wk ?_
  refine AW.block ?_
  refine AW.lk (S:={ i : Nat // i ≤ o.kids.length }) [0,4,5,6,10,39,40] (fun s_=>[(41,.int .i64 (s_.1 : Int))]) (fun s_=>[(0,.cells [.sl (itemsAV d.items),.int .i64 d.trailer.kind,.int .i64 d.trailer.num,.int .i64 d.trailer.gen,.str d.trailer.str,.sl (strsAV d.trailer.keys),.sl (objsAV d.trailer.kids)]),(1,.cells [.int .i64 (o).kind,.int .i64 (o).num,.int .i64 (o).gen,.str (o).str,.sl (strsAV (o).keys),.sl (objsAV (o).kids)]),(2,.cells [.int .i64 0,.int .i64 0,.int .i64 0,.str [],.raw (.slice none 0 0),.raw (.slice none 0 0)]),(3,.cells [.int .i64 o.kind,.int .i64 o.num,.int .i64 o.gen,.str o.str,.row 4 0 (turnK (turnM d.items M) o s_.1).length,.row 5 0 (turnV (turnM d.items M) o s_.1).length]),(4,.row 1 (strsAV (turnK (turnM d.items M) o s_.1)) true),(5,.row 6 (objsAV (turnV (turnM d.items M) o s_.1)) true)]) 6 (fun s_=>o.kids.length - s_.1) ⟨0,Nat.zero_le _⟩ ?_ ?_
  ·refine St.le.vx [0,1,2,3,4,5] ?_
   rw [turn_none.1,turn_none.2] <;> exact ⟨rfl,rfl,rfl⟩
  rintro ⟨i,hi⟩
  try dsimp only at hi
  refine AW.rS ?_
  refine AW.trim [0,4,5,6,10,39,40,41,42] ?_
  refine AW.seq ?_
  refine AW.c2 ?_ ?_
  ·intro h34
   have hi2 : i < o.kids.length:=by omega
   have hkb:=Pob.bulk_kid hi2
   have hck:=(chk_iff.1 hc).2 _ (getD_kid hi2)
   have htl:=turnV_len (f:=turnM d.items M) (o:=o) (i:=i)
   refine AW.skip ?_
   refine AW.seq ?_
   refine AW.block ?_
   refine AW.rS ?_
   refine AW.trim [0,4,5,6,10,11,12,39,40,41] ?_
   refine AW.rSC ?_
   refine awOps.cons (awGuard.c1 (ih (o.kids.getD i Pob.null) (dd + 1) (by omega) hck) ?_)
   refine awOps.rn ?_
   refine AW.trim [0,4,5,6,10,11,13,39,40,41] ?_
   refine AW.seq ?_
   refine AW.rS ?_
   refine AW.trim [0,4,5,6,10,11,13,39,40,41,52] ?_
   refine AW.c2 ?_ ?_
   ·intro h44
    have h6 : o.kind ≠ 6:=by simpa using h44
    have hkey:=keys_enough hc h6 hi2
    obtain ⟨s1,s2⟩:=turn_dict_step (f:=turnM d.items M) h6 hi2 hkey
    refine AW.seq ?_
    refine AW.rS ?_
    refine AW.trim [0,4,5,6,10,11,13,39,40,41,55] ?_
    refine AW.c2 ?_ ?_
    ·intro h47
     rw [if_pos (by simpa using h47),List.append_nil] at s1 s2
     refine AW.exit ?_
     refine AW.rL ?_
     refine ⟨⟨i + 1,by omega⟩,?_,?_⟩
     ·refine St.le.vx [0,1,2,3,4,5] ?_
      rw [s1,s2] <;> exact ⟨rfl,rfl,rfl⟩
     ·simp only []; omega
    ·intro h47
     rw [if_neg (by simpa using h47)] at s1 s2
     refine AW.skip ?_
     refine AW.tGL (σf:=?sf52) (.take 0 0 (.take 2 0 (.take 4 0 (.take 3 2 (.fork 1 (.fork 5 (.take 6 2 (.fork 7 (.fork 8 (.take 9 0 (.fork 10 .done .stop)) .stop) .stop)) .stop) (.fork 5 (.take 6 2 (.fork 1 (.fork 7 (.fork 8 (.take 9 0 (.fork 10 .done .stop)) .stop) .stop) (.fork 7 (.take 1 2 (.fork 8 (.take 9 0 (.fork 10 .done .stop)) .stop)) .stop))) .stop)))))) ?tree52 ?rest52
     case tree52 =>
      repeat' (first | exact True.intro | refine awTree.tk ?_ | refine awTree.fA ?_ ?_ | refine awTree.fB ?_ ?_ | refine awTree.fK ?_ ?_ | exact awTree.dn)
     case rest52 =>
     refine AW.rL ?_
     refine AW.rL ?_
     refine ⟨⟨i + 1,by omega⟩,?_,?_⟩
     ·refine St.le.vx [0,1,2,3,9,11] ?_
      rw [s1,s2]; exact ⟨by simp,by first | rfl | simp [strsAV],by first | rfl | rw [← app1_objsAV]⟩
     ·simp only []; omega
   ·intro h44
    have h6 : o.kind = 6:=by simpa using h44
    obtain ⟨s1,s2⟩:=turn_arr_step (f:=turnM d.items M) h6 hi2
    refine AW.skip ?_
    refine AW.rL ?_
    refine AW.rL ?_
    refine ⟨⟨i + 1,by omega⟩,?_,?_⟩
    ·refine St.le.vx [0,1,2,3,4,9] ?_
     rw [s1,s2]; exact ⟨by simp,by first | rfl | simp [strsAV],by first | rfl | rw [← app1_objsAV]⟩
    ·simp only []; omega
  ·intro h34
   refine AW.exit ?_
   refine AW.rS ?_
   refine AW.trim [6] ?_
   refine AW.rt ?_
   rw [turn_done (i:=i) h8 (by omega)]
   rfl
theorem other_all (gl : List (Nat × AV)) (d : Dc) (h : d.bulk ≤ 16777216) (M : List (Int × Itm)) (hM : ∀ n,0 ≤ (foundI M n).num ∧ (foundI M n).num ≤ 16777216) (N : Nat) : N ≤ 16777216 → ∀ (o : Pob) (dd : Int),o.bulk ≤ N → chk o dd = 0 → FnP Tryz.prog gl 34 [cmapOf KI VI M,.agg d.cells,.agg o.cells] fun r=>r = .ret (.agg (o.turn (turnM d.items M)).cells):=by
 induction N using Nat.strongRecOn with
 | ind N IH=>exact fun hN o dd ho hc=>other_step gl N hN d h M hM (fun o' dd' h' hc'=>IH o'.bulk h' (by omega) o' dd' (Nat.le_refl _) hc') o dd ho hc
theorem c_shift_other (gl : List (Nat × AV)) (d : Dc) (o : Pob) (M : List (Int × Itm)) (dd : Int) (h : d.bulk ≤ 16777216) (hM : ∀ n,0 ≤ (foundI M n).num ∧ (foundI M n).num ≤ 16777216) (ho : o.bulk ≤ 16777216) (hc : chk o dd = 0) : FnP Tryz.prog gl 34 [cmapOf KI VI M,.agg d.cells,.agg o.cells] fun r=>r = .ret (.agg (o.turn (turnM d.items M)).cells) :=
 other_all gl d h M hM 16777216 (Nat.le_refl _) o dd ho hc
end Go.Proofs

namespace Go.Proofs
open Go.Shelf Go.RowKit Go.Lib Go.Sort
def Tryz.sortItems_ren : Go.Shelf.Ren:=⟨fun | 6=>61 | 15=>93 | 14=>92 | 28=>120 | 29=>121 | 20=>112 | 21=>113 | 22=>114 | 23=>115 | 24=>116 | 25=>117 | 26=>118 | 27=>119 | 46=>129 | 47=>130 | 48=>131 | 49=>132 | 50=>133 | 57=>139 | n=>n,fun | 22=>22 | 24=>45 | 25=>81 | 3=>3 | 39=>104 | 0=>0 | 53=>125 | 55=>127 | 4=>4 | 46=>119 | 45=>118 | 50=>62 | 5=>5 | 9=>9 | 66=>137 | 70=>141 | 76=>151 | 77=>152 | n=>n,fun n=>n⟩
theorem Tryz.sortItems : SlLaysF0.n6 Tryz.prog Tryz.sortItems_ren:={
 mixed:=by kernel_rfl
 f6 := ⟨"slices.SortFunc[[]foliant/api.Item,foliant/api.Item]", by decide, Tryz.func61.trans (congrArg some (by kernel_rfl))⟩
 f14 := ⟨"slices.pdqsortCmpFunc[foliant/api.Item]", by decide, Tryz.func92.trans (congrArg some (by kernel_rfl))⟩
 f20 := ⟨"slices.insertionSortCmpFunc[foliant/api.Item]", by decide, Tryz.func112.trans (congrArg some (by kernel_rfl))⟩
 f21 := ⟨"slices.heapSortCmpFunc[foliant/api.Item]", by decide, Tryz.func113.trans (congrArg some (by kernel_rfl))⟩
 f22 := ⟨"slices.breakPatternsCmpFunc[foliant/api.Item]", by decide, Tryz.func114.trans (congrArg some (by kernel_rfl))⟩
 f23 := ⟨"slices.choosePivotCmpFunc[foliant/api.Item]", by decide, Tryz.func115.trans (congrArg some (by kernel_rfl))⟩
 f24 := ⟨"slices.reverseRangeCmpFunc[foliant/api.Item]", by decide, Tryz.func116.trans (congrArg some (by kernel_rfl))⟩
 f25 := ⟨"slices.partialInsertionSortCmpFunc[foliant/api.Item]", by decide, Tryz.func117.trans (congrArg some (by kernel_rfl))⟩
 f26 := ⟨"slices.partitionEqualCmpFunc[foliant/api.Item]", by decide, Tryz.func118.trans (congrArg some (by kernel_rfl))⟩
 f27 := ⟨"slices.partitionCmpFunc[foliant/api.Item]", by decide, Tryz.func119.trans (congrArg some (by kernel_rfl))⟩
 f46 := ⟨"slices.siftDownCmpFunc[foliant/api.Item]", by decide, Tryz.func129.trans (congrArg some (by kernel_rfl))⟩
 f49 := ⟨"slices.medianAdjacentCmpFunc[foliant/api.Item]", by decide, Tryz.func132.trans (congrArg some (by kernel_rfl))⟩
 f50 := ⟨"slices.medianCmpFunc[foliant/api.Item]", by decide, Tryz.func133.trans (congrArg some (by kernel_rfl))⟩
 f57 := ⟨"slices.order2CmpFunc[foliant/api.Item]", by decide, Tryz.func139.trans (congrArg some (by kernel_rfl))⟩
 f15:=Tryz.func93.trans (congrArg some (by kernel_rfl))
 f28:=Tryz.func120.trans (congrArg some (by kernel_rfl))
 f29:=Tryz.func121.trans (congrArg some (by kernel_rfl))
 f47:=Tryz.func130.trans (congrArg some (by kernel_rfl))
 f48:=Tryz.func131.trans (congrArg some (by kernel_rfl))
 t0:=Tryz.underlying0
 a0:=Tryz.isAgg0
 z0:=Tryz.sizeOf0
 v0:=Tryz.zeroValue0
 t3:=Tryz.underlying3
 a3:=Tryz.isAgg3
 z3:=Tryz.sizeOf3
 v3:=Tryz.zeroValue3
 t4:=Tryz.underlying4
 a4:=Tryz.isAgg4
 z4:=Tryz.sizeOf4
 v4:=Tryz.zeroValue4
 t5:=Tryz.underlying5
 a5:=Tryz.isAgg5
 z5:=Tryz.sizeOf5
 v5:=Tryz.zeroValue5
 t9:=Tryz.underlying9
 a9:=Tryz.isAgg9
 z9:=Tryz.sizeOf9
 v9:=Tryz.zeroValue9
 t22:=Tryz.underlying22
 a22:=Tryz.isAgg22
 z22:=Tryz.sizeOf22
 v22:=Tryz.zeroValue22
 t25:=Tryz.underlying81
 a25:=Tryz.isAgg81
 z25:=Tryz.sizeOf81
 v25:=Tryz.zeroValue81
 t39:=Tryz.underlying104
 a39:=Tryz.isAgg104
 z39:=Tryz.sizeOf104
 v39:=Tryz.zeroValue104
 t45:=Tryz.underlying118
 a45:=Tryz.isAgg118
 z45:=Tryz.sizeOf118
 v45:=Tryz.zeroValue118
 t46:=Tryz.underlying119
 a46:=Tryz.isAgg119
 z46:=Tryz.sizeOf119
 v46:=Tryz.zeroValue119
 t50:=Tryz.underlying62
 a50:=Tryz.isAgg62
 z50:=Tryz.sizeOf62
 v50:=Tryz.zeroValue62
 t53:=Tryz.underlying125
 a53:=Tryz.isAgg125
 z53:=Tryz.sizeOf125
 v53:=Tryz.zeroValue125
 t55:=Tryz.underlying127
 a55:=Tryz.isAgg127
 z55:=Tryz.sizeOf127
 v55:=Tryz.zeroValue127
 t66:=Tryz.underlying137
 a66:=Tryz.isAgg137
 z66:=Tryz.sizeOf137
 v66:=Tryz.zeroValue137
 t70:=Tryz.underlying141
 a70:=Tryz.isAgg141
 z70:=Tryz.sizeOf141
 v70:=Tryz.zeroValue141
 t76:=Tryz.underlying151
 a76:=Tryz.isAgg151
 z76:=Tryz.sizeOf151
 v76:=Tryz.zeroValue151
 t77:=Tryz.underlying152
 a77:=Tryz.isAgg152
 z77:=Tryz.sizeOf152
 v77:=Tryz.zeroValue152 }
end Go.Proofs

namespace Go.Proofs
open Go.Shelf Go.RowKit Go.Lib Go.Sort
set_option maxRecDepth 100000
structure RawI where
 num : Int
 gen : Int
 kind : Int
 n : Int
 g : Int
 s : ByteArray
 k1 : Option Addr
 k2 : Nat
 k3 : Nat
 o1 : Option Addr
 o2 : Nat
 o3 : Nat
 ok : 0 ≤ num ∧ num ≤ 16777216
instance : Inhabited RawI:=⟨⟨0,0,0,0,0,.empty,none,0,0,none,0,0,by decide⟩⟩
def RawI.enc (x : RawI) : List Value:=[.int .i64 x.num,.int .i64 x.gen,.int .i64 x.kind,.int .i64 x.n,.int .i64 x.g,.string x.s,.slice x.k1 x.k2 x.k3,.slice x.o1 x.o2 x.o3]
set_option maxHeartbeats 4000000 in
theorem rawCmp (x y : RawI) (W : World) : Calls Tryz.prog 62 #[.agg #[.int .i64 x.num,.int .i64 x.gen,.int .i64 x.kind,.int .i64 x.n,.int .i64 x.g,.string x.s,.slice x.k1 x.k2 x.k3,.slice x.o1 x.o2 x.o3],.agg #[.int .i64 y.num,.int .i64 y.gen,.int .i64 y.kind,.int .i64 y.n,.int .i64 y.g,.string y.s,.slice y.k1 y.k2 y.k3,.slice y.o1 y.o2 y.o3]] W fun e w'=>e = .returned (.int .i64 (x.num - y.num)) ∧ ∃ q os',w' = grow (W.drewN q) os':=by
 have h1:=x.ok
 have h2:=y.ok
 have hw : IntKind.i64.wrap (x.num - y.num) = x.num - y.num:=by simp [IntKind.wrap,IntKind.bits,IntKind.signed]; omega
 go_enter Tryz.func62,Tryz.ntmps62
 go_wp2
 go_ret
 exact ⟨rfl,0,_,by rw [alloc_eq_grow,alloc_eq_grow,grow_grow]; rfl⟩
theorem rawLays (blk off size : Nat) (w : World) : CmpLays Tryz.prog 62 #[] RawI.enc 8 (fun x y=>x.num - y.num) blk off size w :=
 fun _ _ _ _ x y=>rawCmp x y _
theorem rawLt (x y : RawI) : ltOf (fun x y : RawI=>x.num - y.num) x y = decide (x.num < y.num):=by
 show decide (x.num - y.num < 0) = _
 exact decide_eq_decide.2 (by omega)
theorem rawSwo : SWO (ltOf fun x y : RawI=>x.num - y.num) where
 irrefl x:=by rw [rawLt]; simp
 trans x y z h1 h2:=by rw [rawLt] at *; simp at *; omega
 ntrans x y z h1 h2:=by rw [rawLt] at *; simp at *; omega
theorem sortRaw (blk off cap : Nat) (d : Array RawI) (w : World) (hH : HoldsK RawI.enc 8 w blk off d) (hblk : blk < w.heap.size) (hsz : d.size < 4611686018427387904) :
  Calls Tryz.prog 61 #[.slice (some ⟨blk,off,none⟩) d.size cap,.func (.func 62) #[] #[]] w fun e w'=>e = .returned (.tuple #[]) ∧ ∃ d' n os,PermIn 0 d.size d d' ∧ SortedIn (ltOf fun x y : RawI=>x.num - y.num) 0 d.size d' ∧ w' = sortWorldK RawI.enc 8 w blk off n d' os :=
 AnyQ.slices_SortFunc Tryz.sortItems 8 Tryz.isAgg45 Tryz.sizeOf45 RawI.enc (fun _=>rfl) (fun x v hv=>by simp [RawI.enc] at hv; rcases hv with rfl | rfl | rfl | rfl | rfl | rfl | rfl | rfl <;> rfl) (fun x y=>x.num - y.num) rawSwo 62 #[] blk off cap d w (enters_of Tryz.func62 (by kernel_rfl) rfl) (rawLays blk off d.size w) hH hblk hsz
theorem sortNone (p : Option Addr) (cap : Nat) (fv : Value) (w : World) : Calls Tryz.prog 61 #[.slice p 0 cap,fv] w fun e w'=>e = .returned (.tuple #[]) ∧ w' = w:=AnyF.slices_SortFunc_none Tryz.sortItems p cap fv w
end Go.Proofs

namespace Go.Proofs
open Go Aw Go.RowKit Go.Sort
set_option maxRecDepth 100000
set_option maxHeartbeats 4000000
theorem perm_lift {α β : Type} (f : β → α) {a b : List α} (h : a.Perm b) : ∀ z : List β,z.map f = a → ∃ z' : List β,z.Perm z' ∧ z'.map f = b:=by
 induction h with
 | nil=>exact fun z hz=>⟨z,.refl _,hz⟩
 | cons x _ ih =>
  intro z hz
  cases z with
  | nil=>cases hz
  | cons y z =>
   rw [List.map_cons] at hz
   injection hz with h1 h2
   obtain ⟨z',p,e⟩:=ih z h2
   exact ⟨y :: z',.cons y p,by rw [List.map_cons,h1,e]⟩
 | swap x y l =>
  intro z hz
  match z,hz with
  | u :: v :: z,hz =>
   simp only [List.map_cons] at hz
   injection hz with h1 h2
   injection h2 with h2 h3
   exact ⟨v :: u :: z,.swap v u z,by simp only [List.map_cons,h1,h2,h3]⟩
 | trans _ _ ih1 ih2 =>
  intro z hz
  obtain ⟨z1,p1,e1⟩:=ih1 z hz
  obtain ⟨z2,p2,e2⟩:=ih2 z1 e1
  exact ⟨z2,p1.trans p2,e2⟩
theorem raw_at {m : Mem} {i : Itm} {vs : List Value} (h : RepL m 2 i.cells vs) (hr : 0 ≤ i.num ∧ i.num ≤ 16777216) : ∃ x : RawI,x.enc = vs ∧ x.num = i.num:=by
 simp only [Itm.cells,RepL,Rep] at h
 obtain ⟨_,_,rfl,rfl,_,_,rfl,rfl,_,_,rfl,rfl,_,_,rfl,rfl,_,_,rfl,rfl,_,_,rfl,rfl,a,_,rfl,ha,b,_,rfl,hb,rfl⟩:=h
 have sl : ∀ (es : List (List AV)) (v : Value),((es = [] ∧ ∃ a c,v = .slice a 0 c) ∨ (∃ b o c sz,v = .slice (some ⟨b,o,none⟩) es.length c ∧ es.length ≤ c ∧ RepE m es b o sz)) → ∃ a n c,v = .slice a n c:=by
  rintro es v (⟨_,a,c,rfl⟩ | ⟨b,o,c,sz,rfl,_⟩)
  ·exact ⟨_,_,_,rfl⟩
  ·exact ⟨_,_,_,rfl⟩
 obtain ⟨a1,a2,a3,rfl⟩:=sl _ _ ha
 obtain ⟨b1,b2,b3,rfl⟩:=sl _ _ hb
 exact ⟨⟨i.num,i.gen,i.obj.kind,i.obj.num,i.obj.gen,⟨i.obj.str.toArray⟩,a1,a2,a3,b1,b2,b3,hr⟩,rfl,rfl⟩
theorem flat_at : ∀ (d : List RawI) (t : Nat),t < d.length * 8 → (d.flatMap RawI.enc)[t]? = (RawI.enc (d.getD (t / 8) default))[t % 8]?
 | [],t,h=>by simp at h
 | x :: r,t,h=>by
  rw [List.flatMap_cons]
  have e8 : (RawI.enc x).length = 8:=rfl
  rw [List.length_cons] at h
  by_cases ht : t < 8
  ·rw [List.getElem?_append_left (by omega),Nat.div_eq_of_lt ht,Nat.mod_eq_of_lt ht]
   rfl
  ·rw [List.getElem?_append_right (by omega),e8,flat_at r (t - 8) (by omega),show t / 8 = (t - 8) / 8 + 1 by omega,show t % 8 = (t - 8) % 8 by omega]
   rfl
theorem flatK_at (d : Array RawI) {t : Nat} (h : t < d.size * 8) : (flatK RawI.enc 8 d)[t]! = (RawI.enc (d.toList.getD (t / 8) default))[t % 8]!:=by
 rw [get_flatK _ _ _ _ h]
 have : d[t / 8]! = d.toList.getD (t / 8) default:=by simp [List.getD,show t / 8 < d.size by omega]
 rw [this]
theorem repL_flat {m : Mem} : ∀ z : List (Itm × RawI),(∀ p ∈ z,RepL m 2 p.1.cells p.2.enc) → RepL m 2 (itemsAV (z.map Prod.fst)).flatten ((z.map Prod.snd).flatMap RawI.enc)
 | [],_=>by simp [itemsAV,RepL]
 | p :: z,h=>by
  have:=repL_flat z fun q hq=>h q (List.mem_cons_of_mem _ hq)
  simp only [itemsAV,List.map_cons,List.flatten_cons,List.flatMap_cons]
  exact RepL.append (h p List.mem_cons_self) this
theorem put_row {c : Array Value} {o n : Nat} {d : Array RawI} (hn : d.size = n) (h : o + n * 8 ≤ c.size) : ((putCells (id : Value → Value) o (flatK RawI.enc 8 d) c).toList.drop o).take (n * 8) = d.toList.flatMap RawI.enc:=by
 have hfl : (d.toList.flatMap RawI.enc).length = n * 8:=by
  rw [List.length_flatMap]
  have : d.toList.map (fun x=>(RawI.enc x).length) = List.replicate n 8:=by
   rw [← hn,← Array.length_toList]
   induction d.toList with
   | nil=>rfl
   | cons x l ih=>rw [List.map_cons,ih] <;> rfl
  rw [this,List.sum_replicate_nat]
 refine List.ext_getElem? fun t=>?_
 by_cases ht : t < n * 8
 ·rw [List.getElem?_take_of_lt ht,List.getElem?_drop,Array.getElem?_toList,flat_at _ _ (by simpa [hn] using ht)]
  have h1 : (putCells (id : Value → Value) o (flatK RawI.enc 8 d) c)[o + t]? = some ((flatK RawI.enc 8 d)[t]!):=by
   simp only [putCells,Array.getElem?_mapIdx]
   rw [Array.getElem?_eq_getElem (by omega)]
   simp [hn,ht]
  rw [h1,flatK_at d (by omega)]
  have e8 : (RawI.enc (d.toList.getD (t / 8) default)).length = 8:=rfl
  rw [List.getElem?_eq_getElem (by omega)]
  congr 1
  rw [getElem!_pos]
 ·rw [List.getElem?_eq_none (by simp; omega),List.getElem?_eq_none (by omega)]
theorem h_SortFunc_items (gl : List (Nat × AV)) (l : List Itm) (hnd : (l.map (·.num)).Nodup) (hr : ∀ i ∈ l,0 ≤ i.num ∧ i.num ≤ 16777216) (hl : l.length ≤ 16777216) :
  FnH Tryz.prog gl 61 [.row 0 0 l.length,.clos 62 []] [(0,.row 8 (itemsAV l) true)] 1 fun r h n=>r = .ret (.tup []) ∧ h = [(0,.row 8 (itemsAV (sortN l)) true)] ∧ n = 1:=by
 refine ⟨Aw.enters_of Tryz.func61 rfl rfl,fun m vs hm hv=>?_⟩
 obtain ⟨ri,r0,b0⟩:=hm.h.blk 0 _ rfl
 simp only [RepL,Rep] at hv
 obtain ⟨v,rest,rfl,⟨_,ri',r0',hrow⟩,v1,rest1,rfl,⟨cv,rfl,hcv⟩,rfl⟩:=hv
 rw [r0] at r0'
 injection r0' with r0'
 subst r0'
 have hcv' : cv = #[]:=by
  apply Array.ext'
  exact hcv
 subst hcv'
 have hnone : ∀ (p : Option Addr) (cap : Nat),v = .slice p 0 cap → l = [] → Calls Tryz.prog 61 #[v,.func (.func 62) #[] #[]] m.w fun e w'=>∃ m' r hp' nx',m'.w = w' ∧ m.le m' ∧ SimH m' hp' nx' ∧ endOkH m' r e ∧ r = .ret (.tup []) ∧ hp' = [(0,.row 8 (itemsAV (sortN l)) true)] ∧ nx' = 1:=by
  rintro p cap rfl rfl
  refine (sortNone p cap _ m.w).mono ?_
  rintro e w' ⟨rfl,rfl⟩
  exact ⟨m,.ret (.tup []),_,_,rfl,Mem.le.refl m,hm.h,⟨_,rfl,by simp [Rep,RepL]⟩,rfl,rfl,rfl⟩
 have hll : l.length = 0 → l = []:=fun h=>List.eq_nil_of_length_eq_zero h
 rcases hrow with ⟨_,_,h0,hvv⟩ | ⟨hn,hcap,hcap2,hvv⟩ | ⟨_,_,h0,a,hvv⟩
 ·exact hnone _ _ hvv (hll h0)
 ·have b1 : RowRep m ri 8 (itemsAV l) true:=b0
  rcases b1 with ⟨h,_⟩ | ⟨_,hP,⟨hsz,hsz'⟩,hcapl,⟨c,T,lo,hi,hbk,hfr,hcs⟩,hif⟩
  ·rw [hn] at h; cases h
  rw [if_pos rfl] at hif
  obtain ⟨hY,hF⟩:=hif
  rw [hsz'] at hY hcs hvv
  have hil : (itemsAV l).length = l.length:=by simp [itemsAV]
  rw [hil] at hcapl
  have hblk : ri.b < m.w.heap.size:=lt_of_getElem? hbk
  have hel : ∀ i,∃ x : RawI,i < l.length → x.enc = (c.toList.drop (ri.o + i * 8)).take 8 ∧ x.num = (l.getD i Itm.zero).num ∧ RepL m 2 (l.getD i Itm.zero).cells x.enc:=by
   intro i
   by_cases hi : i < l.length
   ·have h1:=(RepY.at hY i (by rw [hil]; exact hi)).2
    have e1 : (itemsAV l)[i]'(by rw [hil]; exact hi) = (l.getD i Itm.zero).cells:=by simp [itemsAV,List.getD,hi]
    rw [e1] at h1
    have h2:=RepX.list hbk h1
    have e2 : (l.getD i Itm.zero).cells.length = 8:=rfl
    rw [e2] at h2
    obtain ⟨x,hx,hxn⟩:=raw_at h2 (hr _ (by rw [show l.getD i Itm.zero = l[i] from by simp [List.getD,hi]]; exact List.getElem_mem hi))
    exact ⟨x,fun _=>⟨hx,hxn,by rw [hx]; exact h2⟩⟩
   ·exact ⟨default,fun h=>absurd h hi⟩
  obtain ⟨f,hf⟩:=Classical.axiomOfChoice hel
  have hz1 : ((List.range l.length).map fun i=>(l.getD i Itm.zero,f i)).map Prod.fst = l:=by
   refine List.ext_getElem (by simp) fun i h1 h2=>?_
   simp [List.getD,h2]
  have hzp : ∀ p ∈ (List.range l.length).map fun i=>(l.getD i Itm.zero,f i),RepL m 2 p.1.cells p.2.enc ∧ p.2.num = p.1.num:=by
   intro p hp
   obtain ⟨i,hi,rfl⟩:=List.mem_map.1 hp
   have:=hf i (List.mem_range.1 hi)
   exact ⟨this.2.2,this.2.1⟩
  have hsn : ((List.range l.length).map fun i=>(l.getD i Itm.zero,f i)).map Prod.snd = (List.range l.length).map f:=by simp
  generalize hz : ((List.range l.length).map fun i=>(l.getD i Itm.zero,f i)) = z at hz1 hzp hsn
  have hds : ((z.map Prod.snd).toArray).size = l.length:=by rw [hsn]; simp
  have hH : HoldsK RawI.enc 8 m.w ri.b ri.o (z.map Prod.snd).toArray:=by
   intro j hj
   rw [size_flatK,hds] at hj
   rw [flatK_at _ (by rw [hds]; exact hj),hsn]
   have hq : j / 8 < l.length:=by omega
   have e1 : ((List.range l.length).map f).toArray.toList.getD (j / 8) default = f (j / 8):=by simp [List.getD,hq]
   have hjc : ri.o + j < c.size:=by omega
   rw [e1,(hf (j / 8) hq).1]
   constructor
   ·simp only [World.cell?,hbk,id]
    rw [Array.getElem?_eq_getElem hjc]
    have hlen : ((c.toList.drop (ri.o + j / 8 * 8)).take 8).length = 8:=by simp; omega
    rw [getElem!_pos _ _ (by rw [hlen]; omega)]
    simp only [List.getElem_take,List.getElem_drop,Array.getElem_toList,show ri.o + j / 8 * 8 + j % 8 = ri.o + j by omega]
    rfl
   ·have:=hfr (ri.o + j) (by simp; omega)
    simp only [World.frozen?,hbk]
    simpa using this
  have hcall:=sortRaw ri.b ri.o (ri.cap - 0) (z.map Prod.snd).toArray m.w hH hblk (by rw [hds]; omega)
  rw [hds] at hcall
  rw [hvv,Nat.zero_mul,Nat.add_zero]
  refine hcall.mono ?_
  rintro e w' ⟨rfl,d',n,os,hp,hs,rfl⟩
  obtain ⟨hz0,_,hpm⟩:=hp
  rw [hds] at hz0
  have hpm2 : (z.map Prod.snd).Perm d'.toList:=by
   have e1 : (d'.extract 0 l.length) = d':=by rw [← hz0,Array.extract_size]
   have e2 : ((z.map Prod.snd).toArray.extract 0 l.length) = (z.map Prod.snd).toArray:=by rw [← hds,Array.extract_size]
   rw [e1,e2] at hpm
   simpa using hpm.symm
  obtain ⟨z',hzz,hze⟩:=perm_lift Prod.snd hpm2 z rfl
  have hlp : (z'.map Prod.fst).Perm l:=by
   have:=(hzz.map Prod.fst).symm
   rwa [hz1] at this
  have hzp' : ∀ p ∈ z',RepL m 2 p.1.cells p.2.enc ∧ p.2.num = p.1.num:=fun p hp=>hzp p (hzz.mem_iff.2 hp)
  have hzl : z'.length = l.length:=by rw [← hlp.length_eq]; simp
  have hd' : ∀ i (h : i < z'.length),d'[i]! = z'[i].2:=by
   intro i h
   have h3 : i < d'.toList.length:=by rw [Array.length_toList,hz0]; omega
   have : d'.toList[i]'h3 = z'[i].2:=by
    have h4 : i < (z'.map Prod.snd).length:=by simpa using h
    have : (z'.map Prod.snd)[i]'h4 = z'[i].2:=by simp
    rw [← this]
    congr 1
    rw [hze]
   rw [← this,Array.getElem_toList,getElem!_pos]
  have hsorted : (z'.map Prod.fst).Pairwise fun a b=>a.num ≤ b.num:=by
   rw [List.pairwise_iff_getElem]
   intro i j hi hj hij
   simp only [List.length_map] at hi hj
   have:=hs i j (Nat.zero_le _) hij (by omega)
   rw [rawLt,hd' i hi,hd' j hj] at this
   simp only [List.getElem_map]
   rw [← (hzp' _ (List.getElem_mem hi)).2,← (hzp' _ (List.getElem_mem hj)).2]
   simpa using this
  have hse : z'.map Prod.fst = sortN l:=sorted_eq (hlp.trans (sortN_perm l).symm) hsorted (sortN_sorted l) ((hlp.map _).nodup_iff.2 hnd)
  have hrow1:=put_row (c:=c) (o:=ri.o) hz0 (by omega)
  have hcz : (putCells (id : Value → Value) ri.o (flatK RawI.enc 8 d') c).size = c.size:=by simp [putCells]
  have hw1 : putRow id m.w ri.b ri.o (flatK RawI.enc 8 d') = wset m.w ri.b (.cells (putCells id ri.o (flatK RawI.enc 8 d') c) T (lo,hi)):=by
   unfold putRow mapBlock wset
   congr 1
   refine Array.ext_getElem? fun k=>?_
   rw [Array.getElem?_modify,Array.getElem?_setIfInBounds]
   by_cases hk : ri.b = k
   ·subst hk
    rw [if_pos rfl,if_pos rfl,if_pos hblk,hbk]
    rfl
   ·rw [if_neg hk,if_neg hk]
  have hU : Upd m { m with w:=wset m.w ri.b (.cells (putCells id ri.o (flatK RawI.enc 8 d') c) T (lo,hi)) } ri.b:=by
   refine Upd.set hm.h hP (fun o h=>?_)
   have hlt : o < ri.o:=by
    rcases Nat.lt_or_ge o ri.o with h' | h'
    ·exact h'
    ·exact (hF o h' h).elim
   simp only [World.cell?,wset_get hbk,hbk]
   simp only [putCells,Array.getElem?_mapIdx,show ¬ ri.o ≤ o by omega,false_and,if_false]
   simp
  have hall : ∀ e ∈ itemsAV (z'.map Prod.fst),e.length = 8:=by
   intro e he
   obtain ⟨i,_,rfl⟩:=List.mem_map.1 he
   rfl
  have hS1 : SimH { m with w:=wset m.w ri.b (.cells (putCells id ri.o (flatK RawI.enc 8 d') c) T (lo,hi)) } [(0,.row 8 (itemsAV (z'.map Prod.fst)) true)] 1:=by
   refine hm.h.upd hU (k:=0) (ri:=ri) (blk:=.row 8 (itemsAV (z'.map Prod.fst)) true) r0 ?_ (fun _=>rfl) rfl ?_ hm.h.fresh
   ·refine .inr ⟨hn,hP,⟨hsz,hsz'⟩,by simp [itemsAV,hzl]; omega,⟨_,T,lo,hi,wset_get hbk,by rw [hcz]; exact hfr,by rw [hcz,hsz']; exact hcs⟩,?_⟩
    rw [if_pos rfl,hsz']
    refine ⟨RepY.flat.2 ⟨hall,RepX.of_list (wset_get hbk) ?_⟩,hF⟩
    rw [show (itemsAV (z'.map Prod.fst)).flatten.length = l.length * 8 from by rw [flat_len hall]; simp [itemsAV,hzl],hrow1,← hze]
    exact RepL.mono (hU.keeps hm.h) 2 _ _ (repL_flat z' fun p hp=>(hzp' p hp).1)
   ·intro i hi x hx
    simp [Aw.get,Ne.symm hi] at hx
  rw [hse] at hS1
  have hbel : Below (wset m.w ri.b (.cells (putCells id ri.o (flatK RawI.enc 8 d') c) T (lo,hi))).heap.size (wset m.w ri.b (.cells (putCells id ri.o (flatK RawI.enc 8 d') c) T (lo,hi))) (sortWorldK RawI.enc 8 m.w ri.b ri.o n d' os):=by
   unfold sortWorldK putRowK
   rw [putRow_ahead,hw1]
   exact ⟨rfl,rfl,rfl,by simp [grow],fun k hk=>by simp [grow,Array.getElem?_append_left hk]⟩
  obtain ⟨h1,h2⟩:=rowed_ok (g:=0) (len:=0) hS1 hbel (fun h=>absurd h (by decide))
  exact ⟨_,.ret (.tup []),_,_,rfl,(hU.le hm.h).trans h1,h2,⟨_,rfl,by simp [Rep,RepL]⟩,rfl,rfl,rfl⟩
 ·exact hnone _ _ hvv (hll h0)
end Go.Proofs

namespace Go.Proofs
open Go Aw
set_option linter.unusedSimpArgs false
set_option linter.unusedVariables false
set_option maxRecDepth 100000
set_option maxHeartbeats 4000000
attribute [local go_sem] take_strsAV app1_strsAV take_intsAV app1_intsAV take_itemsAV app_itemsAV app1_itemsAV
attribute [local go_sem] mres VI
attribute [local go_sem ↓ high] rids_cmapOf
theorem look_chk {d : Dc} (hd : docE d = 0) (h : d.bulk ≤ 16777216) {n : Int} (hn : hasI d.items n = true) : chk ((lookI d.items n).getD Itm.zero).obj 1 = 0 ∧ ((lookI d.items n).getD Itm.zero).obj.bulk ≤ 16777216:=by
 obtain ⟨i,hi⟩:=Option.isSome_iff_exists.1 hn
 have hm : i ∈ d.items:=by
  have hl : ledB d.items (refO n i.gen) = true:=led_some.2 ⟨i,hi,rfl⟩
  have:=(led_mem hl).1
  rwa [show ledI d.items (refO n i.gen) = i from by unfold ledI; rw [show (refO n i.gen).num = n from rfl,hi]; rfl] at this
 have hb:=ibulk_in hm
 have hdb : d.bulk = ibulk d.items + d.trailer.bulk:=rfl
 rw [hi]
 exact ⟨(doc_obj hd hm).1,by show i.obj.bulk ≤ _; omega⟩
theorem h_shift_items (gl : List (Nat × AV)) (d : Dc) (l : List Int) (M : List (Int × Itm)) (h : d.bulk ≤ 16777216) (hd : docE d = 0) (hM : ∀ n,0 ≤ (foundI M n).num ∧ (foundI M n).num ≤ 16777216) (hin : ∀ n ∈ l,hasI d.items n = true) (hnd : (l.map fun n=>(foundI M n).num).Nodup) (hl : l.length ≤ 16777216) : FnH Tryz.prog (gl) 32 [.map 0,.agg d.cells,.sl (intsAV l)] ([(0,mapOf KI VI M)]) 1 (fun r h n=>r = .ret (.row 1 0 l.length) ∧ h = [(0,mapOf KI VI M),(1,.row 8 (itemsAV (sortN (l.map (turnMI d.items M)))) true)] ∧ n = 2):=by
 refine FnH.intro Tryz.func32 rfl rfl (by simp [Tryz.ntmps32]) ?_
 simp only [argEnv,Tryz.ntmps32,Tryz.results32]
 refine AW.rS ?_
 refine AW.trim [0,2,4] ?_
 refine AW.rS ?_
 refine AW.trim [0,2,4,7] ?_
 refine AW.seq ?_
 refine AW.rS ?_
 refine AW.trim [0,4,7,13,14,15] ?_
 refine AW.block ?_
 refine AW.pre (St.le.nilrow 7 8 (by (simp only [go_sem,seval]; iterate 2 try (simp (disch:=omega) only [zq]; try simp only [go_sem,seval])))) ?_
 refine wk ?_
 refine AW.lk (S:={ i : Nat // i ≤ l.length }) [0,4,13,14] (fun s_=>[(7,.row 2 0 ((l.take s_.1).map (turnMI d.items M)).length),(15,.int .i64 s_.1)]) (fun s_=>[(0,mapOf KI VI M),(1,.cells d.cells),(2,.row 8 (itemsAV ((l.take s_.1).map (turnMI d.items M))) true)]) 3 (fun s_=>l.length - s_.1) ⟨0,Nat.zero_le _⟩ ?_ ?_
 ·refine St.le.vw [0,1,2] (hpre:=(by decide : ∀ i,i < 1 → nth [0,1,2] i = some i))
 rintro ⟨i,hi⟩
 try dsimp only at hi
 refine AW.rS ?_
 refine AW.trim [0,4,7,13,14,15,16] ?_
 refine AW.seq ?_
 refine AW.c2 ?_ ?_
 ·intro h9
  have hi2 : i < l.length:=by omega
  have hlt : (l.take (i + 1)).map (turnMI d.items M) = (l.take i).map (turnMI d.items M) ++ [turnMI d.items M (l.getD i 0)]:=by rw [List.take_succ_eq_append_getElem hi2,List.map_append]; simp [List.getD,hi2]
  have hll : ((l.take i).map (turnMI d.items M)).length = i:=by simp; omega
  have hlc:=look_chk hd h (hin (l.getD i 0) (at_mem hi2))
  refine AW.skip ?_
  refine AW.seq ?_
  refine AW.block ?_
  refine AW.rS ?_
  refine AW.trim [0,4,7,9,13,14,15] ?_
  refine AW.rSC ?_
  refine awOps.cons (awGuard.c1 (c_docs_Get _ d (l.getD i 0) h) ?_)
  refine awOps.rn ?_
  refine AW.trim [0,4,7,9,10,13,14,15] ?_
  refine AW.rSC ?_
  refine awOps.cons ?_
  refine awGuard.lkM (keyOk_int .i64) Itm.zero zero_itm rfl ?_
  refine awOps.rn ?_
  refine AW.trim [0,4,7,10,12,13,14,15] ?_
  refine AW.rSC ?_
  refine awOps.cons (awGuard.c1 (c_shift_other _ d ((lookI d.items (l.getD i 0)).getD Itm.zero).obj M 1 h hM hlc.2 hlc.1) ?_)
  refine awOps.rn ?_
  refine AW.trim [0,4,7,12,13,14,15] ?_
  refine AW.rL ?_
  refine AW.rL ?_
  refine ⟨⟨i + 1,by omega⟩,?_,?_⟩
  ·refine St.le.vx [0,1,6] (hpre:=(by decide : ∀ i,i < 1 → nth [0,1,6] i = some i)) ?_
   rw [hlt,← app_itemsAV] <;> rfl
  ·simp only []; omega
 ·intro h9
  obtain rfl : i = l.length:=by omega
  rw [List.take_length]
  have hml : (l.map (turnMI d.items M)).length = l.length:=by simp
  refine AW.exit ?_
  refine AW.rSC ?_
  refine awOps.cons (awGuard.cH [2] (h_SortFunc_items _ (l.map (turnMI d.items M)) (by rw [List.map_map]; exact hnd) (fun i hi=>by obtain ⟨n,_,rfl⟩:=List.mem_map.1 hi; exact hM n) (by omega)) ?_)
  refine awOps.rn ?_
  refine AW.trim [7] ?_
  refine AW.rS ?_
  refine AW.trim [6] ?_
  refine AW.vw [0,2] [(6,.row 1 0 l.length)] [(0,mapOf KI VI M),(1,.row 8 (itemsAV (sortN (l.map (turnMI d.items M)))) true)] (hpre:=(by decide : ∀ i,i < 1 → nth [0,2] i = some i)) ?_
  refine AW.rt ?_
  trivial
end Go.Proofs

namespace Go.Proofs
open Go Aw
set_option linter.unusedSimpArgs false
set_option linter.unusedVariables false
set_option maxRecDepth 100000
set_option maxHeartbeats 4000000
attribute [local go_sem] take_strsAV app1_strsAV take_intsAV app1_intsAV take_itemsAV app_itemsAV app1_itemsAV
theorem last_range {d : Dc} (hd : docE d = 0) : 1 ≤ lastN d.items ∧ lastN d.items ≤ 8192:=by
 refine ⟨last_pos (docE_items hd),?_⟩
 unfold lastN
 split
 ·decide
 ·have hlm : d.items.getD (d.items.length - 1) Itm.zero ∈ d.items:=by
   rw [show d.items.getD (d.items.length - 1) Itm.zero = d.items[d.items.length - 1]'(by omega) from by simp [List.getD,show d.items.length - 1 < d.items.length by omega]]
   exact List.getElem_mem _
  have:=num_range hd (has_mem.2 ⟨_,hlm,rfl⟩)
  omega
theorem metO_len (l : List Itm) (o : Pob) : (metO l o).length ≤ l.length:=fitsM_len (fitsM_met (rs:=o.rr) (fitsM_nil l))
end Go.Proofs

namespace Go.Proofs
open Go Aw
set_option linter.unusedSimpArgs false
set_option linter.unusedVariables false
set_option maxRecDepth 100000
set_option maxHeartbeats 4000000
attribute [local go_sem] take_strsAV app1_strsAV take_intsAV app1_intsAV take_itemsAV app_itemsAV app1_itemsAV
attribute [local go_sem] mres VI
attribute [local go_sem ↓ high] rids_cmapOf noTBm_net renHp_cons noTHm_cons
theorem c_slices_Index_int_int (gl : List (Nat × AV)) (l : List Int) (n : Int) (hk : l.length ≤ 16777216:=by first | omega | exact u8_le _ | assumption | (simp; done) | (simp; omega)) : FnP Tryz.prog (gl) 60 [.sl (intsAV l),.int .i64 n] fun r=>r = .ret (.int .i64 (nidxI l n)):=by
 refine FnP.intro Tryz.func60 rfl rfl (by simp [Tryz.ntmps60]) ?_
 simp only [argEnv,Tryz.ntmps60,Tryz.results60]
 refine AW.rS ?_
 refine AW.seq ?_
 refine AW.rS ?_
 refine AW.block ?_
 refine AW.lk (S:={ i : Nat // i ≤ l.length ∧ ∀ j,j < i → l.getD j 0 ≠ n }) [0,1,7] (fun s_=>[(8,.int .i64 s_.1)]) (fun s_=>[]) 0 (fun s_=>l.length - s_.1) ⟨0,Nat.zero_le _,fun j h=>absurd h (by omega)⟩ ?_ ?_
 ·refine St.le.vw []
 rintro ⟨i,hi,hs⟩
 try dsimp only at hi
 try dsimp only at hs
 refine AW.rS ?_
 refine AW.seq ?_
 refine AW.c2 ?_ ?_
 ·intro h8
  refine AW.skip ?_
  refine AW.seq ?_
  refine AW.block ?_
  refine AW.rS ?_
  refine AW.rS ?_
  refine AW.c2 ?_ ?_
  ·intro h14
   refine AW.rS ?_
   refine AW.rt ?_
   rw [nidx_hit h8 hs (by first | exact h14 | exact h14.symm)]
  ·intro h14
   refine AW.skip ?_
   refine AW.rL ?_
   refine ⟨⟨i + 1,by omega,fun j hj=>by rcases Nat.lt_succ_iff_lt_or_eq.1 hj with h | rfl; exact hs j h; exact fun e=>h14 e.symm⟩,?_,?_⟩
   ·refine St.le.vw []
   ·simp only []; omega
 ·intro h8
  refine AW.exit ?_
  refine AW.rS ?_
  refine AW.rt ?_
  rw [nidx_miss (fun j hj=>hs j (by omega))]
theorem c_Contains_int (gl : List (Nat × AV)) (l : List Int) (n : Int) (h : l.length ≤ 16777216:=by first | omega | exact u8_le _ | assumption | (simp; done) | (simp; omega)) : FnP Tryz.prog (gl) 31 [.sl (intsAV l),.int .i64 n] fun r=>r = .ret (.bool (decide (n ∈ l))):=by
 refine FnP.intro Tryz.func31 rfl rfl (by simp [Tryz.ntmps31]) ?_
 simp only [argEnv,Tryz.ntmps31,Tryz.results31]
 refine AW.rS ?_
 refine AW.rSC ?_
 refine awOps.cons (awGuard.c1 (c_slices_Index_int_int _ l n) ?_)
 refine awOps.rn ?_
 refine AW.rt ?_
 rcases nidxI_cases l n with ⟨i,hi,e,hn⟩ | ⟨e,hn⟩
 ·rw [e,decide_eq_true (show (0 : Int) ≤ (i : Int) by omega),decide_eq_true (hn ▸ at_mem hi)]
 ·rw [e,decide_eq_false hn]
  rfl
theorem map_raw (gl : List (Nat × AV)) (d : Dc) (fr to : List Int) (h : d.bulk ≤ 16777216) (hf : fr.length ≤ 16777216) (ht : to.length ≤ 16777216) : FnH Tryz.prog (gl) 10 [.agg d.cells,.sl (intsAV fr),.sl (intsAV to)] ([]) 0 (fun r h n=>r = .ret (.tup [.agg [.row 0 0 (mapD d fr to).items.length,.int .i64 (mapD d fr to).trailer.kind,.int .i64 (mapD d fr to).trailer.num,.int .i64 (mapD d fr to).trailer.gen,.str (mapD d fr to).trailer.str,.sl (strsAV (mapD d fr to).trailer.keys),.sl (objsAV (mapD d fr to).trailer.kids)],.int .i64 (mapE d fr to)]) ∧ h = [(0,.row 8 (itemsAV (mapD d fr to).items) true),(1,.cells [.row 0 0 (mapD d fr to).items.length,.int .i64 (mapD d fr to).trailer.kind,.int .i64 (mapD d fr to).trailer.num,.int .i64 (mapD d fr to).trailer.gen,.str (mapD d fr to).trailer.str,.sl (strsAV (mapD d fr to).trailer.keys),.sl (objsAV (mapD d fr to).trailer.kids)])] ∧ n = 2):=by
 refine FnH.intro Tryz.func10 rfl rfl (by simp [Tryz.ntmps10]) ?_
 simp only [argEnv,Tryz.ntmps10,Tryz.results10]
 have hdb : d.bulk = ibulk d.items + d.trailer.bulk:=rfl
 have hil:=ibulk_len d.items
 refine AW.rS ?_
 refine AW.trim [1,2,3,6] ?_
 refine AW.seq ?_
 refine AW.rSC ?_
 refine awOps.cons (awGuard.c1 (c_docs_Check _ d h) ?_)
 refine awOps.rn ?_
 refine AW.trim [1,2,3,6,8] ?_
 refine AW.rS ?_
 refine AW.trim [1,2,3,6,8,23] ?_
 refine AW.c2 ?_ ?_
 ·intro h7
  have he : mapE d fr to = docE d:=by unfold mapE; rw [if_pos h7]
  refine AW.rS ?_
  refine AW.trim [6,7] ?_
  refine AW.pre (St.le.nilcell 1 0 8 (by (simp only [go_sem,seval]; iterate 2 try (simp (disch:=omega) only [zq]; try simp only [go_sem,seval])); exact rfl) (by exact rfl)) ?_
  refine wk ?_
  refine AW.nilc 1 5 ?_
  refine AW.nilc 1 6 ?_
  rw [mapD_bad (by rw [he] <;> first | exact h7 | decide),he]
  refine AW.vw [2,1] [(6,.ptr 1 0),(7,.int .i64 (docE d))] [(0,.row 8 [] true),(1,.cells [.row 0 0 0,.int .i64 0,.int .i64 0,.int .i64 0,.str [],.sl [],.sl []])] ?_
  refine AW.rt ?_
  first | trivial | exact ⟨rfl,rfl,rfl⟩
 ·intro h7
  have hd : docE d = 0:=by simpa using h7
  refine AW.skip ?_
  refine AW.seq ?_
  refine AW.rSC ?_
  refine awOps.cons (awGuard.cG (fun hg=>c_shift_bad _ fr hf) ?_)
  refine awOps.rn ?_
  refine awOps.cons (awGuard.cG (fun hg=>c_shift_bad _ to ht) ?_)
  refine awOps.rn ?_
  refine AW.trim [1,2,3,6,38] ?_
  refine AW.c2 ?_ ?_
  ·intro h18
   have he : mapE d fr to = 1:=by
    unfold mapE
    rw [if_neg (by rw [hd]; decide),if_pos (by rcases h18 with (h | h) | h <;> first | exact .inr (.inl h) | exact .inr (.inr h) | (left; omega))]
   refine AW.rS ?_
   refine AW.trim [6,7] ?_
   refine AW.pre (St.le.nilcell 1 0 8 (by (simp only [go_sem,seval]; iterate 2 try (simp (disch:=omega) only [zq]; try simp only [go_sem,seval])); exact rfl) (by exact rfl)) ?_
   refine wk ?_
   refine AW.nilc 1 5 ?_
   refine AW.nilc 1 6 ?_
   rw [mapD_bad (by rw [he] <;> first | exact h7 | decide),he]
   refine AW.vw [2,1] [(6,.ptr 1 0),(7,.int .i64 1)] [(0,.row 8 [] true),(1,.cells [.row 0 0 0,.int .i64 0,.int .i64 0,.int .i64 0,.str [],.sl [],.sl []])] ?_
   refine AW.rt ?_
   first | trivial | exact ⟨rfl,rfl,rfl⟩
  ·intro h18
   have hl : fr.length = to.length:=by omega
   refine AW.skip ?_
   refine AW.rSC ?_
   refine awOps.cons ?_
   refine awGuard.mkM0 VI (keyOk_int .i64) ?_
   refine awOps.rn ?_
   refine AW.trim [1,2,3,6,9] ?_
   refine AW.seq ?_
   refine AW.rS ?_
   refine AW.trim [1,2,3,6,9,42,43,44] ?_
   refine AW.block ?_
   refine AW.lk (S:={ k : Nat // k ≤ d.items.length }) [1,2,3,6,9,42,43] (fun s_=>[(44,.int .i64 s_.1)]) (fun s_=>[(0,.cells d.cells),(1,.cells [.raw (.slice none 0 0),.int .i64 0,.int .i64 0,.int .i64 0,.str [],.raw (.slice none 0 0),.raw (.slice none 0 0)]),(2,mapOf KI VI (mapA (d.items.take s_.1)))]) 3 (fun s_=>d.items.length - s_.1) ⟨0,Nat.zero_le _⟩ ?_ ?_
   ·refine St.le.vw [0,1,2]
   rintro ⟨k,hk⟩
   try dsimp only at hk
   refine AW.rS ?_
   refine AW.trim [1,2,3,6,9,42,43,44,45] ?_
   refine AW.seq ?_
   refine AW.c2 ?_ ?_
   ·intro h32
    have hk2 : k < d.items.length:=by omega
    have hat:=mapA_take hk2
    refine AW.skip ?_
    refine AW.seq ?_
    refine AW.block ?_
    refine AW.rS ?_
    refine AW.trim [1,2,3,6,9,11,42,43,44] ?_
    refine AW.rLC ?_
    refine awOps.cons ?_
    refine awGuard.upM (V:=VI) (keyOk_int .i64) (⟨(d.items.getD k Itm.zero).num,(d.items.getD k Itm.zero).gen,Pob.null⟩ : Itm) ?_
    refine awOps.rn ?_
    refine AW.rL ?_
    refine ⟨⟨k + 1,by omega⟩,?_,?_⟩
    ·refine St.le.vx [0,1,2] ?_
     rw [hat]
    ·simp only []; omega
   ·intro h32
    obtain rfl : k = d.items.length:=by omega
    rw [List.take_length]
    refine AW.exit ?_
    refine AW.seq ?_
    refine AW.rS ?_
    refine AW.trim [1,2,3,6,9,57,58,59] ?_
    refine AW.block ?_
    refine AW.lk (S:={ k : Nat // k ≤ fr.length ∧ ∀ j,j < k → hasI d.items (fr.getD j 0) = true }) [1,2,3,6,9,57,58] (fun s_=>[(59,.int .i64 s_.1)]) (fun s_=>[(0,.cells d.cells),(1,.cells [.raw (.slice none 0 0),.int .i64 0,.int .i64 0,.int .i64 0,.str [],.raw (.slice none 0 0),.raw (.slice none 0 0)]),(2,mapOf KI VI (mapB (mapA d.items) fr to s_.1))]) 3 (fun s_=>fr.length - s_.1) ⟨0,Nat.zero_le _,fun j h=>absurd h (Nat.not_lt_zero j)⟩ ?_ ?_
    ·refine St.le.vw [0,1,2]
    rintro ⟨k,hk,hs⟩
    try dsimp only at hk
    try dsimp only at hs
    refine AW.rS ?_
    refine AW.trim [1,2,3,6,9,57,58,59,60] ?_
    refine AW.seq ?_
    refine AW.c2 ?_ ?_
    ·intro h49
     have hk2 : k < fr.length:=by omega
     have hms:=mapB_some (M:=mapA d.items) (to:=to) (n:=fr.getD k 0) k hk (fun j hj=>by rw [mapA_has (doc_nums hd)]; exact hs j hj)
     rw [mapA_has (doc_nums hd)] at hms
     refine AW.skip ?_
     refine AW.seq ?_
     refine AW.block ?_
     refine AW.rS ?_
     refine AW.trim [1,2,3,6,9,12,13,57,58,59] ?_
     refine AW.seq ?_
     refine AW.rSC ?_
     refine awOps.cons ?_
     refine awGuard.lkM (keyOk_int .i64) Itm.zero zero_itm rfl ?_
     refine awOps.rn ?_
     refine AW.trim [1,2,3,6,9,12,13,15,57,58,59] ?_
     refine AW.rS ?_
     refine AW.trim [1,2,3,6,9,12,13,57,58,59,71] ?_
     refine AW.c2 ?_ ?_
     ·intro h59
      have he : mapE d fr to = 8:=by
       unfold mapE
       rw [if_neg (by rw [hd]; decide),if_neg (by rintro (h | h | h) <;> first | exact h18.1.2 h | exact h18.2 h | exact h hl),if_pos (fun h=>by have:=h _ (at_mem hk2); rw [← hms,h59] at this; cases this)]
      refine AW.rS ?_
      refine AW.trim [6,7] ?_
      refine AW.pre (St.le.nilcell 1 0 8 (by (simp only [go_sem,seval]; iterate 2 try (simp (disch:=omega) only [zq]; try simp only [go_sem,seval])); exact rfl) (by exact rfl)) ?_
      refine wk ?_
      refine AW.nilc 1 5 ?_
      refine AW.nilc 1 6 ?_
      rw [mapD_bad (by rw [he] <;> first | exact h7 | decide),he]
      refine AW.vw [4,1] [(6,.ptr 1 0),(7,.int .i64 8)] [(0,.row 8 [] true),(1,.cells [.row 0 0 0,.int .i64 0,.int .i64 0,.int .i64 0,.str [],.sl [],.sl []])] ?_
      refine AW.rt ?_
      first | trivial | exact ⟨rfl,rfl,rfl⟩
     ·intro h59
      have hh : hasI d.items (fr.getD k 0) = true:=by rw [← hms]; exact h59
      refine AW.skip ?_
      refine AW.rLC ?_
      refine awOps.cons ?_
      refine awGuard.upM (V:=VI) (keyOk_int .i64) (⟨to.getD k 0,0,Pob.null⟩ : Itm) ?_
      refine awOps.rn ?_
      refine AW.rL ?_
      refine ⟨⟨k + 1,by omega,fun j hj=>(Nat.lt_or_ge j k).elim (hs j) (fun hge=>by rw [show j = k by omega]; exact hh)⟩,?_,?_⟩
      ·refine St.le.vx [0,1,2] ?_
       rw [mapB_succ]
      ·simp only []; omega
    ·intro h49
     obtain rfl : k = fr.length:=by omega
     refine AW.exit ?_
     refine AW.seq ?_
     refine AW.rS ?_
     refine AW.trim [1,3,6,9,81,82,83] ?_
     refine AW.block ?_
     refine AW.lk (S:={ k : Nat // k ≤ to.length ∧ ∀ j,j < k → hasI d.items (to.getD j 0) = true → to.getD j 0 ∈ fr }) [1,3,6,9,81,82] (fun s_=>[(83,.int .i64 s_.1)]) (fun s_=>[(0,.cells d.cells),(1,.cells [.raw (.slice none 0 0),.int .i64 0,.int .i64 0,.int .i64 0,.str [],.raw (.slice none 0 0),.raw (.slice none 0 0)]),(2,mapOf KI VI (mapB (mapA d.items) fr to fr.length))]) 3 (fun s_=>to.length - s_.1) ⟨0,Nat.zero_le _,fun j h=>absurd h (Nat.not_lt_zero j)⟩ ?_ ?_
     ·refine St.le.vw [0,1,2]
     rintro ⟨k,hk,hs2⟩
     try dsimp only at hk
     try dsimp only at hs2
     refine AW.rS ?_
     refine AW.trim [1,3,6,9,81,82,83,84] ?_
     refine AW.seq ?_
     refine AW.c2 ?_ ?_
     ·intro h76
      have hk2 : k < to.length:=by omega
      refine AW.skip ?_
      refine AW.seq ?_
      refine AW.block ?_
      refine AW.rS ?_
      refine AW.trim [1,3,6,9,17,81,82,83] ?_
      refine AW.rSC ?_
      refine awOps.cons (awGuard.c1 (c_docs_Get _ d (to.getD k 0) h) ?_)
      refine awOps.rn ?_
      refine AW.trim [1,3,6,9,17,19,81,82,83] ?_
      refine AW.rSC ?_
      refine awOps.cons (awGuard.cG (fun hg=>c_Contains_int _ fr (to.getD k 0) hf) ?_)
      refine awOps.rn ?_
      refine AW.trim [1,3,6,9,81,82,83,99] ?_
      refine AW.c2 ?_ ?_
      ·intro h87
       have he : mapE d fr to = 9:=by
        unfold mapE
        rw [if_neg (by rw [hd]; decide),if_neg (by rintro (h | h | h) <;> first | exact h18.1.2 h | exact h18.2 h | exact h hl),if_neg (fun h=>h fun n hn=>by obtain ⟨j,hj,rfl⟩:=mem_at hn; exact hs j hj),if_pos (fun h=>h87.2 (h _ (at_mem hk2) h87.1))]
       refine AW.rS ?_
       refine AW.trim [6,7] ?_
       refine AW.pre (St.le.nilcell 1 0 8 (by (simp only [go_sem,seval]; iterate 2 try (simp (disch:=omega) only [zq]; try simp only [go_sem,seval])); exact rfl) (by exact rfl)) ?_
       refine wk ?_
       refine AW.nilc 1 5 ?_
       refine AW.nilc 1 6 ?_
       rw [mapD_bad (by rw [he] <;> first | exact h7 | decide),he]
       refine AW.vw [4,1] [(6,.ptr 1 0),(7,.int .i64 9)] [(0,.row 8 [] true),(1,.cells [.row 0 0 0,.int .i64 0,.int .i64 0,.int .i64 0,.str [],.sl [],.sl []])] ?_
       refine AW.rt ?_
       first | trivial | exact ⟨rfl,rfl,rfl⟩
      ·intro h87
       refine AW.skip ?_
       refine AW.rL ?_
       refine ⟨⟨k + 1,by omega,fun j hj=>(Nat.lt_or_ge j k).elim (hs2 j) (fun hge hh=>by rw [show j = k by omega] at hh ⊢; exact h87.elim (fun h=>by have hx : (lookI d.items (to.getD k 0)).isSome = true:=hh; rw [h] at hx; cases hx) (fun h=>h))⟩,?_,?_⟩
       ·refine St.le.vw [0,1,2]
       ·simp only []; omega
     ·intro h76
      obtain rfl : k = to.length:=by omega
      have F : ShMap d fr to:=mapE_facts (by
       unfold mapE
       rw [if_neg (by rw [hd]; decide),if_neg (by rintro (h | h | h) <;> first | exact h18.1.2 h | exact h18.2 h | exact h hl),if_neg (fun h=>h fun n hn=>by obtain ⟨j,hj,rfl⟩:=mem_at hn; exact hs j hj),if_neg (fun h=>h fun n hn=>by obtain ⟨j,hj,rfl⟩:=mem_at hn; exact hs2 j hj)])
      have hend:=map_end F
      have hnl : (numsI d).length = d.items.length:=nums_len d
      have hrg : ∀ n,0 ≤ (foundI (mapB (mapA d.items) fr to fr.length) n).num ∧ (foundI (mapB (mapA d.items) fr to fr.length) n).num ≤ 16777216:=fun n=>found_range hd F.to2 hl n fr.length (Nat.le_refl _)
      have hmn:=map_nodup F
      have hin : ∀ n ∈ numsI d,hasI d.items n = true:=fun n hn=>nums_has.1 hn
      have hsl : (sortN ((numsI d).map (turnMI d.items (mapB (mapA d.items) fr to fr.length)))).length = (numsI d).length:=by rw [sortN_len,List.length_map]
      generalize hMM : (mapB (mapA d.items) fr to fr.length) = M at *
      refine AW.trim [3,6,9] ?_
      refine AW.cf 3 0 ?_
      refine AW.exit ?_
      refine AW.dSC [(0,0),(1,0),(2,0),(5,0),(6,0),(7,0),(8,0),(3,2),(4,2),(9,2),(10,2),(11,2),(12,0)] ?_
      refine awPlan.only rfl ?_
      refine awGuard.c1 (c_shift_all _ d h) ?_
      refine awPlan.rn ?_
      refine awPlan.only rfl ?_
      refine awGuard.cHm [2] (h_shift_items _ d (numsI d) M h hd hrg hin hmn (by omega)) ?_
      refine awPlan.rn ?_
      refine awPlan.only rfl ?_
      refine awGuard.c1 (c_shift_other _ d d.trailer M 1 h hrg (by have:=ibulk_len d.items; omega) (doc_top hd)) ?_
      refine awPlan.rn ?_
      refine AW.trim [6,7] ?_
      refine AW.vw [3,1] [(6,.ptr 1 0),(7,.int .i64 0)] [(0,.row 8 (itemsAV (sortN ((numsI d).map (turnMI d.items M)))) true),(1,.cells [.row 0 0 (numsI d).length,.int .i64 (d.trailer.turn (turnM d.items M)).kind,.int .i64 (d.trailer.turn (turnM d.items M)).num,.int .i64 (d.trailer.turn (turnM d.items M)).gen,.str (d.trailer.turn (turnM d.items M)).str,.sl (strsAV (d.trailer.turn (turnM d.items M)).keys),.sl (objsAV (d.trailer.turn (turnM d.items M)).kids)])] ?_
      refine AW.rt ?_
      rw [hend.1,hend.2.1,hend.2.2,hsl]
      first | rfl | exact ⟨rfl,rfl⟩ | exact ⟨rfl,rfl,rfl⟩
end Go.Proofs

namespace Go.Proofs
open Go Aw
set_option linter.unusedSimpArgs false
set_option linter.unusedVariables false
set_option maxRecDepth 100000
set_option maxHeartbeats 4000000
attribute [local go_sem] take_strsAV app1_strsAV take_intsAV app1_intsAV take_itemsAV app_itemsAV app1_itemsAV
attribute [local go_sem ↓ high] renHp_cons noTHm_cons
theorem h_shift_Map (gl : List (Nat × AV)) (d : Dc) (fr to : List Int) (h : d.bulk ≤ 16777216) (hf : fr.length ≤ 16777216) (ht : to.length ≤ 16777216) :
  FnH Tryz.prog gl 10 [.agg d.cells,.sl (intsAV fr),.sl (intsAV to)] [] 0 fun r h n=>r = .ret (.tup [.agg [.row 0 0 (mapD d fr to).items.length,.int .i64 (mapD d fr to).trailer.kind,.int .i64 (mapD d fr to).trailer.num,.int .i64 (mapD d fr to).trailer.gen,.str (mapD d fr to).trailer.str,.sl (strsAV (mapD d fr to).trailer.keys),.sl (objsAV (mapD d fr to).trailer.kids)],.int .i64 (mapE d fr to)]) ∧ h = [(0,.row 8 (itemsAV (mapD d fr to).items) true)] ∧ n = 1 :=
 FnH.cut (map_raw gl d fr to h hf ht) [0] (by decide) (by simp only [go_sem,seval]) (by simp only [go_sem,seval]; try rfl)
theorem c_shift_Map (gl : List (Nat × AV)) (d : Dc) (fr to : List Int) (h : d.bulk ≤ 16777216) (hf : fr.length ≤ 16777216) (ht : to.length ≤ 16777216) :
  FnP Tryz.prog gl 10 [.agg d.cells,.sl (intsAV fr),.sl (intsAV to)] fun r=>r = .ret (.tup [.agg (mapD d fr to).cells,.int .i64 (mapE d fr to)]) :=
 FnP.ofH (h_shift_Map gl d fr to h hf ht) (by simp only [go_sem,seval]; exact rfl) (by simp only [go_sem,seval])
theorem compact_raw (gl : List (Nat × AV)) (d : Dc) (h : d.bulk ≤ 16777216) : FnH Tryz.prog (gl) 13 [.agg d.cells] ([]) 0 (fun r h n=>r = .ret (.agg [.row 0 0 (compD d).items.length,.int .i64 (compD d).trailer.kind,.int .i64 (compD d).trailer.num,.int .i64 (compD d).trailer.gen,.str (compD d).trailer.str,.sl (strsAV (compD d).trailer.keys),.sl (objsAV (compD d).trailer.kids)]) ∧ h = [(0,.row 8 (itemsAV (compD d).items) true),(1,.cells [.row 0 0 (compD d).items.length,.int .i64 (compD d).trailer.kind,.int .i64 (compD d).trailer.num,.int .i64 (compD d).trailer.gen,.str (compD d).trailer.str,.sl (strsAV (compD d).trailer.keys),.sl (objsAV (compD d).trailer.kids)])] ∧ n = 2):=by
 refine FnH.intro Tryz.func13 rfl rfl (by simp [Tryz.ntmps13]) ?_
 simp only [argEnv,Tryz.ntmps13,Tryz.results13]
 have hdb : d.bulk = ibulk d.items + d.trailer.bulk:=rfl
 have hil:=ibulk_len d.items
 refine AW.rS ?_
 refine AW.trim [1,2] ?_
 refine AW.seq ?_
 refine AW.rSC ?_
 refine awOps.cons (awGuard.c1 (c_docs_Check _ d h) ?_)
 refine awOps.rn ?_
 refine AW.trim [1,2,12] ?_
 refine AW.c2 ?_ ?_
 ·intro h6
  have hcb : compD d = Dc.zero:=compD_bad h6
  refine AW.rS ?_
  refine AW.trim [2] ?_
  refine AW.pre (St.le.nilcell 1 0 8 (by (simp only [go_sem,seval]; iterate 2 try (simp (disch:=omega) only [zq]; try simp only [go_sem,seval])); exact rfl) (by exact rfl)) ?_
  refine wk ?_
  refine AW.nilc 1 5 ?_
  refine AW.nilc 1 6 ?_
  rw [hcb]
  refine AW.vw [2,1] [(2,.ptr 1 0)] [(0,.row 8 [] true),(1,.cells [.row 0 0 0,.int .i64 0,.int .i64 0,.int .i64 0,.str [],.sl [],.sl []])] ?_
  refine AW.rt ?_
  first | trivial | exact ⟨rfl,rfl,rfl⟩
 ·intro h6
  have hd : docE d = 0:=by simpa using h6
  refine AW.skip ?_
  refine AW.rSC ?_
  refine awOps.cons (awGuard.cH [] (h_shift_from _ d d.trailer 1 h hd (doc_top hd) (by omega)) ?_)
  refine awOps.rn ?_
  refine AW.trim [1,2,3] ?_
  refine AW.seq ?_
  refine AW.rSC ?_
  refine awOps.cons (awGuard.c1 (c_shift_all _ d h) ?_)
  refine awOps.rn ?_
  refine AW.trim [1,2,3,19,20,21] ?_
  refine AW.block ?_
  refine AW.fz [2] ?_
  rw [← compL_zero d]
  refine AW.lk (S:={ k : Nat // k ≤ d.items.length }) [1,2,19,20] (fun s_=>[(3,.row 2 0 (compL d s_.1).length),(21,.int .i64 s_.1)]) (fun s_=>[(0,.cells d.cells),(1,.cells [.raw (.slice none 0 0),.int .i64 0,.int .i64 0,.int .i64 0,.str [],.raw (.slice none 0 0),.raw (.slice none 0 0)]),(2,.row 1 (intsAV (compL d s_.1)) false)]) 3 (fun s_=>d.items.length - s_.1) ⟨0,Nat.zero_le _⟩ ?_ ?_
  ·refine St.le.vw [0,1,2]
  rintro ⟨k,hk⟩
  try dsimp only at hk
  have hnl : (numsI d).length = d.items.length:=nums_len d
  refine AW.rS ?_
  refine AW.trim [1,2,3,19,20,21,22] ?_
  refine AW.seq ?_
  refine AW.c2 ?_ ?_
  ·intro h22
   have hk2 : k < d.items.length:=by omega
   have hsu:=compL_succ hd hk2
   have hcl:=compL_len hd k
   have hng : (numsI d).getD k 0 = (d.items.getD k Itm.zero).num:=by rw [show numsI d = d.items.map (·.num) from rfl]; simp [List.getD,hk2]
   refine AW.skip ?_
   refine AW.seq ?_
   refine AW.block ?_
   refine AW.rS ?_
   refine AW.trim [1,2,3,5,19,20,21] ?_
   refine AW.rSC ?_
   refine awOps.cons (awGuard.c1 (c_Contains_int _ (compL d k) ((numsI d).getD k 0) (by omega)) ?_)
   refine awOps.rn ?_
   refine AW.trim [1,2,3,5,19,20,21,28] ?_
   refine AW.c2 ?_ ?_
   ·intro h30
    rw [if_neg (by rw [← hng]; simpa using h30)] at hsu
    have hcl2 : (compL d (k + 1)).length = (compL d k).length + 1:=by rw [hsu]; simp
    refine AW.rL ?_
    refine AW.fz [4] ?_
    refine AW.rL ?_
    refine ⟨⟨k + 1,by omega⟩,?_,?_⟩
    ·refine St.le.vx [0,1,4] ?_
     rw [hsu,hng]
    ·simp only []; omega
   ·intro h30
    rw [if_pos (by rw [← hng]; simpa using h30)] at hsu
    have hcl2 : (compL d (k + 1)).length = (compL d k).length:=by rw [hsu]
    refine AW.skip ?_
    refine AW.rL ?_
    refine ⟨⟨k + 1,by omega⟩,?_,?_⟩
    ·refine St.le.vx [0,1,2] ?_
     rw [hsu]
    ·simp only []; omega
  ·intro h22
   obtain rfl : k = d.items.length:=by omega
   rw [compL_all (Nat.le_refl _)]
   have hcl:=compF_len hd
   refine AW.exit ?_
   refine AW.rS ?_
   refine AW.trim [1,2,3,6] ?_
   refine AW.seq ?_
   refine AW.rS ?_
   refine AW.trim [1,2,3,6,35,36] ?_
   refine AW.block ?_
   refine AW.pre (St.le.nilrow 6 1 (by (simp only [go_sem,seval]; iterate 2 try (simp (disch:=omega) only [zq]; try simp only [go_sem,seval])))) ?_
   refine wk ?_
   refine AW.lk (S:={ k : Nat // k ≤ (compF d).length }) [1,2,3,35] (fun s_=>[(6,.row 3 0 (upTo 1 s_.1).length),(36,.int .i64 s_.1)]) (fun s_=>[(0,.cells d.cells),(1,.cells [.raw (.slice none 0 0),.int .i64 0,.int .i64 0,.int .i64 0,.str [],.raw (.slice none 0 0),.raw (.slice none 0 0)]),(2,.row 1 (intsAV (compF d)) false),(3,.row 1 (intsAV (upTo 1 s_.1)) true)]) 4 (fun s_=>(compF d).length - s_.1) ⟨0,Nat.zero_le _⟩ ?_ ?_
   ·refine St.le.vw [0,1,2,3]
   rintro ⟨k,hk2⟩
   try dsimp only at hk2
   have hul:=upTo_len 1 k
   have hul2:=upTo_len 1 (k + 1)
   refine AW.rS ?_
   refine AW.trim [1,2,3,6,35,36,37] ?_
   refine AW.seq ?_
   refine AW.c2 ?_ ?_
   ·intro h45
    refine AW.skip ?_
    refine AW.seq ?_
    refine AW.block ?_
    refine AW.rS ?_
    refine AW.trim [1,2,3,6,7,35,36] ?_
    refine AW.rL ?_
    refine AW.rL ?_
    refine ⟨⟨k + 1,by omega⟩,?_,?_⟩
    ·refine St.le.vx [0,1,2,5] ?_
     rw [upTo_succ,Int.add_comm 1]
    ·simp only []; omega
   ·intro h45
    obtain rfl : k = (compF d).length:=by omega
    have hcd : compD d = mapD d (compF d) (upTo 1 (compF d).length):=if_neg (fun hh=>hh hd)
    rw [hcd]
    refine AW.exit ?_
    refine AW.fz [3] ?_
    refine AW.rSC ?_
    refine awOps.cons (awGuard.cH [] (h_shift_Map _ d (compF d) (upTo 1 (compF d).length) h (by omega) (by omega)) ?_)
    refine awOps.rn ?_
    refine AW.trim [2,8] ?_
    refine AW.rS ?_
    refine AW.trim [2] ?_
    refine AW.vw [4,1] [(2,.ptr 1 0)] [(0,.row 8 (itemsAV (mapD d (compF d) (upTo 1 (compF d).length)).items) true),(1,.cells [.row 0 0 (mapD d (compF d) (upTo 1 (compF d).length)).items.length,.int .i64 (mapD d (compF d) (upTo 1 (compF d).length)).trailer.kind,.int .i64 (mapD d (compF d) (upTo 1 (compF d).length)).trailer.num,.int .i64 (mapD d (compF d) (upTo 1 (compF d).length)).trailer.gen,.str (mapD d (compF d) (upTo 1 (compF d).length)).trailer.str,.sl (strsAV (mapD d (compF d) (upTo 1 (compF d).length)).trailer.keys),.sl (objsAV (mapD d (compF d) (upTo 1 (compF d).length)).trailer.kids)])] ?_
    refine AW.rt ?_
    trivial
theorem h_shift_Compact (gl : List (Nat × AV)) (d : Dc) (h : d.bulk ≤ 16777216) :
  FnH Tryz.prog gl 13 [.agg d.cells] [] 0 fun r h n=>r = .ret (.agg [.row 0 0 (compD d).items.length,.int .i64 (compD d).trailer.kind,.int .i64 (compD d).trailer.num,.int .i64 (compD d).trailer.gen,.str (compD d).trailer.str,.sl (strsAV (compD d).trailer.keys),.sl (objsAV (compD d).trailer.kids)]) ∧ h = [(0,.row 8 (itemsAV (compD d).items) true)] ∧ n = 1 :=
 FnH.cut (compact_raw gl d h) [0] (by decide) (by simp only [go_sem,seval]) (by simp only [go_sem,seval]; try rfl)
theorem c_shift_Compact (gl : List (Nat × AV)) (d : Dc) (h : d.bulk ≤ 16777216) : FnP Tryz.prog gl 13 [.agg d.cells] fun r=>r = .ret (.agg (compD d).cells) :=
 FnP.ofH (h_shift_Compact gl d h) (by simp only [go_sem,seval]; exact rfl) (by simp only [go_sem,seval])
end Go.Proofs

namespace Go.Proofs
open Go Aw
theorem noTL_dcells (z : Dc) : noTL z.cells = true:=by cases z; rfl
end Go.Proofs

namespace Go.Proofs
open Go Aw
set_option linter.unusedSimpArgs false
set_option linter.unusedVariables false
set_option maxRecDepth 100000
set_option maxHeartbeats 4000000
attribute [local go_sem ↓ high] noTBm_net
end Go.Proofs

namespace Go.Proofs
open Go Aw
set_option linter.unusedSimpArgs false
set_option linter.unusedVariables false
set_option maxRecDepth 100000
set_option maxHeartbeats 4000000
attribute [local go_sem ↓ high] noTBm_net
end Go.Proofs

namespace Go.Proofs
open Go Aw
set_option linter.unusedSimpArgs false
set_option linter.unusedVariables false
set_option maxRecDepth 100000
set_option maxHeartbeats 4000000
attribute [local go_sem ↓ high] noTBm_net
theorem wr_step (gl : List (Nat × AV)) (l : List Itm) (o0 : Pob) (stp : (List Int × List Pob) → Pob → (List Int × List Pob) × Bool) (c0 : Code) (I : (List Int × List Pob) → Prop) (hI : ∀ s o,I s → I (stp s o).1) (lq : Nat) (rc : Option Code → Loop) {Ω : Mem → Prop} [LastsU Ω]
  (hY : ∀ s o,I s → RoundU Ω Tryz.prog gl lq [.agg (Pob.cells o)] ([(0,.cells [.map 1]),(1,mapOf KI VI (netL l)),(2,.cells [.map 3]),(3,setOf (fun n=>AV.int .i64 n) (s).1),(4,.cells [.row 7 0 (s).2.length]),(5,.cells (Pob.cells o0)),(7,.row 6 (objsAV (s).2) true),(6,.lp lq (rc none))]) 8 7 fun r h n=>r = .ret (.bool (!(stp s o).2)) ∧ h = [(0,.cells [.map 1]),(1,mapOf KI VI (netL l)),(2,.cells [.map 3]),(3,setOf (fun n=>AV.int .i64 n) ((stp s o).1).1),(4,.cells [.row 7 0 ((stp s o).1).2.length]),(5,.cells (Pob.cells o0)),(7,.row 6 (objsAV ((stp s o).1).2) true),(6,.lp lq (rc (if (stp s o).2 then some c0 else none)))] ∧ n = 8)
  (N : Nat) (hN : N ≤ 16777216) (ih : ∀ s (o' : Pob),I s → o'.bulk < N → FnU Ω Tryz.prog gl 144 [.agg (Pob.cells o'),.raw (.func (.yield lq) #[] #[])] ([(0,.cells [.map 1]),(1,mapOf KI VI (netL l)),(2,.cells [.map 3]),(3,setOf (fun n=>AV.int .i64 n) (s).1),(4,.cells [.row 7 0 (s).2.length]),(5,.cells (Pob.cells o0)),(7,.row 6 (objsAV (s).2) true),(6,.lp lq (rc none))]) 8 7 (fun r h n=>r = .ret (.bool (!(walkR stp s (Pob.pre o')).2)) ∧ h = [(0,.cells [.map 1]),(1,mapOf KI VI (netL l)),(2,.cells [.map 3]),(3,setOf (fun n=>AV.int .i64 n) ((walkR stp s (Pob.pre o')).1).1),(4,.cells [.row 7 0 ((walkR stp s (Pob.pre o')).1).2.length]),(5,.cells (Pob.cells o0)),(7,.row 6 (objsAV ((walkR stp s (Pob.pre o')).1).2) true),(6,.lp lq (rc (if (walkR stp s (Pob.pre o')).2 then some c0 else none)))] ∧ n = 8))
  (s : (List Int × List Pob)) (hs : I s) (o : Pob) (hl : o.kids.length ≤ 16777216) (hb : ∀ i,i < o.kids.length → (o.kids.getD i Pob.null).bulk < N) :
  FnU Ω Tryz.prog gl 144 [.agg (Pob.cells o),.raw (.func (.yield lq) #[] #[])] ([(0,.cells [.map 1]),(1,mapOf KI VI (netL l)),(2,.cells [.map 3]),(3,setOf (fun n=>AV.int .i64 n) (s).1),(4,.cells [.row 7 0 (s).2.length]),(5,.cells (Pob.cells o0)),(7,.row 6 (objsAV (s).2) true),(6,.lp lq (rc none))]) 8 7 (fun r h n=>r = .ret (.bool (!(walkR stp s (Pob.pre o)).2)) ∧ h = [(0,.cells [.map 1]),(1,mapOf KI VI (netL l)),(2,.cells [.map 3]),(3,setOf (fun n=>AV.int .i64 n) ((walkR stp s (Pob.pre o)).1).1),(4,.cells [.row 7 0 ((walkR stp s (Pob.pre o)).1).2.length]),(5,.cells (Pob.cells o0)),(7,.row 6 (objsAV ((walkR stp s (Pob.pre o)).1).2) true),(6,.lp lq (rc (if (walkR stp s (Pob.pre o)).2 then some c0 else none)))] ∧ n = 8):=by
 have hpre:=Pob.pre_eq o
 refine FnU.intro Tryz.func144 rfl rfl (by simp [Tryz.ntmps144]) ?_ ?_
 ·rintro q hp' nx' ⟨rfl,rfl,rfl⟩
  exact ⟨by simp only [↓noTHm_cons,noTHm,↓noTBm_ints,↓noTBm_net,noTBm,noTL,noT,noTL_cells,Bool.and_self],_,rfl,rfl⟩
 intro B_
 simp only [argEnv,Tryz.ntmps144,Tryz.results144]
 refine AWT.rS ?_
 refine AWT.seq ?_
 refine AWT.rSC ?_
 by_cases hk : o.kind = 8
 ·have hy:=hY s o hs
  cases hst : (stp s o).2
  ·simp only [hst,Bool.not_false,Bool.false_eq_true,if_false] at hy
   have hw_stop : ∀ i,i < o.kids.length → (walkR stp (stp s o).1 (pres (o.kids.take i))).2 = false → (walkR stp (walkR stp (stp s o).1 (pres (o.kids.take i))).1 (o.kids.getD i Pob.null).pre).2 = true → walkR stp s (o :: pres o.kids) = ((walkR stp (walkR stp (stp s o).1 (pres (o.kids.take i))).1 (o.kids.getD i Pob.null).pre).1,true):=fun i hi hg hh=>by rw [walkR_go hk hst]; exact walkR_kid hi hg hh
   have hw_end : ∀ i,¬ i < o.kids.length → (walkR stp (stp s o).1 (pres (o.kids.take i))).2 = false → walkR stp s (o :: pres o.kids) = ((walkR stp (stp s o).1 (pres (o.kids.take i))).1,false):=fun i hi hg=>by rw [walkR_go hk hst,← hg]; rw [List.take_of_length_le (by omega)]
   refine OpsT.cYG [0,1,2,3,4,5,6,7] hy (hgv:=by simp only [go_sem,seval]; simp [hk]) ?_
   refine OpsT.rn ?_
   refine OpsT.nil ?_
   refine AWT.c2 ?_ ?_
   ·intro h
    simp at h
   ·intro _
    refine AWT.skip ?_
    refine AWT.seq ?_
    refine AWT.rS ?_
    refine AWT.block ?_
    refine AWT.lk (S:={ i : Nat // i ≤ o.kids.length ∧ (walkR stp (stp s o).1 (pres (o.kids.take i))).2 = false }) [1,17,18] (fun s_=>[(19,.int .i64 s_.1)]) (fun s_=>[(0,.cells [.map 1]),(1,mapOf KI VI (netL l)),(2,.cells [.map 3]),(3,setOf (fun n=>AV.int .i64 n) ((walkR stp (stp s o).1 (pres (o.kids.take s_.1))).1).1),(4,.cells [.row 7 0 ((walkR stp (stp s o).1 (pres (o.kids.take s_.1))).1).2.length]),(5,.cells (Pob.cells o0)),(7,.row 6 (objsAV ((walkR stp (stp s o).1 (pres (o.kids.take s_.1))).1).2) true),(6,.lp lq (rc none))]) 8 (fun s_=>o.kids.length - s_.1) ⟨0,Nat.zero_le _,by simp [pres_nil,walkR_nil]⟩ ?_ ?_
    ·refine St.le.vx [0,1,2,3,4,5,6,9] (hpre:=(by decide : ∀ i,i < 7 → nth [0,1,2,3,4,5,6,9] i = some i)) ?_
     simp [pres_nil,walkR_nil]
    rintro ⟨i,hi,hgo⟩
    try dsimp only at hi
    try dsimp only at hgo
    have hsi : I (walkR stp (stp s o).1 (pres (o.kids.take i))).1:=walkR_inv hI _ _ (hI _ _ hs)
    refine AWT.rS ?_
    refine AWT.seq ?_
    refine AWT.c2 ?_ ?_
    ·intro h17
     refine AWT.skip ?_
     refine AWT.seq ?_
     refine AWT.block ?_
     refine AWT.rS ?_
     refine AWT.rSC ?_
     have hc:=ih _ (o.kids.getD i Pob.null) hsi (hb i (by omega))
     have htk:=pres_take (l:=o.kids) (i:=i) (by omega)
     cases hst : (walkR stp (walkR stp (stp s o).1 (pres (o.kids.take i))).1 (o.kids.getD i Pob.null).pre).2
     ·simp only [hst,Bool.not_false,Bool.false_eq_true,if_false] at hc
      refine OpsT.cTU [0,1,2,3,4,5,6,7] hc ?_
      refine OpsT.rn ?_
      refine OpsT.nil ?_
      refine AWT.c2 ?_ ?_
      ·intro h
       simp at h
      ·intro _
       refine AWT.skip ?_
       refine AWT.rL ?_
       have e1 : walkR stp (stp s o).1 (pres (o.kids.take (i + 1))) = ((walkR stp (walkR stp (stp s o).1 (pres (o.kids.take i))).1 (o.kids.getD i Pob.null).pre).1,false):=walkR_more (by omega) hgo hst
       refine ⟨⟨i + 1,by omega,by rw [e1]⟩,?_,?_⟩
       ·refine St.le.vx [0,1,2,3,4,5,6,9] (hpre:=(by decide : ∀ i,i < 7 → nth [0,1,2,3,4,5,6,9] i = some i)) ?_
        rw [e1]
        all_goals simp
       ·simp only []; omega
     ·simp only [hst,Bool.not_true,if_true] at hc
      refine OpsT.cTU [0,1,2,3,4,5,6,7] hc ?_
      refine OpsT.rn ?_
      refine OpsT.nil ?_
      refine AWT.c2 ?_ ?_
      ·intro h
       refine AWT.rS ?_
       refine AWT.pre (σ':=⟨28,[(4,.bool false)],[(0,.cells [.map 1]),(1,mapOf KI VI (netL l)),(2,.cells [.map 3]),(3,setOf (fun n=>AV.int .i64 n) ((walkR stp (walkR stp (stp s o).1 (pres (o.kids.take i))).1 (o.kids.getD i Pob.null).pre).1).1),(4,.cells [.row 7 0 ((walkR stp (walkR stp (stp s o).1 (pres (o.kids.take i))).1 (o.kids.getD i Pob.null).pre).1).2.length]),(5,.cells (Pob.cells o0)),(7,.row 6 (objsAV ((walkR stp (walkR stp (stp s o).1 (pres (o.kids.take i))).1 (o.kids.getD i Pob.null).pre).1).2) true),(6,.lp lq (rc (some c0)))],8,gl,7,[]⟩) (St.le.vw [0,1,2,3,4,5,6,9] (hpre:=(by decide : ∀ i,i < 7 → nth [0,1,2,3,4,5,6,9] i = some i))) ?_
       refine AWT.rt ?_
       have e:=hw_stop  i (by omega) hgo hst
       rw [hpre,e]
       simp
      ·intro h
       simp at h
    ·intro h17
     refine AWT.exit ?_
     refine AWT.rS ?_
     refine AWT.pre (σ':=⟨28,[(4,.bool true)],[(0,.cells [.map 1]),(1,mapOf KI VI (netL l)),(2,.cells [.map 3]),(3,setOf (fun n=>AV.int .i64 n) ((walkR stp (stp s o).1 (pres (o.kids.take i))).1).1),(4,.cells [.row 7 0 ((walkR stp (stp s o).1 (pres (o.kids.take i))).1).2.length]),(5,.cells (Pob.cells o0)),(7,.row 6 (objsAV ((walkR stp (stp s o).1 (pres (o.kids.take i))).1).2) true),(6,.lp lq (rc none))],8,gl,7,[]⟩) (St.le.vw [0,1,2,3,4,5,6,7] (hpre:=(by decide : ∀ i,i < 7 → nth [0,1,2,3,4,5,6,7] i = some i))) ?_
     refine AWT.rt ?_
     have e:=hw_end i (by omega) hgo
     rw [hpre,e]
     simp
  ·simp only [hst,Bool.not_true,if_true] at hy
   refine OpsT.cYG [0,1,2,3,4,5,6,7] hy (hgv:=by simp only [go_sem,seval]; simp [hk]) ?_
   refine OpsT.rn ?_
   refine OpsT.nil ?_
   refine AWT.c2 ?_ ?_
   ·intro h
    refine AWT.rS ?_
    refine AWT.pre (σ':=⟨28,[(4,.bool false)],[(0,.cells [.map 1]),(1,mapOf KI VI (netL l)),(2,.cells [.map 3]),(3,setOf (fun n=>AV.int .i64 n) ((stp s o).1).1),(4,.cells [.row 7 0 ((stp s o).1).2.length]),(5,.cells (Pob.cells o0)),(7,.row 6 (objsAV ((stp s o).1).2) true),(6,.lp lq (rc (some c0)))],8,gl,7,[]⟩) (St.le.vw [0,1,2,3,4,5,6,9] (hpre:=(by decide : ∀ i,i < 7 → nth [0,1,2,3,4,5,6,9] i = some i))) ?_
    refine AWT.rt ?_
    rw [hpre,walkR_stop hk hst]
    simp
   ·intro h
    simp [hk] at h
 ·skip
  have hw_stop : ∀ i,i < o.kids.length → (walkR stp s (pres (o.kids.take i))).2 = false → (walkR stp (walkR stp s (pres (o.kids.take i))).1 (o.kids.getD i Pob.null).pre).2 = true → walkR stp s (o :: pres o.kids) = ((walkR stp (walkR stp s (pres (o.kids.take i))).1 (o.kids.getD i Pob.null).pre).1,true):=fun i hi hg hh=>by rw [walkR_no hk]; exact walkR_kid hi hg hh
  have hw_end : ∀ i,¬ i < o.kids.length → (walkR stp s (pres (o.kids.take i))).2 = false → walkR stp s (o :: pres o.kids) = ((walkR stp s (pres (o.kids.take i))).1,false):=fun i hi hg=>by rw [walkR_no hk,← hg]; rw [List.take_of_length_le (by omega)]
  refine OpsT.gN (.bool true) ?_ (hgv:=by simp only [go_sem,seval]; simp [hk])
  refine OpsT.rn ?_
  refine OpsT.nil ?_
  refine AWT.c2 ?_ ?_
  ·intro h
   simp [hk] at h
  ·intro _
   refine AWT.skip ?_
   refine AWT.seq ?_
   refine AWT.rS ?_
   refine AWT.block ?_
   refine AWT.lk (S:={ i : Nat // i ≤ o.kids.length ∧ (walkR stp s (pres (o.kids.take i))).2 = false }) [1,17,18] (fun s_=>[(19,.int .i64 s_.1)]) (fun s_=>[(0,.cells [.map 1]),(1,mapOf KI VI (netL l)),(2,.cells [.map 3]),(3,setOf (fun n=>AV.int .i64 n) ((walkR stp s (pres (o.kids.take s_.1))).1).1),(4,.cells [.row 7 0 ((walkR stp s (pres (o.kids.take s_.1))).1).2.length]),(5,.cells (Pob.cells o0)),(7,.row 6 (objsAV ((walkR stp s (pres (o.kids.take s_.1))).1).2) true),(6,.lp lq (rc none))]) 8 (fun s_=>o.kids.length - s_.1) ⟨0,Nat.zero_le _,by simp [pres_nil,walkR_nil]⟩ ?_ ?_
   ·refine St.le.vx [0,1,2,3,4,5,6,7] (hpre:=(by decide : ∀ i,i < 7 → nth [0,1,2,3,4,5,6,7] i = some i)) ?_
    simp [pres_nil,walkR_nil]
   rintro ⟨i,hi,hgo⟩
   try dsimp only at hi
   try dsimp only at hgo
   have hsi : I (walkR stp s (pres (o.kids.take i))).1:=walkR_inv hI _ _ hs
   refine AWT.rS ?_
   refine AWT.seq ?_
   refine AWT.c2 ?_ ?_
   ·intro h17
    refine AWT.skip ?_
    refine AWT.seq ?_
    refine AWT.block ?_
    refine AWT.rS ?_
    refine AWT.rSC ?_
    have hc:=ih _ (o.kids.getD i Pob.null) hsi (hb i (by omega))
    have htk:=pres_take (l:=o.kids) (i:=i) (by omega)
    cases hst : (walkR stp (walkR stp s (pres (o.kids.take i))).1 (o.kids.getD i Pob.null).pre).2
    ·simp only [hst,Bool.not_false,Bool.false_eq_true,if_false] at hc
     refine OpsT.cTU [0,1,2,3,4,5,6,7] hc ?_
     refine OpsT.rn ?_
     refine OpsT.nil ?_
     refine AWT.c2 ?_ ?_
     ·intro h
      simp at h
     ·intro _
      refine AWT.skip ?_
      refine AWT.rL ?_
      have e1 : walkR stp s (pres (o.kids.take (i + 1))) = ((walkR stp (walkR stp s (pres (o.kids.take i))).1 (o.kids.getD i Pob.null).pre).1,false):=walkR_more (by omega) hgo hst
      refine ⟨⟨i + 1,by omega,by rw [e1]⟩,?_,?_⟩
      ·refine St.le.vx [0,1,2,3,4,5,6,9] (hpre:=(by decide : ∀ i,i < 7 → nth [0,1,2,3,4,5,6,9] i = some i)) ?_
       rw [e1]
       all_goals simp
      ·simp only []; omega
    ·simp only [hst,Bool.not_true,if_true] at hc
     refine OpsT.cTU [0,1,2,3,4,5,6,7] hc ?_
     refine OpsT.rn ?_
     refine OpsT.nil ?_
     refine AWT.c2 ?_ ?_
     ·intro h
      refine AWT.rS ?_
      refine AWT.pre (σ':=⟨28,[(4,.bool false)],[(0,.cells [.map 1]),(1,mapOf KI VI (netL l)),(2,.cells [.map 3]),(3,setOf (fun n=>AV.int .i64 n) ((walkR stp (walkR stp s (pres (o.kids.take i))).1 (o.kids.getD i Pob.null).pre).1).1),(4,.cells [.row 7 0 ((walkR stp (walkR stp s (pres (o.kids.take i))).1 (o.kids.getD i Pob.null).pre).1).2.length]),(5,.cells (Pob.cells o0)),(7,.row 6 (objsAV ((walkR stp (walkR stp s (pres (o.kids.take i))).1 (o.kids.getD i Pob.null).pre).1).2) true),(6,.lp lq (rc (some c0)))],8,gl,7,[]⟩) (St.le.vw [0,1,2,3,4,5,6,9] (hpre:=(by decide : ∀ i,i < 7 → nth [0,1,2,3,4,5,6,9] i = some i))) ?_
      refine AWT.rt ?_
      have e:=hw_stop  i (by omega) hgo hst
      rw [hpre,e]
      simp
     ·intro h
      simp at h
   ·intro h17
    refine AWT.exit ?_
    refine AWT.rS ?_
    refine AWT.pre (σ':=⟨28,[(4,.bool true)],[(0,.cells [.map 1]),(1,mapOf KI VI (netL l)),(2,.cells [.map 3]),(3,setOf (fun n=>AV.int .i64 n) ((walkR stp s (pres (o.kids.take i))).1).1),(4,.cells [.row 7 0 ((walkR stp s (pres (o.kids.take i))).1).2.length]),(5,.cells (Pob.cells o0)),(7,.row 6 (objsAV ((walkR stp s (pres (o.kids.take i))).1).2) true),(6,.lp lq (rc none))],8,gl,7,[]⟩) (St.le.vw [0,1,2,3,4,5,6,7] (hpre:=(by decide : ∀ i,i < 7 → nth [0,1,2,3,4,5,6,7] i = some i))) ?_
    refine AWT.rt ?_
    have e:=hw_end i (by omega) hgo
    rw [hpre,e]
    simp
theorem wr_all (gl : List (Nat × AV)) (l : List Itm) (o0 : Pob) (stp : (List Int × List Pob) → Pob → (List Int × List Pob) × Bool) (c0 : Code) (I : (List Int × List Pob) → Prop) (hI : ∀ s o,I s → I (stp s o).1) (lq : Nat) (rc : Option Code → Loop) {Ω : Mem → Prop} [LastsU Ω]
  (hY : ∀ s o,I s → RoundU Ω Tryz.prog gl lq [.agg (Pob.cells o)] ([(0,.cells [.map 1]),(1,mapOf KI VI (netL l)),(2,.cells [.map 3]),(3,setOf (fun n=>AV.int .i64 n) (s).1),(4,.cells [.row 7 0 (s).2.length]),(5,.cells (Pob.cells o0)),(7,.row 6 (objsAV (s).2) true),(6,.lp lq (rc none))]) 8 7 fun r h n=>r = .ret (.bool (!(stp s o).2)) ∧ h = [(0,.cells [.map 1]),(1,mapOf KI VI (netL l)),(2,.cells [.map 3]),(3,setOf (fun n=>AV.int .i64 n) ((stp s o).1).1),(4,.cells [.row 7 0 ((stp s o).1).2.length]),(5,.cells (Pob.cells o0)),(7,.row 6 (objsAV ((stp s o).1).2) true),(6,.lp lq (rc (if (stp s o).2 then some c0 else none)))] ∧ n = 8) (N : Nat) :
  N ≤ 16777216 → ∀ s (o : Pob),I s → o.bulk ≤ N → FnU Ω Tryz.prog gl 144 [.agg (Pob.cells o),.raw (.func (.yield lq) #[] #[])] ([(0,.cells [.map 1]),(1,mapOf KI VI (netL l)),(2,.cells [.map 3]),(3,setOf (fun n=>AV.int .i64 n) (s).1),(4,.cells [.row 7 0 (s).2.length]),(5,.cells (Pob.cells o0)),(7,.row 6 (objsAV (s).2) true),(6,.lp lq (rc none))]) 8 7 (fun r h n=>r = .ret (.bool (!(walkR stp s (Pob.pre o)).2)) ∧ h = [(0,.cells [.map 1]),(1,mapOf KI VI (netL l)),(2,.cells [.map 3]),(3,setOf (fun n=>AV.int .i64 n) ((walkR stp s (Pob.pre o)).1).1),(4,.cells [.row 7 0 ((walkR stp s (Pob.pre o)).1).2.length]),(5,.cells (Pob.cells o0)),(7,.row 6 (objsAV ((walkR stp s (Pob.pre o)).1).2) true),(6,.lp lq (rc (if (walkR stp s (Pob.pre o)).2 then some c0 else none)))] ∧ n = 8):=by
 induction N using Nat.strongRecOn with
 | ind N IH =>
  intro hN s o hs ho
  have hb:=Pob.bulk_eq o
  exact wr_step gl l o0 stp c0 I hI lq rc hY N hN (fun s o' hs h=>IH o'.bulk h (by omega) s o' hs (Nat.le_refl _)) s hs o (by omega) (fun i hi=>Nat.lt_of_lt_of_le (Pob.bulk_kid hi) ho)

theorem wr_refs (gl : List (Nat × AV)) (l : List Itm) (o0 : Pob) (stp : (List Int × List Pob) → Pob → (List Int × List Pob) × Bool) (c0 : Code) (I : (List Int × List Pob) → Prop) (hI : ∀ s o,I s → I (stp s o).1) (lq : Nat) (rc : Option Code → Loop) {Ω : Mem → Prop} [LastsU Ω]
  (hY : ∀ s o,I s → RoundU Ω Tryz.prog gl lq [.agg (Pob.cells o)] ([(0,.cells [.map 1]),(1,mapOf KI VI (netL l)),(2,.cells [.map 3]),(3,setOf (fun n=>AV.int .i64 n) (s).1),(4,.cells [.row 7 0 (s).2.length]),(5,.cells (Pob.cells o0)),(7,.row 6 (objsAV (s).2) true),(6,.lp lq (rc none))]) 8 7 fun r h n=>r = .ret (.bool (!(stp s o).2)) ∧ h = [(0,.cells [.map 1]),(1,mapOf KI VI (netL l)),(2,.cells [.map 3]),(3,setOf (fun n=>AV.int .i64 n) ((stp s o).1).1),(4,.cells [.row 7 0 ((stp s o).1).2.length]),(5,.cells (Pob.cells o0)),(7,.row 6 (objsAV ((stp s o).1).2) true),(6,.lp lq (rc (if (stp s o).2 then some c0 else none)))] ∧ n = 8)
  (s : (List Int × List Pob)) (hs : I s) (h : (Pob.bulk o0) ≤ 16777216) : FnU Ω Tryz.prog gl 143 [.raw (.func (.yield lq) #[] #[]),.ptr 5 0] ([(0,.cells [.map 1]),(1,mapOf KI VI (netL l)),(2,.cells [.map 3]),(3,setOf (fun n=>AV.int .i64 n) (s).1),(4,.cells [.row 7 0 (s).2.length]),(5,.cells (Pob.cells o0)),(7,.row 6 (objsAV (s).2) true),(6,.lp lq (rc none))]) 8 7 (fun r h n=>r = .ret (.tup []) ∧ h = [(0,.cells [.map 1]),(1,mapOf KI VI (netL l)),(2,.cells [.map 3]),(3,setOf (fun n=>AV.int .i64 n) ((walkR stp s (Pob.pre o0)).1).1),(4,.cells [.row 7 0 ((walkR stp s (Pob.pre o0)).1).2.length]),(5,.cells (Pob.cells o0)),(7,.row 6 (objsAV ((walkR stp s (Pob.pre o0)).1).2) true),(6,.lp lq (rc (if (walkR stp s (Pob.pre o0)).2 then some c0 else none)))] ∧ n = 8):=by
 refine FnU.intro Tryz.func143 rfl rfl (by simp [Tryz.ntmps143]) ?_ ?_
 ·rintro q hp' nx' ⟨rfl,rfl,rfl⟩
  exact ⟨by simp only [↓noTHm_cons,noTHm,↓noTBm_ints,↓noTBm_net,noTBm,noTL,noT,noTL_cells,noTL_dcells,Bool.and_self],_,rfl,rfl⟩
 intro B_
 simp only [argEnv,Tryz.ntmps143,Tryz.results143]
 refine AWT.post ?_
 refine AWT.rLC ?_
 refine OpsT.cTU [0,1,2,3,4,5,6,7] (wr_all gl l o0 stp c0 I hI lq rc hY 16777216 (Nat.le_refl _) s o0 hs h) ?_
 refine OpsT.rn ?_
 refine OpsT.nil ?_
 refine ⟨rfl,⟨6,[],[(0,.cells [.map 1]),(1,mapOf KI VI (netL l)),(2,.cells [.map 3]),(3,setOf (fun n=>AV.int .i64 n) ((walkR stp s (Pob.pre o0)).1).1),(4,.cells [.row 7 0 ((walkR stp s (Pob.pre o0)).1).2.length]),(5,.cells (Pob.cells o0)),(7,.row 6 (objsAV ((walkR stp s (Pob.pre o0)).1).2) true),(6,.lp lq (rc (if (walkR stp s (Pob.pre o0)).2 then some c0 else none)))],8,gl,7,[]⟩,(St.le.vw [0,1,2,3,4,5,6,8] (hpre:=(by decide : ∀ i,i < 7 → nth [0,1,2,3,4,5,6,8] i = some i))),?_⟩
 refine wk ?_
 all_goals first | contradiction | rfl | (simp; done) | (simp; omega)

end Go.Proofs

namespace Go.Proofs
open Go Aw
set_option linter.unusedSimpArgs false
set_option linter.unusedVariables false
set_option maxRecDepth 100000
set_option maxHeartbeats 4000000
attribute [local go_sem ↓ high] noTBm_net
attribute [local go_sem] mres netL_nil
end Go.Proofs

namespace Go.Proofs
open Go Aw
set_option linter.unusedSimpArgs false
set_option linter.unusedVariables false
set_option maxRecDepth 100000
set_option maxHeartbeats 4000000
attribute [local go_sem ↓ high] noTBm_net
attribute [local go_sem] mres netL_nil ebuildC acellsC partsC List.length_append List.length_cons List.length_nil
theorem h_graph_reach (gl : List (Nat × AV)) (l : List Itm) (o : Pob) (hl : l.length ≤ 8000000) (hb : ∀ i ∈ l,i.obj.bulk ≤ 16777216) (ho : o.bulk ≤ 16777216) :
  FnT (fun _=>True) Tryz.prog gl 124 [.map 0,.agg o.cells] [(0,mapOf KI VI (netL l))] 1 fun r h n=>r = .ret (.map 1) ∧ h = [(0,mapOf KI VI (netL l)),(1,setOf (fun n=>AV.int .i64 n) (reachS l o))] ∧ n = 2:=by
 refine FnT.intro Tryz.func124 rfl rfl (by simp [Tryz.ntmps124]) ?_ ?_
 ·rintro q hp' nx' ⟨rfl,rfl,rfl⟩
  exact ⟨by simp only [↓noTHm_cons,noTHm,↓noTBm_ints,↓noTBm_net,Bool.and_self],_,rfl,rfl⟩
 intro B_
 simp only [argEnv,Tryz.ntmps124,Tryz.results124]
 refine AWT.rS ?_
 refine AWT.rSC ?_
 refine OpsT.cs (awGuard.mkS (keyOk_int .i64) ?_)
 refine OpsT.rn ?_
 refine OpsT.nil ?_
 refine AWT.rS ?_
 refine AWT.seq ?_
 refine AWT.block ?_
 refine AWT.lk (S:={ p : (List Int × List Pob) × Pob // reachJ l o p.1 ∧ reachK 16777216 p.1 }) [2,3,5,6] (fun s_=>[]) (fun s_=>[(0,mapOf KI VI (netL l)),(1,.cells [.map 0]),(2,.cells (Pob.cells s_.1.2)),(3,setOf (fun n=>AV.int .i64 n) s_.1.1.1),(4,.cells [.map 3]),(5,.row 6 (objsAV s_.1.1.2) true),(6,.cells [.row 5 0 s_.1.1.2.length])]) 7 (fun s_=>reachM l s_.1.1) ⟨(([],[o]),o),reachJ_top l o,by intro p hp; simp only [List.mem_singleton] at hp; subst hp; exact ho⟩ ?_ ?_
 ·refine St.le.vx [0,1,2,3,4,5,6] (hpre:=(by decide : ∀ i,i < 1 → nth [0,1,2,3,4,5,6] i = some i)) ?_
  simp [objsAV_map]
  rw [← objsAV_map]
  cases o
  rfl
 rintro ⟨⟨s,cur⟩,hj,hk⟩
 try dsimp only at hj
 try dsimp only at hk
 have hlen:=reachI_len hj.1
 refine AWT.seq ?_
 refine AWT.rS ?_
 refine AWT.c2 ?_ ?_
 ·intro h15
  have hn : 0 < s.2.length:=by omega
  have hel:=reachK_at hk hn
  refine AWT.skip ?_
  refine AWT.block ?_
  refine AWT.sS [0,1,2,3,4,5,6,7,8,9,10] 11 [(12,2)] [(0,mapOf KI VI (netL l)),(1,.cells [.map 0]),(2,.cells (Pob.cells (s.2.getD (s.2.length - 1) Pob.null))),(3,setOf (fun n=>AV.int .i64 n) s.1),(4,.cells [.map 3]),(5,.row 6 (objsAV s.2) true),(6,.cells [.row 5 0 s.2.length])] ?_
  iterate 11 refine awFunE.p ?_
  rw [Aw.awFunE_nil]
  refine ⟨EffAt.of [3,21],?_⟩
  refine awPlan.rn ?_
  refine AWT.pre (St.le.rowTake 5 (s.2.length - 1) rfl) ?_
  refine AWT.trim [2,3,5,6] ?_
  rw [objsAV_take]
  have hpop : popS l s = (walkR (reachStp l) (s.1,(s.2.take (s.2.length - 1))) (Pob.pre (s.2.getD (s.2.length - 1) Pob.null))).1:=rfl
  have hmm:=popS_M hj.1 hn
  have hpj:=reachJ_pop hj hn
  have hpk:=popS_K hb hk
  have hpi:=pop_inv hj.1
  generalize hps : popS l s = ps at hpop hmm hpj hpk
  generalize (s.2.getD (s.2.length - 1) Pob.null) = el at hel hpop ⊢
  have htl : s.2.length - 1 = (s.2.take (s.2.length - 1)).length:=by simp
  generalize (s.2.take (s.2.length - 1)) = td at hpop hpi htl ⊢
  rw [htl]
  refine AWT.rSC ?_
  refine OpsT.cN [] (FnT.ofH (h_graph_refs _ el)) ?_
  refine OpsT.rn ?_
  refine OpsT.nil ?_
  refine AWT.block ?_
  refine AWT.rU [1,0,4,3,6,7] [5] [(2,.ptr 0 0),(5,.ptr 2 0),(6,.ptr 4 0)] (fun j h k=>j = none ∧ (∃ rl lq,h = [(0,.cells [.map 1]),(1,mapOf KI VI (netL l)),(2,.cells [.map 3]),(3,setOf (fun n=>AV.int .i64 n) ps.1),(4,.cells [.row 7 0 (ps.2).length]),(5,.cells (Pob.cells el)),(7,.row 6 (objsAV ps.2) true),(6,.lp lq rl)]) ∧ k = 8) (xs:=[.ptr 5 0]) (hp0:=[(0,.cells [.map 1]),(1,mapOf KI VI (netL l)),(2,.cells [.map 3]),(3,setOf (fun n=>AV.int .i64 n) s.1),(4,.cells [.row 7 0 (td).length]),(5,.cells (Pob.cells el)),(7,.row 6 (objsAV td) true)]) ?_ ?_
  ·intro Ω _ lq rb rc hr
   refine (wr_refs gl l el (reachStp l) .skip (fun s=>reachI l s) (fun s o h=>reachI_stp s o h) lq rc (fun s1 o1 hs1=>?_) (s.1,td) hpi hel).mono (fun q hp nx hh=>?_)
   ·have hl1:=reachI_len hs1
    refine hr [_] _ 8 _ rfl rfl ?_
    refine AWT.rL ?_
    refine ⟨rfl,rfl,?_⟩
    refine AWT.block ?_
    refine AWT.rSC ?_
    refine OpsT.cs (awGuard.c1 (c_graph_leads _ l o1) ?_)
    refine OpsT.rn ?_
    refine OpsT.nil ?_
    refine AWT.seq ?_
    refine AWT.rSC ?_
    refine OpsT.cs (awGuard.lkG (keyOk_int .i64) ?_)
    refine OpsT.rn ?_
    refine OpsT.nil ?_
    refine AWT.c2 ?_ ?_
    ·intro hq
     have hb1 : grchB l s1.1 o1 = false:=by
      cases hb1 : grchB l s1.1 o1
      ·rfl
      ·exfalso
       simp [grchB] at hb1
       simp [hb1.1,hb1.2] at hq
     refine AWT.exit ?_
     refine ⟨none,rfl,⟨55,[],[(0,.cells [.map 1]),(1,mapOf KI VI (netL l)),(2,.cells [.map 3]),(3,setOf (fun n=>AV.int .i64 n) (reachStp l s1 o1).1.1),(4,.cells [.row 7 0 ((reachStp l s1 o1).1.2).length]),(5,.cells (Pob.cells el)),(7,.row 6 (objsAV (reachStp l s1 o1).1.2) true),(6,.lp lq rb)],8,gl,7,[]⟩,?_,rfl,by simp only [go_sem,seval],rfl,rfl,rfl⟩
     refine St.le.vx [0,1,2,3,4,5,6,7] (hpre:=(by decide : ∀ i,i < 7 → nth [0,1,2,3,4,5,6,7] i = some i)) ?_
     simp [reachStp,hb1]
    ·intro hq
     have hb1 : grchB l s1.1 o1 = true:=by
      cases hb1 : grchB l s1.1 o1
      ·exfalso
       simp only [grchB,Bool.and_eq_false_iff,Bool.not_eq_false',decide_eq_true_eq] at hb1
       rcases hb1 with hb1 | hb1
       ·simp [hb1] at hq
       ·simp [hb1] at hq
      ·rfl
     refine AWT.skip ?_
     refine AWT.rSC ?_
     refine OpsT.cs (awGuard.upS (keyOk_int .i64) ?_)
     refine OpsT.rn ?_
     refine OpsT.nil ?_
     refine AWT.trim [6,8] ?_
     refine AWT.tGL (σf:=?sf10) (.take 1 0 (.fork 0 (.fork 2 (.fork 3 (.fork 4 (.fork 5 (.fork 6 (.fork 7 (.fork 8 .done .stop) (.fork 8 (.fork 7 .done .stop) .stop)) (.fork 8 (.fork 6 (.fork 7 .done .stop) .stop) .stop)) .stop) .stop) (.fork 4 (.fork 3 (.fork 5 (.fork 6 (.fork 7 (.fork 8 .done .stop) (.fork 8 (.fork 7 .done .stop) .stop)) (.fork 8 (.fork 6 (.fork 7 .done .stop) .stop) .stop)) .stop) .stop) .stop)) (.fork 3 (.fork 2 (.fork 4 (.fork 5 (.fork 6 (.fork 7 (.fork 8 .done .stop) (.fork 8 (.fork 7 .done .stop) .stop)) (.fork 8 (.fork 6 (.fork 7 .done .stop) .stop) .stop)) .stop) .stop) (.fork 4 (.fork 2 (.fork 5 (.fork 6 (.fork 7 (.fork 8 .done .stop) (.fork 8 (.fork 7 .done .stop) .stop)) (.fork 8 (.fork 6 (.fork 7 .done .stop) .stop) .stop)) .stop) .stop) .stop)) (.fork 4 (.fork 2 (.fork 3 (.fork 5 (.fork 6 (.fork 7 (.fork 8 .done .stop) (.fork 8 (.fork 7 .done .stop) .stop)) (.fork 8 (.fork 6 (.fork 7 .done .stop) .stop) .stop)) .stop) .stop) (.fork 3 (.fork 2 (.fork 5 (.fork 6 (.fork 7 (.fork 8 .done .stop) (.fork 8 (.fork 7 .done .stop) .stop)) (.fork 8 (.fork 6 (.fork 7 .done .stop) .stop) .stop)) .stop) .stop) .stop)) .stop))) (.fork 2 (.fork 0 (.fork 3 (.fork 4 (.fork 5 (.fork 6 (.fork 7 (.fork 8 .done .stop) (.fork 8 (.fork 7 .done .stop) .stop)) (.fork 8 (.fork 6 (.fork 7 .done .stop) .stop) .stop)) .stop) .stop) (.fork 4 (.fork 3 (.fork 5 (.fork 6 (.fork 7 (.fork 8 .done .stop) (.fork 8 (.fork 7 .done .stop) .stop)) (.fork 8 (.fork 6 (.fork 7 .done .stop) .stop) .stop)) .stop) .stop) .stop)) (.fork 4 (.fork 0 (.fork 3 (.fork 5 (.fork 6 (.fork 7 (.fork 8 .done .stop) (.fork 8 (.fork 7 .done .stop) .stop)) (.fork 8 (.fork 6 (.fork 7 .done .stop) .stop) .stop)) .stop) .stop) .stop) .stop)) (.fork 4 (.fork 0 (.fork 2 (.fork 3 (.fork 5 (.fork 6 (.fork 7 (.fork 8 .done .stop) (.fork 8 (.fork 7 .done .stop) .stop)) (.fork 8 (.fork 6 (.fork 7 .done .stop) .stop) .stop)) .stop) .stop) (.fork 3 (.fork 2 (.fork 5 (.fork 6 (.fork 7 (.fork 8 .done .stop) (.fork 8 (.fork 7 .done .stop) .stop)) (.fork 8 (.fork 6 (.fork 7 .done .stop) .stop) .stop)) .stop) .stop) .stop)) (.fork 2 (.fork 0 (.fork 3 (.fork 5 (.fork 6 (.fork 7 (.fork 8 .done .stop) (.fork 8 (.fork 7 .done .stop) .stop)) (.fork 8 (.fork 6 (.fork 7 .done .stop) .stop) .stop)) .stop) .stop) .stop) .stop)) .stop)))) ?tree10 ?rest10
     case tree10 =>
      refine awTree.tk ?_
      refine awTree.fA ?_ ?_
      ·refine awTree.fA ?_ ?_
       ·refine awTree.fA ?_ ?_
        ·refine awTree.fK ?_ trivial
         refine awTree.fA ?_ trivial
         refine awTree.fA ?_ ?_
         ·refine awTree.fA ?_ ?_
          ·refine awTree.fA ?_ trivial
           exact awTree.dn
          ·refine awTree.fA ?_ trivial
           refine awTree.fA ?_ trivial
           exact awTree.dn
         ·refine awTree.fA ?_ trivial
          refine awTree.fA ?_ trivial
          refine awTree.fA ?_ trivial
          exact awTree.dn
        ·refine awTree.fK ?_ trivial
         refine awTree.fA ?_ trivial
         refine awTree.fA ?_ trivial
         refine awTree.fA ?_ ?_
         ·refine awTree.fA ?_ ?_
          ·refine awTree.fA ?_ trivial
           exact awTree.dn
          ·refine awTree.fA ?_ trivial
           refine awTree.fA ?_ trivial
           exact awTree.dn
         ·refine awTree.fA ?_ trivial
          refine awTree.fA ?_ trivial
          refine awTree.fA ?_ trivial
          exact awTree.dn
       ·refine awTree.fA ?_ ?_
        ·refine awTree.fA ?_ ?_
         ·refine awTree.fK ?_ trivial
          refine awTree.fA ?_ trivial
          refine awTree.fA ?_ ?_
          ·refine awTree.fA ?_ ?_
           ·refine awTree.fA ?_ trivial
            exact awTree.dn
           ·refine awTree.fA ?_ trivial
            refine awTree.fA ?_ trivial
            exact awTree.dn
          ·refine awTree.fA ?_ trivial
           refine awTree.fA ?_ trivial
           refine awTree.fA ?_ trivial
           exact awTree.dn
         ·refine awTree.fK ?_ trivial
          refine awTree.fA ?_ trivial
          refine awTree.fA ?_ trivial
          refine awTree.fA ?_ ?_
          ·refine awTree.fA ?_ ?_
           ·refine awTree.fA ?_ trivial
            exact awTree.dn
           ·refine awTree.fA ?_ trivial
            refine awTree.fA ?_ trivial
            exact awTree.dn
          ·refine awTree.fA ?_ trivial
           refine awTree.fA ?_ trivial
           refine awTree.fA ?_ trivial
           exact awTree.dn
        ·refine awTree.fK ?_ trivial
         refine awTree.fA ?_ ?_
         ·refine awTree.fA ?_ trivial
          refine awTree.fA ?_ trivial
          refine awTree.fA ?_ ?_
          ·refine awTree.fA ?_ ?_
           ·refine awTree.fA ?_ trivial
            exact awTree.dn
           ·refine awTree.fA ?_ trivial
            refine awTree.fA ?_ trivial
            exact awTree.dn
          ·refine awTree.fA ?_ trivial
           refine awTree.fA ?_ trivial
           refine awTree.fA ?_ trivial
           exact awTree.dn
         ·refine awTree.fA ?_ trivial
          refine awTree.fA ?_ trivial
          refine awTree.fA ?_ trivial
          refine awTree.fA ?_ ?_
          ·refine awTree.fA ?_ ?_
           ·refine awTree.fA ?_ trivial
            exact awTree.dn
           ·refine awTree.fA ?_ trivial
            refine awTree.fA ?_ trivial
            exact awTree.dn
          ·refine awTree.fA ?_ trivial
           refine awTree.fA ?_ trivial
           refine awTree.fA ?_ trivial
           exact awTree.dn
      ·refine awTree.fA ?_ ?_
       ·refine awTree.fA ?_ ?_
        ·refine awTree.fA ?_ ?_
         ·refine awTree.fK ?_ trivial
          refine awTree.fA ?_ trivial
          refine awTree.fA ?_ ?_
          ·refine awTree.fA ?_ ?_
           ·refine awTree.fA ?_ trivial
            exact awTree.dn
           ·refine awTree.fA ?_ trivial
            refine awTree.fA ?_ trivial
            exact awTree.dn
          ·refine awTree.fA ?_ trivial
           refine awTree.fA ?_ trivial
           refine awTree.fA ?_ trivial
           exact awTree.dn
         ·refine awTree.fK ?_ trivial
          refine awTree.fA ?_ trivial
          refine awTree.fA ?_ trivial
          refine awTree.fA ?_ ?_
          ·refine awTree.fA ?_ ?_
           ·refine awTree.fA ?_ trivial
            exact awTree.dn
           ·refine awTree.fA ?_ trivial
            refine awTree.fA ?_ trivial
            exact awTree.dn
          ·refine awTree.fA ?_ trivial
           refine awTree.fA ?_ trivial
           refine awTree.fA ?_ trivial
           exact awTree.dn
        ·refine awTree.fK ?_ trivial
         refine awTree.fA ?_ trivial
         refine awTree.fA ?_ trivial
         refine awTree.fA ?_ trivial
         refine awTree.fA ?_ ?_
         ·refine awTree.fA ?_ ?_
          ·refine awTree.fA ?_ trivial
           exact awTree.dn
          ·refine awTree.fA ?_ trivial
           refine awTree.fA ?_ trivial
           exact awTree.dn
         ·refine awTree.fA ?_ trivial
          refine awTree.fA ?_ trivial
          refine awTree.fA ?_ trivial
          exact awTree.dn
       ·refine awTree.fK ?_ trivial
        refine awTree.fA ?_ ?_
        ·refine awTree.fA ?_ ?_
         ·refine awTree.fA ?_ trivial
          refine awTree.fA ?_ trivial
          refine awTree.fA ?_ ?_
          ·refine awTree.fA ?_ ?_
           ·refine awTree.fA ?_ trivial
            exact awTree.dn
           ·refine awTree.fA ?_ trivial
            refine awTree.fA ?_ trivial
            exact awTree.dn
          ·refine awTree.fA ?_ trivial
           refine awTree.fA ?_ trivial
           refine awTree.fA ?_ trivial
           exact awTree.dn
         ·refine awTree.fA ?_ trivial
          refine awTree.fA ?_ trivial
          refine awTree.fA ?_ trivial
          refine awTree.fA ?_ ?_
          ·refine awTree.fA ?_ ?_
           ·refine awTree.fA ?_ trivial
            exact awTree.dn
           ·refine awTree.fA ?_ trivial
            refine awTree.fA ?_ trivial
            exact awTree.dn
          ·refine awTree.fA ?_ trivial
           refine awTree.fA ?_ trivial
           refine awTree.fA ?_ trivial
           exact awTree.dn
        ·refine awTree.fA ?_ trivial
         refine awTree.fA ?_ trivial
         refine awTree.fA ?_ trivial
         refine awTree.fA ?_ trivial
         refine awTree.fA ?_ ?_
         ·refine awTree.fA ?_ ?_
          ·refine awTree.fA ?_ trivial
           exact awTree.dn
          ·refine awTree.fA ?_ trivial
           refine awTree.fA ?_ trivial
           exact awTree.dn
         ·refine awTree.fA ?_ trivial
          refine awTree.fA ?_ trivial
          refine awTree.fA ?_ trivial
          exact awTree.dn
     case rest10 =>
      refine ⟨none,rfl,⟨55,[],[(0,.cells [.map 1]),(1,mapOf KI VI (netL l)),(2,.cells [.map 3]),(3,setOf (fun n=>AV.int .i64 n) (reachStp l s1 o1).1.1),(4,.cells [.row 7 0 ((reachStp l s1 o1).1.2).length]),(5,.cells (Pob.cells el)),(7,.row 6 (objsAV (reachStp l s1 o1).1.2) true),(6,.lp lq rb)],8,gl,7,[]⟩,?_,rfl,by simp only [go_sem,seval],rfl,rfl,rfl⟩
      refine St.le.vx [0,1,2,3,4,5,6,10] (hpre:=(by decide : ∀ i,i < 7 → nth [0,1,2,3,4,5,6,10] i = some i)) ?_
      simp [reachStp,hb1,objsAV_map]
      rw [← objsAV_map]
      generalize (leadI l o1).obj = oo
      cases oo
      rfl
   ·have hlast:=walkR_last (reach_last l) (Pob.pre el) (s.1,td)
    refine ⟨⟨_,hh.1⟩,none,?_,rfl,?_,hh.2.2⟩
    ·rw [hh.2.1,hlast] <;> rfl
    ·rw [hpop]; exact ⟨_,_,hh.2.1⟩
  ·rintro j hp' nx' ⟨rfl,⟨rl,lq,rfl⟩,rfl⟩
   refine ⟨by simp only [go_sem,seval],?_⟩
   refine ⟨⟨(ps,el),hpj,hpk⟩,?_,hmm⟩
   exact St.le.vw [0,1,2,3,4,9,6] (hpre:=(by decide : ∀ i,i < 1 → nth [0,1,2,3,4,9,6] i = some i))
 ·intro h15
  refine AWT.exit ?_
  refine AWT.rS ?_
  refine AWT.pre (σ':=⟨55,[(4,.map 1)],[(0,mapOf KI VI (netL l)),(1,setOf (fun n=>AV.int .i64 n) (reachS l o))],2,gl,1,[]⟩) ?_ ?_
  ·rw [← reachJ_end hj (by omega)]
   exact St.le.vw [0,3] (hpre:=(by decide : ∀ i,i < 1 → nth [0,3] i = some i))
  ·refine AWT.rt ?_
   trivial
end Go.Proofs

namespace Go.Proofs
open Go Aw
set_option linter.unusedSimpArgs false
set_option linter.unusedVariables false
set_option maxRecDepth 100000
set_option maxHeartbeats 4000000
attribute [local go_sem ↓ high] noTBm_net
attribute [local go_sem] mres netL_nil
theorem repY_ints {m : Mem} {g : Nat} : ∀ (l : List Int) (o : Nat),(∀ i,i < l.length → m.w.cell? ⟨g,o + i,none⟩ = some (.int .i64 (l.getD i 0))) → RepY m (intsAV l) g o 1
 | [],_,_=>by simp [intsAV,RepY]
 | x :: l,o,h=>by
  simp only [intsAV,List.map_cons,RepY,RepX]
  refine ⟨rfl,⟨⟨_,h 0 (by simp),by simp only [Rep]; rfl⟩,trivial⟩,?_⟩
  refine repY_ints l (o + 1) fun i hi=>?_
  have:=h (i + 1) (by simp; omega)
  rw [show o + (i + 1) = o + 1 + i from by omega] at this
  simpa using this
theorem h_slices_SortedR (gl : List (Nat × AV)) (s : List Int) (hwf : ∀ x ∈ s,(Lit.int .i64 x).wf = true) (hl : s.length ≤ 16777216) :
  FnT (fun _=>True) Tryz.prog gl 134 [.clos 142 [.ptr 1 0]] [(0,setOf (fun n=>AV.int .i64 n) s),(1,.cells [.map 0])] 2 fun r h n=>r = .ret (.row 2 0 (sortI s).length) ∧ h = [(0,setOf (fun n=>AV.int .i64 n) s),(1,.cells [.map 0]),(2,.row 1 (intsAV (sortI s)) true)] ∧ n = 3:=by
 refine ⟨Aw.enters_of Tryz.func134 rfl rfl,fun m vs hm _ hv=>?_⟩
 obtain ⟨ri0,r0,b0⟩:=hm.h.blk 0 _ rfl
 obtain ⟨ri1,r1,b1⟩:=hm.h.blk 1 _ rfl
 obtain ⟨n1,_,f1,c,T,hc,hcl⟩:=b1
 simp only [RepL,Rep] at hcl hv
 obtain ⟨v0,rest0,hc0,⟨_,ri0',r0',rfl⟩,rfl⟩:=hcl
 rw [r0] at r0'
 injection r0' with r0'
 subst r0'
 obtain ⟨v,rest,rfl,⟨cv,rfl,v1,rest1,hcv,⟨_,ri1',r1',rfl⟩,rfl⟩,rfl⟩:=hv
 rw [r1] at r1'
 injection r1' with r1'
 subst r1'
 have hcv' : cv = #[.pointer (some ⟨ri1.b,0,none⟩)]:=by
  apply Array.ext'
  exact hcv
 subst hcv'
 have hc' : c = #[.map (some ri0.b)]:=by
  apply Array.ext'
  exact hc0
 subst hc'
 obtain ⟨D0,hown,hperm,hsize⟩:=set_owns b0 hwf hl
 have hb1 : ri1.b < m.w.heap.size:=lt_of_getElem? hc
 have hcell : m.w.cell? ⟨ri1.b,0,none⟩ = some (.map (some ri0.b)):=by simp [World.cell?,hc]
 have hcall:=Tryz.sortedKeys ri1.b ri0.b s.length D0 (plainElem Tryz.prog 4) m.w hb1 hcell hown (by rw [hsize]; simp only [maxLen]; omega) (by rw [hsize]; omega)
 refine hcall.mono ?_
 rintro e w' ⟨v,ss,rfl,hp,hrow,_,hbel⟩
 have hss : ss.mergeSort (fun x y=>decide (x ≤ y)) = sortI s:=mergeSort_of_perm_i (hp.trans hperm)
 have hsl : ss.length = s.length:=(hp.trans hperm).length_eq
 rw [hss] at hrow
 have hlen : (sortI s).length = ss.length:=by rw [← hss]; exact (List.mergeSort_perm _ _).length_eq
 obtain ⟨_,⟨rfl,h0⟩ | ⟨g,cap,cur,rfl,hgb,hgc,hcap,_,hcs,hct⟩⟩:=hrow
 ·have hnil : sortI s = []:=List.eq_nil_of_length_eq_zero (by omega)
  have hle:=withRow_le (w':=w') (ri:=⟨0,0,0,1,true⟩) hm.h hbel.block hbel.size hbel.os hbel.tape hbel.output
  have hsim:=withRow_simH (w':=w') (ri:=⟨0,0,0,1,true⟩) (x:=.row 1 (intsAV (sortI s)) true) hm.h hbel.block hbel.size (fun h=>by cases h) (by rw [hnil]; exact .inl ⟨rfl,rfl⟩)
  refine ⟨_,.ret (.row 2 0 (sortI s).length),_,_,rfl,hle,hsim,⟨_,rfl,?_⟩,rfl,rfl,rfl⟩
  simp only [Rep]
  exact ⟨trivial,_,rfl,.inl ⟨rfl,rfl,by rw [hnil]; rfl,rfl⟩⟩
 ·have hil : (intsAV (sortI s)).length = ss.length:=by rw [← hlen]; simp [intsAV]
  have hle:=withRow_le (w':=w') (ri:=⟨g,0,cap,1,false⟩) hm.h hbel.block hbel.size hbel.os hbel.tape hbel.output
  have hsim:=withRow_simH (w':=w') (ri:=⟨g,0,cap,1,false⟩) (x:=.row 1 (intsAV (sortI s)) true) hm.h hbel.block hbel.size (fun _=>hgb) (by
   refine .inr ⟨rfl,fun hp=>?_,⟨Nat.le_refl _,rfl⟩,by rw [hil]; exact hcap,⟨cur,_,0,0,hgc,fun i _=>by omega,by rw [hcs]; simp⟩,?_⟩
   ·have:=hm.h.Pold g hp
    omega
   ·rw [if_pos rfl]
    refine ⟨repY_ints _ 0 fun i hi=>?_,fun i _ hf=>?_⟩
    ·have hcur : cur[i]? = some (.int .i64 ((sortI s).getD i 0)):=by
      have e : (cur.toList.take (ss.length * 1))[i]? = ((sortI s).map encZ)[i]?:=by rw [hct]
      rw [List.getElem?_take_of_lt (by omega),Array.getElem?_toList,List.getElem?_map,List.getElem?_eq_getElem hi] at e
      rw [e]
      simp [List.getD,hi]
     show w'.cell? ⟨g,0 + i,none⟩ = _
     simp [World.cell?,hgc,hcur]
    ·have:=hm.h.Fold g i hf
     omega)
  refine ⟨_,.ret (.row 2 0 (sortI s).length),_,_,rfl,hle,hsim,⟨_,rfl,?_⟩,rfl,rfl,rfl⟩
  simp only [Rep]
  refine ⟨trivial,_,rfl,?_⟩
  rcases Nat.eq_zero_or_pos cap with h0 | h0
  ·subst h0
   obtain rfl : ss = []:=List.eq_nil_of_length_eq_zero (by omega)
   exact .inr (.inr ⟨rfl,rfl,by rw [hlen]; rfl,_,rfl⟩)
  ·exact .inr (.inl ⟨rfl,by rw [hlen]; simpa using hcap,h0,by rw [hlen]; simp⟩)
theorem h_graph_risingR (gl : List (Nat × AV)) (s : List Int) (hwf : ∀ x ∈ s,(Lit.int .i64 x).wf = true) (hl : s.length ≤ 16777216) :
  FnT (fun _=>True) Tryz.prog gl 123 [.map 0] [(0,setOf (fun n=>AV.int .i64 n) s)] 1 fun r h n=>r = .ret (.row 1 0 (sortI s).length) ∧ h = [(0,setOf (fun n=>AV.int .i64 n) s),(1,.row 1 (intsAV (sortI s)) true)] ∧ n = 2:=by
 refine FnT.intro Tryz.func123 rfl rfl (by simp [Tryz.ntmps123]) ?_ ?_
 ·rintro q hp' nx' ⟨rfl,rfl,rfl⟩
  exact ⟨by simp only [↓noTHm_cons,noTHm,↓noTBm_ints,noTBm,Bool.and_self],_,rfl,rfl⟩
 intro B_
 simp only [argEnv,Tryz.ntmps123,Tryz.results123]
 refine AWT.rS ?_
 refine AWT.rSC ?_
 refine OpsT.cN [0] (FnT.ofH (h_maps_Keys _ _)) ?_
 refine OpsT.rn ?_
 refine OpsT.cN [0,1] (h_slices_SortedR _ s hwf hl) ?_
 refine OpsT.rn ?_
 refine OpsT.nil ?_
 refine AWT.pre (σ':=⟨6,[(2,.row 1 0 (sortI s).length)],[(0,setOf (fun n=>AV.int .i64 n) s),(1,.row 1 (intsAV (sortI s)) true)],2,gl,1,[]⟩) (St.le.vw [0,2] (hpre:=(by decide : ∀ i,i < 1 → nth [0,2] i = some i))) ?_
 refine AWT.rt ?_
 trivial
theorem h_graph_From (gl : List (Nat × AV)) (d : Dc) (o : Pob) (hv : docE d = 0) (hc : chk o 1 = 0) (h : d.bulk ≤ 16777216) (ho : o.bulk ≤ 16777216) : FnH Tryz.prog gl 96 [.agg d.cells,.agg o.cells] [] 0 fun r h n=>r = .ret (.row 0 0 (fromP d o).length) ∧ h = [(0,.row 1 (intsAV (fromP d o)) true)] ∧ n = 1:=by
 refine FnH.ofT (FnT.intro Tryz.func96 rfl rfl (by simp [Tryz.ntmps96]) (by rintro q hp' nx' ⟨rfl,rfl,rfl⟩; exact ⟨rfl,_,rfl,rfl⟩) ?_)
 intro B_
 simp only [argEnv,Tryz.ntmps96,Tryz.results96]
 refine AWT.rS ?_
 refine AWT.rSC ?_
 refine OpsT.cN [] (FnT.ofH (h_graph_of _ d hv h)) ?_
 refine OpsT.rn ?_
 refine OpsT.nil ?_
 refine AWT.seq ?_
 refine AWT.rSC ?_
 refine OpsT.cs (awGuard.cG (fun hg=>c_value_Check _ o ho) ?_)
 refine OpsT.rn ?_
 refine OpsT.nil ?_
 refine AWT.c2 ?_ ?_
 ·intro h17
  exfalso
  simp [hc] at h17
 ·intro h17
  refine AWT.skip ?_
  refine AWT.rSC ?_
  refine OpsT.cN [2] (h_graph_reach _ d.items o (Nat.le_trans (items_len hv) (by omega)) (items_bulk h) ho) ?_
  refine OpsT.rn ?_
  refine OpsT.cN [3] (h_graph_risingR _ (reachS d.items o) (fun x hx=>litwf (reachS_wf hv _ x hx)) (Nat.le_trans (reachS_len d.items o) (Nat.le_trans (items_len hv) (by omega)))) ?_
  refine OpsT.rn ?_
  refine OpsT.nil ?_
  refine AWT.pre (σ':=⟨23,[(4,.row 0 0 (fromP d o).length)],[(0,.row 1 (intsAV (fromP d o)) true)],1,gl,0,[]⟩) (by
   rw [fromP,if_pos ⟨hv,hc⟩]
   exact St.le.vw [4]) ?_
  refine AWT.rt ?_
  trivial
theorem h_graph_Reach (gl : List (Nat × AV)) (d : Dc) (hv : docE d = 0) (h : d.bulk ≤ 16777216) : FnH Tryz.prog (gl) 72 [.agg d.cells] ([]) 0 (fun r h n=>r = .ret (.row 0 0 (fromP d d.trailer).length) ∧ h = [(0,.row 1 (intsAV (fromP d d.trailer)) true)] ∧ n = 1):=by
 refine FnH.intro Tryz.func72 rfl rfl (by simp [Tryz.ntmps72]) ?_
 simp only [argEnv,Tryz.ntmps72,Tryz.results72]
 refine AW.rS ?_
 refine AW.rSC ?_
 refine awOps.cons (awGuard.cH [] (h_graph_From _ d d.trailer hv (chk_top hv) h (Nat.le_trans (Nat.le_add_left _ _) h)) ?_)
 refine awOps.rn ?_
 refine AW.vw [1] [(2,.row 0 0 (fromP d d.trailer).length)] [(0,.row 1 (intsAV (fromP d d.trailer)) true)] ?_
 refine AW.rt ?_
 trivial
end Go.Proofs
