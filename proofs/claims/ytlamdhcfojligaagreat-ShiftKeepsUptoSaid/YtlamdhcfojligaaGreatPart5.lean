/- A part of the proof: no condition of its own. -/
import Derived.Test.YtlamdhcfojligaaGreatPart4
import Derived.Shelf.SlIterI.Sorted
import Derived.Shelf.Sort.Plain
import Derived.Shelf.Slices.In.SortNone
import Derived.Test.YtlamdhcfojligaaGreatProg
import Derived.Shelf.SlSortCmp.WholeK
import Derived.Shelf.SlSortCmp.NoneTotal
namespace Aw
open Go
theorem imp_parts {d x : Dc} {o : Pob} (h : impE d x o = 0) : docE d = 0 ∧ docE x = 0 ∧ chk o 1 = 0 ∧ lastN d.items - 1 + ((metO x.items o).length : Int) ≤ 8191:=by
 unfold impE at h
 repeat' split at h
 all_goals first | omega | simp_all
theorem imp_eq {d x : Dc} {o : Pob} (h : impE d x o = 0) : impD d x o = ⟨d.items ++ impL d x o,d.trailer⟩ ∧ impO d x o = o.turn (turnF x.items (metO x.items o) (impT d x o)):=by
 unfold impD impO
 rw [if_neg (by simpa using h),if_neg (by simpa using h)]
 exact ⟨rfl,rfl⟩
theorem impT_len {d x : Dc} {o : Pob} : (impT d x o).length = (metO x.items o).length:=upTo_len _ _
theorem imp_new {d x : Dc} {o : Pob} {k : Nat} (hk : k < (metO x.items o).length) : newN (metO x.items o) (impT d x o) ((metO x.items o).getD k 0) = lastN d.items + (k : Int):=by
 rw [(newN_in impT_len.symm (at_mem hk)).2,nidx_get (metO_nodup _ _) hk]
 exact upTo_get hk
theorem imp_nums {d x : Dc} {o : Pob} (hx : docE x = 0) : (impL d x o).map (·.num) = impT d x o:=by
 unfold impL
 rw [List.map_map]
 refine List.ext_getElem (by rw [List.length_map,impT_len]) fun k h1 h2=>?_
 rw [List.getElem_map]
 have hk : k < (metO x.items o).length:=by simpa using h1
 have e1 : (metO x.items o)[k] = (metO x.items o).getD k 0:=by simp [List.getD,hk]
 obtain ⟨i,hi,e⟩:=metO_in _ (at_mem hk)
 show newN _ _ ((lookI x.items (metO x.items o)[k]).getD Itm.zero).num = _
 rw [e1,(look_some (doc_incr hx)).2 ⟨hi,e⟩]
 show newN _ _ i.num = _
 rw [e,imp_new hk]
 simp [impT,upTo]
def numsI (d : Dc) : List Int:=d.items.map (·.num)
def rotT (d : Dc) (by_ : Nat) : List Int:=(List.range d.items.length).map fun i=>(numsI d).getD ((i + by_) % d.items.length) 0
theorem nums_has {d : Dc} {n : Int} : n ∈ numsI d ↔ hasI d.items n = true:=by
 unfold numsI
 rw [has_mem,List.mem_map]
theorem rot_get {d : Dc} {b k : Nat} (h : k < d.items.length) : (rotT d b).getD k 0 = (numsI d).getD ((k + b) % d.items.length) 0:=by simp [rotT,List.getD,h]
theorem rot_len (d : Dc) (b : Nat) : (rotT d b).length = d.items.length:=by simp [rotT]
theorem nums_len (d : Dc) : (numsI d).length = d.items.length:=by simp [numsI]
theorem rot_nodup {d : Dc} (h : docE d = 0) (b : Nat) : (rotT d b).Nodup:=by
 rw [List.nodup_iff_pairwise_ne,List.pairwise_iff_getElem]
 intro i j hi hj hij e
 rw [rot_len] at hi hj
 have e1 : (rotT d b)[i] = (rotT d b).getD i 0:=by simp [List.getD,show i < (rotT d b).length by rw [rot_len]; exact hi]
 have e2 : (rotT d b)[j] = (rotT d b).getD j 0:=by simp [List.getD,show j < (rotT d b).length by rw [rot_len]; exact hj]
 rw [e1,e2,rot_get hi,rot_get hj] at e
 have hpos : 0 < d.items.length:=by omega
 have h1:=nodup_inj (doc_nums h) (by rw [List.length_map]; exact Nat.mod_lt _ hpos) (by rw [List.length_map]; exact Nat.mod_lt _ hpos) e
 have h3:=Nat.div_add_mod (i + b) d.items.length
 have h4:=Nat.div_add_mod (j + b) d.items.length
 rw [h1] at h3
 have hd : d.items.length * ((j + b) / d.items.length) = d.items.length * ((i + b) / d.items.length) + (j - i):=by omega
 rcases Nat.lt_or_ge ((i + b) / d.items.length) ((j + b) / d.items.length) with hlt | hge
 ·have:=Nat.mul_le_mul_left d.items.length (Nat.succ_le_of_lt hlt)
  rw [Nat.mul_succ] at this
  omega
 ·have:=Nat.mul_le_mul_left d.items.length hge
  omega
theorem rot_mem {d : Dc} {b : Nat} {n : Int} (h : n ∈ rotT d b) : n ∈ numsI d:=by
 unfold rotT at h
 obtain ⟨i,hi,rfl⟩:=List.mem_map.1 h
 rw [List.mem_range] at hi
 exact at_mem (by rw [nums_len]; exact Nat.mod_lt _ (by omega))
theorem rot_map {d : Dc} (h : docE d = 0) (b : Nat) : ShMap d (numsI d) (rotT d b) :=
 ⟨h,by rw [nums_len,rot_len],doc_nums h,rot_nodup h b,fun _ hn=>num_range h (nums_has.1 (rot_mem hn)),fun _ hn=>nums_has.1 hn,fun _ hn _=>rot_mem hn⟩
theorem mapD_ok {d : Dc} {fr to : List Int} (F : ShMap d fr to) : mapD d fr to = mapDc d fr to:=by
 unfold mapD
 rw [if_neg (by simpa using mapE_ok F)]
theorem rot_back {d : Dc} (h : docE d = 0) (b : Nat) : mapE d (numsI d) (rotT d b) = 0 ∧ mapE (mapD d (numsI d) (rotT d b)) (rotT d b) (numsI d) = 0 ∧
  alikeB (mapD d (numsI d) (rotT d b)) d = true ∧ alikeB (mapD (mapD d (numsI d) (rotT d b)) (rotT d b) (numsI d)) d = true ∧ compD (mapD (mapD d (numsI d) (rotT d b)) (rotT d b) (numsI d)) = compD d:=by
 have F:=rot_map h b
 have hall : ∀ n,hasI d.items n = true → n ∈ numsI d:=fun n hn=>nums_has.2 hn
 have B:=back_map F hall
 obtain ⟨G,e⟩:=map_back F hall
 have ec : compD (mapD (mapD d (numsI d) (rotT d b)) (rotT d b) (numsI d)) = compD d:=by rw [mapD_ok F,mapD_ok B,e,comp_same G]
 refine ⟨mapE_ok F,?_,?_,?_,ec⟩
 ·rw [mapD_ok F]; exact mapE_ok B
 ·rw [mapD_ok F]; exact alike_map F
 ·unfold alikeB
  rw [ec,mapD_ok F,mapD_ok B]
  simp [h,map_doc B]
theorem met_reach {d : Dc} (h : docE d = 0) (hs : d.trailer.rr.length + ibulk d.items ≤ 33554432) {n : Int} : n ∈ fromP d d.trailer ↔ n ∈ metO d.items d.trailer:=by
 have hl:=fromP_least h hs
 have hi:=doc_incr h
 obtain ⟨c1,c2⟩:=metO_closed d.items d.trailer
 constructor
 ·refine fun hn=>hl.2 _ ⟨fun r hr i e=>?_,fun i him hm r hr j e=>?_⟩ n hn
  ·obtain ⟨g1,g2⟩:=(lead_look hi).1 e
   have:=c1 r hr (led_some.2 ⟨i,g1,g2⟩)
   rw [((look_some hi).1 g1).2]
   exact this
  ·obtain ⟨g1,g2⟩:=(lead_look hi).1 e
   have:=c2 _ hm i ((look_some hi).2 ⟨him,rfl⟩) r hr (led_some.2 ⟨j,g1,g2⟩)
   rw [((look_some hi).1 g1).2]
   exact this
 ·refine fun hn=>vis_least (S:=fromP d d.trailer) (fun m hm i hl2 r hr hb=>?_) _ _ [] (fun r hr hb=>?_) (fun m hm=>by cases hm) n hn
  ·obtain ⟨j,g1,g2⟩:=led_some.1 hb
   obtain ⟨him,e⟩:=(look_some hi).1 hl2
   have:=hl.1.2 i him (e ▸ hm) r hr j ((lead_look hi).2 ⟨g1,g2⟩)
   rw [((look_some hi).1 g1).2] at this
   exact this
  ·obtain ⟨j,g1,g2⟩:=led_some.1 hb
   have:=hl.1.1 r hr j ((lead_look hi).2 ⟨g1,g2⟩)
   rw [((look_some hi).1 g1).2] at this
   exact this
theorem newN_hit {fr to : List Int} {n : Int} {k : Nat} (hk : k < fr.length) (hs : ∀ j,j < k → fr.getD j 0 ≠ n) (he : fr.getD k 0 = n) : newN fr to n = to.getD k 0 ∧ n ∈ fr:=by
 have hm : n ∈ fr:=he ▸ at_mem hk
 have hi : nidx fr n = k:=by
  have h1:=nidx_hit hk hs he
  unfold nidxI at h1
  split at h1
  ·omega
  ·omega
 exact ⟨by rw [newN,if_pos hm,hi],hm⟩
theorem newN_miss {fr to : List Int} {n : Int} (hs : ∀ j,j < fr.length → fr.getD j 0 ≠ n) : newN fr to n = n ∧ n ∉ fr:=by
 have hm : n ∉ fr:=fun h=>by
  obtain ⟨k,hk,e⟩:=mem_at h
  exact hs k hk e
 exact ⟨newN_out hm,hm⟩
theorem notin_of {l : List Int} {n : Int} (hs : ∀ j,j < l.length → l.getD j 0 ≠ n) : n ∉ l:=(newN_miss (to:=[]) hs).2
def fineL (l : List Int) : Prop:=l.Nodup ∧ ∀ n ∈ l,1 ≤ n ∧ n ≤ 8191
theorem fine_nil : fineL []:=⟨List.nodup_nil,fun n h=>by cases h⟩
theorem fine_take {l : List Int} {k : Nat} (h : k < l.length) : fineL (l.take (k + 1)) ↔ fineL (l.take k) ∧ (1 ≤ l.getD k 0 ∧ l.getD k 0 ≤ 8191) ∧ l.getD k 0 ∉ l.take k:=by
 have e : l.take (k + 1) = l.take k ++ [l.getD k 0]:=by
  rw [List.take_succ_eq_append_getElem h]
  simp [List.getD,h]
 rw [e]
 unfold fineL
 rw [List.nodup_append]
 constructor
 ·rintro ⟨⟨h1,_,h3⟩,h4⟩
  exact ⟨⟨h1,fun n hn=>h4 n (by simp [hn])⟩,h4 _ (by simp),fun hm=>h3 _ hm _ (by simp) rfl⟩
 ·rintro ⟨⟨h1,h2⟩,h3,h4⟩
  refine ⟨⟨h1,by simp,fun a ha b hb e=>?_⟩,fun n hn=>?_⟩
  ·rw [List.mem_singleton.1 hb] at e
   exact h4 (e ▸ ha)
  ·rcases List.mem_append.1 hn with hn | hn
   ·exact h2 n hn
   ·rw [List.mem_singleton.1 hn]; exact h3
theorem bad_take {l : List Int} {k : Nat} (h : ¬ fineL (l.take k)) : badL l:=fun hf=>h ⟨List.Sublist.nodup (List.take_sublist _ _) hf.1,fun n hn=>hf.2 n (List.mem_of_mem_take hn)⟩
theorem good_all {l : List Int} {k : Nat} (hk : l.length ≤ k) (h : fineL (l.take k)) : ¬ badL l:=by
 rw [List.take_of_length_le hk] at h
 exact fun hb=>hb h
def turnK (f : Pob → Pob) (o : Pob) (i : Nat) : List (List UInt8):=if o.kind = 6 then [] else (liveP o.keys ((o.kids.take i).map (Pob.turn f))).map Prod.fst
def turnV (f : Pob → Pob) (o : Pob) (i : Nat) : List Pob:=if o.kind = 6 then (o.kids.take i).map (Pob.turn f) else (liveP o.keys ((o.kids.take i).map (Pob.turn f))).map Prod.snd
variable {f : Pob → Pob} {o : Pob} {i : Nat}
theorem live_snoc {ks : List (List UInt8)} {l : List Pob} {x : Pob} (h : l.length < ks.length) : liveP ks (l ++ [x]) = liveP ks l ++ if x.kind = 0 then [] else [(ks.getD l.length [],x)]:=by
 have e : ks.zip (l ++ [x]) = ks.zip l ++ [(ks.getD l.length [],x)]:=by
  have e1 : ks = ks.take l.length ++ ks.drop l.length:=(List.take_append_drop _ _).symm
  have e2 : ks.drop l.length = ks.getD l.length [] :: ks.drop (l.length + 1):=by
   rw [List.drop_eq_getElem_cons h]
   simp [List.getD,h]
  have hlen : (ks.take l.length).length = l.length:=by simp; omega
  conv=>lhs; rw [e1,List.zip_append hlen,e2]
  conv=>rhs; rw [e1]
  rw [← List.append_nil l,List.zip_append (by simp; omega)]
  simp
 unfold liveP
 rw [e,List.filter_append]
 by_cases hx : x.kind = 0 <;> simp [hx]
theorem take_get {l : List Pob} (h : i < l.length) : l.take (i + 1) = l.take i ++ [l.getD i Pob.null]:=by
 rw [List.take_succ_eq_append_getElem h]
 simp [List.getD,h]
theorem turn_arr_step (h6 : o.kind = 6) (hi : i < o.kids.length) : turnK f o (i + 1) = turnK f o i ∧ turnV f o (i + 1) = turnV f o i ++ [(o.kids.getD i Pob.null).turn f]:=by
 unfold turnK turnV
 rw [if_pos h6,if_pos h6,if_pos h6,if_pos h6,take_get hi,List.map_append]
 exact ⟨rfl,rfl⟩
theorem turn_dict_step (h6 : o.kind ≠ 6) (hi : i < o.kids.length) (hk : i < o.keys.length) :
  turnK f o (i + 1) = turnK f o i ++ (if ((o.kids.getD i Pob.null).turn f).kind = 0 then [] else [o.keys.getD i []]) ∧ turnV f o (i + 1) = turnV f o i ++ (if ((o.kids.getD i Pob.null).turn f).kind = 0 then [] else [(o.kids.getD i Pob.null).turn f]):=by
 unfold turnK turnV
 rw [if_neg h6,if_neg h6,if_neg h6,if_neg h6,take_get hi,List.map_append]
 have hl : ((o.kids.take i).map (Pob.turn f)).length = i:=by simp; omega
 have:=live_snoc (ks:=o.keys) (l:=(o.kids.take i).map (Pob.turn f)) (x:=(o.kids.getD i Pob.null).turn f) (by omega)
 rw [hl] at this
 simp only [List.map_cons,List.map_nil]
 rw [this]
 generalize (o.kids.getD i Pob.null).turn f = v
 by_cases hx : v.kind = 0
 ·rw [if_pos hx,if_pos hx,if_pos hx]
  simp
 ·rw [if_neg hx,if_neg hx,if_neg hx]
  simp
theorem turn_done (h8 : o.kind ≠ 8) (hi : o.kids.length ≤ i) : o.turn f = .mk o.kind o.num o.gen o.str (turnK f o i) (turnV f o i):=by
 unfold turnK turnV
 rw [List.take_of_length_le hi]
 by_cases h6 : o.kind = 6
 ·rw [if_pos h6,if_pos h6,turn_arr h6]
 ·rw [if_neg h6,if_neg h6,turn_other h8 h6]
theorem turn_none : turnK f o 0 = [] ∧ turnV f o 0 = []:=by
 unfold turnK turnV liveP
 by_cases h6 : o.kind = 6 <;> simp [h6]
theorem turnV_len : (turnV f o i).length ≤ i ∧ (turnK f o i).length ≤ i:=by
 have:=live_len o.keys ((o.kids.take i).map (Pob.turn f))
 have hl : ((o.kids.take i).map (Pob.turn f)).length ≤ i:=by simp; omega
 unfold turnK turnV
 by_cases h6 : o.kind = 6
 ·simp [h6]; omega
 ·simp only [h6,if_false,List.length_map]
  rw [List.length_map] at this hl
  omega
theorem getD_kid (h : i < o.kids.length) : o.kids.getD i Pob.null ∈ o.kids:=by
 rw [show o.kids.getD i Pob.null = o.kids[i] from by simp [List.getD,h]]
 exact List.getElem_mem h
theorem keys_enough {d : Int} (hc : chk o d = 0) (h6 : o.kind ≠ 6) (hi : i < o.kids.length) : i < o.keys.length:=by
 cases hk : keyedB o.kind with
 | true=>have:=(kvOk_of_chk hc hk).2; omega
 | false =>
  exfalso
  by_cases h8 : o.kind = 8
  ·rw [chk_ref hc h8] at hi
   simp at hi
  ·have:=turn_plain (f:=fun x=>x) hc h8 h6 hk
   rw [turn_other h8 h6,unkeyed_keys hc hk] at this
   have:=congrArg Pob.kids this
   simp [liveP,Pob.kids] at this
   rw [← Pob.kids.eq_def] at this
   simp_all
end Aw

namespace Go.Proofs
open Go Aw
set_option linter.unusedSimpArgs false
set_option linter.unusedVariables false
set_option maxRecDepth 100000
set_option maxHeartbeats 4000000
attribute [local go_sem] take_strsAV app1_strsAV take_intsAV drop_intsAV app_intsAV app1_intsAV take_itemsAV app_itemsAV app1_itemsAV
theorem c_foliantref30_leads (gl : List (Nat × AV)) (d : Dc) (o : Pob) (h : d.bulk ≤ 16777216:=by first | omega | exact u8_le _ | assumption | (simp; done) | (simp; omega)) : FnP Tryz.prog (gl) 66 [.agg d.cells,.agg o.cells] fun r=>r = .ret (.bool (ledB d.items o)):=by
 refine FnP.intro Tryz.func66 rfl rfl (by simp [Tryz.ntmps66]) ?_
 simp only [argEnv,Tryz.ntmps66,Tryz.results66]
 refine AW.rS ?_
 refine AW.trim [2,3] ?_
 refine AW.rSC ?_
 refine awOps.cons (awGuard.c1 (c_foliantref19_Get _ d o.num h) ?_)
 refine awOps.rn ?_
 refine AW.trim [3,5,6] ?_
 refine AW.rS ?_
 refine AW.trim [4] ?_
 refine AW.rt ?_
 unfold ledB ledI
 cases (lookI d.items o.num).isSome <;> rfl
theorem c_foliantref30_other (gl : List (Nat × AV)) (fr to : List Int) (n : Int) (hl : fr.length = to.length) (h : fr.length ≤ 16777216:=by first | omega | exact u8_le _ | assumption | (simp; done) | (simp; omega)) : FnP Tryz.prog (gl) 39 [.sl (intsAV fr),.sl (intsAV to),.int .i64 n] fun r=>r = .ret (.tup [.int .i64 (newN fr to n),.bool (decide (n ∈ fr))]):=by
 refine FnP.intro Tryz.func39 rfl rfl (by simp [Tryz.ntmps39]) ?_
 simp only [argEnv,Tryz.ntmps39,Tryz.results39]
 refine AW.rS ?_
 refine AW.trim [0,1,2] ?_
 refine AW.seq ?_
 refine AW.rS ?_
 refine AW.trim [0,1,2,8] ?_
 refine AW.block ?_
 refine AW.lk (S:={ k : Nat // k ≤ fr.length ∧ ∀ j,j < k → fr.getD j 0 ≠ n }) [0,1,2] (fun s_=>[(8,.int .i64 (s_.1 : Int))]) (fun s_=>[]) 0 (fun s_=>fr.length - s_.1) ⟨0,Nat.zero_le _,fun j h=>absurd h (Nat.not_lt_zero j)⟩ ?_ ?_
 ·refine St.le.vw []
 rintro ⟨k,hk,hs⟩
 try dsimp only at hk
 try dsimp only at hs
 refine AW.seq ?_
 refine AW.rS ?_
 refine AW.trim [0,1,2,8,12] ?_
 refine AW.c2 ?_ ?_
 ·intro h8
  have hk2 : k < fr.length:=by omega
  refine AW.skip ?_
  refine AW.seq ?_
  refine AW.block ?_
  refine AW.rS ?_
  refine AW.trim [0,1,2,8,20] ?_
  refine AW.c2 ?_ ?_
  ·intro h13
   refine AW.rS ?_
   refine AW.trim [6,7] ?_
   refine AW.rt ?_
   have hh:=newN_hit (to:=to) hk2 hs (by simpa using h13)
   rw [hh.1,decide_eq_true hh.2]
  ·intro h13
   refine AW.skip ?_
   refine AW.rL ?_
   refine ⟨⟨k + 1,by omega,fun j hj=>(Nat.lt_or_ge j k).elim (hs j) (fun hge=>by rw [show j = k by omega]; simpa using h13)⟩,?_,?_⟩
   ·refine St.le.vw []
   ·simp only []; omega
 ·intro h8
  refine AW.exit ?_
  refine AW.rS ?_
  refine AW.trim [6,7] ?_
  refine AW.rt ?_
  have hh:=newN_miss (to:=to) (fr:=fr) (n:=n) (fun j hj=>hs j (by omega))
  rw [hh.1,decide_eq_false hh.2]
theorem c_foliantref30_in (gl : List (Nat × AV)) (l : List Int) (n : Int) (h : l.length ≤ 16777216:=by first | omega | exact u8_le _ | assumption | (simp; done) | (simp; omega)) : FnP Tryz.prog (gl) 37 [.sl (intsAV l),.int .i64 n] fun r=>r = .ret (.bool (decide (n ∈ l))):=by
 refine FnP.intro Tryz.func37 rfl rfl (by simp [Tryz.ntmps37]) ?_
 simp only [argEnv,Tryz.ntmps37,Tryz.results37]
 refine AW.rS ?_
 refine AW.trim [0,1] ?_
 refine AW.seq ?_
 refine AW.rS ?_
 refine AW.trim [0,1,5] ?_
 refine AW.block ?_
 refine AW.lk (S:={ k : Nat // k ≤ l.length ∧ ∀ j,j < k → l.getD j 0 ≠ n }) [0,1] (fun s_=>[(5,.int .i64 (s_.1 : Int))]) (fun s_=>[]) 0 (fun s_=>l.length - s_.1) ⟨0,Nat.zero_le _,fun j h=>absurd h (Nat.not_lt_zero j)⟩ ?_ ?_
 ·refine St.le.vw []
 rintro ⟨k,hk,hs⟩
 try dsimp only at hk
 try dsimp only at hs
 refine AW.seq ?_
 refine AW.rS ?_
 refine AW.trim [0,1,5,9] ?_
 refine AW.c2 ?_ ?_
 ·intro h8
  have hk2 : k < l.length:=by omega
  refine AW.skip ?_
  refine AW.seq ?_
  refine AW.block ?_
  refine AW.rS ?_
  refine AW.trim [0,1,5,17] ?_
  refine AW.c2 ?_ ?_
  ·intro h13
   refine AW.rS ?_
   refine AW.trim [4] ?_
   refine AW.rt ?_
   have hh:=newN_hit (to:=[]) hk2 hs (by simpa using h13)
   rw [decide_eq_true hh.2]
  ·intro h13
   refine AW.skip ?_
   refine AW.rL ?_
   refine ⟨⟨k + 1,by omega,fun j hj=>(Nat.lt_or_ge j k).elim (hs j) (fun hge=>by rw [show j = k by omega]; simpa using h13)⟩,?_,?_⟩
   ·refine St.le.vw []
   ·simp only []; omega
 ·intro h8
  refine AW.exit ?_
  refine AW.rS ?_
  refine AW.trim [4] ?_
  refine AW.rt ?_
  rw [decide_eq_false (notin_of fun j hj=>hs j (by omega))]
theorem c_foliantref05_Ref (gl : List (Nat × AV)) (n g : Int) : FnP Tryz.prog (gl) 67 [.int .i64 n,.int .i64 g] fun r=>r = .ret (.agg (refO n g).cells):=by
 refine FnP.intro Tryz.func67 rfl rfl (by simp [Tryz.ntmps67]) ?_
 simp only [argEnv,Tryz.ntmps67,Tryz.results67]
 refine AW.rS ?_
 refine AW.rS ?_
 refine AW.rt ?_
 all_goals first | contradiction | rfl | (simp; done) | (simp; omega)
theorem turned_leaf {d : Dc} {o : Pob} {fr to : List Int} (h8 : o.kind = 8) : o.turn (turnF d.items fr to) = turnF d.items fr to o:=turn_ref h8
theorem turned_step (gl : List (Nat × AV)) (N : Nat) (hN : N ≤ 16777216) (d : Dc) (h : d.bulk ≤ 16777216) (fr to : List Int) (hl : fr.length = to.length) (hf : fr.length ≤ 16777216) (ih : ∀ (o' : Pob) (dd : Int),o'.bulk < N → chk o' dd = 0 → FnP Tryz.prog gl 38 [.agg d.cells,.agg o'.cells,.sl (intsAV fr),.sl (intsAV to)] fun r=>r = .ret (.agg (o'.turn (turnF d.items fr to)).cells)) (o : Pob) (dd : Int) (hb : o.bulk ≤ N) (hc : chk o dd = 0) : FnP Tryz.prog (gl) 38 [.agg d.cells,.agg o.cells,.sl (intsAV fr),.sl (intsAV to)] fun r=>r = .ret (.agg (o.turn (turnF d.items fr to)).cells):=by
 refine FnP.intro Tryz.func38 rfl rfl (by simp [Tryz.ntmps38]) ?_
 simp only [argEnv,Tryz.ntmps38,Tryz.results38]
 have hkl : o.kids.length ≤ o.bulk:=by have:=Pob.bulk_eq o; omega
 refine AW.rS ?_
 refine AW.trim [2,3,4,5,8] ?_
 refine AW.seq ?_
 refine AW.rS ?_
 refine AW.trim [2,3,4,5,8,16] ?_
 refine AW.c2 ?_ ?_
 ·intro h4
  have h8 : o.kind = 8:=by simpa using h4
  refine AW.seq ?_
  refine AW.rSC ?_
  refine awOps.cons (awGuard.c1 (c_foliantref30_leads _ d o h) ?_)
  refine awOps.rn ?_
  refine AW.trim [2,3,5,8,20] ?_
  refine AW.c2 ?_ ?_
  ·intro h9
   refine AW.rS ?_
   refine AW.trim [8] ?_
   refine AW.rt ?_
   rw [turned_leaf h8,turnF,if_neg (by simpa using h9)]
   rfl
  ·intro h9
   refine AW.skip ?_
   refine AW.rSC ?_
   refine awOps.cons (awGuard.c1 (c_foliantref30_other _ fr to o.num hl hf) ?_)
   refine awOps.rn ?_
   refine AW.trim [5,8,9,10] ?_
   refine AW.seq ?_
   refine AW.rS ?_
   refine AW.trim [5,8,9,31] ?_
   refine AW.c2 ?_ ?_
   ·intro h19
    have hlt : ledB d.items o = true:=by simpa using h9
    have hnf : o.num ∉ fr:=by simpa using h19
    refine AW.rS ?_
    refine AW.trim [8] ?_
    refine AW.rt ?_
    rw [turned_leaf h8,turnF,if_pos hlt,newN_out hnf,newG,if_neg hnf,← (led_mem hlt).2.2,(led_mem hlt).2.2,← (ref_parts hc h8).2.2.2]
   ·intro h19
    have hlt : ledB d.items o = true:=by simpa using h9
    have hnf : o.num ∈ fr:=by simpa using h19
    refine AW.skip ?_
    refine AW.rSC ?_
    refine awOps.cons (awGuard.c1 (c_foliantref05_Ref _ (newN fr to o.num) 0) ?_)
    refine awOps.rn ?_
    refine AW.trim [8] ?_
    refine AW.rt ?_
    rw [turned_leaf h8,turnF,if_pos hlt,newG,if_pos hnf]
 ·intro h4
  have h8 : o.kind ≠ 8:=by simpa using h4
  refine AW.skip ?_
  refine AW.rS ?_
  refine AW.trim [2,3,4,5,8,11] ?_
  refine AW.seq ?_
  refine AW.rS ?_
  refine AW.trim [2,3,4,5,8,11,12] ?_
  refine AW.pre (St.le.nilcell 3 4 1 rfl rfl) ?_
  refine AW.pre (St.le.nilcell 3 5 6 rfl rfl) ?_
  refine AW.block ?_
  refine AW.lk (S:={ i : Nat // i ≤ o.kids.length }) [2,3,4,5,8,11] (fun s_=>[(12,.int .i64 (s_.1 : Int))]) (fun s_=>[(0,.cells [.sl (itemsAV d.items),.int .i64 d.trailer.kind,.int .i64 d.trailer.num,.int .i64 d.trailer.gen,.str d.trailer.str,.sl (strsAV d.trailer.keys),.sl (objsAV d.trailer.kids)]),(1,.cells [.int .i64 (o).kind,.int .i64 (o).num,.int .i64 (o).gen,.str (o).str,.sl (strsAV (o).keys),.sl (objsAV (o).kids)]),(2,.cells [.int .i64 0,.int .i64 0,.int .i64 0,.str [],.raw (.slice none 0 0),.raw (.slice none 0 0)]),(3,.cells [.int .i64 o.kind,.int .i64 o.num,.int .i64 o.gen,.str o.str,.row 4 0 (turnK (turnF d.items fr to) o s_.1).length,.row 5 0 (turnV (turnF d.items fr to) o s_.1).length]),(4,.row 1 (strsAV (turnK (turnF d.items fr to) o s_.1)) true),(5,.row 6 (objsAV (turnV (turnF d.items fr to) o s_.1)) true)]) 6 (fun s_=>o.kids.length - s_.1) ⟨0,Nat.zero_le _⟩ ?_ ?_
  ·refine St.le.vx [0,1,2,3,4,5] ?_
   rw [turn_none.1,turn_none.2] <;> exact ⟨rfl,rfl,rfl⟩
  rintro ⟨i,hi⟩
  try dsimp only at hi
  refine AW.seq ?_
  refine AW.rS ?_
  refine AW.trim [2,3,4,5,8,11,12,48] ?_
  refine AW.c2 ?_ ?_
  ·intro h37
   have hi2 : i < o.kids.length:=by omega
   have hkb:=Pob.bulk_kid hi2
   have hck:=(chk_iff.1 hc).2 _ (getD_kid hi2)
   have htl:=turnV_len (f:=turnF d.items fr to) (o:=o) (i:=i)
   refine AW.skip ?_
   refine AW.seq ?_
   refine AW.block ?_
   refine AW.tG (σf:=?sf41) (.take 1 0 (.take 3 0 (.take 6 0 (.take 7 0 (.take 0 2 (.take 2 2 (.fork 4 (.take 5 2 (.fork 8 (.fork 9 (.fork 10 .done .stop) .stop) (.fork 9 (.fork 8 (.fork 10 .done .stop) .stop) .stop))) (.fork 9 (.fork 4 (.take 5 2 (.fork 8 (.fork 10 .done .stop) .stop)) .stop) .stop)))))))) ?tree41 ?rest41
   case tree41 =>
    repeat' (first | exact True.intro | refine awTree.tk ?_ | refine awTree.fC (ih (o.kids.getD i Pob.null) (dd + 1) (by omega) hck) ?_ ?_ | refine awTree.fA ?_ ?_ | refine awTree.fB ?_ ?_ | refine awTree.fK ?_ ?_ | exact awTree.dn)
   case rest41 =>
   refine AW.trim [2,3,4,5,8,11,12,13] ?_
   refine AW.rS ?_
   refine AW.trim [2,3,4,5,8,11,12,13,62] ?_
   refine AW.c2 ?_ ?_
   ·intro h43
    have h6 : o.kind = 6:=by simpa using h43
    obtain ⟨s1,s2⟩:=turn_arr_step (f:=turnF d.items fr to) h6 hi2
    refine AW.rL ?_
    refine AW.rL ?_
    refine ⟨⟨i + 1,by omega⟩,?_,?_⟩
    ·refine St.le.vx [0,1,2,3,4,8] ?_
     rw [s1,s2]; exact ⟨by simp,by first | rfl | simp [strsAV],by first | rfl | rw [← app1_objsAV]⟩
    ·simp only []; omega
   ·intro h43
    have h6 : o.kind ≠ 6:=by simpa using h43
    have hkey:=keys_enough hc h6 hi2
    obtain ⟨s1,s2⟩:=turn_dict_step (f:=turnF d.items fr to) h6 hi2 hkey
    refine AW.rS ?_
    refine AW.trim [2,3,4,5,8,11,12,13,71] ?_
    refine AW.c2 ?_ ?_
    ·intro h48
     rw [if_neg (by simpa using h48)] at s1 s2
     refine AW.tG (σf:=?sf49) (.take 0 0 (.take 2 0 (.take 4 0 (.take 3 2 (.fork 1 (.fork 5 (.take 6 2 (.fork 7 (.fork 8 (.take 9 0 (.fork 10 .done .stop)) .stop) .stop)) .stop) (.fork 5 (.take 6 2 (.fork 1 (.fork 7 (.fork 8 (.take 9 0 (.fork 10 .done .stop)) .stop) .stop) (.fork 7 (.take 1 2 (.fork 8 (.take 9 0 (.fork 10 .done .stop)) .stop)) .stop))) .stop)))))) ?tree49 ?rest49
     case tree49 =>
      repeat' (first | exact True.intro | refine awTree.tk ?_ | refine awTree.fA ?_ ?_ | refine awTree.fB ?_ ?_ | refine awTree.fK ?_ ?_ | exact awTree.dn)
     case rest49 =>
     refine AW.trim [2,3,4,5,8,11,12,13] ?_
     refine AW.rL ?_
     refine AW.rL ?_
     refine ⟨⟨i + 1,by omega⟩,?_,?_⟩
     ·refine St.le.vx [0,1,2,3,8,10] ?_
      rw [s1,s2]; exact ⟨by simp,by first | rfl | simp [strsAV],by first | rfl | rw [← app1_objsAV]⟩
     ·simp only []; omega
    ·intro h48
     rw [if_pos (by simpa using h48),List.append_nil] at s1 s2
     refine AW.skip ?_
     refine AW.rL ?_
     refine ⟨⟨i + 1,by omega⟩,?_,?_⟩
     ·refine St.le.vx [0,1,2,3,4,5] ?_
      rw [s1,s2] <;> exact ⟨rfl,rfl,rfl⟩
     ·simp only []; omega
  ·intro h37
   refine AW.exit ?_
   refine AW.rS ?_
   refine AW.trim [8] ?_
   refine AW.rt ?_
   rw [turn_done (i:=i) h8 (by omega)]
   rfl
theorem turned_all (gl : List (Nat × AV)) (d : Dc) (h : d.bulk ≤ 16777216) (fr to : List Int) (hl : fr.length = to.length) (hf : fr.length ≤ 16777216) (N : Nat) : N ≤ 16777216 → ∀ (o : Pob) (dd : Int),o.bulk ≤ N → chk o dd = 0 → FnP Tryz.prog gl 38 [.agg d.cells,.agg o.cells,.sl (intsAV fr),.sl (intsAV to)] fun r=>r = .ret (.agg (o.turn (turnF d.items fr to)).cells):=by
 induction N using Nat.strongRecOn with
 | ind N IH=>exact fun hN o dd ho hc=>turned_step gl N hN d h fr to hl hf (fun o' dd' h' hc'=>IH o'.bulk h' (by omega) o' dd' (Nat.le_refl _) hc') o dd ho hc
theorem c_foliantref30_turned (gl : List (Nat × AV)) (d : Dc) (o : Pob) (fr to : List Int) (dd : Int) (h : d.bulk ≤ 16777216) (hl : fr.length = to.length) (hf : fr.length ≤ 16777216) (ho : o.bulk ≤ 16777216) (hc : chk o dd = 0) : FnP Tryz.prog gl 38 [.agg d.cells,.agg o.cells,.sl (intsAV fr),.sl (intsAV to)] fun r=>r = .ret (.agg (o.turn (turnF d.items fr to)).cells) :=
 turned_all gl d h fr to hl hf 16777216 (Nat.le_refl _) o dd ho hc
end Go.Proofs

namespace Aw
open Go
def metF (l : List Itm) (rs : List Pob) (s : List Int) : List Int:=visR l (l.length + 1) rs s
theorem metF_append (l : List Itm) (a b : List Pob) (s : List Int) : metF l (a ++ b) s = metF l b (metF l a s):=by
 unfold metF
 rw [visR_succ,visR_succ,visR_succ,List.foldl_append]
theorem metF_nil (l : List Itm) (s : List Int) : metF l [] s = s:=rfl
theorem metF_no {l : List Itm} {o : Pob} {s : List Int} (h : ¬ (ledB l o = true ∧ o.num ∉ s)) : metF l [o] s = s:=by
 unfold metF
 rw [visR_succ,List.foldl_cons,List.foldl_nil,visS,if_neg h]
theorem metF_yes {l : List Itm} {o : Pob} {s : List Int} (h : ledB l o = true ∧ o.num ∉ s) : metF l [o] s = metF l (ledI l o).obj.rr (s ++ [o.num]) ∧ unmet l (s ++ [o.num]) < unmet l s:=by
 have hlt : unmet l (s ++ [o.num]) < unmet l s:=unmet_lt ⟨_,(led_mem h.1).1,(led_mem h.1).2.1⟩ h.2
 refine ⟨?_,hlt⟩
 unfold metF
 rw [visR_succ,List.foldl_cons,List.foldl_nil,visS,if_pos h]
 have:=unmet_le l s
 exact vis_fuel _ _ _ _ (by omega) (by omega)
theorem metF_kid {l : List Itm} {ks : List Pob} {i : Nat} (h : i < ks.length) (s : List Int) : metF l (rrs (ks.take (i + 1))) s = metF l (ks.getD i Pob.null).rr (metF l (rrs (ks.take i)) s):=by
 rw [rrs_take h,metF_append]
theorem metF_kids {l : List Itm} {o : Pob} (h8 : o.kind ≠ 8) {i : Nat} (h : o.kids.length ≤ i) (s : List Int) : metF l (rrs (o.kids.take i)) s = metF l o.rr s:=by
 rw [List.take_of_length_le h,rr_eq o,if_neg h8]
theorem metF_ref {l : List Itm} {o : Pob} (h8 : o.kind = 8) (s : List Int) : metF l o.rr s = metF l [o] s:=by rw [rr_eq o,if_pos h8]
theorem metF_sub {l : List Itm} {rs : List Pob} {s : List Int} {n : Int} (h : n ∈ s) : n ∈ metF l rs s:=vis_sub h
theorem metF_unmet (l : List Itm) (rs : List Pob) (s : List Int) : unmet l (metF l rs s) ≤ unmet l s:=unmet_mono fun _ h=>metF_sub h
theorem metF_nodup {l : List Itm} {rs : List Pob} {s : List Int} (h : s.Nodup) : (metF l rs s).Nodup:=vis_nodup _ _ _ _ h
theorem metO_metF (l : List Itm) (o : Pob) : metO l o = metF l o.rr []:=rfl
def fitsM (l : List Itm) (s : List Int) : Prop:=s.Nodup ∧ ∀ n ∈ s,∃ i ∈ l,i.num = n
theorem fitsM_nil (l : List Itm) : fitsM l []:=⟨List.nodup_nil,fun n h=>by cases h⟩
theorem fitsM_met {l : List Itm} {rs : List Pob} {s : List Int} (h : fitsM l s) : fitsM l (metF l rs s):=⟨metF_nodup h.1,vis_in _ _ _ _ h.2⟩
theorem fitsM_add {l : List Itm} {o : Pob} {s : List Int} (h : fitsM l s) (ho : ledB l o = true ∧ o.num ∉ s) : fitsM l (s ++ [o.num]):=by
 refine ⟨?_,fun n hn=>?_⟩
 ·rw [List.nodup_append]
  refine ⟨h.1,by simp,fun a ha b hb e=>?_⟩
  rw [List.mem_singleton.1 hb] at e
  exact ho.2 (e ▸ ha)
 ·rcases List.mem_append.1 hn with hn | hn
  ·exact h.2 n hn
  ·rw [List.mem_singleton.1 hn]
   exact ⟨_,(led_mem ho.1).1,(led_mem ho.1).2.1⟩
theorem fitsM_len {l : List Itm} {s : List Int} (h : fitsM l s) : s.length ≤ l.length:=by
 have:=nodup_le (b:=l.map (·.num)) h.1 fun n hn=>by
  obtain ⟨i,hi,rfl⟩:=h.2 n hn
  exact List.mem_map_of_mem hi
 rwa [List.length_map] at this
def foundI (M : List (Int × Itm)) (n : Int) : Itm:=(mfind M n).getD Itm.zero
def turnM (l : List Itm) (M : List (Int × Itm)) (r : Pob) : Pob:=if ledB l r = true then refO (foundI M r.num).num (foundI M r.num).gen else Pob.null
theorem turnM_eq {l : List Itm} {M : List (Int × Itm)} {fr to : List Int} {o : Pob} (h : ∀ r ∈ o.rr,ledB l r = true → (foundI M r.num).num = newN fr to r.num ∧ (foundI M r.num).gen = newG fr r.num r.gen) : o.turn (turnM l M) = o.turn (turnF l fr to):=by
 refine turn_congr (o.bulk + 1) o (Nat.lt_succ_self _) fun r hr=>?_
 unfold turnM turnF
 cases hb : ledB l r with
 | true=>rw [if_pos rfl,if_pos rfl,(h r hr hb).1,(h r hr hb).2]
 | false=>rfl
theorem ibulk_in {l : List Itm} {i : Itm} (h : i ∈ l) : i.obj.bulk + 1 ≤ ibulk l:=by
 obtain ⟨k,hk,rfl⟩:=List.getElem_of_mem h
 have:=ibulk_get hk
 simpa [List.getD,hk] using this
theorem mfind_set {κ ν : Type} [DecidableEq κ] (l : List (κ × ν)) (k j : κ) (v : ν) : mfind (mset l k v) j = if k = j then some v else mfind l j:=by
 induction l with
 | nil=>simp only [mset,mfind]
 | cons p l ih =>
  simp only [mset]
  by_cases h : p.1 = k
  ·rw [if_pos h]
   simp only [mfind]
   by_cases hk : k = j
   ·rw [if_pos hk,if_pos hk]
   ·rw [if_neg hk,if_neg hk,if_neg (by rw [h]; exact hk)]
  ·rw [if_neg h]
   simp only [mfind,ih]
   by_cases hk : k = j
   ·subst hk
    rw [if_neg h,if_pos rfl,if_pos rfl]
   ·rw [if_neg hk,if_neg hk]
def mapA (l : List Itm) : List (Int × Itm):=l.foldl (fun M i=>mset M i.num ⟨i.num,i.gen,Pob.null⟩) []
def mapB (M : List (Int × Itm)) (fr to : List Int) (k : Nat) : List (Int × Itm):=(List.range k).foldl (fun M j=>mset M (fr.getD j 0) ⟨to.getD j 0,0,Pob.null⟩) M
theorem mapA_take {l : List Itm} {i : Nat} (h : i < l.length) : mapA (l.take (i + 1)) = mset (mapA (l.take i)) (l.getD i Itm.zero).num ⟨(l.getD i Itm.zero).num,(l.getD i Itm.zero).gen,Pob.null⟩:=by
 unfold mapA
 rw [List.take_succ_eq_append_getElem h,List.foldl_append]
 simp [List.getD,h]
theorem mapB_succ (M : List (Int × Itm)) (fr to : List Int) (k : Nat) : mapB M fr to (k + 1) = mset (mapB M fr to k) (fr.getD k 0) ⟨to.getD k 0,0,Pob.null⟩:=by
 unfold mapB
 rw [List.range_succ,List.foldl_append]
 rfl
theorem foldA_miss : ∀ (l : List Itm) (M : List (Int × Itm)) (n : Int),(∀ i ∈ l,i.num ≠ n) → mfind (l.foldl (fun M i=>mset M i.num ⟨i.num,i.gen,Pob.null⟩) M) n = mfind M n
 | [],_,_,_=>rfl
 | x :: l,M,n,h=>by
  rw [List.foldl_cons,foldA_miss l _ n fun i hi=>h i (List.mem_cons_of_mem _ hi),mfind_set,if_neg (h x List.mem_cons_self)]
theorem foldA_hit : ∀ (l : List Itm) (M : List (Int × Itm)) (i : Itm),(l.map (·.num)).Nodup → i ∈ l → mfind (l.foldl (fun M i=>mset M i.num ⟨i.num,i.gen,Pob.null⟩) M) i.num = some ⟨i.num,i.gen,Pob.null⟩
 | [],_,_,_,h=>by cases h
 | x :: l,M,i,hn,h=>by
  rw [List.map_cons,List.nodup_cons] at hn
  rw [List.foldl_cons]
  rcases List.mem_cons.1 h with rfl | h
  ·rw [foldA_miss l _ _ fun j hj e=>hn.1 (by rw [← e]; exact List.mem_map_of_mem hj),mfind_set,if_pos rfl]
  ·exact foldA_hit l _ i hn.2 h
theorem mapA_has {l : List Itm} (hn : (l.map (·.num)).Nodup) {n : Int} : (mfind (mapA l) n).isSome = hasI l n:=by
 cases hh : hasI l n with
 | true =>
  obtain ⟨i,hi,rfl⟩:=has_mem.1 hh
  unfold mapA
  rw [foldA_hit l _ i hn hi]
  rfl
 | false =>
  unfold mapA
  rw [foldA_miss l _ n fun i hi e=>by rw [has_mem.2 ⟨i,hi,e⟩] at hh; cases hh]
  rfl
theorem mapB_some {M : List (Int × Itm)} {fr to : List Int} {n : Int} : ∀ k,k ≤ fr.length → (∀ j,j < k → (mfind M (fr.getD j 0)).isSome = true) → (mfind (mapB M fr to k) n).isSome = (mfind M n).isSome
 | 0,_,_=>rfl
 | k + 1,hk,h=>by
  rw [mapB_succ,mfind_set]
  by_cases e : fr.getD k 0 = n
  ·rw [if_pos e,← e,h k (Nat.lt_succ_self k)]
   rfl
  ·rw [if_neg e]
   exact mapB_some k (by omega) fun j hj=>h j (by omega)
theorem mapB_out {M : List (Int × Itm)} {fr to : List Int} {n : Int} : ∀ k,k ≤ fr.length → n ∉ fr → mfind (mapB M fr to k) n = mfind M n
 | 0,_,_=>rfl
 | k + 1,hk,h=>by
  rw [mapB_succ,mfind_set,if_neg (fun e : fr.getD k 0 = n=>h (e ▸ at_mem (by omega)))]
  exact mapB_out k (by omega) h
theorem mapB_in {M : List (Int × Itm)} {fr to : List Int} (hn : fr.Nodup) {q : Nat} : ∀ k,k ≤ fr.length → q < k → mfind (mapB M fr to k) (fr.getD q 0) = some ⟨to.getD q 0,0,Pob.null⟩
 | 0,_,h=>by omega
 | k + 1,hk,h=>by
  rw [mapB_succ,mfind_set]
  by_cases e : q = k
  ·rw [e,if_pos rfl]
  ·rw [if_neg (fun e2=>e (nodup_inj hn (by omega) (by omega) e2.symm)),mapB_in hn k (by omega) (by omega)]
theorem found_map {d : Dc} {fr to : List Int} (hd : docE d = 0) (hf : fr.Nodup) {i : Itm} (hi : i ∈ d.items) : foundI (mapB (mapA d.items) fr to fr.length) i.num = ⟨newN fr to i.num,newG fr i.num i.gen,Pob.null⟩:=by
 unfold foundI
 by_cases h : i.num ∈ fr
 ·obtain ⟨hk,e⟩:=nidx_at h
  have:=mapB_in (M:=mapA d.items) (to:=to) hf fr.length (Nat.le_refl _) hk
  rw [e] at this
  rw [this,newN,newG,if_pos h,if_pos h]
  rfl
 ·rw [mapB_out fr.length (Nat.le_refl _) h,newN,newG,if_neg h,if_neg h]
  unfold mapA
  rw [foldA_hit _ _ i (doc_nums hd) hi]
  rfl
theorem found_range {d : Dc} {fr to : List Int} (hd : docE d = 0) (ht : ∀ n ∈ to,1 ≤ n ∧ n ≤ 8191) (hl : fr.length = to.length) (n : Int) : ∀ k,k ≤ fr.length → 0 ≤ (foundI (mapB (mapA d.items) fr to k) n).num ∧ (foundI (mapB (mapA d.items) fr to k) n).num ≤ 16777216
 | 0,_=>by
  show 0 ≤ (foundI (mapA d.items) n).num ∧ (foundI (mapA d.items) n).num ≤ 16777216
  unfold foundI
  cases hh : hasI d.items n with
  | true =>
   obtain ⟨i,hi,rfl⟩:=has_mem.1 hh
   have:=num_range hd hh
   unfold mapA
   rw [foldA_hit _ _ i (doc_nums hd) hi]
   show 0 ≤ i.num ∧ i.num ≤ _
   omega
  | false =>
   unfold mapA
   rw [foldA_miss _ _ n fun i hi e=>by rw [has_mem.2 ⟨i,hi,e⟩] at hh; cases hh]
   simp [mfind,Itm.zero]
 | k + 1,hk=>by
  unfold foundI
  rw [mapB_succ,mfind_set]
  by_cases e : fr.getD k 0 = n
  ·rw [if_pos e]
   have:=ht _ (at_mem (l:=to) (k:=k) (by omega))
   show 0 ≤ to.getD k 0 ∧ to.getD k 0 ≤ 16777216
   omega
  ·rw [if_neg e]
   exact found_range hd ht hl n k (by omega)
def turnMI (l : List Itm) (M : List (Int × Itm)) (n : Int) : Itm:=⟨(foundI M n).num,(foundI M n).gen,((lookI l n).getD Itm.zero).obj.turn (turnM l M)⟩
theorem map_turn {d : Dc} {fr to : List Int} (F : ShMap d fr to) (o : Pob) : o.turn (turnM d.items (mapB (mapA d.items) fr to fr.length)) = o.turn (turnF d.items fr to):=by
 refine turnM_eq fun r _ hb=>?_
 have hl:=led_mem hb
 have:=found_map F.ok F.fr1 (to:=to) hl.1
 rw [hl.2.1] at this
 rw [this,hl.2.2]
 exact ⟨rfl,rfl⟩
theorem map_items2 {d : Dc} {fr to : List Int} (F : ShMap d fr to) : (numsI d).map (turnMI d.items (mapB (mapA d.items) fr to fr.length)) = d.items.map (turnI d.items fr to):=by
 unfold numsI
 rw [List.map_map]
 refine List.map_congr_left fun i hi=>?_
 have hf:=found_map F.ok F.fr1 (to:=to) hi
 show turnMI d.items _ i.num = _
 unfold turnMI turnI
 rw [hf,(look_some (doc_incr F.ok)).2 ⟨hi,rfl⟩]
 simp only [Option.getD_some]
 rw [map_turn F]
theorem map_nodup {d : Dc} {fr to : List Int} (F : ShMap d fr to) : ((numsI d).map fun n=>(foundI (mapB (mapA d.items) fr to fr.length) n).num).Nodup:=by
 have h:=new_nodup F
 rw [← map_items2 F,List.map_map] at h
 exact h
theorem map_end {d : Dc} {fr to : List Int} (F : ShMap d fr to) : mapE d fr to = 0 ∧ (mapD d fr to).items = sortN ((numsI d).map (turnMI d.items (mapB (mapA d.items) fr to fr.length))) ∧ (mapD d fr to).trailer = d.trailer.turn (turnM d.items (mapB (mapA d.items) fr to fr.length)):=by
 rw [mapD_ok F,map_items2 F,map_turn F]
 exact ⟨mapE_ok F,rfl,rfl⟩
theorem mapD_bad {d : Dc} {fr to : List Int} (h : mapE d fr to ≠ 0) : mapD d fr to = Dc.zero:=if_pos h
def compL (d : Dc) (k : Nat) : List Int:=metO d.items d.trailer ++ restL (d.items.take k) (metO d.items d.trailer)
theorem compL_zero (d : Dc) : compL d 0 = metO d.items d.trailer:=by simp [compL,restL]
theorem compL_all {d : Dc} {k : Nat} (h : d.items.length ≤ k) : compL d k = compF d:=by
 unfold compL compF
 rw [List.take_of_length_le h]
theorem compL_succ {d : Dc} (hd : docE d = 0) {k : Nat} (h : k < d.items.length) :
  compL d (k + 1) = if (d.items.getD k Itm.zero).num ∈ compL d k then compL d k else compL d k ++ [(d.items.getD k Itm.zero).num]:=by
 have hn:=doc_nums hd
 have hk : (d.items.getD k Itm.zero) = d.items[k]:=by simp [List.getD,h]
 have ht : d.items.take (k + 1) = d.items.take k ++ [d.items[k]]:=List.take_succ_eq_append_getElem h
 have hnot : d.items[k].num ∉ (d.items.take k).map (·.num):=by
  have h2 : ((d.items.take (k + 1)).map (·.num)).Nodup:=List.Sublist.nodup ((List.take_sublist _ _).map _) hn
  rw [ht,List.map_append,List.nodup_append] at h2
  exact fun hm=>h2.2.2 _ hm _ (by simp) rfl
 have hr : restL (d.items.take (k + 1)) (metO d.items d.trailer) = restL (d.items.take k) (metO d.items d.trailer) ++ if d.items[k].num ∈ metO d.items d.trailer then [] else [d.items[k].num]:=by
  unfold restL
  rw [ht,List.map_append,List.filter_append]
  congr 1
  by_cases hm : d.items[k].num ∈ metO d.items d.trailer <;> simp [hm]
 rw [hk]
 have hiff : d.items[k].num ∈ compL d k ↔ d.items[k].num ∈ metO d.items d.trailer:=by
  unfold compL
  rw [List.mem_append]
  exact ⟨fun hx=>hx.elim id fun hx=>absurd (List.mem_filter.1 hx).1 hnot,.inl⟩
 unfold compL at hiff ⊢
 rw [hr]
 by_cases hm : d.items[k].num ∈ metO d.items d.trailer
 ·rw [if_pos hm,if_pos (hiff.2 hm),List.append_nil]
 ·rw [if_neg hm,if_neg (fun hx=>hm (hiff.1 hx)),List.append_assoc]
theorem compL_len {d : Dc} (hd : docE d = 0) (k : Nat) : (compL d k).length ≤ d.items.length:=by
 rw [← compF_len hd]
 unfold compL compF restL
 rw [List.length_append,List.length_append]
 have : (List.filter (fun n=>!decide (n ∈ metO d.items d.trailer)) ((d.items.take k).map (·.num))).length ≤ (List.filter (fun n=>!decide (n ∈ metO d.items d.trailer)) (d.items.map (·.num))).length:=(((List.take_sublist _ _).map _).filter _).length_le
 omega
theorem upTo_succ (a : Int) (n : Nat) : upTo a (n + 1) = upTo a n ++ [a + (n : Int)]:=by
 unfold upTo
 rw [List.range_succ,List.map_append]
 rfl
variable {u : List (List UInt8)}
end Aw

namespace Aw
open Go
set_option linter.unusedVariables false
def firstI (p : Itm → Bool) (l : List Itm) : Int:=if l.findIdx p < l.length then (l.findIdx p : Int) else -1
theorem getD_zero {l : List Itm} {i : Nat} (h : i < l.length) : l.getD i Itm.zero = l[i]:=by simp [List.getD,h]
theorem firstI_hit {p : Itm → Bool} {l : List Itm} {i : Nat} (h : i < l.length) (hs : ∀ j,j < i → p (l.getD j Itm.zero) = false) (hp : p (l.getD i Itm.zero) = true) : firstI p l = i:=by
 have : l.findIdx p = i:=by
  rw [List.findIdx_eq h]
  refine ⟨by rw [← getD_zero h]; exact hp,fun j hj=>?_⟩
  have:=hs j hj
  rw [getD_zero (Nat.lt_trans hj h)] at this
  simpa using this
 simp [firstI,this,h]
theorem firstI_miss {p : Itm → Bool} {l : List Itm} (hs : ∀ j,j < l.length → p (l.getD j Itm.zero) = false) : firstI p l = -1:=by
 have : ¬ l.findIdx p < l.length:=by
  intro h
  have h2 : p l[l.findIdx p] = true:=List.findIdx_getElem (w:=h)
  have:=hs _ h
  rw [getD_zero h,h2] at this
  cases this
 simp [firstI,this]
theorem firstI_cases (p : Itm → Bool) (l : List Itm) : (firstI p l = -1 ∧ ∀ x ∈ l,p x = false) ∨ ∃ i : Nat,firstI p l = i ∧ i < l.length ∧ (∀ j,j < i → p (l.getD j Itm.zero) = false) ∧ p (l.getD i Itm.zero) = true:=by
 by_cases h : l.findIdx p < l.length
 ·refine .inr ⟨l.findIdx p,by simp [firstI,h],h,fun j hj=>?_,?_⟩
  ·rw [getD_zero (Nat.lt_trans hj h)]
   simpa using List.not_of_lt_findIdx hj
  ·rw [getD_zero h]
   exact List.findIdx_getElem (w:=h)
 ·refine .inl ⟨by simp [firstI,h],fun x hx=>?_⟩
  have h2 : l.findIdx p = l.length:=by have:=List.findIdx_le_length (xs:=l) (p:=p); omega
  exact (List.findIdx_eq_length.1 h2) x hx
def delJ (p : Itm → Bool) (l cur : List Itm) (i j : Nat) : Prop:=cur.length = l.length ∧ i ≤ j ∧ j ≤ l.length ∧ cur.take i = (l.take j).filter (fun x=>!p x) ∧ cur.drop j = l.drop j
theorem delJ_top {p : Itm → Bool} {l : List Itm} {i : Nat} (h : i < l.length) (hs : ∀ j,j < i → p (l.getD j Itm.zero) = false) (hp : p (l.getD i Itm.zero) = true) : delJ p l l i (i + 1):=by
 refine ⟨rfl,by omega,by omega,?_,rfl⟩
 rw [List.take_succ_eq_append_getElem h,List.filter_append,List.filter_cons,← getD_zero h]
 have e : (l.take i).filter (fun x=>!p x) = l.take i:=List.filter_eq_self.2 fun x hx=>by
  obtain ⟨k,hk,rfl⟩:=List.getElem_of_mem hx
  simp only [List.length_take] at hk
  have:=hs k (by omega)
  rw [getD_zero (by omega)] at this
  simpa using this
 rw [e,hp]
 simp
theorem delJ_at {p : Itm → Bool} {l cur : List Itm} {i j : Nat} (h : delJ p l cur i j) (hj : j < l.length) : cur.getD j Itm.zero = l.getD j Itm.zero:=by
 obtain ⟨h1,h2,h3,h4,h5⟩:=h
 have:=congrArg List.head? h5
 rw [List.head?_drop,List.head?_drop] at this
 rw [List.getD_eq_getElem?_getD,List.getD_eq_getElem?_getD,this]
theorem delJ_skip {p : Itm → Bool} {l cur : List Itm} {i j : Nat} (h : delJ p l cur i j) (hj : j < l.length) (hp : p (l.getD j Itm.zero) = true) : delJ p l cur i (j + 1):=by
 obtain ⟨h1,h2,h3,h4,h5⟩:=h
 refine ⟨h1,by omega,by omega,?_,?_⟩
 ·rw [h4,List.take_succ_eq_append_getElem hj,List.filter_append,List.filter_cons,← getD_zero hj,hp]
  simp
 ·rw [← List.drop_drop,h5,List.drop_drop]
theorem delJ_keep {p : Itm → Bool} {l cur : List Itm} {i j : Nat} (h : delJ p l cur i j) (hj : j < l.length) (hi : i < j) (hp : p (l.getD j Itm.zero) = false) : delJ p l (cur.set i (l.getD j Itm.zero)) (i + 1) (j + 1):=by
 obtain ⟨h1,h2,h3,h4,h5⟩:=h
 refine ⟨by rw [List.length_set]; exact h1,by omega,by omega,?_,?_⟩
 ·have hic : i < (cur.set i (l.getD j Itm.zero)).length:=by rw [List.length_set]; omega
  rw [List.take_succ_eq_append_getElem hic,List.take_succ_eq_append_getElem hj,List.filter_append,← h4,List.filter_cons,← getD_zero hj,List.take_set_of_le (Nat.le_refl i),hp]
  simp
 ·rw [List.drop_set_of_lt (by omega),← List.drop_drop,h5,List.drop_drop]
theorem delJ_end {p : Itm → Bool} {l cur : List Itm} {i j : Nat} (h : delJ p l cur i j) (hj : ¬ j < l.length) : cur.take i = l.filter (fun x=>!p x):=by
 obtain ⟨h1,h2,h3,h4,h5⟩:=h
 rw [h4,List.take_of_length_le (by omega)]
def goneP (R : List Int) (x : Itm) : Bool:=!decide (x.num ∈ R)
theorem goneP_filter (R : List Int) (l : List Itm) : l.filter (fun x=>!goneP R x) = l.filter fun i=>decide (i.num ∈ R):=by
 simp [goneP]
end Aw

namespace Aw
open Go
theorem ibulk_perm {a b : List Itm} (h : a.Perm b) : ibulk a = ibulk b:=by
 induction h with
 | nil=>rfl
 | cons x _ ih=>rw [ibulk_cons,ibulk_cons,ih]
 | swap x y l=>rw [ibulk_cons,ibulk_cons,ibulk_cons,ibulk_cons]; omega
 | trans _ _ h1 h2=>rw [h1,h2]
theorem ibulk_map {l : List Itm} {f : Itm → Itm} (h : ∀ i ∈ l,(f i).obj.bulk ≤ i.obj.bulk) : ibulk (l.map f) ≤ ibulk l:=by
 induction l with
 | nil=>exact Nat.le_refl _
 | cons x l ih =>
  rw [List.map_cons,ibulk_cons,ibulk_cons]
  have:=h x List.mem_cons_self
  have:=ih fun i hi=>h i (List.mem_cons_of_mem _ hi)
  omega
theorem bulk_pos (d : Dc) : 1 ≤ d.bulk:=by
 have:=Pob.bulk_eq d.trailer
 simp only [Dc.bulk]
 omega
theorem map_bulk (d : Dc) (fr to : List Int) : (mapD d fr to).bulk ≤ d.bulk:=by
 unfold mapD
 split
 ·exact Nat.le_trans (Nat.le_of_eq zero_bulk) (bulk_pos d)
 ·show ibulk (sortN _) + (d.trailer.turn _).bulk ≤ ibulk d.items + d.trailer.bulk
  have h1:=ibulk_perm (sortN_perm (d.items.map (turnI d.items fr to)))
  have h2:=ibulk_map (l:=d.items) (f:=turnI d.items fr to) fun i _=>turn_le _ _ _ _
  have h3:=turn_le d.items fr to d.trailer
  omega
theorem comp_bulk (d : Dc) : (compD d).bulk ≤ d.bulk:=by
 unfold compD
 split
 ·exact Nat.le_trans (Nat.le_of_eq zero_bulk) (bulk_pos d)
 ·exact map_bulk _ _ _
theorem reached_bulk (d : Dc) : (reachedD d).bulk ≤ d.bulk:=by
 show ibulk (d.items.filter _) + d.trailer.bulk ≤ ibulk d.items + d.trailer.bulk
 have:=ibulk_filter d.items fun i=>decide (i.num ∈ metO d.items d.trailer)
 omega
theorem reached_from {d : Dc} (h : docE d = 0) (hb : d.bulk ≤ 16777216) : d.items.filter (fun x=>!goneP (fromP d d.trailer) x) = (reachedD d).items:=by
 rw [goneP_filter]
 have hr:=rr_len d.trailer
 have hdb : d.bulk = ibulk d.items + d.trailer.bulk:=rfl
 show List.filter _ _ = List.filter _ _
 congr 1
 funext i
 have:=met_reach h (n:=i.num) (by omega)
 simp only [this]
variable {l cur : List Itm} {x : Itm} {i : Nat}
end Aw

namespace Go.Proofs
open Go Aw
set_option linter.unusedSimpArgs false
set_option linter.unusedVariables false
set_option maxRecDepth 100000
set_option maxHeartbeats 4000000
attribute [local go_sem] take_strsAV app1_strsAV take_intsAV drop_intsAV app_intsAV app1_intsAV take_itemsAV app_itemsAV app1_itemsAV
theorem metF_take0 (l : List Itm) (ks : List Pob) (s : List Int) : metF l (rrs (List.take 0 ks)) s = s:=rfl
theorem metF_rrs0 (l : List Itm) (s : List Int) : metF l (rrs []) s = s:=rfl
attribute [local irreducible] metF
attribute [local go_sem] metF_take0 metF_rrs0
attribute [local go_sem] itemsAV_length
theorem rmet_step (gl : List (Nat × AV)) (N : Nat) (d : Dc) (h : d.bulk ≤ 16777216) (hd : docE d = 0) (ih : ∀ (s' : List Int) (o' : Pob) (k' : Int),fitsM d.items s' → chk o' k' = 0 → o'.bulk ≤ 16777216 → unmet d.items s' * 16777217 + o'.bulk < N → FnK Tryz.prog gl 43 [.agg d.cells,.agg (o').cells,.row 0 0 (s').length] [(0,.row 1 (intsAV (s')) true)] 1 0 fun r h n=>r = .ret (.row 0 0 (metF d.items o'.rr s').length) ∧ h = [(0,.row 1 (intsAV (metF d.items o'.rr s')) true)] ∧ n = 1) (s : List Int) (o : Pob) (dd : Int) (hs : fitsM d.items s) (hc : chk o dd = 0) (ho : o.bulk ≤ 16777216) (hb : unmet d.items s * 16777217 + o.bulk ≤ N) : FnK Tryz.prog (gl) 43 [.agg d.cells,.agg o.cells,.row 0 0 s.length] ([(0,.row 1 (intsAV (s)) true)]) 1 0 (fun r h n=>r = .ret (.row 0 0 (metF d.items o.rr s).length) ∧ h = [(0,.row 1 (intsAV (metF d.items o.rr s)) true)] ∧ n = 1):=by
 refine FnK.intro Tryz.func43 rfl rfl (by simp [Tryz.ntmps43]) ?_
 simp only [argEnv,Tryz.ntmps43,Tryz.results43]
 have hkl : o.kids.length ≤ o.bulk:=by have:=Pob.bulk_eq o; omega
 have hdb : d.bulk = ibulk d.items + d.trailer.bulk:=rfl
 have hil:=ibulk_len d.items
 have hsl:=fitsM_len hs
 refine AW.rS ?_
 refine AW.trim [2,3,4] ?_
 refine AW.cf 3 1 ?_
 refine AW.cf 4 2 ?_
 refine AW.seq ?_
 refine AW.rS ?_
 refine AW.trim [2,3,4,12] ?_
 refine AW.c2 ?_ ?_
 ·intro h4
  have h8 : o.kind = 8:=by simpa using h4
  refine AW.seq ?_
  refine AW.rSC ?_
  refine awOps.cons (awGuard.c1 (c_foliantref30_leads _ d o h) ?_)
  refine awOps.rn ?_
  refine awOps.cons (awGuard.cTG (fun hg=>c_foliantref30_in _ s o.num (by omega)) ?_)
  refine awOps.rn ?_
  refine AW.trim [2,3,4,22] ?_
  refine AW.c2 ?_ ?_
  ·intro h11
   obtain ⟨hlb,hns⟩:=h11
   have hlm:=led_mem hlb
   have hfa:=fitsM_add hs ⟨hlb,hns⟩
   have hfl:=fitsM_len hfa
   rw [List.length_append,List.length_singleton] at hfl
   have hmy:=metF_yes ⟨hlb,hns⟩
   have hob:=ibulk_in hlm.1
   refine AW.rS ?_
   refine AW.trim [2,3,4] ?_
   rw [show s.length + 1 = (s ++ [o.num]).length from by simp]
   refine AW.rSC ?_
   refine awOps.cons (awGuard.c1 (c_foliantref19_Get _ d o.num h) ?_)
   refine awOps.rn ?_
   refine AW.trim [2,3,7] ?_
   rw [show (lookI d.items o.num).getD Itm.zero = ledI d.items o from rfl]
   refine AW.rLC ?_
   refine awOps.cons (awGuard.cK 0 [4] (ih (s ++ [o.num]) (ledI d.items o).obj 1 hfa (doc_obj hd hlm.1).1 (by have:=hmy.2; omega) (by have:=hmy.2; omega)) ?_)
   refine awOps.rn ?_
   refine AW.rS ?_
   refine AW.trim [6] ?_
   rw [metF_ref h8,hmy.1]
   refine AW.vw [6] [(6,.row 0 0 (metF d.items (ledI d.items o).obj.rr (s ++ [o.num])).length)] [(0,.row 1 (intsAV (metF d.items (ledI d.items o).obj.rr (s ++ [o.num]))) true)] ?_
   refine AW.rt ?_
   trivial
  ·intro h11
   have hm0 : metF d.items o.rr s = s:=by rw [metF_ref h8,metF_no (fun hh=>h11.elim (fun h=>by rw [hh.1] at h; cases h) (fun h=>hh.2 h))]
   rw [hm0]
   refine AW.skip ?_
   refine AW.rS ?_
   refine AW.trim [6] ?_
   refine AW.vw [0] [(6,.row 0 0 s.length)] [(0,.row 1 (intsAV (s)) true)] ?_
   refine AW.rt ?_
   trivial
 ·intro h4
  have h8 : o.kind ≠ 8:=by simpa using h4
  refine AW.skip ?_
  refine AW.seq ?_
  refine AW.rS ?_
  refine AW.trim [2,3,4,9] ?_
  refine AW.block ?_
  refine AW.lk (S:={ i : Nat // i ≤ o.kids.length }) [3,4] (fun s_=>[(2,.row 0 0 (metF d.items (rrs (o.kids.take s_.1)) s).length),(9,.int .i64 (s_.1 : Int))]) (fun s_=>[(0,.row 1 (intsAV (metF d.items (rrs (o.kids.take s_.1)) s)) true)]) 1 (fun s_=>o.kids.length - s_.1) ⟨0,Nat.zero_le _⟩ ?_ ?_
  ·refine St.le.vw [0]
  rintro ⟨i,hi⟩
  try dsimp only at hi
  refine AW.seq ?_
  refine AW.rS ?_
  refine AW.trim [2,3,4,9,45] ?_
  refine AW.c2 ?_ ?_
  ·intro h33
   have hi2 : i < o.kids.length:=by omega
   have hkb:=Pob.bulk_kid hi2
   have hck:=(chk_iff.1 hc).2 _ (getD_kid hi2)
   have hfm:=fitsM_met (rs:=rrs (o.kids.take i)) hs
   have hum:=metF_unmet d.items (rrs (o.kids.take i)) s
   have hmk:=congrArg List.length (metF_kid (l:=d.items) hi2 s)
   refine AW.skip ?_
   refine AW.seq ?_
   refine AW.block ?_
   refine AW.dLC [(0,1),(1,0),(2,0),(3,0),(4,0),(5,1),(6,0),(7,2),(8,0)] ?_
   refine awPlan.only rfl ?_
   refine awGuard.cK 0 [0] (ih _ (o.kids.getD i Pob.null) (dd + 1) hfm hck (by omega) (by omega)) ?_
   refine awPlan.rn ?_
   refine AW.rL ?_
   refine ⟨⟨i + 1,by omega⟩,?_,?_⟩
   ·refine St.le.vx [1] ?_
    rw [metF_kid hi2]
   ·simp only []; omega
  ·intro h33
   rw [metF_kids h8 (by omega) s]
   refine AW.exit ?_
   refine AW.rS ?_
   refine AW.trim [6] ?_
   refine AW.vw [0] [(6,.row 0 0 (metF d.items o.rr s).length)] [(0,.row 1 (intsAV (metF d.items o.rr s)) true)] ?_
   refine AW.rt ?_
   trivial
theorem rmet_all (gl : List (Nat × AV)) (d : Dc) (h : d.bulk ≤ 16777216) (hd : docE d = 0) (N : Nat) : ∀ (s : List Int) (o : Pob) (dd : Int),fitsM d.items s → chk o dd = 0 → o.bulk ≤ 16777216 → unmet d.items s * 16777217 + o.bulk ≤ N → FnK Tryz.prog gl 43 [.agg d.cells,.agg (o).cells,.row 0 0 (s).length] [(0,.row 1 (intsAV (s)) true)] 1 0 fun r h n=>r = .ret (.row 0 0 (metF d.items o.rr s).length) ∧ h = [(0,.row 1 (intsAV (metF d.items o.rr s)) true)] ∧ n = 1:=by
 induction N using Nat.strongRecOn with
 | ind N IH=>exact fun s o dd hs hc ho hb=>rmet_step gl N d h hd (fun s' o' k' hs' hc' ho' hb'=>IH _ hb' s' o' k' hs' hc' ho' (Nat.le_refl _)) s o dd hs hc ho hb
theorem h_rmet (gl : List (Nat × AV)) (d : Dc) (o : Pob) (dd : Int) (h : d.bulk ≤ 16777216) (hd : docE d = 0) (hc : chk o dd = 0) (ho : o.bulk ≤ 16777216) : FnH Tryz.prog gl 43 [.agg d.cells,.agg o.cells,.raw (.slice none 0 0)] [] 0 fun r h n=>r = .ret (.row 0 0 (metO d.items o).length) ∧ h = [(0,.row 1 (intsAV (metO d.items o)) true)] ∧ n = 1:=by
 simp only [metO_metF]
 exact FnK.nil (xs:=[.agg d.cells,.agg o.cells]) (rmet_all gl d h hd _ [] o dd (fitsM_nil _) hc ho (Nat.le_refl _))
end Go.Proofs

namespace Go.Proofs
open Go Aw
set_option linter.unusedSimpArgs false
set_option linter.unusedVariables false
set_option maxRecDepth 100000
set_option maxHeartbeats 4000000
attribute [local go_sem] take_strsAV app1_strsAV take_intsAV drop_intsAV app_intsAV app1_intsAV take_itemsAV app_itemsAV app1_itemsAV
end Go.Proofs

namespace Go.Proofs
open Go Aw
set_option linter.unusedSimpArgs false
set_option linter.unusedVariables false
set_option maxRecDepth 100000
set_option maxHeartbeats 4000000
attribute [local go_sem] take_strsAV app1_strsAV take_intsAV drop_intsAV app_intsAV app1_intsAV take_itemsAV app_itemsAV app1_itemsAV
end Go.Proofs

namespace Go.Proofs
open Go Aw
set_option linter.unusedSimpArgs false
set_option linter.unusedVariables false
set_option maxRecDepth 100000
set_option maxHeartbeats 4000000
attribute [local go_sem] take_strsAV app1_strsAV take_intsAV drop_intsAV app_intsAV app1_intsAV take_itemsAV app_itemsAV app1_itemsAV
theorem c_shift_leads (gl : List (Nat × AV)) (d : Dc) (o : Pob) (h : d.bulk ≤ 16777216:=by first | omega | exact u8_le _ | assumption | (simp; done) | (simp; omega)) : FnP Tryz.prog (gl) 63 [.agg d.cells,.agg o.cells] fun r=>r = .ret (.tup [.agg (ledI d.items o).cells,.bool (ledB d.items o)]):=by
 refine FnP.intro Tryz.func63 rfl rfl (by simp [Tryz.ntmps63]) ?_
 simp only [argEnv,Tryz.ntmps63,Tryz.results63]
 refine AW.rS ?_
 refine AW.trim [2,3,4] ?_
 refine AW.rSC ?_
 refine awOps.cons (awGuard.c1 (c_docs_Get _ d o.num h) ?_)
 refine awOps.rn ?_
 refine AW.trim [3,4,6,7] ?_
 refine AW.tG (σf:=?sf2) (.take 1 0 (.take 2 0 (.take 3 0 (.take 5 0 (.take 0 2 (.fork 4 (.fork 6 (.take 7 0 (.take 8 0 (.fork 9 (.take 10 0 .done) .stop))) (.fork 9 (.take 6 2 (.take 7 0 (.take 8 0 (.take 10 0 .done)))) .stop)) (.fork 6 (.fork 4 (.take 7 0 (.take 8 0 (.fork 9 (.take 10 0 .done) .stop))) (.fork 9 (.take 4 2 (.take 7 0 (.take 8 0 (.take 10 0 .done)))) .stop)) (.fork 9 (.take 4 2 (.take 6 2 (.take 7 0 (.take 8 0 (.take 10 0 .done))))) .stop)))))))) ?tree2 ?rest2
 case tree2 =>
  repeat' (first | exact True.intro | refine awTree.tk ?_ | refine awTree.fA ?_ ?_ | exact awTree.dn)
 case rest2 =>
 refine AW.trim [4,5] ?_
 refine AW.rt ?_
 unfold ledB ledI
 cases (lookI d.items o.num).isSome <;> rfl
theorem c_shift_all (gl : List (Nat × AV)) (d : Dc) (h : d.bulk ≤ 16777216:=by first | omega | exact u8_le _ | assumption | (simp; done) | (simp; omega)) : FnP Tryz.prog (gl) 33 [.agg d.cells] fun r=>r = .ret (.sl (intsAV (numsI d))):=by
 refine FnP.intro Tryz.func33 rfl rfl (by simp [Tryz.ntmps33]) ?_
 simp only [argEnv,Tryz.ntmps33,Tryz.results33]
 have hlen:=ibulk_len d.items
 have hdb : d.bulk = ibulk d.items + d.trailer.bulk:=rfl
 refine AW.rS ?_
 refine AW.trim [1] ?_
 refine AW.rS ?_
 refine AW.trim [1,3] ?_
 refine AW.seq ?_
 refine AW.rS ?_
 refine AW.trim [3,7,8,9] ?_
 refine AW.block ?_
 refine AW.pre (St.le.nilrow 3 1 (by (simp only [go_sem,seval]; iterate 2 try (simp (disch:=omega) only [zq]; try simp only [go_sem,seval])))) ?_
 refine wk ?_
 refine AW.lk (S:={ i : Nat // i ≤ d.items.length }) [7,8] (fun s_=>[(3,.row 1 0 ((d.items.take s_.1).map (·.num)).length),(9,.int .i64 s_.1)]) (fun s_=>[(0,.cells d.cells),(1,.row 1 (intsAV ((d.items.take s_.1).map (·.num))) true)]) 2 (fun s_=>d.items.length - s_.1) ⟨0,Nat.zero_le _⟩ ?_ ?_
 ·refine St.le.vw [0,1]
 rintro ⟨i,hi⟩
 try dsimp only at hi
 refine AW.rS ?_
 refine AW.trim [3,7,8,9,10] ?_
 refine AW.seq ?_
 refine AW.c2 ?_ ?_
 ·intro h9
  have hi2 : i < d.items.length:=by omega
  have hlt : (d.items.take (i + 1)).map (·.num) = (d.items.take i).map (·.num) ++ [(d.items.getD i Itm.zero).num]:=by rw [List.take_succ_eq_append_getElem hi2,List.map_append]; simp [List.getD,hi2]
  have hll : ((d.items.take i).map (·.num)).length = i:=by simp; omega
  refine AW.skip ?_
  refine AW.seq ?_
  refine AW.block ?_
  refine AW.rS ?_
  refine AW.trim [3,5,7,8,9] ?_
  refine AW.rL ?_
  refine AW.rL ?_
  refine ⟨⟨i + 1,by omega⟩,?_,?_⟩
  ·refine St.le.vx [0,4] ?_
   rw [hlt]
  ·simp only []; omega
 ·intro h9
  obtain rfl : i = d.items.length:=by omega
  rw [List.take_length]
  refine AW.exit ?_
  refine AW.rS ?_
  refine AW.trim [2] ?_
  refine AW.rt ?_
  rfl
theorem c_shift_bad (gl : List (Nat × AV)) (l : List Int) (h : l.length ≤ 16777216:=by first | omega | exact u8_le _ | assumption | (simp; done) | (simp; omega)) : FnP Tryz.prog (gl) 29 [.sl (intsAV l)] fun r=>r = .ret (.bool (decide (badL l))):=by
 refine FnP.intro Tryz.func29 rfl rfl (by simp [Tryz.ntmps29]) ?_
 simp only [argEnv,Tryz.ntmps29,Tryz.results29]
 refine AW.rS ?_
 refine AW.trim [0] ?_
 refine AW.rSC ?_
 refine awOps.cons ?_
 refine awGuard.mkS (keyOk_int .i64) ?_
 refine awOps.rn ?_
 refine AW.trim [0,3] ?_
 refine AW.seq ?_
 refine AW.rS ?_
 refine AW.trim [3,7,8,9] ?_
 refine AW.block ?_
 refine AW.lk (S:={ k : Nat // k ≤ l.length ∧ fineL (l.take k) }) [3,7,8] (fun s_=>[(9,.int .i64 s_.1)]) (fun s_=>[(0,setOf KI (l.take s_.1))]) 1 (fun s_=>l.length - s_.1) ⟨0,Nat.zero_le _,fine_nil⟩ ?_ ?_
 ·refine St.le.vw [0]
 rintro ⟨k,hk,hs⟩
 try dsimp only at hk
 try dsimp only at hs
 refine AW.rS ?_
 refine AW.trim [3,7,8,9,10] ?_
 refine AW.seq ?_
 refine AW.c2 ?_ ?_
 ·intro h11
  have hk2 : k < l.length:=by omega
  have hft:=fine_take hk2
  refine AW.skip ?_
  refine AW.seq ?_
  refine AW.block ?_
  refine AW.rS ?_
  refine AW.trim [3,5,7,8,9] ?_
  refine AW.seq ?_
  refine AW.rSC ?_
  refine awOps.cons ?_
  refine awGuard.lkG (keyOk_int .i64) ?_
  refine awOps.rn ?_
  refine AW.trim [3,5,7,8,9,23] ?_
  refine AW.c2 ?_ ?_
  ·intro h20
   refine AW.rS ?_
   refine AW.trim [2] ?_
   refine AW.rt ?_
   have hbad : badL l:=bad_take (k:=k + 1) (fun hf=>by have:=hft.1 hf; rcases h20 with (h | h) | h <;> first | exact this.2.2 h | omega)
   rw [decide_eq_true hbad]
  ·intro h20
   have hse : setAdd (l.take k) (l.getD k 0) = l.take (k + 1):=by rw [setAdd,if_neg h20.2,List.take_succ_eq_append_getElem hk2]; simp [List.getD,hk2]
   refine AW.skip ?_
   refine AW.rLC ?_
   refine awOps.cons ?_
   refine awGuard.upS (keyOk_int .i64) ?_
   refine awOps.rn ?_
   refine AW.rL ?_
   refine ⟨⟨k + 1,by omega,hft.2 ⟨hs,h20.1,h20.2⟩⟩,?_,?_⟩
   ·refine St.le.vx [0] ?_
    rw [hse]
   ·simp only []; omega
 ·intro h11
  refine AW.exit ?_
  refine AW.rS ?_
  refine AW.trim [2] ?_
  refine AW.rt ?_
  rw [decide_eq_false (good_all (by omega) hs)]
end Go.Proofs

namespace Go.Proofs
open Go Aw
set_option linter.unusedSimpArgs false
set_option linter.unusedVariables false
set_option maxRecDepth 100000
set_option maxHeartbeats 4000000
attribute [local go_sem] take_strsAV app1_strsAV take_intsAV drop_intsAV app_intsAV app1_intsAV take_itemsAV app_itemsAV app1_itemsAV
attribute [local irreducible] metF
theorem through_step (gl : List (Nat × AV)) (N : Nat) (d : Dc) (h : d.bulk ≤ 16777216) (hd : docE d = 0) (ih : ∀ (s' : List Int) (o' : Pob) (k' : Int),fitsM d.items s' → chk o' k' = 0 → o'.bulk ≤ 16777216 → unmet d.items s' * 16777217 + o'.bulk < N → FnK Tryz.prog gl 68 [.ptr 0 0,.agg (o').cells] [(0,.cells [.sl (itemsAV d.items),.int .i64 d.trailer.kind,.int .i64 d.trailer.num,.int .i64 d.trailer.gen,.str d.trailer.str,.sl (strsAV d.trailer.keys),.sl (objsAV d.trailer.kids),.map 1,.row 2 0 (s').length]),(1,setOf KI (s')),(2,.row 1 (intsAV (s')) true)] 3 2 fun r h n=>r = .ret (.tup []) ∧ h = [(0,.cells [.sl (itemsAV d.items),.int .i64 d.trailer.kind,.int .i64 d.trailer.num,.int .i64 d.trailer.gen,.str d.trailer.str,.sl (strsAV d.trailer.keys),.sl (objsAV d.trailer.kids),.map 1,.row 2 0 (metF d.items o'.rr s').length]),(1,setOf KI (metF d.items o'.rr s')),(2,.row 1 (intsAV (metF d.items o'.rr s')) true)] ∧ n = 3) (s : List Int) (o : Pob) (dd : Int) (hs : fitsM d.items s) (hc : chk o dd = 0) (ho : o.bulk ≤ 16777216) (hb : unmet d.items s * 16777217 + o.bulk ≤ N) : FnK Tryz.prog (gl) 68 [.ptr 0 0,.agg o.cells] ([(0,.cells [.sl (itemsAV d.items),.int .i64 d.trailer.kind,.int .i64 d.trailer.num,.int .i64 d.trailer.gen,.str d.trailer.str,.sl (strsAV d.trailer.keys),.sl (objsAV d.trailer.kids),.map 1,.row 2 0 (s).length]),(1,setOf KI (s)),(2,.row 1 (intsAV (s)) true)]) 3 2 (fun r h n=>r = .ret (.tup []) ∧ h = [(0,.cells [.sl (itemsAV d.items),.int .i64 d.trailer.kind,.int .i64 d.trailer.num,.int .i64 d.trailer.gen,.str d.trailer.str,.sl (strsAV d.trailer.keys),.sl (objsAV d.trailer.kids),.map 1,.row 2 0 (metF d.items o.rr s).length]),(1,setOf KI (metF d.items o.rr s)),(2,.row 1 (intsAV (metF d.items o.rr s)) true)] ∧ n = 3):=by
 refine FnK.intro Tryz.func68 rfl rfl (by simp [Tryz.ntmps68]) ?_
 simp only [argEnv,Tryz.ntmps68,Tryz.results68]
 have hkl : o.kids.length ≤ o.bulk:=by have:=Pob.bulk_eq o; omega
 have hdb : d.bulk = ibulk d.items + d.trailer.bulk:=rfl
 have hil:=ibulk_len d.items
 have hsl:=fitsM_len hs
 refine AW.rS ?_
 refine AW.trim [0,3] ?_
 refine AW.seq ?_
 refine AW.rS ?_
 refine AW.trim [0,3,9,10,11] ?_
 refine AW.block ?_
 refine AW.lk (S:={ i : Nat // i ≤ o.kids.length }) [0,3,9,10] (fun s_=>[(11,.int .i64 (s_.1 : Int))]) (fun s_=>[(0,.cells [.sl (itemsAV d.items),.int .i64 d.trailer.kind,.int .i64 d.trailer.num,.int .i64 d.trailer.gen,.str d.trailer.str,.sl (strsAV d.trailer.keys),.sl (objsAV d.trailer.kids),.map 1,.row 2 0 (metF d.items (rrs (o.kids.take s_.1)) s).length]),(1,setOf KI (metF d.items (rrs (o.kids.take s_.1)) s)),(2,.row 1 (intsAV (metF d.items (rrs (o.kids.take s_.1)) s)) true),(3,.cells o.cells)]) 4 (fun s_=>o.kids.length - s_.1) ⟨0,Nat.zero_le _⟩ ?_ ?_
 ·refine St.le.vx [0,1,2,3] (hpre:=(by decide : ∀ i,i < 2 → nth [0,1,2,3] i = some i)) ?_
  simp [rrs,metF_nil]
 rintro ⟨i,hi⟩
 try dsimp only at hi
 refine AW.rS ?_
 refine AW.trim [0,3,9,10,11,12] ?_
 refine AW.seq ?_
 refine AW.c2 ?_ ?_
 ·intro h8
  have hi2 : i < o.kids.length:=by omega
  have hkb:=Pob.bulk_kid hi2
  have hck:=(chk_iff.1 hc).2 _ (getD_kid hi2)
  have hfm:=fitsM_met (rs:=rrs (o.kids.take i)) hs
  have hum:=metF_unmet d.items (rrs (o.kids.take i)) s
  refine AW.skip ?_
  refine AW.seq ?_
  refine AW.block ?_
  refine AW.rS ?_
  refine AW.trim [0,3,5,9,10,11] ?_
  refine AW.rLC ?_
  refine awOps.cons (awGuard.cK 2 [0,1,2] (ih _ (o.kids.getD i Pob.null) (dd + 1) hfm hck (by omega) (by omega)) ?_)
  refine awOps.rn ?_
  refine AW.rL ?_
  refine ⟨⟨i + 1,by omega⟩,?_,?_⟩
  ·refine St.le.vx [0,1,5,3] (hpre:=(by decide : ∀ i,i < 2 → nth [0,1,5,3] i = some i)) ?_
   rw [metF_kid hi2] <;> exact ⟨rfl,rfl,rfl⟩
  ·simp only []; omega
 ·intro h8
  refine AW.exit ?_
  refine AW.seq ?_
  refine AW.rS ?_
  refine AW.trim [0,3,21] ?_
  refine AW.c2 ?_ ?_
  ·intro h21
   have h8 : o.kind ≠ 8:=by simpa using h21
   rw [metF_kids h8 (by omega) s]
   refine AW.vw [0,1,2] [] [(0,.cells [.sl (itemsAV d.items),.int .i64 d.trailer.kind,.int .i64 d.trailer.num,.int .i64 d.trailer.gen,.str d.trailer.str,.sl (strsAV d.trailer.keys),.sl (objsAV d.trailer.kids),.map 1,.row 2 0 (metF d.items o.rr s).length]),(1,setOf KI (metF d.items o.rr s)),(2,.row 1 (intsAV (metF d.items o.rr s)) true)] (hpre:=(by decide : ∀ i,i < 2 → nth [0,1,2] i = some i)) ?_
   refine AW.rt ?_
   trivial
  ·intro h21
   have h8 : o.kind = 8:=by simpa using h21
   have e0 : metF d.items (rrs (o.kids.take i)) s = s:=by rw [chk_ref hc h8,List.take_nil]; exact metF_nil _ _
   rw [e0]
   refine AW.skip ?_
   refine AW.tG (σf:=?sf25) (.take 0 0 (.take 1 0 (.take 2 0 (.take 3 2 (.take 4 2 (.fork 5 (.take 6 0 (.take 7 0 (.take 8 0 (.fork 9 (.fork 10 (.take 11 0 .done) .stop) .stop)))) (.fork 9 (.fork 5 (.take 6 0 (.take 7 0 (.take 8 0 (.fork 10 (.take 11 0 .done) .stop)))) .stop) .stop))))))) ?tree25 ?rest25
   case tree25 =>
    repeat' (first | exact True.intro | refine awTree.tk ?_ | refine awTree.fC (c_shift_leads _ d o h) ?_ ?_ | refine awTree.fA ?_ ?_ | refine awTree.fB ?_ ?_ | refine awTree.fK ?_ ?_ | exact awTree.dn)
   case rest25 =>
   refine AW.trim [0,6,7] ?_
   refine AW.dSC [(0,0),(1,0),(2,0),(3,0),(4,0),(5,1),(6,0),(7,1),(8,2),(9,0),(10,0)] ?_
   refine awPlan.only rfl ?_
   refine awGuard.lkG (keyOk_int .i64) ?_
   refine awPlan.rn ?_
   refine AW.trim [0,6,41] ?_
   refine AW.c2 ?_ ?_
   ·intro h29
    obtain ⟨hlb,hns⟩:=h29
    have hlm:=led_mem hlb
    rw [hlm.2.1] at hns
    rw [hlm.2.1]
    have hse : setAdd s o.num = s ++ [o.num]:=if_neg hns
    have hfa:=fitsM_add hs ⟨hlb,hns⟩
    have hfl:=fitsM_len hfa
    rw [List.length_append,List.length_singleton] at hfl
    have hmy:=metF_yes ⟨hlb,hns⟩
    have hob:=ibulk_in hlm.1
    refine AW.dSC [(0,0),(1,0),(2,0),(3,1),(4,0),(5,1),(6,2)] ?_
    refine awPlan.only rfl ?_
    refine awGuard.upS (keyOk_int .i64) ?_
    refine awPlan.rn ?_
    refine AW.trim [0,6] ?_
    rw [hse]
    refine AW.tG (σf:=?sf33) (.take 0 0 (.take 1 0 (.take 2 0 (.take 3 0 (.take 5 0 (.take 6 2 (.fork 4 (.fork 7 (.fork 8 (.take 9 0 (.take 10 0 (.fork 11 .done .stop))) .stop) .stop) (.fork 7 (.take 4 2 (.fork 8 (.take 9 0 (.take 10 0 (.fork 11 .done .stop))) .stop)) .stop)))))))) ?tree33 ?rest33
    case tree33 =>
     repeat' (first | exact True.intro | refine awTree.tk ?_ | refine awTree.fA ?_ ?_ | refine awTree.fB ?_ ?_ | refine awTree.fK ?_ ?_ | exact awTree.dn)
    case rest33 =>
    refine AW.trim [0,6] ?_
    rw [show s.length + 1 = (s ++ [o.num]).length from by simp]
    refine AW.fin2 ?_
    refine AW.rLC ?_
    refine awOps.cons (awGuard.cK 2 [0,1,6] (ih (s ++ [o.num]) (ledI d.items o).obj 1 hfa (doc_obj hd hlm.1).1 (by omega) (by omega)) ?_)
    refine awOps.rn ?_
    refine wk ?_
    rw [metF_ref h8,hmy.1]
    refine ⟨.inl trivial,⟨63,[],[(0,.cells [.sl (itemsAV d.items),.int .i64 d.trailer.kind,.int .i64 d.trailer.num,.int .i64 d.trailer.gen,.str d.trailer.str,.sl (strsAV d.trailer.keys),.sl (objsAV d.trailer.kids),.map 1,.row 2 0 (metF d.items (ledI d.items o).obj.rr (s ++ [o.num])).length]),(1,setOf KI (metF d.items (ledI d.items o).obj.rr (s ++ [o.num]))),(2,.row 1 (intsAV (metF d.items (ledI d.items o).obj.rr (s ++ [o.num]))) true)],3,gl,2,[]⟩,St.le.vw [0,1,7] (hpre:=(by decide : ∀ i,i < 2 → nth [0,1,7] i = some i)),?_⟩
    refine wk ?_
    trivial
   ·intro h29
    have hm0 : metF d.items o.rr s = s:=by rw [metF_ref h8,metF_no (fun hh=>h29.elim (fun h=>by rw [hh.1] at h; cases h) (fun h=>hh.2 (by rw [← (led_mem hh.1).2.1]; exact h)))]
    rw [hm0]
    refine AW.vw [0,1,2] [] [(0,.cells [.sl (itemsAV d.items),.int .i64 d.trailer.kind,.int .i64 d.trailer.num,.int .i64 d.trailer.gen,.str d.trailer.str,.sl (strsAV d.trailer.keys),.sl (objsAV d.trailer.kids),.map 1,.row 2 0 (s).length]),(1,setOf KI (s)),(2,.row 1 (intsAV (s)) true)] (hpre:=(by decide : ∀ i,i < 2 → nth [0,1,2] i = some i)) ?_
    refine AW.skip ?_
    refine wk ?_
    trivial
theorem through_all (gl : List (Nat × AV)) (d : Dc) (h : d.bulk ≤ 16777216) (hd : docE d = 0) (N : Nat) : ∀ (s : List Int) (o : Pob) (dd : Int),fitsM d.items s → chk o dd = 0 → o.bulk ≤ 16777216 → unmet d.items s * 16777217 + o.bulk ≤ N → FnK Tryz.prog gl 68 [.ptr 0 0,.agg (o).cells] [(0,.cells [.sl (itemsAV d.items),.int .i64 d.trailer.kind,.int .i64 d.trailer.num,.int .i64 d.trailer.gen,.str d.trailer.str,.sl (strsAV d.trailer.keys),.sl (objsAV d.trailer.kids),.map 1,.row 2 0 (s).length]),(1,setOf KI (s)),(2,.row 1 (intsAV (s)) true)] 3 2 fun r h n=>r = .ret (.tup []) ∧ h = [(0,.cells [.sl (itemsAV d.items),.int .i64 d.trailer.kind,.int .i64 d.trailer.num,.int .i64 d.trailer.gen,.str d.trailer.str,.sl (strsAV d.trailer.keys),.sl (objsAV d.trailer.kids),.map 1,.row 2 0 (metF d.items o.rr s).length]),(1,setOf KI (metF d.items o.rr s)),(2,.row 1 (intsAV (metF d.items o.rr s)) true)] ∧ n = 3:=by
 induction N using Nat.strongRecOn with
 | ind N IH=>exact fun s o dd hs hc ho hb=>through_step gl N d h hd (fun s' o' k' hs' hc' ho' hb'=>IH _ hb' s' o' k' hs' hc' ho' (Nat.le_refl _)) s o dd hs hc ho hb
theorem h_shift_from (gl : List (Nat × AV)) (d : Dc) (o : Pob) (dd : Int) (h : d.bulk ≤ 16777216) (hd : docE d = 0) (hc : chk o dd = 0) (ho : o.bulk ≤ 16777216) : FnH Tryz.prog (gl) 42 [.agg d.cells,.agg o.cells] ([]) 0 (fun r h n=>r = .ret (.row 0 0 (metO d.items o).length) ∧ h = [(0,.row 1 (intsAV (metO d.items o)) true)] ∧ n = 1):=by
 refine FnH.intro Tryz.func42 rfl rfl (by simp [Tryz.ntmps42]) ?_
 simp only [argEnv,Tryz.ntmps42,Tryz.results42]
 refine AW.rS ?_
 refine AW.trim [2,3] ?_
 refine AW.rSC ?_
 refine awOps.cons ?_
 refine awGuard.mkS (keyOk_int .i64) ?_
 refine awOps.rn ?_
 refine AW.trim [3,5] ?_
 refine AW.pre (St.le.nilcell 3 8 1 (by (simp only [go_sem,seval]; iterate 2 try (simp (disch:=omega) only [zq]; try simp only [go_sem,seval])); exact rfl) (by exact rfl)) ?_
 refine wk ?_
 refine AW.rSC ?_
 refine awOps.cons (awGuard.cK 2 [3,2,4] (through_all _ d h hd _ [] o dd (fitsM_nil _) hc ho (Nat.le_refl _)) ?_)
 refine awOps.rn ?_
 refine AW.trim [5] ?_
 rw [← metO_metF]
 refine AW.rS ?_
 refine AW.trim [4] ?_
 refine AW.vw [5] [(4,.row 0 0 (metO d.items o).length)] [(0,.row 1 (intsAV (metO d.items o)) true)] ?_
 refine AW.rt ?_
 trivial
end Go.Proofs

namespace Go.Proofs
open Go Aw
set_option linter.unusedSimpArgs false
set_option linter.unusedVariables false
set_option maxRecDepth 100000
set_option maxHeartbeats 4000000
theorem noTL_cells (z : Pob) : noTL z.cells = true:=by cases z; rfl
theorem h_maps_Keys (gl : List (Nat × AV)) (s : List Int) : FnH Tryz.prog (gl) 135 [.map 0] ([(0,setOf (fun n=>AV.int .i64 n) s)]) 1 (fun r h n=>r = .ret (.clos 142 [.ptr 1 0]) ∧ h = [(0,setOf (fun n=>AV.int .i64 n) s),(1,.cells [.map 0])] ∧ n = 2):=by
 refine FnH.intro Tryz.func135 rfl rfl (by simp [Tryz.ntmps135]) ?_
 simp only [argEnv,Tryz.ntmps135,Tryz.results135]
 refine AW.rS ?_
 refine AW.rS ?_
 refine AW.rt ?_
 all_goals first | contradiction | rfl | (simp; done) | (simp; omega)
end Go.Proofs

namespace Go.Proofs
open Go.RowKit Go.Maps Go.Sort Go.Shelf
def Tryz.lays189_ren : Go.Shelf.Ren:=⟨fun | 189=>141 | 125=>93 | 257=>147 | 128=>120 | 129=>121 | 294=>148 | 295=>149 | 296=>150 | 297=>151 | 298=>152 | 299=>153 | 216=>154 | 300=>155 | 301=>156 | 328=>157 | 329=>130 | 330=>131 | 331=>158 | 332=>159 | 215=>160 | 343=>161 | n=>n,fun | 28=>29 | 3=>3 | 46=>104 | 0=>0 | 51=>125 | 53=>127 | 4=>4 | 183=>119 | 182=>118 | 131=>62 | 5=>5 | 9=>9 | 218=>137 | 222=>141 | 228=>151 | 229=>152 | n=>n,fun | n=>n⟩
theorem Tryz.lays189 : Go.Proofs.Lays.n189 Tryz.prog Tryz.lays189_ren:={
 mixed:=by kernel_rfl
 f125:=Tryz.func93.trans (congrArg some (by kernel_rfl))
 f128:=Tryz.func120.trans (congrArg some (by kernel_rfl))
 f129:=Tryz.func121.trans (congrArg some (by kernel_rfl))
 f189:=Tryz.func141.trans (congrArg some (by kernel_rfl))
 f215:=Tryz.func160.trans (congrArg some (by kernel_rfl))
 f216:=Tryz.func154.trans (congrArg some (by kernel_rfl))
 f257:=Tryz.func147.trans (congrArg some (by kernel_rfl))
 f294:=Tryz.func148.trans (congrArg some (by kernel_rfl))
 f295:=Tryz.func149.trans (congrArg some (by kernel_rfl))
 f296:=Tryz.func150.trans (congrArg some (by kernel_rfl))
 f297:=Tryz.func151.trans (congrArg some (by kernel_rfl))
 f298:=Tryz.func152.trans (congrArg some (by kernel_rfl))
 f299:=Tryz.func153.trans (congrArg some (by kernel_rfl))
 f300:=Tryz.func155.trans (congrArg some (by kernel_rfl))
 f301:=Tryz.func156.trans (congrArg some (by kernel_rfl))
 f328:=Tryz.func157.trans (congrArg some (by kernel_rfl))
 f329:=Tryz.func130.trans (congrArg some (by kernel_rfl))
 f330:=Tryz.func131.trans (congrArg some (by kernel_rfl))
 f331:=Tryz.func158.trans (congrArg some (by kernel_rfl))
 f332:=Tryz.func159.trans (congrArg some (by kernel_rfl))
 f343:=Tryz.func161.trans (congrArg some (by kernel_rfl))
 t0:=Tryz.underlying0
 a0:=Tryz.isAgg0
 z0:=Tryz.sizeOf0
 v0:=Tryz.zeroValue0
 t3:=Tryz.underlying3
 a3:=Tryz.isAgg3
 z3:=Tryz.sizeOf3
 v3:=Tryz.zeroValue3
 t4:=Tryz.underlying4
 a4:=Tryz.isAgg4
 z4:=Tryz.sizeOf4
 v4:=Tryz.zeroValue4
 t5:=Tryz.underlying5
 a5:=Tryz.isAgg5
 z5:=Tryz.sizeOf5
 v5:=Tryz.zeroValue5
 t9:=Tryz.underlying9
 a9:=Tryz.isAgg9
 z9:=Tryz.sizeOf9
 v9:=Tryz.zeroValue9
 t28:=Tryz.underlying29
 a28:=Tryz.isAgg29
 z28:=Tryz.sizeOf29
 v28:=Tryz.zeroValue29
 t46:=Tryz.underlying104
 a46:=Tryz.isAgg104
 z46:=Tryz.sizeOf104
 v46:=Tryz.zeroValue104
 t51:=Tryz.underlying125
 a51:=Tryz.isAgg125
 z51:=Tryz.sizeOf125
 v51:=Tryz.zeroValue125
 t53:=Tryz.underlying127
 a53:=Tryz.isAgg127
 z53:=Tryz.sizeOf127
 v53:=Tryz.zeroValue127
 t131:=Tryz.underlying62
 a131:=Tryz.isAgg62
 z131:=Tryz.sizeOf62
 v131:=Tryz.zeroValue62
 t182:=Tryz.underlying118
 a182:=Tryz.isAgg118
 z182:=Tryz.sizeOf118
 v182:=Tryz.zeroValue118
 t183:=Tryz.underlying119
 a183:=Tryz.isAgg119
 z183:=Tryz.sizeOf119
 v183:=Tryz.zeroValue119
 t218:=Tryz.underlying137
 a218:=Tryz.isAgg137
 z218:=Tryz.sizeOf137
 v218:=Tryz.zeroValue137
 t222:=Tryz.underlying141
 a222:=Tryz.isAgg141
 z222:=Tryz.sizeOf141
 v222:=Tryz.zeroValue141
 t228:=Tryz.underlying151
 a228:=Tryz.isAgg151
 z228:=Tryz.sizeOf151
 v228:=Tryz.zeroValue151
 t229:=Tryz.underlying152
 a229:=Tryz.isAgg152
 z229:=Tryz.sizeOf152
 v229:=Tryz.zeroValue152 }
open Go.Sort Go.RowKit in
theorem Tryz.slices_Sort_int (blk off cap : Nat) (zs : List Int) (w : World) (hH : Holds (Value.int .i64) w blk off zs.toArray) (hblk : blk < w.heap.size) (hsz : zs.length < 4611686018427387904) :
  Calls Tryz.prog 141 #[.slice (some ⟨blk,off,none⟩) zs.length cap] w fun e w' =>
   e = .returned (.tuple #[]) ∧ ∃ n os,w' = grow (putRow (Value.int .i64) (Sort.ahead w n) blk off (zs.mergeSort fun x y=>decide (x ≤ y)).toArray) os:=Any.slices_Sort_int Tryz.lays189 blk off cap zs w hH hblk hsz
theorem Tryz.slices_Sort_int_none (p : Option Addr) (cap : Nat) (w : World) :
  Calls Tryz.prog 141 #[.slice p 0 cap] w fun e w'=>e = .returned (.tuple #[]) ∧ w' = w:=Any.slices_Sort_int_none Tryz.lays189 p cap w
def Tryz.keysA_ren : Go.Shelf.Ren:=⟨fun | 7=>135 | 10=>142 | n=>n,fun | 23=>75 | 26=>3 | 3=>4 | 28=>145 | 0=>0 | 27=>144 | 33=>155 | 4=>4 | n=>n,fun n=>n⟩
def Tryz.sortedA_ren : Go.Shelf.Ren:=⟨fun | 6=>134 | 8=>140 | 9=>141 | 11=>146 | 13=>93 | 12=>147 | 23=>120 | 24=>121 | 14=>148 | 15=>149 | 16=>150 | 17=>151 | 18=>152 | 19=>153 | 20=>154 | 21=>155 | 22=>156 | 25=>157 | 26=>130 | 27=>131 | 28=>158 | 29=>159 | 30=>160 | 31=>161 | n=>n,fun | 26=>3 | 28=>145 | 24=>29 | 0=>0 | 3=>3 | 37=>104 | 48=>125 | 50=>127 | 4=>4 | 40=>119 | 39=>118 | 45=>62 | 5=>5 | 9=>9 | 51=>137 | 55=>141 | 57=>151 | 58=>152 | 33=>155 | n=>n,fun n=>n⟩
theorem Tryz.keysA : SlLaysZI.n7 Tryz.prog Tryz.keysA_ren:={
 mixed:=by kernel_rfl
 f7 := ⟨"maps.Keys[map[int]bool,int,bool]", by decide, Tryz.func135.trans (congrArg some (by kernel_rfl))⟩
 f10 := ⟨"maps.Keys[map[int]bool,int,bool]$1", by decide, Tryz.func142.trans (congrArg some (by kernel_rfl))⟩
 t0:=Tryz.underlying0
 a0:=Tryz.isAgg0
 z0:=Tryz.sizeOf0
 v0:=Tryz.zeroValue0
 t4:=Tryz.underlying4
 a4:=Tryz.isAgg4
 z4:=Tryz.sizeOf4
 v4:=Tryz.zeroValue4
 t23:=Tryz.underlying75
 a23:=Tryz.isAgg75
 z23:=Tryz.sizeOf75
 v23:=Tryz.zeroValue75
 t26:=Tryz.underlying3
 a26:=Tryz.isAgg3
 z26:=Tryz.sizeOf3
 v26:=Tryz.zeroValue3
 t27:=Tryz.underlying144
 a27:=Tryz.isAgg144
 z27:=Tryz.sizeOf144
 v27:=Tryz.zeroValue144
 t28:=Tryz.underlying145
 a28:=Tryz.isAgg145
 z28:=Tryz.sizeOf145
 v28:=Tryz.zeroValue145
 t33:=Tryz.underlying155
 a33:=Tryz.isAgg155
 z33:=Tryz.sizeOf155
 v33:=Tryz.zeroValue155 }
theorem Tryz.sortedA : SlLaysZI.n6 Tryz.prog Tryz.sortedA_ren:={
 mixed:=by kernel_rfl
 f6 := ⟨"slices.Sorted[int]", by decide, Tryz.func134.trans (congrArg some (by kernel_rfl))⟩
 f8 := ⟨"slices.Collect[int]", by decide, Tryz.func140.trans (congrArg some (by kernel_rfl))⟩
 f11 := ⟨"slices.AppendSeq[[]int,int]", by decide, Tryz.func146.trans (congrArg some (by kernel_rfl))⟩
 t0:=Tryz.underlying0
 a0:=Tryz.isAgg0
 z0:=Tryz.sizeOf0
 v0:=Tryz.zeroValue0
 t24:=Tryz.underlying29
 a24:=Tryz.isAgg29
 z24:=Tryz.sizeOf29
 v24:=Tryz.zeroValue29
 t26:=Tryz.underlying3
 a26:=Tryz.isAgg3
 z26:=Tryz.sizeOf3
 v26:=Tryz.zeroValue3
 t28:=Tryz.underlying145
 a28:=Tryz.isAgg145
 z28:=Tryz.sizeOf145
 v28:=Tryz.zeroValue145
 i26:=by kernel_rfl }

theorem Tryz.sortsA (m : Nat) : AnyZI.SortsIn Tryz.prog Tryz.sortedA_ren Fence.wide m :=
 ⟨fun blk off cap ss W hH hblk hsz=>callsIn_wide.2 (Tryz.slices_Sort_int blk off cap ss W hH hblk hsz),
  fun p cap W=>callsIn_wide.2 (Tryz.slices_Sort_int_none p cap W)⟩
theorem Tryz.sortedKeys {H : Type} (bm b nn : Nat) (D0 : DataW H) (R : Value → Option (DataW H × List MemPlace)) (w : World) (hbm : bm < w.heap.size) (hm : w.cell? ⟨bm,0,none⟩ = some (.map (some b))) (hown : w.ownsMap Tryz.prog 3 R b nn D0) (hmax : Maps.size D0 ≤ maxLen) (hbytes : Maps.size D0 * 8 ≤ 140737488355328) :
  Calls Tryz.prog 134 #[.func (.func 142) #[] #[.pointer (some ⟨bm,0,none⟩)]] w fun e w'=>∃ (v : Value) (ss : List Int),e = .returned v ∧ ss.Perm (intKeys D0) ∧
   w'.ownsRow w.heap.size 3 1 v ss.length ((ss.mergeSort (fun x y=>decide (x ≤ y))).map encZ) ∧ (v = .slice none 0 0 ↔ ss = []) ∧ Below w.heap.size w w':=by
 have hseq : SeqGives Fence.wide 2 Tryz.prog 142 #[.pointer (some ⟨bm,0,none⟩)] encZ (fun ss=>ss.Perm (intKeys D0)) (Maps.size D0) w :=
  AnyZI.keys_gives (ρ:=Tryz.keysA_ren) { Tryz.keysA with } Fence.wide _ trivial rfl (by omega) bm b nn D0 _ hbm hm hown
 have cS:=AnyZI.sorted_in Tryz.sortedA Fence.wide 5 trivial trivial trivial trivial rfl (by omega) (Tryz.sortsA _) (enters_of Tryz.func141 (by kernel_rfl) rfl) 142 #[.pointer (some ⟨bm,0,none⟩)] trivial (enters_of Tryz.func142 (by kernel_rfl) rfl) _ _ hmax hbytes _ hseq
 exact callsIn_wide.1 cS
end Go.Proofs

namespace Go.Proofs
open Go Aw Go.WideElems Go.Maps Go.RowKit
set_option linter.unusedSimpArgs false
set_option linter.unusedVariables false
set_option maxRecDepth 100000
set_option maxHeartbeats 4000000
def intV : Value → Int
 | .int _ n=>n
 | _=>0
theorem set_owns {m : Mem} {ri : RI} {s : List Int} (hb : BlkRep m ri (setOf (fun n=>AV.int .i64 n) s)) (hwf : ∀ x ∈ s,(Lit.int .i64 x).wf = true) (hl : s.length ≤ 16777216) :
  ∃ D0 : DataW Unit,m.w.ownsMap Tryz.prog 3 (plainElem Tryz.prog 4) ri.b s.length D0 ∧ (intKeys D0).Perm s ∧ Maps.size D0 = s.length:=by
 obtain ⟨h1,h2,h3,es,clock,h4,h5,h6,h7⟩:=set_blk (keyOk_int .i64) hb
 have hlen : es.size = s.length:=by
  have:=congrArg List.length h5
  simpa using this
 have hkey : ∀ x ∈ es.toList,x.key = .int .i64 (intV x.key) ∧ (Lit.int .i64 (intV x.key)).wf = true:=by
  intro x hx
  have : x.key ∈ s.map (fun n : Int=>Value.int .i64 n):=by rw [← h5]; exact List.mem_map_of_mem hx
  obtain ⟨n,hn,e⟩:=List.mem_map.1 this
  rw [← e]
  exact ⟨rfl,hwf n hn⟩
 have hval : ∀ x ∈ es.toList,x.val = .bool true:=by
  intro x hx
  have : x.val ∈ s.map (fun _ : Int=>Value.bool true):=by rw [← h6]; exact List.mem_map_of_mem hx
  obtain ⟨n,hn,e⟩:=List.mem_map.1 this
  exact e.symm
 have hrd : ∀ x ∈ es.toList,rd Tryz.prog 3 (plainElem (H:=Unit) Tryz.prog 4) x = some (.int .i64 (intV x.key),.lit (.bool true)):=by
  intro x hx
  obtain ⟨k1,k2⟩:=hkey x hx
  have hk : keyOf Tryz.prog 3 x.key = some (.int .i64 (intV x.key)):=by
   generalize intV x.key = n at k1 k2
   rw [k1]
   simp [keyOf,Tryz.underlying3,mapKey,k2]
  have hv : plainElem (H:=Unit) Tryz.prog 4 x.val = some (.lit (.bool true),[]):=by rw [hval x hx]; exact plainElem_bool Tryz.underlying4 true
  exact rd_mk (born:=x.born) hk hv
 refine ⟨.map ((es.toList.map (rg Tryz.prog 3 (plainElem Tryz.prog 4))).foldr DataW.insert []),⟨es,clock,h4,⟨by rw [hlen]; simp only [maxLen]; omega,h7,fun x hx=>⟨_,hrd x hx⟩⟩,by rw [hlen]; exact Nat.le_refl _,rfl⟩,?_,?_⟩
 ·simp only [intKeys]
  refine ((Go.WideShapes.sorted_perm _).map _).trans ?_
  rw [List.map_map]
  have : es.toList.map ((fun p : Lit × DataW Unit=>Go.intOf p.1) ∘ rg Tryz.prog 3 (plainElem Tryz.prog 4)) = s:=by
   have e1 : es.toList.map ((fun p : Lit × DataW Unit=>Go.intOf p.1) ∘ rg Tryz.prog 3 (plainElem Tryz.prog 4)) = (es.toList.map (·.key)).map intV:=by
    rw [List.map_map]
    refine List.map_congr_left fun x hx=>?_
    simp only [Function.comp,rg_of (hrd x hx),Go.intOf]
   rw [e1,h5,List.map_map]
   have : (intV ∘ fun n : Int=>Value.int .i64 n) = id:=rfl
   rw [this,List.map_id]
  rw [this]
 ·simp only [Maps.size,length_sorted,List.length_map]
  simpa using hlen
def Mem.rowed (m : Mem) (w' : World) (g len : Nat) : Mem:={ m with w:=w',F:=fun b o=>m.F b o ∨ (b = g ∧ o < len) }
theorem rowed_ok {m : Mem} {hp : List (Nat × ABlk)} {nx : Nat} {w' : World} {g len : Nat} (hH : SimH m hp nx) (hbel : Below m.w.heap.size m.w w') (hg : 0 < len → m.w.heap.size ≤ g ∧ g < w'.heap.size) :
  m.le (Mem.rowed m w' g len) ∧ SimH (Mem.rowed m w' g len) hp nx:=by
 have hcell : ∀ b o,m.F b o → w'.cell? ⟨b,o,none⟩ = m.w.cell? ⟨b,o,none⟩:=fun b o hf=>cell?_of_block (hbel.block b (hH.Fold b o hf))
 refine ⟨⟨hbel.os,hbel.tape,hbel.output,hbel.size,rfl,fun b hb=>hbel.block b (hH.Pold b hb),fun _ _ h=>.inl h,hcell,fun b o hb hf=>?_,rfl,fun _ _ _ h=>h⟩,?_⟩
 ·rcases hf with hf | ⟨rfl,ho⟩
  ·exact hf
  ·have:=hH.Pold _ hb
   have:=hg (by omega)
   omega
 ·refine ⟨fun id x hx=>?_,hH.apart,hH.fresh,fun b o hf=>?_,fun b hb=>Nat.lt_of_lt_of_le (hH.Pold b hb) hbel.size⟩
  ·obtain ⟨ri,h1,h2⟩:=hH.blk id x hx
   refine ⟨ri,h1,?_⟩
   have hm : MapOk m (Mem.rowed m w' g len) (fun i=>i):=⟨fun _ h=>h,fun b hb=>hbel.block b (hH.Pold b hb),fun _ _ h=>.inl h,hcell,fun _ _ h=>h⟩
   have:=BlkRep.map hm (fun hn=>hbel.block ri.b (h2.lt hn)) (fun hn=>h2.noPr hn) (fun hn o hf=>by
    rcases hf with hf | ⟨e,ho⟩
    ·exact hf
    ·have:=h2.lt hn
     have:=hg (by omega)
     omega) h2
   rw [renB_id] at this
   exact this
  ·rcases hf with hf | ⟨rfl,ho⟩
   ·exact Nat.lt_of_lt_of_le (hH.Fold b o hf) hbel.size
   ·exact (hg (by omega)).2
end Go.Proofs

namespace Go.Proofs
open Go Aw
set_option linter.unusedSimpArgs false
set_option linter.unusedVariables false
set_option maxRecDepth 100000
set_option maxHeartbeats 4000000
theorem noTL_VI : ∀ l : List (Int × Itm),noTL (l.map fun p=>VI p.2) = true
 | []=>rfl
 | p :: l=>by simp only [List.map_cons,noTL,VI,noT,Itm.cells,Bool.and_self,Bool.true_and]; exact noTL_VI l
theorem noTL_KI : ∀ l : List (Int × Itm),noTL (l.map fun p=>KI p.1) = true
 | []=>rfl
 | p :: l=>by simp only [List.map_cons,noTL,noT,Bool.true_and]; exact noTL_KI l
theorem noTBm_net (l : List (Int × Itm)) : noTBm (mapOf KI VI l) = true:=by simp only [mapOf,noTBm,noTL_VI,noTL_KI,Bool.and_self]
attribute [local go_sem ↓ high] noTBm_net
attribute [local go_sem] mres netL_nil VI leadI leadB
theorem c_graph_leads (gl : List (Nat × AV)) (l : List Itm) (o : Pob) : FnP Tryz.prog (gl) 137 [cmapOf KI VI (netL l),.agg o.cells] fun r=>r = .ret (.tup [.agg (leadI l o).cells,.bool (leadB l o)]):=by
 refine FnP.intro Tryz.func137 rfl rfl (by simp [Tryz.ntmps137]) ?_
 simp only [argEnv,Tryz.ntmps137,Tryz.results137]
 refine AW.rS ?_
 refine AW.rSC ?_
 refine awOps.cons ?_
 refine awGuard.lkC (keyOk_int .i64) Itm.zero zero_itm rfl ?_
 refine awOps.rn ?_
 refine AW.sS [0,1,2,3,4,5,6,7,8] 9 [(10,2)] [(0,.cells o.cells),(1,.cells (leadI l o).cells),(2,.cells (leadI l o).cells)] ?_
 refine awFunE.p ?_
 refine awFunE.p ?_
 refine awFunE.p ?_
 refine awFunE.p ?_
 refine awFunE.p ?_
 refine awFunE.p ?_
 refine awFunE.p ?_
 refine awFunE.p ?_
 refine awFunE.p ?_
 rw [Aw.awFunE_nil]
 refine ⟨EffAt.of [4,15],?_⟩
 refine awPlan.rn ?_
 refine AW.rt ?_
 simp only [Bool.cond_false_right]; rfl
theorem h_graph_refs (gl : List (Nat × AV)) (o : Pob) : FnH Tryz.prog (gl) 136 [.agg o.cells] ([]) 0 (fun r h n=>r = .ret (.clos 143 [.ptr 0 0]) ∧ h = [(0,.cells o.cells)] ∧ n = 1):=by
 refine FnH.intro Tryz.func136 rfl rfl (by simp [Tryz.ntmps136]) ?_
 simp only [argEnv,Tryz.ntmps136,Tryz.results136]
 refine AW.rS ?_
 refine AW.rS ?_
 refine AW.rt ?_
 all_goals first | contradiction | rfl | (simp; done) | (simp; omega)
theorem h_graph_of (gl : List (Nat × AV)) (d : Dc) (hv : docE d = 0) (h : d.bulk ≤ 16777216) : FnH Tryz.prog (gl) 122 [.agg d.cells] ([]) 0 (fun r h n=>r = .ret (.tup [.map 0,.bool true]) ∧ h = [(0,mapOf KI VI (netL d.items))] ∧ n = 1):=by
 refine FnH.intro Tryz.func122 rfl rfl (by simp [Tryz.ntmps122]) ?_
 simp only [argEnv,Tryz.ntmps122,Tryz.results122]
 have hs:=items_incr (docE_items hv)
 have hb : d.bulk = ibulk d.items + d.trailer.bulk:=rfl
 have hl:=ibulk_len d.items
 refine AW.rS ?_
 refine AW.seq ?_
 refine AW.rSC ?_
 refine awOps.cons (awGuard.c1 (c_docs_Check _ d h) ?_)
 refine awOps.rn ?_
 refine AW.c2 ?_ ?_
 ·intro h6
  exact absurd hv h6
 ·intro h6
  refine AW.skip ?_
  refine AW.rSC ?_
  refine awOps.cons ?_
  refine awGuard.mkM VI (keyOk_int .i64) ?_
  refine awOps.rn ?_
  refine AW.seq ?_
  refine AW.rS ?_
  refine AW.block ?_
  refine AW.lk (S:={ k : Nat // k ≤ d.items.length }) [4,15,16] (fun s_=>[(17,.int .i64 s_.1)]) (fun s_=>[(0,.cells d.cells),(1,mapOf KI VI (netL (d.items.take s_.1)))]) 2 (fun s_=>d.items.length - s_.1) ⟨0,Nat.zero_le _⟩ ?_ ?_
  ·refine St.le.vw [0,1]
  rintro ⟨k,hk⟩
  try dsimp only at hk
  refine AW.rS ?_
  refine AW.seq ?_
  refine AW.c2 ?_ ?_
  ·intro h20
   refine AW.skip ?_
   refine AW.seq ?_
   refine AW.block ?_
   refine AW.rS ?_
   refine AW.rLC ?_
   refine awOps.cons ?_
   refine awGuard.upM (keyOk_int .i64) (d.items.getD k Itm.zero) ?_
   refine awOps.rn ?_
   refine AW.rL ?_
   refine ⟨⟨k + 1,by omega⟩,?_,?_⟩
   ·refine St.le.vx [0,1] ?_
    rw [netL_new hs (by omega)]
   ·simp only []; omega
  ·intro h20
   refine AW.exit ?_
   obtain rfl : k = d.items.length:=by omega
   rw [List.take_length]
   refine AW.rS ?_
   refine AW.pre (σ':=⟨27,[(2,.map 0),(3,.bool true)],[(0,mapOf KI VI (netL d.items))],1,gl,0,[]⟩) (St.le.vw [1]) ?_
   refine AW.rt ?_
   all_goals first | contradiction | rfl | (simp; done) | (simp; omega)
end Go.Proofs

namespace Go.Proofs
open Go Aw
set_option linter.unusedSimpArgs false
set_option linter.unusedVariables false
set_option maxRecDepth 100000
set_option maxHeartbeats 4000000
attribute [local go_sem] take_strsAV app1_strsAV take_intsAV drop_intsAV app_intsAV app1_intsAV take_itemsAV app_itemsAV app1_itemsAV
attribute [local go_sem ↓ high] noTBm_net
theorem rids_cmapOf {κ ν : Type} {K : κ → AV} {V : ν → AV} (hp : List (Nat × ABlk)) (l : List (κ × ν)) (xs : List AV) : List.flatMap (rids hp 9) (cmapOf K V l :: xs) = List.flatMap (rids hp 9) xs:=rfl
attribute [local go_sem] mres VI
attribute [local go_sem ↓ high] rids_cmapOf
theorem other_step (gl : List (Nat × AV)) (N : Nat) (hN : N ≤ 16777216) (d : Dc) (h : d.bulk ≤ 16777216) (M : List (Int × Itm)) (hM : ∀ n,0 ≤ (foundI M n).num ∧ (foundI M n).num ≤ 16777216) (ih : ∀ (o' : Pob) (dd : Int),o'.bulk < N → chk o' dd = 0 → FnP Tryz.prog gl 34 [cmapOf KI VI M,.agg d.cells,.agg o'.cells] fun r=>r = .ret (.agg (o'.turn (turnM d.items M)).cells)) (o : Pob) (dd : Int) (hb : o.bulk ≤ N) (hc : chk o dd = 0) : FnP Tryz.prog (gl) 34 [cmapOf KI VI M,.agg d.cells,.agg o.cells] fun r=>r = .ret (.agg (o.turn (turnM d.items M)).cells):=by
 refine FnP.intro Tryz.func34 rfl rfl (by simp [Tryz.ntmps34]) ?_
 simp only [argEnv,Tryz.ntmps34,Tryz.results34]
 have hkl : o.kids.length ≤ o.bulk:=by have:=Pob.bulk_eq o; omega
 refine AW.rS ?_
 refine AW.trim [0,4,5,6] ?_
 refine AW.seq ?_
 refine AW.rS ?_
 refine AW.trim [0,4,5,6,16] ?_
 refine AW.c2 ?_ ?_
 ·intro h4
  have h8 : o.kind = 8:=by simpa using h4
  have htr : o.turn (turnM d.items M) = turnM d.items M o:=turn_ref h8
  refine AW.rSC ?_
  refine awOps.cons (awGuard.c1 (c_shift_leads _ d o h) ?_)
  refine awOps.rn ?_
  refine AW.trim [0,6,7,8] ?_
  refine AW.seq ?_
  refine AW.rS ?_
  refine AW.trim [0,6,7,24] ?_
  refine AW.c2 ?_ ?_
  ·intro h10
   refine AW.rSC ?_
   refine awOps.cons (awGuard.c1 (c_value_Null ..) ?_)
   refine awOps.rn ?_
   refine AW.trim [6] ?_
   refine AW.rt ?_
   rw [htr,turnM,if_neg (by simpa using h10)]
  ·intro h10
   have hl : ledB d.items o = true:=by simpa using h10
   refine AW.skip ?_
   refine AW.rSC ?_
   refine awOps.cons ?_
   refine awGuard.lkC (keyOk_int .i64) Itm.zero zero_itm rfl ?_
   refine awOps.rn ?_
   refine AW.trim [6,9] ?_
   have hMo:=hM o.num
   rw [show (mfind M (ledI d.items o).num).getD Itm.zero = foundI M o.num from by rw [(led_mem hl).2.1]; rfl]
   refine AW.rSC ?_
   refine awOps.cons (awGuard.c1 (c_value_Ref _ (foundI M o.num).num (foundI M o.num).gen) ?_)
   refine awOps.rn ?_
   refine AW.trim [6] ?_
   refine AW.rt ?_
   rw [htr,turnM,if_pos hl]
 ·intro h4
  have h8 : o.kind ≠ 8:=by simpa using h4
  refine AW.skip ?_
  refine AW.rS ?_
  refine AW.trim [0,4,5,6,10] ?_
  refine AW.rS ?_
  refine AW.trim [0,4,5,6,10] ?_
  refine AW.seq ?_
  refine AW.rS ?_
  refine AW.trim [0,4,5,6,10,39,40,41] ?_
  refine AW.pre (St.le.nilcell 3 4 1 (by (simp only [go_sem,seval]; iterate 2 try (simp (disch:=omega) only [zq]; try simp only [go_sem,seval])); exact rfl) (by exact rfl)) ?_
  refine wk ?_
  refine AW.pre (St.le.nilcell 3 5 6 (by (simp only [go_sem,seval]; iterate 2 try (simp (disch:=omega) only [zq]; try simp only [go_sem,seval])); exact rfl) (by exact rfl)) ?_
  refine wk ?_
  refine AW.block ?_
  refine AW.lk (S:={ i : Nat // i ≤ o.kids.length }) [0,4,5,6,10,39,40] (fun s_=>[(41,.int .i64 (s_.1 : Int))]) (fun s_=>[(0,.cells [.sl (itemsAV d.items),.int .i64 d.trailer.kind,.int .i64 d.trailer.num,.int .i64 d.trailer.gen,.str d.trailer.str,.sl (strsAV d.trailer.keys),.sl (objsAV d.trailer.kids)]),(1,.cells [.int .i64 (o).kind,.int .i64 (o).num,.int .i64 (o).gen,.str (o).str,.sl (strsAV (o).keys),.sl (objsAV (o).kids)]),(2,.cells [.int .i64 0,.int .i64 0,.int .i64 0,.str [],.raw (.slice none 0 0),.raw (.slice none 0 0)]),(3,.cells [.int .i64 o.kind,.int .i64 o.num,.int .i64 o.gen,.str o.str,.row 4 0 (turnK (turnM d.items M) o s_.1).length,.row 5 0 (turnV (turnM d.items M) o s_.1).length]),(4,.row 1 (strsAV (turnK (turnM d.items M) o s_.1)) true),(5,.row 6 (objsAV (turnV (turnM d.items M) o s_.1)) true)]) 6 (fun s_=>o.kids.length - s_.1) ⟨0,Nat.zero_le _⟩ ?_ ?_
  ·refine St.le.vx [0,1,2,3,4,5] ?_
   rw [turn_none.1,turn_none.2] <;> exact ⟨rfl,rfl,rfl⟩
  rintro ⟨i,hi⟩
  try dsimp only at hi
  refine AW.rS ?_
  refine AW.trim [0,4,5,6,10,39,40,41,42] ?_
  refine AW.seq ?_
  refine AW.c2 ?_ ?_
  ·intro h34
   have hi2 : i < o.kids.length:=by omega
   have hkb:=Pob.bulk_kid hi2
   have hck:=(chk_iff.1 hc).2 _ (getD_kid hi2)
   have htl:=turnV_len (f:=turnM d.items M) (o:=o) (i:=i)
   refine AW.skip ?_
   refine AW.seq ?_
   refine AW.block ?_
   refine AW.rS ?_
   refine AW.trim [0,4,5,6,10,11,12,39,40,41] ?_
   refine AW.rSC ?_
   refine awOps.cons (awGuard.c1 (ih (o.kids.getD i Pob.null) (dd + 1) (by omega) hck) ?_)
   refine awOps.rn ?_
   refine AW.trim [0,4,5,6,10,11,13,39,40,41] ?_
   refine AW.seq ?_
   refine AW.rS ?_
   refine AW.trim [0,4,5,6,10,11,13,39,40,41,52] ?_
   refine AW.c2 ?_ ?_
   ·intro h44
    have h6 : o.kind ≠ 6:=by simpa using h44
    have hkey:=keys_enough hc h6 hi2
    obtain ⟨s1,s2⟩:=turn_dict_step (f:=turnM d.items M) h6 hi2 hkey
    refine AW.seq ?_
    refine AW.rS ?_
    refine AW.trim [0,4,5,6,10,11,13,39,40,41,55] ?_
    refine AW.c2 ?_ ?_
    ·intro h47
     rw [if_pos (by simpa using h47),List.append_nil] at s1 s2
     refine AW.exit ?_
     refine AW.rL ?_
     refine ⟨⟨i + 1,by omega⟩,?_,?_⟩
     ·refine St.le.vx [0,1,2,3,4,5] ?_
      rw [s1,s2] <;> exact ⟨rfl,rfl,rfl⟩
     ·simp only []; omega
    ·intro h47
     rw [if_neg (by simpa using h47)] at s1 s2
     refine AW.skip ?_
     refine AW.tGL (σf:=?sf52) (.take 0 0 (.take 2 0 (.take 4 0 (.take 3 2 (.fork 1 (.fork 5 (.take 6 2 (.fork 7 (.fork 8 (.take 9 0 (.fork 10 .done .stop)) .stop) .stop)) .stop) (.fork 5 (.take 6 2 (.fork 1 (.fork 7 (.fork 8 (.take 9 0 (.fork 10 .done .stop)) .stop) .stop) (.fork 7 (.take 1 2 (.fork 8 (.take 9 0 (.fork 10 .done .stop)) .stop)) .stop))) .stop)))))) ?tree52 ?rest52
     case tree52 =>
      repeat' (first | exact True.intro | refine awTree.tk ?_ | refine awTree.fA ?_ ?_ | refine awTree.fB ?_ ?_ | refine awTree.fK ?_ ?_ | exact awTree.dn)
     case rest52 =>
     refine AW.rL ?_
     refine AW.rL ?_
     refine ⟨⟨i + 1,by omega⟩,?_,?_⟩
     ·refine St.le.vx [0,1,2,3,9,11] ?_
      rw [s1,s2]; exact ⟨by simp,by first | rfl | simp [strsAV],by first | rfl | rw [← app1_objsAV]⟩
     ·simp only []; omega
   ·intro h44
    have h6 : o.kind = 6:=by simpa using h44
    obtain ⟨s1,s2⟩:=turn_arr_step (f:=turnM d.items M) h6 hi2
    refine AW.skip ?_
    refine AW.rL ?_
    refine AW.rL ?_
    refine ⟨⟨i + 1,by omega⟩,?_,?_⟩
    ·refine St.le.vx [0,1,2,3,4,9] ?_
     rw [s1,s2]; exact ⟨by simp,by first | rfl | simp [strsAV],by first | rfl | rw [← app1_objsAV]⟩
    ·simp only []; omega
  ·intro h34
   refine AW.exit ?_
   refine AW.rS ?_
   refine AW.trim [6] ?_
   refine AW.rt ?_
   rw [turn_done (i:=i) h8 (by omega)]
   rfl
theorem other_all (gl : List (Nat × AV)) (d : Dc) (h : d.bulk ≤ 16777216) (M : List (Int × Itm)) (hM : ∀ n,0 ≤ (foundI M n).num ∧ (foundI M n).num ≤ 16777216) (N : Nat) : N ≤ 16777216 → ∀ (o : Pob) (dd : Int),o.bulk ≤ N → chk o dd = 0 → FnP Tryz.prog gl 34 [cmapOf KI VI M,.agg d.cells,.agg o.cells] fun r=>r = .ret (.agg (o.turn (turnM d.items M)).cells):=by
 induction N using Nat.strongRecOn with
 | ind N IH=>exact fun hN o dd ho hc=>other_step gl N hN d h M hM (fun o' dd' h' hc'=>IH o'.bulk h' (by omega) o' dd' (Nat.le_refl _) hc') o dd ho hc
theorem c_shift_other (gl : List (Nat × AV)) (d : Dc) (o : Pob) (M : List (Int × Itm)) (dd : Int) (h : d.bulk ≤ 16777216) (hM : ∀ n,0 ≤ (foundI M n).num ∧ (foundI M n).num ≤ 16777216) (ho : o.bulk ≤ 16777216) (hc : chk o dd = 0) : FnP Tryz.prog gl 34 [cmapOf KI VI M,.agg d.cells,.agg o.cells] fun r=>r = .ret (.agg (o.turn (turnM d.items M)).cells) :=
 other_all gl d h M hM 16777216 (Nat.le_refl _) o dd ho hc
end Go.Proofs

namespace Go.Proofs
open Go.Shelf Go.RowKit Go.Lib Go.Sort
def Tryz.sortItems_ren : Go.Shelf.Ren:=⟨fun | 6=>61 | 15=>93 | 14=>92 | 28=>120 | 29=>121 | 20=>112 | 21=>113 | 22=>114 | 23=>115 | 24=>116 | 25=>117 | 26=>118 | 27=>119 | 46=>129 | 47=>130 | 48=>131 | 49=>132 | 50=>133 | 57=>139 | n=>n,fun | 22=>22 | 24=>45 | 25=>81 | 3=>3 | 39=>104 | 0=>0 | 53=>125 | 55=>127 | 4=>4 | 46=>119 | 45=>118 | 50=>62 | 5=>5 | 9=>9 | 66=>137 | 70=>141 | 76=>151 | 77=>152 | n=>n,fun n=>n⟩
theorem Tryz.sortItems : SlLaysF0.n6 Tryz.prog Tryz.sortItems_ren:={
 mixed:=by kernel_rfl
 f6 := ⟨"slices.SortFunc[[]foliant/api.Item,foliant/api.Item]", by decide, Tryz.func61.trans (congrArg some (by kernel_rfl))⟩
 f14 := ⟨"slices.pdqsortCmpFunc[foliant/api.Item]", by decide, Tryz.func92.trans (congrArg some (by kernel_rfl))⟩
 f20 := ⟨"slices.insertionSortCmpFunc[foliant/api.Item]", by decide, Tryz.func112.trans (congrArg some (by kernel_rfl))⟩
 f21 := ⟨"slices.heapSortCmpFunc[foliant/api.Item]", by decide, Tryz.func113.trans (congrArg some (by kernel_rfl))⟩
 f22 := ⟨"slices.breakPatternsCmpFunc[foliant/api.Item]", by decide, Tryz.func114.trans (congrArg some (by kernel_rfl))⟩
 f23 := ⟨"slices.choosePivotCmpFunc[foliant/api.Item]", by decide, Tryz.func115.trans (congrArg some (by kernel_rfl))⟩
 f24 := ⟨"slices.reverseRangeCmpFunc[foliant/api.Item]", by decide, Tryz.func116.trans (congrArg some (by kernel_rfl))⟩
 f25 := ⟨"slices.partialInsertionSortCmpFunc[foliant/api.Item]", by decide, Tryz.func117.trans (congrArg some (by kernel_rfl))⟩
 f26 := ⟨"slices.partitionEqualCmpFunc[foliant/api.Item]", by decide, Tryz.func118.trans (congrArg some (by kernel_rfl))⟩
 f27 := ⟨"slices.partitionCmpFunc[foliant/api.Item]", by decide, Tryz.func119.trans (congrArg some (by kernel_rfl))⟩
 f46 := ⟨"slices.siftDownCmpFunc[foliant/api.Item]", by decide, Tryz.func129.trans (congrArg some (by kernel_rfl))⟩
 f49 := ⟨"slices.medianAdjacentCmpFunc[foliant/api.Item]", by decide, Tryz.func132.trans (congrArg some (by kernel_rfl))⟩
 f50 := ⟨"slices.medianCmpFunc[foliant/api.Item]", by decide, Tryz.func133.trans (congrArg some (by kernel_rfl))⟩
 f57 := ⟨"slices.order2CmpFunc[foliant/api.Item]", by decide, Tryz.func139.trans (congrArg some (by kernel_rfl))⟩
 f15:=Tryz.func93.trans (congrArg some (by kernel_rfl))
 f28:=Tryz.func120.trans (congrArg some (by kernel_rfl))
 f29:=Tryz.func121.trans (congrArg some (by kernel_rfl))
 f47:=Tryz.func130.trans (congrArg some (by kernel_rfl))
 f48:=Tryz.func131.trans (congrArg some (by kernel_rfl))
 t0:=Tryz.underlying0
 a0:=Tryz.isAgg0
 z0:=Tryz.sizeOf0
 v0:=Tryz.zeroValue0
 t3:=Tryz.underlying3
 a3:=Tryz.isAgg3
 z3:=Tryz.sizeOf3
 v3:=Tryz.zeroValue3
 t4:=Tryz.underlying4
 a4:=Tryz.isAgg4
 z4:=Tryz.sizeOf4
 v4:=Tryz.zeroValue4
 t5:=Tryz.underlying5
 a5:=Tryz.isAgg5
 z5:=Tryz.sizeOf5
 v5:=Tryz.zeroValue5
 t9:=Tryz.underlying9
 a9:=Tryz.isAgg9
 z9:=Tryz.sizeOf9
 v9:=Tryz.zeroValue9
 t22:=Tryz.underlying22
 a22:=Tryz.isAgg22
 z22:=Tryz.sizeOf22
 v22:=Tryz.zeroValue22
 t25:=Tryz.underlying81
 a25:=Tryz.isAgg81
 z25:=Tryz.sizeOf81
 v25:=Tryz.zeroValue81
 t39:=Tryz.underlying104
 a39:=Tryz.isAgg104
 z39:=Tryz.sizeOf104
 v39:=Tryz.zeroValue104
 t45:=Tryz.underlying118
 a45:=Tryz.isAgg118
 z45:=Tryz.sizeOf118
 v45:=Tryz.zeroValue118
 t46:=Tryz.underlying119
 a46:=Tryz.isAgg119
 z46:=Tryz.sizeOf119
 v46:=Tryz.zeroValue119
 t50:=Tryz.underlying62
 a50:=Tryz.isAgg62
 z50:=Tryz.sizeOf62
 v50:=Tryz.zeroValue62
 t53:=Tryz.underlying125
 a53:=Tryz.isAgg125
 z53:=Tryz.sizeOf125
 v53:=Tryz.zeroValue125
 t55:=Tryz.underlying127
 a55:=Tryz.isAgg127
 z55:=Tryz.sizeOf127
 v55:=Tryz.zeroValue127
 t66:=Tryz.underlying137
 a66:=Tryz.isAgg137
 z66:=Tryz.sizeOf137
 v66:=Tryz.zeroValue137
 t70:=Tryz.underlying141
 a70:=Tryz.isAgg141
 z70:=Tryz.sizeOf141
 v70:=Tryz.zeroValue141
 t76:=Tryz.underlying151
 a76:=Tryz.isAgg151
 z76:=Tryz.sizeOf151
 v76:=Tryz.zeroValue151
 t77:=Tryz.underlying152
 a77:=Tryz.isAgg152
 z77:=Tryz.sizeOf152
 v77:=Tryz.zeroValue152 }
end Go.Proofs

namespace Go.Proofs
open Go.Shelf Go.RowKit Go.Lib Go.Sort
set_option maxRecDepth 100000
structure RawI where
 num : Int
 gen : Int
 kind : Int
 n : Int
 g : Int
 s : ByteArray
 k1 : Option Addr
 k2 : Nat
 k3 : Nat
 o1 : Option Addr
 o2 : Nat
 o3 : Nat
 ok : 0 ≤ num ∧ num ≤ 16777216
instance : Inhabited RawI:=⟨⟨0,0,0,0,0,.empty,none,0,0,none,0,0,by decide⟩⟩
def RawI.enc (x : RawI) : List Value:=[.int .i64 x.num,.int .i64 x.gen,.int .i64 x.kind,.int .i64 x.n,.int .i64 x.g,.string x.s,.slice x.k1 x.k2 x.k3,.slice x.o1 x.o2 x.o3]
set_option maxHeartbeats 4000000 in
theorem rawCmp (x y : RawI) (W : World) : Calls Tryz.prog 62 #[.agg #[.int .i64 x.num,.int .i64 x.gen,.int .i64 x.kind,.int .i64 x.n,.int .i64 x.g,.string x.s,.slice x.k1 x.k2 x.k3,.slice x.o1 x.o2 x.o3],.agg #[.int .i64 y.num,.int .i64 y.gen,.int .i64 y.kind,.int .i64 y.n,.int .i64 y.g,.string y.s,.slice y.k1 y.k2 y.k3,.slice y.o1 y.o2 y.o3]] W fun e w'=>e = .returned (.int .i64 (x.num - y.num)) ∧ ∃ q os',w' = grow (W.drewN q) os':=by
 have h1:=x.ok
 have h2:=y.ok
 have hw : IntKind.i64.wrap (x.num - y.num) = x.num - y.num:=by simp [IntKind.wrap,IntKind.bits,IntKind.signed]; omega
 go_enter Tryz.func62,Tryz.ntmps62
 go_wp2
 go_ret
 exact ⟨rfl,0,_,by rw [alloc_eq_grow,alloc_eq_grow,grow_grow]; rfl⟩
theorem rawLays (blk off size : Nat) (w : World) : CmpLays Tryz.prog 62 #[] RawI.enc 8 (fun x y=>x.num - y.num) blk off size w :=
 fun _ _ _ _ x y=>rawCmp x y _
theorem rawLt (x y : RawI) : ltOf (fun x y : RawI=>x.num - y.num) x y = decide (x.num < y.num):=by
 show decide (x.num - y.num < 0) = _
 exact decide_eq_decide.2 (by omega)
theorem rawSwo : SWO (ltOf fun x y : RawI=>x.num - y.num) where
 irrefl x:=by rw [rawLt]; simp
 trans x y z h1 h2:=by rw [rawLt] at *; simp at *; omega
 ntrans x y z h1 h2:=by rw [rawLt] at *; simp at *; omega
theorem sortRaw (blk off cap : Nat) (d : Array RawI) (w : World) (hH : HoldsK RawI.enc 8 w blk off d) (hblk : blk < w.heap.size) (hsz : d.size < 4611686018427387904) :
  Calls Tryz.prog 61 #[.slice (some ⟨blk,off,none⟩) d.size cap,.func (.func 62) #[] #[]] w fun e w'=>e = .returned (.tuple #[]) ∧ ∃ d' n os,PermIn 0 d.size d d' ∧ SortedIn (ltOf fun x y : RawI=>x.num - y.num) 0 d.size d' ∧ w' = sortWorldK RawI.enc 8 w blk off n d' os :=
 AnyQ.slices_SortFunc Tryz.sortItems 8 Tryz.isAgg45 Tryz.sizeOf45 RawI.enc (fun _=>rfl) (fun x v hv=>by simp [RawI.enc] at hv; rcases hv with rfl | rfl | rfl | rfl | rfl | rfl | rfl | rfl <;> rfl) (fun x y=>x.num - y.num) rawSwo 62 #[] blk off cap d w (enters_of Tryz.func62 (by kernel_rfl) rfl) (rawLays blk off d.size w) hH hblk hsz
theorem sortNone (p : Option Addr) (cap : Nat) (fv : Value) (w : World) : Calls Tryz.prog 61 #[.slice p 0 cap,fv] w fun e w'=>e = .returned (.tuple #[]) ∧ w' = w:=AnyF.slices_SortFunc_none Tryz.sortItems p cap fv w
end Go.Proofs

namespace Go.Proofs
open Go Aw Go.RowKit Go.Sort
set_option maxRecDepth 100000
set_option maxHeartbeats 4000000
theorem perm_lift {α β : Type} (f : β → α) {a b : List α} (h : a.Perm b) : ∀ z : List β,z.map f = a → ∃ z' : List β,z.Perm z' ∧ z'.map f = b:=by
 induction h with
 | nil=>exact fun z hz=>⟨z,.refl _,hz⟩
 | cons x _ ih =>
  intro z hz
  cases z with
  | nil=>cases hz
  | cons y z =>
   rw [List.map_cons] at hz
   injection hz with h1 h2
   obtain ⟨z',p,e⟩:=ih z h2
   exact ⟨y :: z',.cons y p,by rw [List.map_cons,h1,e]⟩
 | swap x y l =>
  intro z hz
  match z,hz with
  | u :: v :: z,hz =>
   simp only [List.map_cons] at hz
   injection hz with h1 h2
   injection h2 with h2 h3
   exact ⟨v :: u :: z,.swap v u z,by simp only [List.map_cons,h1,h2,h3]⟩
 | trans _ _ ih1 ih2 =>
  intro z hz
  obtain ⟨z1,p1,e1⟩:=ih1 z hz
  obtain ⟨z2,p2,e2⟩:=ih2 z1 e1
  exact ⟨z2,p1.trans p2,e2⟩
theorem raw_at {m : Mem} {i : Itm} {vs : List Value} (h : RepL m 2 i.cells vs) (hr : 0 ≤ i.num ∧ i.num ≤ 16777216) : ∃ x : RawI,x.enc = vs ∧ x.num = i.num:=by
 simp only [Itm.cells,RepL,Rep] at h
 obtain ⟨_,_,rfl,rfl,_,_,rfl,rfl,_,_,rfl,rfl,_,_,rfl,rfl,_,_,rfl,rfl,_,_,rfl,rfl,a,_,rfl,ha,b,_,rfl,hb,rfl⟩:=h
 have sl : ∀ (es : List (List AV)) (v : Value),((es = [] ∧ ∃ a c,v = .slice a 0 c) ∨ (∃ b o c sz,v = .slice (some ⟨b,o,none⟩) es.length c ∧ es.length ≤ c ∧ RepE m es b o sz)) → ∃ a n c,v = .slice a n c:=by
  rintro es v (⟨_,a,c,rfl⟩ | ⟨b,o,c,sz,rfl,_⟩)
  ·exact ⟨_,_,_,rfl⟩
  ·exact ⟨_,_,_,rfl⟩
 obtain ⟨a1,a2,a3,rfl⟩:=sl _ _ ha
 obtain ⟨b1,b2,b3,rfl⟩:=sl _ _ hb
 exact ⟨⟨i.num,i.gen,i.obj.kind,i.obj.num,i.obj.gen,⟨i.obj.str.toArray⟩,a1,a2,a3,b1,b2,b3,hr⟩,rfl,rfl⟩
theorem flat_at : ∀ (d : List RawI) (t : Nat),t < d.length * 8 → (d.flatMap RawI.enc)[t]? = (RawI.enc (d.getD (t / 8) default))[t % 8]?
 | [],t,h=>by simp at h
 | x :: r,t,h=>by
  rw [List.flatMap_cons]
  have e8 : (RawI.enc x).length = 8:=rfl
  rw [List.length_cons] at h
  by_cases ht : t < 8
  ·rw [List.getElem?_append_left (by omega),Nat.div_eq_of_lt ht,Nat.mod_eq_of_lt ht]
   rfl
  ·rw [List.getElem?_append_right (by omega),e8,flat_at r (t - 8) (by omega),show t / 8 = (t - 8) / 8 + 1 by omega,show t % 8 = (t - 8) % 8 by omega]
   rfl
theorem flatK_at (d : Array RawI) {t : Nat} (h : t < d.size * 8) : (flatK RawI.enc 8 d)[t]! = (RawI.enc (d.toList.getD (t / 8) default))[t % 8]!:=by
 rw [get_flatK _ _ _ _ h]
 have : d[t / 8]! = d.toList.getD (t / 8) default:=by simp [List.getD,show t / 8 < d.size by omega]
 rw [this]
theorem repL_flat {m : Mem} : ∀ z : List (Itm × RawI),(∀ p ∈ z,RepL m 2 p.1.cells p.2.enc) → RepL m 2 (itemsAV (z.map Prod.fst)).flatten ((z.map Prod.snd).flatMap RawI.enc)
 | [],_=>by simp [itemsAV,RepL]
 | p :: z,h=>by
  have:=repL_flat z fun q hq=>h q (List.mem_cons_of_mem _ hq)
  simp only [itemsAV,List.map_cons,List.flatten_cons,List.flatMap_cons]
  exact RepL.append (h p List.mem_cons_self) this
theorem put_row {c : Array Value} {o n : Nat} {d : Array RawI} (hn : d.size = n) (h : o + n * 8 ≤ c.size) : ((putCells (id : Value → Value) o (flatK RawI.enc 8 d) c).toList.drop o).take (n * 8) = d.toList.flatMap RawI.enc:=by
 have hfl : (d.toList.flatMap RawI.enc).length = n * 8:=by
  rw [List.length_flatMap]
  have : d.toList.map (fun x=>(RawI.enc x).length) = List.replicate n 8:=by
   rw [← hn,← Array.length_toList]
   induction d.toList with
   | nil=>rfl
   | cons x l ih=>rw [List.map_cons,ih] <;> rfl
  rw [this,List.sum_replicate_nat]
 refine List.ext_getElem? fun t=>?_
 by_cases ht : t < n * 8
 ·rw [List.getElem?_take_of_lt ht,List.getElem?_drop,Array.getElem?_toList,flat_at _ _ (by simpa [hn] using ht)]
  have h1 : (putCells (id : Value → Value) o (flatK RawI.enc 8 d) c)[o + t]? = some ((flatK RawI.enc 8 d)[t]!):=by
   simp only [putCells,Array.getElem?_mapIdx]
   rw [Array.getElem?_eq_getElem (by omega)]
   simp [hn,ht]
  rw [h1,flatK_at d (by omega)]
  have e8 : (RawI.enc (d.toList.getD (t / 8) default)).length = 8:=rfl
  rw [List.getElem?_eq_getElem (by omega)]
  congr 1
  rw [getElem!_pos]
 ·rw [List.getElem?_eq_none (by simp; omega),List.getElem?_eq_none (by omega)]
theorem h_SortFunc_items (gl : List (Nat × AV)) (l : List Itm) (hnd : (l.map (·.num)).Nodup) (hr : ∀ i ∈ l,0 ≤ i.num ∧ i.num ≤ 16777216) (hl : l.length ≤ 16777216) :
  FnH Tryz.prog gl 61 [.row 0 0 l.length,.clos 62 []] [(0,.row 8 (itemsAV l) true)] 1 fun r h n=>r = .ret (.tup []) ∧ h = [(0,.row 8 (itemsAV (sortN l)) true)] ∧ n = 1:=by
 refine ⟨Aw.enters_of Tryz.func61 rfl rfl,fun m vs hm hv=>?_⟩
 obtain ⟨ri,r0,b0⟩:=hm.h.blk 0 _ rfl
 simp only [RepL,Rep] at hv
 obtain ⟨v,rest,rfl,⟨_,ri',r0',hrow⟩,v1,rest1,rfl,⟨cv,rfl,hcv⟩,rfl⟩:=hv
 rw [r0] at r0'
 injection r0' with r0'
 subst r0'
 have hcv' : cv = #[]:=by
  apply Array.ext'
  exact hcv
 subst hcv'
 have hnone : ∀ (p : Option Addr) (cap : Nat),v = .slice p 0 cap → l = [] → Calls Tryz.prog 61 #[v,.func (.func 62) #[] #[]] m.w fun e w'=>∃ m' r hp' nx',m'.w = w' ∧ m.le m' ∧ SimH m' hp' nx' ∧ endOkH m' r e ∧ r = .ret (.tup []) ∧ hp' = [(0,.row 8 (itemsAV (sortN l)) true)] ∧ nx' = 1:=by
  rintro p cap rfl rfl
  refine (sortNone p cap _ m.w).mono ?_
  rintro e w' ⟨rfl,rfl⟩
  exact ⟨m,.ret (.tup []),_,_,rfl,Mem.le.refl m,hm.h,⟨_,rfl,by simp [Rep,RepL]⟩,rfl,rfl,rfl⟩
 have hll : l.length = 0 → l = []:=fun h=>List.eq_nil_of_length_eq_zero h
 rcases hrow with ⟨_,_,h0,hvv⟩ | ⟨hn,hcap,hcap2,hvv⟩ | ⟨_,_,h0,a,hvv⟩
 ·exact hnone _ _ hvv (hll h0)
 ·have b1 : RowRep m ri 8 (itemsAV l) true:=b0
  rcases b1 with ⟨h,_⟩ | ⟨_,hP,⟨hsz,hsz'⟩,hcapl,⟨c,T,lo,hi,hbk,hfr,hcs⟩,hif⟩
  ·rw [hn] at h; cases h
  rw [if_pos rfl] at hif
  obtain ⟨hY,hF⟩:=hif
  rw [hsz'] at hY hcs hvv
  have hil : (itemsAV l).length = l.length:=by simp [itemsAV]
  rw [hil] at hcapl
  have hblk : ri.b < m.w.heap.size:=lt_of_getElem? hbk
  have hel : ∀ i,∃ x : RawI,i < l.length → x.enc = (c.toList.drop (ri.o + i * 8)).take 8 ∧ x.num = (l.getD i Itm.zero).num ∧ RepL m 2 (l.getD i Itm.zero).cells x.enc:=by
   intro i
   by_cases hi : i < l.length
   ·have h1:=(RepY.at hY i (by rw [hil]; exact hi)).2
    have e1 : (itemsAV l)[i]'(by rw [hil]; exact hi) = (l.getD i Itm.zero).cells:=by simp [itemsAV,List.getD,hi]
    rw [e1] at h1
    have h2:=RepX.list hbk h1
    have e2 : (l.getD i Itm.zero).cells.length = 8:=rfl
    rw [e2] at h2
    obtain ⟨x,hx,hxn⟩:=raw_at h2 (hr _ (by rw [show l.getD i Itm.zero = l[i] from by simp [List.getD,hi]]; exact List.getElem_mem hi))
    exact ⟨x,fun _=>⟨hx,hxn,by rw [hx]; exact h2⟩⟩
   ·exact ⟨default,fun h=>absurd h hi⟩
  obtain ⟨f,hf⟩:=Classical.axiomOfChoice hel
  have hz1 : ((List.range l.length).map fun i=>(l.getD i Itm.zero,f i)).map Prod.fst = l:=by
   refine List.ext_getElem (by simp) fun i h1 h2=>?_
   simp [List.getD,h2]
  have hzp : ∀ p ∈ (List.range l.length).map fun i=>(l.getD i Itm.zero,f i),RepL m 2 p.1.cells p.2.enc ∧ p.2.num = p.1.num:=by
   intro p hp
   obtain ⟨i,hi,rfl⟩:=List.mem_map.1 hp
   have:=hf i (List.mem_range.1 hi)
   exact ⟨this.2.2,this.2.1⟩
  have hsn : ((List.range l.length).map fun i=>(l.getD i Itm.zero,f i)).map Prod.snd = (List.range l.length).map f:=by simp
  generalize hz : ((List.range l.length).map fun i=>(l.getD i Itm.zero,f i)) = z at hz1 hzp hsn
  have hds : ((z.map Prod.snd).toArray).size = l.length:=by rw [hsn]; simp
  have hH : HoldsK RawI.enc 8 m.w ri.b ri.o (z.map Prod.snd).toArray:=by
   intro j hj
   rw [size_flatK,hds] at hj
   rw [flatK_at _ (by rw [hds]; exact hj),hsn]
   have hq : j / 8 < l.length:=by omega
   have e1 : ((List.range l.length).map f).toArray.toList.getD (j / 8) default = f (j / 8):=by simp [List.getD,hq]
   have hjc : ri.o + j < c.size:=by omega
   rw [e1,(hf (j / 8) hq).1]
   constructor
   ·simp only [World.cell?,hbk,id]
    rw [Array.getElem?_eq_getElem hjc]
    have hlen : ((c.toList.drop (ri.o + j / 8 * 8)).take 8).length = 8:=by simp; omega
    rw [getElem!_pos _ _ (by rw [hlen]; omega)]
    simp only [List.getElem_take,List.getElem_drop,Array.getElem_toList,show ri.o + j / 8 * 8 + j % 8 = ri.o + j by omega]
    rfl
   ·have:=hfr (ri.o + j) (by simp; omega)
    simp only [World.frozen?,hbk]
    simpa using this
  have hcall:=sortRaw ri.b ri.o (ri.cap - 0) (z.map Prod.snd).toArray m.w hH hblk (by rw [hds]; omega)
  rw [hds] at hcall
  rw [hvv,Nat.zero_mul,Nat.add_zero]
  refine hcall.mono ?_
  rintro e w' ⟨rfl,d',n,os,hp,hs,rfl⟩
  obtain ⟨hz0,_,hpm⟩:=hp
  rw [hds] at hz0
  have hpm2 : (z.map Prod.snd).Perm d'.toList:=by
   have e1 : (d'.extract 0 l.length) = d':=by rw [← hz0,Array.extract_size]
   have e2 : ((z.map Prod.snd).toArray.extract 0 l.length) = (z.map Prod.snd).toArray:=by rw [← hds,Array.extract_size]
   rw [e1,e2] at hpm
   simpa using hpm.symm
  obtain ⟨z',hzz,hze⟩:=perm_lift Prod.snd hpm2 z rfl
  have hlp : (z'.map Prod.fst).Perm l:=by
   have:=(hzz.map Prod.fst).symm
   rwa [hz1] at this
  have hzp' : ∀ p ∈ z',RepL m 2 p.1.cells p.2.enc ∧ p.2.num = p.1.num:=fun p hp=>hzp p (hzz.mem_iff.2 hp)
  have hzl : z'.length = l.length:=by rw [← hlp.length_eq]; simp
  have hd' : ∀ i (h : i < z'.length),d'[i]! = z'[i].2:=by
   intro i h
   have h3 : i < d'.toList.length:=by rw [Array.length_toList,hz0]; omega
   have : d'.toList[i]'h3 = z'[i].2:=by
    have h4 : i < (z'.map Prod.snd).length:=by simpa using h
    have : (z'.map Prod.snd)[i]'h4 = z'[i].2:=by simp
    rw [← this]
    congr 1
    rw [hze]
   rw [← this,Array.getElem_toList,getElem!_pos]
  have hsorted : (z'.map Prod.fst).Pairwise fun a b=>a.num ≤ b.num:=by
   rw [List.pairwise_iff_getElem]
   intro i j hi hj hij
   simp only [List.length_map] at hi hj
   have:=hs i j (Nat.zero_le _) hij (by omega)
   rw [rawLt,hd' i hi,hd' j hj] at this
   simp only [List.getElem_map]
   rw [← (hzp' _ (List.getElem_mem hi)).2,← (hzp' _ (List.getElem_mem hj)).2]
   simpa using this
  have hse : z'.map Prod.fst = sortN l:=sorted_eq (hlp.trans (sortN_perm l).symm) hsorted (sortN_sorted l) ((hlp.map _).nodup_iff.2 hnd)
  have hrow1:=put_row (c:=c) (o:=ri.o) hz0 (by omega)
  have hcz : (putCells (id : Value → Value) ri.o (flatK RawI.enc 8 d') c).size = c.size:=by simp [putCells]
  have hw1 : putRow id m.w ri.b ri.o (flatK RawI.enc 8 d') = wset m.w ri.b (.cells (putCells id ri.o (flatK RawI.enc 8 d') c) T (lo,hi)):=by
   unfold putRow mapBlock wset
   congr 1
   refine Array.ext_getElem? fun k=>?_
   rw [Array.getElem?_modify,Array.getElem?_setIfInBounds]
   by_cases hk : ri.b = k
   ·subst hk
    rw [if_pos rfl,if_pos rfl,if_pos hblk,hbk]
    rfl
   ·rw [if_neg hk,if_neg hk]
  have hU : Upd m { m with w:=wset m.w ri.b (.cells (putCells id ri.o (flatK RawI.enc 8 d') c) T (lo,hi)) } ri.b:=by
   refine Upd.set hm.h hP (fun o h=>?_)
   have hlt : o < ri.o:=by
    rcases Nat.lt_or_ge o ri.o with h' | h'
    ·exact h'
    ·exact (hF o h' h).elim
   simp only [World.cell?,wset_get hbk,hbk]
   simp only [putCells,Array.getElem?_mapIdx,show ¬ ri.o ≤ o by omega,false_and,if_false]
   simp
  have hall : ∀ e ∈ itemsAV (z'.map Prod.fst),e.length = 8:=by
   intro e he
   obtain ⟨i,_,rfl⟩:=List.mem_map.1 he
   rfl
  have hS1 : SimH { m with w:=wset m.w ri.b (.cells (putCells id ri.o (flatK RawI.enc 8 d') c) T (lo,hi)) } [(0,.row 8 (itemsAV (z'.map Prod.fst)) true)] 1:=by
   refine hm.h.upd hU (k:=0) (ri:=ri) (blk:=.row 8 (itemsAV (z'.map Prod.fst)) true) r0 ?_ (fun _=>rfl) rfl ?_ hm.h.fresh
   ·refine .inr ⟨hn,hP,⟨hsz,hsz'⟩,by simp [itemsAV,hzl]; omega,⟨_,T,lo,hi,wset_get hbk,by rw [hcz]; exact hfr,by rw [hcz,hsz']; exact hcs⟩,?_⟩
    rw [if_pos rfl,hsz']
    refine ⟨RepY.flat.2 ⟨hall,RepX.of_list (wset_get hbk) ?_⟩,hF⟩
    rw [show (itemsAV (z'.map Prod.fst)).flatten.length = l.length * 8 from by rw [flat_len hall]; simp [itemsAV,hzl],hrow1,← hze]
    exact RepL.mono (hU.keeps hm.h) 2 _ _ (repL_flat z' fun p hp=>(hzp' p hp).1)
   ·intro i hi x hx
    simp [Aw.get,Ne.symm hi] at hx
  rw [hse] at hS1
  have hbel : Below (wset m.w ri.b (.cells (putCells id ri.o (flatK RawI.enc 8 d') c) T (lo,hi))).heap.size (wset m.w ri.b (.cells (putCells id ri.o (flatK RawI.enc 8 d') c) T (lo,hi))) (sortWorldK RawI.enc 8 m.w ri.b ri.o n d' os):=by
   unfold sortWorldK putRowK
   rw [putRow_ahead,hw1]
   exact ⟨rfl,rfl,rfl,by simp [grow],fun k hk=>by simp [grow,Array.getElem?_append_left hk]⟩
  obtain ⟨h1,h2⟩:=rowed_ok (g:=0) (len:=0) hS1 hbel (fun h=>absurd h (by decide))
  exact ⟨_,.ret (.tup []),_,_,rfl,(hU.le hm.h).trans h1,h2,⟨_,rfl,by simp [Rep,RepL]⟩,rfl,rfl,rfl⟩
 ·exact hnone _ _ hvv (hll h0)
end Go.Proofs
