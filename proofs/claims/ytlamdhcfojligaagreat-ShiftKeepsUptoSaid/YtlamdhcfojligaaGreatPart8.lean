/- A part of the proof: no condition of its own. -/
import Derived.Test.YtlamdhcfojligaaGreatPart7
import Derived.JoinedCond
import Derived.Test.YtlamdhcfojligaaGreatRows
namespace Go.Proofs.YtlamdhcfojligaaGreat
open Go Aw
theorem own : ownKnob Tryz.prog.godebug = none:=by kernel_rfl
theorem laidOut : laidOutB Tryz.prog = true:=by kernel_rfl
theorem objT : ObjT Tryz.prog 26 3 2 9 23 24 where
 o:=⟨_,Tryz.underlying26,rfl⟩
 i:=Tryz.underlying3
 l:=Tryz.underlying2
 s:=Tryz.underlying9
 ks:=Tryz.underlying23
 os:=Tryz.underlying24
 c:=by and_intros <;> kernel_rfl
theorem docT : DocT Tryz.prog 26 3 2 9 23 24 45 22 28 where
 o:=objT
 it:=⟨_,Tryz.underlying45,rfl⟩
 its:=Tryz.underlying22
 d:=⟨_,Tryz.underlying28,rfl⟩
 c:=by and_intros <;> kernel_rfl
mutual
theorem dle_upto {H : Type} : ∀ d : DataW H,dbulk d ≤ Rows.uptoBulk d
 | .lit (.string _)=>by simp only [dbulk,Rows.uptoBulk]; omega
 | .lit (.bool _)=>by simp only [dbulk,Rows.uptoBulk]; omega
 | .lit (.int _ _)=>by simp only [dbulk,Rows.uptoBulk]; omega
 | .lit (.float _ _)=>by simp only [dbulk,Rows.uptoBulk]; omega
 | .lit .nil=>by simp only [dbulk,Rows.uptoBulk]; omega
 | .nil=>by simp only [dbulk,Rows.uptoBulk]; omega
 | .ptr d=>by have:=dle_upto d; simp only [dbulk,Rows.uptoBulk]; omega
 | .slice es sp=>by have:=dles_upto es; have:=dles_upto sp; simp only [dbulk,Rows.uptoBulk]; omega
 | .agg ps=>by have:=dles_upto ps; simp only [dbulk,Rows.uptoBulk]; omega
 | .iface _ d=>by have:=dle_upto d; simp only [dbulk,Rows.uptoBulk]; omega
 | .map _=>by simp only [dbulk,Rows.uptoBulk]; omega
 | .held _=>by simp only [dbulk,Rows.uptoBulk]; omega
theorem dles_upto {H : Type} : ∀ l : List (DataW H),dbulks l ≤ Rows.uptoBulkAll l
 | []=>by simp only [dbulks,Rows.uptoBulkAll]; omega
 | d :: r=>by have:=dle_upto d; have:=dles_upto r; simp only [dbulks,Rows.uptoBulkAll]; omega
end
end Go.Proofs.YtlamdhcfojligaaGreat

namespace Go.Proofs
end Go.Proofs

namespace Aw
open Go
theorem follow_congr {d d' : Dc} {o : Pob} (h : o.kind = 8 → lookI d.items o.num = lookI d'.items o.num) : followO d o = followO d' o:=by
 rw [follow_look,follow_look]
 by_cases hk : o.kind = 8
 ·rw [h hk]
 ·rw [if_pos hk,if_pos hk]
theorem content_kind {i : Itm} (h : contentE i = 0) : i.obj.kind ≠ 8:=by
 intro hk
 unfold contentE at h
 split at h
 ·exact absurd h (by assumption)
 ·rw [if_pos (.inl hk)] at h
  cases h
theorem last_max {l : List Itm} (hs : incrN l) (x : Itm) (hx : x ∈ l) : x.num < lastN l:=by
 obtain ⟨j,hj,rfl⟩:=List.getElem_of_mem hx
 have e : l[j] = l.getD j Itm.zero:=by simp [List.getD,hj]
 rw [e,lastN,if_neg (by omega)]
 by_cases h : j = l.length - 1
 ·subst h; omega
 ·have:=hs j (l.length - 1) (by omega) (by omega); omega
theorem trail_congr {t : Pob} {l l' : List Itm} (h : (getO t rootK).kind = 8 → lookI l (getO t rootK).num = lookI l' (getO t rootK).num) : trailE ⟨l,t⟩ = trailE ⟨l',t⟩:=by
 unfold trailE
 rw [follow_congr (d:=⟨l,t⟩) (d':=⟨l',t⟩) (o:=getO t rootK) h]
theorem follow_kind {d : Dc} (h : docE d = 0) (o : Pob) : (followO d o).kind ≠ 8:=by
 have hi:=items_iff.1 (docE_items h)
 rw [follow_look]
 split
 ·assumption
 ·split
  ·decide
  ·rename_i x hx
   split
   ·decide
   ·exact content_kind (hi.2 x ((look_some hi.1).1 hx).1).2
theorem imp_item {d x : Dc} {o : Pob} (hx : docE x = 0) {z : Itm} : z ∈ impL d x o ↔ ∃ i ∈ x.items,i.num ∈ metO x.items o ∧ z = turnI x.items (metO x.items o) (impT d x o) i:=by
 unfold impL
 rw [List.mem_map]
 constructor
 ·rintro ⟨n,hn,rfl⟩
  obtain ⟨i,hi,rfl⟩:=metO_in n hn
  refine ⟨i,hi,hn,?_⟩
  rw [(look_some (doc_incr hx)).2 ⟨hi,rfl⟩]
  rfl
 ·rintro ⟨i,hi,hn,rfl⟩
  refine ⟨i.num,hn,?_⟩
  rw [(look_some (doc_incr hx)).2 ⟨hi,rfl⟩]
  rfl
theorem imp_ref {d x : Dc} {o : Pob} (h : impE d x o = 0) {r : Pob} (h8 : r.kind = 8) (hr : ledB x.items r = true → r.num ∈ metO x.items o) {k : Int} (hc : chk r k = 0) : chk (turnF x.items (metO x.items o) (impT d x o) r) k = 0:=by
 obtain ⟨p1,p2,p3,p4⟩:=imp_parts h
 have hp:=last_pos (docE_items p1)
 unfold turnF
 split
 ·rename_i hb
  obtain ⟨j,hj,e⟩:=mem_at (hr hb)
  refine chk_refO (ref_parts hc h8).1 ?_ ?_
  ·rw [← e,imp_new hj]; omega
  ·rw [show newG (metO x.items o) r.num r.gen = 0 from if_pos (hr hb)]; omega
 ·exact chk_null (ref_parts hc h8).1
theorem imp_chk {d x : Dc} {o : Pob} (h : impE d x o = 0) {q : Pob} (hq : chk q 1 = 0) (hr : ∀ r ∈ q.rr,ledB x.items r = true → r.num ∈ metO x.items o) : chk (q.turn (turnF x.items (metO x.items o) (impT d x o))) 1 = 0 :=
 chk_turn (q.bulk + 1) q 1 (by omega) hq fun r hm _ hc=>imp_ref h (rr_8 hm) (hr r hm) hc
theorem imp_obj {d x : Dc} {o : Pob} (h : impE d x o = 0) : chk (impO d x o) 1 = 0:=by
 rw [(imp_eq h).2]
 exact imp_chk h (imp_parts h).2.2.1 (metO_closed x.items o).1
theorem imp_incr {d x : Dc} {o : Pob} (h : impE d x o = 0) : incrN (d.items ++ impL d x o):=by
 obtain ⟨p1,p2,_,_⟩:=imp_parts h
 rw [incrN_iff,List.pairwise_append]
 refine ⟨incrN_iff.1 (doc_incr p1),?_,fun a ha b hb=>?_⟩
 ·have:=upTo_incr (lastN d.items) (metO x.items o).length
  rw [show upTo (lastN d.items) (metO x.items o).length = (impL d x o).map (·.num) from (imp_nums p2).symm,List.pairwise_map] at this
  exact this
 ·have h1:=last_max (doc_incr p1) a ha
  have h2 : b.num ∈ impT d x o:=(imp_nums p2) ▸ List.mem_map_of_mem hb
  have:=mem_upTo.1 h2
  omega
theorem look_app {a b : List Itm} (hs : incrN (a ++ b)) (ha : incrN a) {n : Int} (hn : hasI a n = true) : lookI (a ++ b) n = lookI a n:=by
 obtain ⟨i,hi,rfl⟩:=has_mem.1 hn
 rw [(look_some ha).2 ⟨hi,rfl⟩]
 exact (look_some hs).2 ⟨List.mem_append_left _ hi,rfl⟩
theorem imp_doc {d x : Dc} {o : Pob} (h : impE d x o = 0) : docE (impD d x o) = 0:=by
 obtain ⟨p1,p2,p3,p4⟩:=imp_parts h
 have hp:=last_pos (docE_items p1)
 rw [(imp_eq h).1]
 refine doc_of ?_ ?_
 ·rw [items_iff]
  refine ⟨imp_incr h,fun z hz=>?_⟩
  rcases List.mem_append.1 hz with hz | hz
  ·exact (items_iff.1 (docE_items p1)).2 z hz
  ·have hn : z.num ∈ impT d x o:=(imp_nums p2) ▸ List.mem_map_of_mem hz
   obtain ⟨i,hi,hm,rfl⟩:=(imp_item p2).1 hz
   have hc:=((items_iff.1 (docE_items p2)).2 i hi).2
   obtain ⟨c1,c2⟩:=content_parts hc
   have h8 : i.obj.kind ≠ 8:=fun e=>c2 (.inl e)
   have hl : lookI x.items i.num = some i:=(look_some (doc_incr p2)).2 ⟨hi,rfl⟩
   refine ⟨?_,content_fine (imp_chk h c1 ((metO_closed x.items o).2 _ hm i hl)) ?_⟩
   ·have:=mem_upTo.1 hn
    unfold numsB
    simp only [Bool.and_eq_true,decide_eq_true_eq]
    rw [show (turnI x.items (metO x.items o) (impT d x o) i).gen = 0 from if_pos hm]
    omega
   ·rintro (g | g)
    ·rw [show (turnI x.items (metO x.items o) (impT d x o) i).obj = i.obj.turn (turnF x.items (metO x.items o) (impT d x o)) from rfl,(turn_kind h8).1] at g
     exact h8 g
    ·exact c2 (.inr (turn_holds c1 (turnF_goes _ _ _ _) h8 g))
 ·obtain ⟨r1,r2,_⟩:=root_led p1
  obtain ⟨q1,q2,_⟩:=led_mem r2
  rw [trail_congr (l':=d.items)]
  ·exact docE_trail p1
  ·intro _
   exact look_app (imp_incr h) (doc_incr p1) (has_mem.2 ⟨_,q1,q2⟩)
theorem imp_follow {d x : Dc} {o : Pob} (h : impE d x o = 0) : ∃ w,followO x o = w ∧ followO (impD d x o) (impO d x o) = w.turn (turnF x.items (metO x.items o) (impT d x o)) ∧ w.kind ≠ 8:=by
 obtain ⟨p1,p2,p3,p4⟩:=imp_parts h
 refine ⟨_,rfl,?_,follow_kind p2 o⟩
 rw [(imp_eq h).1,(imp_eq h).2]
 by_cases h8 : o.kind = 8
 ·rw [turn_ref h8,follow_led h8]
  by_cases hb : ledB x.items o = true
  ·obtain ⟨q1,q2,q3⟩:=led_mem hb
   have hm : o.num ∈ metO x.items o:=(metO_closed x.items o).1 o (by rw [rr_eq,if_pos h8]; simp) hb
   have e : turnF x.items (metO x.items o) (impT d x o) o = refO (newN (metO x.items o) (impT d x o) o.num) (newG (metO x.items o) o.num o.gen):=if_pos hb
   rw [if_pos hb,e,show newG (metO x.items o) o.num o.gen = 0 from if_pos hm]
   have hz : turnI x.items (metO x.items o) (impT d x o) (ledI x.items o) ∈ d.items ++ impL d x o:=List.mem_append_right _ ((imp_item p2).2 ⟨_,q1,q2 ▸ hm,rfl⟩)
   have hl : lookI (d.items ++ impL d x o) (newN (metO x.items o) (impT d x o) o.num) = some (turnI x.items (metO x.items o) (impT d x o) (ledI x.items o)) :=
    (look_some (imp_incr h)).2 ⟨hz,by show newN _ _ (ledI x.items o).num = _; rw [q2]⟩
   rw [follow_look,if_neg (fun h=>h rfl)]
   show (match lookI (d.items ++ impL d x o) (newN (metO x.items o) (impT d x o) o.num) with
    | none=>Pob.null
    | some x=>if x.gen ≠ 0 then Pob.null else x.obj) = _
   rw [hl]
   have hg : (turnI x.items (metO x.items o) (impT d x o) (ledI x.items o)).gen = 0:=if_pos (q2 ▸ hm)
   simp only [hg,ne_eq,not_true_eq_false,if_false]
   rfl
  ·rw [if_neg hb,show turnF x.items (metO x.items o) (impT d x o) o = Pob.null from if_neg hb,null_turn,follow_look,if_pos (by decide)]
 ·rw [follow_look x o,if_pos h8,follow_look,if_pos (by rw [(turn_kind h8).1]; exact h8)]
theorem turn_shape {f : Pob → Pob} {w : Pob} (h8 : w.kind ≠ 8) : (w.kind = 6 → (w.turn f).kids.length = w.kids.length) ∧ (w.turn f).keys.length ≤ w.keys.length:=by
 by_cases h6 : w.kind = 6
 ·rw [turn_arr h6]
  exact ⟨fun _=>by simp [Pob.kids],by simp [Pob.keys]⟩
 ·rw [turn_other h8 h6]
  refine ⟨fun h=>absurd h h6,?_⟩
  have:=(live_len w.keys (w.kids.map (Pob.turn f))).1
  simpa [Pob.keys] using this
theorem itots_app2 (a b : List Itm) : itots (a ++ b) = itots a + itots b:=by simp [itots]
theorem itots_sub : ∀ (L l : List Itm),L.Nodup → (∀ i ∈ L,i ∈ l) → itots L ≤ itots l:=by
 intro L
 induction L with
 | nil=>intro l _ _; exact Nat.zero_le _
 | cons a L ih =>
  intro l hn hs
  have ha:=hs a List.mem_cons_self
  rw [List.nodup_cons] at hn
  have hp:=itots_perm (List.perm_cons_erase ha)
  rw [hp,itots_cons,itots_cons]
  have:=ih (l.erase a) hn.2 fun i hi=>(List.mem_erase_of_ne (by rintro rfl; exact hn.1 hi)).2 (hs i (List.mem_cons_of_mem _ hi))
  omega
theorem impL_tot {d x : Dc} {o : Pob} (hx : docE x = 0) : itots (impL d x o) ≤ itots x.items:=by
 have h1 : impL d x o = ((metO x.items o).map fun n=>(lookI x.items n).getD Itm.zero).map (turnI x.items (metO x.items o) (impT d x o)):=by rw [List.map_map] <;> rfl
 rw [h1]
 refine Nat.le_trans (itots_map fun i _=>turnI_tot _ _ _ _) (itots_sub _ _ ?_ ?_)
 ·refine List.pairwise_map.2 ((metO_nodup x.items o).imp_of_mem fun {a b} ha hb hab e=>hab ?_)
  have ea:=(look_of (doc_incr hx) (metO_in a ha)).2
  have eb:=(look_of (doc_incr hx) (metO_in b hb)).2
  rw [← ea,← eb,e]
 ·intro i hi
  obtain ⟨n,hn,rfl⟩:=List.mem_map.1 hi
  exact (look_of (doc_incr hx) (metO_in n hn)).1
theorem imp_tot (d x : Dc) (o : Pob) : (impD d x o).tot ≤ d.tot + x.tot ∧ (impO d x o).tot ≤ o.tot:=by
 by_cases h : impE d x o = 0
 ·obtain ⟨e1,e2⟩:=imp_eq h
  have hp:=imp_parts h
  rw [e1,e2]
  have h1:=impL_tot (d:=d) (o:=o) hp.2.1
  have h2:=itots_app2 d.items (impL d x o)
  have h3:=turn_let x.items (metO x.items o) (impT d x o) o
  refine ⟨?_,h3⟩
  show itots (d.items ++ impL d x o) + d.trailer.tot ≤ (itots d.items + d.trailer.tot) + (itots x.items + x.trailer.tot)
  omega
 ·unfold impD impO
  rw [if_pos h,if_pos h]
  have h1:=tot7 d.trailer
  have h4:=trailS_tot d
  have h2:=tot7 o
  have h3 : (Pob.null).tot = 7:=nullS_tot
  rw [zeroS_tot,h3]
  omega
theorem awGuard.cGy {P : Program} {ds : List (Option Tmp)} {σ : St} {o : Oper} {K : St → Prop} {Kp : AV → St → Prop} {ob ob' : Prop} {f : FuncId} {ys xs : List AV} {y : AV} {p : Nat × Bool} {g : Bool} (ys' : List AV) (hy : g = true → ys = ys')
  (hc : g = true → FnP P σ.gl f xs fun r=>r = .ret y) (hK : K (σ.put o.dst (.opt g y))) (hg : o.guard = some p:=by exact rfl) (hgv : gAt ds σ p.1 p.2 = some g:=by first | ((simp only [go_sem,seval]; iterate 2 try (simp (disch:=omega) only [zq]; try simp only [go_sem,seval])); done) | ((simp only [go_sem,seval]; iterate 2 try (simp (disch:=omega) only [zq]; try simp only [go_sem,seval])); exact rfl))
  (h : acall σ o.op = some (ob,f,ys):=by (simp only [go_sem,seval]; iterate 2 try (simp (disch:=omega) only [zq]; try simp only [go_sem,seval])); exact rfl) (hx : mapO (shr true (frzs σ.hp (ys'.flatMap (rids σ.hp 9))) 9) ys' = some (ob',xs):=by (simp only [go_sem,seval]; iterate 2 try (simp (disch:=omega) only [zq]; try simp only [go_sem,seval])); exact rfl) (hd : dstOk σ.n o.dst = true:=by (simp only [go_sem,seval]; iterate 2 try (simp (disch:=omega) only [zq]; try simp only [go_sem,seval])))
  (hfr : frzs σ.hp (ys'.flatMap (rids σ.hp 9)) = σ.hp:=by (simp only [go_sem,seval]; iterate 2 try (simp (disch:=omega) only [zq]; try simp only [go_sem,seval]))) (hob : g = true → ob:=by ((try (simp only [go_sem,seval]; iterate 2 try (simp (disch:=omega) only [zq]; try simp only [go_sem,seval]))); try (first | exact True.intro | omega | (simp only [zb]; omega) | (simp; done) | (simp; omega) | (and_intros <;> first | assumption | omega | (simp; done) | (simp; omega))))) (hob' : ob':=by ((try (simp only [go_sem,seval]; iterate 2 try (simp (disch:=omega) only [zq]; try simp only [go_sem,seval]))); try (first | exact True.intro | omega | (simp only [zb]; omega) | (simp; done) | (simp; omega) | (and_intros <;> first | assumption | omega | (simp; done) | (simp; omega))))) : awGuard P ds o σ K Kp:=by
 unfold awGuard
 rw [hg]
 simp only
 rw [hgv]
 simp only
 rw [(acall_pure h).1]
 simp only
 refine .inr ⟨y,hd,fun ht=>?_,hK⟩
 obtain rfl:=hy ht
 refine SemStep.call h (hob ht) hd hx hob' (hc ht) ?_ ?_
 ·intro z hz
  cases hz
  rw [hfr]
 ·intro z hz
  cases hz
end Aw

namespace Go.Proofs
open Go Aw
set_option linter.unusedSimpArgs false
set_option linter.unusedVariables false
set_option maxRecDepth 100000
set_option maxHeartbeats 4000000
theorem imp_keep {a b : Dc} {o : Pob} (h : impE a b o = 0) : a.items.length ≤ (impD a b o).items.length ∧ (impD a b o).trailer = a.trailer ∧ (∀ i,i < a.items.length → (impD a b o).items.getD i Itm.zero = a.items.getD i Itm.zero) ∧
  ∀ i,a.items.length ≤ i → i < (impD a b o).items.length → ((impD a b o).items.getD i Itm.zero).gen = 0:=by
 obtain ⟨e1,e2⟩:=imp_eq h
 have hp:=imp_parts h
 rw [e1]
 refine ⟨by simp,rfl,fun i hi=>by simp [List.getD,hi,List.getElem?_append_left hi],fun i hi hi2=>?_⟩
 have hi3 : i < (a.items ++ impL a b o).length:=hi2
 have e : (a.items ++ impL a b o).getD i Itm.zero = (impL a b o)[i - a.items.length]'(by simp at hi3; omega):=by
  simp [List.getD,List.getElem?_append_right hi,show i - a.items.length < (impL a b o).length by simp at hi3; omega]
 show ((a.items ++ impL a b o).getD i Itm.zero).gen = 0
 rw [e]
 obtain ⟨z,hz,hm,e2⟩:=(imp_item (d:=a) hp.2.1).1 (List.getElem_mem (show i - a.items.length < (impL a b o).length by simp at hi3; omega))
 rw [e2]
 exact if_pos hm
theorem imp_shape {a b : Dc} {o : Pob} (h : impE a b o = 0) : (followO (impD a b o) (impO a b o)).kind = (followO b o).kind ∧ (followO (impD a b o) (impO a b o)).num = (followO b o).num ∧ (followO (impD a b o) (impO a b o)).str = (followO b o).str ∧
  ((followO b o).kind = 6 → (followO (impD a b o) (impO a b o)).kids.length = (followO b o).kids.length) ∧ (followO (impD a b o) (impO a b o)).keys.length ≤ (followO b o).keys.length:=by
 obtain ⟨w,e1,e2,h8⟩:=imp_follow h
 rw [e1,e2]
 obtain ⟨k1,k2,k3,k4⟩:=turn_kind (f:=turnF b.items (metO b.items o) (impT a b o)) h8
 obtain ⟨s1,s2⟩:=turn_shape (f:=turnF b.items (metO b.items o) (impT a b o)) h8
 exact ⟨k1,k2,k4,s1,s2⟩
theorem same_at (gl : List (Nat × AV)) (c d : Dc) (i : Nat) (hb : c.bulk ≤ 16777216) (hi : i < c.items.length) (hg : decide ((i : Int) < (d.items.length : Int)) = true) :
  FnP Tryz.prog gl 23 [.agg (c.items.getD i Itm.zero).cells,.agg ((itemsAV d.items).getD i [])] fun r=>r = .ret (.bool (decide (c.items.getD i Itm.zero = d.items.getD i Itm.zero))):=by
 have hd : i < d.items.length:=by have:=of_decide_eq_true hg; omega
 rw [show (itemsAV d.items).getD i [] = (d.items.getD i Itm.zero).cells from by simp [itemsAV,List.getD,hd]]
 have hbb : c.bulk = ibulk c.items + c.trailer.bulk:=rfl
 have:=ibulk_get hi
 exact c_foliantref19_SameItem gl _ _ (by omega)
theorem len_at {d : Dc} {i : Nat} (hg : decide ((i : Int) < (d.items.length : Int)) = true) : 8 ≤ ((itemsAV d.items).getD i []).length:=by
 have hd : i < d.items.length:=by have:=of_decide_eq_true hg; omega
 rw [show (itemsAV d.items).getD i [] = (d.items.getD i Itm.zero).cells from by simp [itemsAV,List.getD,hd]]
 exact Nat.le_refl 8
theorem c_law_ShiftKeeps (gl : List (Nat × AV)) (a b : Dc) (o : Pob) (h : a.tot + b.tot + o.tot ≤ 1048576) : FnP Tryz.prog (gl) 6 [.agg a.cells,.agg b.cells,.agg o.cells] fun r=>r = .ret (.bool true):=by
 refine FnP.intro Tryz.func6 rfl rfl (by simp [Tryz.ntmps6]) ?_
 simp only [argEnv,Tryz.ntmps6,Tryz.results6]
 have h1:=Dc.bulk_tot a
 have h2:=Dc.size_tot a
 have h3:=Dc.bulk_tot b
 have h4:=Dc.size_tot b
 have h5:=Pob.bulk_tot o
 have h6:=Pob.psize_tot o
 obtain ⟨hxb,hpb⟩:=imp_bulk a b o
 obtain ⟨hxt,hpt⟩:=imp_tot a b o
 have hab : a.bulk = ibulk a.items + a.trailer.bulk:=rfl
 have hal:=ibulk_len a.items
 have hdb : (impD a b o).bulk = ibulk (impD a b o).items + (impD a b o).trailer.bulk:=rfl
 have hdl:=ibulk_len (impD a b o).items
 refine AW.rS ?_
 refine AW.trim [3,4,5] ?_
 refine AW.cf 3 0 ?_
 refine AW.cf 4 1 ?_
 refine AW.cf 5 2 ?_
 refine AW.seq ?_
 refine AW.rSC ?_
 refine awOps.cons (awGuard.c1 (c_law30_light _ a (by omega) (by omega)) ?_)
 refine awOps.rn ?_
 refine awOps.cons (awGuard.cG (fun hg=>c_law30_light _ b (by omega) (by omega)) ?_)
 refine awOps.rn ?_
 refine awOps.cons (awGuard.cG (fun hg=>c_foliantref05_Size _ o (by omega) (by omega)) ?_)
 refine awOps.rn ?_
 refine AW.trim [3,4,5,25] ?_
 refine AW.c2 ?_ ?_
 ·intro h10
  refine AW.rSC ?_
  refine awOps.cons (awGuard.c1 (c_law30_lives _) ?_)
  refine awOps.rn ?_
  refine AW.trim [6] ?_
  refine AW.rt ?_
  all_goals first | contradiction | rfl | (simp; done) | (simp; omega)
 ·intro h10
  refine AW.skip ?_
  refine AW.rSC ?_
  refine awOps.cons (awGuard.c1 (c_shift_Import _ a b o (by omega) (by omega) (by omega)) ?_)
  refine awOps.rn ?_
  refine AW.trim [3,4,5,7,8,9] ?_
  refine AW.cf 7 3 ?_
  refine AW.cf 8 4 ?_
  refine AW.seq ?_
  refine AW.rS ?_
  refine AW.trim [3,4,5,7,8,36] ?_
  refine AW.c2 ?_ ?_
  ·intro h22
   have ex : impD a b o = Dc.zero:=if_pos h22
   have ep : impO a b o = Pob.null:=if_pos h22
   rw [ex,ep]
   simp only [Dc.zero,show itemsAV [] = [] from rfl]
   refine AW.rSC ?_
   refine awOps.cons (awGuard.gT ?_)
   refine awOps.rn ?_
   refine awOps.cons (awGuard.cG (fun hg=>c_foliantref05_Same _ Pob.null Pob.null (by decide)) ?_)
   refine awOps.rn ?_
   refine awOps.cons (awGuard.cG (fun hg=>c_law30_lives _) ?_)
   refine awOps.rn ?_
   refine AW.trim [6] ?_
   refine AW.rt ?_
   all_goals first | contradiction | rfl | (simp; done) | (simp; omega)
  ·intro h22
   have he : impE a b o = 0:=h22
   obtain ⟨k1,k2,k3,k4⟩:=imp_keep he
   obtain ⟨f1,f2,f3,f4,f5⟩:=imp_shape he
   have hxd:=imp_doc he
   have hpd:=imp_obj he
   refine AW.skip ?_
   refine AW.seq ?_
   refine AW.rSC ?_
   refine awOps.cons (awGuard.cG (fun hg=>c_foliantref05_Same _ (impD a b o).trailer a.trailer (by omega)) ?_)
   refine awOps.rn ?_
   refine awOps.cons (awGuard.cG (fun hg=>c_foliantref19_Check _ (impD a b o) (by omega)) ?_)
   refine awOps.rn ?_
   refine awOps.cons (awGuard.cG (fun hg=>c_foliantref05_Check _ (impO a b o) (by omega)) ?_)
   refine awOps.rn ?_
   refine AW.trim [3,4,5,7,8,73] ?_
   refine AW.c2 ?_ ?_
   ·intro h39
    exfalso
    simp [k2,hxd,hpd] at h39
    omega
   ·intro h39
    refine AW.skip ?_
    refine AW.seq ?_
    refine AW.rS ?_
    refine AW.trim [3,4,5,7,8,10] ?_
    refine AW.block ?_
    refine AW.lk (S:={ i : Nat // i ≤ (impD a b o).items.length }) [3,4,5,7,8] (fun s_=>[(10,.int .i64 s_.1)]) (fun s_=>[]) 5 (fun s_=>(impD a b o).items.length - s_.1) ⟨0,Nat.zero_le _⟩ ?_ ?_
    ·refine St.le.vw [0,1,2,3,4]
    rintro ⟨i,hi⟩
    try dsimp only at hi
    refine AW.seq ?_
    refine AW.rS ?_
    refine AW.trim [3,4,5,7,8,10,78] ?_
    refine AW.c2 ?_ ?_
    ·intro h50
     have hi2 : i < (impD a b o).items.length:=by omega
     refine AW.skip ?_
     refine AW.seq ?_
     refine AW.block ?_
     refine AW.dSC [(0,0),(1,0),(2,0),(3,0),(4,0),(5,0),(6,0),(7,0),(8,0),(9,0),(10,1),(11,0),(12,0),(13,0),(14,0),(15,1),(16,2),(17,0),(18,0),(19,0),(20,0),(21,0),(22,1),(23,1),(24,0),(25,0),(26,0),(27,1),(28,0),(29,1),(30,0),(31,1),(32,0),(33,0),(34,0)] (hob:=?hob54) ?_
     case hob54 =>
      exact ⟨fun _=>⟨by omega,by omega⟩,fun hg=>⟨by omega,of_decide_eq_true hg⟩,fun hg=>len_at hg⟩
     refine awPlan.only rfl ?_
     refine awGuard.cGy [.agg ((impD a b o).items.getD i Itm.zero).cells,.agg (a.items.getD i Itm.zero).cells] ?hy (fun hg=>c_foliantref19_SameItem _ ((impD a b o).items.getD i Itm.zero) (a.items.getD i Itm.zero) (by have:=ibulk_get hi2; omega)) ?_
     case hy =>
      intro hg
      have hd9 : i < a.items.length:=by have:=of_decide_eq_true hg; omega
      rw [itemsAV_getD hd9]
      rfl
     refine awPlan.rn ?_
     refine AW.trim [3,4,5,7,8,10,115] ?_
     refine AW.c2 ?_ ?_
     ·intro h57
      exfalso
      rcases h57 with ⟨q1,q2⟩ | ⟨q1,q2⟩
      ·exact q2 (k3 i q1)
      ·exact q2 (k4 i q1 hi2)
     ·intro h57
      refine AW.skip ?_
      refine AW.rL ?_
      refine ⟨⟨i + 1,by omega⟩,?_,?_⟩
      ·refine St.le.vw [0,1,2,3,4]
      ·simp only []; omega
    ·intro h50
     refine AW.exit ?_
     refine AW.tVd (σ1:=⟨167,[(11,.ptr 5 0),(12,.ptr 6 0)],[(5,.cells [.int .i64 (followO b o).kind,.int .i64 (followO b o).num,.int .i64 (followO b o).gen,.str (followO b o).str,.sl (strsAV (followO b o).keys),.sl (objsAV (followO b o).kids)]),(6,.cells [.int .i64 (followO (impD a b o) (impO a b o)).kind,.int .i64 (followO (impD a b o) (impO a b o)).num,.int .i64 (followO (impD a b o) (impO a b o)).gen,.str (followO (impD a b o) (impO a b o)).str,.sl (strsAV (followO (impD a b o) (impO a b o)).keys),.sl (objsAV (followO (impD a b o) (impO a b o)).kids)])],7,gl,0,[]⟩) (.take 0 0 (.take 1 0 (.take 3 0 (.take 4 0 (.fork 2 (.fork 5 (.fork 6 (.fork 7 (.fork 8 (.fork 9 .done .stop) .stop) .stop) (.fork 7 (.fork 6 (.fork 8 (.fork 9 .done .stop) .stop) .stop) .stop)) (.fork 6 (.fork 5 (.fork 7 (.fork 8 (.fork 9 .done .stop) .stop) .stop) (.fork 7 (.fork 5 (.fork 8 (.fork 9 .done .stop) .stop) .stop) .stop)) (.fork 7 (.fork 5 (.fork 6 (.fork 8 (.fork 9 .done .stop) .stop) .stop) (.fork 6 (.fork 5 (.fork 8 (.fork 9 .done .stop) .stop) .stop) .stop)) .stop))) (.fork 6 (.fork 2 (.fork 5 (.fork 7 (.fork 8 (.fork 9 .done .stop) .stop) .stop) (.fork 7 (.fork 5 (.fork 8 (.fork 9 .done .stop) .stop) .stop) .stop)) (.fork 7 (.fork 2 (.fork 5 (.fork 8 (.fork 9 .done .stop) .stop) .stop) .stop) .stop)) (.fork 7 (.fork 2 (.fork 5 (.fork 6 (.fork 8 (.fork 9 .done .stop) .stop) .stop) (.fork 6 (.fork 5 (.fork 8 (.fork 9 .done .stop) .stop) .stop) .stop)) (.fork 6 (.fork 2 (.fork 5 (.fork 8 (.fork 9 .done .stop) .stop) .stop) .stop) .stop)) .stop))))))) ?tree65 ?rest65
     case tree65 =>
      repeat' (first | exact True.intro | refine awTree.tk ?_ | refine awTree.fC (c_foliantref19_Follow _ b o (by omega)) ?_ ?_ | refine awTree.fC (c_foliantref19_Follow _ (impD a b o) (impO a b o) (by omega)) ?_ ?_ | refine awTree.fA ?_ ?_ | refine awTree.fB ?_ ?_ | refine awTree.fK ?_ ?_ | (refine awTree.dnV trivial (St.le.vw [0,1,2,3,4,5,6] (henv:=?e1) (hhp:=?h1)); (case e1=>((try dsimp only) <;> (try (simp only [go_sem,seval]; iterate 2 try (simp (disch:=omega) only [zq]; try simp only [go_sem,seval]))) <;> (and_intros <;> first | exact Less.refl _ | trivial | (refine Less.int ?_; omega) | (refine Less.row ?_; first | omega | (simp; done) | (simp; omega)) | (refine Less.of_eq ?_; simp; done)))); (case h1=>((try dsimp only) <;> (try (simp only [go_sem,seval]; iterate 2 try (simp (disch:=omega) only [zq]; try simp only [go_sem,seval]))) <;> (first | rfl | (and_intros <;> first | rfl | trivial))))) | (refine awTree.dnV trivial (St.le.vw [0,1,2,3,4,6,5] (henv:=?e2) (hhp:=?h2)); (case e2=>((try dsimp only) <;> (try (simp only [go_sem,seval]; iterate 2 try (simp (disch:=omega) only [zq]; try simp only [go_sem,seval]))) <;> (and_intros <;> first | exact Less.refl _ | trivial | (refine Less.int ?_; omega) | (refine Less.row ?_; first | omega | (simp; done) | (simp; omega)) | (refine Less.of_eq ?_; simp; done)))); (case h2=>((try dsimp only) <;> (try (simp only [go_sem,seval]; iterate 2 try (simp (disch:=omega) only [zq]; try simp only [go_sem,seval]))) <;> (first | rfl | (and_intros <;> first | rfl | trivial))))))
     case rest65 =>
     refine AW.trim [11,12] ?_
     refine AW.cf 11 5 ?_
     refine AW.cf 12 6 ?_
     refine AW.rSC ?_
     refine awOps.cons (awGuard.cG (fun hg=>c_law30_lives _) ?_)
     refine awOps.rn ?_
     refine AW.trim [6] ?_
     refine AW.rt ?_
     by_cases h6 : (followO b o).kind = 6 <;> simp [f1,f2,f3,f4,f5,h6]
end Go.Proofs
