/- A part of the proof of a law of the seat: no condition of its own. -/
import Derived.Test.YtokikpiffafajaaGreatPart3
import Derived.IntWalk
import Derived.Test.YtokikpiffafajaaGreatProg
namespace Aw
open Go
theorem items_iff {l : List Itm} : itemsE l = 0 ↔ incrN l ∧ ∀ x ∈ l, numsB x = true ∧ contentE x = 0 := by
  constructor
  · intro h
    refine ⟨items_incr h, fun x hx => ?_⟩
    obtain ⟨j, hj, rfl⟩ := List.getElem_of_mem hx
    have := items_ok.1 h j hj
    rw [okItm, show l.getD j Itm.zero = l[j] by simp [List.getD, hj]] at this
    exact ⟨this.1, this.2.2⟩
  · rintro ⟨hs, h⟩
    refine items_ok.2 fun i hi => ?_
    have := h _ (getD_mem hi)
    refine ⟨this.1, fun h0 => hs (i - 1) i (by omega) hi, this.2⟩
theorem content_obj (a b c d : Int) (o : Pob) : contentE ⟨a, b, o⟩ = contentE ⟨c, d, o⟩ := by
  unfold contentE; rfl
theorem alone_iff {i : Itm} : aloneE i = 0 ↔ numsB i = true ∧ contentE i = 0 := by
  unfold aloneE
  cases numsB i <;> simp
theorem content_kind {i : Itm} (h : contentE i = 0) : i.obj.kind ≠ 8 := by
  intro hk
  unfold contentE at h
  split at h
  · exact absurd h (by assumption)
  · rw [if_pos (.inl hk)] at h
    cases h
/-! put -/
theorem put_parts {d : Dc} {i : Itm} (h : putE d i = 0) : docE d = 0 ∧ aloneE i = 0 ∧ docE ⟨layI d.items i, d.trailer⟩ = 0 ∧ putO d i = ⟨layI d.items i, d.trailer⟩ := by
  have h1 : docE d = 0 := by
    by_cases hd : docE d = 0
    · exact hd
    · rw [(put_doc (i := i) hd).1] at h; exact h
  have h2 : aloneE i = 0 := by
    by_cases hd : aloneE i = 0
    · exact hd
    · rw [(put_alone h1 hd).1] at h; exact h
  have h3 := put_ok h1 h2
  rw [h] at h3
  refine ⟨h1, h2, h3.1.symm, ?_⟩
  rw [h3.2, if_pos h3.1.symm]
theorem put_bad {d : Dc} {i : Itm} (h : putE d i ≠ 0) : putO d i = Dc.zero := by unfold putO; rw [if_pos h]
theorem doc_incr {d : Dc} (h : docE d = 0) : incrN d.items := items_incr (docE_items h)
theorem put_look {d : Dc} {i : Itm} (h : putE d i = 0) (n : Int) : lookI (putO d i).items n = if n = i.num then some i else lookI d.items n := by
  have hp := put_parts h
  rw [hp.2.2.2]
  exact look_lay (doc_incr hp.1)
theorem put_doc0 {d : Dc} {i : Itm} (h : putE d i = 0) : docE (putO d i) = 0 := by
  have hp := put_parts h
  rw [hp.2.2.2]
  exact hp.2.2.1
theorem put_trailer {d : Dc} {i : Itm} (h : putE d i = 0) : (putO d i).trailer = d.trailer := by
  rw [(put_parts h).2.2.2]
theorem drop_parts {d : Dc} {n : Int} (h : dropE d n = 0) : docE d = 0 ∧ ithere d.items n = true ∧ docE ⟨takeI d.items n, d.trailer⟩ = 0 ∧ dropD d n = ⟨takeI d.items n, d.trailer⟩ := by
  have h1 : docE d = 0 := by
    by_cases hd : docE d = 0
    · exact hd
    · rw [(drop_doc (n := n) hd).1] at h; exact h
  have h2 : ithere d.items n = true := by
    cases hd : ithere d.items n with
    | true => rfl
    | false => rw [(drop_none h1 hd).1] at h; cases h
  have h3 := drop_ok h1 h2
  rw [h] at h3
  refine ⟨h1, h2, h3.1.symm, ?_⟩
  rw [h3.2, if_pos h3.1.symm]
theorem drop_facts {d : Dc} {n : Int} (h : dropE d n = 0) : lookI (dropD d n).items n = none ∧ docE (dropD d n) = 0 ∧ (dropD d n).items.length + 1 = d.items.length := by
  have hp := drop_parts h
  rw [hp.2.2.2]
  refine ⟨?_, hp.2.2.1, ?_⟩
  · show lookI (takeI d.items n) n = none
    rw [look_take (doc_incr hp.1), if_pos rfl]
  · show (takeI d.items n).length + 1 = _
    have := ithere_lt hp.2.1
    rw [takeI, if_pos hp.2.1, delAt_length this]
    omega
theorem last_max {l : List Itm} (hs : incrN l) (x : Itm) (hx : x ∈ l) : x.num < lastN l := by
  obtain ⟨j, hj, rfl⟩ := List.getElem_of_mem hx
  have e : l[j] = l.getD j Itm.zero := by simp [List.getD, hj]
  rw [e, lastN, if_neg (by omega)]
  by_cases h : j = l.length - 1
  · subst h; omega
  · have := hs j (l.length - 1) (by omega) (by omega); omega
theorem last_pos {l : List Itm} (h : itemsE l = 0) : 1 ≤ lastN l := by
  unfold lastN
  split
  · omega
  · have := ((items_iff.1 h).2 _ (getD_mem (l := l) (i := l.length - 1) (by omega))).1
    simp only [numsB, Bool.and_eq_true, decide_eq_true_eq] at this
    omega
theorem free_parts {d : Dc} (h : freeE d = 0) : docE d = 0 ∧ lastN d.items ≤ 8191 ∧ freeN d = lastN d.items := by
  have h1 : docE d = 0 := by
    by_cases hd : docE d = 0
    · exact hd
    · rw [(free_doc hd).1] at h; exact h
  have h2 : lastN d.items ≤ 8191 := by
    rcases Int.lt_or_le 8191 (lastN d.items) with hd | hd
    · rw [(free_full h1 hd).1] at h; cases h
    · exact hd
  exact ⟨h1, h2, (free_ok h1 h2).2⟩
theorem free_none {d : Dc} (h : freeE d = 0) : lookI d.items (freeN d) = none := by
  have hp := free_parts h
  rw [hp.2.2, look_none]
  intro x hx
  have := last_max (doc_incr hp.1) x hx
  omega
/-- the trailer leads where it led, so long as its root's item stays -/
theorem trail_congr {t : Pob} {l l' : List Itm} (h : (getO t rootK).kind = 8 → lookI l (getO t rootK).num = lookI l' (getO t rootK).num) : trailE ⟨l, t⟩ = trailE ⟨l', t⟩ := by
  unfold trailE
  rw [follow_congr (d := ⟨l, t⟩) (d' := ⟨l', t⟩) (o := getO t rootK) h]
theorem trail_parts {d : Dc} (h : trailE d = 0) : chk d.trailer 1 = 0 ∧ d.trailer.kind = 7 ∧ trailOk d.trailer.keys ∧ (getO d.trailer rootK).kind = 8 ∧ (followO d (getO d.trailer rootK)).kind = 7 := by
  unfold trailE at h
  repeat' split at h
  all_goals first | omega | simp_all
theorem add_fresh {d : Dc} {o : Pob} (h : freeE d = 0) (ho : contentE ⟨0, 0, o⟩ = 0) : putE d ⟨freeN d, 0, o⟩ = 0 := by
  have hp := free_parts h
  have hi := docE_items hp.1
  have h1 := last_pos hi
  have hal : aloneE ⟨freeN d, 0, o⟩ = 0 := by
    rw [alone_iff]
    refine ⟨?_, by rw [content_obj _ _ 0 0]; exact ho⟩
    rw [hp.2.2]
    simp only [numsB, Bool.and_eq_true, decide_eq_true_eq]
    omega
  rw [(put_ok hp.1 hal).1]
  have hit : itemsE (layI d.items ⟨freeN d, 0, o⟩) = 0 := by
    rw [items_iff] at hi ⊢
    refine ⟨layI_incr hi.1, fun x hx => ?_⟩
    rcases (layI_mem hi.1).1 hx with rfl | ⟨hx, _⟩
    · exact alone_iff.1 hal
    · exact hi.2 x hx
  rw [doc_trail (d := ⟨layI d.items ⟨freeN d, 0, o⟩, d.trailer⟩) hit]
  have ht := docE_trail hp.1
  have htp := trail_parts ht
  rw [trail_congr (l' := d.items), ht]
  intro hk
  rw [look_lay (items_incr hi), if_neg]
  intro e
  have h5 := htp.2.2.2.2
  rw [follow_look, if_neg (by simpa using hk)] at h5
  have : lookI d.items (getO d.trailer rootK).num = none := by rw [e]; exact free_none h
  rw [this] at h5
  cases h5
theorem add_facts {d : Dc} {o : Pob} (h : freeE d = 0) (ho : contentE ⟨0, 0, o⟩ = 0) : addE d o = 0 ∧ addN d o = freeN d ∧ followO (addO d o) (refO (freeN d) 0) = o := by
  have hp := add_fresh h ho
  have ha := add_ok h hp
  refine ⟨ha.1, ha.2.2, ?_⟩
  rw [ha.2.1, follow_look, if_neg (by simp [refO, Pob.kind])]
  have : lookI (putO d ⟨freeN d, 0, o⟩).items (refO (freeN d) 0).num = some ⟨freeN d, 0, o⟩ := by
    rw [put_look hp]; exact if_pos rfl
  rw [this]
  simp [refO, Pob.gen]
/-! paths -/
theorem follow_kind {d : Dc} (h : docE d = 0) (o : Pob) : (followO d o).kind ≠ 8 := by
  have hi := items_iff.1 (docE_items h)
  rw [follow_look]
  split
  · assumption
  · split
    · decide
    · rename_i x hx
      split
      · decide
      · exact content_kind (hi.2 x ((look_some hi.1).1 hx).1).2
theorem follow_other {d : Dc} {o : Pob} (h : o.kind ≠ 8) : followO d o = o := by rw [follow_look, if_pos h]
theorem path_kind {d : Dc} (h : docE d = 0) : ∀ (ks : List (List UInt8)) (o : Pob), o.kind ≠ 8 → (pathL d o ks).kind ≠ 8
  | [], o, ho => by rw [pathL]; exact ho
  | k :: r, o, ho => by
    rw [pathL]
    split
    · decide
    · exact path_kind h r _ (follow_kind h _)
theorem path_null (d : Dc) (ks : List (List UInt8)) : pathL d Pob.null ks = Pob.null := by
  cases ks with
  | nil => rw [pathL]
  | cons k r => rw [pathL, if_pos (get_unkeyed rfl).1]
theorem path_append {d : Dc} (ms : List (List UInt8)) : ∀ (ks : List (List UInt8)) (o : Pob), pathL d o (ks ++ ms) = pathL d (pathL d o ks) ms
  | [], o => by rw [List.nil_append, pathL]
  | k :: r, o => by
    rw [List.cons_append, pathL, pathL]
    split
    · rw [path_null]
    · exact path_append ms r _
theorem pathO_kind {d : Dc} (h : docE d = 0) (o : Pob) (ks : List (List UInt8)) : (pathO d o ks).kind ≠ 8 := path_kind h ks _ (follow_kind h o)
theorem pathO_append {d : Dc} (h : docE d = 0) (o : Pob) (ks ms : List (List UInt8)) : pathO d o (ks ++ ms) = pathO d (pathO d o ks) ms := by
  unfold pathO
  rw [path_append, follow_other (path_kind h ks _ (follow_kind h o))]
theorem pathO_nil (d : Dc) (o : Pob) : pathO d o [] = followO d o := by unfold pathO; rw [pathL]
/-! differences -/
theorem applyT_mem : ∀ (ns : List Int) (l : List Itm), incrN l → ns.Nodup → (∀ n ∈ ns, ∃ x ∈ l, x.num = n) → ∃ x, applyT l ns = some x ∧ incrN x ∧ ∀ y, y ∈ x ↔ y ∈ l ∧ y.num ∉ ns
  | [], l, hs, _, _ => ⟨l, by rw [applyT], hs, fun y => by simp⟩
  | n :: r, l, hs, hn, h => by
    rw [List.nodup_cons] at hn
    have ht := (ithere_iff hs).2 (h n (by simp))
    obtain ⟨x, h1, h2, h3⟩ := applyT_mem r (takeI l n) (takeI_incr hs) hn.2 (fun m hm => by
      obtain ⟨y, hy, hym⟩ := h m (by simp [hm])
      exact ⟨y, (takeI_mem hs).2 ⟨hy, fun e => hn.1 (by rw [← e, hym]; exact hm)⟩, hym⟩)
    refine ⟨x, by rw [applyT, if_pos ht]; exact h1, h2, fun y => ?_⟩
    rw [h3, takeI_mem hs, List.mem_cons, not_or, and_assoc]
theorem lays_mem : ∀ (ls : List Itm) (x : List Itm), incrN x → ls.Pairwise (fun a b => a.num < b.num) → incrN (ls.foldl layI x) ∧ ∀ y, y ∈ ls.foldl layI x ↔ y ∈ ls ∨ (y ∈ x ∧ ∀ z ∈ ls, z.num ≠ y.num)
  | [], x, hs, _ => ⟨hs, fun y => by simp⟩
  | i :: r, x, hs, hp => by
    rw [List.pairwise_cons] at hp
    obtain ⟨h1, h2⟩ := lays_mem r (layI x i) (layI_incr hs) hp.2
    refine ⟨h1, fun y => ?_⟩
    rw [List.foldl_cons, h2, layI_mem hs]
    simp only [List.mem_cons]
    constructor
    · rintro (h | ⟨rfl | ⟨hy, hne⟩, hz⟩)
      · exact .inl (.inr h)
      · exact .inl (.inl rfl)
      · refine .inr ⟨hy, ?_⟩
        rintro z (rfl | hz')
        · exact fun e => hne e.symm
        · exact hz z hz'
    · rintro ((rfl | h) | ⟨hy, hz⟩)
      · refine .inr ⟨.inl rfl, fun z hz => ?_⟩
        have := hp.1 z hz; omega
      · exact .inl h
      · exact .inr ⟨.inr ⟨hy, fun e => hz i (.inl rfl) e.symm⟩, fun z hz' => hz z (.inr hz')⟩
theorem diffB_false {l : List Itm} {i : Itm} (hs : incrN l) : diffB l i = false ↔ i ∈ l := by
  unfold diffB
  rw [Bool.not_eq_false', Bool.and_eq_true, decide_eq_true_eq]
  constructor
  · rintro ⟨h1, h2⟩
    rw [← h2]
    exact getD_mem (ithere_lt h1)
  · intro h
    exact ⟨(ithere_iff hs).2 ⟨i, h, rfl⟩, ithere_item hs h⟩
theorem goneB_false {l : List Itm} {i : Itm} (hs : incrN l) : goneB l i = false ↔ ∃ x ∈ l, x.num = i.num := by
  unfold goneB
  rw [Bool.not_eq_false', ithere_iff hs]
theorem diffL_eq {d e : Dc} (hd : docE d = 0) (he : docE e = 0) : diffL d e = e.items.filter (diffB d.items) := by
  unfold diffL; rw [if_neg (by simp [hd, he])]
theorem diffG_eq {d e : Dc} (hd : docE d = 0) (he : docE e = 0) : diffG d e = (d.items.filter (goneB e.items)).map Itm.num := by
  unfold diffG; rw [if_neg (by simp [hd, he])]
theorem diff_applies {d e : Dc} (hd : docE d = 0) (he : docE e = 0) : ∃ x, applyT d.items (diffG d e) = some x ∧ (diffL d e).foldl layI x = e.items ∧ aloneL (diffL d e) = 0 := by
  have hsd := doc_incr hd
  have hse := doc_incr he
  have hie := items_iff.1 (docE_items he)
  rw [diffL_eq hd he, diffG_eq hd he]
  obtain ⟨x, h1, h2, h3⟩ := applyT_mem ((d.items.filter (goneB e.items)).map Itm.num) d.items hsd (by
      rw [List.nodup_iff_pairwise_ne, List.pairwise_map]
      have := (incrN_iff.1 hsd).filter (goneB e.items)
      exact this.imp (fun h => by omega)) (fun n hn => by
      obtain ⟨y, hy, rfl⟩ := List.mem_map.1 hn
      exact ⟨y, (List.mem_filter.1 hy).1, rfl⟩)
  have hl := lays_mem (e.items.filter (diffB d.items)) x h2 ((incrN_iff.1 hse).filter _)
  refine ⟨x, h1, incr_ext hl.1 hse fun y => ?_, ?_⟩
  · rw [hl.2, h3]
    constructor
    · rintro (h | ⟨⟨hy, hg⟩, hz⟩)
      · exact (List.mem_filter.1 h).1
      · have hgb : goneB e.items y = false := by
          cases hb : goneB e.items y with
          | false => rfl
          | true => exact absurd (List.mem_map.2 ⟨y, List.mem_filter.2 ⟨hy, hb⟩, rfl⟩) hg
        obtain ⟨z, hze, hzn⟩ := (goneB_false hse).1 hgb
        cases hb : diffB d.items z with
        | true => exact absurd hzn (hz z (List.mem_filter.2 ⟨hze, hb⟩))
        | false =>
          have hzd := (diffB_false hsd).1 hb
          rw [← incr_one hsd hzd hy hzn]
          exact hze
    · intro hy
      cases hb : diffB d.items y with
      | true => exact .inl (List.mem_filter.2 ⟨hy, hb⟩)
      | false =>
        have hyd := (diffB_false hsd).1 hb
        refine .inr ⟨⟨hyd, ?_⟩, ?_⟩
        · intro hg
          obtain ⟨z, hz, hzn⟩ := List.mem_map.1 hg
          have hz2 := List.mem_filter.1 hz
          have := (goneB_false (i := z) hse).2 ⟨y, hy, hzn.symm⟩
          rw [this] at hz2
          exact absurd hz2.2 (by simp)
        · intro z hz hzn
          have hz2 := List.mem_filter.1 hz
          have := incr_one hse hz2.1 hy hzn
          rw [this, hb] at hz2
          exact absurd hz2.2 (by simp)
  · have : ∀ l : List Itm, (∀ i ∈ l, i ∈ e.items) → aloneL l = 0 := by
      intro l
      induction l with
      | nil => intro _; rw [aloneL]
      | cons i r ih =>
        intro h
        have := hie.2 i (h i (by simp))
        rw [aloneL, if_neg (by rw [alone_iff.2 this]; simp)]
        exact ih fun j hj => h j (by simp [hj])
    exact this _ fun i hi => (List.mem_filter.1 hi).1
theorem diff_self {d : Dc} (hd : docE d = 0) : diffL d d = [] ∧ diffG d d = [] := by
  have hs := doc_incr hd
  rw [diffL_eq hd hd, diffG_eq hd hd]
  refine ⟨?_, ?_⟩
  · rw [List.filter_eq_nil_iff]
    intro i hi
    rw [(diffB_false hs).2 hi]
    simp
  · rw [List.map_eq_nil_iff, List.filter_eq_nil_iff]
    intro i hi
    rw [(goneB_false hs).2 ⟨i, hi, rfl⟩]
    simp
theorem diff_none {d e : Dc} (hd : docE d = 0) (he : docE e = 0) : (diffL d e = [] ∧ diffG d e = []) ↔ d.items = e.items := by
  have hsd := doc_incr hd
  have hse := doc_incr he
  constructor
  · rintro ⟨h1, h2⟩
    obtain ⟨x, g1, g2, _⟩ := diff_applies hd he
    rw [h2] at g1
    rw [h1] at g2
    rw [applyT] at g1
    injection g1 with g1
    rw [g1]
    exact g2
  · intro h
    have h1 := diff_self hd
    rw [diffL_eq hd hd, diffG_eq hd hd] at h1
    rw [diffL_eq hd he, diffG_eq hd he, ← h]
    exact h1
theorem diff_apply {d e : Dc} (hd : docE d = 0) (he : docE e = 0) : applyE d (diffL d e) (diffG d e) = docE ⟨e.items, d.trailer⟩ ∧ (docE ⟨e.items, d.trailer⟩ = 0 → applyD d (diffL d e) (diffG d e) = ⟨e.items, d.trailer⟩) := by
  obtain ⟨x, h1, h2, h3⟩ := diff_applies hd he
  have h4 := apply_ok hd h1 h3
  rw [h2] at h4
  exact ⟨h4.1, fun h => by rw [h4.2, if_pos h]⟩
theorem doc_swap {d e : Dc} (hd : docE d = 0) (he : docE e = 0) : docE ⟨e.items, d.trailer⟩ = 0 ∨ docE ⟨e.items, d.trailer⟩ = 22 := by
  have hi : itemsE e.items = 0 := docE_items he
  have hi : itemsE (⟨e.items, d.trailer⟩ : Dc).items = 0 := hi
  rw [doc_trail hi]
  have ht := trail_parts (docE_trail hd)
  rw [trail_root (d := ⟨e.items, d.trailer⟩) ht.1 ht.2.1 ht.2.2.1]
  split
  · exact .inr rfl
  · exact .inl rfl
end Aw

namespace Aw
open Go Go.RowKit Go.WideShapes Go.ChangeShapes
def Itm.tot (i : Itm) : Nat := i.obj.tot + 3
def itots (l : List Itm) : Nat := (l.map Itm.tot).sum
def Dc.tot (d : Dc) : Nat := itots d.items + d.trailer.tot
def Itm.wf (i : Itm) : Prop := inI64 i.num ∧ inI64 i.gen ∧ i.obj.wf
def Dc.wf (d : Dc) : Prop := (∀ i ∈ d.items, i.wf) ∧ d.trailer.wf
theorem ibulk_tot (l : List Itm) : ibulk l ≤ itots l := by
  induction l with
  | nil => simp [ibulk, itots]
  | cons i l ih =>
    have := Pob.bulk_tot i.obj
    simp only [ibulk, itots, List.map_cons, List.sum_cons, Itm.tot] at ih ⊢
    omega
theorem Dc.bulk_tot (d : Dc) : d.bulk ≤ d.tot := by
  have := ibulk_tot d.items
  have := Pob.bulk_tot d.trailer
  simp only [Dc.bulk, Dc.tot]
  omega
theorem keys_size (ks : List (List UInt8)) : ksize ks ≤ (ks.map fun k => k.length + 1).sum := by
  unfold ksize
  induction ks with
  | nil => simp
  | cons k ks ih => simp only [List.map_cons, List.sum_cons]; omega
mutual
theorem Pob.psize_tot : ∀ o : Pob, o.psize ≤ o.tot
  | .mk _ _ _ s ks l => by
    simp only [Pob.psize, Pob.tot]
    have := psizes_tots l
    have := keys_size ks
    omega
theorem psizes_tots : ∀ l : List Pob, psizes l ≤ tots l
  | [] => by simp only [psizes, tots]; omega
  | o :: l => by
    simp only [psizes, tots]
    have := Pob.psize_tot o
    have := psizes_tots l
    omega
end
theorem isize_tot (l : List Itm) : isize l ≤ itots l := by
  unfold isize itots
  induction l with
  | nil => simp
  | cons i l ih =>
    have := Pob.psize_tot i.obj
    simp only [List.map_cons, List.sum_cons, Itm.tot] at ih ⊢
    omega
theorem Dc.size_tot (d : Dc) : d.size ≤ d.tot := by
  have := isize_tot d.items
  have := Pob.psize_tot d.trailer
  simp only [Dc.size, Dc.tot]
  omega
/-- the numbers of the types of a document -/
structure DocT (P : Program) (tO tI tL tS tKs tOs tIt tIts tD : TypeId) : Prop where
  o : ObjT P tO tI tL tS tKs tOs
  it : ∃ fs, P.underlying tIt = some (.struct fs) ∧ fs.toList.map (fun f => (f.offset, f.type)) = [(0, tI), (1, tI), (2, tO)]
  its : P.underlying tIts = some (.slice tIt)
  d : ∃ fs, P.underlying tD = some (.struct fs) ∧ fs.toList.map (fun f => (f.offset, f.type)) = [(0, tIts), (1, tO)]
  c : P.cellsOf tIt = 8 ∧ P.cellsOf tIts = 1 ∧ P.cellsOf tD = 7
section
variable {H : Type} {enc : TypeId × Value → H} {P : Program} {W : World} {tO tI tL tS tKs tOs tIt tIts tD : TypeId}
theorem Opn.item (T : DocT P tO tI tL tS tKs tOs tIt tIts tD) (N : Nat) : Opn enc P W N tIt Itm.cells Itm.tot Itm.wf := by
  cases N with
  | zero => exact Opn.zero
  | succ N =>
    obtain ⟨fs, h1, h2⟩ := T.it
    obtain ⟨c0, c1, c2, c3, c4, c5⟩ := T.o.c
    refine Opn.as (fun p : Int × Int × Pob × Unit => Itm.mk p.1 p.2.1 p.2.2.1)
      (Opn.struct h1 h2 T.c.1 (OpnF.cons (Opn.int T.o.i) c1 (OpnF.cons (Opn.int T.o.i) c1 (OpnF.cons (Opn.obj T.o N) c0 OpnF.nil)))) ?_ ?_ ?_
    · intro a; simp [Itm.cells, Pob.cells_eq]
    · intro a; simp only [Itm.tot]; omega
    · intro a ⟨ha, hb, hc, _⟩
      exact ⟨wf_i64 ha, wf_i64 hb, hc⟩
theorem Opn.items (T : DocT P tO tI tL tS tKs tOs tIt tIts tD) (N : Nat) : Opn enc P W N tIts (fun l : List Itm => [.sl (itemsAV l)]) (fun l => itots l + 1) (fun l => ∀ i ∈ l, i.wf) := by
  cases N with
  | zero => exact Opn.zero
  | succ N => exact Opn.slice T.its (by rw [T.c.1]; decide) (Opn.item T N)
theorem Opn.doc (T : DocT P tO tI tL tS tKs tOs tIt tIts tD) (N : Nat) : Opn enc P W N tD Dc.cells Dc.tot Dc.wf := by
  cases N with
  | zero => exact Opn.zero
  | succ N =>
    obtain ⟨fs, h1, h2⟩ := T.d
    obtain ⟨c0, c1, c2, c3, c4, c5⟩ := T.o.c
    refine Opn.as (fun p : List Itm × Pob × Unit => Dc.mk p.1 p.2.1)
      (Opn.struct h1 h2 T.c.2.2 (OpnF.cons (Opn.items T N) T.c.2.1 (OpnF.cons (Opn.obj T.o N) c0 OpnF.nil))) ?_ ?_ ?_
    · intro a; simp [Dc.cells, Pob.cells_eq]
    · intro a; simp only [Dc.tot]; omega
    · intro a ⟨ha, hb, _⟩
      exact ⟨ha, hb⟩
theorem Opn.ints (T : DocT P tO tI tL tS tKs tOs tIt tIts tD) {tIs : TypeId} (ht : P.underlying tIs = some (.slice tI)) (N : Nat) : Opn enc P W N tIs (fun l : List Int => [.sl (intsAV l)]) (fun l => l.length + 1) (fun l => ∀ n ∈ l, inI64 n) := by
  cases N with
  | zero => exact Opn.zero
  | succ N =>
    refine Opn.as id (Opn.slice ht (by rw [T.o.c.2.1]; decide) (Opn.int (N := N) T.o.i)) (fun a => ?_) (fun a => ?_) (fun a h n hn => wf_i64 (h n hn))
    · simp [intsAV]
    · have : (a.map fun _ => 1).sum = a.length := by induction a with
        | nil => rfl
        | cons x l ih => simp only [List.map_cons, List.sum_cons, List.length_cons, ih]; omega
      simp only [id, this]; exact Nat.le_refl _
end
end Aw

namespace Go.Proofs
open Go Aw
@[go_sem] theorem ti1 : tinfo Tryz.prog 1 = some ⟨.func, 1, 8, some [.raw .nilFunc]⟩ := by kernel_rfl
@[go_sem] theorem ti2 : tinfo Tryz.prog 2 = some ⟨.int .i64, 1, 8, some [.int .i64 0]⟩ := by kernel_rfl
@[go_sem] theorem ti3 : tinfo Tryz.prog 3 = some ⟨.int .i64, 1, 8, some [.int .i64 0]⟩ := by kernel_rfl
@[go_sem] theorem ti4 : tinfo Tryz.prog 4 = some ⟨.bool, 1, 1, some [.bool false]⟩ := by kernel_rfl
@[go_sem] theorem ti5 : tinfo Tryz.prog 5 = some ⟨.int .u8, 1, 1, some [.int .u8 0]⟩ := by kernel_rfl
@[go_sem] theorem ti9 : tinfo Tryz.prog 9 = some ⟨.str, 1, 16, some [.str []]⟩ := by kernel_rfl
@[go_sem] theorem ti12 : tinfo Tryz.prog 12 = some ⟨.int .u64, 1, 8, some [.int .u64 0]⟩ := by kernel_rfl
@[go_sem] theorem ti13 : tinfo Tryz.prog 13 = some ⟨.struct [(0, 9), (1, 12)], 2, 24, some [.str [], .int .u64 0]⟩ := by kernel_rfl
@[go_sem high] theorem bl13 : blist Tryz.prog 13 = some [(0, 1), (1, 1)] := by kernel_rfl
@[go_sem] theorem ti20 : tinfo Tryz.prog 20 = some ⟨.iface, 1, 16, some [.raw .nilIface]⟩ := by kernel_rfl
@[go_sem] theorem ti21 : tinfo Tryz.prog 21 = some ⟨.int .i32, 1, 4, some [.int .i32 0]⟩ := by kernel_rfl
@[go_sem] theorem ti22 : tinfo Tryz.prog 22 = some ⟨.func, 1, 8, some [.raw .nilFunc]⟩ := by kernel_rfl
@[go_sem] theorem ti23 : tinfo Tryz.prog 23 = some ⟨.slice 39, 1, 24, some [.raw (.slice none 0 0)]⟩ := by kernel_rfl
@[go_sem] theorem ti24 : tinfo Tryz.prog 24 = some ⟨.slice 9, 1, 24, some [.raw (.slice none 0 0)]⟩ := by kernel_rfl
@[go_sem] theorem ti25 : tinfo Tryz.prog 25 = some ⟨.slice 27, 1, 24, some [.raw (.slice none 0 0)]⟩ := by kernel_rfl
@[go_sem] theorem ti26 : tinfo Tryz.prog 26 = some ⟨.struct [(0, 3), (1, 2), (2, 3), (3, 9), (4, 24), (5, 25)], 6, 88, some [.int .i64 0, .int .i64 0, .int .i64 0, .str [], .raw (.slice none 0 0), .raw (.slice none 0 0)]⟩ := by kernel_rfl
@[go_sem high] theorem bl26 : blist Tryz.prog 26 = some [(0, 1), (1, 1), (2, 1), (3, 1), (4, 1), (5, 1)] := by kernel_rfl
@[go_sem] theorem ti27 : tinfo Tryz.prog 27 = some ⟨.struct [(0, 3), (1, 2), (2, 3), (3, 9), (4, 24), (5, 25)], 6, 88, some [.int .i64 0, .int .i64 0, .int .i64 0, .str [], .raw (.slice none 0 0), .raw (.slice none 0 0)]⟩ := by kernel_rfl
@[go_sem high] theorem bl27 : blist Tryz.prog 27 = some [(0, 1), (1, 1), (2, 1), (3, 1), (4, 1), (5, 1)] := by kernel_rfl
@[go_sem] theorem ti28 : tinfo Tryz.prog 28 = some ⟨.struct [(0, 23), (1, 27)], 7, 112, some [.raw (.slice none 0 0), .int .i64 0, .int .i64 0, .int .i64 0, .str [], .raw (.slice none 0 0), .raw (.slice none 0 0)]⟩ := by kernel_rfl
@[go_sem high] theorem bl28 : blist Tryz.prog 28 = some [(0, 1), (1, 6)] := by kernel_rfl
@[go_sem] theorem ti29 : tinfo Tryz.prog 29 = some ⟨.struct [(0, 23), (1, 27)], 7, 112, some [.raw (.slice none 0 0), .int .i64 0, .int .i64 0, .int .i64 0, .str [], .raw (.slice none 0 0), .raw (.slice none 0 0)]⟩ := by kernel_rfl
@[go_sem high] theorem bl29 : blist Tryz.prog 29 = some [(0, 1), (1, 6)] := by kernel_rfl
@[go_sem] theorem ti30 : tinfo Tryz.prog 30 = some ⟨.int .i64, 1, 8, some [.int .i64 0]⟩ := by kernel_rfl
@[go_sem] theorem ti32 : tinfo Tryz.prog 32 = some ⟨.func, 1, 8, some [.raw .nilFunc]⟩ := by kernel_rfl
@[go_sem] theorem ti33 : tinfo Tryz.prog 33 = some ⟨.func, 1, 8, some [.raw .nilFunc]⟩ := by kernel_rfl
@[go_sem] theorem ti34 : tinfo Tryz.prog 34 = some ⟨.func, 1, 8, some [.raw .nilFunc]⟩ := by kernel_rfl
@[go_sem] theorem ti35 : tinfo Tryz.prog 35 = some ⟨.func, 1, 8, some [.raw .nilFunc]⟩ := by kernel_rfl
@[go_sem] theorem ti36 : tinfo Tryz.prog 36 = some ⟨.func, 1, 8, some [.raw .nilFunc]⟩ := by kernel_rfl
@[go_sem] theorem ti37 : tinfo Tryz.prog 37 = some ⟨.func, 1, 8, some [.raw .nilFunc]⟩ := by kernel_rfl
@[go_sem] theorem ti38 : tinfo Tryz.prog 38 = some ⟨.struct [(0, 3), (1, 3), (2, 27)], 8, 104, some [.int .i64 0, .int .i64 0, .int .i64 0, .int .i64 0, .int .i64 0, .str [], .raw (.slice none 0 0), .raw (.slice none 0 0)]⟩ := by kernel_rfl
@[go_sem high] theorem bl38 : blist Tryz.prog 38 = some [(0, 1), (1, 1), (2, 6)] := by kernel_rfl
@[go_sem] theorem ti39 : tinfo Tryz.prog 39 = some ⟨.struct [(0, 3), (1, 3), (2, 27)], 8, 104, some [.int .i64 0, .int .i64 0, .int .i64 0, .int .i64 0, .int .i64 0, .str [], .raw (.slice none 0 0), .raw (.slice none 0 0)]⟩ := by kernel_rfl
@[go_sem high] theorem bl39 : blist Tryz.prog 39 = some [(0, 1), (1, 1), (2, 6)] := by kernel_rfl
@[go_sem] theorem ti41 : tinfo Tryz.prog 41 = some ⟨.func, 1, 8, some [.raw .nilFunc]⟩ := by kernel_rfl
@[go_sem] theorem ti42 : tinfo Tryz.prog 42 = some ⟨.func, 1, 8, some [.raw .nilFunc]⟩ := by kernel_rfl
@[go_sem] theorem ti43 : tinfo Tryz.prog 43 = some ⟨.func, 1, 8, some [.raw .nilFunc]⟩ := by kernel_rfl
@[go_sem] theorem ti44 : tinfo Tryz.prog 44 = some ⟨.func, 1, 8, some [.raw .nilFunc]⟩ := by kernel_rfl
@[go_sem] theorem ti45 : tinfo Tryz.prog 45 = some ⟨.func, 1, 8, some [.raw .nilFunc]⟩ := by kernel_rfl
@[go_sem] theorem ti46 : tinfo Tryz.prog 46 = some ⟨.func, 1, 8, some [.raw .nilFunc]⟩ := by kernel_rfl
@[go_sem] theorem ti47 : tinfo Tryz.prog 47 = some ⟨.func, 1, 8, some [.raw .nilFunc]⟩ := by kernel_rfl
@[go_sem] theorem ti49 : tinfo Tryz.prog 49 = some ⟨.func, 1, 8, some [.raw .nilFunc]⟩ := by kernel_rfl
@[go_sem] theorem ti50 : tinfo Tryz.prog 50 = some ⟨.func, 1, 8, some [.raw .nilFunc]⟩ := by kernel_rfl
@[go_sem] theorem ti51 : tinfo Tryz.prog 51 = some ⟨.func, 1, 8, some [.raw .nilFunc]⟩ := by kernel_rfl
@[go_sem] theorem ti52 : tinfo Tryz.prog 52 = some ⟨.func, 1, 8, some [.raw .nilFunc]⟩ := by kernel_rfl
@[go_sem] theorem ti53 : tinfo Tryz.prog 53 = some ⟨.func, 1, 8, some [.raw .nilFunc]⟩ := by kernel_rfl
@[go_sem] theorem ti54 : tinfo Tryz.prog 54 = some ⟨.func, 1, 8, some [.raw .nilFunc]⟩ := by kernel_rfl
@[go_sem] theorem ti55 : tinfo Tryz.prog 55 = some ⟨.func, 1, 8, some [.raw .nilFunc]⟩ := by kernel_rfl
@[go_sem] theorem ti56 : tinfo Tryz.prog 56 = some ⟨.func, 1, 8, some [.raw .nilFunc]⟩ := by kernel_rfl
@[go_sem] theorem ti57 : tinfo Tryz.prog 57 = some ⟨.struct [(0, 9), (1, 27)], 7, 104, some [.str [], .int .i64 0, .int .i64 0, .int .i64 0, .str [], .raw (.slice none 0 0), .raw (.slice none 0 0)]⟩ := by kernel_rfl
@[go_sem high] theorem bl57 : blist Tryz.prog 57 = some [(0, 1), (1, 6)] := by kernel_rfl
@[go_sem] theorem ti58 : tinfo Tryz.prog 58 = some ⟨.struct [(0, 9), (1, 27)], 7, 104, some [.str [], .int .i64 0, .int .i64 0, .int .i64 0, .str [], .raw (.slice none 0 0), .raw (.slice none 0 0)]⟩ := by kernel_rfl
@[go_sem high] theorem bl58 : blist Tryz.prog 58 = some [(0, 1), (1, 6)] := by kernel_rfl
@[go_sem] theorem ti59 : tinfo Tryz.prog 59 = some ⟨.func, 1, 8, some [.raw .nilFunc]⟩ := by kernel_rfl
@[go_sem] theorem ti60 : tinfo Tryz.prog 60 = some ⟨.func, 1, 8, some [.raw .nilFunc]⟩ := by kernel_rfl
@[go_sem] theorem ti61 : tinfo Tryz.prog 61 = some ⟨.func, 1, 8, some [.raw .nilFunc]⟩ := by kernel_rfl
@[go_sem] theorem ti62 : tinfo Tryz.prog 62 = some ⟨.func, 1, 8, some [.raw .nilFunc]⟩ := by kernel_rfl
@[go_sem] theorem ti63 : tinfo Tryz.prog 63 = some ⟨.func, 1, 8, some [.raw .nilFunc]⟩ := by kernel_rfl
@[go_sem] theorem ti65 : tinfo Tryz.prog 65 = some ⟨.func, 1, 8, some [.raw .nilFunc]⟩ := by kernel_rfl
@[go_sem] theorem ti66 : tinfo Tryz.prog 66 = some ⟨.func, 1, 8, some [.raw .nilFunc]⟩ := by kernel_rfl
@[go_sem] theorem ti67 : tinfo Tryz.prog 67 = some ⟨.func, 1, 8, some [.raw .nilFunc]⟩ := by kernel_rfl
@[go_sem] theorem ti68 : tinfo Tryz.prog 68 = some ⟨.func, 1, 8, some [.raw .nilFunc]⟩ := by kernel_rfl
@[go_sem] theorem ti70 : tinfo Tryz.prog 70 = some ⟨.func, 1, 8, some [.raw .nilFunc]⟩ := by kernel_rfl
@[go_sem] theorem ti71 : tinfo Tryz.prog 71 = some ⟨.func, 1, 8, some [.raw .nilFunc]⟩ := by kernel_rfl
@[go_sem] theorem ti72 : tinfo Tryz.prog 72 = some ⟨.func, 1, 8, some [.raw .nilFunc]⟩ := by kernel_rfl
@[go_sem] theorem ti73 : tinfo Tryz.prog 73 = some ⟨.func, 1, 8, some [.raw .nilFunc]⟩ := by kernel_rfl
@[go_sem] theorem ti75 : tinfo Tryz.prog 75 = some ⟨.func, 1, 8, some [.raw .nilFunc]⟩ := by kernel_rfl
@[go_sem] theorem ti76 : tinfo Tryz.prog 76 = some ⟨.func, 1, 8, some [.raw .nilFunc]⟩ := by kernel_rfl
@[go_sem] theorem ti78 : tinfo Tryz.prog 78 = some ⟨.func, 1, 8, some [.raw .nilFunc]⟩ := by kernel_rfl
@[go_sem] theorem ti79 : tinfo Tryz.prog 79 = some ⟨.func, 1, 8, some [.raw .nilFunc]⟩ := by kernel_rfl
@[go_sem] theorem ti80 : tinfo Tryz.prog 80 = some ⟨.slice 3, 1, 24, some [.raw (.slice none 0 0)]⟩ := by kernel_rfl
@[go_sem] theorem ti81 : tinfo Tryz.prog 81 = some ⟨.func, 1, 8, some [.raw .nilFunc]⟩ := by kernel_rfl
@[go_sem] theorem ti82 : tinfo Tryz.prog 82 = some ⟨.func, 1, 8, some [.raw .nilFunc]⟩ := by kernel_rfl
@[go_sem] theorem ti83 : tinfo Tryz.prog 83 = some ⟨.func, 1, 8, some [.raw .nilFunc]⟩ := by kernel_rfl
@[go_sem] theorem ti84 : tinfo Tryz.prog 84 = some ⟨.slice 58, 1, 24, some [.raw (.slice none 0 0)]⟩ := by kernel_rfl
@[go_sem] theorem ti85 : tinfo Tryz.prog 85 = some ⟨.func, 1, 8, some [.raw .nilFunc]⟩ := by kernel_rfl
@[go_sem] theorem ti86 : tinfo Tryz.prog 86 = some ⟨.func, 1, 8, some [.raw .nilFunc]⟩ := by kernel_rfl
@[go_sem] theorem ti87 : tinfo Tryz.prog 87 = some ⟨.func, 1, 8, some [.raw .nilFunc]⟩ := by kernel_rfl
@[go_sem] theorem ti88 : tinfo Tryz.prog 88 = some ⟨.func, 1, 8, some [.raw .nilFunc]⟩ := by kernel_rfl
@[go_sem] theorem ti89 : tinfo Tryz.prog 89 = some ⟨.func, 1, 8, some [.raw .nilFunc]⟩ := by kernel_rfl
@[go_sem] theorem ti90 : tinfo Tryz.prog 90 = some ⟨.func, 1, 8, some [.raw .nilFunc]⟩ := by kernel_rfl
@[go_sem] theorem ti91 : tinfo Tryz.prog 91 = some ⟨.func, 1, 8, some [.raw .nilFunc]⟩ := by kernel_rfl
@[go_sem] theorem ti92 : tinfo Tryz.prog 92 = some ⟨.func, 1, 8, some [.raw .nilFunc]⟩ := by kernel_rfl
@[go_sem] theorem ti93 : tinfo Tryz.prog 93 = some ⟨.func, 1, 8, some [.raw .nilFunc]⟩ := by kernel_rfl
@[go_sem] theorem ti94 : tinfo Tryz.prog 94 = some ⟨.func, 1, 8, some [.raw .nilFunc]⟩ := by kernel_rfl
@[go_sem] theorem ti95 : tinfo Tryz.prog 95 = some ⟨.func, 1, 8, some [.raw .nilFunc]⟩ := by kernel_rfl
@[go_sem] theorem ti96 : tinfo Tryz.prog 96 = some ⟨.func, 1, 8, some [.raw .nilFunc]⟩ := by kernel_rfl
@[go_sem] theorem ti97 : tinfo Tryz.prog 97 = some ⟨.func, 1, 8, some [.raw .nilFunc]⟩ := by kernel_rfl
@[go_sem] theorem ti98 : tinfo Tryz.prog 98 = some ⟨.func, 1, 8, some [.raw .nilFunc]⟩ := by kernel_rfl
@[go_sem] theorem ti99 : tinfo Tryz.prog 99 = some ⟨.func, 1, 8, some [.raw .nilFunc]⟩ := by kernel_rfl
@[go_sem] theorem ti100 : tinfo Tryz.prog 100 = some ⟨.func, 1, 8, some [.raw .nilFunc]⟩ := by kernel_rfl
@[go_sem] theorem ti101 : tinfo Tryz.prog 101 = some ⟨.func, 1, 8, some [.raw .nilFunc]⟩ := by kernel_rfl
@[go_sem] theorem ti103 : tinfo Tryz.prog 103 = some ⟨.func, 1, 8, some [.raw .nilFunc]⟩ := by kernel_rfl
@[go_sem] theorem ti105 : tinfo Tryz.prog 105 = some ⟨.func, 1, 8, some [.raw .nilFunc]⟩ := by kernel_rfl
@[go_sem] theorem ti106 : tinfo Tryz.prog 106 = some ⟨.func, 1, 8, some [.raw .nilFunc]⟩ := by kernel_rfl
@[go_sem] theorem ti107 : tinfo Tryz.prog 107 = some ⟨.map 9 4, 1, 8, some [.raw (.map none)]⟩ := by kernel_rfl
@[go_sem] theorem ti108 : tinfo Tryz.prog 108 = some ⟨.func, 1, 8, some [.raw .nilFunc]⟩ := by kernel_rfl
@[go_sem] theorem ti109 : tinfo Tryz.prog 109 = some ⟨.func, 1, 8, some [.raw .nilFunc]⟩ := by kernel_rfl
@[go_sem] theorem ti110 : tinfo Tryz.prog 110 = some ⟨.func, 1, 8, some [.raw .nilFunc]⟩ := by kernel_rfl
@[go_sem] theorem ti111 : tinfo Tryz.prog 111 = some ⟨.func, 1, 8, some [.raw .nilFunc]⟩ := by kernel_rfl
@[go_sem] theorem ti112 : tinfo Tryz.prog 112 = some ⟨.struct [(0, 30)], 1, 8, some [.int .i64 0]⟩ := by kernel_rfl
@[go_sem high] theorem bl112 : blist Tryz.prog 112 = some [(0, 1)] := by kernel_rfl
@[go_sem] theorem ti113 : tinfo Tryz.prog 113 = some ⟨.struct [(0, 30)], 1, 8, some [.int .i64 0]⟩ := by kernel_rfl
@[go_sem high] theorem bl113 : blist Tryz.prog 113 = some [(0, 1)] := by kernel_rfl
@[go_sem] theorem ti114 : tinfo Tryz.prog 114 = some ⟨.func, 1, 8, some [.raw .nilFunc]⟩ := by kernel_rfl
@[go_sem] theorem ti115 : tinfo Tryz.prog 115 = some ⟨.struct [(0, 4), (1, 4), (2, 4), (3, 4), (4, 4)], 5, 5, some [.bool false, .bool false, .bool false, .bool false, .bool false]⟩ := by kernel_rfl
@[go_sem high] theorem bl115 : blist Tryz.prog 115 = some [(0, 1), (1, 1), (2, 1), (3, 1), (4, 1)] := by kernel_rfl
@[go_sem] theorem ti116 : tinfo Tryz.prog 116 = some ⟨.struct [(0, 4), (1, 4), (2, 4), (3, 4), (4, 4)], 5, 5, some [.bool false, .bool false, .bool false, .bool false, .bool false]⟩ := by kernel_rfl
@[go_sem high] theorem bl116 : blist Tryz.prog 116 = some [(0, 1), (1, 1), (2, 1), (3, 1), (4, 1)] := by kernel_rfl
@[go_sem] theorem ti118 : tinfo Tryz.prog 118 = some ⟨.func, 1, 8, some [.raw .nilFunc]⟩ := by kernel_rfl
@[go_sem] theorem ti119 : tinfo Tryz.prog 119 = some ⟨.func, 1, 8, some [.raw .nilFunc]⟩ := by kernel_rfl
@[go_sem] theorem ti120 : tinfo Tryz.prog 120 = some ⟨.func, 1, 8, some [.raw .nilFunc]⟩ := by kernel_rfl
@[go_sem] theorem ti122 : tinfo Tryz.prog 122 = some ⟨.func, 1, 8, some [.raw .nilFunc]⟩ := by kernel_rfl
@[go_sem] theorem ti123 : tinfo Tryz.prog 123 = some ⟨.func, 1, 8, some [.raw .nilFunc]⟩ := by kernel_rfl
@[go_sem] theorem ti124 : tinfo Tryz.prog 124 = some ⟨.func, 1, 8, some [.raw .nilFunc]⟩ := by kernel_rfl
@[go_sem] theorem ti125 : tinfo Tryz.prog 125 = some ⟨.func, 1, 8, some [.raw .nilFunc]⟩ := by kernel_rfl
@[go_sem] theorem ti126 : tinfo Tryz.prog 126 = some ⟨.func, 1, 8, some [.raw .nilFunc]⟩ := by kernel_rfl
@[go_sem] theorem ti127 : tinfo Tryz.prog 127 = some ⟨.func, 1, 8, some [.raw .nilFunc]⟩ := by kernel_rfl
@[go_sem] theorem ti128 : tinfo Tryz.prog 128 = some ⟨.func, 1, 8, some [.raw .nilFunc]⟩ := by kernel_rfl
@[go_sem] theorem ti129 : tinfo Tryz.prog 129 = some ⟨.func, 1, 8, some [.raw .nilFunc]⟩ := by kernel_rfl
@[go_sem] theorem ti130 : tinfo Tryz.prog 130 = some ⟨.func, 1, 8, some [.raw .nilFunc]⟩ := by kernel_rfl
@[go_sem] theorem ti131 : tinfo Tryz.prog 131 = some ⟨.func, 1, 8, some [.raw .nilFunc]⟩ := by kernel_rfl
@[go_sem] theorem ti132 : tinfo Tryz.prog 132 = some ⟨.func, 1, 8, some [.raw .nilFunc]⟩ := by kernel_rfl
@[go_sem] theorem ti133 : tinfo Tryz.prog 133 = some ⟨.func, 1, 8, some [.raw .nilFunc]⟩ := by kernel_rfl
@[go_sem] theorem ti134 : tinfo Tryz.prog 134 = some ⟨.func, 1, 8, some [.raw .nilFunc]⟩ := by kernel_rfl
@[go_sem] theorem ti135 : tinfo Tryz.prog 135 = some ⟨.int .u64, 1, 8, some [.int .u64 0]⟩ := by kernel_rfl
@[go_sem] theorem ti136 : tinfo Tryz.prog 136 = some ⟨.func, 1, 8, some [.raw .nilFunc]⟩ := by kernel_rfl
@[go_sem] theorem ti137 : tinfo Tryz.prog 137 = some ⟨.func, 1, 8, some [.raw .nilFunc]⟩ := by kernel_rfl
@[go_sem] theorem ti138 : tinfo Tryz.prog 138 = some ⟨.func, 1, 8, some [.raw .nilFunc]⟩ := by kernel_rfl
@[go_sem] theorem ti139 : tinfo Tryz.prog 139 = some ⟨.func, 1, 8, some [.raw .nilFunc]⟩ := by kernel_rfl
@[go_sem] theorem ti140 : tinfo Tryz.prog 140 = some ⟨.func, 1, 8, some [.raw .nilFunc]⟩ := by kernel_rfl
@[go_sem] theorem ti141 : tinfo Tryz.prog 141 = some ⟨.func, 1, 8, some [.raw .nilFunc]⟩ := by kernel_rfl
@[go_sem] theorem ti142 : tinfo Tryz.prog 142 = some ⟨.func, 1, 8, some [.raw .nilFunc]⟩ := by kernel_rfl
@[go_sem] theorem ti143 : tinfo Tryz.prog 143 = some ⟨.int .u32, 1, 4, some [.int .u32 0]⟩ := by kernel_rfl
@[go_sem] theorem ti145 : tinfo Tryz.prog 145 = some ⟨.func, 1, 8, some [.raw .nilFunc]⟩ := by kernel_rfl
@[go_sem] theorem ti146 : tinfo Tryz.prog 146 = some ⟨.func, 1, 8, some [.raw .nilFunc]⟩ := by kernel_rfl
@[go_sem] theorem ti147 : tinfo Tryz.prog 147 = some ⟨.func, 1, 8, some [.raw .nilFunc]⟩ := by kernel_rfl
@[go_sem] theorem ti148 : tinfo Tryz.prog 148 = some ⟨.func, 1, 8, some [.raw .nilFunc]⟩ := by kernel_rfl
@[go_sem] theorem ti149 : tinfo Tryz.prog 149 = some ⟨.func, 1, 8, some [.raw .nilFunc]⟩ := by kernel_rfl
@[go_sem] theorem ti155 : tinfo Tryz.prog 155 = some ⟨.func, 1, 8, some [.raw .nilFunc]⟩ := by kernel_rfl
@[go_sem] theorem ti159 : tinfo Tryz.prog 159 = some ⟨.ptr 5, 1, 8, some [.raw (.pointer none)]⟩ := by kernel_rfl
end Go.Proofs
