/- A part of the proof of a law of the seat: no condition of its own. -/
import Derived.Test.YtokikpiffafajaaGreatPart15
namespace Go.Proofs
open Go Aw
set_option linter.unusedSimpArgs false
set_option linter.unusedVariables false
set_option maxRecDepth 100000
set_option maxHeartbeats 2000000
def kaTitle : List UInt8 := [84, 105, 116, 108, 101]
def kaAuthor : List UInt8 := [65, 117, 116, 104, 111, 114]
def kaE : Dc := setInfoD (newD 1) kaTitle [97]
def kaF : Dc := setRootD kaE [88] (intO 7)
theorem ka1 : newE 1 = 0 := by decide +kernel
theorem ka2 : newE (-1) = 2 := by decide +kernel
theorem ka3 : (newD 1).items.length = 3 := by decide +kernel
theorem ka4 : setInfoE (newD 1) kaTitle [97] = 0 := by decide +kernel
theorem ka5 : kaE.items.length = 4 := by decide +kernel
theorem ka6 : infoS kaE kaTitle = [97] := by decide +kernel
theorem ka7 : infoS kaE kaAuthor = [] := by decide +kernel
theorem ka8 : docE kaE = 0 := by decide +kernel
theorem ka9 : (rootO kaE).num = 1 := by decide +kernel
theorem ka10 : setRootE kaE [88] (intO 7) = 0 := by decide +kernel
theorem ka11 : docE kaF = 0 := by decide +kernel
theorem ka12 : (rootO kaF).obj.kids.length = 3 := by decide +kernel
theorem ka13 : ((rootO kaF).obj.kids.getD 2 Pob.null).num = 7 := by decide +kernel
theorem ka14 : (rootO kaF).obj.keys.getD 2 [] = [88] := by decide +kernel
theorem ka15 : setRootE kaE [] Pob.null = 3 := by decide +kernel
theorem ka16 : (rootO kaF).obj.keys.length = 3 := by decide +kernel
theorem c_law34_lives (gl : List (Nat × AV))  : FnP Tryz.prog (gl) 7 [] fun r => r = .ret (.bool true) := by
  refine FnP.intro Tryz.func7 rfl rfl (by simp [Tryz.ntmps7]) ?_
  simp only [argEnv, Tryz.ntmps7, Tryz.results7]
  have hkl := ka12
  have hks := ka16
  refine AW.rS ?_
  refine AW.trim [] ?_
  refine AW.rSC ?_
  refine awOps.cons (awGuard.c1 (c_catalog_New _ 1) ?_)
  refine awOps.rn ?_
  refine AW.trim [1, 2] ?_
  refine AW.rSC ?_
  refine awOps.cons (awGuard.c1 (c_catalog_New _ (-1)) ?_)
  refine awOps.rn ?_
  refine AW.trim [1, 2, 4] ?_
  refine AW.seq ?_
  refine AW.rS ?_
  refine AW.trim [1, 34] ?_
  refine AW.c2 ?_ ?_
  · intro h10
    simp [ka1, ka2, ka3] at h10
  · intro h10
    refine AW.skip ?_
    refine AW.rSC ?_
    refine awOps.cons (awGuard.c1 (c_catalog_SetInfo _ (newD 1) kaTitle [97] (by decide +kernel)) ?_)
    refine awOps.rn ?_
    refine AW.trim [5, 6] ?_
    refine AW.rSC ?_
    refine awOps.cons (awGuard.c1 (c_catalog_Root _ kaE (by decide +kernel)) ?_)
    refine awOps.rn ?_
    refine AW.trim [5, 6, 7, 8] ?_
    refine AW.rSC ?_
    refine awOps.cons (awGuard.c1 (c_catalog_SetRoot _ kaE [88] (intO 7) (by decide +kernel)) ?_)
    refine awOps.rn ?_
    refine AW.trim [5, 6, 7, 8, 9, 10] ?_
    refine AW.rSC ?_
    refine awOps.cons (awGuard.c1 (c_catalog_Root _ kaF (by decide +kernel)) ?_)
    refine awOps.rn ?_
    refine AW.trim [5, 6, 7, 8, 10, 11, 12] ?_
    refine AW.rSC ?_
    refine awOps.cons (awGuard.c1 (c_catalog_SetRoot _ kaE [] Pob.null (by decide +kernel)) ?_)
    refine awOps.rn ?_
    refine AW.trim [5, 6, 7, 8, 10, 11, 12, 14] ?_
    refine AW.rSC ?_
    refine awOps.cons (awGuard.cG (fun hg => c_catalog_Info _ kaE kaTitle (by decide +kernel)) ?_)
    refine awOps.rn ?_
    refine awOps.cons (awGuard.cG (fun hg => c_catalog_Info _ kaE kaAuthor (by decide +kernel)) ?_)
    refine awOps.rn ?_
    refine AW.trim [0] ?_
    refine AW.rt ?_
    have h5 : (setInfoD (newD 1) kaTitle [97]).items.length = 4 := ka5
    simp only [ka4, h5, ka6, ka7, ka8, ka9, ka10, ka11, hkl, ka13, ka14, ka15]
    rfl
theorem rootO_bulk (d : Dc) : (rootO d).obj.bulk ≤ d.bulk + 1 := by
  have h1 : Itm.zero.obj.bulk = 1 := by simp [Itm.zero, Pob.null, Pob.bulk, bulks]
  have h2 := look_bulk d.items (getO d.trailer rootK).num
  have h3 : d.bulk = ibulk d.items + d.trailer.bulk := rfl
  unfold rootO
  split
  · show ((lookI d.items (getO d.trailer rootK).num).getD Itm.zero).obj.bulk ≤ _; omega
  · omega
theorem withD_bulk (d : Dc) (i : Itm) (k : List UInt8) (o : Pob) : (withD d i k o).bulk ≤ d.bulk + i.obj.bulk + o.bulk + 3 := by
  have h1 := zero_bulk
  have h2 := setO_bulk i.obj k o
  have h3 := putO_bulk d ⟨i.num, i.gen, setO i.obj k o⟩
  dsimp only at h3
  unfold withD
  split <;> omega
theorem trailedD_bulk (d : Dc) (o : Pob) : (trailedD d o).bulk ≤ d.bulk + o.bulk + 3 := by
  have h1 := zero_bulk
  have h2 := setO_bulk d.trailer infoK o
  have h3 : d.bulk = ibulk d.items + d.trailer.bulk := rfl
  have h4 : (⟨d.items, setO d.trailer infoK o⟩ : Dc).bulk = ibulk d.items + (setO d.trailer infoK o).bulk := rfl
  unfold trailedD
  split <;> omega
theorem setRootD_bulk (d : Dc) (k : List UInt8) (o : Pob) : (setRootD d k o).bulk ≤ 2 * d.bulk + o.bulk + 5 := by
  have h1 := zero_bulk
  have h2 := look_bulk d.items (getO d.trailer rootK).num
  have h3 : d.bulk = ibulk d.items + d.trailer.bulk := rfl
  have h4 := withD_bulk d (rootI d) k o
  have h5 : (rootI d).obj.bulk = ((lookI d.items (getO d.trailer rootK).num).getD Itm.zero).obj.bulk := rfl
  unfold setRootD
  split <;> omega
theorem setInfoD_bulk (d : Dc) (k t : List UInt8) : (setInfoD d k t).bulk ≤ 5 * d.bulk + 50 := by
  have h1 := zero_bulk
  have h2 := look_bulk d.items (infoR d).num
  have h3 : d.bulk = ibulk d.items + d.trailer.bulk := rfl
  have h4 := withD_bulk d ((lookI d.items (infoR d).num).getD Itm.zero) k (textO t)
  have h5 := textO_bulk t
  have h6 := infoO_le d
  have h7 := setO_bulk (infoO d) k (textO t)
  have h8 := trailedD_bulk d (setO (infoO d) k (textO t))
  have h9 := dictO_bulk [nameO k, textO t]
  have h10 := nameO_bulk k
  simp only [bulks] at h9
  have h11 := addO_bulk d (dictO [nameO k, textO t])
  have h12 := trailedD_bulk (addO d (dictO [nameO k, textO t])) (refO (addN d (dictO [nameO k, textO t])) 0)
  have h13 := refO_bulk (addN d (dictO [nameO k, textO t])) 0
  unfold setInfoD
  split
  · omega
  · unfold putInfoD
    split
    · omega
    · split
      · split <;> omega
      · split
        · omega
        · split <;> omega
theorem c_foliantlaw34_light (gl : List (Nat × AV)) (d : Dc) (h : d.bulk ≤ 16777216) (hp : d.size ≤ 4611686018427387904) : FnP Tryz.prog (gl) 12 [.agg d.cells] fun r => r = .ret (.bool (decide ((d.items.length : Int) ≤ 40) && decide ((d.size : Int) ≤ 600))) := by
  refine FnP.intro Tryz.func12 rfl rfl (by simp [Tryz.ntmps12]) ?_
  simp only [argEnv, Tryz.ntmps12, Tryz.results12]
  refine AW.rS ?_
  refine AW.rSC ?_
  refine awOps.cons (awGuard.cG (fun hg => c_foliantref19_Size _ d h hp) ?_)
  refine awOps.rn ?_
  refine AW.rt ?_
  cases hh : decide ((d.items.length : Int) ≤ 40) <;> simp [hh]
theorem c_foliantlaw34_info (gl : List (Nat × AV)) (d : Dc) (h : d.tot ≤ 3000000) : FnP Tryz.prog (gl) 23 [.agg d.cells] fun r => r = .ret (.bool (decide ((infoO d).kind = 7) && decide (0 < ((refsO (infoO d)).length : Int)))) := by
  refine FnP.intro Tryz.func23 rfl rfl (by simp [Tryz.ntmps23]) ?_
  simp only [argEnv, Tryz.ntmps23, Tryz.results23]
  have hb := d.bulk_tot
  have hb2 : d.bulk = ibulk d.items + d.trailer.bulk := rfl
  have hi := infoO_le d
  refine AW.rS ?_
  refine AW.rSC ?_
  refine awOps.cons (awGuard.c1 (c_foliantref05_Get _ d.trailer infoK (by omega)) ?_)
  refine awOps.rn ?_
  refine AW.rSC ?_
  refine awOps.cons (awGuard.c1 (c_foliantref19_Follow _ d (infoR d) (by omega)) ?_)
  refine awOps.rn ?_
  refine AW.rSC ?_
  refine awOps.cons (awGuard.cG (fun hg => c_foliantref05_Refs _ (infoO d) (by omega)) ?_)
  refine awOps.rn ?_
  refine AW.rt ?_
  show _ = AE.ret (AV.bool (decide ((followO d (infoR d)).kind = 7) && _))
  cases decide ((followO d (infoR d)).kind = 7) <;> rfl
theorem c_law_CatalogTells (gl : List (Nat × AV)) (d : Dc) (k t : List UInt8) (o : Pob) (hd : d.tot + o.tot + k.length + t.length ≤ 1048576) : FnP Tryz.prog (gl) 4 [.agg d.cells, .str k, .str t, .agg o.cells] fun r => r = .ret (.bool true) := by
  refine FnP.intro Tryz.func4 rfl rfl (by simp [Tryz.ntmps4]) ?_
  simp only [argEnv, Tryz.ntmps4, Tryz.results4]
  have hb := d.bulk_tot
  have hb1 := o.bulk_tot
  have hps := o.psize_tot
  have hds := d.size_tot
  refine AW.rS ?_
  refine AW.seq ?_
  refine AW.rSC ?_
  refine awOps.cons (awGuard.c1 (c_foliantlaw34_light _ d (by omega) (by omega)) ?_)
  refine awOps.rn ?_
  refine awOps.cons (awGuard.cG (fun hg => c_foliantref05_Size _ o (by omega) (by omega)) ?_)
  refine awOps.rn ?_
  refine AW.c2 ?_ ?_
  · intro h8
    refine AW.rSC ?_
    refine awOps.cons (awGuard.c1 (c_law34_lives _) ?_)
    refine awOps.rn ?_
    refine AW.rt ?_
    all_goals first | contradiction | rfl | (simp; done) | (simp; omega)
  · intro h8
    refine AW.skip ?_
    refine AW.rSC ?_
    refine awOps.cons (awGuard.c1 (c_catalog_Root _ d (by omega)) ?_)
    refine awOps.rn ?_
    refine AW.rSC ?_
    refine awOps.cons (awGuard.c1 (c_foliantref34_Root _ d (by omega)) ?_)
    refine awOps.rn ?_
    refine AW.rSC ?_
    refine awOps.cons (awGuard.c1 (c_catalog_SetRoot _ d k o (by omega)) ?_)
    refine awOps.rn ?_
    refine AW.rSC ?_
    refine awOps.cons (awGuard.c1 (c_foliantref34_SetRoot _ d k o (by omega)) ?_)
    refine awOps.rn ?_
    refine AW.rSC ?_
    refine awOps.cons (awGuard.c1 (c_catalog_SetInfo _ d k t (by omega)) ?_)
    refine awOps.rn ?_
    refine AW.rSC ?_
    refine awOps.cons (awGuard.c1 (c_foliantref34_SetInfo _ d k t (by omega)) ?_)
    refine awOps.rn ?_
    refine AW.fS [0, 1, 2, 3, 4, 5, 6, 7, 8, 9, 10, 11, 12, 13, 14, 15, 16, 17, 18, 19, 20, 21, 22, 23, 24, 25, 26, 27, 28, 29, 30, 32, 33, 31, 34, 35, 36, 37, 38, 39, 40] [] ?_
    refine awFun.rn ?_
    refine awFun.c1 [78, 79] (c_foliantref19_SameItem _ (rootO d) (rootO d) (by have := rootO_bulk d; omega)) ?_
    refine awFun.rn ?_
    refine awFun.cG [86, 87, 88] (fun hg => c_foliantref19_Same _ (setRootD d k o) (setRootD d k o) (by have := setRootD_bulk d k o; omega)) ?_
    refine awFun.rn ?_
    refine awFun.cG [96, 97, 98] (fun hg => c_foliantref19_Same _ (setInfoD d k t) (setInfoD d k t) (by have := setInfoD_bulk d k t; omega)) ?_
    refine awFun.rn ?_
    refine awFun.cG [106, 107, 108] (fun hg => c_catalog_Info _ d k (by omega)) ?_
    refine awFun.rn ?_
    refine awFun.cG [106, 110, 111] (fun hg => c_foliantref34_Info _ d k (by omega)) ?_
    refine awFun.rn ?_
    refine awFun.cG [115] (fun hg => c_law34_lives _) ?_
    refine awFun.rn ?_
    rw [Aw.awFun_nil, Aw.awPlan_nil]
    refine AW.rt ?_
    all_goals first | contradiction | rfl | (simp; done) | (simp; omega)
end Go.Proofs

set_option linter.unusedVariables false
set_option linter.unusedSimpArgs false
namespace Aw
open Go
theorem with_zero {d : Dc} {i : Itm} {k : List UInt8} {o : Pob} (h : ¬ withE d i k o = 0) : withD d i k o = Dc.zero := by
  unfold withE at h
  unfold withD
  by_cases hs : setE i.obj k o = 0
  · rw [if_neg (by simpa using hs)] at h
    rw [if_neg (by simpa using hs)]
    exact put_bad h
  · rw [if_pos hs]
theorem setRoot_zero {d : Dc} {k : List UInt8} {o : Pob} (h : ¬ setRootE d k o = 0) : setRootD d k o = Dc.zero := by
  by_cases h1 : docE d = 0
  · by_cases h2 : keyE k = 0
    · by_cases h3 : chk o 1 = 0
      · rw [(setRoot_ok h1 h2 h3).1] at h
        rw [(setRoot_ok h1 h2 h3).2]
        exact with_zero h
      · exact (setRoot_obj h1 h2 h3).2
    · exact (setRoot_key h1 h2).2
  · exact (setRoot_doc h1).2
theorem with_parts {d : Dc} {i : Itm} {k : List UInt8} {o : Pob} (h : withE d i k o = 0) : setE i.obj k o = 0 ∧ putE d ⟨i.num, i.gen, setO i.obj k o⟩ = 0 ∧ withD d i k o = putO d ⟨i.num, i.gen, setO i.obj k o⟩ := by
  by_cases hs : setE i.obj k o = 0
  · rw [(with_ok hs).1] at h
    exact ⟨hs, h, (with_ok hs).2⟩
  · rw [(with_bad hs).1] at h
    exact absurd h hs
theorem setRoot_parts {d : Dc} {k : List UInt8} {o : Pob} (h : setRootE d k o = 0) : docE d = 0 ∧ chk o 1 = 0 ∧ setE (rootI d).obj k o = 0 ∧ putE d ⟨(rootI d).num, (rootI d).gen, setO (rootI d).obj k o⟩ = 0 ∧ setRootD d k o = putO d ⟨(rootI d).num, (rootI d).gen, setO (rootI d).obj k o⟩ := by
  by_cases h1 : docE d = 0
  · by_cases h2 : keyE k = 0
    · by_cases h3 : chk o 1 = 0
      · rw [(setRoot_ok h1 h2 h3).1] at h
        rw [(setRoot_ok h1 h2 h3).2]
        exact ⟨h1, h3, with_parts h⟩
      · rw [(setRoot_obj h1 h2 h3).1] at h; exact absurd h h3
    · rw [(setRoot_key h1 h2).1] at h; exact absurd h h2
  · rw [(setRoot_doc h1).1] at h; exact absurd h h1
theorem doc_trail0 {d : Dc} (h : docE d = 0) : trailE d = 0 := by
  have := doc_trail (docE_items h)
  omega
theorem root_there {d : Dc} (h : docE d = 0) : rootI d ∈ d.items ∧ (rootI d).num = (getO d.trailer rootK).num ∧ (rootI d).obj.kind = 7 := by
  obtain ⟨_, _, _, h8, h7⟩ := trail_parts (doc_trail0 h)
  have hf := follow_item (d := d) h8 (by omega)
  have hl : lookI d.items (getO d.trailer rootK).num ≠ none := by
    intro hn
    rw [follow_look, if_neg (by simp [h8]), hn] at h7
    have h0 : Pob.null.kind = 0 := rfl
    have : Pob.null.kind = 7 := h7
    omega
  obtain ⟨x, hx⟩ := Option.ne_none_iff_exists'.1 hl
  have hr : rootI d = x := by rw [rootI, hx]; rfl
  have hm := (look_some (doc_incr h)).1 hx
  rw [hr]
  refine ⟨hm.1, hm.2, ?_⟩
  rw [hx, Option.getD_some] at hf
  rw [hf]; exact h7
theorem null_chk {o : Pob} (h : chk o 1 = 0) (hk : o.kind = 0) : o = Pob.null := by
  have h1 := chk_own h
  unfold ownE at h1
  rw [if_neg (by decide)] at h1
  by_cases hu : useB o 1 = false
  · rw [if_pos hu] at h1; exact absurd h1 (by decide)
  · have hu : useB o 1 = true := by simpa using hu
    cases o with
    | mk a b c s ks l =>
      simp only [Pob.kind] at hk
      subst hk
      simp [useB, uOk, uN, uG, uS, uKeys, uKids, Pob.kind, Pob.num, Pob.gen, Pob.str, Pob.keys, Pob.kids] at hu
      obtain ⟨⟨⟨⟨e1, e2⟩, e3⟩, e4⟩, e5⟩ := hu
      have f1 := of_decide_eq_true e1
      have f2 := of_decide_eq_true e2
      have f3 := of_decide_eq_true e3
      clear e1 e2 e3
      rw [f1, f2, f3, e4, e5]
      rfl
theorem set_dropped {o v : Pob} {k : List UInt8} (h : setE o k v = 0) : dropO (setO o k v) k = dropO o k := by
  obtain ⟨hk, hc, _, hc2, hkd, _⟩ := set_parts h
  have h1 := (set_twice h Pob.null).2
  rw [(set_null (key := k) (by rw [hkd]; exact hk) hc2 (v := Pob.null) rfl).2, (set_null hk hc (v := Pob.null) rfl).2] at h1
  exact h1
theorem root_set {d : Dc} {k : List UInt8} {o : Pob} (h : setRootE d k o = 0) :
    docE d = 0 ∧ docE (setRootD d k o) = 0 ∧ rootI (setRootD d k o) = ⟨(rootI d).num, (rootI d).gen, setO (rootI d).obj k o⟩ ∧ (setRootD d k o).items.length = d.items.length ∧
    getB (setO (rootI d).obj k o) k = decide (o.kind ≠ 0) ∧ getO (setO (rootI d).obj k o) k = o ∧ dropO (setO (rootI d).obj k o) k = dropO (rootI d).obj k ∧
    ∀ i, i < d.items.length → (d.items.getD i Itm.zero).num ≠ (rootI d).num → (setRootD d k o).items.getD i Itm.zero = d.items.getD i Itm.zero := by
  obtain ⟨h1, h2, h3, h4, h5⟩ := setRoot_parts h
  have hp := put_parts h4
  have hr := root_there h1
  have hit : ithere d.items (rootI d).num = true := (ithere_iff (doc_incr h1)).2 ⟨_, hr.1, rfl⟩
  have hx : (setRootD d k o).items = d.items.set (iplace d.items (rootI d).num) ⟨(rootI d).num, (rootI d).gen, setO (rootI d).obj k o⟩ := by
    rw [h5, hp.2.2.2]
    show layI d.items _ = _
    unfold layI
    rw [if_pos hit]
  have hg := set_get h3
  refine ⟨h1, by rw [h5]; exact put_doc0 h4, ?_, by rw [hx, List.length_set], hg.1, ?_, set_dropped h3, ?_⟩
  · rw [rootI, h5, put_trailer h4, put_look h4, ← hr.2.1, if_pos rfl]; rfl
  · by_cases hk : o.kind = 0
    · have : getB (setO (rootI d).obj k o) k = false := by rw [hg.1]; simp [hk]
      rw [null_chk h2 hk] at this ⊢
      simp [getO, this]
    · exact hg.2.1 hk
  · intro i hi hn
    rw [hx]
    have hne : iplace d.items (rootI d).num ≠ i := by
      intro e
      have := ithere_num hit
      rw [e] at this
      exact hn this
    simp [List.getD, List.getElem?_set, hne]
end Aw

set_option linter.unusedVariables false
set_option linter.unusedSimpArgs false
namespace Aw
open Go
mutual
theorem chk_mono : ∀ (o : Pob) (d : Int), 1 ≤ d → chk o (d + 1) = 0 → chk o d = 0
  | .mk k n g s ks l, d, hd, h => by
    obtain ⟨h1, h2⟩ := chk_iff.1 h
    obtain ⟨g1, g2, g3, g4, g5, g6⟩ := ownE_iff.1 h1
    refine chk_iff.2 ⟨ownE_iff.2 ⟨by omega, ?_, g3, g4, g5, g6⟩, fun x hx => chks_mono l (d + 1) (by omega) h2 x hx⟩
    have hne : ¬ d + 1 = 1 := by omega
    simp only [useB, hne, decide_false, cond_false] at g2 ⊢
    cases hd1 : decide (d = 1)
    · simpa using g2
    · simp at g2 ⊢
      exact g2.1
theorem chks_mono : ∀ (l : List Pob) (d : Int), 1 ≤ d → (∀ x ∈ l, chk x (d + 1) = 0) → ∀ x ∈ l, chk x d = 0
  | [], _, _, _, x, hx => by cases hx
  | o :: l, d, hd, h, x, hx => by
    rcases List.mem_cons.1 hx with e | hx
    · rw [e]; exact chk_mono o d hd (h o (List.mem_cons_self))
    · exact chks_mono l d hd (fun y hy => h y (List.mem_cons_of_mem _ hy)) x hx
end
theorem key_name {k : List UInt8} (h : keyE k = 0) : nameB k = true := by
  unfold keyE at h
  split at h
  · cases h
  · rename_i h1
    split at h
    · cases h
    · rename_i h2
      simp only [nameB, Bool.and_eq_true, decide_eq_true_eq]
      constructor
      · omega
      · by_cases h3 : 0 ≤ Lib.indexByte k 0
        · exact absurd (.inr h3) h1
        · omega
theorem kidx_info : 0 ≤ kidxI trailK infoK := by decide +kernel
theorem doc_info {d : Dc} {o : Pob} (h : docE d = 0) (hs : setE d.trailer infoK o = 0) : docE ⟨d.items, setO d.trailer infoK o⟩ = 0 := by
  obtain ⟨h1, h2, h3, h4, h5⟩ := trail_parts (doc_trail0 h)
  obtain ⟨_, _, hkv, hc, hkd, _, _, _, hh⟩ := set_parts hs
  have hg := (set_get hs).2.2 rootK (by decide)
  have hok : trailOk (setO d.trailer infoK o).keys := by
    intro i hi
    have hv : (setO d.trailer infoK o).has ((setO d.trailer infoK o).keys.getD i []) ((setO d.trailer infoK o).kids.getD i Pob.null) := ⟨i, hi, rfl, rfl⟩
    rcases (hh _ _).1 hv with ⟨e, _⟩ | ⟨_, j, hj, e, _⟩
    · rw [e]; exact kidx_info
    · rw [← e]; exact h3 j hj
  have ht := trail_root (d := ⟨d.items, setO d.trailer infoK o⟩) hc (by show (setO d.trailer infoK o).kind = 7; rw [hkd]; exact h2) hok
  refine (doc_trail (d := ⟨d.items, setO d.trailer infoK o⟩) (show itemsE d.items = 0 from docE_items h)).trans (ht.trans ?_)
  dsimp only
  rw [hg.2, if_neg]
  rintro (e | e)
  · exact e h4
  · exact e h5
def strS (d : Dc) (o : Pob) : List UInt8 := if (followO d o).kind ≠ 4 then [] else (followO d o).str
theorem infoS_no {d : Dc} {k : List UInt8} (h : ¬ (infoO d).kind = 7) : infoS d k = [] := by
  unfold infoS
  split
  · rfl
  · rw [if_pos (.inl h)]
theorem infoS_yes {d : Dc} {k : List UInt8} (hd : docE d = 0) (h : (infoO d).kind = 7) : infoS d k = strS d (getO (infoO d) k) := by
  unfold infoS strS
  rw [if_neg (by simp [hd])]
  by_cases h4 : (followO d (getO (infoO d) k)).kind = 4
  · rw [if_neg (by simp [h, h4]), if_neg (by simp [h4])]
  · rw [if_pos (.inr h4), if_pos h4]
theorem info_told {x : Dc} {o : Pob} {k t : List UInt8} (hx : docE x = 0) (ho : infoO x = setO o k (textO t)) (hs : setE o k (textO t) = 0) (h7 : o.kind = 7) :
    infoS x k = t ∧ ∀ other, other ≠ k → infoS x other = strS x (getO o other) := by
  obtain ⟨_, _, _, _, hkd, _⟩ := set_parts hs
  have hg := set_get hs
  have hx7 : (infoO x).kind = 7 := by rw [ho, hkd]; exact h7
  have h40 : Pob.null.kind = 0 := rfl
  have h48 : (strO t).kind = 4 := rfl
  constructor
  · rw [infoS_yes hx hx7, ho]
    by_cases ht : t = []
    · have hb : getB (setO o k (textO t)) k = false := by rw [hg.1, ht, textO_nil]; rfl
      have : getO (setO o k (textO t)) k = Pob.null := by simp [getO, hb]
      rw [this, strS, follow_other (by omega), if_pos (by omega), ht]
    · rw [hg.2.1 (by rw [textO_some ht]; omega), textO_some ht, strS, follow_other (by omega), if_neg (by simp [h48])]
      rfl
  · intro other hn
    rw [infoS_yes hx hx7, ho, (hg.2.2 other hn).2]
theorem info_direct {d : Dc} {k t : List UInt8} (hd : docE d = 0) (h7 : (infoO d).kind = 7) (h8 : ¬ (infoR d).kind = 8) (hs : setE (infoO d) k (textO t) = 0) (ht : setE d.trailer infoK (setO (infoO d) k (textO t)) = 0) :
    docE ⟨d.items, setO d.trailer infoK (setO (infoO d) k (textO t))⟩ = 0 ∧ infoS ⟨d.items, setO d.trailer infoK (setO (infoO d) k (textO t))⟩ k = t ∧ ∀ other, other ≠ k → infoS ⟨d.items, setO d.trailer infoK (setO (infoO d) k (textO t))⟩ other = infoS d other := by
  have hx := doc_info hd ht
  obtain ⟨_, _, _, _, hkd, _⟩ := set_parts hs
  have hr : infoR ⟨d.items, setO d.trailer infoK (setO (infoO d) k (textO t))⟩ = setO (infoO d) k (textO t) := (set_get ht).2.1 (by omega)
  have ho : infoO ⟨d.items, setO d.trailer infoK (setO (infoO d) k (textO t))⟩ = setO (infoO d) k (textO t) := by
    unfold infoO at hr ⊢
    rw [hr]
    exact follow_other (by show (setO (infoO d) k (textO t)).kind ≠ 8; omega)
  obtain ⟨a, b⟩ := info_told hx ho hs h7
  refine ⟨hx, a, fun other hn => ?_⟩
  rw [b other hn, infoS_yes hd h7]
  rfl
theorem look_info {d : Dc} (h7 : (infoO d).kind = 7) (h8 : (infoR d).kind = 8) : lookI d.items (infoR d).num = some ⟨(infoR d).num, (infoR d).gen, infoO d⟩ := by
  have h := info_item h7 h8
  cases hl : lookI d.items (infoR d).num with
  | none =>
    rw [hl, Option.getD_none] at h
    have : infoO d = Pob.null := (congrArg Itm.obj h).symm
    rw [this] at h7
    exact absurd h7 (by decide)
  | some x => rw [hl, Option.getD_some] at h; rw [h]
theorem info_refd {d : Dc} {k t : List UInt8} (hd : docE d = 0) (h7 : (infoO d).kind = 7) (h8 : (infoR d).kind = 8) (hs : setE (infoO d) k (textO t) = 0) (hp : putE d ⟨(infoR d).num, (infoR d).gen, setO (infoO d) k (textO t)⟩ = 0) :
    docE (putO d ⟨(infoR d).num, (infoR d).gen, setO (infoO d) k (textO t)⟩) = 0 ∧ infoS (putO d ⟨(infoR d).num, (infoR d).gen, setO (infoO d) k (textO t)⟩) k = t ∧ ∀ other, other ≠ k → infoS (putO d ⟨(infoR d).num, (infoR d).gen, setO (infoO d) k (textO t)⟩) other = infoS d other := by
  have hx := put_doc0 hp
  obtain ⟨_, _, _, _, hkd, _⟩ := set_parts hs
  have hlk := put_look hp
  have htr := put_trailer hp
  generalize hX : putO d ⟨(infoR d).num, (infoR d).gen, setO (infoO d) k (textO t)⟩ = x at hx hlk htr ⊢
  have hr : infoR x = infoR d := by unfold infoR; rw [htr]
  have ho : infoO x = setO (infoO d) k (textO t) := by
    show followO x (infoR x) = _
    rw [hr, follow_look, if_neg (by simp [h8]), hlk, if_pos rfl]
    simp
  obtain ⟨a, b⟩ := info_told hx ho hs h7
  refine ⟨hx, a, fun other hn => ?_⟩
  rw [b other hn, infoS_yes hd h7]
  generalize getO (infoO d) other = w
  unfold strS
  by_cases hw : w.kind = 8
  · by_cases hn2 : w.num = (infoR d).num
    · have e1 : (followO x w).kind ≠ 4 := by
        rw [follow_look, if_neg (by simp [hw]), hlk, if_pos (by exact hn2)]
        dsimp only
        split
        · decide
        · omega
      have e2 : (followO d w).kind ≠ 4 := by
        rw [follow_look, if_neg (by simp [hw]), hn2, look_info h7 h8]
        dsimp only
        split
        · decide
        · omega
      rw [if_pos e1, if_pos e2]
    · have : followO x w = followO d w := follow_congr fun _ => by rw [hlk, if_neg (by exact hn2)]
      rw [this]
  · rw [follow_other hw, follow_other hw]
theorem str_chk {t : List UInt8} (h : (t.length : Int) ≤ 4096) : chk (strO t) 2 = 0 := by
  refine chk_iff.2 ⟨ownE_iff.2 ⟨by decide, ?_, ?_, ?_, ?_, ?_⟩, ?_⟩
  · simp [useB, strO, uOk, uN, uG, uS, uKeys, uKids, Pob.kind, Pob.num, Pob.gen, Pob.keys, Pob.kids]
  · simp [fitsB, strO, Pob.kind]
  · simp [shortB, strO, Pob.kind, Pob.str]
    exact decide_eq_true (by omega)
  · simp [strO, Pob.kids]
  · simp [formB, strO, uKeys, Pob.kind]
  · intro x hx; simp [strO, Pob.kids] at hx
theorem dict1_ok {k t : List UInt8} (hk : keyE k = 0) (hl : (t.length : Int) ≤ 4096) (ht : t ≠ []) : setE dict0 k (textO t) = 0 := by
  have hv : (strO t).kind ≠ 0 := by show (4 : Int) ≠ 0; decide
  have hs0 : dict0.kvOk := kvOk_of_chk dict0_ok rfl
  have hkt : kthere dict0.keys k = false := by
    cases h : kthere dict0.keys k with
    | false => rfl
    | true =>
      obtain ⟨i, hi, _⟩ := (kthere_iff hs0.1).1 h
      exact absurd hi (by simp [dict0, Pob.keys])
  obtain ⟨f1, f2, f3, f4⟩ := withK_frame dict0 k (strO t)
  rw [textO_some ht, (set_val (by rfl) dict0_ok hv).1]
  have hkd : keyedB (dict0.withK k (strO t)).kind = true := by rw [f1]; rfl
  rw [chk_keyed hkd, f1, f2, f3, f4]
  refine ⟨⟨by decide, rfl, rfl, .inr rfl, .inl rfl, by simp [dict0, Pob.str], ?_⟩, withK_kvOk hs0 k (strO t), fun k' v' hv' => ?_⟩
  · rw [withK_new hkt]; simp [Pob.kids, insAt, dict0]
  · rcases (has_withK hs0).1 hv' with ⟨rfl, rfl⟩ | ⟨_, i, hi, _⟩
    · exact ⟨key_name hk, by simp [dict0, Pob.kind], hv, str_chk hl⟩
    · exact absurd hi (by simp [dict0, Pob.keys])
theorem add_parts {d : Dc} {o : Pob} (h : addE d o = 0) : freeE d = 0 ∧ putE d ⟨freeN d, 0, o⟩ = 0 ∧ addO d o = putO d ⟨freeN d, 0, o⟩ ∧ addN d o = freeN d := by
  by_cases h1 : freeE d = 0
  · by_cases h2 : putE d ⟨freeN d, 0, o⟩ = 0
    · obtain ⟨_, a, b⟩ := add_ok h1 h2
      exact ⟨h1, h2, a, b⟩
    · rw [(add_put h1 h2).1] at h; exact absurd h h2
  · rw [(add_free h1).1] at h; exact absurd h h1
theorem info_added {d : Dc} {k t : List UInt8} (hd : docE d = 0) (h7 : ¬ (infoO d).kind = 7) (hs : setE dict0 k (textO t) = 0) (ha : addE d (setO dict0 k (textO t)) = 0)
    (ht : setE (addO d (setO dict0 k (textO t))).trailer infoK (refO (addN d (setO dict0 k (textO t))) 0) = 0) :
    docE ⟨(addO d (setO dict0 k (textO t))).items, setO (addO d (setO dict0 k (textO t))).trailer infoK (refO (addN d (setO dict0 k (textO t))) 0)⟩ = 0 ∧ infoS ⟨(addO d (setO dict0 k (textO t))).items, setO (addO d (setO dict0 k (textO t))).trailer infoK (refO (addN d (setO dict0 k (textO t))) 0)⟩ k = t ∧
    ∀ other, other ≠ k → infoS ⟨(addO d (setO dict0 k (textO t))).items, setO (addO d (setO dict0 k (textO t))).trailer infoK (refO (addN d (setO dict0 k (textO t))) 0)⟩ other = infoS d other := by
  obtain ⟨h1, h2, h3, h4⟩ := add_parts ha
  rw [h3, h4] at ht ⊢
  have hx := doc_info (put_doc0 h2) ht
  have hlk := put_look h2 (freeN d)
  have hr := (set_get ht).2.1 (by show (8 : Int) ≠ 0; decide)
  generalize hX : (⟨(putO d ⟨freeN d, 0, setO dict0 k (textO t)⟩).items, setO (putO d ⟨freeN d, 0, setO dict0 k (textO t)⟩).trailer infoK (refO (freeN d) 0)⟩ : Dc) = x at hx ⊢
  have hr2 : infoR x = refO (freeN d) 0 := by rw [← hX]; exact hr
  have hi : x.items = (putO d ⟨freeN d, 0, setO dict0 k (textO t)⟩).items := by rw [← hX]
  have ho : infoO x = setO dict0 k (textO t) := by
    show followO x (infoR x) = _
    rw [hr2, follow_look, if_neg (by simp [refO, Pob.kind]), hi]
    have : (refO (freeN d) 0).num = freeN d := rfl
    rw [this, hlk, if_pos rfl]
    simp [refO, Pob.gen]
  obtain ⟨a, b⟩ := info_told hx ho hs rfl
  refine ⟨hx, a, fun other hn => ?_⟩
  have hz : getO dict0 other = Pob.null := (get_no (kvOk_of_chk dict0_ok rfl) rfl (k := other) (fun v hv => by obtain ⟨i, hi, _⟩ := hv; exact absurd hi (by simp [dict0, Pob.keys]))).2
  rw [b other hn, infoS_no h7, hz, strS, follow_other (by decide), if_pos (by decide)]
theorem put_info {d : Dc} {k t : List UInt8} (hd : docE d = 0) (hk : keyE k = 0) (hl : (t.length : Int) ≤ 4096) (h : putInfoE d k t = 0) :
    docE (putInfoD d k t) = 0 ∧ infoS (putInfoD d k t) k = t ∧ ∀ other, other ≠ k → infoS (putInfoD d k t) other = infoS d other := by
  by_cases h7 : (infoO d).kind = 7
  · by_cases hs : setE (infoO d) k (textO t) = 0
    · by_cases h8 : (infoR d).kind = 8
      · obtain ⟨a, b⟩ := rd_put rfl h7 hs h8
        rw [a] at h; rw [b]
        exact info_refd hd h7 h8 hs h
      · by_cases h9 : setE d.trailer infoK (setO (infoO d) k (textO t)) = 0
        · rw [(rd_trs rfl h7 hs h8 h9).2]
          exact info_direct hd h7 h8 hs h9
        · rw [(rd_trb rfl h7 hs h8 h9).1] at h; exact absurd h h9
    · rw [(rd_bad rfl h7 hs).1] at h; exact absurd h hs
  · by_cases ht : t = []
    · subst ht
      rw [(putInfo_none h7).2]
      exact ⟨hd, infoS_no h7, fun _ _ => rfl⟩
    · by_cases ha : addE d (setO dict0 k (textO t)) = 0
      · by_cases h9 : setE (addO d (setO dict0 k (textO t))).trailer infoK (refO (addN d (setO dict0 k (textO t))) 0) = 0
        · rw [(ra_trs rfl h7 ht ha h9).2]
          exact info_added hd h7 (dict1_ok hk hl ht) ha h9
        · rw [(ra_trb rfl h7 ht ha h9).1] at h; exact absurd h h9
      · rw [(ra_bad rfl h7 ht ha).1] at h; exact absurd h ha

theorem setInfo_zero {d : Dc} {k t : List UInt8} (h : ¬ setInfoE d k t = 0) : setInfoD d k t = Dc.zero := by
  by_cases h1 : docE d = 0
  · by_cases h2 : keyE k = 0
    · by_cases h3 : 4096 < (t.length : Int)
      · exact (setInfo_long h1 h2 h3).2
      · rw [(setInfo_ok h1 h2 h3).1] at h
        rw [(setInfo_ok h1 h2 h3).2]
        by_cases h7 : (infoO d).kind = 7
        · by_cases hs : setE (infoO d) k (textO t) = 0
          · by_cases h8 : (infoR d).kind = 8
            · obtain ⟨a, b⟩ := rd_put rfl h7 hs h8
              rw [a] at h; rw [b]
              exact put_bad h
            · by_cases h9 : setE d.trailer infoK (setO (infoO d) k (textO t)) = 0
              · exact absurd (rd_trs rfl h7 hs h8 h9).1 h
              · exact (rd_trb rfl h7 hs h8 h9).2
          · exact (rd_bad rfl h7 hs).2
        · by_cases ht : t = []
          · subst ht
            exact absurd (putInfo_none h7).1 h
          · by_cases ha : addE d (setO dict0 k (textO t)) = 0
            · by_cases h9 : setE (addO d (setO dict0 k (textO t))).trailer infoK (refO (addN d (setO dict0 k (textO t))) 0) = 0
              · exact absurd (ra_trs rfl h7 ht ha h9).1 h
              · exact (ra_trb rfl h7 ht ha h9).2
            · exact (ra_bad rfl h7 ht ha).2
    · exact (setInfo_key h1 h2).2
  · exact (setInfo_doc h1).2
theorem setInfo_parts {d : Dc} {k t : List UInt8} (h : setInfoE d k t = 0) : docE d = 0 ∧ keyE k = 0 ∧ (t.length : Int) ≤ 4096 ∧ putInfoE d k t = 0 ∧ setInfoD d k t = putInfoD d k t := by
  by_cases h1 : docE d = 0
  · by_cases h2 : keyE k = 0
    · by_cases h3 : 4096 < (t.length : Int)
      · rw [(setInfo_long h1 h2 h3).1] at h; exact absurd h (by decide)
      · rw [(setInfo_ok h1 h2 h3).1] at h
        exact ⟨h1, h2, by omega, h, (setInfo_ok h1 h2 h3).2⟩
    · rw [(setInfo_key h1 h2).1] at h; exact absurd h h2
  · rw [(setInfo_doc h1).1] at h; exact absurd h h1
theorem info_in {d : Dc} (hd : docE d = 0) (h7 : (infoO d).kind = 7) (h8 : (infoR d).kind = 8) : (⟨(infoR d).num, (infoR d).gen, infoO d⟩ : Itm) ∈ d.items := ((look_some (doc_incr hd)).1 (look_info h7 h8)).1
theorem info_val {d : Dc} (hd : docE d = 0) (h7 : (infoO d).kind = 7) (h8 : ¬ (infoR d).kind = 8) : infoO d = infoR d ∧ d.trailer.has infoK (infoO d) ∧ chk (infoO d) 2 = 0 := by
  obtain ⟨h1, h2, h3, h4, h5⟩ := trail_parts (doc_trail0 hd)
  have e : infoO d = infoR d := follow_other h8
  have hk : keyedB d.trailer.kind = true := by rw [h2]; rfl
  have hkv := kvOk_of_chk h1 hk
  have hb : getB d.trailer infoK = true := by
    cases hb : getB d.trailer infoK with
    | true => rfl
    | false =>
      have : infoR d = Pob.null := by show getO d.trailer infoK = _; simp [getO, hb]
      rw [e, this] at h7
      exact absurd h7 (by decide)
  have hh : d.trailer.has infoK (infoO d) := (get_has hkv hk).1 ⟨hb, by rw [e]; rfl⟩
  exact ⟨e, hh, (((chk_keyed hk).1 h1).2.2 _ _ hh).2.2.2⟩
theorem info_chk {d : Dc} (hd : docE d = 0) (h7 : (infoO d).kind = 7) : chk (infoO d) 1 = 0 := by
  by_cases h8 : (infoR d).kind = 8
  · have hm := ((items_iff.1 (docE_items hd)).2 _ (info_in hd h7 h8)).2
    by_cases hc : chk (infoO d) 1 = 0
    · exact hc
    · rw [content_bad (i := ⟨(infoR d).num, (infoR d).gen, infoO d⟩) hc] at hm
      exact hm
  · exact chk_mono _ 1 (by decide) (info_val hd h7 h8).2.2
theorem drop_chk2 {o : Pob} {k : List UInt8} (h : chk o 2 = 0) (hk : keyedB o.kind = true) : chk (dropO o k) 2 = 0 := by
  obtain ⟨f1, f2, f3, f4⟩ := dropO_frame o k
  obtain ⟨hs, hh⟩ := dropO_has (key := k) (chk_mono o 1 (by decide) h) hk
  have hk' : keyedB (dropO o k).kind = true := by rw [f1]; exact hk
  have hl := dropO_len o k
  obtain ⟨⟨h1, h2, h3, h4, h5, h6, h7⟩, _, h8⟩ := (chk_keyed hk).1 h
  rw [chk_keyed hk', f1, f2, f3, f4]
  refine ⟨⟨h1, h2, h3, h4, h5, h6, by omega⟩, hs, fun k' v hv => ?_⟩
  exact h8 k' v ((hh k' v).1 hv).2
/-- an entry taken from a valid document's information -/
theorem drop_info {d : Dc} {k : List UInt8} (hd : docE d = 0) : putInfoE d k [] = 0 := by
  by_cases h7 : (infoO d).kind = 7
  · have hc := info_chk hd h7
    have hk : keyedB (infoO d).kind = true := by rw [h7]; rfl
    obtain ⟨hs, hsO⟩ := set_null (key := k) hk hc (v := textO []) rfl
    obtain ⟨f1, f2, f3, f4⟩ := dropO_frame (infoO d) k
    by_cases h8 : (infoR d).kind = 8
    · rw [(rd_put (v := textO []) rfl h7 hs h8).1, hsO]
      have hin := info_in hd h7 h8
      obtain ⟨hinc, hall⟩ := items_iff.1 (docE_items hd)
      have hi := hall _ hin
      have ha : aloneE ⟨(infoR d).num, (infoR d).gen, dropO (infoO d) k⟩ = 0 := by
        refine alone_iff.2 ⟨hi.1, ?_⟩
        unfold contentE
        dsimp only
        rw [if_neg (by simp [dropO_chk hc hk]), if_neg]
        rintro (e | e)
        · rw [f1] at e; omega
        · simp [holdsB, f1, h7] at e
      rw [(put_ok hd ha).1]
      have hitems : itemsE (layI d.items ⟨(infoR d).num, (infoR d).gen, dropO (infoO d) k⟩) = 0 := by
        refine items_iff.2 ⟨?_, fun y hy => ?_⟩
        · exact layI_incr hinc
        · rcases (layI_mem hinc).1 hy with rfl | ⟨hy, _⟩
          · exact alone_iff.1 ha
          · exact hall _ hy
      obtain ⟨g1, g2, g3, g4, g5⟩ := trail_parts (doc_trail0 hd)
      have ht := trail_root (d := ⟨layI d.items ⟨(infoR d).num, (infoR d).gen, dropO (infoO d) k⟩, d.trailer⟩) g1 g2 g3
      refine (doc_trail (d := ⟨layI d.items ⟨(infoR d).num, (infoR d).gen, dropO (infoO d) k⟩, d.trailer⟩) hitems).trans (ht.trans ?_)
      dsimp only
      rw [if_neg]
      rintro (e | e)
      · exact e g4
      · apply e
        rw [follow_look, if_neg (by simp [g4])] at g5 ⊢
        dsimp only
        rw [look_lay hinc]
        by_cases hn : (getO d.trailer rootK).num = (infoR d).num
        · rw [if_pos (by exact hn)]
          rw [hn, look_info h7 h8] at g5
          dsimp only at g5 ⊢
          by_cases hg : (infoR d).gen ≠ (getO d.trailer rootK).gen
          · rw [if_pos hg] at g5; exact absurd g5 (by decide)
          · rw [if_neg hg, f1]; exact h7
        · rw [if_neg (by exact hn)]; exact g5
    · have hv := info_val hd h7 h8
      have hx : setE d.trailer infoK (setO (infoO d) k (textO [])) = 0 := by
        obtain ⟨g1, g2, g3, g4, g5⟩ := trail_parts (doc_trail0 hd)
        have hkt : keyedB d.trailer.kind = true := by rw [g2]; rfl
        have hkv := kvOk_of_chk g1 hkt
        rw [hsO, (set_val hkt g1 (by rw [f1, h7]; decide)).1]
        obtain ⟨w1, w2, w3, w4⟩ := withK_frame d.trailer infoK (dropO (infoO d) k)
        obtain ⟨⟨c1, c2, c3, c4, c5, c6, c7⟩, _, c8⟩ := (chk_keyed hkt).1 g1
        have hkw : keyedB (d.trailer.withK infoK (dropO (infoO d) k)).kind = true := by rw [w1]; exact hkt
        rw [chk_keyed hkw, w1, w2, w3, w4]
        have hth : kthere d.trailer.keys infoK = true := (kthere_iff hkv.1).2 (has_key.1 ⟨_, hv.2.1⟩)
        refine ⟨⟨c1, c2, c3, c4, c5, c6, ?_⟩, withK_kvOk hkv _ _, fun k' v' hv' => ?_⟩
        · rw [withK_there hth]; simpa [Pob.kids] using c7
        · rcases (has_withK hkv).1 hv' with ⟨rfl, rfl⟩ | ⟨_, hv'⟩
          · have h0 := c8 _ _ hv.2.1
            exact ⟨h0.1, h0.2.1, by rw [f1, h7]; decide, drop_chk2 hv.2.2 hk⟩
          · exact c8 _ _ hv'
      exact (rd_trs (v := textO []) rfl h7 hs h8 hx).1
  · exact (putInfo_none h7).1

theorem withD_tot (d : Dc) (i : Itm) (k : List UInt8) (o : Pob) : (withD d i k o).tot ≤ d.tot + i.obj.tot + o.tot + k.length + 20 := by
  have h1 := zero_tot
  have h2 := setO_tot i.obj k o
  have h3 := putO_tot d ⟨i.num, i.gen, setO i.obj k o⟩
  simp only [Itm.tot] at h3
  unfold withD
  split <;> omega
theorem trailedD_tot (d : Dc) (o : Pob) : (trailedD d o).tot ≤ d.tot + o.tot + 20 := by
  have h1 := zero_tot
  have h2 := setO_tot d.trailer infoK o
  have h3 : d.tot = itots d.items + d.trailer.tot := rfl
  have h4 : (⟨d.items, setO d.trailer infoK o⟩ : Dc).tot = itots d.items + (setO d.trailer infoK o).tot := rfl
  have h5 : infoK.length = 4 := rfl
  unfold trailedD
  split <;> omega
theorem textO_tot (t : List UInt8) : (textO t).tot ≤ t.length + 7 := by
  have h1 := null_tot
  have h2 := strO_tot t
  unfold textO
  split <;> omega
theorem setInfoD_tot (d : Dc) (k t : List UInt8) : (setInfoD d k t).tot ≤ 5 * d.tot + 3 * k.length + 3 * t.length + 200 := by
  have h1 := zero_tot
  have h2 := look_tot d (infoR d).num
  have h4 := withD_tot d ((lookI d.items (infoR d).num).getD Itm.zero) k (textO t)
  have h5 := textO_tot t
  have h6 := infoO_tot d
  have h7 := setO_tot (infoO d) k (textO t)
  have h8 := trailedD_tot d (setO (infoO d) k (textO t))
  have h0 := dict0_tot
  have h9 := setO_tot dict0 k (textO t)
  have h11 := addO_tot d (setO dict0 k (textO t))
  have h12 := trailedD_tot (addO d (setO dict0 k (textO t))) (refO (addN d (setO dict0 k (textO t))) 0)
  have h13 := refO_tot (addN d (setO dict0 k (textO t))) 0
  unfold setInfoD
  split
  · omega
  · unfold putInfoD
    split
    · omega
    · split
      · split <;> omega
      · split
        · omega
        · rename_i ht
          have hv : (textO t).kind ≠ 0 := by rw [textO_some ht]; show (4 : Int) ≠ 0; decide
          rw [dict_one hv]
          split <;> omega
end Aw
