/- A part of the proof of a law of the seat: no condition of its own. -/
import Derived.Test.YtokikpiffafajaaGreatPart15
namespace Go.Proofs
open Go Aw
set_option linter.unusedSimpArgs false
set_option linter.unusedVariables false
set_option maxRecDepth 100000
set_option maxHeartbeats 2000000
def kaTitle : List UInt8 := [84, 105, 116, 108, 101]
def kaAuthor : List UInt8 := [65, 117, 116, 104, 111, 114]
def kaE : Dc := setInfoD (newD 1) kaTitle [97]
def kaF : Dc := setRootD kaE [88] (intO 7)
theorem ka1 : newE 1 = 0 := by decide +kernel
theorem ka2 : newE (-1) = 2 := by decide +kernel
theorem ka3 : (newD 1).items.length = 3 := by decide +kernel
theorem ka4 : setInfoE (newD 1) kaTitle [97] = 0 := by decide +kernel
theorem ka5 : kaE.items.length = 4 := by decide +kernel
theorem ka6 : infoS kaE kaTitle = [97] := by decide +kernel
theorem ka7 : infoS kaE kaAuthor = [] := by decide +kernel
theorem ka8 : docE kaE = 0 := by decide +kernel
theorem ka9 : (rootO kaE).num = 1 := by decide +kernel
theorem ka10 : setRootE kaE [88] (intO 7) = 0 := by decide +kernel
theorem ka11 : docE kaF = 0 := by decide +kernel
theorem ka12 : (rootO kaF).obj.kids.length = 3 := by decide +kernel
theorem ka13 : ((rootO kaF).obj.kids.getD 2 Pob.null).num = 7 := by decide +kernel
theorem ka14 : (rootO kaF).obj.keys.getD 2 [] = [88] := by decide +kernel
theorem ka15 : setRootE kaE [] Pob.null = 3 := by decide +kernel
theorem ka16 : (rootO kaF).obj.keys.length = 3 := by decide +kernel
theorem c_law34_lives (gl : List (Nat × AV))  : FnP Tryz.prog (gl) 7 [] fun r => r = .ret (.bool true) := by
  refine FnP.intro Tryz.func7 rfl rfl (by simp [Tryz.ntmps7]) ?_
  simp only [argEnv, Tryz.ntmps7, Tryz.results7]
  have hkl := ka12
  have hks := ka16
  refine AW.rS ?_
  refine AW.trim [] ?_
  refine AW.rSC ?_
  refine awOps.cons (awGuard.c1 (c_catalog_New _ 1) ?_)
  refine awOps.rn ?_
  refine AW.trim [1, 2] ?_
  refine AW.rSC ?_
  refine awOps.cons (awGuard.c1 (c_catalog_New _ (-1)) ?_)
  refine awOps.rn ?_
  refine AW.trim [1, 2, 4] ?_
  refine AW.seq ?_
  refine AW.rS ?_
  refine AW.trim [1, 34] ?_
  refine AW.c2 ?_ ?_
  · intro h10
    simp [ka1, ka2, ka3] at h10
  · intro h10
    refine AW.skip ?_
    refine AW.rSC ?_
    refine awOps.cons (awGuard.c1 (c_catalog_SetInfo _ (newD 1) kaTitle [97] (by decide +kernel)) ?_)
    refine awOps.rn ?_
    refine AW.trim [5, 6] ?_
    refine AW.rSC ?_
    refine awOps.cons (awGuard.c1 (c_catalog_Root _ kaE (by decide +kernel)) ?_)
    refine awOps.rn ?_
    refine AW.trim [5, 6, 7, 8] ?_
    refine AW.rSC ?_
    refine awOps.cons (awGuard.c1 (c_catalog_SetRoot _ kaE [88] (intO 7) (by decide +kernel)) ?_)
    refine awOps.rn ?_
    refine AW.trim [5, 6, 7, 8, 9, 10] ?_
    refine AW.rSC ?_
    refine awOps.cons (awGuard.c1 (c_catalog_Root _ kaF (by decide +kernel)) ?_)
    refine awOps.rn ?_
    refine AW.trim [5, 6, 7, 8, 10, 11, 12] ?_
    refine AW.rSC ?_
    refine awOps.cons (awGuard.c1 (c_catalog_SetRoot _ kaE [] Pob.null (by decide +kernel)) ?_)
    refine awOps.rn ?_
    refine AW.trim [5, 6, 7, 8, 10, 11, 12, 14] ?_
    refine AW.rSC ?_
    refine awOps.cons (awGuard.cG (fun hg => c_catalog_Info _ kaE kaTitle (by decide +kernel)) ?_)
    refine awOps.rn ?_
    refine awOps.cons (awGuard.cG (fun hg => c_catalog_Info _ kaE kaAuthor (by decide +kernel)) ?_)
    refine awOps.rn ?_
    refine AW.trim [0] ?_
    refine AW.rt ?_
    have h5 : (setInfoD (newD 1) kaTitle [97]).items.length = 4 := ka5
    simp only [ka4, h5, ka6, ka7, ka8, ka9, ka10, ka11, hkl, ka13, ka14, ka15]
    rfl
theorem rootO_bulk (d : Dc) : (rootO d).obj.bulk ≤ d.bulk + 1 := by
  have h1 : Itm.zero.obj.bulk = 1 := by simp [Itm.zero, Pob.null, Pob.bulk, bulks]
  have h2 := look_bulk d.items (getO d.trailer rootK).num
  have h3 : d.bulk = ibulk d.items + d.trailer.bulk := rfl
  unfold rootO
  split
  · show ((lookI d.items (getO d.trailer rootK).num).getD Itm.zero).obj.bulk ≤ _; omega
  · omega
theorem withD_bulk (d : Dc) (i : Itm) (k : List UInt8) (o : Pob) : (withD d i k o).bulk ≤ d.bulk + i.obj.bulk + o.bulk + 3 := by
  have h1 := zero_bulk
  have h2 := setO_bulk i.obj k o
  have h3 := putO_bulk d ⟨i.num, i.gen, setO i.obj k o⟩
  dsimp only at h3
  unfold withD
  split <;> omega
theorem trailedD_bulk (d : Dc) (o : Pob) : (trailedD d o).bulk ≤ d.bulk + o.bulk + 3 := by
  have h1 := zero_bulk
  have h2 := setO_bulk d.trailer infoK o
  have h3 : d.bulk = ibulk d.items + d.trailer.bulk := rfl
  have h4 : (⟨d.items, setO d.trailer infoK o⟩ : Dc).bulk = ibulk d.items + (setO d.trailer infoK o).bulk := rfl
  unfold trailedD
  split <;> omega
theorem setRootD_bulk (d : Dc) (k : List UInt8) (o : Pob) : (setRootD d k o).bulk ≤ 2 * d.bulk + o.bulk + 5 := by
  have h1 := zero_bulk
  have h2 := look_bulk d.items (getO d.trailer rootK).num
  have h3 : d.bulk = ibulk d.items + d.trailer.bulk := rfl
  have h4 := withD_bulk d (rootI d) k o
  have h5 : (rootI d).obj.bulk = ((lookI d.items (getO d.trailer rootK).num).getD Itm.zero).obj.bulk := rfl
  unfold setRootD
  split <;> omega
theorem setInfoD_bulk (d : Dc) (k t : List UInt8) : (setInfoD d k t).bulk ≤ 5 * d.bulk + 50 := by
  have h1 := zero_bulk
  have h2 := look_bulk d.items (infoR d).num
  have h3 : d.bulk = ibulk d.items + d.trailer.bulk := rfl
  have h4 := withD_bulk d ((lookI d.items (infoR d).num).getD Itm.zero) k (textO t)
  have h5 := textO_bulk t
  have h6 := infoO_le d
  have h7 := setO_bulk (infoO d) k (textO t)
  have h8 := trailedD_bulk d (setO (infoO d) k (textO t))
  have h9 := dictO_bulk [nameO k, textO t]
  have h10 := nameO_bulk k
  simp only [bulks] at h9
  have h11 := addO_bulk d (dictO [nameO k, textO t])
  have h12 := trailedD_bulk (addO d (dictO [nameO k, textO t])) (refO (addN d (dictO [nameO k, textO t])) 0)
  have h13 := refO_bulk (addN d (dictO [nameO k, textO t])) 0
  unfold setInfoD
  split
  · omega
  · unfold putInfoD
    split
    · omega
    · split
      · split <;> omega
      · split
        · omega
        · split <;> omega
theorem c_foliantlaw34_light (gl : List (Nat × AV)) (d : Dc) (h : d.bulk ≤ 16777216) (hp : d.size ≤ 4611686018427387904) : FnP Tryz.prog (gl) 12 [.agg d.cells] fun r => r = .ret (.bool (decide ((d.items.length : Int) ≤ 40) && decide ((d.size : Int) ≤ 600))) := by
  refine FnP.intro Tryz.func12 rfl rfl (by simp [Tryz.ntmps12]) ?_
  simp only [argEnv, Tryz.ntmps12, Tryz.results12]
  refine AW.rS ?_
  refine AW.rSC ?_
  refine awOps.cons (awGuard.cG (fun hg => c_foliantref19_Size _ d h hp) ?_)
  refine awOps.rn ?_
  refine AW.rt ?_
  cases hh : decide ((d.items.length : Int) ≤ 40) <;> simp [hh]
theorem c_foliantlaw34_info (gl : List (Nat × AV)) (d : Dc) (h : d.tot ≤ 3000000) : FnP Tryz.prog (gl) 23 [.agg d.cells] fun r => r = .ret (.bool (decide ((infoO d).kind = 7) && decide (0 < ((refsO (infoO d)).length : Int)))) := by
  refine FnP.intro Tryz.func23 rfl rfl (by simp [Tryz.ntmps23]) ?_
  simp only [argEnv, Tryz.ntmps23, Tryz.results23]
  have hb := d.bulk_tot
  have hb2 : d.bulk = ibulk d.items + d.trailer.bulk := rfl
  have hi := infoO_le d
  refine AW.rS ?_
  refine AW.rSC ?_
  refine awOps.cons (awGuard.c1 (c_foliantref05_Get _ d.trailer infoK (by omega)) ?_)
  refine awOps.rn ?_
  refine AW.rSC ?_
  refine awOps.cons (awGuard.c1 (c_foliantref19_Follow _ d (infoR d) (by omega)) ?_)
  refine awOps.rn ?_
  refine AW.rSC ?_
  refine awOps.cons (awGuard.cG (fun hg => c_foliantref05_Refs _ (infoO d) (by omega)) ?_)
  refine awOps.rn ?_
  refine AW.rt ?_
  show _ = AE.ret (AV.bool (decide ((followO d (infoR d)).kind = 7) && _))
  cases decide ((followO d (infoR d)).kind = 7) <;> rfl
theorem c_law_CatalogTells (gl : List (Nat × AV)) (d : Dc) (k t : List UInt8) (o : Pob) (hd : d.tot + o.tot + k.length + t.length ≤ 1048576) : FnP Tryz.prog (gl) 4 [.agg d.cells, .str k, .str t, .agg o.cells] fun r => r = .ret (.bool true) := by
  refine FnP.intro Tryz.func4 rfl rfl (by simp [Tryz.ntmps4]) ?_
  simp only [argEnv, Tryz.ntmps4, Tryz.results4]
  have hb := d.bulk_tot
  have hb1 := o.bulk_tot
  have hps := o.psize_tot
  have hds := d.size_tot
  refine AW.rS ?_
  refine AW.seq ?_
  refine AW.rSC ?_
  refine awOps.cons (awGuard.c1 (c_foliantlaw34_light _ d (by omega) (by omega)) ?_)
  refine awOps.rn ?_
  refine awOps.cons (awGuard.cG (fun hg => c_foliantref05_Size _ o (by omega) (by omega)) ?_)
  refine awOps.rn ?_
  refine AW.c2 ?_ ?_
  · intro h8
    refine AW.rSC ?_
    refine awOps.cons (awGuard.c1 (c_law34_lives _) ?_)
    refine awOps.rn ?_
    refine AW.rt ?_
    all_goals first | contradiction | rfl | (simp; done) | (simp; omega)
  · intro h8
    refine AW.skip ?_
    refine AW.rSC ?_
    refine awOps.cons (awGuard.c1 (c_catalog_Root _ d (by omega)) ?_)
    refine awOps.rn ?_
    refine AW.rSC ?_
    refine awOps.cons (awGuard.c1 (c_foliantref34_Root _ d (by omega)) ?_)
    refine awOps.rn ?_
    refine AW.rSC ?_
    refine awOps.cons (awGuard.c1 (c_catalog_SetRoot _ d k o (by omega)) ?_)
    refine awOps.rn ?_
    refine AW.rSC ?_
    refine awOps.cons (awGuard.c1 (c_foliantref34_SetRoot _ d k o (by omega)) ?_)
    refine awOps.rn ?_
    refine AW.rSC ?_
    refine awOps.cons (awGuard.c1 (c_catalog_SetInfo _ d k t (by omega)) ?_)
    refine awOps.rn ?_
    refine AW.rSC ?_
    refine awOps.cons (awGuard.c1 (c_foliantref34_SetInfo _ d k t (by omega)) ?_)
    refine awOps.rn ?_
    refine AW.fS [0, 1, 2, 3, 4, 5, 6, 7, 8, 9, 10, 11, 12, 13, 14, 15, 16, 17, 18, 19, 20, 21, 22, 23, 24, 25, 26, 27, 28, 29, 30, 32, 33, 31, 34, 35, 36, 37, 38, 39, 40] [] ?_
    refine awFun.rn ?_
    refine awFun.c1 [78, 79] (c_foliantref19_SameItem _ (rootO d) (rootO d) (by have := rootO_bulk d; omega)) ?_
    refine awFun.rn ?_
    refine awFun.cG [86, 87, 88] (fun hg => c_foliantref19_Same _ (setRootD d k o) (setRootD d k o) (by have := setRootD_bulk d k o; omega)) ?_
    refine awFun.rn ?_
    refine awFun.cG [96, 97, 98] (fun hg => c_foliantref19_Same _ (setInfoD d k t) (setInfoD d k t) (by have := setInfoD_bulk d k t; omega)) ?_
    refine awFun.rn ?_
    refine awFun.cG [106, 107, 108] (fun hg => c_catalog_Info _ d k (by omega)) ?_
    refine awFun.rn ?_
    refine awFun.cG [106, 110, 111] (fun hg => c_foliantref34_Info _ d k (by omega)) ?_
    refine awFun.rn ?_
    refine awFun.cG [115] (fun hg => c_law34_lives _) ?_
    refine awFun.rn ?_
    rw [Aw.awFun_nil, Aw.awPlan_nil]
    refine AW.rt ?_
    all_goals first | contradiction | rfl | (simp; done) | (simp; omega)
end Go.Proofs

set_option linter.unusedVariables false
set_option linter.unusedSimpArgs false
namespace Aw
open Go
theorem with_zero {d : Dc} {i : Itm} {k : List UInt8} {o : Pob} (h : ¬ withE d i k o = 0) : withD d i k o = Dc.zero := by
  unfold withE at h
  unfold withD
  by_cases hs : setE i.obj k o = 0
  · rw [if_neg (by simpa using hs)] at h
    rw [if_neg (by simpa using hs)]
    exact put_bad h
  · rw [if_pos hs]
theorem setRoot_zero {d : Dc} {k : List UInt8} {o : Pob} (h : ¬ setRootE d k o = 0) : setRootD d k o = Dc.zero := by
  by_cases h1 : docE d = 0
  · by_cases h2 : keyE k = 0
    · by_cases h3 : chk o 1 = 0
      · rw [(setRoot_ok h1 h2 h3).1] at h
        rw [(setRoot_ok h1 h2 h3).2]
        exact with_zero h
      · exact (setRoot_obj h1 h2 h3).2
    · exact (setRoot_key h1 h2).2
  · exact (setRoot_doc h1).2
theorem with_parts {d : Dc} {i : Itm} {k : List UInt8} {o : Pob} (h : withE d i k o = 0) : setE i.obj k o = 0 ∧ putE d ⟨i.num, i.gen, setO i.obj k o⟩ = 0 ∧ withD d i k o = putO d ⟨i.num, i.gen, setO i.obj k o⟩ := by
  by_cases hs : setE i.obj k o = 0
  · rw [(with_ok hs).1] at h
    exact ⟨hs, h, (with_ok hs).2⟩
  · rw [(with_bad hs).1] at h
    exact absurd h hs
theorem setRoot_parts {d : Dc} {k : List UInt8} {o : Pob} (h : setRootE d k o = 0) : docE d = 0 ∧ chk o 1 = 0 ∧ setE (rootI d).obj k o = 0 ∧ putE d ⟨(rootI d).num, (rootI d).gen, setO (rootI d).obj k o⟩ = 0 ∧ setRootD d k o = putO d ⟨(rootI d).num, (rootI d).gen, setO (rootI d).obj k o⟩ := by
  by_cases h1 : docE d = 0
  · by_cases h2 : keyE k = 0
    · by_cases h3 : chk o 1 = 0
      · rw [(setRoot_ok h1 h2 h3).1] at h
        rw [(setRoot_ok h1 h2 h3).2]
        exact ⟨h1, h3, with_parts h⟩
      · rw [(setRoot_obj h1 h2 h3).1] at h; exact absurd h h3
    · rw [(setRoot_key h1 h2).1] at h; exact absurd h h2
  · rw [(setRoot_doc h1).1] at h; exact absurd h h1
theorem doc_trail0 {d : Dc} (h : docE d = 0) : trailE d = 0 := by
  have := doc_trail (docE_items h)
  omega
theorem root_there {d : Dc} (h : docE d = 0) : rootI d ∈ d.items ∧ (rootI d).num = (getO d.trailer rootK).num ∧ (rootI d).obj.kind = 7 := by
  obtain ⟨_, _, _, h8, h7⟩ := trail_parts (doc_trail0 h)
  have hf := follow_item (d := d) h8 (by omega)
  have hl : lookI d.items (getO d.trailer rootK).num ≠ none := by
    intro hn
    rw [follow_look, if_neg (by simp [h8]), hn] at h7
    have h0 : Pob.null.kind = 0 := rfl
    have : Pob.null.kind = 7 := h7
    omega
  obtain ⟨x, hx⟩ := Option.ne_none_iff_exists'.1 hl
  have hr : rootI d = x := by rw [rootI, hx]; rfl
  have hm := (look_some (doc_incr h)).1 hx
  rw [hr]
  refine ⟨hm.1, hm.2, ?_⟩
  rw [hx, Option.getD_some] at hf
  rw [hf]; exact h7
theorem null_chk {o : Pob} (h : chk o 1 = 0) (hk : o.kind = 0) : o = Pob.null := by
  have h1 := chk_own h
  unfold ownE at h1
  rw [if_neg (by decide)] at h1
  by_cases hu : useB o 1 = false
  · rw [if_pos hu] at h1; exact absurd h1 (by decide)
  · have hu : useB o 1 = true := by simpa using hu
    cases o with
    | mk a b c s ks l =>
      simp only [Pob.kind] at hk
      subst hk
      simp [useB, uOk, uN, uG, uS, uKeys, uKids, Pob.kind, Pob.num, Pob.gen, Pob.str, Pob.keys, Pob.kids] at hu
      obtain ⟨⟨⟨⟨e1, e2⟩, e3⟩, e4⟩, e5⟩ := hu
      have f1 := of_decide_eq_true e1
      have f2 := of_decide_eq_true e2
      have f3 := of_decide_eq_true e3
      clear e1 e2 e3
      rw [f1, f2, f3, e4, e5]
      rfl
theorem set_dropped {o v : Pob} {k : List UInt8} (h : setE o k v = 0) : dropO (setO o k v) k = dropO o k := by
  obtain ⟨hk, hc, _, hc2, hkd, _⟩ := set_parts h
  have h1 := (set_twice h Pob.null).2
  rw [(set_null (key := k) (by rw [hkd]; exact hk) hc2 (v := Pob.null) rfl).2, (set_null hk hc (v := Pob.null) rfl).2] at h1
  exact h1
theorem root_set {d : Dc} {k : List UInt8} {o : Pob} (h : setRootE d k o = 0) :
    docE d = 0 ∧ docE (setRootD d k o) = 0 ∧ rootI (setRootD d k o) = ⟨(rootI d).num, (rootI d).gen, setO (rootI d).obj k o⟩ ∧ (setRootD d k o).items.length = d.items.length ∧
    getB (setO (rootI d).obj k o) k = decide (o.kind ≠ 0) ∧ getO (setO (rootI d).obj k o) k = o ∧ dropO (setO (rootI d).obj k o) k = dropO (rootI d).obj k ∧
    ∀ i, i < d.items.length → (d.items.getD i Itm.zero).num ≠ (rootI d).num → (setRootD d k o).items.getD i Itm.zero = d.items.getD i Itm.zero := by
  obtain ⟨h1, h2, h3, h4, h5⟩ := setRoot_parts h
  have hp := put_parts h4
  have hr := root_there h1
  have hit : ithere d.items (rootI d).num = true := (ithere_iff (doc_incr h1)).2 ⟨_, hr.1, rfl⟩
  have hx : (setRootD d k o).items = d.items.set (iplace d.items (rootI d).num) ⟨(rootI d).num, (rootI d).gen, setO (rootI d).obj k o⟩ := by
    rw [h5, hp.2.2.2]
    show layI d.items _ = _
    unfold layI
    rw [if_pos hit]
  have hg := set_get h3
  refine ⟨h1, by rw [h5]; exact put_doc0 h4, ?_, by rw [hx, List.length_set], hg.1, ?_, set_dropped h3, ?_⟩
  · rw [rootI, h5, put_trailer h4, put_look h4, ← hr.2.1, if_pos rfl]; rfl
  · by_cases hk : o.kind = 0
    · have : getB (setO (rootI d).obj k o) k = false := by rw [hg.1]; simp [hk]
      rw [null_chk h2 hk] at this ⊢
      simp [getO, this]
    · exact hg.2.1 hk
  · intro i hi hn
    rw [hx]
    have hne : iplace d.items (rootI d).num ≠ i := by
      intro e
      have := ithere_num hit
      rw [e] at this
      exact hn this
    simp [List.getD, List.getElem?_set, hne]
end Aw

namespace Go.Proofs
open Go Aw
set_option linter.unusedSimpArgs false
set_option linter.unusedVariables false
set_option maxRecDepth 100000
set_option maxHeartbeats 2000000
theorem c_law_CatalogRoot (gl : List (Nat × AV)) (d : Dc) (k : List UInt8) (o : Pob) (hd : d.tot + o.tot + k.length ≤ 1048576) : FnP Tryz.prog (gl) 6 [.agg d.cells, .str k, .agg o.cells] fun r => r = .ret (.bool true) := by
  refine FnP.intro Tryz.func6 rfl rfl (by simp [Tryz.ntmps6]) ?_
  simp only [argEnv, Tryz.ntmps6, Tryz.results6]
  have hb := d.bulk_tot
  have hb1 := o.bulk_tot
  have hb2 : d.bulk = ibulk d.items + d.trailer.bulk := rfl
  have hps := o.psize_tot
  have hds := d.size_tot
  have hat := look_tot d (getO d.trailer rootK).num
  have hri : (rootI d).obj.tot ≤ d.tot + 7 := hat
  have hrb := Pob.bulk_tot (rootI d).obj
  have hst := setO_tot (rootI d).obj k o
  have hsb := Pob.bulk_tot (setO (rootI d).obj k o)
  refine AW.rS ?_
  refine AW.seq ?_
  refine AW.rSC ?_
  refine awOps.cons (awGuard.c1 (c_foliantlaw34_light _ d (by omega) (by omega)) ?_)
  refine awOps.rn ?_
  refine awOps.cons (awGuard.cG (fun hg => c_foliantref05_Size _ o (by omega) (by omega)) ?_)
  refine awOps.rn ?_
  refine AW.c2 ?_ ?_
  · intro h8
    refine AW.rSC ?_
    refine awOps.cons (awGuard.c1 (c_law34_lives _) ?_)
    refine awOps.rn ?_
    refine AW.rt ?_
    all_goals first | contradiction | rfl | (simp; done) | (simp; omega)
  · intro h8
    refine AW.skip ?_
    refine AW.rSC ?_
    refine awOps.cons (awGuard.c1 (c_catalog_SetRoot _ d k o (by omega)) ?_)
    refine awOps.rn ?_
    refine AW.seq ?_
    refine AW.rS ?_
    refine AW.c2 ?_ ?_
    · intro h20
      have hz := setRoot_zero h20
      rw [hz]
      refine AW.rSC ?_
      refine awOps.cons (awGuard.cG (fun hg => c_law34_lives _) ?_)
      refine awOps.rn ?_
      refine AW.rt ?_
      all_goals first | contradiction | rfl | (simp; done) | (simp; omega)
    · intro h20
      have hxb := setRootD_bulk d k o
      obtain ⟨g1, g2, g3, g4, g5, g6, g7, g8⟩ := root_set h20
      have hra : rootO d = rootI d := by rw [rootO, if_pos g1]
      have hrx : rootO (setRootD d k o) = ⟨(rootI d).num, (rootI d).gen, setO (rootI d).obj k o⟩ := by rw [rootO, if_pos g2, g3]
      refine AW.skip ?_
      refine AW.rSC ?_
      refine awOps.cons (awGuard.c1 (c_catalog_Root _ d (by omega)) ?_)
      refine awOps.rn ?_
      refine AW.rSC ?_
      refine awOps.cons (awGuard.c1 (c_catalog_Root _ (setRootD d k o) (by omega)) ?_)
      refine awOps.rn ?_
      rw [hra, hrx]
      refine AW.seq ?_
      refine AW.rS ?_
      refine AW.c2 ?_ ?_
      · intro h35
        simp [g1, g2, g4] at h35
      · intro h35
        refine AW.skip ?_
        refine AW.rSC ?_
        refine awOps.cons (awGuard.c1 (c_foliantref05_Get _ (setO (rootI d).obj k o) k (by omega)) ?_)
        refine awOps.rn ?_
        refine AW.seq ?_
        refine AW.fS [0, 1, 2, 3, 4, 5, 6, 7, 8, 9, 10, 11, 12, 13, 14, 16, 17, 18, 15, 19, 20, 21, 22] [] ?_
        refine awFun.rn ?_
        refine awFun.cG [90, 91, 92] (fun hg => c_foliantref05_Same _ (getO (setO (rootI d).obj k o) k) o (by rw [g6]; omega)) ?_
        refine awFun.rn ?_
        refine awFun.cG [96, 98, 99] (fun hg => c_foliantref05_Drop _ (rootI d).obj k (by omega)) ?_
        refine awFun.rn ?_
        refine awFun.cG [96, 102, 103] (fun hg => c_foliantref05_Drop _ (setO (rootI d).obj k o) k (by omega)) ?_
        refine awFun.rn ?_
        refine awFun.cG [96, 100, 104] (fun hg => c_foliantref05_Same _ (dropO (rootI d).obj k) (dropO (setO (rootI d).obj k o) k) (by have := dropO_bulk (rootI d).obj k; omega)) ?_
        refine awFun.rn ?_
        rw [Aw.awFun_nil, Aw.awPlan_nil]
        refine AW.c2 ?_ ?_
        · intro h55
          simp [g5, g6, g7] at h55
        · intro h55
          refine AW.skip ?_
          refine AW.seq ?_
          refine AW.rS ?_
          refine AW.block ?_
          refine AW.lk (S := { i : Nat // i ≤ d.items.length }) [3, 7, 9] (fun s_ => [(15, .int .i64 s_.1)]) (fun s_ => [(0, .cells [.sl (itemsAV d.items), .int .i64 d.trailer.kind, .int .i64 d.trailer.num, .int .i64 d.trailer.gen, .str d.trailer.str, .sl (strsAV d.trailer.keys), .sl (objsAV d.trailer.kids)]), (2, .cells [.sl (itemsAV (setRootD d k o).items), .int .i64 (setRootD d k o).trailer.kind, .int .i64 (setRootD d k o).trailer.num, .int .i64 (setRootD d k o).trailer.gen, .str (setRootD d k o).trailer.str, .sl (strsAV (setRootD d k o).trailer.keys), .sl (objsAV (setRootD d k o).trailer.kids)]), (3, .cells [.int .i64 (rootI d).num, .int .i64 (rootI d).gen, .int .i64 (rootI d).obj.kind, .int .i64 (rootI d).obj.num, .int .i64 (rootI d).obj.gen, .str (rootI d).obj.str, .sl (strsAV (rootI d).obj.keys), .sl (objsAV (rootI d).obj.kids)])]) 4 (fun s_ => d.items.length - s_.1) ⟨0, Nat.zero_le _⟩ ?_ ?_
          · refine St.le.vw [0, 1, 2, 3]
          rintro ⟨i, hi⟩
          try dsimp only at hi
          refine AW.seq ?_
          refine AW.rS ?_
          refine AW.c2 ?_ ?_
          · intro h66
            refine AW.skip ?_
            refine AW.seq ?_
            refine AW.block ?_
            refine AW.fS [0, 1, 2, 3, 4, 5, 6, 7, 8, 9, 10, 11, 12, 13, 14, 15, 16, 17, 18, 19, 20, 21, 22] [] ?_
            refine awFun.rn ?_
            refine awFun.cG [124, 129, 134] (fun hg => c_foliantref19_SameItem _ (d.items.getD i Itm.zero) ((setRootD d k o).items.getD i Itm.zero) (by have := ibulk_get (l := d.items) (i := i) (by omega); omega)) ?_
            refine awFun.rn ?_
            rw [Aw.awFun_nil, Aw.awPlan_nil]
            refine AW.c2 ?_ ?_
            · intro h75
              exact absurd (g8 i (by omega) h75.1).symm h75.2
            · intro h75
              refine AW.skip ?_
              refine AW.rL ?_
              refine ⟨⟨i + 1, by omega⟩, ?_, ?_⟩
              · refine St.le.vw [0, 1, 2, 3]
              · simp only []; omega
          · intro h66
            refine AW.exit ?_
            refine AW.rSC ?_
            refine awOps.cons (awGuard.c1 (c_law34_lives _) ?_)
            refine awOps.rn ?_
            refine AW.rt ?_
            all_goals first | contradiction | rfl | (simp; done) | (simp; omega)
end Go.Proofs
