/- A part of the proof of a law of the seat: no condition of its own. -/
import Derived.Test.YtokikpiffafajaaGreatPart15
namespace Go.Proofs
open Go Aw
set_option linter.unusedSimpArgs false
set_option linter.unusedVariables false
set_option maxRecDepth 100000
set_option maxHeartbeats 2000000
def kaTitle : List UInt8 := [84, 105, 116, 108, 101]
def kaAuthor : List UInt8 := [65, 117, 116, 104, 111, 114]
def kaE : Dc := setInfoD (newD 1) kaTitle [97]
def kaF : Dc := setRootD kaE [88] (intO 7)
theorem ka1 : newE 1 = 0 := by decide +kernel
theorem ka2 : newE (-1) = 2 := by decide +kernel
theorem ka3 : (newD 1).items.length = 3 := by decide +kernel
theorem ka4 : setInfoE (newD 1) kaTitle [97] = 0 := by decide +kernel
theorem ka5 : kaE.items.length = 4 := by decide +kernel
theorem ka6 : infoS kaE kaTitle = [97] := by decide +kernel
theorem ka7 : infoS kaE kaAuthor = [] := by decide +kernel
theorem ka8 : docE kaE = 0 := by decide +kernel
theorem ka9 : (rootO kaE).num = 1 := by decide +kernel
theorem ka10 : setRootE kaE [88] (intO 7) = 0 := by decide +kernel
theorem ka11 : docE kaF = 0 := by decide +kernel
theorem ka12 : (rootO kaF).obj.kids.length = 3 := by decide +kernel
theorem ka13 : ((rootO kaF).obj.kids.getD 2 Pob.null).num = 7 := by decide +kernel
theorem ka14 : (rootO kaF).obj.keys.getD 2 [] = [88] := by decide +kernel
theorem ka15 : setRootE kaE [] Pob.null = 3 := by decide +kernel
theorem ka16 : (rootO kaF).obj.keys.length = 3 := by decide +kernel
theorem c_law34_lives (gl : List (Nat × AV))  : FnP Tryz.prog (gl) 7 [] fun r => r = .ret (.bool true) := by
  refine FnP.intro Tryz.func7 rfl rfl (by simp [Tryz.ntmps7]) ?_
  simp only [argEnv, Tryz.ntmps7, Tryz.results7]
  have hkl := ka12
  have hks := ka16
  refine AW.rS ?_
  refine AW.trim [] ?_
  refine AW.rSC ?_
  refine awOps.cons (awGuard.c1 (c_catalog_New _ 1) ?_)
  refine awOps.rn ?_
  refine AW.trim [1, 2] ?_
  refine AW.rSC ?_
  refine awOps.cons (awGuard.c1 (c_catalog_New _ (-1)) ?_)
  refine awOps.rn ?_
  refine AW.trim [1, 2, 4] ?_
  refine AW.seq ?_
  refine AW.rS ?_
  refine AW.trim [1, 34] ?_
  refine AW.c2 ?_ ?_
  · intro h10
    simp [ka1, ka2, ka3] at h10
  · intro h10
    refine AW.skip ?_
    refine AW.rSC ?_
    refine awOps.cons (awGuard.c1 (c_catalog_SetInfo _ (newD 1) kaTitle [97] (by decide +kernel)) ?_)
    refine awOps.rn ?_
    refine AW.trim [5, 6] ?_
    refine AW.rSC ?_
    refine awOps.cons (awGuard.c1 (c_catalog_Root _ kaE (by decide +kernel)) ?_)
    refine awOps.rn ?_
    refine AW.trim [5, 6, 7, 8] ?_
    refine AW.rSC ?_
    refine awOps.cons (awGuard.c1 (c_catalog_SetRoot _ kaE [88] (intO 7) (by decide +kernel)) ?_)
    refine awOps.rn ?_
    refine AW.trim [5, 6, 7, 8, 9, 10] ?_
    refine AW.rSC ?_
    refine awOps.cons (awGuard.c1 (c_catalog_Root _ kaF (by decide +kernel)) ?_)
    refine awOps.rn ?_
    refine AW.trim [5, 6, 7, 8, 10, 11, 12] ?_
    refine AW.rSC ?_
    refine awOps.cons (awGuard.c1 (c_catalog_SetRoot _ kaE [] Pob.null (by decide +kernel)) ?_)
    refine awOps.rn ?_
    refine AW.trim [5, 6, 7, 8, 10, 11, 12, 14] ?_
    refine AW.rSC ?_
    refine awOps.cons (awGuard.cG (fun hg => c_catalog_Info _ kaE kaTitle (by decide +kernel)) ?_)
    refine awOps.rn ?_
    refine awOps.cons (awGuard.cG (fun hg => c_catalog_Info _ kaE kaAuthor (by decide +kernel)) ?_)
    refine awOps.rn ?_
    refine AW.trim [0] ?_
    refine AW.rt ?_
    have h5 : (setInfoD (newD 1) kaTitle [97]).items.length = 4 := ka5
    simp only [ka4, h5, ka6, ka7, ka8, ka9, ka10, ka11, hkl, ka13, ka14, ka15]
    rfl
theorem rootO_bulk (d : Dc) : (rootO d).obj.bulk ≤ d.bulk + 1 := by
  have h1 : Itm.zero.obj.bulk = 1 := by simp [Itm.zero, Pob.null, Pob.bulk, bulks]
  have h2 := look_bulk d.items (getO d.trailer rootK).num
  have h3 : d.bulk = ibulk d.items + d.trailer.bulk := rfl
  unfold rootO
  split
  · show ((lookI d.items (getO d.trailer rootK).num).getD Itm.zero).obj.bulk ≤ _; omega
  · omega
theorem withD_bulk (d : Dc) (i : Itm) (k : List UInt8) (o : Pob) : (withD d i k o).bulk ≤ d.bulk + i.obj.bulk + o.bulk + 3 := by
  have h1 := zero_bulk
  have h2 := setO_bulk i.obj k o
  have h3 := putO_bulk d ⟨i.num, i.gen, setO i.obj k o⟩
  dsimp only at h3
  unfold withD
  split <;> omega
theorem trailedD_bulk (d : Dc) (o : Pob) : (trailedD d o).bulk ≤ d.bulk + o.bulk + 3 := by
  have h1 := zero_bulk
  have h2 := setO_bulk d.trailer infoK o
  have h3 : d.bulk = ibulk d.items + d.trailer.bulk := rfl
  have h4 : (⟨d.items, setO d.trailer infoK o⟩ : Dc).bulk = ibulk d.items + (setO d.trailer infoK o).bulk := rfl
  unfold trailedD
  split <;> omega
theorem setRootD_bulk (d : Dc) (k : List UInt8) (o : Pob) : (setRootD d k o).bulk ≤ 2 * d.bulk + o.bulk + 5 := by
  have h1 := zero_bulk
  have h2 := look_bulk d.items (getO d.trailer rootK).num
  have h3 : d.bulk = ibulk d.items + d.trailer.bulk := rfl
  have h4 := withD_bulk d (rootI d) k o
  have h5 : (rootI d).obj.bulk = ((lookI d.items (getO d.trailer rootK).num).getD Itm.zero).obj.bulk := rfl
  unfold setRootD
  split <;> omega
theorem setInfoD_bulk (d : Dc) (k t : List UInt8) : (setInfoD d k t).bulk ≤ 5 * d.bulk + 50 := by
  have h1 := zero_bulk
  have h2 := look_bulk d.items (infoR d).num
  have h3 : d.bulk = ibulk d.items + d.trailer.bulk := rfl
  have h4 := withD_bulk d ((lookI d.items (infoR d).num).getD Itm.zero) k (textO t)
  have h5 := textO_bulk t
  have h6 := infoO_le d
  have h7 := setO_bulk (infoO d) k (textO t)
  have h8 := trailedD_bulk d (setO (infoO d) k (textO t))
  have h9 := dictO_bulk [nameO k, textO t]
  have h10 := nameO_bulk k
  simp only [bulks] at h9
  have h11 := addO_bulk d (dictO [nameO k, textO t])
  have h12 := trailedD_bulk (addO d (dictO [nameO k, textO t])) (refO (addN d (dictO [nameO k, textO t])) 0)
  have h13 := refO_bulk (addN d (dictO [nameO k, textO t])) 0
  unfold setInfoD
  split
  · omega
  · unfold putInfoD
    split
    · omega
    · split
      · split <;> omega
      · split
        · omega
        · split <;> omega
theorem c_foliantlaw34_light (gl : List (Nat × AV)) (d : Dc) (h : d.bulk ≤ 16777216) (hp : d.size ≤ 4611686018427387904) : FnP Tryz.prog (gl) 12 [.agg d.cells] fun r => r = .ret (.bool (decide ((d.items.length : Int) ≤ 40) && decide ((d.size : Int) ≤ 600))) := by
  refine FnP.intro Tryz.func12 rfl rfl (by simp [Tryz.ntmps12]) ?_
  simp only [argEnv, Tryz.ntmps12, Tryz.results12]
  refine AW.rS ?_
  refine AW.rSC ?_
  refine awOps.cons (awGuard.cG (fun hg => c_foliantref19_Size _ d h hp) ?_)
  refine awOps.rn ?_
  refine AW.rt ?_
  cases hh : decide ((d.items.length : Int) ≤ 40) <;> simp [hh]
theorem c_foliantlaw34_info (gl : List (Nat × AV)) (d : Dc) (h : d.tot ≤ 3000000) : FnP Tryz.prog (gl) 23 [.agg d.cells] fun r => r = .ret (.bool (decide ((infoO d).kind = 7) && decide (0 < ((refsO (infoO d)).length : Int)))) := by
  refine FnP.intro Tryz.func23 rfl rfl (by simp [Tryz.ntmps23]) ?_
  simp only [argEnv, Tryz.ntmps23, Tryz.results23]
  have hb := d.bulk_tot
  have hb2 : d.bulk = ibulk d.items + d.trailer.bulk := rfl
  have hi := infoO_le d
  refine AW.rS ?_
  refine AW.rSC ?_
  refine awOps.cons (awGuard.c1 (c_foliantref05_Get _ d.trailer infoK (by omega)) ?_)
  refine awOps.rn ?_
  refine AW.rSC ?_
  refine awOps.cons (awGuard.c1 (c_foliantref19_Follow _ d (infoR d) (by omega)) ?_)
  refine awOps.rn ?_
  refine AW.rSC ?_
  refine awOps.cons (awGuard.cG (fun hg => c_foliantref05_Refs _ (infoO d) (by omega)) ?_)
  refine awOps.rn ?_
  refine AW.rt ?_
  show _ = AE.ret (AV.bool (decide ((followO d (infoR d)).kind = 7) && _))
  cases decide ((followO d (infoR d)).kind = 7) <;> rfl
theorem c_law_CatalogTells (gl : List (Nat × AV)) (d : Dc) (k t : List UInt8) (o : Pob) (hd : d.tot + o.tot + k.length + t.length ≤ 1048576) : FnP Tryz.prog (gl) 4 [.agg d.cells, .str k, .str t, .agg o.cells] fun r => r = .ret (.bool true) := by
  refine FnP.intro Tryz.func4 rfl rfl (by simp [Tryz.ntmps4]) ?_
  simp only [argEnv, Tryz.ntmps4, Tryz.results4]
  have hb := d.bulk_tot
  have hb1 := o.bulk_tot
  have hps := o.psize_tot
  have hds := d.size_tot
  refine AW.rS ?_
  refine AW.seq ?_
  refine AW.rSC ?_
  refine awOps.cons (awGuard.c1 (c_foliantlaw34_light _ d (by omega) (by omega)) ?_)
  refine awOps.rn ?_
  refine awOps.cons (awGuard.cG (fun hg => c_foliantref05_Size _ o (by omega) (by omega)) ?_)
  refine awOps.rn ?_
  refine AW.c2 ?_ ?_
  · intro h8
    refine AW.rSC ?_
    refine awOps.cons (awGuard.c1 (c_law34_lives _) ?_)
    refine awOps.rn ?_
    refine AW.rt ?_
    all_goals first | contradiction | rfl | (simp; done) | (simp; omega)
  · intro h8
    refine AW.skip ?_
    refine AW.rSC ?_
    refine awOps.cons (awGuard.c1 (c_catalog_Root _ d (by omega)) ?_)
    refine awOps.rn ?_
    refine AW.rSC ?_
    refine awOps.cons (awGuard.c1 (c_foliantref34_Root _ d (by omega)) ?_)
    refine awOps.rn ?_
    refine AW.rSC ?_
    refine awOps.cons (awGuard.c1 (c_catalog_SetRoot _ d k o (by omega)) ?_)
    refine awOps.rn ?_
    refine AW.rSC ?_
    refine awOps.cons (awGuard.c1 (c_foliantref34_SetRoot _ d k o (by omega)) ?_)
    refine awOps.rn ?_
    refine AW.rSC ?_
    refine awOps.cons (awGuard.c1 (c_catalog_SetInfo _ d k t (by omega)) ?_)
    refine awOps.rn ?_
    refine AW.rSC ?_
    refine awOps.cons (awGuard.c1 (c_foliantref34_SetInfo _ d k t (by omega)) ?_)
    refine awOps.rn ?_
    refine AW.fS [0, 1, 2, 3, 4, 5, 6, 7, 8, 9, 10, 11, 12, 13, 14, 15, 16, 17, 18, 19, 20, 21, 22, 23, 24, 25, 26, 27, 28, 29, 30, 32, 33, 31, 34, 35, 36, 37, 38, 39, 40] [] ?_
    refine awFun.rn ?_
    refine awFun.c1 [78, 79] (c_foliantref19_SameItem _ (rootO d) (rootO d) (by have := rootO_bulk d; omega)) ?_
    refine awFun.rn ?_
    refine awFun.cG [86, 87, 88] (fun hg => c_foliantref19_Same _ (setRootD d k o) (setRootD d k o) (by have := setRootD_bulk d k o; omega)) ?_
    refine awFun.rn ?_
    refine awFun.cG [96, 97, 98] (fun hg => c_foliantref19_Same _ (setInfoD d k t) (setInfoD d k t) (by have := setInfoD_bulk d k t; omega)) ?_
    refine awFun.rn ?_
    refine awFun.cG [106, 107, 108] (fun hg => c_catalog_Info _ d k (by omega)) ?_
    refine awFun.rn ?_
    refine awFun.cG [106, 110, 111] (fun hg => c_foliantref34_Info _ d k (by omega)) ?_
    refine awFun.rn ?_
    refine awFun.cG [115] (fun hg => c_law34_lives _) ?_
    refine awFun.rn ?_
    rw [Aw.awFun_nil, Aw.awPlan_nil]
    refine AW.rt ?_
    all_goals first | contradiction | rfl | (simp; done) | (simp; omega)
end Go.Proofs
