/- A part of the proof: no condition of its own. -/
import Derived.Test.YthpbpnfgenhhdaaGreatPart4
namespace Aw
open Go
theorem make_err0 {d : Dc} {l : List En} {fan e : Int} (h : makeE0 d l fan = e) (he : e ≠ 0) : makeE d l fan = e ∧ makeD d l fan = Dc.zero ∧ makeO d l fan = Pob.null := by
 have h1 : makeE d l fan = e := by rw [makeE, makeS, if_pos (by rw [h]; exact he)]; exact h
 exact ⟨h1, by rw [makeD, if_pos (by rw [h1]; exact he)], by rw [makeO, if_pos (by rw [h1]; exact he)]⟩
theorem make_bad {d : Dc} {l : List En} {fan e : Int} (h : makeE0 d l fan = 0) (he : (treeB d l fan.toNat).err = e) (hne : e ≠ 0) : makeE d l fan = e ∧ makeD d l fan = Dc.zero ∧ makeO d l fan = Pob.null := by
 have h1 : makeE d l fan = e := by rw [makeE, makeS, if_neg (by rw [h]; simp)]; exact he
 exact ⟨h1, by rw [makeD, if_pos (by rw [h1]; exact hne)], by rw [makeO, if_pos (by rw [h1]; exact hne)]⟩
theorem make_ok {d : Dc} {l : List En} {fan : Int} (h : makeE0 d l fan = 0) (he : (treeB d l fan.toNat).err = 0) : makeE d l fan = 0 ∧ makeD d l fan = (treeB d l fan.toNat).d ∧ makeO d l fan = refO ((treeB d l fan.toNat).row.getD 0 Gr.zero).num 0 := by
 have hs : makeS d l fan = treeB d l fan.toNat := by rw [makeS, if_neg (by rw [h]; simp)]
 have h1 : makeE d l fan = 0 := by rw [makeE, hs]; exact he
 exact ⟨h1, by rw [makeD, if_neg (by rw [h1]; simp), hs], by rw [makeO, if_neg (by rw [h1]; simp), hs]⟩
theorem make0_doc {d : Dc} {l : List En} {fan : Int} (h : docE d ≠ 0) : makeE0 d l fan = docE d := by rw [makeE0, if_pos h]
theorem make0_may {d : Dc} {l : List En} {fan : Int} (h : docE d = 0) (h2 : mayE l fan ≠ 0) : makeE0 d l fan = mayE l fan := by rw [makeE0, if_neg (by rw [h]; simp), if_pos h2]
theorem make0_many {d : Dc} {l : List En} {fan : Int} (h : docE d = 0) (h2 : mayE l fan = 0) (h3 : 4096 < nodesN l.length fan.toNat) : makeE0 d l fan = 6 := by rw [makeE0, if_neg (by rw [h]; simp), if_neg (by rw [h2]; simp), if_pos h3]
theorem make0_ok {d : Dc} {l : List En} {fan : Int} (h : docE d = 0) (h2 : mayE l fan = 0) (h3 : ¬ 4096 < nodesN l.length fan.toNat) : makeE0 d l fan = 0 := by rw [makeE0, if_neg (by rw [h]; simp), if_neg (by rw [h2]; simp), if_neg h3]
theorem may_facts {l : List En} {fan : Int} (h : mayE l fan = 0) : ∃ f : Nat, fan = f ∧ 2 ≤ f ∧ f ≤ 16 ∧ l.length ≤ 8191 := by
 rw [mayE] at h
 split at h
 ·cases h
 ·rename_i h1
  split at h
  ·cases h
  ·exact ⟨fan.toNat, by omega, by omega, by omega, by omega⟩
theorem tree_low {d : Dc} {l : List En} {fan : Nat} (h : l.length ≤ fan) : treeB d l fan = addB ⟨0, d, []⟩ true (pairsP l) [] [] false := by rw [treeB, if_pos h]
theorem tree_high {d : Dc} {l : List En} {fan : Nat} (h : ¬ l.length ≤ fan) : treeB d l fan = topB (climbB fan l.length (leavesB d l fan (partsN l.length fan))) fan := by rw [treeB, if_neg h]
theorem top_err {s : BS} {fan : Nat} (h : s.err ≠ 0) : topB s fan = s := by rw [topB, if_pos h]
theorem top_ok {s : BS} {fan : Nat} (h : s.err = 0) : topB s fan = addB ⟨0, s.d, []⟩ false (refsP s.row) [] [] false := by rw [topB, if_neg (by rw [h]; simp)]
theorem part_ne {α : Type} {l : List α} {fan i : Nat} (hf : 0 < fan) (h : i * fan < l.length) : partL l fan i ≠ [] := by
 intro h0
 have := part_len l fan i
 rw [h0] at this
 simp at this
 omega
theorem entsAV_first (p : { l : List En // l ≠ [] }) (x : List AV) : (entsAV p.1).getD 0 x = [.str (p.1.getD 0 En.zero).key, .int .i64 (p.1.getD 0 En.zero).val.kind, .int .i64 (p.1.getD 0 En.zero).val.num, .int .i64 (p.1.getD 0 En.zero).val.gen, .str (p.1.getD 0 En.zero).val.str, .sl (strsAV (p.1.getD 0 En.zero).val.keys), .sl (objsAV (p.1.getD 0 En.zero).val.kids)] :=
 entsAV_getD (List.length_pos_iff.2 p.2)
theorem entsAV_lastP (p : { l : List En // l ≠ [] }) (x : List AV) : (entsAV p.1).getD (p.1.length - 1) x = [.str (p.1.getD (p.1.length - 1) En.zero).key, .int .i64 (p.1.getD (p.1.length - 1) En.zero).val.kind, .int .i64 (p.1.getD (p.1.length - 1) En.zero).val.num, .int .i64 (p.1.getD (p.1.length - 1) En.zero).val.gen, .str (p.1.getD (p.1.length - 1) En.zero).val.str, .sl (strsAV (p.1.getD (p.1.length - 1) En.zero).val.keys), .sl (objsAV (p.1.getD (p.1.length - 1) En.zero).val.kids)] :=
 entsAV_getD (by have := List.length_pos_iff.2 p.2; omega)
theorem grsAV_first (p : { l : List Gr // l ≠ [] }) (x : List AV) : (grsAV p.1).getD 0 x = [.int .i64 (p.1.getD 0 Gr.zero).num, .str (p.1.getD 0 Gr.zero).lo, .str (p.1.getD 0 Gr.zero).hi] := grsAV_getD (List.length_pos_iff.2 p.2)
theorem grsAV_lastP (p : { l : List Gr // l ≠ [] }) (x : List AV) : (grsAV p.1).getD (p.1.length - 1) x = [.int .i64 (p.1.getD (p.1.length - 1) Gr.zero).num, .str (p.1.getD (p.1.length - 1) Gr.zero).lo, .str (p.1.getD (p.1.length - 1) Gr.zero).hi] :=
 grsAV_getD (by have := List.length_pos_iff.2 p.2; omega)
theorem grsAV_takeL (l : List Gr) : (grsAV l).take l.length = grsAV l := List.take_of_length_le (by rw [grsAV_length]; exact Nat.le_refl _)
end Aw

namespace Go.Proofs
open Go Aw
set_option linter.unusedSimpArgs false
set_option linter.unusedVariables false
set_option maxRecDepth 100000
set_option maxHeartbeats 4000000
attribute [local go_sem] En.cells Gr.cells entsAV_length grsAV_length entsAV_len7 grsAV_len3 entsAV_first entsAV_lastP grsAV_first grsAV_lastP grsAV_takeL
theorem c_names_Make (gl : List (Nat × AV)) (d : Dc) (l : List En) (fan : Int) (h : d.bulk + esum l ≤ 1100000) :
  FnP Tryz.prog gl 17 [.agg d.cells, .sl (entsAV l), .int .i64 fan] fun r => r = .ret (.tup [.agg (makeD d l fan).cells, .agg (makeO d l fan).cells, .int .i64 (makeE d l fan)]) := by
 have hel := ebulk_esum l
 refine FnP.introN Tryz.func17 rfl rfl (by simp [Tryz.ntmps17]) ?_
 simp only [argEnv, Tryz.ntmps17, Tryz.results17, Dc.cells, Pob.cells_eq]
 refine AW.rL ?_
 refine ⟨rfl, ?_⟩
 refine AW.dfL ?_
 refine ⟨rfl, fun n_ ds_ => ?_⟩
 refine AWT.trim [1, 2, 3, 6, 7, 8] ?_
 refine AWT.seq ?_
 refine AWT.rSC ?_
 refine OpsT.cs (awGuard.c1 (c_docs_Check _ d (by omega)) ?_)
 refine OpsT.rn ?_
 refine OpsT.nil ?_
 refine AWT.rS ?_
 refine AWT.c2 ?_ ?_
 ·intro hC
  refine AWT.rS ?_
  refine AWT.ret ?_
  simp only [andThen_ret, finD_ret]
  refine LeaveS.c1 [3] (d_face_ret _ _) ?_
  refine LeaveS.rt Tryz.results17 ?_
  obtain ⟨e1, e2, e3⟩ := make_err0 (make0_doc (l := l) (fan := fan) hC) hC
  rw [e1, e2, e3]
  rfl
 intro hC0
 have hC : docE d = 0 := by simpa using hC0
 refine AWT.skip ?_
 refine AWT.trim [1, 2, 3, 6, 7, 8] ?_
 refine AWT.rSC ?_
 refine OpsT.cs (awGuard.cM (c_names_checked _ l fan (by omega)) ?_ ?_)
 ·intro hD
  refine finD_pan ?_
  refine LeaveS.c1 [3] (d_face_pan _ _) ?_
  refine LeaveS.rt Tryz.results17 ?_
  obtain ⟨e1, e2, e3⟩ := make_err0 (make0_may (l := l) (fan := fan) hC hD) hD
  rw [e1, e2, e3]
  rfl
 intro hD
 refine OpsT.rn ?_
 refine OpsT.nil ?_
 obtain ⟨f, rfl, hf2, hf16, hl⟩ := may_facts hD
 have hft : ((f : Nat) : Int).toNat = f := Int.toNat_natCast f
 refine AWT.trim [1, 2, 3, 6, 7, 8] ?_
 refine AWT.rSC ?_
 refine OpsT.cs (awGuard.c1 (c_names_nodes _ l.length f hl ⟨hf2, hf16⟩) ?_)
 refine OpsT.rn ?_
 refine OpsT.cs (awGuard.cM (c_names_must _ _ 6) ?_ ?_)
 ·intro hE
  refine finD_pan ?_
  refine LeaveS.c1 [3] (d_face_pan _ _) ?_
  refine LeaveS.rt Tryz.results17 ?_
  obtain ⟨e1, e2, e3⟩ := make_err0 (make0_many (l := l) (fan := (f : Int)) hC hD (by rw [hft]; omega)) (by decide)
  rw [e1, e2, e3]
  rfl
 intro hE
 have h0 : makeE0 d l (f : Int) = 0 := make0_ok hC hD (by rw [hft]; omega)
 have hbad := fun e => make_bad (e := e) h0
 have hgood := make_ok h0
 rw [hft] at hbad hgood
 refine OpsT.rn ?_
 refine OpsT.nil ?_
 refine AWT.trim [1, 2, 3, 6, 7, 8] ?_
 refine AWT.rS ?_
 refine AWT.trim [1, 2, 6, 7, 8, 10] ?_
 refine AWT.seq ?_
 refine AWT.rS ?_
 refine AWT.c2 ?_ ?_
 ·intro hF
  have hF2 : l.length ≤ f := by omega
  have htl := tree_low (d := d) hF2
  have hpb := pairsP_bulk l
  have hlb := len_esum l
  rw [htl] at hbad hgood
  have hb9 : ¬ addE d (nodeO true (pairsP l) [] [] false) = 0 → makeE d l (f : Int) = addE d (nodeO true (pairsP l) [] [] false) ∧ makeD d l (f : Int) = Dc.zero ∧ makeO d l (f : Int) = Pob.null := fun hC => hbad _ (addB_bad (s := ⟨0, d, []⟩) rfl hC) hC
  refine AWT.trim [1, 6, 7, 8, 10] ?_
  refine AWT.tVE (E0 := [(6, .ptr 1 0), (7, .ptr 2 0), (8, .ptr 3 0)]) (C := addE d (nodeO true (pairsP l) [] [] false) = 0) (σ1 := ⟨111, [(6, .ptr 1 0), (7, .ptr 2 0), (8, .ptr 3 0), (10, .ptr 5 0), (11, .ptr 6 0)], [(0, .cells [.sl (itemsAV d.items), .int .i64 d.trailer.kind, .int .i64 d.trailer.num, .int .i64 d.trailer.gen, .str d.trailer.str, .sl (strsAV d.trailer.keys), .sl (objsAV d.trailer.kids)]), (1, .cells [.raw (.slice none 0 0), .int .i64 0, .int .i64 0, .int .i64 0, .str [], .raw (.slice none 0 0), .raw (.slice none 0 0)]), (2, .cells [.int .i64 0, .int .i64 0, .int .i64 0, .str [], .raw (.slice none 0 0), .raw (.slice none 0 0)]), (3, .cells [.int .i64 0]), (4, .cells [.sl (itemsAV (addO d (nodeO true (pairsP l) [] [] false)).items), .int .i64 (addO d (nodeO true (pairsP l) [] [] false)).trailer.kind, .int .i64 (addO d (nodeO true (pairsP l) [] [] false)).trailer.num, .int .i64 (addO d (nodeO true (pairsP l) [] [] false)).trailer.gen, .str (addO d (nodeO true (pairsP l) [] [] false)).trailer.str, .sl (strsAV (addO d (nodeO true (pairsP l) [] [] false)).trailer.keys), .sl (objsAV (addO d (nodeO true (pairsP l) [] [] false)).trailer.kids)]), (5, .cells [.ptr 4 0]), (6, .cells [.int .i64 (addN d (nodeO true (pairsP l) [] [] false)), .str [], .str []])], 7, gl, 0, [(26, [.ptr 3 0])]⟩) (.take 1 0 (.fork 0 (.fork 2 (.fork 3 (.fork 4 (.fork 5 .done .stop) .stop) (.fork 4 (.fork 3 (.fork 5 .done .stop) .stop) .stop)) (.fork 4 (.fork 2 (.fork 3 (.fork 5 .done .stop) .stop) .stop) .stop)) (.fork 2 (.fork 0 (.fork 3 (.fork 4 (.fork 5 .done .stop) .stop) (.fork 4 (.fork 3 (.fork 5 .done .stop) .stop) .stop)) (.fork 4 (.fork 0 (.fork 3 (.fork 5 .done .stop) .stop) .stop) .stop)) (.fork 4 (.fork 0 (.fork 2 (.fork 3 (.fork 5 .done .stop) .stop) .stop) (.fork 2 (.fork 0 (.fork 3 (.fork 5 .done .stop) .stop) .stop) .stop)) .stop)))) ?tree9 ?rest9
  case tree9 =>
   refine awTree.tk ?_
   refine awTree.fA ?_ ?_
   ·refine awTree.fC (c_names_pairs _ l (by omega)) ?_ ?_
    ·refine awTree.fKM 1 [4] (h_add_bareC _ d true (pairsP l) [] [] (by omega)) ?_ ?_ ?_
     ·intro hC n_ hn_
      simp only [andThen_pan, unblock_pan, withE_pan]
      refine panD ?_
      refine LeaveS.c1 [3] (d_face_pan _ _) ?_
      refine LeaveS.rt Tryz.results17 ?_
      obtain ⟨e1, e2, e3⟩ := hb9 hC
      rw [e1, e2, e3]
      rfl
     ·intro hC
      refine awTree.fA ?_ trivial
      refine awTree.fA ?_ trivial
      exact awTree.dnV hC (St.le.vw [0, 1, 2, 3, 4, 5, 6])
     ·refine awTree.fA ?_ trivial
      refine awTree.fKM 1 [4] (h_add_bareC _ d true (pairsP l) [] [] (by omega)) ?_ ?_ ?_
      ·intro hC n_ hn_
       simp only [andThen_pan, unblock_pan, withE_pan]
       refine panD ?_
       refine LeaveS.c1 [3] (d_face_pan _ _) ?_
       refine LeaveS.rt Tryz.results17 ?_
       obtain ⟨e1, e2, e3⟩ := hb9 hC
       rw [e1, e2, e3]
       rfl
      ·intro hC
       refine awTree.fA ?_ trivial
       exact awTree.dnV hC (St.le.vw [0, 1, 2, 3, 4, 5, 6])
      ·exact trivial
    ·refine awTree.fA ?_ trivial
     refine awTree.fC (c_names_pairs _ l (by omega)) ?_ trivial
     refine awTree.fKM 1 [4] (h_add_bareC _ d true (pairsP l) [] [] (by omega)) ?_ ?_ ?_
     ·intro hC n_ hn_
      simp only [andThen_pan, unblock_pan, withE_pan]
      refine panD ?_
      refine LeaveS.c1 [3] (d_face_pan _ _) ?_
      refine LeaveS.rt Tryz.results17 ?_
      obtain ⟨e1, e2, e3⟩ := hb9 hC
      rw [e1, e2, e3]
      rfl
     ·intro hC
      refine awTree.fA ?_ trivial
      exact awTree.dnV hC (St.le.vw [0, 1, 2, 3, 4, 5, 6])
     ·exact trivial
   ·refine awTree.fC (c_names_pairs _ l (by omega)) ?_ ?_
    ·refine awTree.fA ?_ ?_
     ·refine awTree.fKM 1 [4] (h_add_bareC _ d true (pairsP l) [] [] (by omega)) ?_ ?_ ?_
      ·intro hC n_ hn_
       simp only [andThen_pan, unblock_pan, withE_pan]
       refine panD ?_
       refine LeaveS.c1 [3] (d_face_pan _ _) ?_
       refine LeaveS.rt Tryz.results17 ?_
       obtain ⟨e1, e2, e3⟩ := hb9 hC
       rw [e1, e2, e3]
       rfl
      ·intro hC
       refine awTree.fA ?_ trivial
       refine awTree.fA ?_ trivial
       exact awTree.dnV hC (St.le.vw [0, 1, 2, 3, 4, 5, 6])
      ·refine awTree.fA ?_ trivial
       refine awTree.fKM 1 [4] (h_add_bareC _ d true (pairsP l) [] [] (by omega)) ?_ ?_ ?_
       ·intro hC n_ hn_
        simp only [andThen_pan, unblock_pan, withE_pan]
        refine panD ?_
        refine LeaveS.c1 [3] (d_face_pan _ _) ?_
        refine LeaveS.rt Tryz.results17 ?_
        obtain ⟨e1, e2, e3⟩ := hb9 hC
        rw [e1, e2, e3]
        rfl
       ·intro hC
        refine awTree.fA ?_ trivial
        exact awTree.dnV hC (St.le.vw [0, 1, 2, 3, 4, 5, 6])
       ·exact trivial
     ·refine awTree.fA ?_ trivial
      refine awTree.fA ?_ trivial
      refine awTree.fKM 1 [4] (h_add_bareC _ d true (pairsP l) [] [] (by omega)) ?_ ?_ ?_
      ·intro hC n_ hn_
       simp only [andThen_pan, unblock_pan, withE_pan]
       refine panD ?_
       refine LeaveS.c1 [3] (d_face_pan _ _) ?_
       refine LeaveS.rt Tryz.results17 ?_
       obtain ⟨e1, e2, e3⟩ := hb9 hC
       rw [e1, e2, e3]
       rfl
      ·intro hC
       refine awTree.fA ?_ trivial
       exact awTree.dnV hC (St.le.vw [0, 1, 2, 3, 4, 5, 6])
      ·exact trivial
    ·refine awTree.fA ?_ trivial
     refine awTree.fA ?_ ?_
     ·refine awTree.fC (c_names_pairs _ l (by omega)) ?_ trivial
      refine awTree.fKM 1 [4] (h_add_bareC _ d true (pairsP l) [] [] (by omega)) ?_ ?_ ?_
      ·intro hC n_ hn_
       simp only [andThen_pan, unblock_pan, withE_pan]
       refine panD ?_
       refine LeaveS.c1 [3] (d_face_pan _ _) ?_
       refine LeaveS.rt Tryz.results17 ?_
       obtain ⟨e1, e2, e3⟩ := hb9 hC
       rw [e1, e2, e3]
       rfl
      ·intro hC
       refine awTree.fA ?_ trivial
       exact awTree.dnV hC (St.le.vw [0, 1, 2, 3, 4, 5, 6])
      ·exact trivial
     ·refine awTree.fC (c_names_pairs _ l (by omega)) ?_ trivial
      refine awTree.fA ?_ trivial
      refine awTree.fKM 1 [4] (h_add_bareC _ d true (pairsP l) [] [] (by omega)) ?_ ?_ ?_
      ·intro hC n_ hn_
       simp only [andThen_pan, unblock_pan, withE_pan]
       refine panD ?_
       refine LeaveS.c1 [3] (d_face_pan _ _) ?_
       refine LeaveS.rt Tryz.results17 ?_
       obtain ⟨e1, e2, e3⟩ := hb9 hC
       rw [e1, e2, e3]
       rfl
      ·intro hC
       refine awTree.fA ?_ trivial
       exact awTree.dnV hC (St.le.vw [0, 1, 2, 3, 4, 5, 6])
      ·exact trivial
  case rest9 =>
  intro hG
  have hb := addB_ok (s := ⟨0, d, []⟩) (low := true) (l := pairsP l) (lo := []) (hi := []) (lim := false) rfl hG
  obtain ⟨e1, e2, e3⟩ := hgood (by rw [hb])
  rw [hb] at e2 e3
  refine AWT.noPan ?_
  refine AWT.fS [0, 1, 2, 3, 4, 5, 6] [(7, 2), (8, 2), (9, 2)] ?_ (hQ := by repeat (first | exact Aw.PI.noPan | refine Aw.PI.unblock ?_ | refine Aw.PI.andThen ?_))
  refine awFun.rn ?_
  refine awFun.c1 [49] (c_value_Ref _ (addN d (nodeO true (pairsP l) [] [] false)) 0 (by have := addN_range d (nodeO true (pairsP l) [] [] false); omega)) ?_
  refine awFun.rn ?_
  rw [Aw.awFun_nil]
  refine awPlan.rn ?_
  refine AWT.ret ?_
  simp only [andThen_ret, unblock_ret, noPan_ret, finD_ret]
  refine LeaveS.c1 [3] (d_face_ret _ _) ?_
  refine LeaveS.rt Tryz.results17 ?_
  rw [e1, e2, e3]
  rfl
 ·intro hF
  have hF2 : ¬ l.length ≤ f := by omega
  have htl := tree_high (d := d) hF2
  rw [htl] at hbad hgood
  have hpn : partsN l.length f ≤ (l.length + 1) / 2 := parts_le hf2
  have hbs1 := leaves_bulk d l f (partsN l.length f)
  have hes1 : esum (l.take (partsN l.length f * f)) ≤ esum l := sum_take_le l _ _
  have hls1 := leaves_len d l f (partsN l.length f)
  have hns1 := leaves_nums d l f (partsN l.length f)
  refine AWT.skip ?_
  refine AWT.rS ?_
  refine AWT.trim [1, 2, 6, 7, 8, 10, 12] ?_
  refine AWT.pre (St.le.nilcell 6 0 3 rfl rfl) ?_
  refine AWT.seq ?_
  refine AWT.rSC ?_
  refine OpsT.cs (awGuard.cH [] (h_chunk_E _ l f (by omega)) ?_)
  refine OpsT.rn ?_
  refine OpsT.nil ?_
  refine AWT.block ?_
  refine AWT.rP (f0 := 17) (fnc := Tryz.f17) rfl Tryz.func17 [5, 4, 6, 8, 9] [7] [(10, .ptr 0 0), (12, .ptr 2 0)] (fun j hp' nx' => j = none ∧ (leavesB d l f (partsN l.length f)).err = 0 ∧ (∃ lq rl, hp' = cHp (entsAV l) f (leavesB d l f (partsN l.length f)) (.lp lq rl)) ∧ nx' = 7) (Rp := fun x => (leavesB d l f (partsN l.length f)).err ≠ 0 ∧ x = .iface 105 (.int .i64 (leavesB d l f (partsN l.length f)).err)) (xs := [.ptr 3 0, .ptr 4 0]) (hp0 := [(0, .cells [.ptr 1 0]), (1, .cells [.sl (itemsAV d.items), .int .i64 d.trailer.kind, .int .i64 d.trailer.num, .int .i64 d.trailer.gen, .str d.trailer.str, .sl (strsAV d.trailer.keys), .sl (objsAV d.trailer.kids)]), (2, .cells [.row 6 0 (([] : List Gr)).length]), (3, .cells [.sl (entsAV l)]), (4, .cells [.int .i64 (f : Int)]), (6, .row 3 (grsAV (([] : List Gr))) true)]) ?hit ?hKp ?hK
  case hit =>
   intro Ω hΩ lq rb rc hr
   refine (chunk_E gl l f (leavesB d l f) lq rc hf2 hf16 hl rfl (fun i h k hk => leaves_stop h k hk) (fun k hk hek => ?_)).mono (fun q hp nx hh => ?_)
   ·skip
    have hne := part_ne (l := l) (by omega) hk
    have hbk := leaves_bulk d l f k
    have hln := leaves_len d l f k
    have hsum : esum (l.take (k * f)) + esum (partL l f k) ≤ esum l := by rw [← esum_append, ← take_part]; exact sum_take_le l _ _
    have hkp : k < partsN l.length f := (parts_more (by omega)).2 hk
    have hstep : leavesB d l f (k + 1) = addB (leavesB d l f k) true (pairsP (partL l f k)) ((partL l f k).getD 0 En.zero).key ((partL l f k).getD ((partL l f k).length - 1) En.zero).key true := rfl
    rw [hstep]
    obtain ⟨p, hp⟩ : ∃ p : { x : List En // x ≠ [] }, p.1 = partL l f k := ⟨⟨_, hne⟩, rfl⟩
    rw [← hp] at hsum ⊢
    have hpl : 0 < p.1.length := List.length_pos_iff.2 p.2
    have hel3 := len_esum p.1
    have hpb := pairsP_bulk p.1
    clear hstep
    generalize hts : leavesB d l f k = t at *
    have hok := addB_ok (s := t) (low := true) (l := pairsP p.1) (lo := (p.1.getD 0 En.zero).key) (hi := (p.1.getD (p.1.length - 1) En.zero).key) (lim := true) hek
    have hbd := addB_bad (s := t) (low := true) (l := pairsP p.1) (lo := (p.1.getD 0 En.zero).key) (hi := (p.1.getD (p.1.length - 1) En.zero).key) (lim := true) hek
    simp only [cHp, Dc.cells]
    refine hr [_] _ 7 _ rfl rfl ?_
    intro b_
    refine AWT.rL ?_
    refine ⟨rfl, rfl, ?_⟩
    refine AWT.block ?_
    refine AWT.tGLC (C := addE t.d (nodeO true (pairsP p.1) ((p.1.getD 0 En.zero).key) ((p.1.getD (p.1.length - 1) En.zero).key) true) = 0) (σf := ?sf14) (.take 2 0 (.take 4 0 (.take 5 0 (.take 6 0 (.take 7 0 (.take 8 0 (.take 9 0 (.take 10 0 (.take 11 0 (.take 12 0 (.take 13 0 (.take 14 0 (.fork 0 (.fork 1 (.fork 3 (.fork 15 (.fork 16 (.fork 17 (.fork 18 .done .stop) .stop) .stop) .stop) .stop) (.fork 3 (.fork 1 (.fork 15 (.fork 16 (.fork 17 (.fork 18 .done .stop) .stop) .stop) .stop) .stop) .stop)) (.fork 1 (.fork 0 (.fork 3 (.fork 15 (.fork 16 (.fork 17 (.fork 18 .done .stop) .stop) .stop) .stop) .stop) (.fork 3 (.fork 0 (.fork 15 (.fork 16 (.fork 17 (.fork 18 .done .stop) .stop) .stop) .stop) (.fork 15 (.fork 0 (.fork 16 (.fork 17 (.fork 18 .done .stop) .stop) .stop) (.fork 16 (.fork 0 (.fork 17 (.fork 18 .done .stop) .stop) .stop) .stop)) .stop)) .stop)) (.fork 3 (.fork 0 (.fork 1 (.fork 15 (.fork 16 (.fork 17 (.fork 18 .done .stop) .stop) .stop) .stop) .stop) (.fork 1 (.fork 0 (.fork 15 (.fork 16 (.fork 17 (.fork 18 .done .stop) .stop) .stop) .stop) (.fork 15 (.fork 0 (.fork 16 (.fork 17 (.fork 18 .done .stop) .stop) .stop) (.fork 16 (.fork 0 (.fork 17 (.fork 18 .done .stop) .stop) .stop) .stop)) .stop)) .stop)) .stop))))))))))))))) ?tree14 ?rest14
    case tree14 =>
     refine awTree.tk ?_
     refine awTree.tk ?_
     refine awTree.tk ?_
     refine awTree.tk ?_
     refine awTree.tk ?_
     refine awTree.tk ?_
     refine awTree.tk ?_
     refine awTree.tk ?_
     refine awTree.tk ?_
     refine awTree.tk ?_
     refine awTree.tk ?_
     refine awTree.tk ?_
     refine awTree.fA ?_ ?_
     ·refine awTree.fA ?_ ?_
      ·refine awTree.fC (c_names_pairs _ p.1 (by omega)) ?_ trivial
       refine awTree.fKM 1 [1] (h_add_limC _ t.d true (pairsP p.1) ((p.1.getD 0 En.zero).key) ((p.1.getD (p.1.length - 1) En.zero).key) (by omega)) ?_ ?_ ?_
       ·intro hC n_ hn_
        refine wkR ?_
        exact .inr ⟨by rw [hbd hC]; exact hC, by rw [hbd hC], by omega⟩
       ·intro hC
        refine awTree.fA ?_ trivial
        refine awTree.fA ?_ trivial
        refine awTree.fA ?_ trivial
        exact awTree.dnC hC
       ·exact trivial
      ·refine awTree.fC (c_names_pairs _ p.1 (by omega)) ?_ trivial
       refine awTree.fA ?_ trivial
       refine awTree.fKM 1 [1] (h_add_limC _ t.d true (pairsP p.1) ((p.1.getD 0 En.zero).key) ((p.1.getD (p.1.length - 1) En.zero).key) (by omega)) ?_ ?_ ?_
       ·intro hC n_ hn_
        refine wkR ?_
        exact .inr ⟨by rw [hbd hC]; exact hC, by rw [hbd hC], by omega⟩
       ·intro hC
        refine awTree.fA ?_ trivial
        refine awTree.fA ?_ trivial
        refine awTree.fA ?_ trivial
        exact awTree.dnC hC
       ·exact trivial
     ·refine awTree.fA ?_ ?_
      ·refine awTree.fA ?_ ?_
       ·refine awTree.fC (c_names_pairs _ p.1 (by omega)) ?_ trivial
        refine awTree.fKM 1 [1] (h_add_limC _ t.d true (pairsP p.1) ((p.1.getD 0 En.zero).key) ((p.1.getD (p.1.length - 1) En.zero).key) (by omega)) ?_ ?_ ?_
        ·intro hC n_ hn_
         refine wkR ?_
         exact .inr ⟨by rw [hbd hC]; exact hC, by rw [hbd hC], by omega⟩
        ·intro hC
         refine awTree.fA ?_ trivial
         refine awTree.fA ?_ trivial
         refine awTree.fA ?_ trivial
         exact awTree.dnC hC
        ·exact trivial
       ·refine awTree.fC (c_names_pairs _ p.1 (by omega)) ?_ trivial
        refine awTree.fA ?_ ?_
        ·refine awTree.fKM 1 [1] (h_add_limC _ t.d true (pairsP p.1) ((p.1.getD 0 En.zero).key) ((p.1.getD (p.1.length - 1) En.zero).key) (by omega)) ?_ ?_ ?_
         ·intro hC n_ hn_
          refine wkR ?_
          exact .inr ⟨by rw [hbd hC]; exact hC, by rw [hbd hC], by omega⟩
         ·intro hC
          refine awTree.fA ?_ trivial
          refine awTree.fA ?_ trivial
          refine awTree.fA ?_ trivial
          exact awTree.dnC hC
         ·exact trivial
        ·refine awTree.fKM 1 [1] (h_add_limC _ t.d true (pairsP p.1) ((p.1.getD 0 En.zero).key) ((p.1.getD (p.1.length - 1) En.zero).key) (by omega)) ?_ ?_ ?_
         ·intro hC n_ hn_
          refine wkR ?_
          exact .inr ⟨by rw [hbd hC]; exact hC, by rw [hbd hC], by omega⟩
         ·intro hC
          refine awTree.fA ?_ ?_
          ·refine awTree.fA ?_ trivial
           refine awTree.fA ?_ trivial
           refine awTree.fA ?_ trivial
           exact awTree.dnC hC
          ·refine awTree.fA ?_ trivial
           refine awTree.fA ?_ trivial
           refine awTree.fA ?_ trivial
           refine awTree.fA ?_ trivial
           exact awTree.dnC hC
         ·exact trivial
      ·refine awTree.fC (c_names_pairs _ p.1 (by omega)) ?_ trivial
       refine awTree.fA ?_ ?_
       ·refine awTree.fA ?_ trivial
        refine awTree.fKM 1 [1] (h_add_limC _ t.d true (pairsP p.1) ((p.1.getD 0 En.zero).key) ((p.1.getD (p.1.length - 1) En.zero).key) (by omega)) ?_ ?_ ?_
        ·intro hC n_ hn_
         refine wkR ?_
         exact .inr ⟨by rw [hbd hC]; exact hC, by rw [hbd hC], by omega⟩
        ·intro hC
         refine awTree.fA ?_ trivial
         refine awTree.fA ?_ trivial
         refine awTree.fA ?_ trivial
         exact awTree.dnC hC
        ·exact trivial
       ·refine awTree.fA ?_ trivial
        refine awTree.fA ?_ ?_
        ·refine awTree.fKM 1 [1] (h_add_limC _ t.d true (pairsP p.1) ((p.1.getD 0 En.zero).key) ((p.1.getD (p.1.length - 1) En.zero).key) (by omega)) ?_ ?_ ?_
         ·intro hC n_ hn_
          refine wkR ?_
          exact .inr ⟨by rw [hbd hC]; exact hC, by rw [hbd hC], by omega⟩
         ·intro hC
          refine awTree.fA ?_ trivial
          refine awTree.fA ?_ trivial
          refine awTree.fA ?_ trivial
          exact awTree.dnC hC
         ·exact trivial
        ·refine awTree.fKM 1 [1] (h_add_limC _ t.d true (pairsP p.1) ((p.1.getD 0 En.zero).key) ((p.1.getD (p.1.length - 1) En.zero).key) (by omega)) ?_ ?_ ?_
         ·intro hC n_ hn_
          refine wkR ?_
          exact .inr ⟨by rw [hbd hC]; exact hC, by rw [hbd hC], by omega⟩
         ·intro hC
          refine awTree.fA ?_ ?_
          ·refine awTree.fA ?_ trivial
           refine awTree.fA ?_ trivial
           refine awTree.fA ?_ trivial
           exact awTree.dnC hC
          ·refine awTree.fA ?_ trivial
           refine awTree.fA ?_ trivial
           refine awTree.fA ?_ trivial
           refine awTree.fA ?_ trivial
           exact awTree.dnC hC
         ·exact trivial
    case rest14 =>
    intro hc
    rw [hok hc]
    simp only [andThen, unblock]
    refine rdU none [(0, .cells [.ptr 1 0]), (1, .cells [.sl (itemsAV (addO t.d (nodeO true (pairsP p.1) (p.1.getD 0 En.zero).key (p.1.getD (p.1.length - 1) En.zero).key true)).items), .int .i64 (addO t.d (nodeO true (pairsP p.1) (p.1.getD 0 En.zero).key (p.1.getD (p.1.length - 1) En.zero).key true)).trailer.kind, .int .i64 (addO t.d (nodeO true (pairsP p.1) (p.1.getD 0 En.zero).key (p.1.getD (p.1.length - 1) En.zero).key true)).trailer.num, .int .i64 (addO t.d (nodeO true (pairsP p.1) (p.1.getD 0 En.zero).key (p.1.getD (p.1.length - 1) En.zero).key true)).trailer.gen, .str (addO t.d (nodeO true (pairsP p.1) (p.1.getD 0 En.zero).key (p.1.getD (p.1.length - 1) En.zero).key true)).trailer.str, .sl (strsAV (addO t.d (nodeO true (pairsP p.1) (p.1.getD 0 En.zero).key (p.1.getD (p.1.length - 1) En.zero).key true)).trailer.keys), .sl (objsAV (addO t.d (nodeO true (pairsP p.1) (p.1.getD 0 En.zero).key (p.1.getD (p.1.length - 1) En.zero).key true)).trailer.kids)]), (2, .cells [.row 6 0 (t.row ++ [Gr.mk (addN t.d (nodeO true (pairsP p.1) (p.1.getD 0 En.zero).key (p.1.getD (p.1.length - 1) En.zero).key true)) (p.1.getD 0 En.zero).key (p.1.getD (p.1.length - 1) En.zero).key]).length]), (3, .cells [.sl (entsAV l)]), (4, .cells [.int .i64 (f : Int)]), (6, .row 3 (grsAV (t.row ++ [Gr.mk (addN t.d (nodeO true (pairsP p.1) (p.1.getD 0 En.zero).key (p.1.getD (p.1.length - 1) En.zero).key true)) (p.1.getD 0 En.zero).key (p.1.getD (p.1.length - 1) En.zero).key])) true), (5, .lp lq rb)] 7 (St.le.vx [0, 1, 2, 3, 4, 5, 8] (hpre := (by decide : ∀ i, i < 6 → nth [0, 1, 2, 3, 4, 5, 8] i = some i)) ?vE) ?rE
    case vE =>
     refine ⟨?_, ?_⟩
     ·first | rfl | simp
     ·rw [grsAV_append]
      rfl
    case rE => exact .inl ⟨by trivial, rfl, rfl, rfl⟩
   ·rcases hh with ⟨he, rfl, rfl, rfl⟩ | ⟨he, rfl, rfl, hn⟩
    ·exact .inl ⟨⟨_, rfl⟩, none, rfl, rfl, he, ⟨_, _, rfl⟩, rfl⟩
    ·exact .inr ⟨_, rfl, ⟨he, rfl⟩, hn⟩
  case hKp =>
   rintro x N hN ⟨he, rfl⟩
   simp only [andThen_pan, unblock_pan]
   refine panD ?_
   refine LeaveS.c1 [3] (d_face_pan _ _) ?_
   refine LeaveS.rt Tryz.results17 ?_
   obtain ⟨e1, e2, e3⟩ := hbad _ (by rw [climb_err he, top_err he]) he
   rw [e1, e2, e3]
   rfl
  case hK =>
   rintro j hp' nx' ⟨rfl, he, ⟨lq, rl, rfl⟩, rfl⟩
   simp only [cHp, Dc.cells]
   refine ⟨by simp only [go_sem, seval], ?_⟩
   simp only [andThen, unblock]
   generalize leavesB d l f (partsN l.length f) = s1 at *
   refine AWT.trim [2, 6, 7, 8, 10, 12] ?_
   refine AWT.seq ?_
   refine AWT.block ?_
   refine AWT.lk (S := { p : Nat × BS // p.2.err = 0 ∧ p.2.row.length ≤ p.1 ∧ climbB f l.length s1 = climbB f p.1 p.2 ∧ p.2.d.bulk + 30 * p.2.row.length ≤ 2400000 ∧ p.2.row.length ≤ 4096 ∧ numsOk p.2.row }) [2, 6, 7, 8, 10, 12] (fun s_ => []) (fun s_ => [(0, .cells [.sl (itemsAV d.items), .int .i64 d.trailer.kind, .int .i64 d.trailer.num, .int .i64 d.trailer.gen, .str d.trailer.str, .sl (strsAV d.trailer.keys), .sl (objsAV d.trailer.kids)]), (1, .cells [.raw (.slice none 0 0), .int .i64 0, .int .i64 0, .int .i64 0, .str [], .raw (.slice none 0 0), .raw (.slice none 0 0)]), (2, .cells [.int .i64 0, .int .i64 0, .int .i64 0, .str [], .raw (.slice none 0 0), .raw (.slice none 0 0)]), (3, .cells [.int .i64 0]), (4, .cells [.sl (itemsAV s_.1.2.d.items), .int .i64 s_.1.2.d.trailer.kind, .int .i64 s_.1.2.d.trailer.num, .int .i64 s_.1.2.d.trailer.gen, .str s_.1.2.d.trailer.str, .sl (strsAV s_.1.2.d.trailer.keys), .sl (objsAV s_.1.2.d.trailer.kids)]), (5, .cells [.ptr 4 0]), (6, .cells [.row 7 0 s_.1.2.row.length]), (7, .row 3 (grsAV s_.1.2.row) true)]) 8 (fun s_ => s_.1.2.row.length) ⟨(l.length, s1), he, by show s1.row.length ≤ l.length; omega, rfl, by show s1.d.bulk + 30 * s1.row.length ≤ 2400000; omega, by show s1.row.length ≤ 4096; omega, hns1⟩ ?_ ?_
   ·exact St.le.vw [0, 1, 2, 3, 4, 5, 6, 11] (hpre := (by decide : ∀ i, i < 0 → nth [0, 1, 2, 3, 4, 5, 6, 11] i = some i))
   rintro ⟨⟨k, s⟩, hse, hsk, hsc, hsb, hsl, hnum⟩
   try dsimp only at hse
   try dsimp only at hsk
   try dsimp only at hsc
   try dsimp only at hsb
   try dsimp only at hsl
   try dsimp only at hnum
   refine AWT.seq ?_
   refine AWT.rS ?_
   refine AWT.c2 ?_ ?_
   ·intro hG
    have hG2 : ¬ s.row.length ≤ f := by omega
    obtain ⟨k1, rfl⟩ : ∃ k1, k = k1 + 1 := ⟨k - 1, by omega⟩
    have hsc2 := climb_step (k := k1) hse hG2
    rw [hsc2] at hsc
    have hpn2 : partsN s.row.length f ≤ (s.row.length + 1) / 2 := parts_le hf2
    have hba := above_bulk s.d s.row f (partsN s.row.length f)
    have hta : (s.row.take (partsN s.row.length f * f)).length ≤ s.row.length := by rw [List.length_take]; exact Nat.min_le_right _ _
    have hla := above_len s.d s.row f (partsN s.row.length f)
    have hna := above_nums s.d s.row f (partsN s.row.length f)
    refine AWT.skip ?_
    refine AWT.block ?_
    refine AWT.rS ?_
    refine AWT.trim [2, 6, 7, 8, 10, 12, 14] ?_
    refine AWT.pre (St.le.nilcell 8 0 3 rfl rfl) ?_
    refine AWT.fz [7] ?_
    refine AWT.seq ?_
    refine AWT.rSC ?_
    refine OpsT.cs (awGuard.cH [] (h_chunk_G _ s.row f (by omega)) ?_)
    refine OpsT.rn ?_
    refine OpsT.nil ?_
    refine AWT.block ?_
    refine AWT.rP (f0 := 17) (fnc := Tryz.f17) rfl Tryz.func17 [5, 4, 8, 10, 11] [9] [(10, .ptr 0 0), (14, .ptr 2 0)] (fun j hp' nx' => j = none ∧ (aboveB s.d s.row f (partsN s.row.length f)).err = 0 ∧ (∃ lq rl, hp' = cHp (grsAV s.row) f (aboveB s.d s.row f (partsN s.row.length f)) (.lp lq rl)) ∧ nx' = 7) (Rp := fun x => (aboveB s.d s.row f (partsN s.row.length f)).err ≠ 0 ∧ x = .iface 105 (.int .i64 (aboveB s.d s.row f (partsN s.row.length f)).err)) (xs := [.ptr 3 0, .ptr 4 0]) (hp0 := [(0, .cells [.ptr 1 0]), (1, .cells [.sl (itemsAV s.d.items), .int .i64 s.d.trailer.kind, .int .i64 s.d.trailer.num, .int .i64 s.d.trailer.gen, .str s.d.trailer.str, .sl (strsAV s.d.trailer.keys), .sl (objsAV s.d.trailer.kids)]), (2, .cells [.row 6 0 (([] : List Gr)).length]), (3, .cells [.sl (grsAV s.row)]), (4, .cells [.int .i64 (f : Int)]), (6, .row 3 (grsAV (([] : List Gr))) true)]) ?hit ?hKp ?hK
    case hit =>
     intro Ω hΩ lq rb rc hr
     refine (chunk_G gl s.row f (aboveB s.d s.row f) lq rc hf2 hf16 (by omega) rfl (fun i h k hk => above_stop h k hk) (fun k hk hek => ?_)).mono (fun q hp nx hh => ?_)
     ·skip
      have hne := part_ne (l := s.row) (by omega) hk
      have hbk := above_bulk s.d s.row f k
      have hln := above_len s.d s.row f k
      have hsum : (s.row.take (k * f)).length + (partL s.row f k).length ≤ s.row.length := by rw [← List.length_append, ← take_part]; rw [List.length_take]; exact Nat.min_le_right _ _
      have hkp : k < partsN s.row.length f := (parts_more (by omega)).2 hk
      have hstep : aboveB s.d s.row f (k + 1) = addB (aboveB s.d s.row f k) false (refsP (partL s.row f k)) ((partL s.row f k).getD 0 Gr.zero).lo ((partL s.row f k).getD ((partL s.row f k).length - 1) Gr.zero).hi true := rfl
      rw [hstep]
      obtain ⟨p, hp⟩ : ∃ p : { x : List Gr // x ≠ [] }, p.1 = partL s.row f k := ⟨⟨_, hne⟩, rfl⟩
      rw [← hp] at hsum ⊢
      have hpl : 0 < p.1.length := List.length_pos_iff.2 p.2
      have hpnum : numsOk p.1 := fun g hg => hnum g (List.mem_of_mem_drop (List.mem_of_mem_take (by rw [hp] at hg; exact hg)))
      have hpb := refsP_bulk p.1
      clear hstep
      generalize hts : aboveB s.d s.row f k = t at *
      have hok := addB_ok (s := t) (low := false) (l := refsP p.1) (lo := (p.1.getD 0 Gr.zero).lo) (hi := (p.1.getD (p.1.length - 1) Gr.zero).hi) (lim := true) hek
      have hbd := addB_bad (s := t) (low := false) (l := refsP p.1) (lo := (p.1.getD 0 Gr.zero).lo) (hi := (p.1.getD (p.1.length - 1) Gr.zero).hi) (lim := true) hek
      simp only [cHp, Dc.cells]
      refine hr [_] _ 7 _ rfl rfl ?_
      intro b_
      refine AWT.rL ?_
      refine ⟨rfl, rfl, ?_⟩
      refine AWT.block ?_
      refine AWT.tGLC (C := addE t.d (nodeO false (refsP p.1) ((p.1.getD 0 Gr.zero).lo) ((p.1.getD (p.1.length - 1) Gr.zero).hi) true) = 0) (σf := ?sf19) (.take 2 0 (.take 4 0 (.take 5 0 (.take 6 0 (.take 7 0 (.take 8 0 (.take 9 0 (.take 10 0 (.take 11 0 (.take 12 0 (.take 13 0 (.take 14 0 (.fork 0 (.fork 1 (.fork 3 (.fork 15 (.fork 16 (.fork 17 (.fork 18 .done .stop) .stop) .stop) .stop) .stop) (.fork 3 (.fork 1 (.fork 15 (.fork 16 (.fork 17 (.fork 18 .done .stop) .stop) .stop) .stop) .stop) .stop)) (.fork 1 (.fork 0 (.fork 3 (.fork 15 (.fork 16 (.fork 17 (.fork 18 .done .stop) .stop) .stop) .stop) .stop) (.fork 3 (.fork 0 (.fork 15 (.fork 16 (.fork 17 (.fork 18 .done .stop) .stop) .stop) .stop) (.fork 15 (.fork 0 (.fork 16 (.fork 17 (.fork 18 .done .stop) .stop) .stop) (.fork 16 (.fork 0 (.fork 17 (.fork 18 .done .stop) .stop) .stop) .stop)) .stop)) .stop)) (.fork 3 (.fork 0 (.fork 1 (.fork 15 (.fork 16 (.fork 17 (.fork 18 .done .stop) .stop) .stop) .stop) .stop) (.fork 1 (.fork 0 (.fork 15 (.fork 16 (.fork 17 (.fork 18 .done .stop) .stop) .stop) .stop) (.fork 15 (.fork 0 (.fork 16 (.fork 17 (.fork 18 .done .stop) .stop) .stop) (.fork 16 (.fork 0 (.fork 17 (.fork 18 .done .stop) .stop) .stop) .stop)) .stop)) .stop)) .stop))))))))))))))) ?tree19 ?rest19
      case tree19 =>
       refine awTree.tk ?_
       refine awTree.tk ?_
       refine awTree.tk ?_
       refine awTree.tk ?_
       refine awTree.tk ?_
       refine awTree.tk ?_
       refine awTree.tk ?_
       refine awTree.tk ?_
       refine awTree.tk ?_
       refine awTree.tk ?_
       refine awTree.tk ?_
       refine awTree.tk ?_
       refine awTree.fA ?_ ?_
       ·refine awTree.fA ?_ ?_
        ·refine awTree.fC (c_names_refs _ p.1 (by omega) hpnum) ?_ trivial
         refine awTree.fKM 1 [1] (h_add_limC _ t.d false (refsP p.1) ((p.1.getD 0 Gr.zero).lo) ((p.1.getD (p.1.length - 1) Gr.zero).hi) (by omega)) ?_ ?_ ?_
         ·intro hC n_ hn_
          refine wkR ?_
          exact .inr ⟨by rw [hbd hC]; exact hC, by rw [hbd hC], by omega⟩
         ·intro hC
          refine awTree.fA ?_ trivial
          refine awTree.fA ?_ trivial
          refine awTree.fA ?_ trivial
          exact awTree.dnC hC
         ·exact trivial
        ·refine awTree.fC (c_names_refs _ p.1 (by omega) hpnum) ?_ trivial
         refine awTree.fA ?_ trivial
         refine awTree.fKM 1 [1] (h_add_limC _ t.d false (refsP p.1) ((p.1.getD 0 Gr.zero).lo) ((p.1.getD (p.1.length - 1) Gr.zero).hi) (by omega)) ?_ ?_ ?_
         ·intro hC n_ hn_
          refine wkR ?_
          exact .inr ⟨by rw [hbd hC]; exact hC, by rw [hbd hC], by omega⟩
         ·intro hC
          refine awTree.fA ?_ trivial
          refine awTree.fA ?_ trivial
          refine awTree.fA ?_ trivial
          exact awTree.dnC hC
         ·exact trivial
       ·refine awTree.fA ?_ ?_
        ·refine awTree.fA ?_ ?_
         ·refine awTree.fC (c_names_refs _ p.1 (by omega) hpnum) ?_ trivial
          refine awTree.fKM 1 [1] (h_add_limC _ t.d false (refsP p.1) ((p.1.getD 0 Gr.zero).lo) ((p.1.getD (p.1.length - 1) Gr.zero).hi) (by omega)) ?_ ?_ ?_
          ·intro hC n_ hn_
           refine wkR ?_
           exact .inr ⟨by rw [hbd hC]; exact hC, by rw [hbd hC], by omega⟩
          ·intro hC
           refine awTree.fA ?_ trivial
           refine awTree.fA ?_ trivial
           refine awTree.fA ?_ trivial
           exact awTree.dnC hC
          ·exact trivial
         ·refine awTree.fC (c_names_refs _ p.1 (by omega) hpnum) ?_ trivial
          refine awTree.fA ?_ ?_
          ·refine awTree.fKM 1 [1] (h_add_limC _ t.d false (refsP p.1) ((p.1.getD 0 Gr.zero).lo) ((p.1.getD (p.1.length - 1) Gr.zero).hi) (by omega)) ?_ ?_ ?_
           ·intro hC n_ hn_
            refine wkR ?_
            exact .inr ⟨by rw [hbd hC]; exact hC, by rw [hbd hC], by omega⟩
           ·intro hC
            refine awTree.fA ?_ trivial
            refine awTree.fA ?_ trivial
            refine awTree.fA ?_ trivial
            exact awTree.dnC hC
           ·exact trivial
          ·refine awTree.fKM 1 [1] (h_add_limC _ t.d false (refsP p.1) ((p.1.getD 0 Gr.zero).lo) ((p.1.getD (p.1.length - 1) Gr.zero).hi) (by omega)) ?_ ?_ ?_
           ·intro hC n_ hn_
            refine wkR ?_
            exact .inr ⟨by rw [hbd hC]; exact hC, by rw [hbd hC], by omega⟩
           ·intro hC
            refine awTree.fA ?_ ?_
            ·refine awTree.fA ?_ trivial
             refine awTree.fA ?_ trivial
             refine awTree.fA ?_ trivial
             exact awTree.dnC hC
            ·refine awTree.fA ?_ trivial
             refine awTree.fA ?_ trivial
             refine awTree.fA ?_ trivial
             refine awTree.fA ?_ trivial
             exact awTree.dnC hC
           ·exact trivial
        ·refine awTree.fC (c_names_refs _ p.1 (by omega) hpnum) ?_ trivial
         refine awTree.fA ?_ ?_
         ·refine awTree.fA ?_ trivial
          refine awTree.fKM 1 [1] (h_add_limC _ t.d false (refsP p.1) ((p.1.getD 0 Gr.zero).lo) ((p.1.getD (p.1.length - 1) Gr.zero).hi) (by omega)) ?_ ?_ ?_
          ·intro hC n_ hn_
           refine wkR ?_
           exact .inr ⟨by rw [hbd hC]; exact hC, by rw [hbd hC], by omega⟩
          ·intro hC
           refine awTree.fA ?_ trivial
           refine awTree.fA ?_ trivial
           refine awTree.fA ?_ trivial
           exact awTree.dnC hC
          ·exact trivial
         ·refine awTree.fA ?_ trivial
          refine awTree.fA ?_ ?_
          ·refine awTree.fKM 1 [1] (h_add_limC _ t.d false (refsP p.1) ((p.1.getD 0 Gr.zero).lo) ((p.1.getD (p.1.length - 1) Gr.zero).hi) (by omega)) ?_ ?_ ?_
           ·intro hC n_ hn_
            refine wkR ?_
            exact .inr ⟨by rw [hbd hC]; exact hC, by rw [hbd hC], by omega⟩
           ·intro hC
            refine awTree.fA ?_ trivial
            refine awTree.fA ?_ trivial
            refine awTree.fA ?_ trivial
            exact awTree.dnC hC
           ·exact trivial
          ·refine awTree.fKM 1 [1] (h_add_limC _ t.d false (refsP p.1) ((p.1.getD 0 Gr.zero).lo) ((p.1.getD (p.1.length - 1) Gr.zero).hi) (by omega)) ?_ ?_ ?_
           ·intro hC n_ hn_
            refine wkR ?_
            exact .inr ⟨by rw [hbd hC]; exact hC, by rw [hbd hC], by omega⟩
           ·intro hC
            refine awTree.fA ?_ ?_
            ·refine awTree.fA ?_ trivial
             refine awTree.fA ?_ trivial
             refine awTree.fA ?_ trivial
             exact awTree.dnC hC
            ·refine awTree.fA ?_ trivial
             refine awTree.fA ?_ trivial
             refine awTree.fA ?_ trivial
             refine awTree.fA ?_ trivial
             exact awTree.dnC hC
           ·exact trivial
      case rest19 =>
      intro hc
      rw [hok hc]
      simp only [andThen, unblock]
      refine rdU none [(0, .cells [.ptr 1 0]), (1, .cells [.sl (itemsAV (addO t.d (nodeO false (refsP p.1) (p.1.getD 0 Gr.zero).lo (p.1.getD (p.1.length - 1) Gr.zero).hi true)).items), .int .i64 (addO t.d (nodeO false (refsP p.1) (p.1.getD 0 Gr.zero).lo (p.1.getD (p.1.length - 1) Gr.zero).hi true)).trailer.kind, .int .i64 (addO t.d (nodeO false (refsP p.1) (p.1.getD 0 Gr.zero).lo (p.1.getD (p.1.length - 1) Gr.zero).hi true)).trailer.num, .int .i64 (addO t.d (nodeO false (refsP p.1) (p.1.getD 0 Gr.zero).lo (p.1.getD (p.1.length - 1) Gr.zero).hi true)).trailer.gen, .str (addO t.d (nodeO false (refsP p.1) (p.1.getD 0 Gr.zero).lo (p.1.getD (p.1.length - 1) Gr.zero).hi true)).trailer.str, .sl (strsAV (addO t.d (nodeO false (refsP p.1) (p.1.getD 0 Gr.zero).lo (p.1.getD (p.1.length - 1) Gr.zero).hi true)).trailer.keys), .sl (objsAV (addO t.d (nodeO false (refsP p.1) (p.1.getD 0 Gr.zero).lo (p.1.getD (p.1.length - 1) Gr.zero).hi true)).trailer.kids)]), (2, .cells [.row 6 0 (t.row ++ [Gr.mk (addN t.d (nodeO false (refsP p.1) (p.1.getD 0 Gr.zero).lo (p.1.getD (p.1.length - 1) Gr.zero).hi true)) (p.1.getD 0 Gr.zero).lo (p.1.getD (p.1.length - 1) Gr.zero).hi]).length]), (3, .cells [.sl (grsAV s.row)]), (4, .cells [.int .i64 (f : Int)]), (6, .row 3 (grsAV (t.row ++ [Gr.mk (addN t.d (nodeO false (refsP p.1) (p.1.getD 0 Gr.zero).lo (p.1.getD (p.1.length - 1) Gr.zero).hi true)) (p.1.getD 0 Gr.zero).lo (p.1.getD (p.1.length - 1) Gr.zero).hi])) true), (5, .lp lq rb)] 7 (St.le.vx [0, 1, 2, 3, 4, 5, 8] (hpre := (by decide : ∀ i, i < 6 → nth [0, 1, 2, 3, 4, 5, 8] i = some i)) ?vG) ?rG
      case vG =>
       refine ⟨?_, ?_⟩
       ·first | rfl | simp
       ·rw [grsAV_append]
        rfl
      case rG => exact .inl ⟨by trivial, rfl, rfl, rfl⟩
     ·rcases hh with ⟨he, rfl, rfl, rfl⟩ | ⟨he, rfl, rfl, hn⟩
      ·exact .inl ⟨⟨_, rfl⟩, none, rfl, rfl, he, ⟨_, _, rfl⟩, rfl⟩
      ·exact .inr ⟨_, rfl, ⟨he, rfl⟩, hn⟩
    case hKp =>
     rintro x N hN ⟨he, rfl⟩
     simp only [andThen_pan, unblock_pan]
     refine panD ?_
     refine LeaveS.c1 [3] (d_face_pan _ _) ?_
     refine LeaveS.rt Tryz.results17 ?_
     obtain ⟨e1, e2, e3⟩ := hbad _ (by rw [hsc, climb_err he, top_err he]) he
     rw [e1, e2, e3]
     rfl
    case hK =>
     rintro j hp' nx' ⟨rfl, hea, ⟨lq, rl, rfl⟩, rfl⟩
     simp only [cHp, Dc.cells]
     refine ⟨by simp only [go_sem, seval], ?_⟩
     simp only [andThen, unblock]
     refine AWT.trim [2, 6, 7, 8, 10, 12, 14] ?_
     refine AWT.rL ?_
     refine ⟨⟨(k1, aboveB s.d s.row f (partsN s.row.length f)), hea, ?_, hsc, ?_, ?_, hna⟩, ?_, ?_⟩
     ·show (aboveB s.d s.row f (partsN s.row.length f)).row.length ≤ k1; omega
     ·show (aboveB s.d s.row f (partsN s.row.length f)).d.bulk + 30 * (aboveB s.d s.row f (partsN s.row.length f)).row.length ≤ 2400000; omega
     ·show (aboveB s.d s.row f (partsN s.row.length f)).row.length ≤ 4096; omega
     ·exact St.le.vw [0, 1, 2, 3, 4, 5, 6, 13] (hpre := (by decide : ∀ i, i < 0 → nth [0, 1, 2, 3, 4, 5, 6, 13] i = some i))
     ·show (aboveB s.d s.row f (partsN s.row.length f)).row.length < s.row.length; omega
   ·intro hG
    have hG2 : s.row.length ≤ f := by omega
    rw [climb_low hG2] at hsc
    rw [hsc, top_ok hse] at hbad hgood
    have hrb := refsP_bulk s.row
    have hb21 : ¬ addE s.d (nodeO false (refsP s.row) [] [] false) = 0 → makeE d l (f : Int) = addE s.d (nodeO false (refsP s.row) [] [] false) ∧ makeD d l (f : Int) = Dc.zero ∧ makeO d l (f : Int) = Pob.null := fun hC => hbad _ (addB_bad (s := ⟨0, s.d, []⟩) rfl hC) hC
    refine AWT.exit ?_
    simp only [andThen, unblock, if_true]
    refine AWT.trim [6, 7, 8, 10, 12] ?_
    refine AWT.fz [7] ?_
    refine AWT.tVE (E0 := [(6, .ptr 1 0), (7, .ptr 2 0), (8, .ptr 3 0)]) (C := addE s.d (nodeO false (refsP s.row) [] [] false) = 0) (σ1 := ⟨111, [(6, .ptr 1 0), (7, .ptr 2 0), (8, .ptr 3 0), (10, .ptr 5 0), (16, .ptr 6 0)], [(0, .cells [.sl (itemsAV d.items), .int .i64 d.trailer.kind, .int .i64 d.trailer.num, .int .i64 d.trailer.gen, .str d.trailer.str, .sl (strsAV d.trailer.keys), .sl (objsAV d.trailer.kids)]), (1, .cells [.raw (.slice none 0 0), .int .i64 0, .int .i64 0, .int .i64 0, .str [], .raw (.slice none 0 0), .raw (.slice none 0 0)]), (2, .cells [.int .i64 0, .int .i64 0, .int .i64 0, .str [], .raw (.slice none 0 0), .raw (.slice none 0 0)]), (3, .cells [.int .i64 0]), (4, .cells [.sl (itemsAV (addO s.d (nodeO false (refsP s.row) [] [] false)).items), .int .i64 (addO s.d (nodeO false (refsP s.row) [] [] false)).trailer.kind, .int .i64 (addO s.d (nodeO false (refsP s.row) [] [] false)).trailer.num, .int .i64 (addO s.d (nodeO false (refsP s.row) [] [] false)).trailer.gen, .str (addO s.d (nodeO false (refsP s.row) [] [] false)).trailer.str, .sl (strsAV (addO s.d (nodeO false (refsP s.row) [] [] false)).trailer.keys), .sl (objsAV (addO s.d (nodeO false (refsP s.row) [] [] false)).trailer.kids)]), (5, .cells [.ptr 4 0]), (6, .cells [.int .i64 (addN s.d (nodeO false (refsP s.row) [] [] false)), .str [], .str []])], 7, gl, 0, [(26, [.ptr 3 0])]⟩) (.fork 0 (.fork 1 (.fork 2 (.fork 3 (.fork 4 (.fork 5 .done .stop) .stop) (.fork 4 (.fork 3 (.fork 5 .done .stop) .stop) .stop)) (.fork 4 (.fork 2 (.fork 3 (.fork 5 .done .stop) .stop) .stop) .stop)) (.fork 4 (.fork 1 (.fork 2 (.fork 3 (.fork 5 .done .stop) .stop) .stop) .stop) .stop)) (.fork 1 (.fork 0 (.fork 2 (.fork 3 (.fork 4 (.fork 5 .done .stop) .stop) (.fork 4 (.fork 3 (.fork 5 .done .stop) .stop) .stop)) (.fork 4 (.fork 2 (.fork 3 (.fork 5 .done .stop) .stop) .stop) .stop)) (.fork 2 (.fork 0 (.fork 3 (.fork 4 (.fork 5 .done .stop) .stop) (.fork 4 (.fork 3 (.fork 5 .done .stop) .stop) .stop)) (.fork 4 (.fork 0 (.fork 3 (.fork 5 .done .stop) .stop) .stop) .stop)) (.fork 4 (.fork 0 (.fork 2 (.fork 3 (.fork 5 .done .stop) .stop) .stop) (.fork 2 (.fork 0 (.fork 3 (.fork 5 .done .stop) .stop) .stop) .stop)) .stop))) (.fork 4 (.fork 0 (.fork 1 (.fork 2 (.fork 3 (.fork 5 .done .stop) .stop) .stop) .stop) (.fork 1 (.fork 0 (.fork 2 (.fork 3 (.fork 5 .done .stop) .stop) .stop) (.fork 2 (.fork 0 (.fork 3 (.fork 5 .done .stop) .stop) .stop) .stop)) .stop)) .stop))) ?tree21 ?rest21
    case tree21 =>
     refine awTree.fA ?_ ?_
     ·refine awTree.fA ?_ ?_
      ·refine awTree.fC (c_names_refs _ s.row (by omega) hnum) ?_ ?_
       ·refine awTree.fKM 1 [4] (h_add_bareC _ s.d false (refsP s.row) [] [] (by omega)) ?_ ?_ ?_
        ·intro hC n_ hn_
         simp only [andThen_pan, unblock_pan, withE_pan]
         refine panD ?_
         refine LeaveS.c1 [3] (d_face_pan _ _) ?_
         refine LeaveS.rt Tryz.results17 ?_
         obtain ⟨e1, e2, e3⟩ := hb21 hC
         rw [e1, e2, e3]
         rfl
        ·intro hC
         refine awTree.fA ?_ trivial
         refine awTree.fA ?_ trivial
         exact awTree.dnV hC (St.le.vw [0, 1, 2, 3, 4, 5, 8])
        ·refine awTree.fA ?_ trivial
         refine awTree.fKM 1 [4] (h_add_bareC _ s.d false (refsP s.row) [] [] (by omega)) ?_ ?_ ?_
         ·intro hC n_ hn_
          simp only [andThen_pan, unblock_pan, withE_pan]
          refine panD ?_
          refine LeaveS.c1 [3] (d_face_pan _ _) ?_
          refine LeaveS.rt Tryz.results17 ?_
          obtain ⟨e1, e2, e3⟩ := hb21 hC
          rw [e1, e2, e3]
          rfl
         ·intro hC
          refine awTree.fA ?_ trivial
          exact awTree.dnV hC (St.le.vw [0, 1, 2, 3, 4, 5, 8])
         ·exact trivial
       ·refine awTree.fA ?_ trivial
        refine awTree.fC (c_names_refs _ s.row (by omega) hnum) ?_ trivial
        refine awTree.fKM 1 [4] (h_add_bareC _ s.d false (refsP s.row) [] [] (by omega)) ?_ ?_ ?_
        ·intro hC n_ hn_
         simp only [andThen_pan, unblock_pan, withE_pan]
         refine panD ?_
         refine LeaveS.c1 [3] (d_face_pan _ _) ?_
         refine LeaveS.rt Tryz.results17 ?_
         obtain ⟨e1, e2, e3⟩ := hb21 hC
         rw [e1, e2, e3]
         rfl
        ·intro hC
         refine awTree.fA ?_ trivial
         exact awTree.dnV hC (St.le.vw [0, 1, 2, 3, 4, 5, 8])
        ·exact trivial
      ·refine awTree.fA ?_ trivial
       refine awTree.fA ?_ trivial
       refine awTree.fC (c_names_refs _ s.row (by omega) hnum) ?_ trivial
       refine awTree.fKM 1 [4] (h_add_bareC _ s.d false (refsP s.row) [] [] (by omega)) ?_ ?_ ?_
       ·intro hC n_ hn_
        simp only [andThen_pan, unblock_pan, withE_pan]
        refine panD ?_
        refine LeaveS.c1 [3] (d_face_pan _ _) ?_
        refine LeaveS.rt Tryz.results17 ?_
        obtain ⟨e1, e2, e3⟩ := hb21 hC
        rw [e1, e2, e3]
        rfl
       ·intro hC
        refine awTree.fA ?_ trivial
        exact awTree.dnV hC (St.le.vw [0, 1, 2, 3, 4, 5, 8])
       ·exact trivial
     ·refine awTree.fA ?_ ?_
      ·refine awTree.fA ?_ ?_
       ·refine awTree.fC (c_names_refs _ s.row (by omega) hnum) ?_ ?_
        ·refine awTree.fKM 1 [4] (h_add_bareC _ s.d false (refsP s.row) [] [] (by omega)) ?_ ?_ ?_
         ·intro hC n_ hn_
          simp only [andThen_pan, unblock_pan, withE_pan]
          refine panD ?_
          refine LeaveS.c1 [3] (d_face_pan _ _) ?_
          refine LeaveS.rt Tryz.results17 ?_
          obtain ⟨e1, e2, e3⟩ := hb21 hC
          rw [e1, e2, e3]
          rfl
         ·intro hC
          refine awTree.fA ?_ trivial
          refine awTree.fA ?_ trivial
          exact awTree.dnV hC (St.le.vw [0, 1, 2, 3, 4, 5, 8])
         ·refine awTree.fA ?_ trivial
          refine awTree.fKM 1 [4] (h_add_bareC _ s.d false (refsP s.row) [] [] (by omega)) ?_ ?_ ?_
          ·intro hC n_ hn_
           simp only [andThen_pan, unblock_pan, withE_pan]
           refine panD ?_
           refine LeaveS.c1 [3] (d_face_pan _ _) ?_
           refine LeaveS.rt Tryz.results17 ?_
           obtain ⟨e1, e2, e3⟩ := hb21 hC
           rw [e1, e2, e3]
           rfl
          ·intro hC
           refine awTree.fA ?_ trivial
           exact awTree.dnV hC (St.le.vw [0, 1, 2, 3, 4, 5, 8])
          ·exact trivial
        ·refine awTree.fA ?_ trivial
         refine awTree.fC (c_names_refs _ s.row (by omega) hnum) ?_ trivial
         refine awTree.fKM 1 [4] (h_add_bareC _ s.d false (refsP s.row) [] [] (by omega)) ?_ ?_ ?_
         ·intro hC n_ hn_
          simp only [andThen_pan, unblock_pan, withE_pan]
          refine panD ?_
          refine LeaveS.c1 [3] (d_face_pan _ _) ?_
          refine LeaveS.rt Tryz.results17 ?_
          obtain ⟨e1, e2, e3⟩ := hb21 hC
          rw [e1, e2, e3]
          rfl
         ·intro hC
          refine awTree.fA ?_ trivial
          exact awTree.dnV hC (St.le.vw [0, 1, 2, 3, 4, 5, 8])
         ·exact trivial
       ·refine awTree.fC (c_names_refs _ s.row (by omega) hnum) ?_ ?_
        ·refine awTree.fA ?_ ?_
         ·refine awTree.fKM 1 [4] (h_add_bareC _ s.d false (refsP s.row) [] [] (by omega)) ?_ ?_ ?_
          ·intro hC n_ hn_
           simp only [andThen_pan, unblock_pan, withE_pan]
           refine panD ?_
           refine LeaveS.c1 [3] (d_face_pan _ _) ?_
           refine LeaveS.rt Tryz.results17 ?_
           obtain ⟨e1, e2, e3⟩ := hb21 hC
           rw [e1, e2, e3]
           rfl
          ·intro hC
           refine awTree.fA ?_ trivial
           refine awTree.fA ?_ trivial
           exact awTree.dnV hC (St.le.vw [0, 1, 2, 3, 4, 5, 8])
          ·refine awTree.fA ?_ trivial
           refine awTree.fKM 1 [4] (h_add_bareC _ s.d false (refsP s.row) [] [] (by omega)) ?_ ?_ ?_
           ·intro hC n_ hn_
            simp only [andThen_pan, unblock_pan, withE_pan]
            refine panD ?_
            refine LeaveS.c1 [3] (d_face_pan _ _) ?_
            refine LeaveS.rt Tryz.results17 ?_
            obtain ⟨e1, e2, e3⟩ := hb21 hC
            rw [e1, e2, e3]
            rfl
           ·intro hC
            refine awTree.fA ?_ trivial
            exact awTree.dnV hC (St.le.vw [0, 1, 2, 3, 4, 5, 8])
           ·exact trivial
         ·refine awTree.fA ?_ trivial
          refine awTree.fA ?_ trivial
          refine awTree.fKM 1 [4] (h_add_bareC _ s.d false (refsP s.row) [] [] (by omega)) ?_ ?_ ?_
          ·intro hC n_ hn_
           simp only [andThen_pan, unblock_pan, withE_pan]
           refine panD ?_
           refine LeaveS.c1 [3] (d_face_pan _ _) ?_
           refine LeaveS.rt Tryz.results17 ?_
           obtain ⟨e1, e2, e3⟩ := hb21 hC
           rw [e1, e2, e3]
           rfl
          ·intro hC
           refine awTree.fA ?_ trivial
           exact awTree.dnV hC (St.le.vw [0, 1, 2, 3, 4, 5, 8])
          ·exact trivial
        ·refine awTree.fA ?_ trivial
         refine awTree.fA ?_ ?_
         ·refine awTree.fC (c_names_refs _ s.row (by omega) hnum) ?_ trivial
          refine awTree.fKM 1 [4] (h_add_bareC _ s.d false (refsP s.row) [] [] (by omega)) ?_ ?_ ?_
          ·intro hC n_ hn_
           simp only [andThen_pan, unblock_pan, withE_pan]
           refine panD ?_
           refine LeaveS.c1 [3] (d_face_pan _ _) ?_
           refine LeaveS.rt Tryz.results17 ?_
           obtain ⟨e1, e2, e3⟩ := hb21 hC
           rw [e1, e2, e3]
           rfl
          ·intro hC
           refine awTree.fA ?_ trivial
           exact awTree.dnV hC (St.le.vw [0, 1, 2, 3, 4, 5, 8])
          ·exact trivial
         ·refine awTree.fC (c_names_refs _ s.row (by omega) hnum) ?_ trivial
          refine awTree.fA ?_ trivial
          refine awTree.fKM 1 [4] (h_add_bareC _ s.d false (refsP s.row) [] [] (by omega)) ?_ ?_ ?_
          ·intro hC n_ hn_
           simp only [andThen_pan, unblock_pan, withE_pan]
           refine panD ?_
           refine LeaveS.c1 [3] (d_face_pan _ _) ?_
           refine LeaveS.rt Tryz.results17 ?_
           obtain ⟨e1, e2, e3⟩ := hb21 hC
           rw [e1, e2, e3]
           rfl
          ·intro hC
           refine awTree.fA ?_ trivial
           exact awTree.dnV hC (St.le.vw [0, 1, 2, 3, 4, 5, 8])
          ·exact trivial
      ·refine awTree.fA ?_ trivial
       refine awTree.fA ?_ ?_
       ·refine awTree.fA ?_ trivial
        refine awTree.fC (c_names_refs _ s.row (by omega) hnum) ?_ trivial
        refine awTree.fKM 1 [4] (h_add_bareC _ s.d false (refsP s.row) [] [] (by omega)) ?_ ?_ ?_
        ·intro hC n_ hn_
         simp only [andThen_pan, unblock_pan, withE_pan]
         refine panD ?_
         refine LeaveS.c1 [3] (d_face_pan _ _) ?_
         refine LeaveS.rt Tryz.results17 ?_
         obtain ⟨e1, e2, e3⟩ := hb21 hC
         rw [e1, e2, e3]
         rfl
        ·intro hC
         refine awTree.fA ?_ trivial
         exact awTree.dnV hC (St.le.vw [0, 1, 2, 3, 4, 5, 8])
        ·exact trivial
       ·refine awTree.fA ?_ trivial
        refine awTree.fA ?_ ?_
        ·refine awTree.fC (c_names_refs _ s.row (by omega) hnum) ?_ trivial
         refine awTree.fKM 1 [4] (h_add_bareC _ s.d false (refsP s.row) [] [] (by omega)) ?_ ?_ ?_
         ·intro hC n_ hn_
          simp only [andThen_pan, unblock_pan, withE_pan]
          refine panD ?_
          refine LeaveS.c1 [3] (d_face_pan _ _) ?_
          refine LeaveS.rt Tryz.results17 ?_
          obtain ⟨e1, e2, e3⟩ := hb21 hC
          rw [e1, e2, e3]
          rfl
         ·intro hC
          refine awTree.fA ?_ trivial
          exact awTree.dnV hC (St.le.vw [0, 1, 2, 3, 4, 5, 8])
         ·exact trivial
        ·refine awTree.fC (c_names_refs _ s.row (by omega) hnum) ?_ trivial
         refine awTree.fA ?_ trivial
         refine awTree.fKM 1 [4] (h_add_bareC _ s.d false (refsP s.row) [] [] (by omega)) ?_ ?_ ?_
         ·intro hC n_ hn_
          simp only [andThen_pan, unblock_pan, withE_pan]
          refine panD ?_
          refine LeaveS.c1 [3] (d_face_pan _ _) ?_
          refine LeaveS.rt Tryz.results17 ?_
          obtain ⟨e1, e2, e3⟩ := hb21 hC
          rw [e1, e2, e3]
          rfl
         ·intro hC
          refine awTree.fA ?_ trivial
          exact awTree.dnV hC (St.le.vw [0, 1, 2, 3, 4, 5, 8])
         ·exact trivial
    case rest21 =>
    intro hH
    have hb := addB_ok (s := ⟨0, s.d, []⟩) (low := false) (l := refsP s.row) (lo := []) (hi := []) (lim := false) rfl hH
    obtain ⟨e1, e2, e3⟩ := hgood (by rw [hb])
    rw [hb] at e2 e3
    refine AWT.noPan ?_
    refine AWT.fS [0, 1, 2, 3, 4, 5, 6] [(7, 2), (8, 2), (9, 2)] ?_ (hQ := by repeat (first | exact Aw.PI.noPan | refine Aw.PI.unblock ?_ | refine Aw.PI.andThen ?_))
    refine awFun.rn ?_
    refine awFun.c1 [109] (c_value_Ref _ (addN s.d (nodeO false (refsP s.row) [] [] false)) 0 (by have := addN_range s.d (nodeO false (refsP s.row) [] [] false); omega)) ?_
    refine awFun.rn ?_
    rw [Aw.awFun_nil]
    refine awPlan.rn ?_
    refine AWT.ret ?_
    simp only [andThen_ret, unblock_ret, noPan_ret, finD_ret]
    refine LeaveS.c1 [3] (d_face_ret _ _) ?_
    refine LeaveS.rt Tryz.results17 ?_
    rw [e1, e2, e3]
    rfl
end Go.Proofs

namespace Go.Proofs
open Go Aw
set_option linter.unusedSimpArgs false
set_option linter.unusedVariables false
set_option maxRecDepth 100000
set_option maxHeartbeats 4000000
attribute [local go_sem] En.cells entsAV_ok entsAV_length entsAV_len7 entsAV_at entsAV_next0 entsAV_next1 entsAV_atl entsAV_atr entsAV_take entsAV_drop entsAV_lit entsAV_end List.take_length List.length_take List.length_drop
theorem h_Ins_ent' (gl : List (Nat × AV)) (l : List En) (o : En) (i : Nat) (hi : i ≤ l.length) (hl : l.length ≤ 16777216 := by omega) : FnH Tryz.prog gl 57 [.row 0 0 l.length, .int .i64 i, .row 1 0 1]
  [(0, .row 7 (entsAV l) true), (1, .row 7 (entsAV [o]) true)] 2 fun r h n => r = .ret (.row 2 0 (l.length + 1)) ∧ h = [(1, .row 7 (entsAV [o]) true), (2, .row 7 (entsAV (insAt l i o)) true)] ∧ n = 3 := h_Ins_ent gl l o i hi hl
theorem c_names_Set (gl : List (Nat × AV)) (l : List En) (key : List UInt8) (v : Pob) (h : ebulk l + v.bulk ≤ 16777000) : FnP Tryz.prog (gl) 21 [.sl (entsAV l), .str key, .agg v.cells] fun r => r = .ret (.sl (entsAV (setN l key v))) := by
 refine FnP.intro Tryz.func21 rfl rfl (by simp [Tryz.ntmps21]) ?_
 simp only [argEnv, Tryz.ntmps21, Tryz.results21]
 have hlen := ebulk_len l
 refine AW.rS ?_
 refine AW.trim [0, 4, 5] ?_
 refine AW.rSC ?_
 refine awOps.cons (awGuard.cH [] (h_Clone_Entry _ l (by omega)) ?_)
 refine awOps.rn ?_
 refine AW.trim [0, 4, 5, 7] ?_
 refine AW.eS [0, 1, 2, 3] 4 [(5, 2)] ?_
 refine awFunE.p ?_
 refine awFunE.p ?_
 refine awFunE.c1 [14] (c_value_Clone _ v (by omega)) ?_
 refine awFunE.ef [13, 15] ?_
 rw [Aw.awFunE_nil]
 refine awPlan.rn ?_
 refine AW.trim [0, 4, 7, 8] ?_
 refine AW.seq ?_
 refine AW.rSC ?_
 refine awOps.cons (awGuard.c1 (c_IndexFunc_Set1 _ l key (by omega)) ?_)
 refine awOps.rn ?_
 refine AW.trim [0, 4, 7, 8, 9] ?_
 by_cases hs16 : eidx l key < l.length
 ·skip
  rw [show eidxI l key = (eidx l key : Int) from if_pos hs16]
  refine AW.rS ?_
  refine AW.trim [0, 4, 7, 8, 9, 21] ?_
  refine AW.c2 ?_ ?_
  ·intro h17
   refine AW.rS ?_
   rw [show [AV.str key, AV.int IntKind.i64 v.kind, AV.int IntKind.i64 v.num, AV.int IntKind.i64 v.gen, AV.str v.str, AV.sl (strsAV v.keys), AV.sl (objsAV v.kids)] = (En.mk key v).cells from rfl, entsAV_set, show l.set (eidx l key) (En.mk key v) = setN l key v from (if_pos hs16).symm]
   refine AW.trim [7] ?_
   refine AW.rS ?_
   refine AW.trim [6] ?_
   refine AW.rt ?_
   have hl : (setN l key v).length = l.length := by rw [setN, if_pos hs16, List.length_set]
   rw [List.take_of_length_le (by omega)]
   exact ⟨by omega, rfl⟩
  ·intro h17
   exfalso; omega
 ·skip
  rw [show eidxI l key = -1 from if_neg hs16]
  refine AW.rS ?_
  refine AW.trim [0, 4, 7, 8, 9, 21] ?_
  refine AW.c2 ?_ ?_
  ·intro h17
   exfalso; first | omega | (simp at h17)
  ·intro h17
   refine AW.skip ?_
   refine AW.rSC ?_
   refine awOps.cons (awGuard.c1 (c_IndexFunc_Set2 _ l key (by omega)) ?_)
   refine awOps.rn ?_
   refine AW.trim [0, 7, 8, 10] ?_
   refine AW.seq ?_
   by_cases hs27 : gidx l key < l.length
   ·skip
    rw [show gidxI l key = (gidx l key : Int) from if_pos hs27]
    refine AW.rS ?_
    refine AW.trim [0, 7, 8, 10, 31] ?_
    refine AW.c2 ?_ ?_
    ·intro h28
     exfalso; first | omega | (simp at h28) | contradiction
    ·intro h28
     refine AW.skip ?_
     refine AW.rSC ?_
     refine awOps.cons (awGuard.cH [3, 5] (h_Ins_ent' _ l ⟨key, v⟩ (gidx l key) (by omega) (by omega)) ?_)
     refine awOps.rn ?_
     refine AW.trim [6] ?_
     refine AW.rt ?_
     have hl : (insAt l (gidx l key) (En.mk key v)).length = l.length + 1 := insAt_length
     rw [List.take_of_length_le (by omega), setN, if_neg hs16]
     exact ⟨by omega, rfl⟩
   ·skip
    rw [show gidxI l key = -1 from if_neg hs27]
    refine AW.rS ?_
    refine AW.trim [0, 7, 8, 10, 31] ?_
    refine AW.c2 ?_ ?_
    ·intro h28
     refine AW.rL ?_
     refine AW.rSC ?_
     refine awOps.cons (awGuard.cH [3, 5] (h_Ins_ent' _ l ⟨key, v⟩ l.length (by omega) (by omega)) ?_)
     refine awOps.rn ?_
     refine AW.trim [6] ?_
     refine AW.rt ?_
     have hgl : gidx l key = l.length := by have := gidx_le l key; omega
     have hl : (insAt l l.length (En.mk key v)).length = l.length + 1 := insAt_length
     rw [List.take_of_length_le (by omega), setN, if_neg hs16, hgl]
     exact ⟨by omega, rfl⟩
    ·intro h28
     exfalso; first | omega | (simp at h28) | contradiction
theorem c_names_Drop (gl : List (Nat × AV)) (l : List En) (key : List UInt8) (h : ebulk l ≤ 16777000) : FnP Tryz.prog (gl) 19 [.sl (entsAV l), .str key] fun r => r = .ret (.tup [.sl (entsAV (dropNL l key)), .int .i64 (dropNE l key)]) := by
 refine FnP.intro Tryz.func19 rfl rfl (by simp [Tryz.ntmps19]) ?_
 simp only [argEnv, Tryz.ntmps19, Tryz.results19]
 have hlen := ebulk_len l
 refine AW.rS ?_
 refine AW.trim [0, 3] ?_
 refine AW.rSC ?_
 refine awOps.cons (awGuard.c1 (c_IndexFunc_Drop _ l key (by omega)) ?_)
 refine awOps.rn ?_
 refine AW.trim [0, 6] ?_
 refine AW.seq ?_
 by_cases hs6 : eidx l key < l.length
 ·skip
  rw [show eidxI l key = (eidx l key : Int) from if_pos hs6]
  refine AW.rS ?_
  refine AW.trim [0, 6, 11] ?_
  refine AW.c2 ?_ ?_
  ·intro h7
   exfalso; omega
  ·intro h7
   refine AW.skip ?_
   refine AW.rSC ?_
   refine awOps.cons (awGuard.cH [] (h_Clone_Entry _ l (by omega)) ?_)
   refine awOps.rn ?_
   refine awOps.cons (awGuard.cH [2] (h_Del_ent _ l (eidx l key) hs6 (by omega)) ?_)
   refine awOps.rn ?_
   refine AW.trim [4, 5] ?_
   refine AW.rt ?_
   have hl := delAt_length hs6
   rw [List.take_of_length_le (by omega), dropNL, dropNE, if_pos hs6, if_pos hs6]
   exact ⟨by omega, rfl⟩
 ·skip
  rw [show eidxI l key = -1 from if_neg hs6]
  refine AW.rS ?_
  refine AW.trim [0, 6, 11] ?_
  refine AW.c2 ?_ ?_
  ·intro h7
   refine AW.rS ?_
   refine AW.trim [4, 5] ?_
   refine AW.rt ?_
   rw [dropNL, dropNE, if_neg hs6, if_neg hs6] <;> rfl
  ·intro h7
   exfalso; first | omega | (simp at h7)
end Go.Proofs

namespace Aw
open Go
def lnInt (n : Int) : Pob := .mk 2 n 0 [] [] []
def lnT : Pob := .mk 7 0 0 [] [[82, 111, 111, 116]] [.mk 8 1 0 [] [] []]
def lnD0 : Dc := ⟨[⟨1, 0, .mk 7 0 0 [] [] []⟩], lnT⟩
def lnL : List En := [⟨[97], lnInt 1⟩, ⟨[98], lnInt 2⟩, ⟨[99], lnInt 3⟩]
theorem ln1 : makeE lnD0 lnL 2 = 0 := by decide +kernel
theorem ln2 : (makeD lnD0 lnL 2).items.length = 4 := by decide +kernel
theorem ln3 : (makeO lnD0 lnL 2) = .mk 8 4 0 [] [] [] := by decide +kernel
theorem ln4 : (makeD lnD0 lnL 2).bulk ≤ 16777216 := by decide +kernel
theorem ln5 : readNE (makeD lnD0 lnL 2) (.mk 8 4 0 [] [] []) = 0 := by decide +kernel
theorem ln6 : readNL (makeD lnD0 lnL 2) (.mk 8 4 0 [] [] []) = lnL := by decide +kernel
theorem ln7 : findN (makeD lnD0 lnL 2) (.mk 8 4 0 [] [] []) [98] = (0, lnInt 2) := by decide +kernel
theorem ln8 : findN (makeD lnD0 lnL 2) (.mk 8 4 0 [] [] []) [98, 98] = (8, Pob.null) := by decide +kernel
theorem ln9 : readNE (makeD lnD0 lnL 2) Pob.null = 8 := by decide +kernel
theorem ln10 : readNE (makeD lnD0 lnL 2) (lnInt 0) = 25 := by decide +kernel
theorem ln11 : makeE lnD0 lnL 1 = 1 := by decide +kernel
theorem ln12 : setN lnL [98, 98] Pob.null = [⟨[97], lnInt 1⟩, ⟨[98], lnInt 2⟩, ⟨[98, 98], Pob.null⟩, ⟨[99], lnInt 3⟩] := by decide +kernel
theorem ln13 : dropNE lnL [97] = 0 := by decide +kernel
theorem ln14 : dropNL lnL [97] = [⟨[98], lnInt 2⟩, ⟨[99], lnInt 3⟩] := by decide +kernel
theorem ln15 : lnD0.bulk + esum lnL ≤ 1100000 := by decide +kernel
theorem ln16 : (makeO lnD0 lnL 1) = Pob.null := by decide +kernel
end Aw

namespace Go.Proofs
open Go Aw
set_option linter.unusedSimpArgs false
set_option linter.unusedVariables false
set_option maxRecDepth 100000
set_option maxHeartbeats 4000000
def lnD : Dc := makeD lnD0 lnL 2
theorem lnD2 : lnD.items.length = 4 := ln2
theorem lnD4 : lnD.bulk ≤ 16777216 := ln4
theorem cn1 (gl : List (Nat × AV)) : FnP Tryz.prog gl 17 [.agg lnD0.cells, .sl [[.str [97], .int .i64 2, .int .i64 1, .int .i64 0, .str [], .sl [], .sl []], [.str [98], .int .i64 2, .int .i64 2, .int .i64 0, .str [], .sl [], .sl []], [.str [99], .int .i64 2, .int .i64 3, .int .i64 0, .str [], .sl [], .sl []]], .int .i64 2] fun r => r = .ret (.tup [.agg lnD.cells, .agg [.int .i64 8, .int .i64 4, .int .i64 0, .str [], .sl [], .sl []], .int .i64 0]) := by
 have h := c_names_Make gl lnD0 lnL 2 ln15
 rw [ln1, ln3] at h
 exact h
theorem cn2 (gl : List (Nat × AV)) : FnP Tryz.prog gl 10 [.agg lnD.cells, .agg [.int .i64 8, .int .i64 4, .int .i64 0, .str [], .sl [], .sl []]] fun r => r = .ret (.tup [.sl [[.str [97], .int .i64 2, .int .i64 1, .int .i64 0, .str [], .sl [], .sl []], [.str [98], .int .i64 2, .int .i64 2, .int .i64 0, .str [], .sl [], .sl []], [.str [99], .int .i64 2, .int .i64 3, .int .i64 0, .str [], .sl [], .sl []]], .int .i64 0]) := by
 have h := c_names_Read gl lnD (.mk 8 4 0 [] [] []) lnD4 (by decide +kernel)
 rw [show readNE lnD (.mk 8 4 0 [] [] []) = 0 from ln5, show readNL lnD (.mk 8 4 0 [] [] []) = lnL from ln6] at h
 exact h
theorem cn3 (gl : List (Nat × AV)) : FnP Tryz.prog gl 12 [.agg lnD.cells, .agg [.int .i64 8, .int .i64 4, .int .i64 0, .str [], .sl [], .sl []], .str [98]] fun r => r = .ret (.tup [.agg [.int .i64 2, .int .i64 2, .int .i64 0, .str [], .sl [], .sl []], .int .i64 0]) := by
 have h := c_names_Find gl lnD (.mk 8 4 0 [] [] []) [98] lnD4 (by decide +kernel)
 rw [show findN lnD (.mk 8 4 0 [] [] []) [98] = (0, lnInt 2) from ln7] at h
 exact h
theorem cn4 (gl : List (Nat × AV)) : FnP Tryz.prog gl 12 [.agg lnD.cells, .agg [.int .i64 8, .int .i64 4, .int .i64 0, .str [], .sl [], .sl []], .str [98, 98]] fun r => r = .ret (.tup [.agg [.int .i64 0, .int .i64 0, .int .i64 0, .str [], .sl [], .sl []], .int .i64 8]) := by
 have h := c_names_Find gl lnD (.mk 8 4 0 [] [] []) [98, 98] lnD4 (by decide +kernel)
 rw [show findN lnD (.mk 8 4 0 [] [] []) [98, 98] = (8, Pob.null) from ln8] at h
 exact h
theorem cn5 (gl : List (Nat × AV)) : FnP Tryz.prog gl 10 [.agg lnD.cells, .agg [.int .i64 0, .int .i64 0, .int .i64 0, .str [], .sl [], .sl []]] fun r => r = .ret (.tup [.sl [], .int .i64 8]) := by
 have h := c_names_Read gl lnD Pob.null lnD4 (by decide +kernel)
 rw [readNL, show readNE lnD Pob.null = 8 from ln9] at h
 exact h
theorem cn6 (gl : List (Nat × AV)) : FnP Tryz.prog gl 10 [.agg lnD.cells, .agg [.int .i64 2, .int .i64 0, .int .i64 0, .str [], .sl [], .sl []]] fun r => r = .ret (.tup [.sl [], .int .i64 25]) := by
 have h := c_names_Read gl lnD (lnInt 0) lnD4 (by decide +kernel)
 rw [readNL, show readNE lnD (lnInt 0) = 25 from ln10] at h
 exact h
theorem cn7 (gl : List (Nat × AV)) : FnP Tryz.prog gl 17 [.agg lnD0.cells, .sl [[.str [97], .int .i64 2, .int .i64 1, .int .i64 0, .str [], .sl [], .sl []], [.str [98], .int .i64 2, .int .i64 2, .int .i64 0, .str [], .sl [], .sl []], [.str [99], .int .i64 2, .int .i64 3, .int .i64 0, .str [], .sl [], .sl []]], .int .i64 1] fun r => r = .ret (.tup [.agg (Dc.zero).cells, .agg [.int .i64 0, .int .i64 0, .int .i64 0, .str [], .sl [], .sl []], .int .i64 1]) := by
 have h := c_names_Make gl lnD0 lnL 1 ln15
 rw [makeD, ln11, ln16] at h
 exact h
theorem cn8 (gl : List (Nat × AV)) : FnP Tryz.prog gl 21 [.sl [[.str [97], .int .i64 2, .int .i64 1, .int .i64 0, .str [], .sl [], .sl []], [.str [98], .int .i64 2, .int .i64 2, .int .i64 0, .str [], .sl [], .sl []], [.str [99], .int .i64 2, .int .i64 3, .int .i64 0, .str [], .sl [], .sl []]], .str [98, 98], .agg [.int .i64 0, .int .i64 0, .int .i64 0, .str [], .sl [], .sl []]] fun r => r = .ret (.sl [[.str [97], .int .i64 2, .int .i64 1, .int .i64 0, .str [], .sl [], .sl []], [.str [98], .int .i64 2, .int .i64 2, .int .i64 0, .str [], .sl [], .sl []], [.str [98, 98], .int .i64 0, .int .i64 0, .int .i64 0, .str [], .sl [], .sl []], [.str [99], .int .i64 2, .int .i64 3, .int .i64 0, .str [], .sl [], .sl []]]) := by
 have h := c_names_Set gl lnL [98, 98] Pob.null (by decide +kernel)
 rw [ln12] at h
 exact h
theorem cn9 (gl : List (Nat × AV)) : FnP Tryz.prog gl 19 [.sl [[.str [97], .int .i64 2, .int .i64 1, .int .i64 0, .str [], .sl [], .sl []], [.str [98], .int .i64 2, .int .i64 2, .int .i64 0, .str [], .sl [], .sl []], [.str [99], .int .i64 2, .int .i64 3, .int .i64 0, .str [], .sl [], .sl []]], .str [97]] fun r => r = .ret (.tup [.sl [[.str [98], .int .i64 2, .int .i64 2, .int .i64 0, .str [], .sl [], .sl []], [.str [99], .int .i64 2, .int .i64 3, .int .i64 0, .str [], .sl [], .sl []]], .int .i64 0]) := by
 have h := c_names_Drop gl lnL [97] (by decide +kernel)
 rw [ln13, ln14] at h
 exact h
theorem lnD2i : ((lnD.items.length : Nat) : Int) = 4 := by rw [lnD2] <;> rfl
attribute [local irreducible] lnD
attribute [local go_sem] lnD2i
theorem c_foliantlaw37_NamesDoc (gl : List (Nat × AV))  : FnP Tryz.prog (gl) 25 [] fun r => r = .ret (.agg lnD0.cells) := by
 refine FnP.intro Tryz.func25 rfl rfl (by simp [Tryz.ntmps25]) ?_
 simp only [argEnv, Tryz.ntmps25, Tryz.results25]
 refine AW.rS ?_
 refine AW.rS ?_
 refine AW.rt ?_
 all_goals first | contradiction | rfl | (simp; done) | (simp; omega)
theorem c_law37_lives (gl : List (Nat × AV))  : FnP Tryz.prog (gl) 9 [] fun r => r = .ret (.bool true) := by
 refine FnP.intro Tryz.func9 rfl rfl (by simp [Tryz.ntmps9]) ?_
 simp only [argEnv, Tryz.ntmps9, Tryz.results9]
 refine AW.rS ?_
 refine AW.trim [] ?_
 refine AW.rS ?_
 refine AW.trim [1] ?_
 refine AW.rSC ?_
 refine awOps.cons (awGuard.c1 (c_foliantlaw37_NamesDoc _) ?_)
 refine awOps.rn ?_
 refine awOps.cons (awGuard.c1 (cn1 _) ?_)
 refine awOps.rn ?_
 refine AW.trim [1, 2, 3, 4] ?_
 refine AW.rSC ?_
 refine awOps.cons (awGuard.c1 (cn2 _) ?_)
 refine awOps.rn ?_
 refine AW.trim [1, 2, 3, 4, 5, 6] ?_
 refine AW.rSC ?_
 refine awOps.cons (awGuard.c1 (cn3 _) ?_)
 refine awOps.rn ?_
 refine AW.trim [1, 2, 3, 4, 5, 6, 7, 8] ?_
 refine AW.rSC ?_
 refine awOps.cons (awGuard.c1 (cn4 _) ?_)
 refine awOps.rn ?_
 refine AW.trim [1, 2, 3, 4, 5, 6, 7, 8, 10] ?_
 refine AW.rSC ?_
 refine awOps.cons (awGuard.c1 (cn5 _) ?_)
 refine awOps.rn ?_
 refine AW.trim [1, 2, 3, 4, 5, 6, 7, 8, 10, 12] ?_
 refine AW.rSC ?_
 refine awOps.cons (awGuard.c1 (cn6 _) ?_)
 refine awOps.rn ?_
 refine AW.trim [1, 2, 3, 4, 5, 6, 7, 8, 10, 12, 14] ?_
 refine AW.rSC ?_
 refine awOps.cons (awGuard.c1 (c_foliantlaw37_NamesDoc _) ?_)
 refine awOps.rn ?_
 refine awOps.cons (awGuard.c1 (cn7 _) ?_)
 refine awOps.rn ?_
 refine AW.trim [1, 2, 3, 4, 5, 6, 7, 8, 10, 12, 14, 17] ?_
 refine AW.rSC ?_
 refine awOps.cons (awGuard.c1 (cn8 _) ?_)
 refine awOps.rn ?_
 refine AW.trim [1, 2, 3, 4, 5, 6, 7, 8, 10, 12, 14, 17, 18] ?_
 refine AW.rSC ?_
 refine awOps.cons (awGuard.c1 (cn9 _) ?_)
 refine awOps.rn ?_
 refine AW.trim [2, 3, 4, 5, 6, 7, 8, 10, 12, 14, 17, 18, 19, 20] ?_
 refine AW.seq (AW.region ?_)
 iterate 83 (refine awOps.s1 ?_)
 simp only [Aw.awOps_nil, andThen]
 refine AW.trim [0] ?_
 refine AW.rt ?_
 all_goals first | contradiction | rfl | (simp; done) | (simp; omega)
end Go.Proofs

namespace Aw
open Go Go.RowKit Go.WideShapes Go.ChangeShapes
def En.tot (e : En) : Nat := e.key.length + e.val.tot + 2
def etots (l : List En) : Nat := (l.map En.tot).sum
def En.wf (e : En) : Prop := e.val.wf
theorem esum_tot (l : List En) : esum l ≤ etots l := by
 induction l with
 | nil => exact Nat.le_refl _
 | cons e l ih =>
  have := Pob.bulk_tot e.val
  simp only [esum, etots, List.map_cons, List.sum_cons, En.tot] at ih ⊢
  omega
theorem esize_tot (l : List En) : esize l ≤ etots l := by
 induction l with
 | nil => exact Nat.le_refl _
 | cons e l ih =>
  have := Pob.psize_tot e.val
  simp only [esize, etots, List.map_cons, List.sum_cons, En.tot] at ih ⊢
  omega
section
variable {H : Type} {enc : TypeId × Value → H} {P : Program} {W : World} {tO tI tL tS tKs tOs tE tEs : TypeId}
theorem Opn.ent {fs : Array Field} (T : ObjT P tO tI tL tS tKs tOs) (h1 : P.underlying tE = some (.struct fs)) (h2 : fs.toList.map (fun f => (f.offset, f.type)) = [(0, tS), (1, tO)]) (c0 : P.cellsOf tE = 7) (N : Nat) : Opn enc P W N tE En.cells En.tot En.wf := by
 cases N with
 | zero => exact Opn.zero
 | succ N =>
  obtain ⟨d0, d1, d2, d3, d4, d5⟩ := T.c
  refine Opn.as (fun p : List UInt8 × Pob × Unit => En.mk p.1 p.2.1)
   (Opn.struct h1 h2 c0 (OpnF.cons (Opn.str T.s) d3 (OpnF.cons (Opn.obj T N) d0 OpnF.nil))) ?_ ?_ ?_
  ·intro a; simp [En.cells, Pob.cells_eq]
  ·intro a; simp only [En.tot]; omega
  ·intro a ⟨_, hc, _⟩
   exact hc
theorem Opn.ents {fs : Array Field} (T : ObjT P tO tI tL tS tKs tOs) (ht : P.underlying tEs = some (.slice tE)) (h1 : P.underlying tE = some (.struct fs)) (h2 : fs.toList.map (fun f => (f.offset, f.type)) = [(0, tS), (1, tO)]) (c0 : P.cellsOf tE = 7) (N : Nat) :
  Opn enc P W N tEs (fun l : List En => [.sl (entsAV l)]) (fun l => etots l + 1) (fun l => ∀ e ∈ l, e.wf) := by
 cases N with
 | zero => exact Opn.zero
 | succ N => exact Opn.slice ht (by rw [c0]; decide) (Opn.ent T h1 h2 c0 N)
end
end Aw

namespace Aw
open Go
def netL (l : List Itm) : List (Int × Itm) := l.map fun i => (i.num, i)
def leadI (l : List Itm) (r : Pob) : Itm := (mfind (netL l) r.num).getD Itm.zero
def leadB (l : List Itm) (r : Pob) : Bool := (mfind (netL l) r.num).isSome && decide ((leadI l r).gen = r.gen)
section
variable {S α : Type} (stp : S → α → S × Bool)
def runL : S → List α → S × Bool
 | s, [] => (s, false)
 | s, x :: l => if (stp s x).2 then ((stp s x).1, true) else runL (stp s x).1 l
end
def refW {S : Type} (stp : S → Pob → S × Bool) (s : S) (o : Pob) : S × Bool := if o.kind = 8 then stp s o else (s, false)
def walkR {S : Type} (stp : S → Pob → S × Bool) (s : S) (l : List Pob) : S × Bool := runL (refW stp) s l
section
variable {S : Type} {stp : S → Pob → S × Bool}
theorem walkR_nil (s : S) : walkR stp s [] = (s, false) := rfl
end
def allL (d : Dc) : List (Int × Pob) := (0, d.trailer) :: d.items.map fun i => (i.num, i.obj)
def foldI {S : Type} (stp : S → Int → Pob → S) (s : S) (l : List Itm) : S := l.foldl (fun s i => stp s i.num i.obj) s
end Aw

namespace Aw
open Go
section
variable {S : Type} {stp : S → Pob → S × Bool}
theorem walkR_cons (s : S) (o : Pob) (l : List Pob) : walkR stp s (o :: l) = if o.kind = 8 then (if (stp s o).2 then ((stp s o).1, true) else walkR stp (stp s o).1 l) else walkR stp s l := by
 by_cases hk : o.kind = 8
 ·simp only [walkR, runL, refW, if_pos hk]
 ·simp only [walkR, runL, refW, if_neg hk, Bool.false_eq_true, if_false]
theorem foldI_mem {S : Type} {g : S → Int → Pob → S} {M : S → Int → Prop} {A : Int → Pob → Int → Prop} (h : ∀ s n o x, M (g s n o) x ↔ M s x ∨ A n o x) (l : List Itm) (s : S) (x : Int) : M (foldI g s l) x ↔ M s x ∨ ∃ i ∈ l, A i.num i.obj x := by
 induction l generalizing s with
 | nil => simp [foldI]
 | cons i l ih =>
  have e : foldI g s (i :: l) = foldI g (g s i.num i.obj) l := rfl
  rw [e, ih, h]
  simp only [List.mem_cons, exists_eq_or_imp, or_assoc]
end
theorem doc_chk {d : Dc} (h : docE d = 0) : ∀ q ∈ allL d, ∃ k, chk q.2 k = 0 := by
 intro q hq
 rcases List.mem_cons.1 hq with rfl | hq
 ·refine ⟨1, ?_⟩
  have h1 := docE_trail h
  by_cases hc : chk d.trailer 1 = 0
  ·exact hc
  ·rw [trail_bad hc] at h1
   exact absurd h1 hc
 ·obtain ⟨i, hi, rfl⟩ := List.mem_map.1 hq
  obtain ⟨j, hj, rfl⟩ := List.mem_iff_getElem.1 hi
  have h1 := (items_ok.1 (docE_items h) j hj).2.2
  rw [List.getD_eq_getElem?_getD, List.getElem?_eq_getElem hj] at h1
  simp only [Option.getD_some] at h1
  refine ⟨1, ?_⟩
  by_cases hc : chk d.items[j].obj 1 = 0
  ·exact hc
  ·exfalso
   unfold contentE at h1
   simp_all
end Aw

namespace Aw
open Go
def usesB (l : List Itm) (num : Int) (r : Pob) : Bool := leadB l r && decide ((leadI l r).num = num)
def usesStp (l : List Itm) (num user : Int) (s : List Int) (r : Pob) : List Int × Bool := if usesB l num r then (setAdd s user, true) else (s, false)
def usersAll (d : Dc) (num : Int) (s : List Int) (user : Int) (o : Pob) : List Int := (walkR (usesStp d.items num user) s o.pre).1
def usersS (d : Dc) (num : Int) : List Int := foldI (usersAll d num) (usersAll d num [] 0 d.trailer) d.items
def thereB (d : Dc) (num : Int) : Bool := (mfind (netL d.items) num).isSome
def usersP (d : Dc) (num : Int) : List Int := if docE d = 0 then (if thereB d num then sortI (usersS d num) else []) else []
theorem usesW_res (l : List Itm) (num user : Int) (L : List Pob) (s : List Int) : (walkR (usesStp l num user) s L).1 = if L.any (fun p => decide (p.kind = 8) && usesB l num p) then setAdd s user else s := by
 induction L generalizing s with
 | nil => simp [walkR_nil]
 | cons o L ih =>
  rw [walkR_cons]
  by_cases hk : o.kind = 8
  ·rw [if_pos hk]
   cases hu : usesB l num o
   ·simp [usesStp, hu, ih, hk]
   ·simp [usesStp, hu, hk]
  ·rw [if_neg hk, ih]
   simp [hk]
theorem usersW_mem (d : Dc) (num : Int) (s : List Int) (n : Int) (o : Pob) (x : Int) : x ∈ usersAll d num s n o ↔ x ∈ s ∨ (o.pre.any (fun p => decide (p.kind = 8) && usesB d.items num p) = true ∧ x = n) := by
 unfold usersAll
 rw [usesW_res]
 cases h : o.pre.any (fun p => decide (p.kind = 8) && usesB d.items num p)
 ·simp
 ·simp [mem_setAdd]
theorem usersS_mem (d : Dc) (num x : Int) : x ∈ usersS d num ↔ ∃ q ∈ allL d, q.2.pre.any (fun p => decide (p.kind = 8) && usesB d.items num p) = true ∧ x = q.1 := by
 have h := foldI_mem (g := usersAll d num) (M := fun s x => x ∈ s) (A := fun n o x => o.pre.any (fun p => decide (p.kind = 8) && usesB d.items num p) = true ∧ x = n) (fun s n o x => usersW_mem d num s n o x) d.items (usersAll d num [] 0 d.trailer) x
 unfold usersS
 rw [h, usersW_mem]
 simp only [List.not_mem_nil, false_or, allL, List.mem_cons, List.mem_map]
 constructor
 ·rintro (h | ⟨i, hi, h⟩)
  ·exact ⟨_, .inl rfl, h⟩
  ·exact ⟨_, .inr ⟨i, hi, rfl⟩, h⟩
 ·rintro ⟨q, rfl | ⟨i, hi, rfl⟩, h⟩
  ·exact .inl h
  ·exact .inr ⟨i, hi, h⟩
theorem nodup_le {α : Type} [DecidableEq α] : ∀ {a b : List α}, a.Nodup → (∀ x ∈ a, x ∈ b) → a.length ≤ b.length
 | [], b, _, _ => by simp
 | x :: a, b, hn, hs => by
  have hx := hs x List.mem_cons_self
  obtain ⟨b1, b2, rfl⟩ := List.append_of_mem hx
  rw [List.nodup_cons] at hn
  have := nodup_le (a := a) (b := b1 ++ b2) hn.2 (fun y hy => by
   have := hs y (List.mem_cons_of_mem _ hy)
   simp only [List.mem_append, List.mem_cons] at this ⊢
   rcases this with h | rfl | h
   ·exact .inl h
   ·exact absurd hy hn.1
   ·exact .inr h)
  simp only [List.length_append, List.length_cons] at this ⊢
  omega
theorem mfind_mem {κ ν : Type} [DecidableEq κ] {l : List (κ × ν)} {k : κ} {v : ν} (h : mfind l k = some v) : (k, v) ∈ l := by
 induction l with
 | nil => simp [mfind] at h
 | cons p l ih =>
  simp only [mfind] at h
  split at h
  ·rename_i e
   injection h with h
   rw [← e, ← h]
   exact List.mem_cons_self
  ·exact List.mem_cons_of_mem _ (ih h)
theorem lead_mem {l : List Itm} {r : Pob} (h : leadB l r = true) : leadI l r ∈ l ∧ (leadI l r).num = r.num ∧ (leadI l r).gen = r.gen := by
 unfold leadB at h
 simp only [Bool.and_eq_true, decide_eq_true_eq] at h
 obtain ⟨v, hv⟩ := Option.isSome_iff_exists.1 h.1
 have hi : leadI l r = v := by unfold leadI; rw [hv] <;> rfl
 have hm := mfind_mem hv
 simp only [netL, List.mem_map, Prod.mk.injEq] at hm
 obtain ⟨i, hi1, e1, rfl⟩ := hm
 rw [hi]
 exact ⟨hi1, e1, by rw [← hi]; exact h.2⟩
mutual
def Pob.rr : Pob → List Pob
 | .mk k n g s ks l => if k = 8 then [.mk k n g s ks l] else rrs l
def rrs : List Pob → List Pob
 | [] => []
 | o :: l => o.rr ++ rrs l
end
theorem rr_eq (o : Pob) : o.rr = if o.kind = 8 then [o] else rrs o.kids := by cases o; simp only [Pob.rr, Pob.kind, Pob.kids]; rfl
mutual
theorem rr_len : ∀ o : Pob, o.rr.length ≤ o.bulk
 | .mk k n g s ks l => by
  have := rrs_len l
  simp only [Pob.rr, Pob.bulk]
  split <;> simp <;> omega
theorem rrs_len : ∀ l : List Pob, (rrs l).length ≤ bulks l
 | [] => by simp [rrs]
 | o :: l => by
  have h1 := rr_len o
  have h2 := rrs_len l
  simp only [rrs, List.length_append, bulks]
  omega
end
def leadR (l : List Itm) (r : Pob) : Option Itm := l.find? fun i => decide (i.num = r.num) && decide (i.gen = r.gen)
def usesR (d : Dc) (num : Int) (o : Pob) : Bool := o.rr.any fun x => (leadR d.items x).isSome && decide (((leadR d.items x).getD Itm.zero).num = num)
def inS (l : List Itm) (s : List Int) (r : Pob) : Prop := ∀ i, leadR l r = some i → i.num ∈ s
def closedR (l : List Itm) (start : List Pob) (s : List Int) : Prop := (∀ r ∈ start, inS l s r) ∧ ∀ i ∈ l, i.num ∈ s → ∀ r ∈ i.obj.rr, inS l s r
def restR (l : List Itm) (met : List Int) : Nat := ((l.filter fun i => !decide (i.num ∈ met)).map fun i => i.obj.rr.length).sum
theorem restR_cons (x : Itm) (l : List Itm) (met : List Int) : restR (x :: l) met = (if x.num ∈ met then 0 else x.obj.rr.length) + restR l met := by
 unfold restR
 rw [List.filter_cons]
 by_cases h : x.num ∈ met <;> simp [h]
theorem restR_more (l : List Itm) (met : List Int) (n : Int) : restR l (met ++ [n]) ≤ restR l met := by
 induction l with
 | nil => simp [restR]
 | cons x l ih =>
  rw [restR_cons, restR_cons]
  by_cases h : x.num ∈ met
  ·rw [if_pos (List.mem_append_left _ h), if_pos h]
   omega
  ·rw [if_neg h]
   split <;> omega
theorem restR_add {l : List Itm} {met : List Int} {i : Itm} (hi : i ∈ l) (hn : ¬ i.num ∈ met) : restR l (met ++ [i.num]) + i.obj.rr.length ≤ restR l met := by
 induction l with
 | nil => cases hi
 | cons x l ih =>
  rw [restR_cons, restR_cons]
  rcases List.mem_cons.1 hi with rfl | hi
  ·have := restR_more l met i.num
   rw [if_pos (by simp), if_neg hn]
   omega
  ·have := ih hi
   by_cases h : x.num ∈ met
   ·rw [if_pos (List.mem_append_left _ h), if_pos h]
    omega
   ·rw [if_neg h]
    split <;> omega
theorem restR_le (l : List Itm) (met : List Int) : restR l met ≤ ibulk l := by
 induction l with
 | nil => simp [restR]
 | cons x l ih =>
  have := rr_len x.obj
  rw [restR_cons, ibulk_cons]
  split <;> omega
structure FromJ (l : List Itm) (start : List Pob) (met : List Int) (todo : List Pob) : Prop where
 nd : met.Nodup
 sub : ∀ n ∈ met, n ∈ l.map (·.num)
 st : ∀ r ∈ start, inS l met r ∨ r ∈ todo
 it : ∀ i ∈ l, i.num ∈ met → ∀ r ∈ i.obj.rr, inS l met r ∨ r ∈ todo
 least : ∀ s', closedR l start s' → (∀ n ∈ met, n ∈ s') ∧ ∀ r ∈ todo, inS l s' r
 small : todo.length + restR l met ≤ 33554432
theorem leadR_mem {l : List Itm} {r : Pob} {i : Itm} (h : leadR l r = some i) : i ∈ l ∧ i.num = r.num ∧ i.gen = r.gen := by
 have h1 := List.mem_of_find?_eq_some h
 have h2 := List.find?_some h
 simp only [Bool.and_eq_true, decide_eq_true_eq] at h2
 exact ⟨h1, h2⟩
theorem FromJ.top (l : List Itm) (o : Pob) (h : o.rr.length + ibulk l ≤ 33554432) : FromJ l o.rr [] o.rr :=
 ⟨List.nodup_nil, fun _ h => absurd h List.not_mem_nil, fun _ h => .inr h, fun _ _ h => absurd h List.not_mem_nil, fun _ hs => ⟨fun _ h => absurd h List.not_mem_nil, hs.1⟩, by
  have := restR_le l []
  omega⟩
theorem FromJ.skip {l : List Itm} {start : List Pob} {met : List Int} {x : Pob} {todo : List Pob} (h : FromJ l start met (x :: todo)) (hx : inS l met x) : FromJ l start met todo := by
 refine ⟨h.nd, h.sub, fun r hr => ?_, fun i hi hm r hr => ?_, fun s' hs => ⟨(h.least s' hs).1, fun r hr => (h.least s' hs).2 r (List.mem_cons_of_mem _ hr)⟩, by have := h.small; simp only [List.length_cons] at this; omega⟩
 ·rcases h.st r hr with g | g
  ·exact .inl g
  ·rcases List.mem_cons.1 g with rfl | g
   ·exact .inl hx
   ·exact .inr g
 ·rcases h.it i hi hm r hr with g | g
  ·exact .inl g
  ·rcases List.mem_cons.1 g with rfl | g
   ·exact .inl hx
   ·exact .inr g
theorem inS_more {l : List Itm} {s : List Int} {r : Pob} (h : inS l s r) (n : Int) : inS l (s ++ [n]) r := fun i hi => List.mem_append_left _ (h i hi)
theorem FromJ.add {l : List Itm} {start : List Pob} {met : List Int} {x : Pob} {todo : List Pob} {i : Itm} (hl : incrN l) (h : FromJ l start met (x :: todo)) (hx : leadR l x = some i) (hn : ¬ i.num ∈ met) : FromJ l start (met ++ [i.num]) (todo ++ i.obj.rr) := by
 have hm := (leadR_mem hx).1
 have hin : inS l (met ++ [i.num]) x := fun j hj => by
  rw [hx] at hj
  injection hj with hj
  subst hj
  simp
 refine ⟨?_, fun n hn' => ?_, fun r hr => ?_, fun j hj hm' r hr => ?_, fun s' hs => ?_, ?_⟩
 ·rw [List.nodup_append]
  refine ⟨h.nd, by simp, fun a ha b hb => ?_⟩
  simp only [List.mem_singleton] at hb
  subst hb
  intro e
  subst e
  exact hn ha
 ·rcases List.mem_append.1 hn' with g | g
  ·exact h.sub n g
  ·simp only [List.mem_singleton] at g
   subst g
   exact List.mem_map.2 ⟨i, hm, rfl⟩
 ·rcases h.st r hr with g | g
  ·exact .inl (inS_more g _)
  ·rcases List.mem_cons.1 g with rfl | g
   ·exact .inl hin
   ·exact .inr (List.mem_append_left _ g)
 ·rcases List.mem_append.1 hm' with g | g
  ·rcases h.it j hj g r hr with g | g
   ·exact .inl (inS_more g _)
   ·rcases List.mem_cons.1 g with rfl | g
    ·exact .inl hin
    ·exact .inr (List.mem_append_left _ g)
  ·simp only [List.mem_singleton] at g
   have e : j = i := incr_one hl hj hm g
   subst e
   exact .inr (List.mem_append_right _ hr)
 ·obtain ⟨h1, h2⟩ := h.least s' hs
  have hi : i.num ∈ s' := h2 x List.mem_cons_self i hx
  refine ⟨fun n hn' => ?_, fun r hr => ?_⟩
  ·rcases List.mem_append.1 hn' with g | g
   ·exact h1 n g
   ·simp only [List.mem_singleton] at g
    subst g
    exact hi
  ·rcases List.mem_append.1 hr with g | g
   ·exact h2 r (List.mem_cons_of_mem _ g)
   ·exact hs.2 i hm hi r g
 ·have h1 := h.small
  have h2 := restR_add hm hn
  simp only [List.length_cons, List.length_append] at h1 ⊢
  omega
theorem FromJ.len {l : List Itm} {start : List Pob} {met : List Int} {todo : List Pob} (h : FromJ l start met todo) : met.length ≤ l.length := by
 have := nodup_le h.nd h.sub
 simpa using this
theorem chk_ref {o : Pob} {k : Int} (h : chk o k = 0) (h8 : o.kind = 8) : o.kids = [] := by
 have hu := (ownE_iff.1 (chk_iff.1 h).1).2.1
 have h2 : uKids o.kind = false := by rw [h8]; decide
 rcases hl : o.kids with _ | ⟨x, l⟩
 ·rfl
 ·exfalso
  simp [useB, h2, hl] at hu
  omega
mutual
theorem chk_rr : ∀ (o : Pob) (d : Int), chk o d = 0 → o.rr = o.pre.filter fun p => decide (p.kind = 8)
 | .mk k n g s ks l, d, h => by
  rw [Pob.pre_eq, rr_eq]
  by_cases h8 : (Pob.mk k n g s ks l).kind = 8
  ·have hk := chk_ref h h8
   rw [if_pos h8, List.filter_cons, if_pos (by rw [h8]; decide), hk, pres_nil]
   rfl
  ·rw [if_neg h8, List.filter_cons, if_neg (by simpa using h8)]
   exact chks_rr l (d + 1) (fun x hx => (chk_iff.1 h).2 x hx)
theorem chks_rr : ∀ (l : List Pob) (d : Int), (∀ x ∈ l, chk x d = 0) → rrs l = (pres l).filter fun p => decide (p.kind = 8)
 | [], _, _ => by simp [rrs, pres_nil]
 | o :: l, d, h => by
  rw [rrs, pres, List.filter_append, ← chk_rr o d (h o List.mem_cons_self), ← chks_rr l d (fun x hx => h x (List.mem_cons_of_mem _ hx))]
end
theorem leadR_yes {l : List Itm} (hl : incrN l) {r : Pob} (h : leadB l r = true) : leadR l r = some (leadI l r) := by
 obtain ⟨h1, h2, h3⟩ := lead_mem h
 cases e : leadR l r with
 | none =>
  unfold leadR at e
  rw [List.find?_eq_none] at e
  have := e _ h1
  simp [h2, h3] at this
 | some x =>
  obtain ⟨g1, g2, _⟩ := leadR_mem e
  rw [incr_one hl g1 h1 (by rw [g2, h2])]
theorem leadR_no {l : List Itm} (hl : incrN l) {r : Pob} (h : leadB l r = false) : leadR l r = none := by
 cases e : leadR l r with
 | none => rfl
 | some x =>
  exfalso
  obtain ⟨g1, g2, g3⟩ := leadR_mem e
  cases hm : mfind (netL l) r.num with
  | none =>
   rw [mfind_none] at hm
   refine hm ?_
   rw [← g2]
   simp only [netL, List.map_map, List.mem_map]
   exact ⟨x, g1, rfl⟩
  | some v =>
   have hv := mfind_mem hm
   simp only [netL, List.mem_map, Prod.mk.injEq] at hv
   obtain ⟨y, hy, e1, rfl⟩ := hv
   have : y = x := incr_one hl hy g1 (by rw [e1, g2])
   subst this
   simp [leadB, leadI, hm, g3] at h
theorem sortI_mem {s : List Int} {n : Int} : n ∈ sortI s ↔ n ∈ s := (List.mergeSort_perm s _).mem_iff
theorem usesR_eq {d : Dc} (h : docE d = 0) (num : Int) {o : Pob} {k : Int} (hk : chk o k = 0) : usesR d num o = o.pre.any fun p => decide (p.kind = 8) && usesB d.items num p := by
 have hl := items_incr (docE_items h)
 unfold usesR
 rw [chk_rr _ k hk, List.any_filter]
 congr 1
 funext p
 cases hb : leadB d.items p
 ·rw [leadR_no hl hb]
  simp [usesB, hb]
 ·rw [leadR_yes hl hb]
  simp [usesB, hb]
end Aw
namespace Aw
open Go
theorem use_iff {d : Dc} (h : docE d = 0) {num : Int} {o : Pob} {k : Int} (hk : chk o k = 0) : (o.pre.any fun p => decide (p.kind = 8) && usesB d.items num p) = true ↔ ∃ r ∈ o.rr, ∃ i, leadR d.items r = some i ∧ i.num = num := by
 have hl := items_incr (docE_items h)
 rw [← usesR_eq h num hk, usesR, List.any_eq_true]
 constructor
 ·rintro ⟨r, hr, hu⟩
  simp only [Bool.and_eq_true, decide_eq_true_eq] at hu
  obtain ⟨i, hi⟩ := Option.isSome_iff_exists.1 hu.1
  rw [hi] at hu
  exact ⟨r, hr, i, hi, hu.2⟩
 ·rintro ⟨r, hr, i, hi, hn⟩
  exact ⟨r, hr, by simp [hi, hn]⟩
structure AddF (d x : Dc) (o : Pob) (n : Int) : Prop where
 d0 : docE d = 0
 x0 : docE x = 0
 tr : x.trailer = d.trailer
 mem : ∀ i, i ∈ x.items ↔ i = ⟨n, 0, o⟩ ∨ i ∈ d.items
 lt : ∀ i ∈ d.items, i.num < n
 pos : 0 < n
theorem add_eqs {d : Dc} {o : Pob} (h : addE d o = 0) : freeE d = 0 ∧ putE d ⟨freeN d, 0, o⟩ = 0 := by
 rw [addE] at h
 split at h
 ·contradiction
 ·rename_i h1
  exact ⟨by omega, h⟩
theorem add_parts {d : Dc} {o : Pob} (h : addE d o = 0) : AddF d (addO d o) o (addN d o) := by
 obtain ⟨h1, h2⟩ := add_eqs h
 obtain ⟨_, h4, h5⟩ := add_ok h1 h2
 have hp := free_parts h1
 have hq := put_parts h2
 have hl := doc_incr hp.1
 have hlt : ∀ i ∈ d.items, i.num < freeN d := fun i hi => by
  have := last_max hl i hi
  omega
 have hpos := last_pos (docE_items hp.1)
 rw [h4, h5]
 refine ⟨hp.1, put_doc0 h2, put_trailer h2, fun i => ?_, hlt, by omega⟩
 rw [hq.2.2.2]
 simp only [layI_mem hl]
 constructor
 ·rintro (g | g)
  ·exact .inl g
  ·exact .inr g.1
 ·rintro (g | g)
  ·exact .inl g
  ·exact .inr ⟨g, by have := hlt i g; omega⟩
variable {d x : Dc} {o : Pob} {n : Int}
structure AddN (d x : Dc) (o : Pob) (n : Int) : Prop extends AddF d x o n where
 hd : ∀ q ∈ allL d, ∀ r ∈ q.2.rr, r.num ≠ n
 ho : ∀ r ∈ o.rr, r.num ≠ n
theorem AddN.all (h : AddN d x o n) : ∀ q ∈ allL x, ∀ r ∈ q.2.rr, r.num ≠ n := by
 intro q hq r hr
 rcases List.mem_cons.1 hq with rfl | hq
 ·rw [h.tr] at hr
  exact h.hd _ List.mem_cons_self r hr
 ·obtain ⟨i, hi, rfl⟩ := List.mem_map.1 hq
  rcases (h.mem i).1 hi with rfl | hi
  ·exact h.ho r hr
  ·exact h.hd _ (List.mem_cons_of_mem _ (List.mem_map.2 ⟨i, hi, rfl⟩)) r hr
theorem users_iff {d : Dc} (h : docE d = 0) {num u : Int} : u ∈ usersS d num ↔ ∃ q ∈ allL d, (∃ r ∈ q.2.rr, ∃ i, leadR d.items r = some i ∧ i.num = num) ∧ u = q.1 := by
 rw [usersS_mem]
 constructor
 ·rintro ⟨q, hq, ha, e⟩
  obtain ⟨k, hk⟩ := doc_chk h q hq
  exact ⟨q, hq, (use_iff h hk).1 ha, e⟩
 ·rintro ⟨q, hq, ha, e⟩
  obtain ⟨k, hk⟩ := doc_chk h q hq
  exact ⟨q, hq, (use_iff h hk).2 ha, e⟩
theorem there_item {d : Dc} {i : Itm} (hi : i ∈ d.items) : thereB d i.num = true := by
 unfold thereB
 cases hmf : mfind (netL d.items) i.num with
 | some v => rfl
 | none =>
  exfalso
  rw [mfind_none] at hmf
  refine hmf ?_
  simp only [netL, List.map_map, List.mem_map]
  exact ⟨i, hi, rfl⟩
theorem usersP_mem {d : Dc} (h : docE d = 0) {i : Itm} (hi : i ∈ d.items) {u : Int} : u ∈ usersP d i.num ↔ u ∈ usersS d i.num := by rw [usersP, if_pos h, if_pos (there_item hi), sortI_mem]
theorem AddN.none (h : AddN d x o n) : usersP x n = [] := by
 refine List.eq_nil_iff_forall_not_mem.2 fun u hu => ?_
 have hu' := (usersP_mem (i := ⟨n, 0, o⟩) h.x0 ((h.mem _).2 (.inl rfl))).1 hu
 obtain ⟨q, hq, ⟨r, hr, i, hi, e⟩, _⟩ := (users_iff h.x0).1 hu'
 exact h.all q hq r hr ((leadR_mem hi).2.1.symm.trans e)
end Aw

namespace Aw
open Go
theorem pairsP_cons (x : En) (l : List En) : pairsP (x :: l) = strO x.key :: x.val :: pairsP l := rfl
theorem pairsOf_pairsP : ∀ l : List En, pairsOf (pairsP l) = l
 | [] => rfl
 | x :: l => by
  rw [pairsP_cons, pairsOf, pairsOf_pairsP l]
  simp [strO, Pob.str]
theorem pairsP_even (l : List En) : (pairsP l).length % 2 = 0 := by
 rw [pairsP_len]; omega
theorem pairsP_str : ∀ (l : List En) (i : Nat), i < l.length → ((pairsP l).getD (2 * i) Pob.null).kind = 4
 | [], i, h => by simp at h
 | x :: l, 0, _ => by rw [pairsP_cons] <;> rfl
 | x :: l, i + 1, h => by
  rw [pairsP_cons, show 2 * (i + 1) = 2 * i + 1 + 1 from by omega, List.getD_cons_succ, List.getD_cons_succ]
  exact pairsP_str l i (by simpa using h)
theorem pairsP_ok (l : List En) : pairsOk (pairsP l) := ⟨pairsP_even l, fun i hi => pairsP_str l i (by rw [pairsP_len] at hi; omega)⟩
theorem follow_self {d : Dc} {o : Pob} (h : o.kind ≠ 8) : followO d o = o := by rw [followO, if_pos h]
theorem nodeO_kind (low : Bool) (l : List Pob) (lo hi : List UInt8) (lim : Bool) : (nodeO low l lo hi lim).kind = 7 := by
 rw [nodeO]
 split
 ·rfl
 ·split <;> rfl
theorem node_names (low : Bool) (l : List Pob) (lo hi : List UInt8) (lim : Bool) : getB (nodeO low l lo hi lim) namesK = low ∧ (low = true → getO (nodeO low l lo hi lim) namesK = arrO l) := by
 cases low <;> cases lim <;> exact ⟨rfl, fun h => by first | rfl | cases h⟩
theorem node_kids (low : Bool) (l : List Pob) (lo hi : List UInt8) (lim : Bool) : getB (nodeO low l lo hi lim) kidsK = !low ∧ (low = false → getO (nodeO low l lo hi lim) kidsK = arrO l) := by
 cases low <;> cases lim <;> exact ⟨rfl, fun h => by first | rfl | cases h⟩
theorem node_lims (low : Bool) (l : List Pob) (lo hi : List UInt8) : getB (nodeO low l lo hi true) limsK = true ∧ getO (nodeO low l lo hi true) limsK = limO lo hi := by
 cases low <;> exact ⟨rfl, rfl⟩
theorem low_node (d : Dc) (l : List En) (lo hi : List UInt8) (lim : Bool) : lowB d (nodeO true (pairsP l) lo hi lim) ∧ npairs d (nodeO true (pairsP l) lo hi lim) = pairsP l ∧ nkids d (nodeO true (pairsP l) lo hi lim) = [] := by
 have h1 := node_names true (pairsP l) lo hi lim
 have h2 := node_kids true (pairsP l) lo hi lim
 have ha : atO d (nodeO true (pairsP l) lo hi lim) namesK = arrO (pairsP l) := by
  rw [atO, h1.2 rfl]
  exact follow_self (by simp [arrO, Pob.kind])
 have hl : lowB d (nodeO true (pairsP l) lo hi lim) := ⟨nodeO_kind .., h1.1, h2.1, by rw [ha]; rfl, by rw [ha]; exact pairsP_ok l⟩
 exact ⟨hl, by rw [npairs, if_pos hl, ha]; rfl, by rw [nkids, if_pos hl]⟩
theorem high_node (d : Dc) (l : List Pob) (lo hi : List UInt8) (lim : Bool) : highB d (nodeO false l lo hi lim) ∧ ¬ lowB d (nodeO false l lo hi lim) ∧ npairs d (nodeO false l lo hi lim) = [] ∧ nkids d (nodeO false l lo hi lim) = l := by
 have h1 := node_names false l lo hi lim
 have h2 := node_kids false l lo hi lim
 have ha : atO d (nodeO false l lo hi lim) kidsK = arrO l := by
  rw [atO, h2.2 rfl]
  exact follow_self (by simp [arrO, Pob.kind])
 have hn : ¬ lowB d (nodeO false l lo hi lim) := fun h => by have := h.2.1; rw [h1.1] at this; cases this
 exact ⟨⟨nodeO_kind .., h1.1, h2.1, by rw [ha]; rfl⟩, hn, by rw [npairs, if_neg hn], by rw [nkids, if_neg hn, ha]; rfl⟩
theorem lim_node (d : Dc) (low : Bool) (l : List Pob) (lo hi : List UInt8) : limB d (nodeO low l lo hi true) ∧ limLo d (nodeO low l lo hi true) = lo ∧ limHi d (nodeO low l lo hi true) = hi := by
 have h1 := node_lims low l lo hi
 have ha : atO d (nodeO low l lo hi true) limsK = limO lo hi := by
  rw [atO, h1.2]
  exact follow_self (by simp [limO, arrO, Pob.kind])
 refine ⟨⟨nodeO_kind .., h1.1, by rw [ha]; rfl, by rw [ha]; rfl, by rw [ha]; rfl, by rw [ha]; rfl⟩, ?_, ?_⟩
 ·rw [limLo, ha] <;> rfl
 ·rw [limHi, ha] <;> rfl
structure Grow (d x : Dc) : Prop where
 d0 : docE d = 0
 x0 : docE x = 0
 tr : x.trailer = d.trailer
 it : ∃ t, x.items = d.items ++ t
theorem Grow.refl {d : Dc} (h : docE d = 0) : Grow d d := ⟨h, h, rfl, [], by simp⟩
theorem Grow.trans {d x y : Dc} (h : Grow d x) (h' : Grow x y) : Grow d y := by
 obtain ⟨t, ht⟩ := h.it
 obtain ⟨u, hu⟩ := h'.it
 exact ⟨h.d0, h'.x0, h'.tr.trans h.tr, t ++ u, by rw [hu, ht, List.append_assoc]⟩
theorem grow_add {d : Dc} {o : Pob} (h : addE d o = 0) : Grow d (addO d o) ∧ ⟨addN d o, 0, o⟩ ∈ (addO d o).items := by
 have hp := add_parts h
 have hi : (addO d o).items = d.items ++ [⟨addN d o, 0, o⟩] := by
  refine incr_ext (doc_incr hp.x0) ?_ (fun y => ?_)
  ·have h1 := incrN_iff.1 (doc_incr hp.d0)
   refine incrN_iff.2 (List.pairwise_append.2 ⟨h1, List.pairwise_singleton _ _, fun a ha b hb => ?_⟩)
   simp only [List.mem_singleton] at hb
   subst hb
   exact hp.lt a ha
  ·rw [hp.mem, List.mem_append, List.mem_singleton]
   exact Or.comm
 exact ⟨⟨hp.d0, hp.x0, hp.tr, _, hi⟩, (hp.mem _).2 (.inl rfl)⟩
theorem follow_item {d : Dc} (h : docE d = 0) {n : Int} {o : Pob} (hm : ⟨n, 0, o⟩ ∈ d.items) : followO d (refO n 0) = o := by
 have hl : lookI d.items n = some ⟨n, 0, o⟩ := (look_some (doc_incr h)).2 ⟨hm, rfl⟩
 rw [follow_look, if_neg (by simp [refO, Pob.kind])]
 show (match lookI d.items n with | none => Pob.null | some x => if x.gen ≠ (refO n 0).gen then Pob.null else x.obj) = o
 rw [hl]
 simp [refO, Pob.gen]
def At (d : Dc) (n : Int) (o : Pob) : Prop := ⟨n, 0, o⟩ ∈ d.items
theorem At.grow {d x : Dc} {n : Int} {o : Pob} (h : At d n o) (hg : Grow d x) : At x n o := by
 obtain ⟨t, ht⟩ := hg.it
 rw [At, ht]
 exact List.mem_append_left _ h
theorem At.follow {d : Dc} {n : Int} {o : Pob} (h : At d n o) (hd : docE d = 0) : followO d (refO n 0) = o := follow_item hd h
def up (l : List En) : Prop := l.Pairwise fun a b => Op.bytesLess a.key b.key = true
theorem up_of {l : List En} (h : incr (ekeys l)) : up l := by
 rw [up, List.pairwise_iff_getElem]
 intro i j hi hj hij
 have := h i j hij (by rw [ekeys_len]; exact hj)
 rw [ekeys_getD hi, ekeys_getD hj] at this
 simpa [List.getD, hi, hj] using this
theorem up_append {a b : List En} (h : up (a ++ b)) : up a ∧ up b ∧ ∀ x ∈ a, ∀ y ∈ b, Op.bytesLess x.key y.key = true := List.pairwise_append.1 h
def fkey (l : List En) : List UInt8 := (l.getD 0 En.zero).key
def lkey (l : List En) : List UInt8 := (l.getD (l.length - 1) En.zero).key
def TT (x : Dc) : Nat → Gr → List En → Nat → Prop
 | 0, r, es, c => At x r.num (nodeO true (pairsP es) r.lo r.hi true) ∧ es ≠ [] ∧ r.lo = fkey es ∧ r.hi = lkey es ∧ c = 1
 | h + 1, r, es, c => ∃ ts : List (Gr × List En × Nat), At x r.num (nodeO false (refsP (ts.map (·.1))) r.lo r.hi true) ∧ (∀ t ∈ ts, TT x h t.1 t.2.1 t.2.2) ∧ ts ≠ [] ∧ es = (ts.map (·.2.1)).flatten ∧ r.lo = fkey es ∧ r.hi = lkey es ∧ c = (ts.map (·.2.2)).sum + 1
theorem TT.ne {x : Dc} : ∀ {h : Nat} {r : Gr} {es : List En} {c : Nat}, TT x h r es c → es ≠ []
 | 0, _, _, _, h => h.2.1
 | _ + 1, _, _, _, ⟨ts, _, hr, hn, he, _⟩ => by
  cases ts with
  | nil => exact absurd rfl hn
  | cons t ts =>
   have := TT.ne (hr t List.mem_cons_self)
   rw [he]
   simp [this]
theorem TT.pos {x : Dc} {h : Nat} {r : Gr} {es : List En} {c : Nat} (H : TT x h r es c) : 1 ≤ c := by
 cases h with
 | zero => have := H.2.2.2.2; omega
 | succ h => obtain ⟨ts, _, _, _, _, _, _, hc⟩ := H; omega
theorem TT.ends {x : Dc} {h : Nat} {r : Gr} {es : List En} {c : Nat} (H : TT x h r es c) : r.lo = fkey es ∧ r.hi = lkey es := by
 cases h with
 | zero => exact ⟨H.2.2.1, H.2.2.2.1⟩
 | succ h => obtain ⟨ts, _, _, _, _, h1, h2, _⟩ := H; exact ⟨h1, h2⟩
theorem TT.grow {d x : Dc} (hg : Grow d x) : ∀ {h : Nat} {r : Gr} {es : List En} {c : Nat}, TT d h r es c → TT x h r es c
 | 0, _, _, _, h => ⟨h.1.grow hg, h.2⟩
 | _ + 1, _, _, _, ⟨ts, ha, hr, h3⟩ => ⟨ts, ha.grow hg, fun t ht => TT.grow hg (hr t ht), h3⟩
theorem less_last {acc : List En} {x : En} (h : ∀ y ∈ acc, Op.bytesLess y.key x.key = true) : lessE acc x = true := by
 rcases Nat.eq_zero_or_pos acc.length with h0 | h0
 ·simp [lessE, h0]
 ·obtain ⟨a, e, rfl⟩ := split_last (Nat.ne_of_gt h0)
  rw [lessE_last]
  exact h e (by simp)
theorem fold_add : ∀ (es : List En) (n : Nat) (acc : List En), up (acc ++ es) → acc.length + es.length ≤ 8191 → es.foldl addT ⟨0, n, acc⟩ = ⟨0, n, acc ++ es⟩
 | [], n, acc, _, _ => by simp
 | e :: es, n, acc, h, hl => by
  have h1 := up_append h
  have hok : okX acc e := ⟨less_last fun y hy => h1.2.2 y hy e List.mem_cons_self, by simp at hl; omega⟩
  rw [List.foldl_cons, addT_ok hok, fold_add es n (acc ++ [e]) (by simpa using h) (by simp at hl ⊢; omega)]
  simp
theorem read_TT {x : Dc} (hx : docE x = 0) : ∀ (h k : Nat) (r : Gr) (es : List En) (c nodes : Nat) (acc : List En), TT x h r es c → h < k → up (acc ++ es) → acc.length + es.length ≤ 8191 → nodes + c ≤ 4096 →
  thru x k (refO r.num 0) ⟨0, nodes, acc⟩ = ⟨0, nodes + c, acc ++ es⟩
 | 0, k, r, es, c, nodes, acc, H, hk, hu, hl, hn => by
  obtain ⟨k, rfl⟩ : ∃ k', k = k' + 1 := ⟨k - 1, by omega⟩
  have hp := H.pos
  have hf := H.1.follow hx
  have hc := H.2.2.2.2
  have hlo := low_node x es r.lo r.hi true
  rw [thru_succ (by omega) (by rw [hf]; exact .inl hlo.1), hf, hlo.2.1, hlo.2.2, pairsOf_pairsP, fold_add es (nodes + 1) acc hu hl, hc]
  rfl
 | h + 1, k, r, es, c, nodes, acc, ⟨ts, ha, hr, hne, he, _, _, hc⟩, hk, hu, hl, hn => by
  obtain ⟨k, rfl⟩ : ∃ k', k = k' + 1 := ⟨k - 1, by omega⟩
  have hf := ha.follow hx
  have hhi := high_node x (refsP (ts.map (·.1))) r.lo r.hi true
  have hfold : ∀ (ts : List (Gr × List En × Nat)) (n : Nat) (acc : List En), (∀ t ∈ ts, TT x h t.1 t.2.1 t.2.2) → up (acc ++ (ts.map (·.2.1)).flatten) → acc.length + (ts.map (·.2.1)).flatten.length ≤ 8191 → n + (ts.map (·.2.2)).sum ≤ 4096 →
    (refsP (ts.map (·.1))).foldl (kstep x k) ⟨0, n, acc⟩ = ⟨0, n + (ts.map (·.2.2)).sum, acc ++ (ts.map (·.2.1)).flatten⟩ := by
   intro ts
   induction ts with
   | nil => intro n acc _ _ _ _; simp [refsP]
   | cons t ts ih =>
    intro n acc hr hu hl hn
    have e : refsP ((t :: ts).map (·.1)) = refO t.1.num 0 :: refsP (ts.map (·.1)) := rfl
    simp only [List.map_cons, List.flatten_cons, List.sum_cons, List.length_append] at hu hl hn ⊢
    rw [show refsP (t.1 :: ts.map (·.1)) = refO t.1.num 0 :: refsP (ts.map (·.1)) from rfl, List.foldl_cons]
    have hu2 : up ((acc ++ t.2.1) ++ (ts.map (·.2.1)).flatten) := by rw [List.append_assoc]; exact hu
    have h1 : kstep x k ⟨0, n, acc⟩ (refO t.1.num 0) = ⟨0, n + t.2.2, acc ++ t.2.1⟩ := by
     rw [kstep, if_neg (by simp)]
     exact read_TT hx h k t.1 t.2.1 t.2.2 n acc (hr t List.mem_cons_self) (by omega) (up_append hu2).1 (by omega) (by omega)
    rw [h1, ih (n + t.2.2) (acc ++ t.2.1) (fun t' ht => hr t' (List.mem_cons_of_mem _ ht)) hu2 (by simp only [List.length_append]; omega) (by omega)]
    simp only [List.append_assoc, Nat.add_assoc]
  rw [thru_succ (by omega) (by rw [hf]; exact .inr hhi.1), hf, hhi.2.2.1, hhi.2.2.2]
  show (refsP (ts.map (·.1))).foldl (kstep x k) ⟨0, nodes + 1, acc⟩ = _
  rw [hfold ts (nodes + 1) acc hr (by rw [← he]; exact hu) (by rw [← he]; exact hl) (by omega), hc, he]
  congr 1
  omega
theorem findE_none {key : List UInt8} : ∀ {a : List En}, (∀ e ∈ a, e.key ≠ key) → findE key a = (8, Pob.null)
 | [], _ => rfl
 | e :: a, h => by
  rw [findE, if_neg (h e List.mem_cons_self)]
  exact findE_none fun x hx => h x (List.mem_cons_of_mem _ hx)
theorem findE_skip {key : List UInt8} : ∀ {a b : List En}, (∀ e ∈ a, e.key ≠ key) → findE key (a ++ b) = findE key b
 | [], _, _ => rfl
 | e :: a, b, h => by
  rw [List.cons_append, findE, if_neg (h e List.mem_cons_self)]
  exact findE_skip fun x hx => h x (List.mem_cons_of_mem _ hx)
theorem findE_stay {key : List UInt8} : ∀ {a b : List En}, (∀ e ∈ b, e.key ≠ key) → findE key (a ++ b) = findE key a
 | [], b, h => by rw [List.nil_append, findE_none h, findE]
 | e :: a, b, h => by
  rw [List.cons_append, findE, findE]
  split
  ·rfl
  ·exact findE_stay h
theorem fkey_le {es : List En} (h : up es) : ∀ e ∈ es, e.key = fkey es ∨ Op.bytesLess (fkey es) e.key = true := by
 intro e he
 cases es with
 | nil => cases he
 | cons a es =>
  rcases List.mem_cons.1 he with rfl | he
  ·exact .inl rfl
  ·exact .inr ((List.pairwise_cons.1 h).1 e he)
theorem lkey_ge {es : List En} (h : up es) : ∀ e ∈ es, e.key = lkey es ∨ Op.bytesLess e.key (lkey es) = true := by
 intro e he
 have h0 : es.length ≠ 0 := fun h0 => by rw [List.eq_nil_of_length_eq_zero h0] at he; cases he
 obtain ⟨a, l, rfl⟩ := split_last h0
 have hl : lkey (a ++ [l]) = l.key := by simp [lkey]
 rw [hl]
 rcases List.mem_append.1 he with he | he
 ·exact .inr ((up_append h).2.2 e he l (by simp))
 ·simp only [List.mem_singleton] at he
  exact .inl (by rw [he])
theorem lkey_mem {es : List En} (h : es ≠ []) : ∃ e ∈ es, e.key = lkey es := by
 obtain ⟨a, l, rfl⟩ := split_last (fun h0 => h (List.eq_nil_of_length_eq_zero h0))
 exact ⟨l, by simp, by simp [lkey]⟩
theorem le_of {a b : List UInt8} (h : leB a b = true) : a = b ∨ Op.bytesLess a b = true := by
 rcases bl_total a b with e | e | e
 ·exact .inl e
 ·exact .inr e
 ·simp [leB, e] at h
theorem lt_of {a b : List UInt8} (h : ¬ leB a b = true) : Op.bytesLess b a = true := by
 simpa [leB] using h
theorem TT.node {x : Dc} (hx : docE x = 0) {h : Nat} {r : Gr} {es : List En} {c : Nat} (H : TT x h r es c) : limB x (followO x (refO r.num 0)) ∧ limLo x (followO x (refO r.num 0)) = fkey es ∧ limHi x (followO x (refO r.num 0)) = lkey es := by
 obtain ⟨h1, h2⟩ := H.ends
 cases h with
 | zero =>
  rw [H.1.follow hx, ← h1, ← h2]
  exact lim_node x true _ _ _
 | succ h =>
  obtain ⟨ts, ha, _⟩ := H
  rw [ha.follow hx, ← h1, ← h2]
  exact lim_node x false _ _ _
theorem find_kids {x : Dc} (hx : docE x = 0) {key : List UInt8} {h k : Nat} : ∀ ts : List (Gr × List En × Nat), (∀ t ∈ ts, TT x h t.1 t.2.1 t.2.2) → up (ts.map (·.2.1)).flatten → (∀ t ∈ ts, findT x key k (refO t.1.num 0) = findE key t.2.1) →
  (if (downO x key (refsP (ts.map (·.1)))).1 ≠ 0 then ((downO x key (refsP (ts.map (·.1)))).1, Pob.null) else findT x key k (downO x key (refsP (ts.map (·.1)))).2) = findE key (ts.map (·.2.1)).flatten
 | [], _, _, _ => rfl
 | t :: ts, hr, hu, hf => by
  have H := hr t List.mem_cons_self
  obtain ⟨n1, n2, n3⟩ := H.node hx
  simp only [List.map_cons, List.flatten_cons] at hu ⊢
  obtain ⟨u1, u2, u3⟩ := up_append hu
  have e : downO x key (refsP (t.1 :: ts.map (·.1))) = if leB (fkey t.2.1) key && leB key (lkey t.2.1) = true then (0, refO t.1.num 0) else downO x key (refsP (ts.map (·.1))) := by
   rw [show refsP (t.1 :: ts.map (·.1)) = refO t.1.num 0 :: refsP (ts.map (·.1)) from rfl, downO, if_pos n1, n2, n3]
  rw [e]
  by_cases hw : (leB (fkey t.2.1) key && leB key (lkey t.2.1) = true) = true
  ·rw [if_pos hw]
   have hw2 : leB (fkey t.2.1) key = true ∧ leB key (lkey t.2.1) = true := by simpa using hw
   show (if (0 : Int) ≠ 0 then _ else findT x key k (refO t.1.num 0)) = _
   rw [if_neg (by simp), hf t List.mem_cons_self, findE_stay]
   intro y hy hk
   obtain ⟨l, hl, hlk⟩ := lkey_mem H.ne
   have h1 := u3 l hl y hy
   rw [hlk, hk] at h1
   rcases le_of hw2.2 with h2 | h2
   ·rw [h2, bl_irrefl] at h1; cases h1
   ·rw [bl_asymm h2] at h1; cases h1
  ·rw [if_neg hw, findE_skip]
   ·exact find_kids hx ts (fun t' ht => hr t' (List.mem_cons_of_mem _ ht)) u2 (fun t' ht => hf t' (List.mem_cons_of_mem _ ht))
   ·intro y hy hk
    have hw2 : ¬ leB (fkey t.2.1) key = true ∨ ¬ leB key (lkey t.2.1) = true := by
     by_cases h1 : leB (fkey t.2.1) key = true
     ·by_cases h2 : leB key (lkey t.2.1) = true
      ·exact absurd (by simp [h1, h2]) hw
      ·exact .inr h2
     ·exact .inl h1
    rcases hw2 with h2 | h2
    ·have h3 := lt_of h2
     rcases fkey_le u1 y hy with h4 | h4
     ·rw [← h4, hk, bl_irrefl] at h3; cases h3
     ·rw [hk] at h4; rw [bl_asymm h4] at h3; cases h3
    ·have h3 := lt_of h2
     rcases lkey_ge u1 y hy with h4 | h4
     ·rw [← h4, hk, bl_irrefl] at h3; cases h3
     ·rw [hk] at h4; rw [bl_asymm h4] at h3; cases h3
theorem up_flat {ess : List (List En)} (h : up ess.flatten) : ∀ e ∈ ess, up e := by
 induction ess with
 | nil => intro e he; cases he
 | cons a ess ih =>
  intro e he
  rw [List.flatten_cons] at h
  rcases List.mem_cons.1 he with rfl | he
  ·exact (up_append h).1
  ·exact ih (up_append h).2.1 e he
theorem find_TT {x : Dc} (hx : docE x = 0) {key : List UInt8} : ∀ (h k : Nat) (r : Gr) (es : List En) (c : Nat), TT x h r es c → h < k → up es → findT x key k (refO r.num 0) = findE key es
 | 0, k, r, es, c, H, hk, hu => by
  obtain ⟨k, rfl⟩ : ∃ k', k = k' + 1 := ⟨k - 1, by omega⟩
  have hf := H.1.follow hx
  have hlo := low_node x es r.lo r.hi true
  rw [find_low (by rw [hf]; exact hlo.1), hf, hlo.2.1, pairsOf_pairsP]
 | h + 1, k, r, es, c, ⟨ts, ha, hr, hne, he, _, _, hc⟩, hk, hu => by
  obtain ⟨k, rfl⟩ : ∃ k', k = k' + 1 := ⟨k - 1, by omega⟩
  have hf := ha.follow hx
  have hhi := high_node x (refsP (ts.map (·.1))) r.lo r.hi true
  rw [he] at hu ⊢
  rw [find_high (by rw [hf]; exact hhi.1) (by rw [hf]; exact hhi.2.1), hf, hhi.2.2.2]
  exact find_kids hx ts hr hu (fun t ht => find_TT hx h k t.1 t.2.1 t.2.2 (hr t ht) (by omega) (up_flat hu _ (List.mem_map_of_mem ht)))
end Aw
