/- A part of the proof of a law of the seat: no condition of its own. -/
import Derived.Test.YtncdpaekhhcjoaaGreatPart7
namespace Go.Proofs
open Go Aw Go.WideElems Go.Maps Go.RowKit
set_option linter.unusedSimpArgs false
set_option linter.unusedVariables false
set_option maxRecDepth 100000
set_option maxHeartbeats 4000000

def intV : Value → Int
  | .int _ n => n
  | _ => 0
theorem set_owns {m : Mem} {ri : RI} {s : List Int} (hb : BlkRep m ri (setOf (fun n => AV.int .i64 n) s)) (hwf : ∀ x ∈ s, (Lit.int .i64 x).wf = true) (hl : s.length ≤ 16777216) :
    ∃ D0 : DataW Unit, m.w.ownsMap Tryz.prog 3 (plainElem Tryz.prog 4) ri.b s.length D0 ∧ (intKeys D0).Perm s ∧ Maps.size D0 = s.length := by
  obtain ⟨h1, h2, h3, es, clock, h4, h5, h6, h7⟩ := set_blk (keyOk_int .i64) hb
  have hlen : es.size = s.length := by
    have := congrArg List.length h5
    simpa using this
  have hkey : ∀ x ∈ es.toList, x.key = .int .i64 (intV x.key) ∧ (Lit.int .i64 (intV x.key)).wf = true := by
    intro x hx
    have : x.key ∈ s.map (fun n : Int => Value.int .i64 n) := by rw [← h5]; exact List.mem_map_of_mem hx
    obtain ⟨n, hn, e⟩ := List.mem_map.1 this
    rw [← e]
    exact ⟨rfl, hwf n hn⟩
  have hval : ∀ x ∈ es.toList, x.val = .bool true := by
    intro x hx
    have : x.val ∈ s.map (fun _ : Int => Value.bool true) := by rw [← h6]; exact List.mem_map_of_mem hx
    obtain ⟨n, hn, e⟩ := List.mem_map.1 this
    exact e.symm
  have hrd : ∀ x ∈ es.toList, rd Tryz.prog 3 (plainElem (H := Unit) Tryz.prog 4) x = some (.int .i64 (intV x.key), .lit (.bool true)) := by
    intro x hx
    obtain ⟨k1, k2⟩ := hkey x hx
    have hk : keyOf Tryz.prog 3 x.key = some (.int .i64 (intV x.key)) := by
      generalize intV x.key = n at k1 k2
      rw [k1]
      simp [keyOf, Tryz.underlying3, mapKey, k2]
    have hv : plainElem (H := Unit) Tryz.prog 4 x.val = some (.lit (.bool true), []) := by rw [hval x hx]; exact plainElem_bool Tryz.underlying4 true
    exact rd_mk (born := x.born) hk hv
  refine ⟨.map ((es.toList.map (rg Tryz.prog 3 (plainElem Tryz.prog 4))).foldr DataW.insert []), ⟨es, clock, h4, ⟨by rw [hlen]; simp only [maxLen]; omega, h7, fun x hx => ⟨_, hrd x hx⟩⟩, by rw [hlen]; exact Nat.le_refl _, rfl⟩, ?_, ?_⟩
  · simp only [intKeys]
    refine ((Go.WideShapes.sorted_perm _).map _).trans ?_
    rw [List.map_map]
    have : es.toList.map ((fun p : Lit × DataW Unit => Go.intOf p.1) ∘ rg Tryz.prog 3 (plainElem Tryz.prog 4)) = s := by
      have e1 : es.toList.map ((fun p : Lit × DataW Unit => Go.intOf p.1) ∘ rg Tryz.prog 3 (plainElem Tryz.prog 4)) = (es.toList.map (·.key)).map intV := by
        rw [List.map_map]
        refine List.map_congr_left fun x hx => ?_
        simp only [Function.comp, rg_of (hrd x hx), Go.intOf]
      rw [e1, h5, List.map_map]
      have : (intV ∘ fun n : Int => Value.int .i64 n) = id := rfl
      rw [this, List.map_id]
    rw [this]
  · simp only [Maps.size, length_sorted, List.length_map]
    simpa using hlen
theorem repE_ints {m : Mem} {g : Nat} : ∀ (l : List Int) (o : Nat), (∀ i, i < l.length → m.F g (o + i) ∧ m.w.cell? ⟨g, o + i, none⟩ = some (.int .i64 (l.getD i 0))) → RepE m (intsAV l) g o 1
  | [], _, _ => by simp only [intsAV, List.map_nil, RepE]
  | x :: l, o, h => by
    simp only [intsAV, List.map_cons, RepE, RepC, Rep]
    have h0 := h 0 (by simp)
    refine ⟨rfl, ⟨by simpa using h0.1, ⟨_, by simpa using h0.2, rfl⟩, trivial⟩, ?_⟩
    refine repE_ints l (o + 1) fun i hi => ?_
    have := h (i + 1) (by simp; omega)
    rw [show o + (i + 1) = o + 1 + i from by omega] at this
    simpa using this
/-- the world behind a call that laid a new row at 'g' -/
def Mem.rowed (m : Mem) (w' : World) (g len : Nat) : Mem := { m with w := w', F := fun b o => m.F b o ∨ (b = g ∧ o < len) }
theorem rowed_ok {m : Mem} {hp : List (Nat × ABlk)} {nx : Nat} {w' : World} {g len : Nat} (hH : SimH m hp nx) (hbel : Below m.w.heap.size m.w w') (hg : 0 < len → m.w.heap.size ≤ g ∧ g < w'.heap.size) :
    m.le (Mem.rowed m w' g len) ∧ SimH (Mem.rowed m w' g len) hp nx := by
  have hcell : ∀ b o, m.F b o → w'.cell? ⟨b, o, none⟩ = m.w.cell? ⟨b, o, none⟩ := fun b o hf => cell?_of_block (hbel.block b (hH.Fold b o hf))
  refine ⟨⟨hbel.os, hbel.tape, hbel.output, hbel.size, rfl, fun b hb => hbel.block b (hH.Pold b hb), fun _ _ h => .inl h, hcell, fun b o hb hf => ?_, rfl, fun _ _ _ h => h⟩, ?_⟩
  · rcases hf with hf | ⟨rfl, ho⟩
    · exact hf
    · have := hH.Pold _ hb
      have := hg (by omega)
      omega
  · refine ⟨fun id x hx => ?_, hH.apart, hH.fresh, fun b o hf => ?_, fun b hb => Nat.lt_of_lt_of_le (hH.Pold b hb) hbel.size⟩
    · obtain ⟨ri, h1, h2⟩ := hH.blk id x hx
      refine ⟨ri, h1, ?_⟩
      have hm : MapOk m (Mem.rowed m w' g len) (fun i => i) := ⟨fun _ h => h, fun b hb => hbel.block b (hH.Pold b hb), fun _ _ h => .inl h, hcell, fun _ _ h => h⟩
      have := BlkRep.map hm (fun hn => hbel.block ri.b (h2.lt hn)) (fun hn => h2.noPr hn) (fun hn o hf => by
        rcases hf with hf | ⟨e, ho⟩
        · exact hf
        · have := h2.lt hn
          have := hg (by omega)
          omega) h2
      rw [renB_id] at this
      exact this
    · rcases hf with hf | ⟨rfl, ho⟩
      · exact Nat.lt_of_lt_of_le (hH.Fold b o hf) hbel.size
      · exact (hg (by omega)).2
theorem h_slices_Sorted (gl : List (Nat × AV)) (s : List Int) (hwf : ∀ x ∈ s, (Lit.int .i64 x).wf = true) (hl : s.length ≤ 16777216) :
    FnT (fun _ => True) Tryz.prog gl 134 [.clos 176 [.ptr 1 0]] [(0, setOf (fun n => AV.int .i64 n) s), (1, .cells [.map 0])] 2 fun r h n => r = .ret (.sl (intsAV (sortI s))) ∧ h = [(0, setOf (fun n => AV.int .i64 n) s), (1, .cells [.map 0])] ∧ n = 2 := by
  refine ⟨Aw.enters_of Tryz.func134 rfl rfl, fun m vs hm _ hv => ?_⟩
  obtain ⟨ri0, r0, b0⟩ := hm.h.blk 0 _ rfl
  obtain ⟨ri1, r1, b1⟩ := hm.h.blk 1 _ rfl
  obtain ⟨n1, _, f1, c, T, hc, hcl⟩ := b1
  simp only [RepL, Rep] at hcl hv
  obtain ⟨v0, rest0, hc0, ⟨_, ri0', r0', rfl⟩, rfl⟩ := hcl
  rw [r0] at r0'
  injection r0' with r0'
  subst r0'
  obtain ⟨v, rest, rfl, ⟨cv, rfl, v1, rest1, hcv, ⟨_, ri1', r1', rfl⟩, rfl⟩, rfl⟩ := hv
  rw [r1] at r1'
  injection r1' with r1'
  subst r1'
  have hcv' : cv = #[.pointer (some ⟨ri1.b, 0, none⟩)] := by
    apply Array.ext'
    exact hcv
  subst hcv'
  have hc' : c = #[.map (some ri0.b)] := by
    apply Array.ext'
    exact hc0
  subst hc'
  obtain ⟨D0, hown, hperm, hsize⟩ := set_owns b0 hwf hl
  have hb1 : ri1.b < m.w.heap.size := lt_of_getElem? hc
  have hcell : m.w.cell? ⟨ri1.b, 0, none⟩ = some (.map (some ri0.b)) := by simp [World.cell?, hc]
  have hcall := Tryz.sortedKeys ri1.b ri0.b s.length D0 (plainElem Tryz.prog 4) m.w hb1 hcell hown (by rw [hsize]; simp only [maxLen]; omega) (by rw [hsize]; omega)
  refine hcall.mono ?_
  rintro e w' ⟨v, ss, rfl, hp, hrow, _, hbel⟩
  have hss : ss.mergeSort (fun x y => decide (x ≤ y)) = sortI s := mergeSort_of_perm_i (hp.trans hperm)
  have hsl : ss.length = s.length := (hp.trans hperm).length_eq
  rw [hss] at hrow
  have hlen : (sortI s).length = ss.length := by rw [← hss]; exact (List.mergeSort_perm _ _).length_eq
  obtain ⟨_, ⟨rfl, h0⟩ | ⟨g, cap, cur, rfl, hgb, hgc, hcap, _, hcs, hct⟩⟩ := hrow
  · obtain ⟨h1, h2⟩ := rowed_ok (g := 0) (len := 0) hm.h hbel (fun h => by omega)
    have hnil : sortI s = [] := List.eq_nil_of_length_eq_zero (by omega)
    refine ⟨_, .ret (.sl (intsAV (sortI s))), _, _, rfl, h1, h2, ⟨_, rfl, ?_⟩, rfl, rfl, rfl⟩
    rw [hnil]
    simp only [Rep]
    exact .inl ⟨rfl, none, 0, rfl⟩
  · obtain ⟨h1, h2⟩ := rowed_ok (g := g) (len := ss.length) hm.h hbel (fun _ => ⟨hgb, lt_of_getElem? hgc⟩)
    refine ⟨_, .ret (.sl (intsAV (sortI s))), _, _, rfl, h1, h2, ⟨_, rfl, ?_⟩, rfl, rfl, rfl⟩
    simp only [Rep]
    refine .inr ⟨g, 0, cap, 1, by rw [show (intsAV (sortI s)).length = ss.length from by rw [← hlen]; simp [intsAV]], by rw [show (intsAV (sortI s)).length = ss.length from by rw [← hlen]; simp [intsAV]]; exact hcap, ?_⟩
    refine repE_ints _ 0 fun i hi => ⟨.inr ⟨rfl, by omega⟩, ?_⟩
    have hcur : cur[i]? = some (.int .i64 ((sortI s).getD i 0)) := by
      have e : (cur.toList.take (ss.length * 1))[i]? = ((sortI s).map encZ)[i]? := by rw [hct]
      rw [List.getElem?_take_of_lt (by omega), Array.getElem?_toList, List.getElem?_map, List.getElem?_eq_getElem hi] at e
      rw [e]
      simp [List.getD, hi]
    show w'.cell? ⟨g, 0 + i, none⟩ = _
    simp [World.cell?, hgc, hcur]
theorem c_value_Refs (gl : List (Nat × AV)) (o : Pob) (h : o.bulk ≤ 16777216 := by first | omega | assumption) : FnP Tryz.prog gl 66 [.agg o.cells] fun r => r = .ret (.sl (intsAV (refsO o))) := by
  refine c_value_Refs_of gl o h (h_slices_Sorted gl _ (fun x hx => ?_) ?_)
  · have := refStp_wf o.pre [] (fun _ h => by cases h) x hx
    have e1 : IntKind.i64.min = -9223372036854775808 := by decide
    have e2 : IntKind.i64.max = 9223372036854775807 := by decide
    simp only [Lit.wf, e1, e2, Bool.and_eq_true, decide_eq_true_eq]
    omega
  · have h1 := refStp_len o.pre []
    have h2 := Pob.pre_le o
    rw [List.length_nil, Nat.zero_add] at h1
    omega
end Go.Proofs

namespace Go.Proofs
open Go Aw
set_option linter.unusedSimpArgs false
set_option linter.unusedVariables false
set_option maxRecDepth 100000
set_option maxHeartbeats 4000000

theorem h_Insert_string (gl : List (Nat × AV)) (es : List (List AV)) (e : List AV) (i : Nat) (hes : ∀ e ∈ es, okRow 1 e = true) (he : okRow 1 e = true) (hi : i ≤ es.length) (hl : es.length ≤ 16777216) : FnH Tryz.prog (gl) 154 [.row 0 0 es.length, .int .i64 i, .row 1 0 1] ([(0, .row 1 es true), (1, .row 1 [e] true)]) 2 (fun r h n => r = .ret (.row 2 0 (es.length + 1)) ∧ h = [(1, .row 1 [e] true), (2, .row 1 (es.take i ++ e :: es.drop i) true)] ∧ n = 3) := by
  refine FnH.intro Tryz.func154 rfl rfl (by simp [Tryz.ntmps154]) ?_
  simp only [argEnv, Tryz.ntmps154, Tryz.results154]
  refine AW.rS ?_
  refine AW.rS ?_
  refine AW.rS ?_
  refine AW.seq ?_
  refine AW.rS ?_
  refine AW.c2 ?_ ?_
  · intro h6
    refine AW.rS ?_
    refine AW.rt ?_
    all_goals first | contradiction | rfl | (simp; done) | (simp; omega)
  · intro h6
    refine AW.skip ?_
    refine AW.rS ?_
    refine AW.seq ?_
    refine AW.rS ?_
    refine AW.c2 ?_ ?_
    · intro h14
      refine AW.rS ?_
      refine AW.rt ?_
      obtain rfl : i = es.length := by omega
      simp
    · intro h14
      refine AW.skip ?_
      refine AW.seq ?_
      refine AW.tf 0 (fun sp hsp hse => ?_)
      refine AW.rSC ?_
      refine awOps.cons ?_
      refine awGuard.fcp  ?_
      refine awOps.rn ?_
      refine AW.c2 ?_ ?_
      · intro h23
        refine AW.rSC ?_
        refine awOps.cons ?_
        refine awGuard.fzr (es.length + 1 - i) ?_ ?_ ?_ ?_ ?_ ?_
        · first | omega | (simp; done) | (simp; omega)
        · first | omega | (simp; done) | (simp; omega)
        · first | omega | (simp; done) | (simp; omega)
        · first | omega | (simp; done) | (simp; omega)
        · show (i + (es.length + 1 - i)) * 16 ≤ _; omega
        refine awOps.rn ?_
        refine AW.rSC ?_
        refine awOps.cons ?_
        refine awGuard.cpR 1 ?_ ?_ ?_ ?_
        · first | omega | (simp; done) | (simp; omega)
        · first | omega | (simp; done) | (simp; omega)
        · simp [he]
        refine awOps.rn ?_
        refine AW.dSC [(0, 0), (1, 0), (2, 0), (3, 0), (4, 1), (5, 0), (6, 0), (7, 1), (8, 2)] ?_
        refine awPlan.only rfl ?_
        refine awGuard.cpR (es.length - i) ?_ ?_ ?_ ?_
        · first | omega | (simp; done) | (simp; omega)
        · simp [splice]; omega
        · exact ⟨by omega, fun x hx => hes x (mem_mid hse hx)⟩
        refine awPlan.rn ?_
        refine AW.rS ?_
        refine AW.drop 0 ?_
        refine AW.rt ?_
        rw [ins_new hse rfl (by omega) (by simp), show i + (es.length + 1 - i) = es.length + 1 from by omega]
        exact ⟨rfl, rfl⟩
      · intro h23
        refine AW.skip ?_
        refine AW.rS ?_
        refine AW.seq ?_
        refine AW.rSC ?_
        refine awOps.cons ?_
        refine awGuard.ovr (tS := 23) (tR := 4) (e := 9) Tryz.func182 ?_ ?_
        · first | omega | (simp; done) | (simp; omega)
        refine awOps.rn ?_
        refine AW.c2 ?_ ?_
        · intro h42
          refine AW.dSC [(0, 0), (1, 0), (2, 0), (3, 0), (4, 1), (5, 0), (6, 0), (7, 1), (8, 2)] ?_
          refine awPlan.only rfl ?_
          refine awGuard.cpF (es.length - i) ?_ ?_ ?_ ?_
          · first | omega | (simp; done) | (simp; omega)
          · first | omega | (simp; done) | (simp; omega)
          · exact ⟨by omega, fun x hx => hes x (mem_mid hse hx)⟩
          refine awPlan.rn ?_
          have hsl : (splice sp (i + 1) (List.take (es.length - i) (List.drop i sp))).length = sp.length := splice_len (by simp; omega)
          refine AW.rSC ?_
          refine awOps.cons ?_
          refine awGuard.cpF 1 ?_ ?_ ?_ ?_
          · first | omega | (simp; done) | (simp; omega)
          · first | omega | (simp; done) | (simp; omega)
          · simp [he]
          refine awOps.rn ?_
          refine AW.rS ?_
          refine AW.uf 0 (es.length + 1) ?_
          refine AW.rnm 6 ?_
          refine AW.rt ?_
          rw [ins_in hse rfl (by omega) (by omega)]
        · intro h42
          cases h42
theorem h_Insert_Object (gl : List (Nat × AV)) (es : List (List AV)) (e : List AV) (i : Nat) (hes : ∀ e ∈ es, okRow 6 e = true) (he : okRow 6 e = true) (hi : i ≤ es.length) (hl : es.length ≤ 16777216) : FnH Tryz.prog (gl) 155 [.row 0 0 es.length, .int .i64 i, .row 1 0 1] ([(0, .row 6 es true), (1, .row 6 [e] true)]) 2 (fun r h n => r = .ret (.row 2 0 (es.length + 1)) ∧ h = [(1, .row 6 [e] true), (2, .row 6 (es.take i ++ e :: es.drop i) true)] ∧ n = 3) := by
  refine FnH.intro Tryz.func155 rfl rfl (by simp [Tryz.ntmps155]) ?_
  simp only [argEnv, Tryz.ntmps155, Tryz.results155]
  refine AW.rS ?_
  refine AW.rS ?_
  refine AW.rS ?_
  refine AW.seq ?_
  refine AW.rS ?_
  refine AW.c2 ?_ ?_
  · intro h6
    refine AW.rS ?_
    refine AW.rt ?_
    all_goals first | contradiction | rfl | (simp; done) | (simp; omega)
  · intro h6
    refine AW.skip ?_
    refine AW.rS ?_
    refine AW.seq ?_
    refine AW.rS ?_
    refine AW.c2 ?_ ?_
    · intro h14
      refine AW.rS ?_
      refine AW.rt ?_
      obtain rfl : i = es.length := by omega
      simp
    · intro h14
      refine AW.skip ?_
      refine AW.seq ?_
      refine AW.tf 0 (fun sp hsp hse => ?_)
      refine AW.rSC ?_
      refine awOps.cons ?_
      refine awGuard.fcp  ?_
      refine awOps.rn ?_
      refine AW.c2 ?_ ?_
      · intro h23
        refine AW.rSC ?_
        refine awOps.cons ?_
        refine awGuard.fzr (es.length + 1 - i) ?_ ?_ ?_ ?_ ?_ ?_
        · first | omega | (simp; done) | (simp; omega)
        · first | omega | (simp; done) | (simp; omega)
        · first | omega | (simp; done) | (simp; omega)
        · first | omega | (simp; done) | (simp; omega)
        · show (i + (es.length + 1 - i)) * 88 ≤ _; omega
        refine awOps.rn ?_
        refine AW.rSC ?_
        refine awOps.cons ?_
        refine awGuard.cpR 1 ?_ ?_ ?_ ?_
        · first | omega | (simp; done) | (simp; omega)
        · first | omega | (simp; done) | (simp; omega)
        · simp [he]
        refine awOps.rn ?_
        refine AW.dSC [(0, 0), (1, 0), (2, 0), (3, 0), (4, 1), (5, 0), (6, 0), (7, 1), (8, 2)] ?_
        refine awPlan.only rfl ?_
        refine awGuard.cpR (es.length - i) ?_ ?_ ?_ ?_
        · first | omega | (simp; done) | (simp; omega)
        · simp [splice]; omega
        · exact ⟨by omega, fun x hx => hes x (mem_mid hse hx)⟩
        refine awPlan.rn ?_
        refine AW.rS ?_
        refine AW.drop 0 ?_
        refine AW.rt ?_
        rw [ins_new hse rfl (by omega) (by simp), show i + (es.length + 1 - i) = es.length + 1 from by omega]
        exact ⟨rfl, rfl⟩
      · intro h23
        refine AW.skip ?_
        refine AW.rS ?_
        refine AW.seq ?_
        refine AW.rSC ?_
        refine awOps.cons ?_
        refine awGuard.ovr (tS := 24) (tR := 4) (e := 26) Tryz.func184 ?_ ?_
        · first | omega | (simp; done) | (simp; omega)
        refine awOps.rn ?_
        refine AW.c2 ?_ ?_
        · intro h42
          refine AW.dSC [(0, 0), (1, 0), (2, 0), (3, 0), (4, 1), (5, 0), (6, 0), (7, 1), (8, 2)] ?_
          refine awPlan.only rfl ?_
          refine awGuard.cpF (es.length - i) ?_ ?_ ?_ ?_
          · first | omega | (simp; done) | (simp; omega)
          · first | omega | (simp; done) | (simp; omega)
          · exact ⟨by omega, fun x hx => hes x (mem_mid hse hx)⟩
          refine awPlan.rn ?_
          have hsl : (splice sp (i + 1) (List.take (es.length - i) (List.drop i sp))).length = sp.length := splice_len (by simp; omega)
          refine AW.rSC ?_
          refine awOps.cons ?_
          refine awGuard.cpF 1 ?_ ?_ ?_ ?_
          · first | omega | (simp; done) | (simp; omega)
          · first | omega | (simp; done) | (simp; omega)
          · simp [he]
          refine awOps.rn ?_
          refine AW.rS ?_
          refine AW.uf 0 (es.length + 1) ?_
          refine AW.rnm 6 ?_
          refine AW.rt ?_
          rw [ins_in hse rfl (by omega) (by omega)]
        · intro h42
          cases h42
theorem h_Insert_Item (gl : List (Nat × AV)) (es : List (List AV)) (e : List AV) (i : Nat) (hes : ∀ e ∈ es, okRow 8 e = true) (he : okRow 8 e = true) (hi : i ≤ es.length) (hl : es.length ≤ 16777216) : FnH Tryz.prog (gl) 144 [.row 0 0 es.length, .int .i64 i, .row 1 0 1] ([(0, .row 8 es true), (1, .row 8 [e] true)]) 2 (fun r h n => r = .ret (.row 2 0 (es.length + 1)) ∧ h = [(1, .row 8 [e] true), (2, .row 8 (es.take i ++ e :: es.drop i) true)] ∧ n = 3) := by
  refine FnH.intro Tryz.func144 rfl rfl (by simp [Tryz.ntmps144]) ?_
  simp only [argEnv, Tryz.ntmps144, Tryz.results144]
  refine AW.rS ?_
  refine AW.rS ?_
  refine AW.rS ?_
  refine AW.seq ?_
  refine AW.rS ?_
  refine AW.c2 ?_ ?_
  · intro h6
    refine AW.rS ?_
    refine AW.rt ?_
    all_goals first | contradiction | rfl | (simp; done) | (simp; omega)
  · intro h6
    refine AW.skip ?_
    refine AW.rS ?_
    refine AW.seq ?_
    refine AW.rS ?_
    refine AW.c2 ?_ ?_
    · intro h14
      refine AW.rS ?_
      refine AW.rt ?_
      obtain rfl : i = es.length := by omega
      simp
    · intro h14
      refine AW.skip ?_
      refine AW.seq ?_
      refine AW.tf 0 (fun sp hsp hse => ?_)
      refine AW.rSC ?_
      refine awOps.cons ?_
      refine awGuard.fcp  ?_
      refine awOps.rn ?_
      refine AW.c2 ?_ ?_
      · intro h23
        refine AW.rSC ?_
        refine awOps.cons ?_
        refine awGuard.fzr (es.length + 1 - i) ?_ ?_ ?_ ?_ ?_ ?_
        · first | omega | (simp; done) | (simp; omega)
        · first | omega | (simp; done) | (simp; omega)
        · first | omega | (simp; done) | (simp; omega)
        · first | omega | (simp; done) | (simp; omega)
        · show (i + (es.length + 1 - i)) * 104 ≤ _; omega
        refine awOps.rn ?_
        refine AW.rSC ?_
        refine awOps.cons ?_
        refine awGuard.cpR 1 ?_ ?_ ?_ ?_
        · first | omega | (simp; done) | (simp; omega)
        · first | omega | (simp; done) | (simp; omega)
        · simp [he]
        refine awOps.rn ?_
        refine AW.dSC [(0, 0), (1, 0), (2, 0), (3, 0), (4, 1), (5, 0), (6, 0), (7, 1), (8, 2)] ?_
        refine awPlan.only rfl ?_
        refine awGuard.cpR (es.length - i) ?_ ?_ ?_ ?_
        · first | omega | (simp; done) | (simp; omega)
        · simp [splice]; omega
        · exact ⟨by omega, fun x hx => hes x (mem_mid hse hx)⟩
        refine awPlan.rn ?_
        refine AW.rS ?_
        refine AW.drop 0 ?_
        refine AW.rt ?_
        rw [ins_new hse rfl (by omega) (by simp), show i + (es.length + 1 - i) = es.length + 1 from by omega]
        exact ⟨rfl, rfl⟩
      · intro h23
        refine AW.skip ?_
        refine AW.rS ?_
        refine AW.seq ?_
        refine AW.rSC ?_
        refine awOps.cons ?_
        refine awGuard.ovr (tS := 22) (tR := 4) (e := 30) Tryz.func178 ?_ ?_
        · first | omega | (simp; done) | (simp; omega)
        refine awOps.rn ?_
        refine AW.c2 ?_ ?_
        · intro h42
          refine AW.dSC [(0, 0), (1, 0), (2, 0), (3, 0), (4, 1), (5, 0), (6, 0), (7, 1), (8, 2)] ?_
          refine awPlan.only rfl ?_
          refine awGuard.cpF (es.length - i) ?_ ?_ ?_ ?_
          · first | omega | (simp; done) | (simp; omega)
          · first | omega | (simp; done) | (simp; omega)
          · exact ⟨by omega, fun x hx => hes x (mem_mid hse hx)⟩
          refine awPlan.rn ?_
          have hsl : (splice sp (i + 1) (List.take (es.length - i) (List.drop i sp))).length = sp.length := splice_len (by simp; omega)
          refine AW.rSC ?_
          refine awOps.cons ?_
          refine awGuard.cpF 1 ?_ ?_ ?_ ?_
          · first | omega | (simp; done) | (simp; omega)
          · first | omega | (simp; done) | (simp; omega)
          · simp [he]
          refine awOps.rn ?_
          refine AW.rS ?_
          refine AW.uf 0 (es.length + 1) ?_
          refine AW.rnm 6 ?_
          refine AW.rt ?_
          rw [ins_in hse rfl (by omega) (by omega)]
        · intro h42
          cases h42
end Go.Proofs

namespace Go.Proofs
open Go Aw
set_option linter.unusedSimpArgs false
set_option linter.unusedVariables false
set_option maxRecDepth 100000
set_option maxHeartbeats 4000000

theorem h_Delete_string (gl : List (Nat × AV)) (es : List (List AV)) (i j : Nat) (hes : ∀ e ∈ es, okRow 1 e = true) (hij : i < j) (hj : j ≤ es.length) (hl : es.length ≤ 16777216) : FnH Tryz.prog (gl) 170 [.row 0 0 es.length, .int .i64 i, .int .i64 j] ([(0, .row 1 es true)]) 1 (fun r h n => r = .ret (.row 0 0 (i + (es.length - j))) ∧ h = [(0, .row 1 (es.take i ++ es.drop j) true)] ∧ n = 1) := by
  refine FnH.intro Tryz.func170 rfl rfl (by simp [Tryz.ntmps170]) ?_
  simp only [argEnv, Tryz.ntmps170, Tryz.results170]
  refine AW.rS ?_
  refine AW.rSC ?_
  refine awOps.cons ?_
  refine awGuard.s3 ?_ ?_
  · first | omega | (simp; done) | (simp; omega)
  refine awOps.rn ?_
  refine AW.seq ?_
  refine AW.rS ?_
  refine AW.c2 ?_ ?_
  · intro h7
    refine AW.rS ?_
    refine AW.rt ?_
    all_goals first | contradiction | rfl | (simp; done) | (simp; omega)
  · intro h7
    refine AW.skip ?_
    refine AW.tf 0 (fun sp hsp hse => ?_)
    have htl : (List.take (es.length - j) (List.drop j sp)).length = es.length - j := by simp; omega
    have hsl : (splice sp i (List.take (es.length - j) (List.drop j sp))).length = sp.length := splice_len (by omega)
    refine AW.rS ?_
    refine AW.dSC [(0, 0), (1, 0), (2, 1), (3, 0), (4, 0), (5, 1), (6, 2), (7, 0)] ?_
    refine awPlan.only rfl ?_
    refine awGuard.apF ?_ ?_ ?_
    · exact ⟨by omega, fun x hx => hes x (mem_mid hse hx)⟩
    · omega
    refine awPlan.rn ?_
    refine AW.rSC ?_
    refine awOps.cons ?_
    refine awGuard.fcr ?_ ?_
    · omega
    refine awOps.rn ?_
    refine AW.uf 0 (i + (es.length - j)) ?_
    refine AW.rS ?_
    refine AW.rt ?_
    rw [htl, del_in hse rfl (by omega) hj rfl]
    exact ⟨rfl, rfl⟩
theorem h_Delete_Object (gl : List (Nat × AV)) (es : List (List AV)) (i j : Nat) (hes : ∀ e ∈ es, okRow 6 e = true) (hij : i < j) (hj : j ≤ es.length) (hl : es.length ≤ 16777216) : FnH Tryz.prog (gl) 171 [.row 0 0 es.length, .int .i64 i, .int .i64 j] ([(0, .row 6 es true)]) 1 (fun r h n => r = .ret (.row 0 0 (i + (es.length - j))) ∧ h = [(0, .row 6 (es.take i ++ es.drop j) true)] ∧ n = 1) := by
  refine FnH.intro Tryz.func171 rfl rfl (by simp [Tryz.ntmps171]) ?_
  simp only [argEnv, Tryz.ntmps171, Tryz.results171]
  refine AW.rS ?_
  refine AW.rSC ?_
  refine awOps.cons ?_
  refine awGuard.s3 ?_ ?_
  · first | omega | (simp; done) | (simp; omega)
  refine awOps.rn ?_
  refine AW.seq ?_
  refine AW.rS ?_
  refine AW.c2 ?_ ?_
  · intro h7
    refine AW.rS ?_
    refine AW.rt ?_
    all_goals first | contradiction | rfl | (simp; done) | (simp; omega)
  · intro h7
    refine AW.skip ?_
    refine AW.tf 0 (fun sp hsp hse => ?_)
    have htl : (List.take (es.length - j) (List.drop j sp)).length = es.length - j := by simp; omega
    have hsl : (splice sp i (List.take (es.length - j) (List.drop j sp))).length = sp.length := splice_len (by omega)
    refine AW.rS ?_
    refine AW.dSC [(0, 0), (1, 0), (2, 1), (3, 0), (4, 0), (5, 1), (6, 2), (7, 0)] ?_
    refine awPlan.only rfl ?_
    refine awGuard.apF ?_ ?_ ?_
    · exact ⟨by omega, fun x hx => hes x (mem_mid hse hx)⟩
    · omega
    refine awPlan.rn ?_
    refine AW.rSC ?_
    refine awOps.cons ?_
    refine awGuard.fcr ?_ ?_
    · omega
    refine awOps.rn ?_
    refine AW.uf 0 (i + (es.length - j)) ?_
    refine AW.rS ?_
    refine AW.rt ?_
    rw [htl, del_in hse rfl (by omega) hj rfl]
    exact ⟨rfl, rfl⟩
theorem h_Delete_Item (gl : List (Nat × AV)) (es : List (List AV)) (i j : Nat) (hes : ∀ e ∈ es, okRow 8 e = true) (hij : i < j) (hj : j ≤ es.length) (hl : es.length ≤ 16777216) : FnH Tryz.prog (gl) 146 [.row 0 0 es.length, .int .i64 i, .int .i64 j] ([(0, .row 8 es true)]) 1 (fun r h n => r = .ret (.row 0 0 (i + (es.length - j))) ∧ h = [(0, .row 8 (es.take i ++ es.drop j) true)] ∧ n = 1) := by
  refine FnH.intro Tryz.func146 rfl rfl (by simp [Tryz.ntmps146]) ?_
  simp only [argEnv, Tryz.ntmps146, Tryz.results146]
  refine AW.rS ?_
  refine AW.rSC ?_
  refine awOps.cons ?_
  refine awGuard.s3 ?_ ?_
  · first | omega | (simp; done) | (simp; omega)
  refine awOps.rn ?_
  refine AW.seq ?_
  refine AW.rS ?_
  refine AW.c2 ?_ ?_
  · intro h7
    refine AW.rS ?_
    refine AW.rt ?_
    all_goals first | contradiction | rfl | (simp; done) | (simp; omega)
  · intro h7
    refine AW.skip ?_
    refine AW.tf 0 (fun sp hsp hse => ?_)
    have htl : (List.take (es.length - j) (List.drop j sp)).length = es.length - j := by simp; omega
    have hsl : (splice sp i (List.take (es.length - j) (List.drop j sp))).length = sp.length := splice_len (by omega)
    refine AW.rS ?_
    refine AW.dSC [(0, 0), (1, 0), (2, 1), (3, 0), (4, 0), (5, 1), (6, 2), (7, 0)] ?_
    refine awPlan.only rfl ?_
    refine awGuard.apF ?_ ?_ ?_
    · exact ⟨by omega, fun x hx => hes x (mem_mid hse hx)⟩
    · omega
    refine awPlan.rn ?_
    refine AW.rSC ?_
    refine awOps.cons ?_
    refine awGuard.fcr ?_ ?_
    · omega
    refine awOps.rn ?_
    refine AW.uf 0 (i + (es.length - j)) ?_
    refine AW.rS ?_
    refine AW.rt ?_
    rw [htl, del_in hse rfl (by omega) hj rfl]
    exact ⟨rfl, rfl⟩
end Go.Proofs

namespace Go.Proofs
open Go Aw
set_option linter.unusedSimpArgs false
set_option linter.unusedVariables false
set_option maxRecDepth 100000
set_option maxHeartbeats 4000000

theorem c_cmp_isNaN_string (gl : List (Nat × AV)) (s : List UInt8) : FnP Tryz.prog (gl) 190 [.str s] fun r => r = .ret (.bool false) := by
  refine FnP.intro Tryz.func190 rfl rfl (by simp [Tryz.ntmps190]) ?_
  simp only [argEnv, Tryz.ntmps190, Tryz.results190]
  refine AW.rS ?_
  refine AW.rS ?_
  refine AW.rt ?_
  all_goals first | contradiction | rfl | (simp; done) | (simp; omega)
theorem c_slices_isNaN_string (gl : List (Nat × AV)) (s : List UInt8) : FnP Tryz.prog (gl) 169 [.str s] fun r => r = .ret (.bool false) := by
  refine FnP.intro Tryz.func169 rfl rfl (by simp [Tryz.ntmps169]) ?_
  simp only [argEnv, Tryz.ntmps169, Tryz.results169]
  refine AW.rS ?_
  refine AW.rS ?_
  refine AW.rt ?_
  all_goals first | contradiction | rfl | (simp; done) | (simp; omega)
theorem c_cmp_Less_string (gl : List (Nat × AV)) (s t : List UInt8) : FnP Tryz.prog (gl) 168 [.str s, .str t] fun r => r = .ret (.bool (Op.bytesLess s t)) := by
  refine FnP.intro Tryz.func168 rfl rfl (by simp [Tryz.ntmps168]) ?_
  simp only [argEnv, Tryz.ntmps168, Tryz.results168]
  refine AW.rS ?_
  refine AW.rSC ?_
  refine awOps.cons (awGuard.c1 (c_cmp_isNaN_string _ s) ?_)
  refine awOps.rn ?_
  refine awOps.cons (awGuard.cG (fun hg => c_cmp_isNaN_string _ t) ?_)
  refine awOps.rn ?_
  refine AW.rt ?_
  all_goals first | contradiction | rfl | (simp; done) | (simp; omega)
theorem c_slices_BinarySearch_string_string (gl : List (Nat × AV)) (ks : List (List UInt8)) (key : List UInt8) (hk : ks.length ≤ 16777216 := by first | omega | exact u8_le _ | assumption | (simp; done) | (simp; omega)) (hs : incr ks := by first | omega | exact u8_le _ | assumption | (simp; done) | (simp; omega)) : FnP Tryz.prog (gl) 131 [.sl (strsAV ks), .str key] fun r => r = .ret (.tup [.int .i64 (kplace ks key), .bool (kthere ks key)]) := by
  refine FnP.intro Tryz.func131 rfl rfl (by simp [Tryz.ntmps131]) ?_
  simp only [argEnv, Tryz.ntmps131, Tryz.results131]
  refine AW.rS ?_
  refine AW.rS ?_
  refine AW.rS ?_
  refine AW.seq ?_
  refine AW.block ?_
  refine AW.lk (S := { p : Nat × Nat // p.1 ≤ p.2 ∧ p.2 ≤ ks.length ∧ (∀ a, a < p.1 → Op.bytesLess (ks.getD a []) key = true) ∧ (∀ a, p.2 ≤ a → a < ks.length → Op.bytesLess (ks.getD a []) key = false) }) [0, 1, 6] (fun s_ => [(7, .int .i64 s_.1.1), (8, .int .i64 s_.1.2)]) (fun s_ => []) 0 (fun s_ => s_.1.2 - s_.1.1) ⟨(0, ks.length), Nat.zero_le _, Nat.le_refl _, fun a h => absurd h (by omega), fun a h h' => absurd h' (by omega)⟩ ?_ ?_
  · refine St.le.vw []
  rintro ⟨⟨i, j⟩, h1, h2, h3, h4⟩
  try dsimp only at h1
  try dsimp only at h2
  try dsimp only at h3
  try dsimp only at h4
  refine AW.seq ?_
  refine AW.rS ?_
  refine AW.c2 ?_ ?_
  · intro h9
    refine AW.skip ?_
    refine AW.block ?_
    refine AW.rS ?_
    refine AW.rSC ?_
    refine awOps.cons (awGuard.c1 (c_cmp_Less_string _ (ks.getD ((i + j) / 2) []) key) ?_)
    refine awOps.rn ?_
    refine AW.c2 ?_ ?_
    · intro h16
      refine AW.rL ?_
      refine ⟨⟨((i + j) / 2 + 1, j), by dsimp only; omega, h2, fun a ha => bs_lo hs h16 (by omega) (by dsimp only at ha; omega), h4⟩, ?_, ?_⟩
      · refine St.le.vw []
      · simp only []; omega
    · intro h16
      refine AW.rL ?_
      refine ⟨⟨(i, (i + j) / 2), by dsimp only; omega, by dsimp only; omega, h3, fun a ha hb => bs_hi hs h16 (by dsimp only at ha; omega) hb⟩, ?_, ?_⟩
      · refine St.le.vw []
      · simp only []; omega
  · intro h9
    refine AW.exit ?_
    obtain rfl : i = j := by omega
    have hkp := kplace_eq h2 h3 (fun h => h4 _ (Nat.le_refl _) h)
    by_cases hs22 : i < ks.length
    · skip
      refine AW.rSC ?_
      refine awOps.cons (awGuard.cG (fun hg => c_slices_isNaN_string ..) ?_)
      refine awOps.rn ?_
      refine awOps.cons (awGuard.cG (fun hg => c_slices_isNaN_string ..) ?_)
      refine awOps.rn ?_
      refine AW.rt ?_
      rw [kthere_eq hkp, hkp]
      simp [hs22]
    · skip
      refine AW.rSC ?_
      refine awOps.cons (awGuard.gF (.bool false) ?_ ?_)
      · simp [hs22]
      refine awOps.rn ?_
      refine awOps.cons (awGuard.cG (fun hg => c_slices_isNaN_string ..) ?_)
      refine awOps.rn ?_
      refine AW.rt ?_
      rw [kthere_eq hkp, hkp]
      simp [hs22]
end Go.Proofs

namespace Go.Proofs
open Go Aw
set_option linter.unusedSimpArgs false
set_option linter.unusedVariables false
set_option maxRecDepth 100000
set_option maxHeartbeats 4000000

theorem h_Clone_string (gl : List (Nat × AV)) (ks : List (List UInt8)) (hk : ks.length ≤ 16777216 := by first | omega | exact u8_le _ | assumption | (simp; done) | (simp; omega)) : FnH Tryz.prog (gl) 152 [.sl (strsAV ks)] ([]) 0 (fun r h n => r = .ret (.row 1 0 ks.length) ∧ h = [(1, .row 1 (strsAV ks) true)] ∧ n = 2) := by
  refine FnH.intro Tryz.func152 rfl rfl (by simp [Tryz.ntmps152]) ?_
  simp only [argEnv, Tryz.ntmps152, Tryz.results152]
  refine AW.rS ?_
  refine AW.seq ?_
  refine AW.rSC ?_
  refine awOps.cons (awGuard.nS ?_)
  intro b4 hb4
  simp only [nilBool]
  refine awOps.rn ?_
  refine AW.c2 ?_ ?_
  · intro h6
    refine AW.rS ?_
    refine AW.pre (St.le.nilrow 2 1 (by (simp only [go_sem, seval]; try (simp (disch := omega) only [wrap_i64, wrap_u8, wrap_u64, tdiv_nn, tmod_nn, Int.toNat_natCast_add_one, toNat_sub1, Int.toNat_sub, Int.toNat_natCast, intsAV_getD, strsAV_getD, objsAV_getD, itemsAV_getD, intsAV_out, strsAV_out, objsAV_out, itemsAV_out, fillO_length, fillO_set]; try (simp only [go_sem, seval]; try (simp (disch := omega) only [wrap_i64, wrap_u8, wrap_u64, tdiv_nn, tmod_nn, Int.toNat_natCast_add_one, toNat_sub1, Int.toNat_sub, Int.toNat_natCast, intsAV_getD, strsAV_getD, objsAV_getD, itemsAV_getD, intsAV_out, strsAV_out, objsAV_out, itemsAV_out, fillO_length, fillO_set]; try simp only [go_sem, seval])))))) ?_
    refine wk ?_
    refine AW.rnm 2 ?_
    refine wk ?_
    refine AW.rt ?_
    rw [nil_strs hb4 h6, strsAV_nil]; simp
  · intro h6
    refine AW.skip ?_
    refine AW.rS ?_
    refine AW.rt ?_
    all_goals first | contradiction | rfl | (simp; done) | (simp; omega)
theorem h_Clone_Object (gl : List (Nat × AV)) (ks : List Pob) (hk : ks.length ≤ 16777216 := by first | omega | exact u8_le _ | assumption | (simp; done) | (simp; omega)) : FnH Tryz.prog (gl) 153 [.sl (objsAV ks)] ([]) 0 (fun r h n => r = .ret (.row 1 0 ks.length) ∧ h = [(1, .row 6 (objsAV ks) true)] ∧ n = 2) := by
  refine FnH.intro Tryz.func153 rfl rfl (by simp [Tryz.ntmps153]) ?_
  simp only [argEnv, Tryz.ntmps153, Tryz.results153]
  refine AW.rS ?_
  refine AW.seq ?_
  refine AW.rSC ?_
  refine awOps.cons (awGuard.nS ?_)
  intro b4 hb4
  simp only [nilBool]
  refine awOps.rn ?_
  refine AW.c2 ?_ ?_
  · intro h6
    refine AW.rS ?_
    refine AW.pre (St.le.nilrow 2 6 (by (simp only [go_sem, seval]; try (simp (disch := omega) only [wrap_i64, wrap_u8, wrap_u64, tdiv_nn, tmod_nn, Int.toNat_natCast_add_one, toNat_sub1, Int.toNat_sub, Int.toNat_natCast, intsAV_getD, strsAV_getD, objsAV_getD, itemsAV_getD, intsAV_out, strsAV_out, objsAV_out, itemsAV_out, fillO_length, fillO_set]; try (simp only [go_sem, seval]; try (simp (disch := omega) only [wrap_i64, wrap_u8, wrap_u64, tdiv_nn, tmod_nn, Int.toNat_natCast_add_one, toNat_sub1, Int.toNat_sub, Int.toNat_natCast, intsAV_getD, strsAV_getD, objsAV_getD, itemsAV_getD, intsAV_out, strsAV_out, objsAV_out, itemsAV_out, fillO_length, fillO_set]; try simp only [go_sem, seval])))))) ?_
    refine wk ?_
    refine AW.rnm 2 ?_
    refine wk ?_
    refine AW.rt ?_
    rw [nil_objs hb4 h6, objsAV_nil]; simp
  · intro h6
    refine AW.skip ?_
    refine AW.rS ?_
    refine AW.rt ?_
    all_goals first | contradiction | rfl | (simp; done) | (simp; omega)
theorem h_Ins_str (gl : List (Nat × AV)) (ks : List (List UInt8)) (k : List UInt8) (i : Nat) (hi : i ≤ ks.length) (hl : ks.length ≤ 16777216 := by omega) : FnH Tryz.prog gl 154 [.row 0 0 ks.length, .int .i64 i, .row 1 0 1]
    [(0, .row 1 (strsAV ks) true), (1, .row 1 [[.str k]] true)] 2 fun r h n => r = .ret (.row 2 0 (ks.length + 1)) ∧ h = [(1, .row 1 [[.str k]] true), (2, .row 1 (strsAV (insAt ks i k)) true)] ∧ n = 3 := by
  have h := h_Insert_string gl (strsAV ks) [.str k] i (by rw [strsAV_ok]; trivial) rfl (by rw [strsAV_length]; exact hi) (by rw [strsAV_length]; exact hl)
  rw [strsAV_length, strsAV_insAt] at h
  exact h
theorem h_Ins_obj (gl : List (Nat × AV)) (l : List Pob) (o : Pob) (i : Nat) (hi : i ≤ l.length) (hl : l.length ≤ 16777216 := by omega) : FnH Tryz.prog gl 155 [.row 0 0 l.length, .int .i64 i, .row 1 0 1]
    [(0, .row 6 (objsAV l) true), (1, .row 6 [o.cells] true)] 2 fun r h n => r = .ret (.row 2 0 (l.length + 1)) ∧ h = [(1, .row 6 [o.cells] true), (2, .row 6 (objsAV (insAt l i o)) true)] ∧ n = 3 := by
  have h := h_Insert_Object gl (objsAV l) o.cells i (by rw [objsAV_ok]; trivial) (cells_ok o) (by rw [objsAV_length]; exact hi) (by rw [objsAV_length]; exact hl)
  rw [objsAV_length, objsAV_insAt] at h
  exact h
theorem h_Ins_itm (gl : List (Nat × AV)) (l : List Itm) (o : Itm) (i : Nat) (hi : i ≤ l.length) (hl : l.length ≤ 16777216 := by omega) : FnH Tryz.prog gl 144 [.row 0 0 l.length, .int .i64 i, .row 1 0 1]
    [(0, .row 8 (itemsAV l) true), (1, .row 8 [o.cells] true)] 2 fun r h n => r = .ret (.row 2 0 (l.length + 1)) ∧ h = [(1, .row 8 [o.cells] true), (2, .row 8 (itemsAV (insAt l i o)) true)] ∧ n = 3 := by
  have h := h_Insert_Item gl (itemsAV l) o.cells i (by rw [itemsAV_ok]; trivial) rfl (by rw [itemsAV_length]; exact hi) (by rw [itemsAV_length]; exact hl)
  rw [itemsAV_length, itemsAV_insAt] at h
  exact h
theorem h_Del_str (gl : List (Nat × AV)) (ks : List (List UInt8)) (i : Nat) (hi : i < ks.length) (hl : ks.length ≤ 16777216 := by omega) : FnH Tryz.prog gl 170 [.row 0 0 ks.length, .int .i64 i, .int .i64 ((i : Int) + 1)]
    [(0, .row 1 (strsAV ks) true)] 1 fun r h n => r = .ret (.row 0 0 (i + (ks.length - (i + 1)))) ∧ h = [(0, .row 1 (strsAV (delAt ks i)) true)] ∧ n = 1 := by
  have h := h_Delete_string gl (strsAV ks) i (i + 1) (by rw [strsAV_ok]; trivial) (by omega) (by rw [strsAV_length]; omega) (by rw [strsAV_length]; exact hl)
  rw [strsAV_length, strsAV_delAt] at h
  exact h
theorem h_Del_obj (gl : List (Nat × AV)) (ks : List Pob) (i : Nat) (hi : i < ks.length) (hl : ks.length ≤ 16777216 := by omega) : FnH Tryz.prog gl 171 [.row 0 0 ks.length, .int .i64 i, .int .i64 ((i : Int) + 1)]
    [(0, .row 6 (objsAV ks) true)] 1 fun r h n => r = .ret (.row 0 0 (i + (ks.length - (i + 1)))) ∧ h = [(0, .row 6 (objsAV (delAt ks i)) true)] ∧ n = 1 := by
  have h := h_Delete_Object gl (objsAV ks) i (i + 1) (by rw [objsAV_ok]; trivial) (by omega) (by rw [objsAV_length]; omega) (by rw [objsAV_length]; exact hl)
  rw [objsAV_length, objsAV_delAt] at h
  exact h
theorem h_Del_itm (gl : List (Nat × AV)) (ks : List Itm) (i : Nat) (hi : i < ks.length) (hl : ks.length ≤ 16777216 := by omega) : FnH Tryz.prog gl 146 [.row 0 0 ks.length, .int .i64 i, .int .i64 ((i : Int) + 1)]
    [(0, .row 8 (itemsAV ks) true)] 1 fun r h n => r = .ret (.row 0 0 (i + (ks.length - (i + 1)))) ∧ h = [(0, .row 8 (itemsAV (delAt ks i)) true)] ∧ n = 1 := by
  have h := h_Delete_Item gl (itemsAV ks) i (i + 1) (by rw [itemsAV_ok]; trivial) (by omega) (by rw [itemsAV_length]; omega) (by rw [itemsAV_length]; exact hl)
  rw [itemsAV_length, itemsAV_delAt] at h
  exact h
theorem c_value_with (gl : List (Nat × AV)) (o : Pob) (key : List UInt8) (v : Pob) (h : o.bulk ≤ 16777216) (hs : incr o.keys) (hl : o.keys.length = o.kids.length) : FnP Tryz.prog (gl) 117 [.agg o.cells, .str key, .agg v.cells] fun r => r = .ret (.agg (o.withK key v).cells) := by
  refine FnP.intro Tryz.func117 rfl rfl (by simp [Tryz.ntmps117]) ?_
  simp only [argEnv, Tryz.ntmps117, Tryz.results117]
  have hb := Pob.bulk_eq o
  have hkp := kplace_le o.keys key
  refine AW.rS ?_
  refine AW.rSC ?_
  refine awOps.cons (awGuard.c1 (c_slices_BinarySearch_string_string _ o.keys key (by omega) hs) ?_)
  refine awOps.rn ?_
  refine AW.rSC ?_
  refine awOps.cons (awGuard.cH [] (h_Clone_string _ o.keys) ?_)
  refine awOps.rn ?_
  refine AW.rSC ?_
  refine awOps.cons (awGuard.cH [] (h_Clone_Object _ o.kids) ?_)
  refine awOps.rn ?_
  refine AW.seq ?_
  refine AW.rS ?_
  refine AW.c2 ?_ ?_
  · intro h13
    have hkl := kthere_lt h13
    refine AW.rL ?_
    refine AW.rS ?_
    refine AW.rt ?_
    rw [withK_there h13]
    refine ⟨by simp [objsAV_length], ?_⟩
    rw [← Pob.cells_eq v, objsAV_set, List.take_of_length_le (by simp [objsAV_length])]
    rfl
  · intro h13
    refine AW.rSC ?_
    refine awOps.cons (awGuard.cH [4, 7] (h_Ins_str _ o.keys key (kplace o.keys key) hkp) ?_)
    refine awOps.rn ?_
    refine AW.rLC ?_
    refine awOps.cons (awGuard.cH [6, 9] (h_Ins_obj _ o.kids v (kplace o.keys key) (by omega)) ?_)
    refine awOps.rn ?_
    refine AW.rS ?_
    refine AW.rt ?_
    rw [withK_new h13]
    refine ⟨⟨by rw [insAt_length]; exact Nat.le_refl _, by rw [insAt_length]; exact Nat.le_refl _⟩, ?_⟩
    rw [List.take_of_length_le (by rw [strsAV_length, insAt_length]; exact Nat.le_refl _), List.take_of_length_le (by rw [objsAV_length, insAt_length]; exact Nat.le_refl _)]
    rfl
end Go.Proofs
