/- Rules of a calculus of walks: no condition of its own. -/
import Derived.Test.YtldekaaiippfkaaCore19
import Derived.RangeFuncLeaves
import Derived.RangeFuncIn
import Derived.RangeFuncRecord
import Derived.TacticsIn
import Derived.Sort.LoopGhostIn
namespace Aw
open Go

/-- What the readings of values lean on is kept; a protected block may be turned where no value reads it. -/
structure KD (m m' : Mem) : Prop where
 np : m'.np = m.np
 Pr : ∀ b, m.Pr b → m'.Pr b
 pcell : ∀ b o, m.Pr b → m'.w.cell? ⟨b, o, none⟩ = m.w.cell? ⟨b, o, none⟩
 pmap : ∀ b es cl, m.Pr b → m.w.heap[b]? = some (.map es cl) → m'.w.heap[b]? = some (.map es cl)
 F : ∀ b o, m.F b o → m'.F b o
 cell : ∀ b o, m.F b o → m'.w.cell? ⟨b, o, none⟩ = m.w.cell? ⟨b, o, none⟩
 ρ : ∀ id ri, m.ρ id = some ri → m'.ρ id = some ri
mutual
theorem Rep.monoD {m m' : Mem} (h : KD m m') : ∀ (k : Nat) (x : AV) (v : Value), Rep m k x v → Rep m' k x v
 | _, .bool _, _, hx => by simpa only [Rep] using hx
 | _, .int _ _, _, hx => by simpa only [Rep] using hx
 | _, .str _, _, hx => by simpa only [Rep] using hx
 | k, .agg cs, v, hx => by
  simp only [Rep] at hx ⊢
  obtain ⟨vs, rfl, hl⟩ := hx
  exact ⟨vs, rfl, RepL.monoD h k cs _ hl⟩
 | k, .tup cs, v, hx => by
  simp only [Rep] at hx ⊢
  obtain ⟨vs, rfl, hl⟩ := hx
  exact ⟨vs, rfl, RepL.monoD h k cs _ hl⟩
 | _, .sl es, v, hx => by
  simp only [Rep] at hx ⊢
  rcases hx with hx | ⟨b, o, c, sz, rfl, hc, he⟩
  ·exact .inl hx
  ·exact .inr ⟨b, o, c, sz, rfl, hc, RepE.monoD h es b o sz he⟩
 | k, .row id off len, v, hx => by
  simp only [Rep] at hx ⊢
  obtain ⟨hk, ri, hr, hv⟩ := hx
  exact ⟨hk, ri, h.ρ id ri hr, hv⟩
 | k, .ptr id off, v, hx => by
  simp only [Rep] at hx ⊢
  obtain ⟨hk, ri, hr, hv⟩ := hx
  exact ⟨hk, ri, h.ρ id ri hr, hv⟩
 | k, .rptr id idx c, v, hx => by
  simp only [Rep] at hx ⊢
  obtain ⟨hk, ri, hr, hv⟩ := hx
  exact ⟨hk, ri, h.ρ id ri hr, hv⟩
 | _, .cptr cs, v, hx => by
  simp only [Rep] at hx ⊢
  obtain ⟨b, o, rfl, hc⟩ := hx
  exact ⟨b, o, rfl, RepC.monoD h cs b o hc⟩
 | k, .tptr cs, v, hx => by
  simp only [Rep] at hx ⊢
  obtain ⟨hk, b, o, rfl, hc⟩ := hx
  exact ⟨hk, b, o, rfl, RepP.monoD h cs b o hc⟩
 | k, .clos f caps, v, hx => by
  simp only [Rep] at hx ⊢
  obtain ⟨vs, rfl, hl⟩ := hx
  exact ⟨vs, rfl, RepL.monoD h k caps _ hl⟩
 | k, .iface t x, v, hx => by
  simp only [Rep] at hx ⊢
  obtain ⟨u, rfl, hu⟩ := hx
  exact ⟨u, rfl, Rep.monoD h k x u hu⟩
 | k, .ite c x y, v, hx => by
  simp only [Rep] at hx ⊢
  exact ⟨fun hc => Rep.monoD h k x v (hx.1 hc), fun hc => Rep.monoD h k y v (hx.2 hc)⟩
 | k, .opt c x, v, hx => by
  simp only [Rep] at hx ⊢
  exact ⟨fun hc => Rep.monoD h k x v (hx.1 hc), hx.2⟩
 | k, .map id, v, hx => by
  simp only [Rep] at hx ⊢
  obtain ⟨hk, ri, hr, hv⟩ := hx
  exact ⟨hk, ri, h.ρ id ri hr, hv⟩
 | k, .cmap ks vs, v, hx => by
  simp only [Rep] at hx ⊢
  obtain ⟨hk1, b, kv, vv, es, clock, rfl, hb, hh, he, hk, hv⟩ := hx
  exact ⟨hk1, b, kv, vv, es, clock, rfl, h.Pr b hb, h.pmap b _ _ hb hh, he, RepL.monoD h 1 ks _ hk, RepL.monoD h 1 vs _ hv⟩
 | _, .raw _, _, hx => by simpa only [Rep] using hx
 | _, .top, _, _ => by simp only [Rep]
theorem RepL.monoD {m m' : Mem} (h : KD m m') : ∀ (k : Nat) (xs : List AV) (vs : List Value), RepL m k xs vs → RepL m' k xs vs
 | _, [], _, hx => by simpa only [RepL] using hx
 | k, x :: xs, vs, hx => by
  simp only [RepL] at hx ⊢
  obtain ⟨v, rest, rfl, hv, hr⟩ := hx
  exact ⟨v, rest, rfl, Rep.monoD h k x v hv, RepL.monoD h k xs rest hr⟩
theorem RepC.monoD {m m' : Mem} (h : KD m m') : ∀ (xs : List AV) (b o : Nat), RepC m xs b o → RepC m' xs b o
 | [], _, _, _ => by simp only [RepC]
 | x :: xs, b, o, hx => by
  simp only [RepC] at hx ⊢
  obtain ⟨hf, ⟨v, hv, hr⟩, hrest⟩ := hx
  exact ⟨h.F b o hf, ⟨v, (h.cell b o hf).trans hv, Rep.monoD h 2 x v hr⟩, RepC.monoD h xs b (o + 1) hrest⟩
theorem RepP.monoD {m m' : Mem} (h : KD m m') : ∀ (xs : List AV) (b o : Nat), RepP m xs b o → RepP m' xs b o
 | [], _, _, _ => by simp only [RepP]
 | x :: xs, b, o, hx => by
  simp only [RepP] at hx ⊢
  obtain ⟨hf, ⟨v, hv, hr⟩, hrest⟩ := hx
  exact ⟨h.Pr b hf, ⟨v, (h.pcell b o hf).trans hv, Rep.monoD h 1 x v hr⟩, RepP.monoD h xs b (o + 1) hrest⟩
theorem RepE.monoD {m m' : Mem} (h : KD m m') : ∀ (es : List (List AV)) (b o sz : Nat), RepE m es b o sz → RepE m' es b o sz
 | [], _, _, _, _ => by simp only [RepE]
 | e :: es, b, o, sz, hx => by
  simp only [RepE] at hx ⊢
  obtain ⟨hl, hc, hr⟩ := hx
  exact ⟨hl, RepC.monoD h e b o hc, RepE.monoD h es b (o + sz) sz hr⟩
end
theorem RepX.monoD {m m' : Mem} {b : Nat} (h : KD m m') (hw : ∀ o, m'.w.cell? ⟨b, o, none⟩ = m.w.cell? ⟨b, o, none⟩) (k : Nat) : ∀ (xs : List AV) (o : Nat), RepX m k xs b o → RepX m' k xs b o
 | [], _, _ => by simp only [RepX]
 | x :: xs, o, hx => by
  simp only [RepX] at hx ⊢
  obtain ⟨⟨v, hv, hr⟩, hrest⟩ := hx
  exact ⟨⟨v, (hw o).trans hv, Rep.monoD h k x v hr⟩, RepX.monoD h hw k xs (o + 1) hrest⟩
theorem RepY.monoD {m m' : Mem} {b : Nat} (h : KD m m') (hw : ∀ o, m'.w.cell? ⟨b, o, none⟩ = m.w.cell? ⟨b, o, none⟩) : ∀ (es : List (List AV)) (o sz : Nat), RepY m es b o sz → RepY m' es b o sz
 | [], _, _, _ => by simp only [RepY]
 | e :: es, o, sz, hx => by
  simp only [RepY] at hx ⊢
  obtain ⟨hl, hc, hr⟩ := hx
  exact ⟨hl, RepX.monoD h hw 2 e o hc, RepY.monoD h hw es (o + sz) sz hr⟩

/-- an object that no value reads -/
def dull : Obj → Bool
 | .cells _ _ _ => false
 | .map _ _ => false
 | _ => true
theorem cell?_dull {w : World} {b : Nat} {o : Obj} (h : w.heap[b]? = some o) (hd : dull o = true) (i : Nat) : w.cell? ⟨b, i, none⟩ = none := by
 simp only [World.cell?, h]
 cases o <;> simp_all [dull]
/-- the block 'D' turned -/
def Mem.turn (m : Mem) (D : Nat) (o' : Obj) : Mem := { m with w := m.w.putObj D o' }
section
variable {m : Mem} {D : Nat} {o o' : Obj}
theorem turn_cell (hD : m.w.heap[D]? = some o) (hd : dull o = true) (hd' : dull o' = true) (b i : Nat) : (m.turn D o').w.cell? ⟨b, i, none⟩ = m.w.cell? ⟨b, i, none⟩ := by
 by_cases e : b = D
 ·subst e
  rw [cell?_dull hD hd]
  exact cell?_dull (w := m.w.putObj b o') (World.putObj_heap_same (Array.getElem?_eq_some_iff.1 hD).1) hd' i
 ·exact cell?_of_block (World.putObj_heap_other e)
theorem turn_kd (hD : m.w.heap[D]? = some o) (hd : dull o = true) (hd' : dull o' = true) : KD m (m.turn D o') where
 np := rfl
 Pr _ h := h
 pcell b i _ := turn_cell hD hd hd' b i
 pmap b es cl _ hb := by
  have hne : b ≠ D := by
   intro e
   subst e
   rw [hD] at hb
   cases hb
   cases hd
  exact (World.putObj_heap_other hne).trans hb
 F _ _ h := h
 cell b i _ := turn_cell hD hd hd' b i
 ρ _ _ h := h
theorem turn_heap {b : Nat} (h : b ≠ D) : (m.turn D o').w.heap[b]? = m.w.heap[b]? := World.putObj_heap_other h
theorem ne_pr {b : Nat} (h : ¬ m.Pr b) (hP : m.Pr D) : b ≠ D := fun e => h (e ▸ hP)
theorem turn_size : (m.turn D o').w.heap.size = m.w.heap.size := by simp [Mem.turn]
theorem RowRep.turn {ri : RI} {sz : Nat} {es : List (List AV)} {own : Bool} (hP : m.Pr D) (hD : m.w.heap[D]? = some o) (hd : dull o = true) (hd' : dull o' = true) (h : RowRep m ri sz es own) : RowRep (m.turn D o') ri sz es own := by
 have hk := turn_kd (m := m) hD hd hd'
 rcases h with h | ⟨h1, h2, h3, h4, ⟨c, T, lo, hi, h5, h6, h7⟩, h8⟩
 ·exact .inl h
 ·have hne : ri.b ≠ D := fun e => h2 (e ▸ hP)
  refine .inr ⟨h1, h2, h3, h4, ⟨c, T, lo, hi, (turn_heap hne).trans h5, h6, h7⟩, ?_⟩
  by_cases ho : own = true
  ·rw [if_pos ho] at h8 ⊢
   exact ⟨RepY.monoD hk (fun i => turn_cell hD hd hd' _ i) _ _ _ h8.1, h8.2⟩
  ·rw [if_neg ho] at h8 ⊢
   exact ⟨RepE.monoD hk _ _ _ _ h8.1, h8.2⟩
theorem BlkRep.turn {ri : RI} {x : ABlk} (hP : m.Pr D) (hD : m.w.heap[D]? = some o) (hd : dull o = true) (hd' : dull o' = true) (h : BlkRep m ri x) : BlkRep (m.turn D o') ri x := by
 have hk := turn_kd (m := m) hD hd hd'
 cases x with
 | cells cs =>
  obtain ⟨h1, h2, h3, c, T, h4, h5⟩ := h
  exact ⟨h1, h2, h3, c, T, (turn_heap (ne_pr h2 hP)).trans h4, RepL.monoD hk _ _ _ h5⟩
 | row sz es own => exact RowRep.turn hP hD hd hd' h
 | amap ks vs =>
  obtain ⟨h1, h2, h3, kv, vv, es, cl, h4, h5, h6, h7⟩ := h
  exact ⟨h1, h2, h3, kv, vv, es, cl, (turn_heap (ne_pr h2 hP)).trans h4, h5, RepL.monoD hk _ _ _ h6, RepL.monoD hk _ _ _ h7⟩
 | lp l rc =>
  obtain ⟨h1, h2, h3, h4, h5⟩ := h
  exact ⟨h1, h2, h3, h4, (turn_heap (ne_pr h2 hP)).trans h5⟩
 | it left cur =>
  obtain ⟨h1, h2, h3, h4, bm, es, clock, seen, g1, g2, g3, g4, ⟨el, e1, e2, e3⟩, g5⟩ := h
  exact ⟨h1, h2, h3, h4, bm, es, clock, seen, g1, hk.pmap bm es clock g1 g2, g3, (turn_heap (ne_pr h2 hP)).trans g4, ⟨el, e1, RepL.monoD hk _ _ _ e2, RepL.monoD hk _ _ _ e3⟩,
   fun k v hc => let ⟨e, q1, q2, q3, q4⟩ := g5 k v hc; ⟨e, q1, q2, Rep.monoD hk _ _ _ q3, Rep.monoD hk _ _ _ q4⟩⟩
 | full sz es => exact ⟨RowRep.turn hP hD hd hd' h.1, h.2⟩
theorem SimH.turn {hp : List (Nat × ABlk)} {nx : Nat} (hP : m.Pr D) (hD : m.w.heap[D]? = some o) (hd : dull o = true) (hd' : dull o' = true) (h : SimH m hp nx) : SimH (m.turn D o') hp nx where
 blk id x hx := by
  obtain ⟨ri, h1, h2⟩ := h.blk id x hx
  exact ⟨ri, h1, h2.turn hP hD hd hd'⟩
 apart := h.apart
 fresh := h.fresh
 Fold b i hf := by rw [turn_size]; exact h.Fold b i hf
 Pold b hb := by rw [turn_size]; exact h.Pold b hb
theorem DefR.monoD {m m' : Mem} (h : KD m m') : ∀ {l : List (FuncId × List AV)} {ds : List Deferred}, DefR m l ds → DefR m' l ds
 | [], _, hd => hd
 | _ :: _, _, hd => by
  obtain ⟨d, rest, caps, h1, h2, h3, h4⟩ := hd
  exact ⟨d, rest, caps, h1, h2, RepL.monoD h 0 _ _ h3, h4.monoD h⟩
theorem Sim.turn {a : Act} {σ : St} (hP : m.Pr D) (hD : m.w.heap[D]? = some o) (hd : dull o = true) (hd' : dull o' = true) (h : Sim m a σ) : Sim (m.turn D o') a σ where
 h := h.h.turn hP hD hd hd'
 n := h.n
 defers := h.defers.monoD (turn_kd hD hd hd')
 env t x hx := ⟨(h.env t x hx).1, Rep.monoD (turn_kd hD hd hd') 0 _ _ (h.env t x hx).2⟩
 gl g x hx := Rep.monoD (turn_kd hD hd hd') 1 _ _ (h.gl g x hx)
 np := h.np
end
end Aw
