/- Rules of a calculus of walks: no condition of its own. -/
import Derived.Test.YtldekaaiippfkaaCore25
namespace Aw
open Go
section
variable {m : Mem} {D l : Nat} {rc : Loop}
theorem alloc_old {w : World} {o : Obj} {b : Nat} (h : b < w.heap.size) : (w.alloc o).heap[b]? = w.heap[b]? := by
 show (w.heap.push o)[b]? = w.heap[b]?
 rw [Array.getElem?_push]
 rw [if_neg (by omega)]
/-- the memory behind the entry of a loop: the block for deferred calls and the record are protected -/
def Mem.entered (m : Mem) (rc : Loop) : Mem :=
 { m with w := (m.w.alloc (.deferred (some []))).alloc (.loop rc), Pr := fun b => m.Pr b ∨ b = m.w.heap.size ∨ b = m.w.heap.size + 1 }
theorem entered_heap {b : Nat} (h : b < m.w.heap.size) : (m.entered rc).w.heap[b]? = m.w.heap[b]? :=
 (alloc_old (by simp; omega)).trans (alloc_old h)
theorem entered_D : (m.entered rc).w.heap[m.w.heap.size]? = some (.deferred (some [])) :=
 (alloc_old (by simp)).trans (World.alloc_heap_new m.w _)
theorem entered_l : (m.entered rc).w.heap[m.w.heap.size + 1]? = some (.loop rc) := by
 have := World.alloc_heap_new (m.w.alloc (.deferred (some []))) (.loop rc)
 rwa [World.size_alloc] at this
theorem entered_size : (m.entered rc).w.heap.size = m.w.heap.size + 2 := by simp [Mem.entered]
variable {hp : List (Nat × ABlk)} {nx : Nat}
theorem entered_leT (hH : SimH m hp nx) : m.leT (m.entered rc) where
 os := rfl
 tape := rfl
 output := rfl
 size := by rw [entered_size]; omega
 Pr _ h := .inl h
 block b hb := entered_heap (hH.Pold b hb)
 F _ _ h := h
 cell b o hf := cell?_of_block (entered_heap (hH.Fold b o hf))
 new _ _ _ h := h
 np := rfl
 pin _ _ _ h := h
theorem entered_keeps (hH : SimH m hp nx) : m.keeps (m.entered rc) where
 np := rfl
 Pr _ h := .inl h
 block b hb := entered_heap (hH.Pold b hb)
 F _ _ h := h
 cell b o hf := cell?_of_block (entered_heap (hH.Fold b o hf))
 ρ _ _ h := h
theorem entered_simH (hH : SimH m hp nx) : SimH (m.entered rc) hp nx where
 blk id x hx := by
  obtain ⟨ri, h1, h2⟩ := hH.blk id x hx
  refine ⟨ri, h1, ?_⟩
  have hk := entered_keeps (rc := rc) hH
  have hm : MapOk m (m.entered rc) (fun i => i) := ⟨hk.Pr, hk.block, hk.F, hk.cell, hk.ρ⟩
  have := BlkRep.map hm (fun hn => entered_heap (h2.lt hn)) (fun hn hP => (by
   have hlt := h2.lt hn
   rcases hP with hP | hP | hP
   ·exact h2.noPr hn hP
   ·omega
   ·omega)) (fun _ _ h => h) h2
  rw [renB_id] at this
  exact this
 apart := hH.apart
 fresh := hH.fresh
 Fold b o hf := by have := hH.Fold b o hf; rw [entered_size]; omega
 Pold b hb := by
  rw [entered_size]
  rcases hb with hb | hb | hb
  ·have := hH.Pold b hb; omega
  ·omega
  ·omega
end

theorem AWT.range {B : Nat} {Θ : Mem → Prop} {P : Program} {σ : St} {Q : AX → St → Prop} {g : Operand} {p : Tmp} {assign body : Code} {it : FuncId} {caps zs xs : List AV} {ob' : Prop} {L : List Nat} {hp0 : List (Nat × ABlk)}
  {E : List (Nat × AV)} {R : List (Nat × ABlk) → Nat → Prop}
  (hit : ∀ (Ω : Mem → Prop) (_ : LastsIn Ω) (l : Nat),
   (∀ x hp nx Rr, AWT 0 (some l) (fun _ => True) P assign ⟨σ.n, set E p x, hp, nx, σ.gl, nx, []⟩
    (fun ax σ' => ax = .normal ∧ AWT 0 (some l) (fun _ => True) P body σ' (fun ax σ'' => ax = .normal ∧ ∃ σ3, St.le σ3 σ'' ∧ noTHm σ3.hp = true ∧ Rr (AE.ret (.bool true)) σ3.hp σ3.nx)) → RoundT Ω P σ.gl l [x] hp nx Rr) →
   FnT Ω P σ.gl it (.raw (.func (.yield l) #[] #[]) :: xs) hp0 L.length fun q hp' nx' => (∃ x, q = .ret x) ∧ R hp' nx')
  (hK : ∀ hp' nx', R hp' nx' → backOkm L hp' nx' = true ∧ Q .normal (backSt σ L hp' nx'))
  (hg : ev σ g = some (.clos it caps)) (hz : mapO (fz σ.hp 9) caps = some (ob', zs)) (hob' : ob') (hL : L.all (fun id => (get σ.hp id).isSome) = true) (hnd : L.Nodup)
  (hhp : viewHp (Aw.pick L σ.nx) L.length σ.hp hp0) (hxs : renL (Aw.pick L σ.nx) xs = zs) (hE : ∀ t x, get E t = some x → get σ.env t = some (ren (Aw.pick L σ.nx) x)) (hp : p < σ.n) :
  AWT B none Θ P (.rangeFunc g #[p] assign body) σ Q := by
 intro m a hS ht
 have hL' : ∀ id ∈ L, (get σ.hp id).isSome = true := fun id hid => List.all_eq_true.1 hL id hid
 refine wpIn_rangeFunc ?_
 intro fn _
 obtain ⟨rc, hrcd⟩ : ∃ rc : Loop, rc = { state := .ready, pending := none, fn, tmps := a.tmps, params := #[p], assign, body, defers := m.w.heap.size } := ⟨_, rfl⟩
 have hcl := hS.s.ev hg
 simp only [Rep] at hcl
 obtain ⟨cv, hgv, hcv⟩ := hcl
 have hgv' : a.eval g = .func (.func it) #[] cv := hgv
 -- the memory at the entry
 have hH1 := entered_simH (rc := rc) hS.s.h
 have hk1 := entered_keeps (rc := rc) hS.s.h
 have hl1 := entered_leT (rc := rc) hS.s.h
 have hS1 : SimT B (m.entered rc) a σ := ⟨hS.s.of hk1 hH1, hS.marks.le hl1, Nat.le_trans hS.base hl1.size⟩
 obtain ⟨hstart, hargs⟩ := innerStart (L := L) hS1.s (RepL.mono hk1 0 _ _ hcv) hz hob' hL' hnd hhp hxs
 have hM := innerH_map hS1.s.h hL'
 have hlP : ((m.entered rc).innerH L σ.nx).Pr (m.w.heap.size + 1) := hM.Pr _ (.inr (.inr rfl))
 have hDP : ((m.entered rc).innerH L σ.nx).Pr m.w.heap.size := hM.Pr _ (.inr (.inl rfl))
 have hfr : ∀ id, ((m.entered rc).innerH L σ.nx).np ≤ id → ((m.entered rc).innerH L σ.nx).ρ id = none := fun id hid => hstart.h.fresh id hid
 have hE0 : ∀ t y, get E t = some y → t < rc.tmps.size ∧ Rep ((m.entered rc).innerH L σ.nx) 0 y (rc.tmps.getD t undef) := by
  intro t y hy
  obtain ⟨h1, h2⟩ := hS1.s.env t _ (hE t y hy)
  rw [show rc.tmps = a.tmps by rw [hrcd]]
  refine ⟨by rw [show a.tmps.size = σ.n from hS.s.n]; exact h1, ?_⟩
  have := Rep.map hM y _ (Rep.ren y _ h2)
  rw [ren_id] at this
  exact this
 have hsz : rc.tmps.size = σ.n := by rw [hrcd]; exact hS.s.n
 have hc := hit (Kept ((m.entered rc).innerH L σ.nx)) inferInstance (m.w.heap.size + 1) (fun x hp' nx' Rr h => by
  have hr := RoundT.of (P := P) (gl := σ.gl) (hp := hp') (nx := nx') (M0 := (m.entered rc).innerH L σ.nx) (l := m.w.heap.size + 1) (rc := rc) (p := p) (E := E) (x := x) (R := Rr) hlP entered_l (by rw [hrcd]) (by rw [hrcd]) (by rw [hrcd]) hE0 (by rw [hsz]; exact hp)
  rw [hsz, show rc.assign = assign by rw [hrcd], show rc.body = body by rw [hrcd]] at hr
  exact hr h)
 refine ⟨m.w.heap.size + 1, [{ target := .collected m.w.heap.size, args := #[] }], (m.entered rc).w, { target := .fn (.func it) cv, args := #[.func (.yield (m.w.heap.size + 1)) #[] #[]] }, (m.entered rc).w, it,
  #[.func (.yield (m.w.heap.size + 1)) #[] #[]] ++ cv, (m.entered rc).w, ?_, ?_, ?_, ?_, fun hh => (by cases hh), ?_⟩
 ·rw [hrcd]; exact run_enterLoop_outer _ _ _ _ _
 ·simp only [resolve, hgv']
  simp [go_sem]
 ·intro _ _; trivial
 ·simp only [invoke]
  exact hc.enters _ _
 ·have hcall := hc.calls ((m.entered rc).innerH L σ.nx) (.func (.yield (m.w.heap.size + 1)) #[] #[] :: cv.toList) hstart ⟨.refl _, hfr⟩ (by
   simp only [RepL]
   exact ⟨_, _, rfl, by simp only [Rep], hargs⟩)
  have e2 : ((m.entered rc).innerH L σ.nx).w = (m.entered rc).w := rfl
  have e3 : (Value.func (.yield (m.w.heap.size + 1)) #[] #[] :: cv.toList).toArray = #[.func (.yield (m.w.heap.size + 1)) #[] #[]] ++ cv := by
   apply Array.ext'
   simp
  rw [e2, e3] at hcall
  refine callsIn_fr.2 (hcall.mono ?_)
  rintro e w' ⟨m', q, hp', nx', rfl, hle, hH', hend, ⟨x, rfl⟩, hR⟩
  obtain ⟨v, rfl, hv⟩ := hend
  obtain ⟨hb, hq⟩ := hK hp' nx' hR
  obtain ⟨l2, s2, _⟩ := backPan (y := .top) (v := v) hS1 hL' hnd hle hH' hb (by simp only [Rep])
  have hl : m'.w.heap[m.w.heap.size + 1]? = some (.loop rc) := (hle.block _ hlP).trans entered_l
  have hD : m'.w.heap[m.w.heap.size]? = some (.deferred (some [])) := (hle.block _ hDP).trans entered_D
  refine ⟨none, _, (by have := run_endLoop (P := P) hl (by rw [hrcd]; simp); rw [this, hrcd]), ?_⟩
  have hnl : ¬ m.Pr (m.w.heap.size + 1) := fun h => by have := hS.s.h.Pold _ h; omega
  have l3 : m.leT (((m.entered rc).outerH m' L σ.nx).turn (m.w.heap.size + 1) (.loop { rc with state := .exhausted })) := (hl1.trans l2).turn hnl hl rfl rfl
  refine ⟨((m.entered rc).outerH m' L σ.nx).turn (m.w.heap.size + 1) (.loop { rc with state := .exhausted }), _, .normal, by rw [hrcd]; rfl, l3, ⟨s2.s.turn (.inr (.inr rfl)) hl rfl rfl, ⟨?_, ?_⟩, ?_⟩, rfl, hq⟩
  ·intro d hd
   rcases List.mem_append.1 hd with hd | hd
   ·simp only [List.mem_singleton] at hd
    subst hd
    exact ⟨_, rfl, hS.base, .inr (.inl rfl), (turn_heap (by omega)).trans hD⟩
   ·obtain ⟨D', g1, g2, g3, g4⟩ := s2.marks.1 d hd
    refine ⟨D', g1, g2, g3, (turn_heap (fun e => ?_)).trans g4⟩
    rw [e] at g4
    have : ((m.entered rc).outerH m' L σ.nx).w.heap[m.w.heap.size + 1]? = some (.loop rc) := hl
    rw [this] at g4
    cases g4
  ·refine List.pairwise_append.2 ⟨List.pairwise_singleton _ _, s2.marks.2, ?_⟩
   intro d hd e he
   simp only [List.mem_singleton] at hd
   subst hd
   obtain ⟨D', g1, g2, g3, g4⟩ := hS.marks.1 e he
   rw [g1]
   intro h
   injection h with h
   have := (Array.getElem?_eq_some_iff.1 g4).1
   omega
  ·rw [turn_size]
   exact s2.base
end Aw
