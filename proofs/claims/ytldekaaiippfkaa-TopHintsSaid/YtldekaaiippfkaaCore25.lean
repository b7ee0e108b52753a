/- Rules of a calculus of walks: no condition of its own. -/
import Derived.Test.YtldekaaiippfkaaCore24
namespace Aw
open Go

theorem mem_of_get {α : Type} : ∀ {l : List (Nat × α)} {i : Nat} {x : α}, get l i = some x → (i, x) ∈ l
 | [], _, _, h => by simp [get] at h
 | p :: r, i, x, h => by
  simp only [get] at h
  split at h
  ·rename_i e
   injection h with h
   rw [show p = (i, x) from by rw [← e, ← h]]
   exact List.mem_cons_self
  ·exact List.mem_cons_of_mem _ (mem_of_get h)

/-- what was protected besides is free again -/
def Mem.shrink (m' m : Mem) : Mem := { m' with Pr := m.Pr }
section
variable {m m' : Mem} {hp : List (Nat × ABlk)} {nx : Nat}
theorem shrink_le (h : m.leT m') : m.le (m'.shrink m) := ⟨h.os, h.tape, h.output, h.size, rfl, h.block, h.F, h.cell, h.new, h.np, h.pin⟩
theorem shrink_mapF : MapF m' (m'.shrink m) (fun i => i) := ⟨fun _ _ h => h, fun _ _ _ => rfl, fun _ _ h => h⟩
theorem shrink_simH (h : m.leT m') (hH : SimH m' hp nx) (hn : noTHm hp = true) : SimH (m'.shrink m) hp nx where
 blk id x hx := by
  obtain ⟨ri, h1, h2⟩ := hH.blk id x hx
  refine ⟨ri, h1, ?_⟩
  have := BlkRep.mapTm (π := fun i => i) (shrink_mapF (m := m) (m' := m')) (fun _ => rfl) (fun hn hp => h2.noPr hn (h.Pr _ hp)) (fun _ _ h => h) (noTHm_mem hn (mem_of_get hx)) h2
  rw [renB_id] at this
  exact this
 apart := hH.apart
 fresh := hH.fresh
 Fold := hH.Fold
 Pold b hb := hH.Pold b (h.Pr b hb)
theorem shrink_rep {x : AV} {v : Value} (hn : noT x = true) (h : Rep m' 0 x v) : Rep (m'.shrink m) 0 x v := by
 have := Rep.mapT (π := fun i => i) (shrink_mapF (m := m) (m' := m')) x v hn h
 rw [ren_id] at this
 exact this
theorem Mem.leT.turn {D : Nat} {o o' : Obj} (h : m.leT m') (hD : ¬ m.Pr D) (hD' : m'.w.heap[D]? = some o) (hd : dull o = true) (hd' : dull o' = true) : m.leT (m'.turn D o') where
 os := h.os
 tape := h.tape
 output := h.output
 size := by rw [turn_size]; exact h.size
 Pr := h.Pr
 block b hb := (turn_heap (ne_pr hD hb).symm).trans (h.block b hb)
 F := h.F
 cell b i hf := (turn_cell hD' hd hd' b i).trans (h.cell b i hf)
 new := h.new
 np := h.np
 pin := h.pin
end

/-- the marks at a function's end -/
theorem leavesM {B : Nat} {P : Program} {fn : Func} {tmps : Array Value} {R : Ending → World → Prop} {u : FrameMode} (Φ : Mem → Prop)
  (hΦ : ∀ m D, Φ m → m.Pr D → B ≤ D → m.w.heap[D]? = some (.deferred (some [])) → Φ (m.turn D (.deferred none))) (hend : ∀ m, Φ m → LeavesIn Fence.wide 0 P fn tmps R [] u m.w) (hu : u ≠ .run) :
  ∀ (ds : List Deferred) (m : Mem), Marks B m ds → Φ m → LeavesInM Fence.wide 0 P fn tmps R ds u m.w
 | [], m, _, h => hend m h
 | d :: ds, m, hM, h => by
  obtain ⟨D, h1, h2, h3, h4⟩ := hM.1 d List.mem_cons_self
  refine ⟨hu, .inl ⟨D, _, h1, run_takeDeferred h4, ?_⟩⟩
  refine leavesM Φ hΦ hend hu ds (m.turn D (.deferred none)) ⟨fun e he => ?_, (List.pairwise_cons.1 hM.2).2⟩ (hΦ m D h h3 h2 h4)
  obtain ⟨D', g1, g2, g3, g4⟩ := hM.1 e (List.mem_cons_of_mem _ he)
  have hne : D' ≠ D := by
   intro e'
   have := (List.pairwise_cons.1 hM.2).1 e he
   rw [h1, g1, e'] at this
   exact this rfl
  exact ⟨D', g1, g2, g3, (turn_heap hne).trans g4⟩

section
variable {P : Program} {gl : List (Nat × AV)} {f : FuncId} {fn : Func} {c : Code} {xs : List AV} {hp : List (Nat × ABlk)} {nx : Nat} {Θ : Mem → Prop}
theorem simArgs {m : Mem} {vs : List Value} (hm : StartH m gl hp nx) (hv : RepL m 0 xs vs) (hn : xs.length ≤ fn.ntmps) : Sim m { tmps := vs.toArray ++ Array.replicate (fn.ntmps - vs.toArray.size) undef, defers := [] } ⟨fn.ntmps, argEnv 0 xs, hp, nx, gl, nx, []⟩ := by
 have hlen := hv.length
 refine ⟨hm.h, ?_, rfl, ?_, hm.gl, hm.np⟩
 ·simp only [Array.size_append, List.size_toArray, Array.size_replicate]
  omega
 ·intro t x ht
  obtain ⟨_, hx⟩ := get_argEnv ht
  have hlt : t < xs.length := by
   rcases Nat.lt_or_ge t xs.length with h | h
   ·exact h
   ·rw [List.getElem?_eq_none (by omega)] at hx; cases hx
  refine ⟨Nat.lt_of_lt_of_le hlt hn, ?_⟩
  obtain ⟨v, hv1, hv2⟩ := hv.at t hlt
  have hx' : xs[t] = x := by
   rw [Nat.sub_zero, List.getElem?_eq_getElem hlt] at hx
   exact Option.some.inj hx
  have : (vs.toArray ++ Array.replicate (fn.ntmps - vs.toArray.size) undef).getD t undef = v := by
   rw [Array.getD_eq_getD_getElem?, Array.getElem?_append_left (by simp; omega)]
   simp [hv1]
  rw [this, ← hx']
  exact hv2
theorem SimT.start {m : Mem} {a : Act} {σ : St} (h : Sim m a σ) (hd : a.defers = []) : SimT m.w.heap.size m a σ := by
 refine ⟨?_, ?_, Nat.le_refl _⟩
 ·have : ({ a with defers := [] } : Act) = a := by cases a; simp only at hd; subst hd; rfl
  rw [this]
  exact h
 ·rw [hd]
  exact ⟨fun _ h => (by cases h), List.Pairwise.nil⟩
/-- A function that is handed the loop's yield, out of its body. -/
theorem FnT.intro {R : AE → List (Nat × ABlk) → Nat → Prop} (hf : P.funcs[f]? = some fn) (hname : (fn.name == "runtime.NumGoroutine") = false) (hb : fn.body = some c) (hn : xs.length ≤ fn.ntmps)
  (hT : ∀ q hp' nx', R q hp' nx' → noTHm hp' = true ∧ ∃ x, q = .ret x ∧ noT x = true)
  (h : ∀ B, AWT B none Θ P c ⟨fn.ntmps, argEnv 0 xs, hp, nx, gl, nx, []⟩ (finH P fn.results.toList R)) : FnT Θ P gl f xs hp nx R := by
 refine ⟨enters_of hf hname hb, fun m vs hm ht hv => ?_⟩
 refine callsIn_wide.1 (callsIn_of_wp_marks (F := Fence.wide) (n := 0) hf hb trivial ?_)
 have hS := SimT.start (simArgs (fn := fn) hm hv hn) rfl
 refine wpIn_mono (h m.w.heap.size m _ hS ht) ?_
 rintro e a' w' ⟨m', σ', ax, rfl, hle, hS', hex, hq⟩
 have key : ∀ u, u ≠ .run → (∀ m2 : Mem, m.leT m2 → Sim m2 { a' with defers := [] } σ' → LeavesIn Fence.wide 0 P fn a'.tmps (fun e w' => ∃ m' r hp' nx', m'.w = w' ∧ m.le m' ∧ SimH m' hp' nx' ∧ endOkH m' r e ∧ R r hp' nx') [] u m2.w) →
   LeavesInM Fence.wide 0 P fn a'.tmps (fun e w' => ∃ m' r hp' nx', m'.w = w' ∧ m.le m' ∧ SimH m' hp' nx' ∧ endOkH m' r e ∧ R r hp' nx') a'.defers u m'.w := by
  intro u hu hend
  refine leavesM (B := m.w.heap.size) (fun m2 => m.leT m2 ∧ Sim m2 { a' with defers := [] } σ') ?_ (fun m2 h2 => hend m2 h2.1 h2.2) hu a'.defers m' hS'.marks ⟨hle, hS'.s⟩
  rintro m2 D ⟨h1, h2⟩ hD hB hh
  refine ⟨h1.turn (fun hP => ?_) hh rfl rfl, h2.turn hD hh rfl rfl⟩
  have := hm.h.Pold D hP
  omega
 have ret : finHRet P fn.results.toList R σ' → LeavesInM Fence.wide 0 P fn a'.tmps (fun e w' => ∃ m' r hp' nx', m'.w = w' ∧ m.le m' ∧ SimH m' hp' nx' ∧ endOkH m' r e ∧ R r hp' nx') a'.defers .returning m'.w := by
  intro hq
  refine key .returning (by simp) fun m2 h1 h2 => ?_
  obtain ⟨_, v, hrun, m3, q, hp', nx', e3, l3, s3, en3, r3⟩ := finHRet_sound h2 (.refl m2) hq
  refine ⟨v, hrun, m3.shrink m, q, hp', nx', e3, shrink_le (h1.trans l3.t), shrink_simH (h1.trans l3.t) s3 (hT _ _ _ r3).1, ?_, r3⟩
  obtain ⟨_, x, rfl, hx⟩ := hT _ _ _ r3
  obtain ⟨v', h1, h2⟩ := en3
  exact ⟨v', h1, shrink_rep hx h2⟩
 cases ax with
 | normal =>
  simp only [exOk] at hex
  subst hex
  exact ret hq
 | ret =>
  simp only [exOk] at hex
  subst hex
  exact ret hq
 | exit id => exact hq.elim
 | panic x =>
  exfalso
  have hq' : finHPanic R x σ' := hq
  unfold finHPanic at hq'
  split at hq'
  ·exact hq'
  ·obtain ⟨_, _, h, _⟩ := hT _ _ _ hq'.2
   cases h
end

/-- a round that goes on, out of its body -/
theorem RoundT.of {P : Program} {gl : List (Nat × AV)} {hp : List (Nat × ABlk)} {nx : Nat} {M0 : Mem} {l : Nat} {rc : Loop} {p : Tmp} {E : List (Nat × AV)} {x : AV} {R : AE → List (Nat × ABlk) → Nat → Prop} (hl : M0.Pr l) (hrc : M0.w.heap[l]? = some (.loop rc))
  (hst : rc.state = .ready) (hpe : rc.pending = none) (hps : rc.params = #[p]) (hE : ∀ t y, get E t = some y → t < rc.tmps.size ∧ Rep M0 0 y (rc.tmps.getD t undef)) (hp' : p < rc.tmps.size)
  (h : AWT 0 (some l) (fun _ => True) P rc.assign ⟨rc.tmps.size, set E p x, hp, nx, gl, nx, []⟩
   (fun ax σ' => ax = .normal ∧ AWT 0 (some l) (fun _ => True) P rc.body σ' (fun ax σ'' => ax = .normal ∧ ∃ σ3, St.le σ3 σ'' ∧ noTHm σ3.hp = true ∧ R (.ret (.bool true)) σ3.hp σ3.nx))) : RoundT (Kept M0) P gl l [x] hp nx R := by
 intro m vs hm hk hv
 have hml : m.w.heap[l]? = some (.loop rc) := (hk.k.block l hl).trans hrc
 have hmP : m.Pr l := hk.k.Pr l hl
 simp only [RepL] at hv
 obtain ⟨v, rest, rfl, hv, rfl⟩ := hv
 refine ⟨rc, hml, by rw [hps]; rfl, ?_⟩
 refine roundIn_of_wpIn (F := Fr none) (n := 0) trivial ?_
 have htm : (rc.params.zip [v].toArray).foldl (fun tmps (t, a) => tmps.setIfInBounds t a) rc.tmps = rc.tmps.setIfInBounds p v := by
  rw [hps]
  simp
 rw [htm]
 have hS : Sim m { tmps := rc.tmps.setIfInBounds p v, defers := [] } ⟨rc.tmps.size, set E p x, hp, nx, gl, nx, []⟩ := by
  refine ⟨hm.h, by simp, rfl, ?_, hm.gl, hm.np⟩
  intro t y hy
  simp only [get_set] at hy
  split at hy
  ·rename_i e
   subst e
   injection hy with hy
   subst hy
   refine ⟨hp', ?_⟩
   have : (rc.tmps.setIfInBounds p v).getD p undef = v := by simp [hp']
   rw [this]
   exact hv
  ·rename_i hne
   obtain ⟨h1, h2⟩ := hE t y hy
   refine ⟨h1, ?_⟩
   have : (rc.tmps.setIfInBounds p v).getD t undef = rc.tmps.getD t undef := by simp [Array.getElem?_setIfInBounds_ne hne]
   rw [this]
   exact Rep.mono hk.k 0 _ _ h2
 have hS0 : SimT 0 m { tmps := rc.tmps.setIfInBounds p v, defers := [] } ⟨rc.tmps.size, set E p x, hp, nx, gl, nx, []⟩ := ⟨hS, ⟨fun _ h => (by cases h), List.Pairwise.nil⟩, Nat.zero_le _⟩
 refine wpIn_mono (h m _ hS0 trivial) ?_
 rintro e a1 w1 ⟨m1, σ1, ax, rfl, l1, s1, hex, rfl, hbody⟩
 simp only [exOk] at hex
 subst hex
 have h1l : m1.w.heap[l]? = some (.loop rc) := (l1.block l hmP).trans hml
 have h1P : m1.Pr l := l1.Pr l hmP
 refine ⟨_, run_beginRound h1l hst, ?_⟩
 have s2 : SimT 0 (m1.turn l (.loop { rc with state := .busy })) a1 σ1 := ⟨s1.s.turn h1P h1l rfl rfl, ⟨fun d hd => (by
  obtain ⟨D, g1, g2, g3, g4⟩ := s1.marks.1 d hd
  refine ⟨D, g1, g2, g3, (turn_heap (fun e => ?_)).trans g4⟩
  rw [e, h1l] at g4
  cases g4), s1.marks.2⟩, Nat.zero_le _⟩
 refine wpIn_mono (hbody (m1.turn l (.loop { rc with state := .busy })) a1 s2 trivial) ?_
 rintro e a3 w3 ⟨m3', σ3', ax, rfl, l3', s3', hex, rfl, σ3, hle3, hnT, hR⟩
 simp only [exOk] at hex
 subst hex
 obtain ⟨m3, e3, l3'', s3⟩ := s3'.le hle3
 have l3 := l3'.trans l3''
 rw [← e3]
 have h3l : m3.w.heap[l]? = some (.loop { rc with state := .busy }) := (l3.block l h1P).trans (World.putObj_heap_same (Array.getElem?_eq_some_iff.1 h1l).1)
 have h3P : m3.Pr l := l3.Pr l h1P
 refine ⟨_, _, run_endRound none h3l, ?_⟩
 have hrc' : ({ ({ rc with state := .busy } : Loop) with state := if (none : Option Code).isNone then .ready else .done, pending := none } : Loop) = rc := by
  cases rc
  simp only at hst hpe
  subst hst hpe
  rfl
 rw [hrc']
 have hle : m.leT (m3.turn l (.loop rc)) := by
  refine ⟨l3.os.trans l1.os, l3.tape.trans l1.tape, l3.output.trans l1.output, ?_, fun b hb => l3.Pr b (l1.Pr b hb), ?_, fun b o hf => l3.F b o (l1.F b o hf), ?_, fun b o hb hf => l1.new b o hb (l3.new b o (l1.Pr b hb) hf), l3.np.trans l1.np, fun id ri hi hr => l3.pin id ri (by rw [show (m1.turn l (.loop { rc with state := .busy })).np = m1.np from rfl, l1.np]; exact hi) (l1.pin id ri hi hr)⟩
  ·rw [turn_size]
   have := l3.size
   rw [turn_size] at this
   exact Nat.le_trans l1.size this
  ·intro b hb
   by_cases e : b = l
   ·subst e
    exact (World.putObj_heap_same (Array.getElem?_eq_some_iff.1 h3l).1).trans hml.symm
   ·exact (turn_heap e).trans ((l3.block b (l1.Pr b hb)).trans ((turn_heap e).trans (l1.block b hb)))
  ·intro b o hf
   exact (turn_cell h3l rfl rfl b o).trans ((l3.cell b o (l1.F b o hf)).trans ((turn_cell h1l rfl rfl b o).trans (l1.cell b o hf)))
 exact ⟨(m3.turn l (.loop rc)).shrink m, .ret (.bool true), _, _, rfl, shrink_le hle, shrink_simH hle (s3.s.h.turn h3P h3l rfl rfl) hnT, ⟨_, rfl, by simp only [Rep]; rfl⟩, hR⟩
end Aw
