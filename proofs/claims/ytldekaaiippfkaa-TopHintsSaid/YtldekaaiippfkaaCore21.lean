/- Rules of a calculus of walks: no condition of its own. -/
import Derived.Test.YtldekaaiippfkaaCore20
namespace Aw
open Go

def Fr (r : Option Nat) : Fence := { Fence.wide with round := r }
theorem callsIn_fr {r : Option Nat} {n : Nat} {P : Program} {f : FuncId} {args : Array Value} {w : World} {R : Ending → World → Prop} : CallsIn (Fr r) n P f args w R ↔ Calls P f args w R :=
 (show CallsIn (Fr r) n P f args w R ↔ CallsIn Fence.wide n P f args w R from Iff.rfl).trans callsIn_wide
theorem rowsIn_fr {r : Option Nat} {n : Nat} {P : Program} {row : String} {args : Array Value} {w : World} {R : Value → World → Prop} (h : Rows P row args w R) : RowsIn (Fr r) n P row args w R :=
 fun c cs _ => let ⟨v, w', q, s⟩ := h c cs; ⟨v, w', q, stepsIn_wide.2 s⟩

/-- what a step keeps; more may be protected behind it -/
structure Mem.leT (m m' : Mem) : Prop where
 os : m'.w.os = m.w.os
 tape : m'.w.tape = m.w.tape
 output : m'.w.output = m.w.output
 size : m.w.heap.size ≤ m'.w.heap.size
 Pr : ∀ b, m.Pr b → m'.Pr b
 block : ∀ b, m.Pr b → m'.w.heap[b]? = m.w.heap[b]?
 F : ∀ b o, m.F b o → m'.F b o
 cell : ∀ b o, m.F b o → m'.w.cell? ⟨b, o, none⟩ = m.w.cell? ⟨b, o, none⟩
 new : ∀ b o, m.Pr b → m'.F b o → m.F b o
 np : m'.np = m.np
 pin : ∀ id ri, id < m.np → m.ρ id = some ri → m'.ρ id = some ri
theorem Mem.le.t {m m' : Mem} (h : m.le m') : m.leT m' := ⟨h.os, h.tape, h.output, h.size, fun b hb => by rw [h.Pr]; exact hb, h.block, h.F, h.cell, h.new, h.np, h.pin⟩
theorem Mem.leT.refl (m : Mem) : m.leT m := (Mem.le.refl m).t
theorem Mem.leT.trans {m m' m'' : Mem} (h : m.leT m') (h' : m'.leT m'') : m.leT m'' where
 os := h'.os.trans h.os
 tape := h'.tape.trans h.tape
 output := h'.output.trans h.output
 size := Nat.le_trans h.size h'.size
 Pr b hb := h'.Pr b (h.Pr b hb)
 block b hb := (h'.block b (h.Pr b hb)).trans (h.block b hb)
 F b o hf := h'.F b o (h.F b o hf)
 cell b o hf := (h'.cell b o (h.F b o hf)).trans (h.cell b o hf)
 new b o hp hf := h.new b o hp (h'.new b o (h.Pr b hp) hf)
 np := h'.np.trans h.np
 pin id ri hi hr := h'.pin id ri (by rw [h.np]; exact hi) (h.pin id ri hi hr)

/-- the marks of loops over functions, on what is to be called at the end -/
def Marks (B : Nat) (m : Mem) (ds : List Deferred) : Prop :=
 (∀ d ∈ ds, ∃ D, d.target = .collected D ∧ B ≤ D ∧ m.Pr D ∧ m.w.heap[D]? = some (.deferred (some []))) ∧ ds.Pairwise fun d e => d.target ≠ e.target
theorem Marks.le {B : Nat} {m m' : Mem} {ds : List Deferred} (h : Marks B m ds) (hl : m.leT m') : Marks B m' ds :=
 ⟨fun d hd => let ⟨D, h1, h2, h3, h4⟩ := h.1 d hd; ⟨D, h1, h2, hl.Pr D h3, (hl.block D h3).trans h4⟩, h.2⟩

structure SimT (B : Nat) (m : Mem) (a : Act) (σ : St) : Prop where
 s : Sim m { a with defers := [] } σ
 marks : Marks B m a.defers
 base : B ≤ m.w.heap.size
theorem SimT.df {B : Nat} {m : Mem} {a : Act} {σ : St} (h : SimT B m a σ) : σ.df = [] := by
 have := h.s.defers
 cases hd : σ.df with
 | nil => rfl
 | cons p r =>
  rw [hd] at this
  obtain ⟨d, rest, caps, h1, _⟩ := this
  cases h1
theorem Sim.nodf {m : Mem} {a : Act} {σ : St} (h : Sim m a σ) (hd : σ.df = []) : a.defers = [] := by
 have := h.defers
 rw [hd] at this
 exact this

def PostT (B : Nat) (m0 : Mem) (Q : AX → St → Prop) (e : Exit) (a : Act) (w : World) : Prop :=
 ∃ m σ x, m.w = w ∧ m0.leT m ∧ SimT B m a σ ∧ exOk m x e ∧ Q x σ
theorem PostT.trans {B : Nat} {m0 m : Mem} {Q : AX → St → Prop} {e : Exit} {a : Act} {w : World} (hp : PostT B m Q e a w) (h : m0.leT m) : PostT B m0 Q e a w := by
 obtain ⟨m', σ, x, h1, h2, h3, h4, h5⟩ := hp
 exact ⟨m', σ, x, h1, h.trans h2, h3, h4, h5⟩

class Lasts (Θ : Mem → Prop) : Prop where
 le : ∀ {m m' : Mem}, m.leT m' → Θ m → Θ m'
instance : Lasts (fun _ => True) := ⟨fun _ _ => trivial⟩

def AWT (B : Nat) (r : Option Nat) (Θ : Mem → Prop) (P : Program) (c : Code) (σ : St) (Q : AX → St → Prop) : Prop :=
 ∀ m a, SimT B m a σ → Θ m → c.wpIn (Fr r) 0 P (PostT B m Q) a m.w

section
variable {B : Nat} {r : Option Nat} {Θ : Mem → Prop} {P : Program} {σ : St} {Q : AX → St → Prop}

theorem AWT.mono {c : Code} {Q' : AX → St → Prop} (h : AWT B r Θ P c σ Q) (hq : ∀ x σ, Q x σ → Q' x σ) : AWT B r Θ P c σ Q' := fun m a hS ht =>
 wpIn_mono (h m a hS ht) fun _ _ _ ⟨m', σ, x, h1, h2, h3, h4, h5⟩ => ⟨m', σ, x, h1, h2, h3, h4, hq _ _ h5⟩

theorem AWT.seq [Lasts Θ] {x y : Code} (h : AWT B r Θ P x σ (andThen (fun σ' => AWT B r Θ P y σ' Q) Q)) : AWT B r Θ P (.seq x y) σ Q := fun m a hS ht => by
 refine wpIn_seq (wpIn_mono (h m a hS ht) ?_)
 rintro e a' w' ⟨m', σ', ax, rfl, hle, hS', hex, hq⟩
 cases ax with
 | normal =>
  simp only [exOk] at hex
  subst hex
  exact wpIn_mono (hq m' a' hS' (Lasts.le hle ht)) fun _ _ _ hp => hp.trans hle
 | exit id =>
  simp only [exOk] at hex
  subst hex
  exact ⟨m', σ', .exit id, rfl, hle, hS', rfl, hq⟩
 | ret =>
  simp only [exOk] at hex
  subst hex
  exact ⟨m', σ', .ret, rfl, hle, hS', rfl, hq⟩
 | panic z =>
  simp only [exOk] at hex
  obtain ⟨v, rfl, hv⟩ := hex
  exact ⟨m', σ', .panic z, rfl, hle, hS', ⟨v, rfl, hv⟩, hq⟩
theorem AWT.skip (h : Q .normal σ) : AWT B r Θ P .skip σ Q := fun m _ hS _ => wpIn_skip ⟨m, σ, .normal, rfl, .refl m, hS, rfl, h⟩
theorem AWT.ret (h : Q .ret σ) : AWT B r Θ P .ret σ Q := fun m _ hS _ => wpIn_ret ⟨m, σ, .ret, rfl, .refl m, hS, rfl, h⟩
theorem AWT.exit {id : Nat} (h : Q (.exit id) σ) : AWT B r Θ P (.exit id) σ Q := fun m _ hS _ => wpIn_exit ⟨m, σ, .exit id, rfl, .refl m, hS, rfl, h⟩
theorem AWT.cond {c : Operand} {x y : Code} {p : Prop} {b : Bool} (hc : testOf σ c = some (p, b)) (hp : p) (h1 : b = true → AWT B r Θ P x σ Q) (h2 : b = false → AWT B r Θ P y σ Q) :
  AWT B r Θ P (.cond c x y) σ Q := fun m a hS ht =>
 wpIn_cond_split (testOf_sound hS.s hc hp) (fun h => h1 h m a hS ht) (fun h => h2 h m a hS ht)
theorem AWT.block {id : Nat} {c : Code} (h : AWT B r Θ P c σ (unblock id Q)) : AWT B r Θ P (.block id c) σ Q := fun m a hS ht => by
 refine wpIn_block (wpIn_mono (h m a hS ht) ?_)
 rintro e a' w' ⟨m', σ', ax, rfl, hle, hS', hex, hq⟩
 cases ax with
 | normal =>
  simp only [exOk] at hex
  subst hex
  exact ⟨m', σ', .normal, rfl, hle, hS', rfl, hq⟩
 | exit id' =>
  simp only [exOk] at hex
  subst hex
  simp only [unblock] at hq
  simp only [Exit.inBlock]
  by_cases h : id' = id
  ·rw [if_pos h] at hq ⊢
   exact ⟨m', σ', .normal, rfl, hle, hS', rfl, hq⟩
  ·rw [if_neg h] at hq ⊢
   exact ⟨m', σ', .exit id', rfl, hle, hS', rfl, hq⟩
 | ret =>
  simp only [exOk] at hex
  subst hex
  exact ⟨m', σ', .ret, rfl, hle, hS', rfl, hq⟩
 | panic z =>
  simp only [exOk] at hex
  obtain ⟨v, rfl, hv⟩ := hex
  exact ⟨m', σ', .panic z, rfl, hle, hS', ⟨v, rfl, hv⟩, hq⟩

theorem SimT.le {σ' : St} (h : St.le σ' σ) {m : Mem} {a : Act} (hS : SimT B m a σ) : ∃ m', m'.w = m.w ∧ m.leT m' ∧ SimT B m' a σ' := by
 obtain ⟨m', h1, h2, h3⟩ := h m _ hS.s
 exact ⟨m', h1, h2.t, h3, hS.marks.le h2.t, by rw [h1]; exact hS.base⟩

theorem AWT.loop [Lasts Θ] {S : Type} {c : Code} (I : S → St) (μ : S → Nat) (s : S) (h₀ : St.le (I s) σ)
  (round : ∀ s, AWT B r Θ P c (I s) (andThen (fun σ' => ∃ s', St.le (I s') σ' ∧ μ s' < μ s) Q)) : AWT B r Θ P (.loop c) σ Q := fun m a hS ht => by
 obtain ⟨m0, e0, l0, s0⟩ := hS.le h₀
 rw [← e0]
 refine wpIn_loop_ghost (fun n a w => ∃ s m', μ s = n ∧ m'.w = w ∧ m0.leT m' ∧ SimT B m' a (I s)) (μ s) ⟨s, m0, rfl, rfl, .refl m0, s0⟩ ?_
 rintro n a w ⟨s, m1, rfl, rfl, l1, s1⟩
 refine wpIn_mono (round s m1 a s1 (Lasts.le (l0.trans l1) ht)) ?_
 rintro e a' w' ⟨m', σ', ax, rfl, hle, hS', hex, hq⟩
 cases ax with
 | normal =>
  simp only [exOk] at hex
  subst hex
  obtain ⟨s', hle', hlt⟩ := hq
  obtain ⟨m2, e2, l2, s2⟩ := hS'.le hle'
  exact ⟨μ s', hlt, s', m2, rfl, e2, (l1.trans hle).trans l2, s2⟩
 | exit id' =>
  simp only [exOk] at hex
  subst hex
  exact ⟨m', σ', .exit id', rfl, l0.trans (l1.trans hle), hS', rfl, hq⟩
 | ret =>
  simp only [exOk] at hex
  subst hex
  exact ⟨m', σ', .ret, rfl, l0.trans (l1.trans hle), hS', rfl, hq⟩
 | panic z =>
  simp only [exOk] at hex
  obtain ⟨v, rfl, hv⟩ := hex
  exact ⟨m', σ', .panic z, rfl, l0.trans (l1.trans hle), hS', ⟨v, rfl, hv⟩, hq⟩
/-- forgetting slots and blocks -/
theorem AWT.le [Lasts Θ] {σ' : St} {c : Code} (h : St.le σ' σ) (hk : AWT B r Θ P c σ' Q) : AWT B r Θ P c σ Q := fun m a hS ht => by
 obtain ⟨m', h1, h2, h3⟩ := hS.le h
 have := hk m' a h3 (Lasts.le h2 ht)
 rw [h1] at this
 exact wpIn_mono this fun _ _ _ hp => hp.trans h2

/-! ### operations -/
def notDefer (o : Op) : Bool :=
 match o with
 | .defer _ => false
 | _ => true
theorem notDefer_ne {o : Op} (h : notDefer o = true) : ∀ c, o ≠ .defer c := by
 rintro c rfl
 cases h
theorem wpIn_of_wp {o : Oper} {a : Act} {w : World} {N N' : Act → World → Prop} {X X' : Exit → Act → World → Prop} (hnd : notDefer o.op = true) (h : o.wp P { a with defers := [] } w N X)
  (hN : ∀ a' w', N a' w' → a'.defers = [] ∧ N' { a' with defers := a.defers } w') (hQ : ∀ e w', X e { a with defers := [] } w' → X' e a w') (hL : ¬ LetsOut X) : o.wpIn (Fr r) 0 P a w N' X' := by
 refine ⟨fun _ _ => trivial, ?_⟩
 rw [Oper.semAt_eq _ _ _ (notDefer_ne hnd)]
 unfold Oper.wp at h
 have he : ({ a with defers := [] } : Act).eval = a.eval := rfl
 rw [he] at h
 have hput : ∀ v, { ({ a with defers := [] } : Act).put o.dst v with defers := a.defers } = a.put o.dst v := by
  intro v
  cases o.dst <;> rfl
 generalize (execOp a.eval o).run P w = x at h
 cases x with
 | ok nx w' =>
  cases nx with
  | value v => have := (hN _ _ h).2; rw [hput] at this; exact this
  | skip => have := (hN _ _ h).2; rw [hput] at this; exact this
  | defer d =>
   have := (hN _ _ h).1
   cases hd : o.dst <;> rw [hd] at this <;> cases this
  | enter f args =>
   refine ⟨fun hh => (by cases hh), callsIn_fr.2 (Calls.mono h ?_)⟩
   intro e w'' hq
   cases e with
   | returned v => have := (hN _ _ hq).2; rw [hput] at this; exact this
   | panicked ch => exact hQ _ _ hq
   | outgrown => exact absurd hq hL
  | row row args =>
   refine ⟨fun hh => (by cases hh), rowsIn_fr (fun c cs => ?_)⟩
   obtain ⟨v, w'', hq, hs⟩ := h c cs
   have := (hN _ _ hq).2
   rw [hput] at this
   exact ⟨v, w'', this, hs⟩
  | _ => exact h.elim
 | halt s w' =>
  cases s with
  | panic v => exact hQ _ _ h
  | _ => exact h.elim

/-- what one operation comes to here -/
def StepT (B : Nat) (r : Option Nat) (Θ : Mem → Prop) (P : Program) (σ : St) (o : Oper) (K : St → Prop) (Kp : AV → St → Prop) : Prop :=
 ∀ (m : Mem) (a : Act) (N : Act → World → Prop) (X : Exit → Act → World → Prop), SimT B m a σ → Θ m →
  (∀ m' a' σ', m.leT m' → SimT B m' a' σ' → K σ' → N a' m'.w) →
  (∀ m' σ' x v, m.leT m' → SimT B m' a σ' → Rep m' 0 x v → Kp x σ' → X (.panic [{ v, recovered := false }]) a m'.w) → o.wpIn (Fr r) 0 P a m.w N X
theorem StepT.of {o : Oper} {K : St → Prop} {Kp : AV → St → Prop} (hnd : notDefer o.op = true) (h : SemStep P σ o K Kp) : StepT B r Θ P σ o K Kp := by
 intro m a N X hS _ hN hX
 refine wpIn_of_wp hnd (h m { a with defers := [] } (fun a' w' => ∃ m' σ', m'.w = w' ∧ m.le m' ∧ Sim m' a' σ' ∧ Keeps o σ σ' ∧ K σ')
  (fun e a' w' => ∃ m' σ' x v, m'.w = w' ∧ e = .panic [{ v, recovered := false }] ∧ m.le m' ∧ Sim m' { a with defers := [] } σ' ∧ Rep m' 0 x v ∧ Kp x σ') hS.s ?_ ?_) ?_ ?_ ?_
 ·intro m' a' σ' h1 _ h2 h3 _ h4
  exact ⟨m', σ', rfl, h1, h2, h3, h4⟩
 ·intro m' σ' x v h1 _ h2 h3 _ h4
  exact ⟨m', σ', x, v, rfl, rfl, h1, h2, h3, h4⟩
 ·rintro a' w' ⟨m', σ', rfl, h1, h2, h3, h4⟩
  have hd := h2.nodf (h3.df.trans hS.df)
  refine ⟨hd, hN m' _ σ' h1.t ⟨?_, hS.marks.le h1.t, Nat.le_trans hS.base h1.size⟩ h4⟩
  have : ({ ({ a' with defers := a.defers } : Act) with defers := [] } : Act) = a' := by
   cases a'
   simp only at hd
   subst hd
   rfl
  rw [this]
  exact h2
 ·rintro e w' ⟨m', σ', x, v, rfl, rfl, h1, h2, h3, h4⟩
  exact hX m' σ' x v h1.t ⟨h2, hS.marks.le h1.t, Nat.le_trans hS.base h1.size⟩ h3 h4
 ·rintro ⟨a', w', _, _, _, _, _, h, _⟩
  cases h
end
end Aw
