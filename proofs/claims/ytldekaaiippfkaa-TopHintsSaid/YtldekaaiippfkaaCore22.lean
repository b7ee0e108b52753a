/- Rules of a calculus of walks: no condition of its own. -/
import Derived.Test.YtldekaaiippfkaaCore21
namespace Aw
open Go
section
variable {B : Nat} {r : Option Nat} {Θ : Mem → Prop} {P : Program} {σ : St} {Q : AX → St → Prop} {ops : Array Oper} {K : St → Prop} {Kp : AV → St → Prop} {o : Oper} {rest : List Oper}

def OpsT (B : Nat) (r : Option Nat) (Θ : Mem → Prop) (P : Program) (ops : Array Oper) (l : List Oper) (σ : St) (K : St → Prop) (Kp : AV → St → Prop) : Prop :=
 ∀ (m0 : Mem) (X : Exit → Act → World → Prop), (∀ m a σ', m0.leT m → SimT B m a σ' → K σ' → X .normal a m.w) →
  (∀ m a σ' x v, m0.leT m → SimT B m a σ' → Rep m 0 x v → Kp x σ' → X (.panic [{ v, recovered := false }]) a m.w) →
  ∀ m a, m0.leT m → SimT B m a σ → Θ m → wpListIn (Fr r) 0 P ops X l a m.w
theorem OpsT.nil (h : K σ) : OpsT B r Θ P ops [] σ K Kp := fun _ _ hK _ m a hle hS _ => hK m a σ hle hS h
theorem OpsT.step [Lasts Θ] (hg : o.guard = none) (h : StepT B r Θ P σ o (fun σ' => OpsT B r Θ P ops rest σ' K Kp) Kp) : OpsT B r Θ P ops (o :: rest) σ K Kp := by
 intro m0 X hK hKp m a hle hS ht
 unfold wpListIn
 rw [if_pos (by simp [Region.wanted, hg])]
 exact h m a _ _ hS ht (fun m' a' σ' hle' hS' hk => hk m0 X hK hKp m' a' (hle.trans hle') hS' (Lasts.le hle' ht)) (fun m' σ' x v hle' hS' hx hk => hKp m' a σ' x v (hle.trans hle') hS' hx hk)

theorem SimT.put {m : Mem} {a : Act} {d : Option Tmp} {x : AV} {v : Value} (hS : SimT B m a σ) (hd : dstOk σ.n d = true) (hv : Rep m 0 x v) : SimT B m (a.put d v) (σ.put d x) := by
 have h := hS.s.put (.refl m) hS.s.h hd hv
 have hdf : (a.put d v).defers = a.defers := by cases d <;> rfl
 refine ⟨?_, by rw [hdf]; exact hS.marks, hS.base⟩
 have : ({ a.put d v with defers := [] } : Act) = ({ a with defers := [] } : Act).put d v := by cases d <;> rfl
 rw [this]
 exact h

theorem OpsT.cons [Lasts Θ] (hnd : notDefer o.op = true) (h : awGuard P (ops.toList.map (·.dst)) o σ (fun σ' => OpsT B r Θ P ops rest σ' K Kp) Kp) : OpsT B r Θ P ops (o :: rest) σ K Kp := by
 intro m0 X hK hKp m a hle hS ht
 have hstep : ∀ {σ : St}, SemStep P σ o (fun σ' => OpsT B r Θ P ops rest σ' K Kp) Kp → SimT B m a σ → o.wpIn (Fr r) 0 P a m.w (wpListIn (Fr r) 0 P ops X rest) X := fun h hS =>
  StepT.of (B := B) (r := r) (Θ := Θ) hnd h m a _ _ hS ht (fun m' a' σ' hle' hS' hk => hk m0 X hK hKp m' a' (hle.trans hle') hS' (Lasts.le hle' ht)) (fun m' σ' x v hle' hS' hx hk => hKp m' a σ' x v (hle.trans hle') hS' hx hk)
 unfold awGuard at h
 unfold wpListIn
 cases hg : o.guard with
 | none =>
  rw [hg] at h
  simp only at h
  rw [if_pos (by simp [Region.wanted, hg])]
  exact hstep (awStep_sound h) hS
 | some p =>
  rw [hg] at h
  simp only at h
  cases hgv : gAt (ops.toList.map (·.dst)) σ p.1 p.2 with
  | none => rw [hgv] at h; exact h.elim
  | some g =>
   rw [hgv] at h
   simp only at h
   have hw : Region.wanted o (yielded ops a.tmps) = g := by
    simp only [Region.wanted, hg]
    exact gAt_sound hS.s hgv
   cases hp : pureOp P σ g o.op with
   | some q =>
    rw [hp] at h
    simp only at h
    obtain ⟨h1, h2, h3⟩ := h
    cases hgb : g with
    | true =>
     rw [if_pos (by rw [hw, hgb])]
     obtain ⟨v, hrun, hrep⟩ := pureOp_sound hS.s hgb hp (h2 hgb)
     refine ⟨fun _ _ => trivial, ?_⟩
     rw [Oper.semAt_eq _ _ _ (notDefer_ne hnd)]
     have he : ({ a with defers := [] } : Act).eval = a.eval := rfl
     rw [he] at hrun
     rw [hrun]
     refine h3 m0 X hK hKp m _ hle (hS.put h1 ?_) ht
     simp only [Rep]
     exact ⟨fun _ => hrep, fun h => (by rw [hgb] at h; cases h)⟩
    | false =>
     rw [if_neg (by rw [hw, hgb]; simp)]
     refine ⟨fun _ _ => trivial, h3 m0 X hK hKp m _ hle (hS.put h1 ?_) ht⟩
     simp only [Rep]
     exact ⟨fun h => (by rw [hgb] at h; cases h), fun _ => trivial⟩
   | none =>
    rw [hp] at h
    simp only at h
    rcases h with h | ⟨y, hd, h1, h2⟩
    ·cases hgb : g with
     | true =>
      rw [if_pos (by rw [hw, hgb])]
      exact hstep (awStep_sound (h.1 hgb)) hS
     | false =>
      rw [if_neg (by rw [hw, hgb]; simp)]
      obtain ⟨h1, h2⟩ := h.2 hgb
      exact ⟨fun _ _ => trivial, h2 m0 X hK hKp m _ hle (hS.put h1 (by simp only [Rep])) ht⟩
    ·cases hgb : g with
     | true =>
      rw [if_pos (by rw [hw, hgb])]
      rw [hgb] at h2
      exact StepT.of (B := B) (r := r) (Θ := Θ) hnd (h1 hgb) m a _ _ hS ht
       (fun m' a' σ' hle' hS' hk => by
        subst hk
        exact h2 m0 X hK hKp m' a' (hle.trans hle') ⟨Sim.opt rfl hS'.s, hS'.marks, hS'.base⟩ (Lasts.le hle' ht))
       (fun m' σ' x v hle' hS' hx hk => hKp m' a σ' x v (hle.trans hle') hS' hx hk)
     | false =>
      rw [if_neg (by rw [hw, hgb]; simp)]
      rw [hgb] at h2
      exact ⟨fun _ _ => trivial, h2 m0 X hK hKp m _ hle (hS.put hd (by simp only [Rep]; exact ⟨fun h => (by cases h), fun _ => trivial⟩)) ht⟩

def noDefers (l : List Oper) : Bool := l.all fun o => notDefer o.op
theorem OpsT.run [Lasts Θ] : ∀ {l l' : List Oper} {σ σ' : St} {ob : Prop}, runOps P (ops.toList.map (·.dst)) l σ = (ob, l', σ') → noDefers l = true → ob → OpsT B r Θ P ops l' σ' K Kp → OpsT B r Θ P ops l σ K Kp
 | [], l', σ, σ', ob, h, _, _, hk => by
  simp only [runOps, Prod.mk.injEq] at h
  obtain ⟨_, rfl, rfl⟩ := h
  exact hk
 | o :: rest, l', σ, σ', ob, h, hn, hob, hk => by
  simp only [runOps] at h
  split at h
  ·simp only [Prod.mk.injEq] at h
   obtain ⟨_, rfl, rfl⟩ := h
   exact hk
  ·rename_i q hr
   generalize hq : runOps P (ops.toList.map (·.dst)) rest q.2 = z at h
   obtain ⟨z1, z2, z3⟩ := z
   simp only [Prod.mk.injEq] at h
   obtain ⟨rfl, rfl, rfl⟩ := h
   simp only [noDefers, List.all_cons, Bool.and_eq_true] at hn
   exact OpsT.cons hn.1 (stepOp_sound hr hob.1 (OpsT.run hq hn.2 hob.2 hk))
theorem AWT.region {id : Nat} (h : OpsT B r Θ P ops ops.toList σ (fun σ' => Q .normal σ') (fun x σ' => Q (.panic x) σ')) : AWT B r Θ P (.region id ops false) σ Q := fun m a hS ht => by
 refine wpIn_region_list (h m (PostT B m Q) ?_ ?_ m a (.refl m) hS ht)
 ·intro m' a' σ' hle hS' h'
  exact ⟨m', σ', .normal, rfl, hle, hS', rfl, h'⟩
 ·intro m' a' σ' x v hle hS' hx h'
  exact ⟨m', σ', .panic x, rfl, hle, hS', ⟨v, rfl, hx⟩, h'⟩
end
end Aw
