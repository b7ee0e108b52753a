/- Rules of a calculus of walks: no condition of its own. -/
import Derived.Test.YtldekaaiippfkaaGreatCore49
namespace Aw
open Go
theorem awFun.bsG {P : Program} {ops : Array Oper} {K : St → Prop} {σ : St} {i : Nat} {o : Oper} {rest : List Nat} {ob : Prop} {X : AV} {t : TypeId} {n : Nat} {ps : Array (Nat × Operand)} {p : Nat × Bool} {g : Bool} (L : List Nat) (hK : awFun P ops K rest (σ.put o.dst (.opt g X))) (ho : nth ops.toList i = some o := by exact rfl) (hg : o.guard = some p := by exact rfl) (hop : o.op = .buildSlice t n ps := by exact rfl)
  (hL : L.all (fun t => (o.looksAt ops).contains t) = true := by kernel_rfl) (hgv : gAt (ops.toList.map (·.dst)) ⟨σ.n, keepE L σ.env, σ.hp, σ.nx, σ.gl, σ.np, σ.df⟩ p.1 p.2 = some g := by (simp only [go_sem, seval]; try (simp (disch := omega) only [zq]; try (simp only [go_sem, seval]; try (simp (disch := omega) only [zq]; try simp only [go_sem, seval])))); exact rfl)
  (h : ebuildF P ⟨σ.n, keepE L σ.env, σ.hp, σ.nx, σ.gl, σ.np, σ.df⟩ t n ps.toList = some (ob, X) := by (simp only [go_sem, seval]; try (simp (disch := omega) only [zq]; try (simp only [go_sem, seval]; try (simp (disch := omega) only [zq]; try simp only [go_sem, seval])))); exact rfl) (hd : dstOk σ.n o.dst = true := by (simp only [go_sem, seval]; try (simp (disch := omega) only [zq]; try (simp only [go_sem, seval]; try (simp (disch := omega) only [zq]; try simp only [go_sem, seval]))))) (hob : g = true → ob := by ((try (simp only [go_sem, seval]; try (simp (disch := omega) only [zq]; try (simp only [go_sem, seval]; try (simp (disch := omega) only [zq]; try simp only [go_sem, seval]))))); try (first | exact True.intro | omega | (simp only [zb]; omega) | (simp; done) | (simp; omega) | (and_intros <;> first | assumption | omega | (simp; done) | (simp; omega))))) : awFun P ops K (i :: rest) σ := by
 refine ⟨o, .opt g X, nth_ops ho, ⟨⟨σ.n, keepE L σ.env, σ.hp, σ.nx, σ.gl, σ.np, σ.df⟩, ⟨rfl, rfl, rfl, rfl, rfl, rfl⟩, ?_, ?_⟩, hK⟩
 ·intro t x ht
  obtain ⟨h1, h2⟩ := get_keepE _ _ t x ht
  have := List.all_eq_true.1 hL t h1
  exact ⟨by simpa using this, h2⟩
 ·unfold GStep
  rw [nth_ops ho]
  intro m a N Q hS hN hQ
  have hw : Region.wanted o (yielded ops a.tmps) = g := by
   simp only [Region.wanted, hg]
   exact gAt_sound hS hgv
  cases g with
  | true =>
   rw [if_pos hw]
   obtain ⟨v, m', hrun, hle, hk, hH, hrep⟩ := ebuildF_sound hS hop h (hob rfl)
   unfold Oper.wp
   rw [hrun]
   refine hN m' _ _ hle hk (hS.put hk hH hd (x := .opt true X) ?_) ?_ .put ?_
   ·simp only [Rep]
    exact ⟨fun _ => hrep, fun h => (by cases h)⟩
   ·exact Keeps.put
   ·exact ⟨by cases o.dst <;> rfl, by cases o.dst <;> rfl, fun d hd => by rw [hd]; simp [St.put, get_set]⟩
  | false =>
   rw [if_neg (by rw [hw]; simp)]
   refine hN m _ _ (.refl m) (.refl m) (hS.put (.refl m) hS.h hd (x := .opt false X) ?_) .put .put ?_
   ·simp only [Rep]
    exact ⟨fun h => (by cases h), fun _ => trivial⟩
   ·exact ⟨by cases o.dst <;> rfl, by cases o.dst <;> rfl, fun d hd => by rw [hd]; simp [St.put, get_set]⟩
/-- a guarded operation that only gives a value (a struct that is built), among the first ones -/
theorem awFun.efG {P : Program} {ops : Array Oper} {K : St → Prop} {σ : St} {i : Nat} {o : Oper} {rest : List Nat} {e : Eff} {p : Nat × Bool} {g : Bool} (L : List Nat) (hK : awFun P ops K rest (σ.put o.dst (.opt g e.val))) (ho : nth ops.toList i = some o := by exact rfl) (hg : o.guard = some p := by exact rfl)
  (hL : L.all (fun t => (o.looksAt ops).contains t) = true := by kernel_rfl) (hgv : gAt (ops.toList.map (·.dst)) ⟨σ.n, keepE L σ.env, σ.hp, σ.nx, σ.gl, σ.np, σ.df⟩ p.1 p.2 = some g := by (simp only [go_sem, seval]; try (simp (disch := omega) only [zq]; try (simp only [go_sem, seval]; try (simp (disch := omega) only [zq]; try simp only [go_sem, seval])))); exact rfl) (hn : ∀ σ g, pureOp P σ g o.op = none := by intro σ g; exact rfl)
  (h : effOp P ⟨σ.n, keepE L σ.env, σ.hp, σ.nx, σ.gl, σ.np, σ.df⟩ o.op = some e := by (simp only [go_sem, seval]; try (simp (disch := omega) only [zq]; try (simp only [go_sem, seval]; try (simp (disch := omega) only [zq]; try simp only [go_sem, seval])))); exact rfl) (hh : e.hp = σ.hp := by exact rfl) (hx : e.nx = σ.nx := by exact rfl) (hd : dstOk σ.n o.dst = true := by (simp only [go_sem, seval]; try (simp (disch := omega) only [zq]; try (simp only [go_sem, seval]; try (simp (disch := omega) only [zq]; try simp only [go_sem, seval]))))) (hob : g = true → e.ob := by ((try (simp only [go_sem, seval]; try (simp (disch := omega) only [zq]; try (simp only [go_sem, seval]; try (simp (disch := omega) only [zq]; try simp only [go_sem, seval]))))); try (first | exact True.intro | omega | (simp only [zb]; omega) | (simp; done) | (simp; omega) | (and_intros <;> first | assumption | omega | (simp; done) | (simp; omega))))) : awFun P ops K (i :: rest) σ := by
 refine ⟨o, .opt g e.val, nth_ops ho, ⟨⟨σ.n, keepE L σ.env, σ.hp, σ.nx, σ.gl, σ.np, σ.df⟩, ⟨rfl, rfl, rfl, rfl, rfl, rfl⟩, ?_, ?_⟩, hK⟩
 ·intro t x ht
  obtain ⟨h1, h2⟩ := get_keepE _ _ t x ht
  have := List.all_eq_true.1 hL t h1
  exact ⟨by simpa using this, h2⟩
 ·refine awGuard_sound (nth_ops ho) ?_
  unfold awGuard
  rw [hg]
  simp only
  rw [hgv]
  simp only
  rw [hn]
  simp only
  refine .inr ⟨e.val, hd, fun hgt => awStep_sound ?_, ?_⟩
  ·unfold awStep
   rw [hn, h]
   exact ⟨hd, hob hgt, by rw [hh, hx]⟩
  ·exact ⟨by cases o.dst <;> rfl, by cases o.dst <;> rfl, fun d hd => by rw [hd]; simp [St.put, get_set]⟩
end Aw
