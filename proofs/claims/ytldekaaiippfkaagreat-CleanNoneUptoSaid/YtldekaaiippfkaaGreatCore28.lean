/- Rules of a calculus of walks: no condition of its own. -/
import Derived.Test.YtldekaaiippfkaaGreatCore27
namespace Aw
open Go

theorem get_appHp_eq {b : List (Nat × ABlk)} : ∀ (a : List (Nat × ABlk)) (i : Nat), get (appHp a b) i = (match get a i with | some x => some x | none => get b i)
 | [], i => rfl
 | (j, y) :: a, i => by
  simp only [appHp, get]
  split
  ·rfl
  ·exact get_appHp_eq a i
theorem get_dels_eq : ∀ (L : List Nat) (hp : List (Nat × ABlk)) (i : Nat), get (dels hp L) i = if i ∈ L then none else get hp i
 | [], hp, i => by simp [dels]
 | j :: L, hp, i => by
  rw [dels, get_dels_eq L, get_del]
  by_cases h1 : i ∈ L <;> by_cases h2 : j = i <;> simp [h1, h2, eq_comm]
theorem get_renHp_inj {π : Nat → Nat} (hinj : ∀ i j, π i = π j → i = j) : ∀ (hp : List (Nat × ABlk)) (i : Nat), get (renHp π hp) (π i) = (get hp i).map (renB π)
 | [], i => rfl
 | (j, y) :: hp, i => by
  simp only [renHp, get]
  by_cases h : j = i
  ·subst h
   simp
  ·rw [if_neg h, if_neg (fun e => h (hinj _ _ e))]
   exact get_renHp_inj hinj hp i
theorem SimH.sub {m : Mem} {hp hp' : List (Nat × ABlk)} {nx : Nat} (h : SimH m hp nx) (hs : ∀ id x, get hp' id = some x → get hp id = some x) : SimH m hp' nx :=
 ⟨fun id x hx => h.blk id x (hs id x hx), fun id id' x x' ri ri' hx hx' => h.apart id id' x x' ri ri' (hs _ _ hx) (hs _ _ hx'), h.fresh, h.Fold, h.Pold⟩
/-- what is no block of one's own is protected besides -/
def Mem.prot (m : Mem) (l : Nat) : Mem := { m with Pr := fun b => m.Pr b ∨ b = l }
section
variable {m : Mem} {hp : List (Nat × ABlk)} {nx l k : Nat} {rc : Loop}
theorem prot_leT : m.leT (m.prot l) := ⟨rfl, rfl, rfl, Nat.le_refl _, fun _ h => .inl h, fun _ _ => rfl, fun _ _ h => h, fun _ _ _ => rfl, fun _ _ _ h => h, rfl, fun _ _ _ h => h⟩
theorem prot_keeps : m.keeps (m.prot l) := ⟨rfl, fun _ h => .inl h, fun _ _ => rfl, fun _ _ h => h, fun _ _ _ => rfl, fun _ _ h => h⟩
theorem prot_simH (hH : SimH m hp nx) (hg : get hp k = some (.lp l rc)) : SimH (m.prot l) (del hp k) nx := by
 obtain ⟨h1, _, ri, hr, hn, rfl, _⟩ := hH.lp hg
 have hlt : ri.b < m.w.heap.size := (Array.getElem?_eq_some_iff.1 h1).1
 refine ⟨fun id x hx => ?_, fun id id' x x' r r' hx hx' => ?_, hH.fresh, hH.Fold, fun b hb => ?_⟩
 ·rw [get_del] at hx
  split at hx
  ·cases hx
  rename_i hne
  obtain ⟨r, hr', hb⟩ := hH.blk id x hx
  refine ⟨r, hr', ?_⟩
  have hm : MapOk m (m.prot ri.b) (fun i => i) := ⟨fun _ h => .inl h, fun _ _ => rfl, fun _ _ h => h, fun _ _ _ => rfl, fun _ _ h => h⟩
  have := BlkRep.map hm (fun _ => rfl) (fun hn' hP => by
   rcases hP with hP | hP
   ·exact hb.noPr hn' hP
   ·exact hH.apart id k x _ r ri hx hg hr' hr (fun e => hne e.symm) hn' hn hP) (fun _ _ h => h) hb
  rw [renB_id] at this
  exact this
 ·rw [get_del] at hx hx'
  split at hx
  ·cases hx
  split at hx'
  ·cases hx'
  exact hH.apart id id' x x' r r' hx hx'
 ·rcases hb with hb | rfl
  ·exact hH.Pold b hb
  ·exact hlt
end
theorem viewHp_snoc {π : Nat → Nat} {n : Nat} {hp : List (Nat × ABlk)} {nx : Nat} {b : ABlk} (hnx : get hp nx = none) {k : Nat} {c : ABlk} (hk : k < n) (hπ : π k = nx) (hb : b = renB π c) :
  ∀ {hp0 : List (Nat × ABlk)}, viewHp π n hp hp0 → viewHp π n (set hp nx b) (hp0 ++ [(k, c)])
 | [], _ => ⟨⟨hk, by rw [get_set, hπ, if_pos rfl, hb]⟩, trivial⟩
 | (i, x) :: r, h => by
  obtain ⟨⟨h1, h2⟩, h3⟩ := h
  refine ⟨⟨h1, ?_⟩, viewHp_snoc hnx hk hπ hb h3⟩
  rw [get_set]
  split
  ·rename_i e
   rw [← e, hnx] at h2
   cases h2
  ·exact h2
/-- the state behind a loop over a function -/
def backB (σ : St) (L : List Nat) (hp' : List (Nat × ABlk)) (nx' : Nat) : St :=
 ⟨σ.n, σ.env, del (appHp (dels σ.hp L) (renHp (bk (L ++ [σ.nx]) (σ.nx + 1)) hp')) σ.nx, σ.nx + 1 + (nx' - (L.length + 1)), σ.gl, σ.np, σ.df⟩
def recOf (tmps : Array Value) (ps : Array Tmp) (assign body : Code) (dd : Nat) (fn : FuncId) (st : LoopState) (j : Option Code) : Loop :=
 { state := st, pending := j, fn, tmps, params := ps, assign, body, defers := dd }

end Aw
