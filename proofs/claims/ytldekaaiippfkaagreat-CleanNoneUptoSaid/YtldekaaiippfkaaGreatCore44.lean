/- Rules of a calculus of walks: no condition of its own. -/
import Derived.Test.YtldekaaiippfkaaGreatCore43
namespace Aw
open Go
/-- a round of such a loop, as the walk of the function that is ranged over may ask for it -/
def RoundOkU (Ω : Mem → Prop) (P : Program) (gl : List (Nat × AV)) (n : Nat) (E : List (Nat × AV)) (ps : List Tmp) (assign body : Code) (l k : Nat) (rb : Loop) (rc : Option Code → Loop) : Prop :=
 ∀ ys hp nx Rr, get hp k = some (.lp l (rc none)) → ys.length = ps.length → AWT 0 (some l) (fun _ => True) P assign ⟨n, setAll E ps ys, hp, nx, gl, k + 1, []⟩
  (fun ax σ' => ax = .normal ∧ get σ'.hp k = some (.lp l (rc none)) ∧ AWT 0 (some l) (fun _ => True) P body ⟨σ'.n, σ'.env, set σ'.hp k (.lp l rb), σ'.nx, σ'.gl, σ'.np, σ'.df⟩
   (fun ax σ'' => ∃ j, jumpOf ax = some j ∧ ∃ σ3, St.le σ3 σ'' ∧ get σ3.hp k = some (.lp l rb) ∧ noTHm σ3.hp = true ∧ Rr (AE.ret (.bool j.isNone)) (set σ3.hp k (.lp l (rc j))) σ3.nx)) → RoundU Ω P gl l ys hp nx (k + 1) Rr
section
variable {B : Nat} {r : Option Nat} {Θ : Mem → Prop} [Lasts Θ] {P : Program} {σ : St} {Q : AX → St → Prop} {g : Operand} {ps : List Tmp} {assign body : Code} {it : FuncId} {caps zs xs : List AV} {ob' : Prop} {L L2 : List Nat}
 {hp0 : List (Nat × ABlk)} {E : List (Nat × AV)} {R : Option Code → List (Nat × ABlk) → Nat → Prop}
theorem AWT.rangeOU
  (hit : ∀ (Ω : Mem → Prop) (_ : LastsU Ω) (l : Nat) (rb : Loop) (rc : Option Code → Loop), RoundOkU Ω P σ.gl σ.n E ps assign body l L.length rb rc →
   FnU Ω P σ.gl it (.raw (.func (.yield l) #[] #[]) :: xs) (hp0 ++ [(L.length, .lp l (rc none))]) (L.length + 1 + L2.length) (L.length + 1) fun q hp' nx' => (∃ x, q = .ret x) ∧ ∃ j, get hp' L.length = some (.lp l (rc j)) ∧ R j hp' nx')
  (hK : ∀ j hp' nx', R j hp' nx' → backOku (L.length + 1) hp' nx' = true ∧ (match j with | none => Q .normal (backBU σ L L2 hp' nx') | some c => AWT B none Θ P c (backBU σ L L2 hp' nx') Q))
  (hg : ev σ g = some (.clos it caps)) (hz : mapO (fz σ.hp 9) caps = some (ob', zs)) (hob' : ob') (hL : (L ++ L2).all (fun id => (get σ.hp id).isSome) = true) (hnd : (L ++ L2).Nodup)
  (hhp : viewHp (Aw.pick (L ++ σ.nx :: L2) (σ.nx + 1)) (L.length + 1 + L2.length) σ.hp hp0) (hxs : renL (Aw.pick (L ++ σ.nx :: L2) (σ.nx + 1)) xs = zs) (hE : ∀ t x, get E t = some x → get σ.env t = some (ren (Aw.pick (L ++ σ.nx :: L2) (σ.nx + 1)) x) ∧ small (L.length + 1) x = true) (hp : ∀ p ∈ ps, p < σ.n) :
  AWT B none Θ P (.rangeFunc g ps.toArray assign body) σ Q := by
 intro m a hS ht
 refine AWT.rangeAtU (m1 := m.enteredD) (mark := [{ target := .collected m.w.heap.size, args := #[] }]) (dd := m.w.heap.size) (enteredD_leT hS.s.h) ⟨hS.s.of (enteredD_keeps hS.s.h) (enteredD_simH hS.s.h), ⟨?_, ?_⟩, ?_⟩ ht ?_ hit hK hg hz hob' hL hnd hhp hxs hE hp
 ·intro d hd
  rcases List.mem_append.1 hd with hd | hd
  ·simp only [List.mem_singleton] at hd
   subst hd
   exact ⟨_, rfl, hS.base, .inr rfl, World.alloc_heap_new m.w _⟩
  ·obtain ⟨D', g1, g2, g3, g4⟩ := hS.marks.1 d hd
   exact ⟨D', g1, g2, .inl g3, (alloc_old (Array.getElem?_eq_some_iff.1 g4).1).trans g4⟩
 ·refine List.pairwise_append.2 ⟨List.pairwise_singleton _ _, hS.marks.2, ?_⟩
  intro d hd e he
  simp only [List.mem_singleton] at hd
  subst hd
  obtain ⟨D', g1, g2, g3, g4⟩ := hS.marks.1 e he
  rw [g1]
  intro h
  injection h with h
  have := (Array.getElem?_eq_some_iff.1 g4).1
  omega
 ·have := hS.base
  simp only [Mem.enteredD, World.size_alloc]
  omega
 ·intro fn
  rw [run_enterLoop_outer]
  congr 1
  simp [Mem.enteredD]
end
end Aw
