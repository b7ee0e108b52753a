/- Rules of a calculus of walks: no condition of its own. -/
import Derived.Test.YtldekaaiippfkaaGreatCore28
namespace Aw
open Go
/-- the memory behind the block for deferred calls -/
def Mem.enteredD (m : Mem) : Mem := { m with w := m.w.alloc (.deferred (some [])), Pr := fun b => m.Pr b ∨ b = m.w.heap.size }
section
variable {m : Mem} {hp : List (Nat × ABlk)} {nx : Nat}
theorem enteredD_leT (hH : SimH m hp nx) : m.leT m.enteredD where
 os := rfl
 tape := rfl
 output := rfl
 size := by simp [Mem.enteredD]
 Pr _ h := .inl h
 block b hb := alloc_old (hH.Pold b hb)
 F _ _ h := h
 cell b o hf := cell?_of_block (alloc_old (hH.Fold b o hf))
 new _ _ _ h := h
 np := rfl
 pin _ _ _ h := h
theorem enteredD_keeps (hH : SimH m hp nx) : m.keeps m.enteredD where
 np := rfl
 Pr _ h := .inl h
 block b hb := alloc_old (hH.Pold b hb)
 F _ _ h := h
 cell b o hf := cell?_of_block (alloc_old (hH.Fold b o hf))
 ρ _ _ h := h
theorem enteredD_simH (hH : SimH m hp nx) : SimH m.enteredD hp nx where
 blk id x hx := by
  obtain ⟨ri, h1, h2⟩ := hH.blk id x hx
  refine ⟨ri, h1, ?_⟩
  have hk := enteredD_keeps hH
  have hm : MapOk m m.enteredD (fun i => i) := ⟨hk.Pr, hk.block, hk.F, hk.cell, hk.ρ⟩
  have := BlkRep.map hm (fun hn => alloc_old (h2.lt hn)) (fun hn hP => (by
   have hlt := h2.lt hn
   rcases hP with hP | hP
   ·exact h2.noPr hn hP
   ·omega)) (fun _ _ h => h) h2
  rw [renB_id] at this
  exact this
 apart := hH.apart
 fresh := hH.fresh
 Fold b o hf := by have := hH.Fold b o hf; simp only [Mem.enteredD, World.size_alloc]; omega
 Pold b hb := by
  simp only [Mem.enteredD, World.size_alloc]
  rcases hb with hb | hb
  ·have := hH.Pold b hb; omega
  ·omega
end
section
variable {B : Nat} {r : Option Nat} {Θ : Mem → Prop} [Lasts Θ] {P : Program} {σ : St} {Q : AX → St → Prop} {g : Operand} {ps : List Tmp} {assign body : Code} {it : FuncId} {caps zs xs : List AV} {ob' : Prop} {L : List Nat}
 {hp0 : List (Nat × ABlk)} {E : List (Nat × AV)} {R : Option Code → List (Nat × ABlk) → Nat → Prop}
end
end Aw
