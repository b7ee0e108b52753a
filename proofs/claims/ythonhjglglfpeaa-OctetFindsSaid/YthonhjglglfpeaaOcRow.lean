/- A part of the proof of a law of the seat: no condition of its own. -/
import Derived.Test.YthonhjglglfpeaaOcI
import Derived.Test.YthonhjglglfpeaaAwRow
import Derived.Test.YthonhjglglfpeaaRows
namespace Go.Proofs.Ythonhjglglfpeaa
open Go Aw Go.ChangeShapes Go.WideShapes Go.ChangeAt Go.RowKit
open Go.ChangeMaps (open_string shut_string)

theorem own : ownKnob Try.prog.godebug = none := by kernel_rfl
theorem laidOut : laidOutB Try.prog = true := by kernel_rfl
/-- the memory in which a law begins -/
def gm (W : World) : Mem := { w := W, F := fun b o => b = 0 ∧ o = 0, Pr := fun b => b < W.heap.size, ρ := fun _ => none, np := 0 }
theorem gstart {W : World} {n : Int} (h : W.cell? ⟨0, 0, none⟩ = some (.int .i64 n)) : Aw.Start (gm W) (G n) := by
  have h0 : 0 < W.heap.size := by
    rcases Nat.lt_or_ge 0 W.heap.size with hlt | hge
    · exact hlt
    · have : W.heap[0]? = none := by rw [Array.getElem?_eq_none]; exact hge
      simp [World.cell?, this] at h
  refine ⟨fun b o hb => by obtain ⟨rfl, _⟩ := hb; exact h0, fun _ hb => hb, ?_, rfl, fun _ => rfl⟩
  intro g x hg
  simp only [G, Aw.get] at hg
  split at hg
  · rename_i e
    injection hg with hg
    subst hg e
    simp only [Rep, RepC]
    exact ⟨0, 0, rfl, ⟨rfl, rfl⟩, ⟨_, h, rfl⟩, trivial⟩
  · cases hg
theorem cell0 {W : World} (h : W.ShapedOpen Try.prog) : ∃ n, W.cell? ⟨0, 0, none⟩ = some (.int .i64 n) := Try.laysM143.s1_3 W h
theorem rep_str {m : Mem} {k : Nat} (s : ByteArray) : Rep m k (.str s.data.toList) (.string s) := by simp only [Rep]
theorem rep_int {m : Mem} {k : Nat} {ki : IntKind} (n : Int) : Rep m k (.int ki n) (.int ki n) := by simp only [Rep]
theorem repl_nil {m : Mem} {k : Nat} : RepL m k [] [] := by simp only [RepL]
theorem repl_cons {m : Mem} {k : Nat} {x : AV} {v : Value} {xs : List AV} {vs : List Value} (h : Rep m k x v) (hs : RepL m k xs vs) : RepL m k (x :: xs) (v :: vs) := by
  simp only [RepL]
  exact ⟨v, vs, rfl, h, hs⟩
theorem wf_i64 {n : Int} (h : (Lit.int .i64 n).wf = true) : -9223372036854775808 ≤ n ∧ n ≤ 9223372036854775807 := by
  simpa [Lit.wf, IntKind.min, IntKind.max, IntKind.bits, IntKind.signed] using h
theorem wf_u8 {n : Int} (h : (Lit.int .u8 n).wf = true) : 0 ≤ n ∧ n ≤ 255 := by
  simpa [Lit.wf, IntKind.min, IntKind.max, IntKind.bits, IntKind.signed] using h
end Go.Proofs.Ythonhjglglfpeaa
