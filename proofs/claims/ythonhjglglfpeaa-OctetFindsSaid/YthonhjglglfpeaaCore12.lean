/- A calculus for walks: abstract values and states, sound against the rules of the library. It states nothing of a program. -/
import Derived.Test.YthonhjglglfpeaaCore11
import Derived.IntWalk
namespace Aw
open Go
def keepE (L : List Nat) (env : List (Nat × AV)) : List (Nat × AV) :=
  match L with
  | [] => []
  | t :: r => match get env t with
    | some x => (t, x) :: keepE r env
    | none => keepE r env
def appE (a b : List (Nat × AV)) : List (Nat × AV) :=
  match a with
  | [] => b
  | x :: r => x :: appE r b
attribute [go_sem] keepE appE
theorem AW.loopK {P : Program} {σ : St} {Q : AX → St → Prop} {c : Code} {S : Type} (L : List Nat) (V : S → List (Nat × AV)) (H : S → List (Nat × ABlk)) (N : Nat) (μ : S → Nat) (s : S) {E : List (Nat × AV)} (_ : keepE L σ.env = E)
    (h₀ : St.le ⟨σ.n, appE E (V s), H s, N, σ.gl, σ.np⟩ σ)
    (h : ∀ s, AW P c ⟨σ.n, appE E (V s), H s, N, σ.gl, σ.np⟩ (andThen (fun σ' => ∃ s', St.le ⟨σ.n, appE E (V s'), H s', N, σ.gl, σ.np⟩ σ' ∧ μ s' < μ s) Q)) : AW P (.loop c) σ Q := AW.loop (fun s => ⟨σ.n, appE E (V s), H s, N, σ.gl, σ.np⟩) μ s h₀ h
theorem wrap_i64 {n : Int} (h0 : -9223372036854775808 ≤ n) (h : n ≤ 9223372036854775807) : IntKind.i64.wrap n = n := IntWalk.i64_in _ ⟨h0, h⟩
theorem wrap_u8 {n : Int} (h0 : 0 ≤ n) (h : n ≤ 255) : IntKind.u8.wrap n = n := IntWalk.u8_in _ ⟨h0, h⟩
theorem wrap_u64 {n : Int} (h0 : 0 ≤ n) (h : n ≤ 18446744073709551615) : IntKind.u64.wrap n = n := IntWalk.u64_in _ ⟨h0, h⟩
theorem again {S : Type} {A : S → Prop} {μ : S → Nat} {n : Nat} (s' : S) (h1 : μ s' < n) (h2 : A s') : ∃ s', A s' ∧ μ s' < n := ⟨s', h2, h1⟩
end Aw
namespace Aw
open Go
theorem okRow_nil : okRow 0 [] = true := rfl
theorem okRow_cons (n : Nat) (x : AV) (xs : List AV) : okRow (n + 1) (x :: xs) = (okCell x && okRow n xs) := by
  simp only [okRow, List.length_cons, List.all_cons, Nat.add_right_cancel_iff]
  cases okCell x <;> cases decide (xs.length = n) <;> cases xs.all okCell <;> rfl
theorem tdiv_nn {a b : Int} (h : 0 ≤ a) : a.tdiv b = a / b := Int.tdiv_eq_ediv_of_nonneg h
theorem tmod_nn {a b : Int} (h : 0 ≤ a) : a.tmod b = a % b := Int.tmod_eq_emod_of_nonneg h
attribute [go_sem] List.append_eq List.toList_toArray bytesAV_nil List.take_succ_cons List.take_zero List.take_nil List.forall_mem_cons List.not_mem_nil false_imp_iff okRow_nil okRow_cons room
end Aw
namespace Aw
open Go
theorem u8_le (b : UInt8) : ((b.toNat : Nat) : Int) ≤ 255 := by have := b.toNat_lt; omega
theorem Less.of_eq {x y : AV} (h : x = y) : Less x y := h ▸ Less.refl x
theorem Less.int {k : IntKind} {a b : Int} (h : a = b) : Less (.int k a) (.int k b) := h ▸ Less.refl _
theorem Less.row {i o a b : Nat} (h : a = b) : Less (.row i o a) (.row i o b) := h ▸ Less.refl _
theorem toNat_add1 (n : Nat) : ((n : Int) + 1).toNat = n + 1 := rfl
theorem toNat_add2 (n : Nat) : ((n : Int) + 2).toNat = n + 2 := rfl
theorem toNat_add (n m : Nat) : ((n : Int) + (m : Int)).toNat = n + m := rfl
theorem toNat_sub' (n m : Nat) : ((n : Int) - (m : Int)).toNat = n - m := by omega
theorem toNat_sub1 (n : Nat) : ((n : Int) - 1).toNat = n - 1 := by omega
attribute [go_sem] Int.toNat_natCast_add_one toNat_sub1 Int.toNat_sub
end Aw
namespace Aw
open Go
theorem i64max : IntKind.i64.max = 9223372036854775807 := by decide
attribute [go_sem] i64max
end Aw
