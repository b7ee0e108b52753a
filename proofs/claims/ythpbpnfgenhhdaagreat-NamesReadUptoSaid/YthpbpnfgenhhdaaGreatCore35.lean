/- Rules of a calculus of walks: no condition of its own. -/
import Derived.Test.YthpbpnfgenhhdaaGreatCore34
namespace Aw
open Go
theorem LastsU.at {Θ : Mem → Prop} [LastsU Θ] {σ : St} {L : List Nat} (hL : L.all (fun id=>(get σ.hp id).isSome) = true) (hl : σ.np ≤ L.length) (hn : L.take σ.np = List.range σ.np) : ∀ m a,Sim m a σ → Θ m → Θ (m.innerU L σ.nx σ.np):=by
 intro m a hS ht
 exact LastsU.inner ht hS.h (fun id hid=>List.all_eq_true.1 hL id hid) hS.np hl hn
section
variable {B : Bs} {r : Option Nat} {Θ : Mem → Prop} {P : Program} {σ σ' : St} {Q : AX → St → Prop} {x y : Code} {c : Code} {id : Nat} {o : Oper} {rest : List Oper} {ops : Array Oper} {K : St → Prop} {Kp : AV → St → Prop} {ob ob' : Prop} {f : FuncId} {ys zs xs : List AV} {l : List Oper} {hp0 hp1 : List (Nat × ABlk)} {n1 : Nat}
end
section
variable {B : Bs} {r : Option Nat} {Θ : Mem → Prop} [Lasts Θ] {P : Program} {σ : St} {Q : AX → St → Prop} {ob' : Prop} {zs xs : List AV}
end
theorem strip_cmapOf {κ ν : Type} {K : κ → AV} {V : ν → AV} (g : Bool) (l : List (κ × ν)) : strip g (cmapOf K V l) = (True,cmapOf K V l):=rfl
attribute [go_sem ↓ high] strip_cmapOf renB_mapOf ren_cmapOf renB_itOf
attribute [go_sem] small smallL backOku backU backBU setAll backB
end Aw
