/- Rules of a calculus of walks: no condition of its own. -/
import Derived.Test.YtldekaaiippfkaaCore20
namespace Aw
open Go
variable {P : Program} {ops : Array Oper} {y : Code} {id : Nat} {σ : St} {Q : AX → St → Prop}
theorem GAny.mono {K K' : St → Prop} {Kp : AV → St → Prop} (hK : ∀ σ, K σ → K' σ) : ∀ {f : Nat} {l : Array Bool} {σ : St}, GAny P ops K Kp f l σ → GAny P ops K' Kp f l σ
 | 0, _, _, h => ⟨h.1, hK _ h.2⟩
 | _ + 1, _, _, h => ⟨fun h0 => hK _ (h.1 h0), fun i hi => (h.2 i hi).mono fun _ h => GAny.mono hK h⟩
section
variable {K : St → Prop} {Kp : AV → St → Prop} {o : Oper} {i k : Nat} {t r : PT} {ob ob' : Prop} {σ' σf : St} {f : FuncId} {xs ys : List AV}
end
end Aw
