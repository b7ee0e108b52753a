/- Rules of a calculus of walks: no condition of its own. -/
import Derived.Test.YtlamdhcfojligaaGreatCore34
import Derived.LoopN
namespace Aw
open Go
section
variable {P : Program} {c : Code} {Q : AX → St → Prop} {σ : St}
def AWR (P : Program) (c : Code) (Q : AX → St → Prop) : Nat → St → Prop
 | 0,_=>False
 | n + 1,σ=>AW P c σ (andThen (fun σ'=>AWR P c Q n σ') Q)
theorem AWR.rounds : ∀ (n : Nat) (σ : St) (m0 m : Mem) (a : Act),AWR P c Q n σ → m0.le m → Sim m a σ →
  Code.rounds P c (Post m0 Q) n a m.w
 | 0,_,_,_,_,h,_,_=>h.elim
 | n + 1,σ,m0,m,a,h,hle0,hS=>by
  rw [rounds_succ]
  refine wp_mono (h m a hS) ?_
  rintro e a' w' ⟨m',σ',ax,rfl,hle,hS',hex,hq⟩
  cases ax with
  | normal =>
   simp only [exOk] at hex
   subst hex
   exact AWR.rounds n σ' m0 m' a' hq (hle0.trans hle) hS'
  | exit id =>
   simp only [exOk] at hex
   subst hex
   exact ⟨m',σ',.exit id,rfl,hle0.trans hle,hS',rfl,hq⟩
  | ret =>
   simp only [exOk] at hex
   subst hex
   exact ⟨m',σ',.ret,rfl,hle0.trans hle,hS',rfl,hq⟩
  | panic x =>
   obtain ⟨v,rfl,hv⟩:=hex
   exact ⟨m',σ',.panic x,rfl,hle0.trans hle,hS',⟨v,rfl,hv⟩,hq⟩
theorem AW.un (n : Nat) (h : AW P c σ (andThen (fun σ'=>AWR P c Q n σ') Q)) : AW P (.loop c) σ Q:=fun m a hS =>
 wp_loop_rounds (n + 1) (AWR.rounds (n + 1) σ m m a h (.refl m) hS)
theorem AWR.s {n : Nat} (h : AW P c σ (andThen (fun σ'=>AWR P c Q n σ') Q)) : AWR P c Q (n + 1) σ:=h
end
end Aw

namespace Aw
open Go
variable {P : Program} {ops : Array Oper} {y : Code} {id : Nat} {σ : St} {Q : AX → St → Prop}
end Aw

namespace Aw
open Go
section
variable {B : Bs} {r : Option Nat} {Θ : Mem → Prop} {P : Program} {σ : St} {Q : AX → St → Prop} {y : Code} {id : Nat} {ops : Array Oper}
section
variable {K : St → Prop} {Kp : AV → St → Prop} {o : Oper} {i k : Nat} {t r : PT} {ob ob' : Prop} {σ' σf : St} {f : FuncId} {xs ys : List AV}
end
end
end Aw

namespace Aw
open Go
section
variable {B : Bs} {r : Option Nat} {Θ : Mem → Prop} {P : Program} {σ : St} {o : Oper} {ops : Array Oper} {K : St → Prop} {Kp : AV → St → Prop} {ob ob' : Prop} {ys zs xs : List AV} {hp0 hp1 hp2 : List (Nat × ABlk)} {n1 n2 c i : Nat}
end
end Aw

namespace Aw
open Go
section
variable {P : Program} {ds : List (Option Tmp)} {σ : St} {o : Oper} {K : St → Prop} {Kp : AV → St → Prop} {ob : Prop}
end
section
variable {B : Bs} {r : Option Nat} {Θ : Mem → Prop} {P : Program} {σ : St} {o : Oper} {rest : List Oper} {ops : Array Oper} {K : St → Prop} {Kp : AV → St → Prop} {ob ob' : Prop} {ys zs xs : List AV} {hp0 hp1 : List (Nat × ABlk)} {n1 : Nat}
end
end Aw
