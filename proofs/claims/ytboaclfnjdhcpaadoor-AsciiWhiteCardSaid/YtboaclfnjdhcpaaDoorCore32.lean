/- Rules of a calculus of walks: no condition of its own. -/
import Derived.Test.YtboaclfnjdhcpaaDoorCore31
import Derived.LoopN
namespace Aw
open Go
section
variable {P : Program} {c : Code} {Q : AX → St → Prop} {σ : St}
def AWR (P : Program) (c : Code) (Q : AX → St → Prop) : Nat → St → Prop
 | 0,_=>False
 | n + 1,σ=>AW P c σ (andThen (fun σ'=>AWR P c Q n σ') Q)
theorem AWR.rounds : ∀ (n : Nat) (σ : St) (m0 m : Mem) (a : Act),AWR P c Q n σ → m0.le m → Sim m a σ →
  Code.rounds P c (Post m0 Q) n a m.w
 | 0,_,_,_,_,h,_,_=>h.elim
 | n + 1,σ,m0,m,a,h,hle0,hS=>by
  rw [rounds_succ]
  refine wp_mono (h m a hS) ?_
  rintro e a' w' ⟨m',σ',ax,rfl,hle,hS',hex,hq⟩
  cases ax with
  | normal =>
   simp only [exOk] at hex
   subst hex
   exact AWR.rounds n σ' m0 m' a' hq (hle0.trans hle) hS'
  | exit id =>
   simp only [exOk] at hex
   subst hex
   exact ⟨m',σ',.exit id,rfl,hle0.trans hle,hS',rfl,hq⟩
  | ret =>
   simp only [exOk] at hex
   subst hex
   exact ⟨m',σ',.ret,rfl,hle0.trans hle,hS',rfl,hq⟩
  | panic x =>
   obtain ⟨v,rfl,hv⟩:=hex
   exact ⟨m',σ',.panic x,rfl,hle0.trans hle,hS',⟨v,rfl,hv⟩,hq⟩
theorem AW.un (n : Nat) (h : AW P c σ (andThen (fun σ'=>AWR P c Q n σ') Q)) : AW P (.loop c) σ Q:=fun m a hS =>
 wp_loop_rounds (n + 1) (AWR.rounds (n + 1) σ m m a h (.refl m) hS)
theorem AWR.s {n : Nat} (h : AW P c σ (andThen (fun σ'=>AWR P c Q n σ') Q)) : AWR P c Q (n + 1) σ:=h
end
end Aw

namespace Aw
open Go
variable {P : Program} {ops : Array Oper} {y : Code} {id : Nat} {σ : St} {Q : AX → St → Prop}
theorem AWG.drawTreeC {σf : St} (C : Prop) (T : PT) (hsel : Region.noSelect ops = true)
  (hp : treeOk ops false ops.size T (Array.replicate ops.size false) = true) (hQ : PI Q)
  (h : awTree P ops (fun σ=>C ∧ σ.norm = σf) (fun x σ'=>Q (.panic x) σ') T σ) (hk : C → Q .normal σf) : AWG P ops σ Q:=by
 have hT:=(awTree_sound (P:=P) hsel hQ T false ops.size _ σ hp h).1 rfl
 exact GAny.mono (fun σ' ⟨σ2,he,hc,hq⟩=>⟨σ2.norm,he.trans σ2.norm_eqv,by rw [hq]; exact hk hc⟩) hT
theorem AW.tGC {σf : St} (C : Prop) (T : PT) (h : awTree P ops (fun σ=>C ∧ σ.norm = σf) (fun x σ'=>Q (.panic x) σ') T σ) (hk : C → AW P y σf Q) (hm : P.follows .mixedOrders = true:=by kernel_rfl) (hsel : Region.noSelect ops = true:=by kernel_rfl)
  (hp : treeOk ops false ops.size T (Array.replicate ops.size false) = true:=by kernel_rfl) (hQ : PI Q:=by repeat (first | exact Aw.PI.fin | exact Aw.PI.finH | refine Aw.PI.unblock ?_ | refine Aw.PI.andThen ?_)) : AW P (.seq (.region id ops true) y) σ Q :=
 AW.seq (AW.ofG hm (AWG.drawTreeC (Q:=andThen (fun σ=>AW P y σ Q) Q) C T hsel hp (PI.andThen hQ) h hk))
theorem awTree.dnC {C : Prop} {Kp : AV → St → Prop} {σf : St} (hc : C) (h : σ.norm = σf:=by first | ((simp only [go_sem,seval]; iterate 2 try (simp (disch:=omega) only [zq]; try simp only [go_sem,seval])); done) | ((simp only [go_sem,seval]; iterate 2 try (simp (disch:=omega) only [zq]; try simp only [go_sem,seval])); exact rfl)) : awTree P ops (fun σ=>C ∧ σ.norm = σf) Kp .done σ:=⟨hc,h⟩
end Aw
