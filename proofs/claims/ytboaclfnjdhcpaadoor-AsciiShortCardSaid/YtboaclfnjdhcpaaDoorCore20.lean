/- Rules of a calculus of walks: no condition of its own. -/
import Derived.Test.YtboaclfnjdhcpaaDoorCore19
namespace Aw
open Go
section
variable {P : Program} {ops : Array Oper} {σ : St} {Q : AX → St → Prop} {id : Nat}
theorem AW.tL (T : PT) {ob : Prop} {L : List St} (hk : ∀ σ' ∈ L.map St.norm,Q .normal σ') (hm : P.follows .mixedOrders = true:=by kernel_rfl) (hsel : Region.noSelect ops = true:=by kernel_rfl)
  (hp : treeOk ops false ops.size T (Array.replicate ops.size false) = true:=by kernel_rfl) (hQ : PI Q:=by repeat (first | exact Aw.PI.fin | exact Aw.PI.finH | refine Aw.PI.unblock ?_ | refine Aw.PI.andThen ?_))
  (h : runTree P ops.toList (ops.toList.map (·.dst)) T σ = some (ob,L):=by (simp only [go_sem,seval]; iterate 2 try (simp (disch:=omega) only [zq]; try simp only [go_sem,seval])); exact rfl) (hob : ob:=by ((try (simp only [go_sem,seval]; iterate 2 try (simp (disch:=omega) only [zq]; try simp only [go_sem,seval]))); try (first | exact True.intro | omega | (simp only [zb]; omega) | (simp; done) | (simp; omega) | (and_intros <;> first | assumption | omega | (simp; done) | (simp; omega))))) : AW P (.region id ops true) σ Q:=AW.drawTree T hm hsel hp hQ h hob hk
end
theorem AW.fz {P : Program} {σ : St} {c : Code} {Q : AX → St → Prop} (l : List Nat) {hp' : List (Nat × ABlk)} (k : AW P c ⟨σ.n,σ.env,hp',σ.nx,σ.gl,σ.np,σ.df⟩ Q) (hh : frzs σ.hp l = hp':=by (simp only [go_sem,seval]; iterate 2 try (simp (disch:=omega) only [zq]; try simp only [go_sem,seval])); exact rfl) : AW P c σ Q:=by
 subst hh
 refine AW.pre (σ':=⟨σ.n,σ.env,frzs σ.hp l,σ.nx,σ.gl,σ.np,σ.df⟩) (fun m a hS=>?_) k
 obtain ⟨m',h1,h2,h3,h4,h5⟩:=frzs_sound l hS.h
 refine ⟨m',h1,h3,h5,hS.n,hS.defers.mono h4,?_,fun g z hg=>Rep.mono h4 1 _ _ (hS.gl g z hg),by have:=h3.np; rw [this]; exact hS.np⟩
 intro u z hz
 obtain ⟨g1,g2⟩:=hS.env u z hz
 exact ⟨g1,Rep.mono h4 0 _ _ g2⟩
end Aw
