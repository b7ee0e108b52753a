/- Rules of a calculus of walks: no condition of its own. -/
import Derived.Test.YtboaclfnjdhcpaaDoorCore36
namespace Aw
open Go
section
variable {P : Program} {σ : St} {Q : AX → St → Prop} {y : Code} {ops : Array Oper} {id : Nat}
theorem EffAt.of {e : Nat} {oe : Oper} {σ : St} {hp1 : List (Nat × ABlk)} {ob : Prop} {v : AV} (L : List Nat) (hoe : nth ops.toList e = some oe:=by exact rfl) (hg : oe.guard = none:=by exact rfl) (hL : L.all (fun t=>(oe.looksAt ops).contains t) = true:=by kernel_rfl)
  (hn : pureOp P ⟨σ.n,keepE L σ.env,σ.hp,σ.nx,σ.gl,σ.np,σ.df⟩ true oe.op = none:=by exact rfl) (h : effOp P ⟨σ.n,keepE L σ.env,σ.hp,σ.nx,σ.gl,σ.np,σ.df⟩ oe.op = some ⟨ob,v,hp1,σ.nx⟩:=by (simp only [go_sem,seval]; iterate 2 try (simp (disch:=omega) only [zq]; try simp only [go_sem,seval])); exact rfl) (hd : dstOk σ.n oe.dst = true:=by exact rfl) (hob : ob:=by ((try (simp only [go_sem,seval]; iterate 2 try (simp (disch:=omega) only [zq]; try simp only [go_sem,seval]))); try (first | exact True.intro | omega | (simp only [zb]; omega) | (simp; done) | (simp; omega) | (and_intros <;> first | assumption | omega | (simp; done) | (simp; omega))))) : EffAt P ops e oe σ hp1:=by
 refine ⟨⟨σ.n,keepE L σ.env,σ.hp,σ.nx,σ.gl,σ.np,σ.df⟩,⟨rfl,rfl,rfl,rfl,rfl,rfl⟩,fun t x ht=>?_,?_⟩
 ·obtain ⟨h1,h2⟩:=get_keepE _ _ t x ht
  have:=List.all_eq_true.1 hL t h1
  exact ⟨by simpa using this,h2⟩
 ·refine awGuard_sound (nth_ops hoe) ?_
  unfold awGuard
  rw [hg]
  simp only
  unfold awStep
  rw [hn,h]
  exact ⟨hd,hob,by cases oe.dst <;> exact ⟨rfl,rfl⟩⟩
theorem AW.sS (S : List Nat) (e : Nat) (pl : List (Nat × Nat)) (hp1 : List (Nat × ABlk)) {oe : Oper} (h : awFunE P ops (fun σ'=>EffAt P ops e oe ⟨σ'.n,σ'.env,σ.hp,σ.nx,σ'.gl,σ'.np,σ'.df⟩ hp1 ∧ awPlan P ops (fun σ'=>AW P y σ' Q) (fun x σ'=>Q (.panic x) σ') pl σ') S σ ⟨σ.n,σ.env,hp1,σ.nx,σ.gl,σ.np,σ.df⟩)
  (hm : P.follows .mixedOrders = true:=by kernel_rfl) (hsel : Region.noSelect ops = true:=by kernel_rfl) (hst : funSteps ops [] S = true:=by kernel_rfl) (hok : storeOk ops e S = true:=by kernel_rfl)
  (hoe : nth ops.toList e = some oe:=by exact rfl) (hlks : (oe.looksAt ops).all (fun t=>S.all fun i=>dstAt ops i != some t || (bindsAt ops e).contains i) = true:=by kernel_rfl)
  (hp : (planOk ops pl (listAll (Array.replicate ops.size false) (e :: S)) && pl.length + S.length + 1 == ops.size) = true:=by kernel_rfl) (hQ : PI Q:=by repeat (first | exact Aw.PI.fin | exact Aw.PI.finH | exact Aw.PI.round | refine Aw.PI.unblock ?_ | refine Aw.PI.andThen ?_)) (hd : oe.dst = none:=by exact rfl) : AW P (.seq (.region id ops true) y) σ Q :=
 AW.seq (AW.ofG hm (AWG.funS S e pl hsel hst hok hlks hp (PI.andThen hQ) (nth_ops hoe) hd h))
theorem AW.sL (S : List Nat) (e : Nat) (pl : List (Nat × Nat)) (hp1 : List (Nat × ABlk)) {oe : Oper} (h : awFunE P ops (fun σ'=>EffAt P ops e oe ⟨σ'.n,σ'.env,σ.hp,σ.nx,σ'.gl,σ'.np,σ'.df⟩ hp1 ∧ awPlan P ops (fun σ'=>Q .normal σ') (fun x σ'=>Q (.panic x) σ') pl σ') S σ ⟨σ.n,σ.env,hp1,σ.nx,σ.gl,σ.np,σ.df⟩)
  (hm : P.follows .mixedOrders = true:=by kernel_rfl) (hsel : Region.noSelect ops = true:=by kernel_rfl) (hst : funSteps ops [] S = true:=by kernel_rfl) (hok : storeOk ops e S = true:=by kernel_rfl)
  (hoe : nth ops.toList e = some oe:=by exact rfl) (hlks : (oe.looksAt ops).all (fun t=>S.all fun i=>dstAt ops i != some t || (bindsAt ops e).contains i) = true:=by kernel_rfl)
  (hp : (planOk ops pl (listAll (Array.replicate ops.size false) (e :: S)) && pl.length + S.length + 1 == ops.size) = true:=by kernel_rfl) (hQ : PI Q:=by repeat (first | exact Aw.PI.fin | exact Aw.PI.finH | exact Aw.PI.round | refine Aw.PI.unblock ?_ | refine Aw.PI.andThen ?_)) (hd : oe.dst = none:=by exact rfl) : AW P (.region id ops true) σ Q :=
 AW.ofG hm (AWG.funS S e pl hsel hst hok hlks hp hQ (nth_ops hoe) hd h)
end
section
variable {B : Bs} {r : Option Nat} {Θ : Mem → Prop} {P : Program} {σ : St} {Q : AX → St → Prop} {y : Code} {ops : Array Oper} {id : Nat}
theorem AWT.sS [Lasts Θ] (S : List Nat) (e : Nat) (pl : List (Nat × Nat)) (hp1 : List (Nat × ABlk)) {oe : Oper} (h : awFunE P ops (fun σ'=>EffAt P ops e oe ⟨σ'.n,σ'.env,σ.hp,σ.nx,σ'.gl,σ'.np,σ'.df⟩ hp1 ∧ awPlan P ops (fun σ'=>AWT B r Θ P y σ' Q) (fun x σ'=>Q (.panic x) σ') pl σ') S σ ⟨σ.n,σ.env,hp1,σ.nx,σ.gl,σ.np,σ.df⟩)
  (hm : P.follows .mixedOrders = true:=by kernel_rfl) (hsel : Region.noSelect ops = true:=by kernel_rfl) (hst : funSteps ops [] S = true:=by kernel_rfl) (hok : storeOk ops e S = true:=by kernel_rfl)
  (hoe : nth ops.toList e = some oe:=by exact rfl) (hlks : (oe.looksAt ops).all (fun t=>S.all fun i=>dstAt ops i != some t || (bindsAt ops e).contains i) = true:=by kernel_rfl)
  (hp : (planOk ops pl (listAll (Array.replicate ops.size false) (e :: S)) && pl.length + S.length + 1 == ops.size) = true:=by kernel_rfl) (hQ : PI Q:=by repeat (first | exact Aw.PI.fin | exact Aw.PI.finH | exact Aw.PI.round | refine Aw.PI.unblock ?_ | refine Aw.PI.andThen ?_)) (hd : oe.dst = none:=by exact rfl) (hnd : noDefers ops.toList = true:=by rfl) : AWT B r Θ P (.seq (.region id ops true) y) σ Q :=
 AWT.seq (AWT.ofG hm hnd (AWG.funS S e pl hsel hst hok hlks hp (PI.andThen hQ) (nth_ops hoe) hd h))
theorem AWT.sL (S : List Nat) (e : Nat) (pl : List (Nat × Nat)) (hp1 : List (Nat × ABlk)) {oe : Oper} (h : awFunE P ops (fun σ'=>EffAt P ops e oe ⟨σ'.n,σ'.env,σ.hp,σ.nx,σ'.gl,σ'.np,σ'.df⟩ hp1 ∧ awPlan P ops (fun σ'=>Q .normal σ') (fun x σ'=>Q (.panic x) σ') pl σ') S σ ⟨σ.n,σ.env,hp1,σ.nx,σ.gl,σ.np,σ.df⟩)
  (hm : P.follows .mixedOrders = true:=by kernel_rfl) (hsel : Region.noSelect ops = true:=by kernel_rfl) (hst : funSteps ops [] S = true:=by kernel_rfl) (hok : storeOk ops e S = true:=by kernel_rfl)
  (hoe : nth ops.toList e = some oe:=by exact rfl) (hlks : (oe.looksAt ops).all (fun t=>S.all fun i=>dstAt ops i != some t || (bindsAt ops e).contains i) = true:=by kernel_rfl)
  (hp : (planOk ops pl (listAll (Array.replicate ops.size false) (e :: S)) && pl.length + S.length + 1 == ops.size) = true:=by kernel_rfl) (hQ : PI Q:=by repeat (first | exact Aw.PI.fin | exact Aw.PI.finH | exact Aw.PI.round | refine Aw.PI.unblock ?_ | refine Aw.PI.andThen ?_)) (hd : oe.dst = none:=by exact rfl) (hnd : noDefers ops.toList = true:=by rfl) : AWT B r Θ P (.region id ops true) σ Q :=
 AWT.ofG hm hnd (AWG.funS S e pl hsel hst hok hlks hp hQ (nth_ops hoe) hd h)
end
end Aw
