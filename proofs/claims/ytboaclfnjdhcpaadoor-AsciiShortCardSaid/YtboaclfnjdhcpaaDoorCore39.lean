/- Rules of a calculus of walks: no condition of its own. -/
import Derived.Test.YtboaclfnjdhcpaaDoorCore38
namespace Aw
open Go
theorem RoundEnd_pan (k l : Nat) (rb : Loop) (rc : Option Code → Loop) (R : AE → List (Nat × ABlk) → Nat → Prop) (x : AV) (σ : St) : RoundEnd k l rb rc R (.panic x) σ = finHPanic (fun q _ nx'=>R q [] nx') x σ:=rfl
theorem PI.roundE {k l : Nat} {rb : Loop} {rc : Option Code → Loop} {R : AE → List (Nat × ABlk) → Nat → Prop} : PI (RoundEnd k l rb rc R):=insens_finH (R:=fun q _ nx'=>R q [] nx')
theorem rdU {k l : Nat} {rb : Loop} {rc : Option Code → Loop} {R : AE → List (Nat × ABlk) → Nat → Prop} {ax : AX} {σ : St} (j : Option Code) (hp : List (Nat × ABlk)) (nx : Nat) (hle : St.le ⟨σ.n,[],hp,nx,σ.gl,σ.np,[]⟩ σ) (hR : R (.ret (.bool j.isNone)) (set hp k (.lp l (rc j))) nx)
  (hj : jumpOf ax = some j:=by rfl) (hg : get hp k = some (.lp l rb):=by rfl) (hn : noTHm hp = true:=by (simp only [go_sem,seval]; iterate 2 try (simp (disch:=omega) only [zq]; try simp only [go_sem,seval]))) : RoundEnd k l rb rc R ax σ:=by
 cases ax with
 | panic x=>cases hj
 | normal=>exact ⟨j,hj,_,hle,hg,hn,hR⟩
 | ret=>exact ⟨j,hj,_,hle,hg,hn,hR⟩
 | exit id=>exact ⟨j,hj,_,hle,hg,hn,hR⟩
theorem wkR {p q : Prop} (hq : q) (h : p = q:=by (try simp only [↓Aw.RoundEnd_pan,↓Aw.unblock_nrm,↓Aw.unblock_pan,↓Aw.andThen_pan]); (try (simp only [go_sem,seval]; iterate 2 try (simp (disch:=omega) only [zq]; try simp only [go_sem,seval]))); exact rfl) : p:=h ▸ hq
section
variable {B : Bs} {r : Option Nat} {Θ : Mem → Prop} {P : Program} {σ : St} {Q : AX → St → Prop} {y : Code} {id : Nat} {ops : Array Oper}
theorem AWT.twice [Lasts Θ] {σ1 : St} {D : Prop} {x : Code} (h : AWT B r Θ P x σ (andThen (fun σ'=>D ∧ St.le σ1 σ') Q)) (hk : D → AWT B r Θ P y σ1 Q) : AWT B r Θ P (.seq x y) σ Q :=
 AWT.seq (AWT.mono h fun ax σ' hq=>by
  cases ax with
  | normal=>exact AWT.le hq.2 (hk hq.1)
  | ret=>exact hq
  | exit _=>exact hq
  | panic _=>exact hq)
theorem AWT.tGC [Lasts Θ] {C : Prop} {σf : St} (T : PT) (h : awTree P ops (fun σ=>C ∧ σ.norm = σf) (fun x σ'=>Q (.panic x) σ') T σ) (hk : C → AWT B r Θ P y σf Q) (hm : P.follows .mixedOrders = true:=by kernel_rfl) (hsel : Region.noSelect ops = true:=by kernel_rfl)
  (hp : treeOk ops false ops.size T (Array.replicate ops.size false) = true:=by kernel_rfl) (hQ : PI Q:=by repeat (first | exact Aw.PI.finU | exact Aw.PI.roundE | exact Aw.PI.fin | exact Aw.PI.finH | exact Aw.PI.round | refine Aw.PI.unblock ?_ | refine Aw.PI.andThen ?_)) (hnd : noDefers ops.toList = true:=by rfl) : AWT B r Θ P (.seq (.region id ops true) y) σ Q :=
 AWT.seq (AWT.ofG hm hnd (AWG.drawTreeC (Q:=andThen (fun σ=>AWT B r Θ P y σ Q) Q) C T hsel hp (PI.andThen hQ) h hk))
theorem AWT.tGLC {C : Prop} {σf : St} (T : PT) (h : awTree P ops (fun σ=>C ∧ σ.norm = σf) (fun x σ'=>Q (.panic x) σ') T σ) (hk : C → Q .normal σf) (hm : P.follows .mixedOrders = true:=by kernel_rfl) (hsel : Region.noSelect ops = true:=by kernel_rfl)
  (hp : treeOk ops false ops.size T (Array.replicate ops.size false) = true:=by kernel_rfl) (hQ : PI Q:=by repeat (first | exact Aw.PI.finU | exact Aw.PI.roundE | exact Aw.PI.fin | exact Aw.PI.finH | exact Aw.PI.round | refine Aw.PI.unblock ?_ | refine Aw.PI.andThen ?_)) (hnd : noDefers ops.toList = true:=by rfl) : AWT B r Θ P (.region id ops true) σ Q :=
 AWT.ofG hm hnd (AWG.drawTreeC C T hsel hp hQ h hk)
section
variable {K : St → Prop} {Kp : AV → St → Prop} {o : Oper} {i k : Nat} {t r : PT} {ob ob' : Prop} {σ' σf : St} {f : FuncId} {xs ys : List AV}
theorem awTree.fM {c : Bool} {y z : AV} {q1 q2 : Prop} (hc : FnP P σ.gl f xs fun r=>r = if c = true then .ret y else .panic z) (hKp : q2 → Kp z ⟨σ.n,σ.env,frzs σ.hp (ys.flatMap (rids σ.hp 9)),σ.nx,σ.gl,σ.np,σ.df⟩)
  (hk : q1 → awTree P ops K Kp t (St.put ⟨σ.n,σ.env,frzs σ.hp (ys.flatMap (rids σ.hp 9)),σ.nx,σ.gl,σ.np,σ.df⟩ o.dst y)) (hr : awTree P ops K Kp r σ) (ho : nth ops.toList i = some o:=by exact rfl) (hg : o.guard = none:=by exact rfl)
  (h : acall σ o.op = some (ob,f,ys):=by (simp only [go_sem,seval]; iterate 2 try (simp (disch:=omega) only [zq]; try simp only [go_sem,seval])); exact rfl) (hx : mapO (shr true (frzs σ.hp (ys.flatMap (rids σ.hp 9))) 9) ys = some (ob',xs):=by (simp only [go_sem,seval]; iterate 2 try (simp (disch:=omega) only [zq]; try simp only [go_sem,seval])); exact rfl) (hd : dstOk σ.n o.dst = true:=by (simp only [go_sem,seval]; iterate 2 try (simp (disch:=omega) only [zq]; try simp only [go_sem,seval]))) (hob : ob:=by ((try (simp only [go_sem,seval]; iterate 2 try (simp (disch:=omega) only [zq]; try simp only [go_sem,seval]))); try (first | exact True.intro | omega | (simp only [zb]; omega) | (simp; done) | (simp; omega) | (and_intros <;> first | assumption | omega | (simp; done) | (simp; omega))))) (hob' : ob':=by ((try (simp only [go_sem,seval]; iterate 2 try (simp (disch:=omega) only [zq]; try simp only [go_sem,seval]))); try (first | exact True.intro | omega | (simp only [zb]; omega) | (simp; done) | (simp; omega) | (and_intros <;> first | assumption | omega | (simp; done) | (simp; omega)))))
  (e1 : (c = true) = q1:=by (try simp only [zb]); exact rfl) (e2 : (c = false) = q2:=by (try simp only [zb]); exact rfl) : awTree P ops K Kp (.fork i t r) σ :=
 ⟨⟨o,nth_ops ho,awGuard.callM hg h hx hd hob hob' hc (fun h=>hk (e1 ▸ h)) (fun h=>hKp (e2 ▸ h))⟩,hr⟩
end
end
end Aw
