/- Rules of a calculus of walks: no condition of its own. -/
import Derived.Test.YthpbpnfgenhhdaaGreatCore25
namespace Aw
open Go
def renE (π : Nat → Nat) : List (Nat × AV) → List (Nat × AV) → Prop
 | [],_=>True
 | p :: r,env=>get env p.1 = some (ren π p.2) ∧ renE π r env
theorem renE_get {π : Nat → Nat} : ∀ {E env : List (Nat × AV)},renE π E env → ∀ {t x},get E t = some x → get env t = some (ren π x)
 | p :: r,env,h,t,x,hx=>by
  simp only [get] at hx
  split at hx
  ·rename_i e
   injection hx with hx
   subst hx e
   exact h.1
  ·exact renE_get h.2 hx
 | [],_,_,_,_,hx=>by simp [get] at hx
theorem renHp_cons (π : Nat → Nat) (i : Nat) (x : ABlk) (r : List (Nat × ABlk)) : renHp π ((i,x) :: r) = (π i,renB π x) :: renHp π r:=rfl
theorem noTHm_cons (i : Nat) (x : ABlk) (r : List (Nat × ABlk)) : noTHm ((i,x) :: r) = (noTBm x && noTHm r):=rfl
theorem viewHp_cons (π : Nat → Nat) (nx : Nat) (hp : List (Nat × ABlk)) (i : Nat) (x : ABlk) (r : List (Nat × ABlk)) : viewHp π nx hp ((i,x) :: r) = ((i < nx ∧ get hp (π i) = some (renB π x)) ∧ viewHp π nx hp r):=rfl
attribute [go_sem ↓ high] renB_setOf renHp_cons noTHm_cons viewHp_cons
section
variable {B : Bs} {r : Option Nat} {Θ : Mem → Prop} {P : Program} {σ σ' : St} {Q : AX → St → Prop} {x y : Code} {c : Code} {id : Nat} {o : Oper} {rest : List Oper} {ops : Array Oper} {K : St → Prop} {Kp : AV → St → Prop} {ob ob' : Prop} {f : FuncId} {ys zs xs : List AV} {l : List Oper} {hp0 hp1 : List (Nat × ABlk)} {n1 : Nat}
theorem AWT.rS [Lasts Θ] (hk : AWT B r Θ P y σ' Q) (h : runOps P (ops.toList.map (·.dst)) ops.toList σ = (ob,[],σ'):=by (simp only [go_sem,seval]; iterate 2 try (simp (disch:=omega) only [zq]; try simp only [go_sem,seval])); exact rfl) (hob : ob:=by ((try (simp only [go_sem,seval]; iterate 2 try (simp (disch:=omega) only [zq]; try simp only [go_sem,seval]))); try (first | exact True.intro | omega | (simp only [zb]; omega) | (simp; done) | (simp; omega) | (and_intros <;> first | assumption | omega | (simp; done) | (simp; omega))))) (hnd : noDefers ops.toList = true:=by rfl) : AWT B r Θ P (.seq (.region id ops false) y) σ Q:=AWT.seq (AWT.region (OpsT.run h hnd hob (OpsT.nil hk)))
theorem AWT.rL [Lasts Θ] (hk : Q .normal σ') (h : runOps P (ops.toList.map (·.dst)) ops.toList σ = (ob,[],σ'):=by (simp only [go_sem,seval]; iterate 2 try (simp (disch:=omega) only [zq]; try simp only [go_sem,seval])); exact rfl) (hob : ob:=by ((try (simp only [go_sem,seval]; iterate 2 try (simp (disch:=omega) only [zq]; try simp only [go_sem,seval]))); try (first | exact True.intro | omega | (simp only [zb]; omega) | (simp; done) | (simp; omega) | (and_intros <;> first | assumption | omega | (simp; done) | (simp; omega))))) (hnd : noDefers ops.toList = true:=by rfl) : AWT B r Θ P (.region id ops false) σ Q:=AWT.region (OpsT.run h hnd hob (OpsT.nil hk))
theorem AWT.rSC [Lasts Θ] (hk : OpsT B r Θ P ops l σ' (fun σ'=>AWT B r Θ P y σ' Q) (fun x σ'=>Q (.panic x) σ')) (h : runOps P (ops.toList.map (·.dst)) ops.toList σ = (ob,l,σ'):=by (simp only [go_sem,seval]; iterate 2 try (simp (disch:=omega) only [zq]; try simp only [go_sem,seval])); exact rfl) (hob : ob:=by ((try (simp only [go_sem,seval]; iterate 2 try (simp (disch:=omega) only [zq]; try simp only [go_sem,seval]))); try (first | exact True.intro | omega | (simp only [zb]; omega) | (simp; done) | (simp; omega) | (and_intros <;> first | assumption | omega | (simp; done) | (simp; omega))))) (hnd : noDefers ops.toList = true:=by rfl) : AWT B r Θ P (.seq (.region id ops false) y) σ Q:=AWT.seq (AWT.region (OpsT.run h hnd hob hk))
theorem AWT.rLC [Lasts Θ] (hk : OpsT B r Θ P ops l σ' (fun σ'=>Q .normal σ') (fun x σ'=>Q (.panic x) σ')) (h : runOps P (ops.toList.map (·.dst)) ops.toList σ = (ob,l,σ'):=by (simp only [go_sem,seval]; iterate 2 try (simp (disch:=omega) only [zq]; try simp only [go_sem,seval])); exact rfl) (hob : ob:=by ((try (simp only [go_sem,seval]; iterate 2 try (simp (disch:=omega) only [zq]; try simp only [go_sem,seval]))); try (first | exact True.intro | omega | (simp only [zb]; omega) | (simp; done) | (simp; omega) | (and_intros <;> first | assumption | omega | (simp; done) | (simp; omega))))) (hnd : noDefers ops.toList = true:=by rfl) : AWT B r Θ P (.region id ops false) σ Q:=AWT.region (OpsT.run h hnd hob hk)
theorem OpsT.rn [Lasts Θ] (hk : OpsT B r Θ P ops l σ' K Kp) (h : runOps P (ops.toList.map (·.dst)) rest σ = (ob,l,σ'):=by (simp only [go_sem,seval]; iterate 2 try (simp (disch:=omega) only [zq]; try simp only [go_sem,seval])); exact rfl) (hob : ob:=by ((try (simp only [go_sem,seval]; iterate 2 try (simp (disch:=omega) only [zq]; try simp only [go_sem,seval]))); try (first | exact True.intro | omega | (simp only [zb]; omega) | (simp; done) | (simp; omega) | (and_intros <;> first | assumption | omega | (simp; done) | (simp; omega))))) (hnd : noDefers rest = true:=by rfl) : OpsT B r Θ P ops rest σ K Kp:=OpsT.run h hnd hob hk
theorem OpsT.cs [Lasts Θ] (h : awGuard P (ops.toList.map (·.dst)) o σ (fun σ'=>OpsT B r Θ P ops rest σ' K Kp) Kp) (hnd : notDefer o.op = true:=by rfl) : OpsT B r Θ P ops (o :: rest) σ K Kp:=OpsT.cons hnd h
theorem AWT.c2 {c : Operand} {p : Prop} {b : Bool} {q1 q2 : Prop} (h1 : q1 → AWT B r Θ P x σ Q) (h2 : q2 → AWT B r Θ P y σ Q) (hc : testOf σ c = some (p,b):=by (simp only [go_sem,seval]; iterate 2 try (simp (disch:=omega) only [zq]; try simp only [go_sem,seval])); exact rfl) (hp : p:=by ((try (simp only [go_sem,seval]; iterate 2 try (simp (disch:=omega) only [zq]; try simp only [go_sem,seval]))); try (first | exact True.intro | omega | (simp only [zb]; omega) | (simp; done) | (simp; omega) | (and_intros <;> first | assumption | omega | (simp; done) | (simp; omega)))))
  (e1 : (b = true) = q1:=by (try simp only [zb]); exact rfl) (e2 : (b = false) = q2:=by (try simp only [zb]); exact rfl) : AWT B r Θ P (.cond c x y) σ Q:=AWT.cond hc hp (fun h=>h1 (e1 ▸ h)) (fun h=>h2 (e2 ▸ h))
theorem AWT.lk [Lasts Θ] {S : Type} (L : List Nat) (V : S → List (Nat × AV)) (H : S → List (Nat × ABlk)) (N : Nat) (μ : S → Nat) (s : S) {E : List (Nat × AV)} (h₀ : St.le ⟨σ.n,appE E (V s),H s,N,σ.gl,σ.np,σ.df⟩ σ)
  (h : ∀ s,AWT B r Θ P c ⟨σ.n,appE E (V s),H s,N,σ.gl,σ.np,σ.df⟩ (andThen (fun σ'=>∃ s',St.le ⟨σ.n,appE E (V s'),H s',N,σ.gl,σ.np,σ.df⟩ σ' ∧ μ s' < μ s) Q)) (_ : keepE L σ.env = E:=by (simp only [go_sem,seval]; iterate 2 try (simp (disch:=omega) only [zq]; try simp only [go_sem,seval])); exact rfl) : AWT B r Θ P (.loop c) σ Q :=
 AWT.loop (fun s=>⟨σ.n,appE E (V s),H s,N,σ.gl,σ.np,σ.df⟩) μ s h₀ h
end
attribute [go_sem] ayield renE
end Aw
