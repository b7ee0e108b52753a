/- Rules of a calculus of walks: no condition of its own. -/
import Derived.Test.YtlamdhcfojligaaGreatCore22
namespace Aw
open Go
def renE (π : Nat → Nat) : List (Nat × AV) → List (Nat × AV) → Prop
 | [],_=>True
 | p :: r,env=>get env p.1 = some (ren π p.2) ∧ renE π r env
theorem renE_get {π : Nat → Nat} : ∀ {E env : List (Nat × AV)},renE π E env → ∀ {t x},get E t = some x → get env t = some (ren π x)
 | p :: r,env,h,t,x,hx=>by
  simp only [get] at hx
  split at hx
  ·rename_i e
   injection hx with hx
   subst hx e
   exact h.1
  ·exact renE_get h.2 hx
 | [],_,_,_,_,hx=>by simp [get] at hx
theorem renHp_cons (π : Nat → Nat) (i : Nat) (x : ABlk) (r : List (Nat × ABlk)) : renHp π ((i,x) :: r) = (π i,renB π x) :: renHp π r:=rfl
theorem noTHm_cons (i : Nat) (x : ABlk) (r : List (Nat × ABlk)) : noTHm ((i,x) :: r) = (noTBm x && noTHm r):=rfl
theorem viewHp_cons (π : Nat → Nat) (nx : Nat) (hp : List (Nat × ABlk)) (i : Nat) (x : ABlk) (r : List (Nat × ABlk)) : viewHp π nx hp ((i,x) :: r) = ((i < nx ∧ get hp (π i) = some (renB π x)) ∧ viewHp π nx hp r):=rfl
theorem noTL_ints : ∀ l : List Int,noTL (l.map fun n=>AV.int .i64 n) = true
 | []=>rfl
 | _ :: l=>by simp only [List.map_cons,noTL,noT,Bool.true_and]; exact noTL_ints l
theorem noTL_trues : ∀ l : List Int,noTL (l.map fun _=>AV.bool true) = true
 | []=>rfl
 | _ :: l=>by simp only [List.map_cons,noTL,noT,Bool.true_and]; exact noTL_trues l
theorem noTBm_ints (l : List Int) : noTBm (setOf (fun n=>AV.int .i64 n) l) = true:=by simp only [setOf,noTBm,noTL_ints,noTL_trues,Bool.and_self]
theorem lt3 : ∀ i,i < 3 → nth [0,1,2] i = some i:=by decide
attribute [go_sem ↓ high] noTBm_ints renB_setOf renHp_cons noTHm_cons viewHp_cons
section
variable {B : Bs} {r : Option Nat} {Θ : Mem → Prop} {P : Program} {σ σ' : St} {Q : AX → St → Prop} {x y : Code} {c : Code} {id : Nat} {o : Oper} {rest : List Oper} {ops : Array Oper} {K : St → Prop} {Kp : AV → St → Prop} {ob ob' : Prop} {f : FuncId} {ys zs xs : List AV} {l : List Oper} {hp0 hp1 : List (Nat × ABlk)} {n1 : Nat}
theorem AWT.rt {q : Prop} (hq : q) (h : Q .ret σ = q:=by (try simp only [↓Aw.unblock_ret,↓Aw.andThen_ret,↓Aw.fin_ret,↓Aw.finH_ret,↓Aw.finD_ret]); (try (simp only [go_sem,seval]; iterate 2 try (simp (disch:=omega) only [zq]; try simp only [go_sem,seval]))); exact rfl) : AWT B r Θ P .ret σ Q:=AWT.ret (h ▸ hq)
theorem AWT.rS [Lasts Θ] (hk : AWT B r Θ P y σ' Q) (h : runOps P (ops.toList.map (·.dst)) ops.toList σ = (ob,[],σ'):=by (simp only [go_sem,seval]; iterate 2 try (simp (disch:=omega) only [zq]; try simp only [go_sem,seval])); exact rfl) (hob : ob:=by ((try (simp only [go_sem,seval]; iterate 2 try (simp (disch:=omega) only [zq]; try simp only [go_sem,seval]))); try (first | exact True.intro | omega | (simp only [zb]; omega) | (simp; done) | (simp; omega) | (and_intros <;> first | assumption | omega | (simp; done) | (simp; omega))))) (hnd : noDefers ops.toList = true:=by rfl) : AWT B r Θ P (.seq (.region id ops false) y) σ Q:=AWT.seq (AWT.region (OpsT.run h hnd hob (OpsT.nil hk)))
theorem AWT.rL [Lasts Θ] (hk : Q .normal σ') (h : runOps P (ops.toList.map (·.dst)) ops.toList σ = (ob,[],σ'):=by (simp only [go_sem,seval]; iterate 2 try (simp (disch:=omega) only [zq]; try simp only [go_sem,seval])); exact rfl) (hob : ob:=by ((try (simp only [go_sem,seval]; iterate 2 try (simp (disch:=omega) only [zq]; try simp only [go_sem,seval]))); try (first | exact True.intro | omega | (simp only [zb]; omega) | (simp; done) | (simp; omega) | (and_intros <;> first | assumption | omega | (simp; done) | (simp; omega))))) (hnd : noDefers ops.toList = true:=by rfl) : AWT B r Θ P (.region id ops false) σ Q:=AWT.region (OpsT.run h hnd hob (OpsT.nil hk))
theorem AWT.rSC [Lasts Θ] (hk : OpsT B r Θ P ops l σ' (fun σ'=>AWT B r Θ P y σ' Q) (fun x σ'=>Q (.panic x) σ')) (h : runOps P (ops.toList.map (·.dst)) ops.toList σ = (ob,l,σ'):=by (simp only [go_sem,seval]; iterate 2 try (simp (disch:=omega) only [zq]; try simp only [go_sem,seval])); exact rfl) (hob : ob:=by ((try (simp only [go_sem,seval]; iterate 2 try (simp (disch:=omega) only [zq]; try simp only [go_sem,seval]))); try (first | exact True.intro | omega | (simp only [zb]; omega) | (simp; done) | (simp; omega) | (and_intros <;> first | assumption | omega | (simp; done) | (simp; omega))))) (hnd : noDefers ops.toList = true:=by rfl) : AWT B r Θ P (.seq (.region id ops false) y) σ Q:=AWT.seq (AWT.region (OpsT.run h hnd hob hk))
theorem AWT.rLC [Lasts Θ] (hk : OpsT B r Θ P ops l σ' (fun σ'=>Q .normal σ') (fun x σ'=>Q (.panic x) σ')) (h : runOps P (ops.toList.map (·.dst)) ops.toList σ = (ob,l,σ'):=by (simp only [go_sem,seval]; iterate 2 try (simp (disch:=omega) only [zq]; try simp only [go_sem,seval])); exact rfl) (hob : ob:=by ((try (simp only [go_sem,seval]; iterate 2 try (simp (disch:=omega) only [zq]; try simp only [go_sem,seval]))); try (first | exact True.intro | omega | (simp only [zb]; omega) | (simp; done) | (simp; omega) | (and_intros <;> first | assumption | omega | (simp; done) | (simp; omega))))) (hnd : noDefers ops.toList = true:=by rfl) : AWT B r Θ P (.region id ops false) σ Q:=AWT.region (OpsT.run h hnd hob hk)
theorem OpsT.rn [Lasts Θ] (hk : OpsT B r Θ P ops l σ' K Kp) (h : runOps P (ops.toList.map (·.dst)) rest σ = (ob,l,σ'):=by (simp only [go_sem,seval]; iterate 2 try (simp (disch:=omega) only [zq]; try simp only [go_sem,seval])); exact rfl) (hob : ob:=by ((try (simp only [go_sem,seval]; iterate 2 try (simp (disch:=omega) only [zq]; try simp only [go_sem,seval]))); try (first | exact True.intro | omega | (simp only [zb]; omega) | (simp; done) | (simp; omega) | (and_intros <;> first | assumption | omega | (simp; done) | (simp; omega))))) (hnd : noDefers rest = true:=by rfl) : OpsT B r Θ P ops rest σ K Kp:=OpsT.run h hnd hob hk
theorem OpsT.cs [Lasts Θ] (h : awGuard P (ops.toList.map (·.dst)) o σ (fun σ'=>OpsT B r Θ P ops rest σ' K Kp) Kp) (hnd : notDefer o.op = true:=by rfl) : OpsT B r Θ P ops (o :: rest) σ K Kp:=OpsT.cons hnd h
theorem AWT.c2 {c : Operand} {p : Prop} {b : Bool} {q1 q2 : Prop} (h1 : q1 → AWT B r Θ P x σ Q) (h2 : q2 → AWT B r Θ P y σ Q) (hc : testOf σ c = some (p,b):=by (simp only [go_sem,seval]; iterate 2 try (simp (disch:=omega) only [zq]; try simp only [go_sem,seval])); exact rfl) (hp : p:=by ((try (simp only [go_sem,seval]; iterate 2 try (simp (disch:=omega) only [zq]; try simp only [go_sem,seval]))); try (first | exact True.intro | omega | (simp only [zb]; omega) | (simp; done) | (simp; omega) | (and_intros <;> first | assumption | omega | (simp; done) | (simp; omega)))))
  (e1 : (b = true) = q1:=by (try simp only [zb]); exact rfl) (e2 : (b = false) = q2:=by (try simp only [zb]); exact rfl) : AWT B r Θ P (.cond c x y) σ Q:=AWT.cond hc hp (fun h=>h1 (e1 ▸ h)) (fun h=>h2 (e2 ▸ h))
theorem AWT.lk [Lasts Θ] {S : Type} (L : List Nat) (V : S → List (Nat × AV)) (H : S → List (Nat × ABlk)) (N : Nat) (μ : S → Nat) (s : S) {E : List (Nat × AV)} (h₀ : St.le ⟨σ.n,appE E (V s),H s,N,σ.gl,σ.np,σ.df⟩ σ)
  (h : ∀ s,AWT B r Θ P c ⟨σ.n,appE E (V s),H s,N,σ.gl,σ.np,σ.df⟩ (andThen (fun σ'=>∃ s',St.le ⟨σ.n,appE E (V s'),H s',N,σ.gl,σ.np,σ.df⟩ σ' ∧ μ s' < μ s) Q)) (_ : keepE L σ.env = E:=by (simp only [go_sem,seval]; iterate 2 try (simp (disch:=omega) only [zq]; try simp only [go_sem,seval])); exact rfl) : AWT B r Θ P (.loop c) σ Q :=
 AWT.loop (fun s=>⟨σ.n,appE E (V s),H s,N,σ.gl,σ.np,σ.df⟩) μ s h₀ h
theorem FnT.ofH {gl : List (Nat × AV)} {nx : Nat} {R : AE → List (Nat × ABlk) → Nat → Prop} (h : FnH P gl f xs hp0 nx R) : FnT Θ P gl f xs hp0 nx R:=⟨h.enters,fun m vs hm _ hv=>h.calls m vs hm hv⟩
theorem OpsT.cN {y : AV} (L : List Nat) (hc : FnT (fun _=>True) P σ.gl f xs hp0 L.length fun r h n=>r = .ret y ∧ h = hp1 ∧ n = n1) (hK : OpsT B r (fun _=>True) P ops rest (St.put (backSt σ L hp1 n1) o.dst (ren (bk L σ.nx) y)) K Kp) (hg : o.guard = none:=by exact rfl)
  (h : acall σ o.op = some (ob,f,ys):=by (simp only [go_sem,seval]; iterate 2 try (simp (disch:=omega) only [zq]; try simp only [go_sem,seval])); exact rfl) (hz : mapO (fz σ.hp 9) ys = some (ob',zs):=by (simp only [go_sem,seval]; iterate 2 try (simp (disch:=omega) only [zq]; try simp only [go_sem,seval])); exact rfl) (hd : dstOk σ.n o.dst = true:=by (simp only [go_sem,seval]; iterate 2 try (simp (disch:=omega) only [zq]; try simp only [go_sem,seval]))) (hL : L.all (fun id=>(get σ.hp id).isSome) = true:=by (simp only [go_sem,seval]; iterate 2 try (simp (disch:=omega) only [zq]; try simp only [go_sem,seval]))) (hnd : L.Nodup:=by decide)
  (hhp : viewHp (Aw.pick L σ.nx) L.length σ.hp hp0:=by (try (simp only [go_sem,seval]; iterate 2 try (simp (disch:=omega) only [zq]; try simp only [go_sem,seval]))) <;> (try (first | rfl | trivial | (and_intros <;> first | rfl | trivial)))) (hxs : renL (Aw.pick L σ.nx) xs = zs:=by (try (simp only [go_sem,seval]; iterate 2 try (simp (disch:=omega) only [zq]; try simp only [go_sem,seval]))) <;> (try rfl)) (hob : ob:=by ((try (simp only [go_sem,seval]; iterate 2 try (simp (disch:=omega) only [zq]; try simp only [go_sem,seval]))); try (first | exact True.intro | omega | (simp only [zb]; omega) | (simp; done) | (simp; omega) | (and_intros <;> first | assumption | omega | (simp; done) | (simp; omega))))) (hob' : ob':=by ((try (simp only [go_sem,seval]; iterate 2 try (simp (disch:=omega) only [zq]; try simp only [go_sem,seval]))); try (first | exact True.intro | omega | (simp only [zb]; omega) | (simp; done) | (simp; omega) | (and_intros <;> first | assumption | omega | (simp; done) | (simp; omega)))))
  (hb : (backOkm L hp1 n1 && noT y) = true:=by (simp only [go_sem,seval]; iterate 2 try (simp (disch:=omega) only [zq]; try simp only [go_sem,seval]))) : OpsT B r (fun _=>True) P ops (o :: rest) σ K Kp :=
 OpsT.step hg (StepT.call (fun _ _ _ _=>trivial) h hob hd hz hob' hL hnd hhp hxs hc (fun z _ _ ⟨h1,h2,h3⟩=>by cases h1; subst h2 h3; exact ⟨hb,hK⟩) (fun _ _ _ ⟨h1,_⟩=>by cases h1))
end
attribute [go_sem] ayield renE
end Aw
