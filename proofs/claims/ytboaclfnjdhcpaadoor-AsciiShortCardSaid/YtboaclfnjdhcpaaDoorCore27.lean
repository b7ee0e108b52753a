/- Rules of a calculus of walks: no condition of its own. -/
import Derived.Test.YtboaclfnjdhcpaaDoorCore26
namespace Aw
open Go
section
variable {P : Program} {ops : Array Oper} {K : St → Prop} {σ σ1 : St} {i : Nat} {o : Oper} {rest : List Nat} {ob ob' ob1 ob1' : Prop} {f : FuncId} {ys xs ys1 : List AV}
def stepX (P : Program) (ds : List (Option Tmp)) (σ : St) (o : Oper) : Option (Prop × AV) :=
 match o.guard with
 | none=>match pureOp P σ true o.op with
  | some r=>if dstOk σ.n o.dst = true then some r else none
  | none=>none
 | some p=>match gAt ds σ p.1 p.2 with
  | none=>none
  | some g=>match pureOp P σ g o.op with
   | some r=>if dstOk σ.n o.dst = true then some ((g = true → r.1),.opt g r.2) else none
   | none=>none
attribute [go_sem] stepX
theorem stepX_take {ds : List (Option Tmp)} {X : AV} (h : stepX P ds σ o = some (ob,X)) (hob : ob) : TakeAt P ds o false σ X:=by
 unfold stepX at h
 unfold TakeAt
 split at h
 ·rename_i hg
  rw [hg]
  split at h
  ·rename_i r hr
   split at h
   ·rename_i hd
    simp only [Option.some.injEq] at h
    subst h
    exact ⟨hd,_,hr,hob,rfl⟩
   ·cases h
  ·cases h
 ·rename_i p hg
  rw [hg]
  split at h
  ·cases h
  rename_i g hgv
  split at h
  ·rename_i r hr
   split at h
   ·rename_i hd
    simp only [Option.some.injEq,Prod.mk.injEq] at h
    obtain ⟨rfl,rfl⟩:=h
    exact ⟨hd,g,hgv,r,hr,hob,rfl⟩
   ·cases h
  ·cases h
theorem fnAt_call {y : AV} (L : List Nat) (hc : FnP P σ.gl f xs fun r=>r = .ret y) (ho : nth ops.toList i = some o) (hg : o.guard = none) (hL : L.all (fun t=>(o.looksAt ops).contains t) = true)
  (h : acall ⟨σ.n,keepE L σ.env,σ.hp,σ.nx,σ.gl,σ.np,σ.df⟩ o.op = some (ob,f,ys)) (hx : mapO (shr true (frzs σ.hp (ys.flatMap (rids σ.hp 9))) 9) ys = some (ob',xs))
  (hd : dstOk σ.n o.dst = true) (hfr : frzs σ.hp (ys.flatMap (rids σ.hp 9)) = σ.hp) (hob : ob) (hob' : ob') : FnAt P ops i o σ y:=by
 refine ⟨⟨σ.n,keepE L σ.env,σ.hp,σ.nx,σ.gl,σ.np,σ.df⟩,⟨rfl,rfl,rfl,rfl,rfl,rfl⟩,?_,?_⟩
 ·intro t x ht
  obtain ⟨h1,h2⟩:=get_keepE _ _ t x ht
  have:=List.all_eq_true.1 hL t h1
  exact ⟨by simpa using this,h2⟩
 ·refine awGuard_sound (nth_ops ho) (awGuard.call1 (σ:=⟨σ.n,keepE L σ.env,σ.hp,σ.nx,σ.gl,σ.np,σ.df⟩) hg h hx hd hob hob' hc ?_)
  exact ⟨by cases o.dst <;> exact hfr,by cases o.dst <;> rfl,fun d hd=>by rw [hd]; simp [St.put,get_set]⟩
theorem fnAt_eff {e : Eff} (L : List Nat) (ho : nth ops.toList i = some o) (hg : o.guard = none) (hL : L.all (fun t=>(o.looksAt ops).contains t) = true) (hn : ∀ σ,pureOp P σ true o.op = none)
  (h : effOp P ⟨σ.n,keepE L σ.env,σ.hp,σ.nx,σ.gl,σ.np,σ.df⟩ o.op = some e) (hh : e.hp = σ.hp) (hx : e.nx = σ.nx) (hd : dstOk σ.n o.dst = true) (hob : e.ob) : FnAt P ops i o σ e.val:=by
 refine ⟨⟨σ.n,keepE L σ.env,σ.hp,σ.nx,σ.gl,σ.np,σ.df⟩,⟨rfl,rfl,rfl,rfl,rfl,rfl⟩,?_,?_⟩
 ·intro t x ht
  obtain ⟨h1,h2⟩:=get_keepE _ _ t x ht
  have:=List.all_eq_true.1 hL t h1
  exact ⟨by simpa using this,h2⟩
 ·refine awGuard_sound (nth_ops ho) ?_
  unfold awGuard
  rw [hg]
  simp only
  unfold awStep
  rw [hn,h]
  exact ⟨hd,hob,by cases o.dst <;> exact hh,by cases o.dst <;> exact hx,fun d hd=>by rw [hd]; simp [St.put,get_set]⟩
theorem awFun.ef {e : Eff} (L : List Nat) (hK : awFun P ops K rest (σ.put o.dst e.val)) (ho : nth ops.toList i = some o:=by exact rfl) (hg : o.guard = none:=by exact rfl) (hL : L.all (fun t=>(o.looksAt ops).contains t) = true:=by kernel_rfl) (hn : ∀ σ,pureOp P σ true o.op = none:=by intro σ; exact rfl)
  (h : effOp P ⟨σ.n,keepE L σ.env,σ.hp,σ.nx,σ.gl,σ.np,σ.df⟩ o.op = some e:=by (simp only [go_sem,seval]; iterate 2 try (simp (disch:=omega) only [zq]; try simp only [go_sem,seval])); exact rfl) (hh : e.hp = σ.hp:=by exact rfl) (hx : e.nx = σ.nx:=by exact rfl) (hd : dstOk σ.n o.dst = true:=by (simp only [go_sem,seval]; iterate 2 try (simp (disch:=omega) only [zq]; try simp only [go_sem,seval]))) (hob : e.ob:=by ((try (simp only [go_sem,seval]; iterate 2 try (simp (disch:=omega) only [zq]; try simp only [go_sem,seval]))); try (first | exact True.intro | omega | (simp only [zb]; omega) | (simp; done) | (simp; omega) | (and_intros <;> first | assumption | omega | (simp; done) | (simp; omega))))) : awFun P ops K (i :: rest) σ :=
 ⟨o,e.val,nth_ops ho,fnAt_eff L ho hg hL hn h hh hx hd hob,hK⟩
theorem awFunE.p {x : AV} (hK : awFunE P ops K rest (σ.put o.dst x) (σ1.put o.dst x)) (ho : nth ops.toList i = some o:=by exact rfl) (h : stepX P (ops.toList.map (·.dst)) σ o = some (ob,x):=by (simp only [go_sem,seval]; iterate 2 try (simp (disch:=omega) only [zq]; try simp only [go_sem,seval])); exact rfl) (h1 : stepX P (ops.toList.map (·.dst)) σ1 o = some (ob1,x):=by (simp only [go_sem,seval]; iterate 2 try (simp (disch:=omega) only [zq]; try simp only [go_sem,seval])); exact rfl)
  (hob : ob:=by ((try (simp only [go_sem,seval]; iterate 2 try (simp (disch:=omega) only [zq]; try simp only [go_sem,seval]))); try (first | exact True.intro | omega | (simp only [zb]; omega) | (simp; done) | (simp; omega) | (and_intros <;> first | assumption | omega | (simp; done) | (simp; omega))))) (hob1 : ob1:=by ((try (simp only [go_sem,seval]; iterate 2 try (simp (disch:=omega) only [zq]; try simp only [go_sem,seval]))); try (first | exact True.intro | omega | (simp only [zb]; omega) | (simp; done) | (simp; omega) | (and_intros <;> first | assumption | omega | (simp; done) | (simp; omega))))) : awFunE P ops K (i :: rest) σ σ1 :=
 ⟨o,x,nth_ops ho,FnAt.take (nth_ops ho) (stepX_take h hob),FnAt.take (nth_ops ho) (stepX_take h1 hob1),hK⟩
theorem awFunE.ef {e e1 : Eff} (L : List Nat) (hK : awFunE P ops K rest (σ.put o.dst e.val) (σ1.put o.dst e.val)) (ho : nth ops.toList i = some o:=by exact rfl) (hg : o.guard = none:=by exact rfl) (hL : L.all (fun t=>(o.looksAt ops).contains t) = true:=by kernel_rfl) (hn : ∀ σ,pureOp P σ true o.op = none:=by intro σ; exact rfl)
  (h : effOp P ⟨σ.n,keepE L σ.env,σ.hp,σ.nx,σ.gl,σ.np,σ.df⟩ o.op = some e:=by (simp only [go_sem,seval]; iterate 2 try (simp (disch:=omega) only [zq]; try simp only [go_sem,seval])); exact rfl) (h1 : effOp P ⟨σ1.n,keepE L σ1.env,σ1.hp,σ1.nx,σ1.gl,σ1.np,σ1.df⟩ o.op = some e1:=by (simp only [go_sem,seval]; iterate 2 try (simp (disch:=omega) only [zq]; try simp only [go_sem,seval])); exact rfl) (hv : e1.val = e.val:=by exact rfl)
  (hh : e.hp = σ.hp:=by exact rfl) (hx : e.nx = σ.nx:=by exact rfl) (hh1 : e1.hp = σ1.hp:=by exact rfl) (hx1 : e1.nx = σ1.nx:=by exact rfl) (hd : dstOk σ.n o.dst = true:=by (simp only [go_sem,seval]; iterate 2 try (simp (disch:=omega) only [zq]; try simp only [go_sem,seval]))) (hd1 : dstOk σ1.n o.dst = true:=by (simp only [go_sem,seval]; iterate 2 try (simp (disch:=omega) only [zq]; try simp only [go_sem,seval]))) (hob : e.ob:=by ((try (simp only [go_sem,seval]; iterate 2 try (simp (disch:=omega) only [zq]; try simp only [go_sem,seval]))); try (first | exact True.intro | omega | (simp only [zb]; omega) | (simp; done) | (simp; omega) | (and_intros <;> first | assumption | omega | (simp; done) | (simp; omega))))) (hob1 : e1.ob:=by ((try (simp only [go_sem,seval]; iterate 2 try (simp (disch:=omega) only [zq]; try simp only [go_sem,seval]))); try (first | exact True.intro | omega | (simp only [zb]; omega) | (simp; done) | (simp; omega) | (and_intros <;> first | assumption | omega | (simp; done) | (simp; omega))))) : awFunE P ops K (i :: rest) σ σ1 :=
 ⟨o,e.val,nth_ops ho,fnAt_eff L ho hg hL hn h hh hx hd hob,by have:=fnAt_eff L ho hg hL hn h1 hh1 hx1 hd1 hob1; rw [hv] at this; exact this,hK⟩
theorem awFunE.c1 {y : AV} (L : List Nat) (hc : FnP P σ.gl f xs fun r=>r = .ret y) (hK : awFunE P ops K rest (σ.put o.dst y) (σ1.put o.dst y)) (ho : nth ops.toList i = some o:=by exact rfl) (hg : o.guard = none:=by exact rfl) (hL : L.all (fun t=>(o.looksAt ops).contains t) = true:=by kernel_rfl)
  (h : acall ⟨σ.n,keepE L σ.env,σ.hp,σ.nx,σ.gl,σ.np,σ.df⟩ o.op = some (ob,f,ys):=by (simp only [go_sem,seval]; iterate 2 try (simp (disch:=omega) only [zq]; try simp only [go_sem,seval])); exact rfl) (hx : mapO (shr true (frzs σ.hp (ys.flatMap (rids σ.hp 9))) 9) ys = some (ob',xs):=by (simp only [go_sem,seval]; iterate 2 try (simp (disch:=omega) only [zq]; try simp only [go_sem,seval])); exact rfl)
  (hd : dstOk σ.n o.dst = true:=by (simp only [go_sem,seval]; iterate 2 try (simp (disch:=omega) only [zq]; try simp only [go_sem,seval]))) (hfr : frzs σ.hp (ys.flatMap (rids σ.hp 9)) = σ.hp:=by (simp only [go_sem,seval]; iterate 2 try (simp (disch:=omega) only [zq]; try simp only [go_sem,seval]))) (hob : ob:=by ((try (simp only [go_sem,seval]; iterate 2 try (simp (disch:=omega) only [zq]; try simp only [go_sem,seval]))); try (first | exact True.intro | omega | (simp only [zb]; omega) | (simp; done) | (simp; omega) | (and_intros <;> first | assumption | omega | (simp; done) | (simp; omega))))) (hob' : ob':=by ((try (simp only [go_sem,seval]; iterate 2 try (simp (disch:=omega) only [zq]; try simp only [go_sem,seval]))); try (first | exact True.intro | omega | (simp only [zb]; omega) | (simp; done) | (simp; omega) | (and_intros <;> first | assumption | omega | (simp; done) | (simp; omega)))))
  (hgl : σ1.gl = σ.gl:=by exact rfl) (h1 : acall ⟨σ1.n,keepE L σ1.env,σ1.hp,σ1.nx,σ1.gl,σ1.np,σ1.df⟩ o.op = some (ob1,f,ys1):=by (simp only [go_sem,seval]; iterate 2 try (simp (disch:=omega) only [zq]; try simp only [go_sem,seval])); exact rfl) (hx1 : mapO (shr true (frzs σ1.hp (ys1.flatMap (rids σ1.hp 9))) 9) ys1 = some (ob1',xs):=by (simp only [go_sem,seval]; iterate 2 try (simp (disch:=omega) only [zq]; try simp only [go_sem,seval])); exact rfl)
  (hd1 : dstOk σ1.n o.dst = true:=by (simp only [go_sem,seval]; iterate 2 try (simp (disch:=omega) only [zq]; try simp only [go_sem,seval]))) (hfr1 : frzs σ1.hp (ys1.flatMap (rids σ1.hp 9)) = σ1.hp:=by (simp only [go_sem,seval]; iterate 2 try (simp (disch:=omega) only [zq]; try simp only [go_sem,seval]))) (hob1 : ob1:=by ((try (simp only [go_sem,seval]; iterate 2 try (simp (disch:=omega) only [zq]; try simp only [go_sem,seval]))); try (first | exact True.intro | omega | (simp only [zb]; omega) | (simp; done) | (simp; omega) | (and_intros <;> first | assumption | omega | (simp; done) | (simp; omega))))) (hob1' : ob1':=by ((try (simp only [go_sem,seval]; iterate 2 try (simp (disch:=omega) only [zq]; try simp only [go_sem,seval]))); try (first | exact True.intro | omega | (simp only [zb]; omega) | (simp; done) | (simp; omega) | (and_intros <;> first | assumption | omega | (simp; done) | (simp; omega))))) : awFunE P ops K (i :: rest) σ σ1 :=
 ⟨o,y,nth_ops ho,fnAt_call L hc ho hg hL h hx hd hfr hob hob',fnAt_call L (by rw [hgl]; exact hc) ho hg hL h1 hx1 hd1 hfr1 hob1 hob1',hK⟩
theorem fnAt_bs {X : AV} {t : TypeId} {n : Nat} {ps : Array (Nat × Operand)} (L : List Nat) (ho : nth ops.toList i = some o) (hg : o.guard = none) (hop : o.op = .buildSlice t n ps) (hL : L.all (fun t=>(o.looksAt ops).contains t) = true)
  (h : ebuildF P ⟨σ.n,keepE L σ.env,σ.hp,σ.nx,σ.gl,σ.np,σ.df⟩ t n ps.toList = some (ob,X)) (hd : dstOk σ.n o.dst = true) (hob : ob) : FnAt P ops i o σ X:=by
 refine ⟨⟨σ.n,keepE L σ.env,σ.hp,σ.nx,σ.gl,σ.np,σ.df⟩,⟨rfl,rfl,rfl,rfl,rfl,rfl⟩,?_,?_⟩
 ·intro t x ht
  obtain ⟨h1,h2⟩:=get_keepE _ _ t x ht
  have:=List.all_eq_true.1 hL t h1
  exact ⟨by simpa using this,h2⟩
 ·unfold GStep
  rw [nth_ops ho]
  intro m a N Q hS hN hQ
  rw [if_pos (by simp [Region.wanted,hg])]
  obtain ⟨v,m',hrun,hle,hk,hH,hrep⟩:=ebuildF_sound hS hop h hob
  unfold Oper.wp
  rw [hrun]
  refine hN m' _ _ hle hk (hS.put hk hH hd hrep) ?_ .put ?_
  ·exact Keeps.put
  ·exact ⟨by cases o.dst <;> rfl,by cases o.dst <;> rfl,fun d hd=>by rw [hd]; simp [St.put,get_set]⟩
theorem awFunE.bs {X : AV} {t : TypeId} {n : Nat} {ps : Array (Nat × Operand)} (L : List Nat) (hK : awFunE P ops K rest (σ.put o.dst X) (σ1.put o.dst X)) (ho : nth ops.toList i = some o:=by exact rfl) (hg : o.guard = none:=by exact rfl) (hop : o.op = .buildSlice t n ps:=by exact rfl) (hL : L.all (fun t=>(o.looksAt ops).contains t) = true:=by kernel_rfl)
  (h : ebuildF P ⟨σ.n,keepE L σ.env,σ.hp,σ.nx,σ.gl,σ.np,σ.df⟩ t n ps.toList = some (ob,X):=by (simp only [go_sem,seval]; iterate 2 try (simp (disch:=omega) only [zq]; try simp only [go_sem,seval])); exact rfl) (h1 : ebuildF P ⟨σ1.n,keepE L σ1.env,σ1.hp,σ1.nx,σ1.gl,σ1.np,σ1.df⟩ t n ps.toList = some (ob1,X):=by (simp only [go_sem,seval]; iterate 2 try (simp (disch:=omega) only [zq]; try simp only [go_sem,seval])); exact rfl)
  (hd : dstOk σ.n o.dst = true:=by (simp only [go_sem,seval]; iterate 2 try (simp (disch:=omega) only [zq]; try simp only [go_sem,seval]))) (hd1 : dstOk σ1.n o.dst = true:=by (simp only [go_sem,seval]; iterate 2 try (simp (disch:=omega) only [zq]; try simp only [go_sem,seval]))) (hob : ob:=by ((try (simp only [go_sem,seval]; iterate 2 try (simp (disch:=omega) only [zq]; try simp only [go_sem,seval]))); try (first | exact True.intro | omega | (simp only [zb]; omega) | (simp; done) | (simp; omega) | (and_intros <;> first | assumption | omega | (simp; done) | (simp; omega))))) (hob1 : ob1:=by ((try (simp only [go_sem,seval]; iterate 2 try (simp (disch:=omega) only [zq]; try simp only [go_sem,seval]))); try (first | exact True.intro | omega | (simp only [zb]; omega) | (simp; done) | (simp; omega) | (and_intros <;> first | assumption | omega | (simp; done) | (simp; omega))))) : awFunE P ops K (i :: rest) σ σ1 :=
 ⟨o,X,nth_ops ho,fnAt_bs L ho hg hop hL h hd hob,fnAt_bs L ho hg hop hL h1 hd1 hob1,hK⟩
theorem awFunE_nil : awFunE P ops K [] σ σ1 = K σ1:=rfl
variable {id : Nat} {y : Code} {Q : AX → St → Prop}
theorem AW.eS (S : List Nat) (e : Nat) (pl : List (Nat × Nat)) {oe : Oper} {t : TypeId} {te : Tmp} {ef : Eff} {τ : St} (h : awFunE P ops (awPlan P ops (fun σ'=>AW P y σ' Q) (fun x σ'=>Q (.panic x) σ') pl) S σ τ)
  (hm : P.follows .mixedOrders = true:=by kernel_rfl) (hsel : Region.noSelect ops = true:=by kernel_rfl) (hst : funSteps ops [] S = true:=by kernel_rfl) (hok : earlyOk ops e S = true:=by kernel_rfl)
  (hp : (planOk ops pl (listAll (Array.replicate ops.size false) (e :: S)) && pl.length + S.length + 1 == ops.size) = true:=by kernel_rfl) (hQ : PI Q:=by repeat (first | exact Aw.PI.fin | exact Aw.PI.finH | refine Aw.PI.unblock ?_ | refine Aw.PI.andThen ?_))
  (hoe : nth ops.toList e = some oe:=by exact rfl) (hop : oe.op = .alloc t:=by exact rfl) (hg : oe.guard = none:=by exact rfl) (hte : oe.dst = some te:=by exact rfl) (hd : dstOk σ.n oe.dst = true:=by (simp only [go_sem,seval]; iterate 2 try (simp (disch:=omega) only [zq]; try simp only [go_sem,seval]))) (hef : effOp P σ (.alloc t) = some ef:=by (simp only [go_sem,seval]; iterate 2 try (simp (disch:=omega) only [zq]; try simp only [go_sem,seval])); exact rfl) (hob : ef.ob:=by ((try (simp only [go_sem,seval]; iterate 2 try (simp (disch:=omega) only [zq]; try simp only [go_sem,seval]))); try (first | exact True.intro | omega | (simp only [zb]; omega) | (simp; done) | (simp; omega) | (and_intros <;> first | assumption | omega | (simp; done) | (simp; omega)))))
  (hτ : allocAt σ oe.dst ef = τ:=by (simp only [allocAt]; (simp only [go_sem,seval]; iterate 2 try (simp (disch:=omega) only [zq]; try simp only [go_sem,seval])); exact rfl)) : AW P (.seq (.region id ops true) y) σ Q:=by
 subst hτ
 exact AW.seq (AW.funE S e pl hm hsel hst hok hp (PI.andThen hQ) (nth_ops hoe) hop hg hte hd hef hob h)
end
end Aw
