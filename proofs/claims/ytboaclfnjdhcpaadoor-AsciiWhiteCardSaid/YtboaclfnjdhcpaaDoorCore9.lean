/- Rules of a calculus of walks: no condition of its own. -/
import Derived.Test.YtboaclfnjdhcpaaDoorCore8
namespace Aw
open Go
section
variable {P : Program} {σ σ' : St} {Q : AX → St → Prop} {y : Code} {id : Nat} {ops : Array Oper} {ob : Prop}
theorem AW.seqReg (h : runOps P (ops.toList.map (·.dst)) ops.toList σ = (ob,[],σ')) (hob : ob) (hk : AW P y σ' Q) : AW P (.seq (.region id ops false) y) σ Q :=
 AW.seq (AW.regAll h hob hk)
theorem AW.seqRegN {l : List Oper} (h : runOps P (ops.toList.map (·.dst)) ops.toList σ = (ob,l,σ')) (hob : ob)
  (hk : awOps P (ops.toList.map (·.dst)) l σ' (fun σ'=>AW P y σ' Q) (fun x σ'=>Q (.panic x) σ')) : AW P (.seq (.region id ops false) y) σ Q :=
 AW.seq (AW.reg h hob hk)
theorem AW.seqDraw (pl : List (Nat × Nat)) (hm : P.follows .mixedOrders = true) (hsel : Region.noSelect ops = true)
  (hp : (planOk ops pl (Array.replicate ops.size false) && pl.length == ops.size) = true) (hQ : PI Q)
  (h : runPlan P ops.toList (ops.toList.map (·.dst)) pl σ = (ob,[],σ')) (hob : ob) (hk : AW P y σ' Q) : AW P (.seq (.region id ops true) y) σ Q :=
 AW.seq (AW.drawAll pl hm hsel hp hQ h hob hk)
theorem insens_fin {R : AE → Prop} : insens (finPanic R):=by
 intro y σ1 σ2 _ h2 _ _ _ h6 h
 unfold finPanic closeR at *
 rw [h2,h6]
 exact h
theorem PI.unblock {id : Nat} {Q : AX → St → Prop} (h : PI Q) : PI (Aw.unblock id Q):=h
theorem PI.andThen {N : St → Prop} {Q : AX → St → Prop} (h : PI Q) : PI (Aw.andThen N Q):=h
theorem PI.fin {P : Program} {rs : List ResultVar} {R : AE → Prop} : PI (Aw.fin P rs R):=insens_fin
end
end Aw

namespace Aw
open Go
section
variable {P : Program} {ds : List (Option Tmp)} {σ : St} {o : Oper} {rest : List Oper} {K : St → Prop} {Kp : AV → St → Prop} {ob ob' : Prop} {f : FuncId} {ys xs : List AV} {R : AE → Prop}
theorem awOps.cons (h : awGuard P ds o σ (fun σ'=>awOps P ds rest σ' K Kp) Kp) : awOps P ds (o :: rest) σ K Kp:=h

theorem acall_pure {g : Bool} {r : Prop × FuncId × List AV} (h : acall σ o.op = some r) : pureOp P σ g o.op = none ∧ effOp P σ o.op = none:=by
 unfold acall at h
 split at h
 case h_2=>cases h
 rename_i c hc
 split at h
 case h_2=>cases h
 rename_i g hg
 rw [hc]
 simp only [pureOp,effOp,hg,and_self]

theorem awGuard.call (hg : o.guard = none) (h : acall σ o.op = some (ob,f,ys)) (hx : mapO (shr true (frzs σ.hp (ys.flatMap (rids σ.hp 9))) 9) ys = some (ob',xs)) (hd : dstOk σ.n o.dst = true) (hob : ob) (hob' : ob')
  (hc : FnP P σ.gl f xs R) (hKp : ∀ y,R (.panic y) → Kp y ⟨σ.n,σ.env,frzs σ.hp (ys.flatMap (rids σ.hp 9)),σ.nx,σ.gl,σ.np,σ.df⟩)
  (hK : ∀ y,R (.ret y) → K (St.put ⟨σ.n,σ.env,frzs σ.hp (ys.flatMap (rids σ.hp 9)),σ.nx,σ.gl,σ.np,σ.df⟩ o.dst y)) : awGuard P ds o σ K Kp:=by
 unfold awGuard
 rw [hg]
 simp only
 unfold awStep
 rw [(acall_pure h).1,(acall_pure (P:=P) (g:=true) h).2]
 exact SemStep.call h hob hd hx hob' hc hK hKp

theorem awGuard.call1 {y : AV} (hg : o.guard = none) (h : acall σ o.op = some (ob,f,ys)) (hx : mapO (shr true (frzs σ.hp (ys.flatMap (rids σ.hp 9))) 9) ys = some (ob',xs)) (hd : dstOk σ.n o.dst = true) (hob : ob) (hob' : ob')
  (hc : FnP P σ.gl f xs fun r=>r = .ret y) (hK : K (St.put ⟨σ.n,σ.env,frzs σ.hp (ys.flatMap (rids σ.hp 9)),σ.nx,σ.gl,σ.np,σ.df⟩ o.dst y)) : awGuard P ds o σ K Kp :=
 awGuard.call hg h hx hd hob hob' hc (fun _ h=>(by cases h)) (fun z h=>(by cases h; exact hK))

theorem awGuard.callG {y : AV} {p : Nat × Bool} {g : Bool} (hg : o.guard = some p) (hgv : gAt ds σ p.1 p.2 = some g) (h : acall σ o.op = some (ob,f,ys))
  (hx : mapO (shr true (frzs σ.hp (ys.flatMap (rids σ.hp 9))) 9) ys = some (ob',xs)) (hd : dstOk σ.n o.dst = true) (hfr : frzs σ.hp (ys.flatMap (rids σ.hp 9)) = σ.hp) (hob : g = true → ob ∧ ob')
  (hc : g = true → FnP P σ.gl f xs fun r=>r = .ret y) (hK : K (σ.put o.dst (.opt g y))) : awGuard P ds o σ K Kp:=by
 unfold awGuard
 rw [hg]
 simp only
 rw [hgv]
 simp only
 rw [(acall_pure h).1]
 simp only
 refine .inr ⟨y,hd,fun ht=>?_,hK⟩
 refine SemStep.call h (hob ht).1 hd hx (hob ht).2 (hc ht) ?_ ?_
 ·intro z hz
  cases hz
  rw [hfr]
 ·intro z hz
  cases hz
theorem awPlan.only {ops : Array Oper} {i : Nat} {pl : List (Nat × Nat)} (ho : nth ops.toList i = some o) (h : awGuard P (ops.toList.map (·.dst)) o σ (awPlan P ops K Kp pl) Kp) : awPlan P ops K Kp ((i,2) :: pl) σ :=
 ⟨o,nth_ops ho,by simpa using h⟩
theorem AW.drawN {Q : AX → St → Prop} {id : Nat} {ops : Array Oper} (pl : List (Nat × Nat)) {pl' : List (Nat × Nat)} {σ' : St} (hm : P.follows .mixedOrders = true) (hsel : Region.noSelect ops = true)
  (hp : (planOk ops pl (Array.replicate ops.size false) && pl.length == ops.size) = true) (hQ : PI Q)
  (h : runPlan P ops.toList (ops.toList.map (·.dst)) pl σ = (ob,pl',σ')) (hob : ob) (hk : awPlan P ops (fun σ'=>Q .normal σ') (fun x σ'=>Q (.panic x) σ') pl' σ') : AW P (.region id ops true) σ Q :=
 AW.draw hm hsel hp hQ (awPlan.run h hob hk)
theorem AW.seqDrawN {Q : AX → St → Prop} {y : Code} {id : Nat} {ops : Array Oper} (pl : List (Nat × Nat)) {pl' : List (Nat × Nat)} {σ' : St} (hm : P.follows .mixedOrders = true) (hsel : Region.noSelect ops = true)
  (hp : (planOk ops pl (Array.replicate ops.size false) && pl.length == ops.size) = true) (hQ : PI Q)
  (h : runPlan P ops.toList (ops.toList.map (·.dst)) pl σ = (ob,pl',σ')) (hob : ob) (hk : awPlan P ops (fun σ'=>AW P y σ' Q) (fun x σ'=>Q (.panic x) σ') pl' σ') : AW P (.seq (.region id ops true) y) σ Q :=
 AW.seq (AW.drawN pl hm hsel hp hQ h hob hk)
end
end Aw
namespace Aw
open Go
theorem FnP.same {P : Program} {gl : List (Nat × AV)} {f : FuncId} {xs : List AV} {y : AV} (hen : Aw.enters P f)
  (h : ∀ m vs,Start m gl → RepL m 1 xs vs → Calls P f vs.toArray m.w fun e w'=>(∃ v,e = .returned v ∧ ∀ m,Rep m 2 y v) ∧ w' = m.w) : FnP P gl f xs fun r=>r = .ret y:=by
 refine ⟨hen,fun m vs hm hv=>(h m vs hm hv).mono ?_⟩
 rintro e w' ⟨⟨v,rfl,hy⟩,rfl⟩
 exact ⟨m,.ret y,rfl,.refl m,hm.Fold,⟨v,rfl,hy m⟩,rfl⟩
end Aw
