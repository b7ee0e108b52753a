/- Rules of a calculus of walks: no condition of its own. -/
import Derived.Test.YthpbpnfgenhhdaaGreatCore36
namespace Aw
open Go
section
variable {B : Bs} {r : Option Nat} {Θ : Mem → Prop} {P : Program} {σ σ' : St} {Q : AX → St → Prop} {y : Code} {id : Nat} {o : Oper} {ops : Array Oper} {K : St → Prop} {Kp : AV → St → Prop} {ob ob' : Prop} {ys zs xs : List AV} {hp0 hp1 : List (Nat × ABlk)} {n1 c i : Nat}
def rowQ (B : Bs) (r : Option Nat) (Θ : Mem → Prop) (P : Program) (ops : Array Oper) (n : Nat) (K : St → Prop) (Kp : AV → St → Prop) (ax : AX) (σ : St) : Prop :=
 match ax with
 | .panic x=>Kp x σ
 | _=>chainT B r Θ P ops K Kp (ops.size - n) n σ
theorem AWT.rowG [Lasts Θ] (n : Nat) (hm : P.follows .mixedOrders = true) (hrow : rowOk ops n = true) (h : AWG P (ops.extract 0 n) σ (rowQ B r Θ P ops n (fun σ''=>Q .normal σ'') (fun x σ''=>Q (.panic x) σ'') )) : AWT B r Θ P (.region id ops true) σ Q:=fun m a hS ht=>by
 have F:=rowOk_spec hrow
 refine wpB.of (wpIn_region_any hm ?_)
 let md : Mem:={ m with w:={ m.w with drawn:=m.w.drawn + 1 } }
 have hk : m.keeps md:=⟨rfl,fun _ h=>h,fun _ _=>rfl,fun _ _ h=>h,fun _ _ _=>rfl,fun _ _ h=>h⟩
 have hl : m.le md:=⟨rfl,rfl,rfl,Nat.le_refl _,rfl,fun _ _=>rfl,fun _ _ h=>h,fun _ _ _=>rfl,fun _ _ _ h=>h,rfl,fun _ _ _ h=>h⟩
 have hH : SimH md σ.hp σ.nx:=by
  refine ⟨fun i x hx=>?_,hS.s.h.apart,hS.s.h.fresh,hS.s.h.Fold,hS.s.h.Pold⟩
  obtain ⟨ri,h1,h2⟩:=hS.s.h.blk i x hx
  exact ⟨ri,h1,h2.mono hk (fun h=>h) (fun _ h=>h) (fun _=>rfl)⟩
 have hS' : SimT B md a σ:=⟨hS.s.of hk hH,hS.marks.le hl.t,hS.base⟩
 have hsz : (ops.extract 0 n).size = n:=by have:=F.le; simp; omega
 have hfin:=pre_sound (r:=r) (Θ:=Θ) (K:=fun σ''=>Q .normal σ'') (Kp:=fun x σ''=>Q (.panic x) σ'') F (X:=PostT B m Q) md ?_ ?_ (ops.extract 0 n).size (Array.replicate (ops.extract 0 n).size false) σ h (Array.replicate ops.size false) (by simpa using hsz) (by simp)
  (fun j hj=>by simp [Array.getD]) (fun j hj=>by simp [Array.getD]) (fun j hj=>by simp [Array.getD] at hj) md a (.refl md) hS' (Lasts.le hl.t ht)
 ·rw [hsz,show n + (ops.size - n) = ops.size from by have:=F.le; omega] at hfin
  exact hfin
 ·rintro m' a' σ' hle hS' hq
  exact ⟨m',σ',.normal,rfl,hl.t.trans hle,hS',rfl,hq⟩
 ·intro m' a' σ' x v hle hS' hx h'
  exact ⟨m',σ',.panic x,rfl,hl.t.trans hle,hS',⟨v,rfl,hx⟩,h'⟩
theorem extract_list {n : Nat} {pre : List Oper} (h : ops.toList.take n = pre) : ops.extract 0 n = pre.toArray:=by
 apply Array.ext'
 simp [← h]
theorem rowQ_pi {n : Nat} (hQ : PI Q) : PI (rowQ B r Θ P ops n (fun σ''=>Q .normal σ'') (fun x σ''=>Q (.panic x) σ'')):=hQ
theorem AWT.yL [Lasts Θ] (n : Nat) (S : List Nat) {pre : List Oper} (h : awFun P pre.toArray (awPlan P pre.toArray (fun σ'=>chainT B r Θ P ops (fun σ''=>Q .normal σ'') (fun x σ''=>Q (.panic x) σ'') (ops.size - n) n σ') (fun x σ''=>Q (.panic x) σ'') []) S σ)
  (hpre : ops.toList.take n = pre:=by (simp only [List.take_succ_cons,List.take_zero]; exact rfl)) (hm : P.follows .mixedOrders = true:=by kernel_rfl) (hrow : rowOk ops n = true:=by kernel_rfl) (hsel : Region.noSelect pre.toArray = true:=by kernel_rfl) (hok : funOk pre.toArray [] S = true:=by kernel_rfl)
  (hp : (planOk pre.toArray [] (listAll (Array.replicate pre.toArray.size false) S) && ([] : List (Nat × Nat)).length + S.length == pre.toArray.size) = true:=by kernel_rfl) (hQ : PI Q:=by repeat (first | exact Aw.PI.fin | exact Aw.PI.finH | exact Aw.PI.round | refine Aw.PI.unblock ?_ | refine Aw.PI.andThen ?_)) : AWT B r Θ P (.region id ops true) σ Q :=
 AWT.rowG n hm hrow (by rw [extract_list hpre]; exact AWG.fun S [] hsel hok hp (rowQ_pi hQ) h)
theorem AWT.yS [Lasts Θ] (n : Nat) (S : List Nat) {pre : List Oper} (h : awFun P pre.toArray (awPlan P pre.toArray (fun σ'=>chainT B r Θ P ops (fun σ''=>AWT B r Θ P y σ'' Q) (fun x σ''=>Q (.panic x) σ'') (ops.size - n) n σ') (fun x σ''=>Q (.panic x) σ'') []) S σ)
  (hpre : ops.toList.take n = pre:=by (simp only [List.take_succ_cons,List.take_zero]; exact rfl)) (hm : P.follows .mixedOrders = true:=by kernel_rfl) (hrow : rowOk ops n = true:=by kernel_rfl) (hsel : Region.noSelect pre.toArray = true:=by kernel_rfl) (hok : funOk pre.toArray [] S = true:=by kernel_rfl)
  (hp : (planOk pre.toArray [] (listAll (Array.replicate pre.toArray.size false) S) && ([] : List (Nat × Nat)).length + S.length == pre.toArray.size) = true:=by kernel_rfl) (hQ : PI Q:=by repeat (first | exact Aw.PI.fin | exact Aw.PI.finH | exact Aw.PI.round | refine Aw.PI.unblock ?_ | refine Aw.PI.andThen ?_)) : AWT B r Θ P (.seq (.region id ops true) y) σ Q :=
 AWT.seq (AWT.yL (Q:=andThen (fun σ'=>AWT B r Θ P y σ' Q) Q) n S h hpre hm hrow hsel hok hp (PI.andThen hQ))
theorem chainT.cYP [LastsU Θ] {z w : AV} {C : Prop} {k : Nat} (L : List Nat) (hc : RoundU Θ P σ.gl k xs hp0 L.length σ.np fun r h n=>(C ∧ r = .ret z ∧ h = hp1 ∧ n = n1) ∨ (¬ C ∧ r = .panic w ∧ h = [] ∧ σ.np ≤ n)) (hKp : ¬ C → ∀ n,σ.np ≤ n → Kp w (backU σ L σ.np [] n))
  (hK : C → chainT B r Θ P ops K Kp c (i + 1) (St.put (backU σ L σ.np hp1 n1) o.dst (ren (bk (L.take σ.np) σ.nx) z))) (ho : ops[i]? = some o:=by exact rfl)
  (h : ayield σ o.op = some (ob,k,ys):=by (simp only [go_sem,seval]; iterate 2 try (simp (disch:=omega) only [zq]; try simp only [go_sem,seval])); exact rfl) (hz : mapO (fz σ.hp 9) ys = some (ob',zs):=by (simp only [go_sem,seval]; iterate 2 try (simp (disch:=omega) only [zq]; try simp only [go_sem,seval])); exact rfl) (hd : dstOk σ.n o.dst = true:=by (simp only [go_sem,seval]; iterate 2 try (simp (disch:=omega) only [zq]; try simp only [go_sem,seval]))) (hL : L.all (fun id=>(get σ.hp id).isSome) = true:=by (simp only [go_sem,seval]; iterate 2 try (simp (disch:=omega) only [zq]; try simp only [go_sem,seval]))) (hnd : L.Nodup:=by decide)
  (hhp : viewHp (Aw.pick L σ.nx) L.length σ.hp hp0:=by (try (simp only [go_sem,seval]; iterate 2 try (simp (disch:=omega) only [zq]; try simp only [go_sem,seval]))) <;> (try (first | rfl | trivial | (and_intros <;> first | rfl | trivial)))) (hxs : renL (Aw.pick L σ.nx) xs = zs:=by (try (simp only [go_sem,seval]; iterate 2 try (simp (disch:=omega) only [zq]; try simp only [go_sem,seval]))) <;> (try rfl)) (hob : ob:=by ((try (simp only [go_sem,seval]; iterate 2 try (simp (disch:=omega) only [zq]; try simp only [go_sem,seval]))); try (first | exact True.intro | omega | (simp only [zb]; omega) | (simp; done) | (simp; omega) | (and_intros <;> first | assumption | omega | (simp; done) | (simp; omega))))) (hob' : ob':=by ((try (simp only [go_sem,seval]; iterate 2 try (simp (disch:=omega) only [zq]; try simp only [go_sem,seval]))); try (first | exact True.intro | omega | (simp only [zb]; omega) | (simp; done) | (simp; omega) | (and_intros <;> first | assumption | omega | (simp; done) | (simp; omega)))))
  (hb : (backOku σ.np hp1 n1 && noT z) = true:=by (simp only [go_sem,seval]; iterate 2 try (simp (disch:=omega) only [zq]; try simp only [go_sem,seval]))) (hnl : σ.np ≤ L.length:=by exact Nat.le_of_ble_eq_true rfl) (hn : L.take σ.np = List.range σ.np:=by rfl) : chainT B r Θ P ops K Kp (c + 1) i σ :=
 ⟨o,ho,StepU.yield (LastsU.at hL hnl hn) h hob hd hz hob' hL hnd hnl hhp hxs hc
  (fun z _ _ hh=>by
   rcases hh with ⟨hC,h1,h2,h3⟩ | ⟨_,h1,_⟩
   ·cases h1; subst h2 h3; exact ⟨hb,hK hC⟩
   ·cases h1)
  (fun z _ _ hh=>by
   rcases hh with ⟨_,h1,_⟩ | ⟨hC,h1,h2,h3⟩
   ·cases h1
   ·cases h1; subst h2; exact ⟨by simp only [backOku,solo,noTHm,Bool.true_and]; exact decide_eq_true h3,hKp hC _ h3⟩)⟩
theorem chainT.p [Lasts Θ] (hK : chainT B r Θ P ops K Kp c (i + 1) σ') (ho : ops[i]? = some o:=by exact rfl) (h : stepOp P [] σ o = some (ob,σ'):=by (simp only [go_sem,seval]; iterate 2 try (simp (disch:=omega) only [zq]; try simp only [go_sem,seval])); exact rfl) (hob : ob:=by ((try (simp only [go_sem,seval]; iterate 2 try (simp (disch:=omega) only [zq]; try simp only [go_sem,seval]))); try (first | exact True.intro | omega | (simp only [zb]; omega) | (simp; done) | (simp; omega) | (and_intros <;> first | assumption | omega | (simp; done) | (simp; omega))))) (hg : o.guard = none:=by exact rfl) (hnd : notDefer o.op = true:=by rfl) : chainT B r Θ P ops K Kp (c + 1) i σ:=by
 refine ⟨o,ho,StepT.of hnd ?_⟩
 have h1:=stepOp_sound (K:=chainT B r Θ P ops K Kp c (i + 1)) (Kp:=Kp) h hob hK
 unfold awGuard at h1
 rw [hg] at h1
 simp only at h1
 exact awStep_sound h1
theorem chainT.nil (h : K σ) : chainT B r Θ P ops K Kp 0 i σ:=h
end
section
variable {B : Bs} {r : Option Nat} {Θ : Mem → Prop} [Lasts Θ] {P : Program} {σ : St} {Q : AX → St → Prop} {g : Operand} {ps : List Tmp} {assign body : Code} {it : FuncId} {caps zs xs : List AV} {ob' : Prop} {L L2 : List Nat}
 {hp0 : List (Nat × ABlk)} {E : List (Nat × AV)} {R : Option Code → List (Nat × ABlk) → Nat → Prop}
theorem AWT.rangeOP {Rp : AV → Prop} {f0 : FuncId} {fnc : Func} (hfo : B.fn = some f0) (hff : P.funcs[f0]? = some fnc)
  (hit : ∀ (Ω : Mem → Prop) (_ : LastsU Ω) (l : Nat) (rb : Loop) (rc : Option Code → Loop),RoundOkP Ω P σ.gl σ.n E ps assign body l L.length rb rc →
   FnU Ω P σ.gl it (.raw (.func (.yield l) #[] #[]) :: xs) (hp0 ++ [(L.length,.lp l (rc none))]) (L.length + 1 + L2.length) (L.length + 1) fun q hp' nx'=>((∃ x,q = .ret x) ∧ ∃ j,get hp' L.length = some (.lp l (rc j)) ∧ R j hp' nx') ∨ (∃ x,q = .panic x ∧ Rp x ∧ L.length + 1 ≤ nx'))
  (hKp : ∀ x N,σ.nx ≤ N → Rp x → Q (.panic x) ⟨σ.n,σ.env,dels σ.hp (L ++ L2),N,σ.gl,σ.np,σ.df⟩)
  (hK : ∀ j hp' nx',R j hp' nx' → backOku (L.length + 1) hp' nx' = true ∧ (match j with | none=>Q .normal (backBU σ L L2 hp' nx') | some c=>AWT B none Θ P c (backBU σ L L2 hp' nx') Q))
  (hg : ev σ g = some (.clos it caps)) (hz : mapO (fz σ.hp 9) caps = some (ob',zs)) (hob' : ob') (hL : (L ++ L2).all (fun id=>(get σ.hp id).isSome) = true) (hnd : (L ++ L2).Nodup)
  (hhp : viewHp (Aw.pick (L ++ σ.nx :: L2) (σ.nx + 1)) (L.length + 1 + L2.length) σ.hp hp0) (hxs : renL (Aw.pick (L ++ σ.nx :: L2) (σ.nx + 1)) xs = zs) (hE : ∀ t x,get E t = some x → get σ.env t = some (ren (Aw.pick (L ++ σ.nx :: L2) (σ.nx + 1)) x) ∧ small (L.length + 1) x = true) (hp : ∀ p ∈ ps,p < σ.n) :
  AWT B none Θ P (.rangeFunc g ps.toArray assign body) σ Q:=by
 intro m a hS ht
 refine AWT.rangeAtP (fnc:=fnc) hfo hff (m1:=m.enteredD) (mark:=[{ target:=.collected m.w.heap.size,args:=#[] }]) (dd:=m.w.heap.size) (enteredD_leT hS.s.h) ⟨hS.s.of (enteredD_keeps hS.s.h) (enteredD_simH hS.s.h),?_,?_⟩ ht ?_ hit hKp hK hg hz hob' hL hnd hhp hxs hE hp
 ·exact hS.marks.push (enteredD_leT hS.s.h) (by simp) hS.base (.inr rfl) (World.alloc_heap_new m.w _)
 ·have:=hS.base
  simp only [Mem.enteredD,World.size_alloc]
  omega
 ·intro fn
  rw [run_enterLoop_outer]
  congr 1
  simp [Mem.enteredD]
end
section
variable {B : Bs} {r : Option Nat} {Θ : Mem → Prop} [Lasts Θ] {P : Program} {σ : St} {Q : AX → St → Prop} {ob' : Prop} {zs xs : List AV}
theorem AWT.rP {Rp : AV → Prop} {f0 : FuncId} {fnc : Func} {g : Operand} {ps : List Tmp} {assign body : Code} {it : FuncId} {caps : List AV} {hp0 : List (Nat × ABlk)} (hfo : B.fn = some f0) (hff : P.funcs[f0]? = some fnc) (L L2 : List Nat) (E : List (Nat × AV)) (R : Option Code → List (Nat × ABlk) → Nat → Prop)
  (hit : ∀ (Ω : Mem → Prop) (_ : LastsU Ω) (l : Nat) (rb : Loop) (rc : Option Code → Loop),RoundOkP Ω P σ.gl σ.n E ps assign body l L.length rb rc →
   FnU Ω P σ.gl it (.raw (.func (.yield l) #[] #[]) :: xs) (hp0 ++ [(L.length,.lp l (rc none))]) (L.length + 1 + L2.length) (L.length + 1) fun q hp' nx'=>((∃ x,q = .ret x) ∧ ∃ j,get hp' L.length = some (.lp l (rc j)) ∧ R j hp' nx') ∨ (∃ x,q = .panic x ∧ Rp x ∧ L.length + 1 ≤ nx'))
  (hKp : ∀ x N,σ.nx ≤ N → Rp x → Q (.panic x) ⟨σ.n,σ.env,dels σ.hp (L ++ L2),N,σ.gl,σ.np,σ.df⟩)
  (hK : ∀ j hp' nx',R j hp' nx' → backOku (L.length + 1) hp' nx' = true ∧ (match j with | none=>Q .normal (backBU σ L L2 hp' nx') | some c=>AWT B none Θ P c (backBU σ L L2 hp' nx') Q))
  (hg : ev σ g = some (.clos it caps):=by (simp only [go_sem,seval]; iterate 2 try (simp (disch:=omega) only [zq]; try simp only [go_sem,seval])); exact rfl) (hz : mapO (fz σ.hp 9) caps = some (ob',zs):=by (simp only [go_sem,seval]; iterate 2 try (simp (disch:=omega) only [zq]; try simp only [go_sem,seval])); exact rfl) (hob' : ob':=by ((try (simp only [go_sem,seval]; iterate 2 try (simp (disch:=omega) only [zq]; try simp only [go_sem,seval]))); try (first | exact True.intro | omega | (simp only [zb]; omega) | (simp; done) | (simp; omega) | (and_intros <;> first | assumption | omega | (simp; done) | (simp; omega))))) (hL : (L ++ L2).all (fun id=>(get σ.hp id).isSome) = true:=by (simp only [go_sem,seval]; iterate 2 try (simp (disch:=omega) only [zq]; try simp only [go_sem,seval]))) (hnd : (L ++ L2).Nodup:=by decide)
  (hhp : viewHp (Aw.pick (L ++ σ.nx :: L2) (σ.nx + 1)) (L.length + 1 + L2.length) σ.hp hp0:=by (try (simp only [go_sem,seval]; iterate 2 try (simp (disch:=omega) only [zq]; try simp only [go_sem,seval]))) <;> (try (first | rfl | trivial | (and_intros <;> first | rfl | trivial)))) (hxs : renL (Aw.pick (L ++ σ.nx :: L2) (σ.nx + 1)) xs = zs:=by (try (simp only [go_sem,seval]; iterate 2 try (simp (disch:=omega) only [zq]; try simp only [go_sem,seval]))) <;> (try rfl))
  (hE' : renE (Aw.pick (L ++ σ.nx :: L2) (σ.nx + 1)) E σ.env:=by (simp only [go_sem,seval]; iterate 2 try (simp (disch:=omega) only [zq]; try simp only [go_sem,seval]))) (hsm : E.all (fun p=>small (L.length + 1) p.2) = true:=by (simp only [go_sem,seval]; iterate 2 try (simp (disch:=omega) only [zq]; try simp only [go_sem,seval]))) (hp : ps.all (fun p=>decide (p < σ.n)) = true:=by (simp only [go_sem,seval]; iterate 2 try (simp (disch:=omega) only [zq]; try simp only [go_sem,seval]))) : AWT B none Θ P (.rangeFunc g ps.toArray assign body) σ Q :=
 AWT.rangeOP (fnc:=fnc) hfo hff hit hKp hK hg hz hob' hL hnd hhp hxs (fun _ _ h=>⟨renE_get hE' h,List.all_eq_true.1 hsm _ (mem_of_get h)⟩) (fun p hq=>of_decide_eq_true (List.all_eq_true.1 hp p hq))
end
theorem unblock_pan (id : Nat) (Q : AX → St → Prop) (x : AV) (σ : St) : unblock id Q (.panic x) σ = Q (.panic x) σ:=rfl
theorem andThen_pan (K : St → Prop) (Q : AX → St → Prop) (x : AV) (σ : St) : andThen K Q (.panic x) σ = Q (.panic x) σ:=rfl
theorem PI.finU {P : Program} {rs : List ResultVar} {R : AE → List (Nat × ABlk) → Nat → Prop} : PI (Aw.finU P rs R):=insens_finH (R:=fun q _ nx'=>R q [] nx')
section
variable {B : Bs} {r : Option Nat} {Θ : Mem → Prop} {P : Program} {σ : St} {Q : AX → St → Prop}
theorem AWT.rtU {q : Prop} (hq : q) (h : Q .ret σ = q:=by (try simp only [↓Aw.unblock_ret,↓Aw.andThen_ret,↓Aw.finU_ret]); (try (simp only [go_sem,seval]; iterate 2 try (simp (disch:=omega) only [zq]; try simp only [go_sem,seval]))); exact rfl) : AWT B r Θ P .ret σ Q:=AWT.ret (h ▸ hq)
theorem wkU {p q : Prop} (hq : q) (h : p = q:=by (try simp only [↓Aw.finU_nrm,↓Aw.finU_pan,↓Aw.unblock_nrm,↓Aw.unblock_pan,↓Aw.andThen_pan]); (try (simp only [go_sem,seval]; iterate 2 try (simp (disch:=omega) only [zq]; try simp only [go_sem,seval]))); exact rfl) : p:=h ▸ hq
end
end Aw
