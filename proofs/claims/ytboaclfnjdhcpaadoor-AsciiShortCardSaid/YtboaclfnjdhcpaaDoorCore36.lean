/- Rules of a calculus of walks: no condition of its own. -/
import Derived.Test.YtboaclfnjdhcpaaDoorCore35
namespace Aw
open Go
section
variable {B : Bs} {r : Option Nat} {Θ : Mem → Prop} {P : Program} {σ σ' : St} {Q : AX → St → Prop} {y : Code} {id : Nat} {o : Oper} {ops : Array Oper} {K : St → Prop} {Kp : AV → St → Prop} {ob ob' : Prop} {ys zs xs : List AV} {hp0 hp1 : List (Nat × ABlk)} {n1 c i : Nat}
def rowQ (B : Bs) (r : Option Nat) (Θ : Mem → Prop) (P : Program) (ops : Array Oper) (n : Nat) (K : St → Prop) (Kp : AV → St → Prop) (ax : AX) (σ : St) : Prop :=
 match ax with
 | .panic x=>Kp x σ
 | _=>chainT B r Θ P ops K Kp (ops.size - n) n σ
theorem AWT.rowG [Lasts Θ] (n : Nat) (hm : P.follows .mixedOrders = true) (hrow : rowOk ops n = true) (h : AWG P (ops.extract 0 n) σ (rowQ B r Θ P ops n (fun σ''=>Q .normal σ'') (fun x σ''=>Q (.panic x) σ'') )) : AWT B r Θ P (.region id ops true) σ Q:=fun m a hS ht=>by
 have F:=rowOk_spec hrow
 refine wpB.of (wpIn_region_any hm ?_)
 let md : Mem:={ m with w:={ m.w with drawn:=m.w.drawn + 1 } }
 have hk : m.keeps md:=⟨rfl,fun _ h=>h,fun _ _=>rfl,fun _ _ h=>h,fun _ _ _=>rfl,fun _ _ h=>h⟩
 have hl : m.le md:=⟨rfl,rfl,rfl,Nat.le_refl _,rfl,fun _ _=>rfl,fun _ _ h=>h,fun _ _ _=>rfl,fun _ _ _ h=>h,rfl,fun _ _ _ h=>h⟩
 have hH : SimH md σ.hp σ.nx:=by
  refine ⟨fun i x hx=>?_,hS.s.h.apart,hS.s.h.fresh,hS.s.h.Fold,hS.s.h.Pold⟩
  obtain ⟨ri,h1,h2⟩:=hS.s.h.blk i x hx
  exact ⟨ri,h1,h2.mono hk (fun h=>h) (fun _ h=>h) (fun _=>rfl)⟩
 have hS' : SimT B md a σ:=⟨hS.s.of hk hH,hS.marks.le hl.t,hS.base⟩
 have hsz : (ops.extract 0 n).size = n:=by have:=F.le; simp; omega
 have hfin:=pre_sound (r:=r) (Θ:=Θ) (K:=fun σ''=>Q .normal σ'') (Kp:=fun x σ''=>Q (.panic x) σ'') F (X:=PostT B m Q) md ?_ ?_ (ops.extract 0 n).size (Array.replicate (ops.extract 0 n).size false) σ h (Array.replicate ops.size false) (by simpa using hsz) (by simp)
  (fun j hj=>by simp [Array.getD]) (fun j hj=>by simp [Array.getD]) (fun j hj=>by simp [Array.getD] at hj) md a (.refl md) hS' (Lasts.le hl.t ht)
 ·rw [hsz,show n + (ops.size - n) = ops.size from by have:=F.le; omega] at hfin
  exact hfin
 ·rintro m' a' σ' hle hS' hq
  exact ⟨m',σ',.normal,rfl,hl.t.trans hle,hS',rfl,hq⟩
 ·intro m' a' σ' x v hle hS' hx h'
  exact ⟨m',σ',.panic x,rfl,hl.t.trans hle,hS',⟨v,rfl,hx⟩,h'⟩
theorem extract_list {n : Nat} {pre : List Oper} (h : ops.toList.take n = pre) : ops.extract 0 n = pre.toArray:=by
 apply Array.ext'
 simp [← h]
theorem rowQ_pi {n : Nat} (hQ : PI Q) : PI (rowQ B r Θ P ops n (fun σ''=>Q .normal σ'') (fun x σ''=>Q (.panic x) σ'')):=hQ
theorem AWT.yL [Lasts Θ] (n : Nat) (S : List Nat) {pre : List Oper} (h : awFun P pre.toArray (awPlan P pre.toArray (fun σ'=>chainT B r Θ P ops (fun σ''=>Q .normal σ'') (fun x σ''=>Q (.panic x) σ'') (ops.size - n) n σ') (fun x σ''=>Q (.panic x) σ'') []) S σ)
  (hpre : ops.toList.take n = pre:=by (simp only [List.take_succ_cons,List.take_zero]; exact rfl)) (hm : P.follows .mixedOrders = true:=by kernel_rfl) (hrow : rowOk ops n = true:=by kernel_rfl) (hsel : Region.noSelect pre.toArray = true:=by kernel_rfl) (hok : funOk pre.toArray [] S = true:=by kernel_rfl)
  (hp : (planOk pre.toArray [] (listAll (Array.replicate pre.toArray.size false) S) && ([] : List (Nat × Nat)).length + S.length == pre.toArray.size) = true:=by kernel_rfl) (hQ : PI Q:=by repeat (first | exact Aw.PI.fin | exact Aw.PI.finH | exact Aw.PI.round | refine Aw.PI.unblock ?_ | refine Aw.PI.andThen ?_)) : AWT B r Θ P (.region id ops true) σ Q :=
 AWT.rowG n hm hrow (by rw [extract_list hpre]; exact AWG.fun S [] hsel hok hp (rowQ_pi hQ) h)
theorem AWT.yS [Lasts Θ] (n : Nat) (S : List Nat) {pre : List Oper} (h : awFun P pre.toArray (awPlan P pre.toArray (fun σ'=>chainT B r Θ P ops (fun σ''=>AWT B r Θ P y σ'' Q) (fun x σ''=>Q (.panic x) σ'') (ops.size - n) n σ') (fun x σ''=>Q (.panic x) σ'') []) S σ)
  (hpre : ops.toList.take n = pre:=by (simp only [List.take_succ_cons,List.take_zero]; exact rfl)) (hm : P.follows .mixedOrders = true:=by kernel_rfl) (hrow : rowOk ops n = true:=by kernel_rfl) (hsel : Region.noSelect pre.toArray = true:=by kernel_rfl) (hok : funOk pre.toArray [] S = true:=by kernel_rfl)
  (hp : (planOk pre.toArray [] (listAll (Array.replicate pre.toArray.size false) S) && ([] : List (Nat × Nat)).length + S.length == pre.toArray.size) = true:=by kernel_rfl) (hQ : PI Q:=by repeat (first | exact Aw.PI.fin | exact Aw.PI.finH | exact Aw.PI.round | refine Aw.PI.unblock ?_ | refine Aw.PI.andThen ?_)) : AWT B r Θ P (.seq (.region id ops true) y) σ Q :=
 AWT.seq (AWT.yL (Q:=andThen (fun σ'=>AWT B r Θ P y σ' Q) Q) n S h hpre hm hrow hsel hok hp (PI.andThen hQ))
theorem chainT.cYP [LastsU Θ] {z w : AV} {C : Prop} {k : Nat} (L : List Nat) (hc : RoundU Θ P σ.gl k xs hp0 L.length σ.np fun r h n=>(C ∧ r = .ret z ∧ h = hp1 ∧ n = n1) ∨ (¬ C ∧ r = .panic w ∧ h = [] ∧ σ.np ≤ n)) (hKp : ¬ C → ∀ n,σ.np ≤ n → Kp w (backU σ L σ.np [] n))
  (hK : C → chainT B r Θ P ops K Kp c (i + 1) (St.put (backU σ L σ.np hp1 n1) o.dst (ren (bk (L.take σ.np) σ.nx) z))) (ho : ops[i]? = some o:=by exact rfl)
  (h : ayield σ o.op = some (ob,k,ys):=by (simp only [go_sem,seval]; iterate 2 try (simp (disch:=omega) only [zq]; try simp only [go_sem,seval])); exact rfl) (hz : mapO (fz σ.hp 9) ys = some (ob',zs):=by (simp only [go_sem,seval]; iterate 2 try (simp (disch:=omega) only [zq]; try simp only [go_sem,seval])); exact rfl) (hd : dstOk σ.n o.dst = true:=by (simp only [go_sem,seval]; iterate 2 try (simp (disch:=omega) only [zq]; try simp only [go_sem,seval]))) (hL : L.all (fun id=>(get σ.hp id).isSome) = true:=by (simp only [go_sem,seval]; iterate 2 try (simp (disch:=omega) only [zq]; try simp only [go_sem,seval]))) (hnd : L.Nodup:=by decide)
  (hhp : viewHp (Aw.pick L σ.nx) L.length σ.hp hp0:=by (try (simp only [go_sem,seval]; iterate 2 try (simp (disch:=omega) only [zq]; try simp only [go_sem,seval]))) <;> (try (first | rfl | trivial | (and_intros <;> first | rfl | trivial)))) (hxs : renL (Aw.pick L σ.nx) xs = zs:=by (try (simp only [go_sem,seval]; iterate 2 try (simp (disch:=omega) only [zq]; try simp only [go_sem,seval]))) <;> (try rfl)) (hob : ob:=by ((try (simp only [go_sem,seval]; iterate 2 try (simp (disch:=omega) only [zq]; try simp only [go_sem,seval]))); try (first | exact True.intro | omega | (simp only [zb]; omega) | (simp; done) | (simp; omega) | (and_intros <;> first | assumption | omega | (simp; done) | (simp; omega))))) (hob' : ob':=by ((try (simp only [go_sem,seval]; iterate 2 try (simp (disch:=omega) only [zq]; try simp only [go_sem,seval]))); try (first | exact True.intro | omega | (simp only [zb]; omega) | (simp; done) | (simp; omega) | (and_intros <;> first | assumption | omega | (simp; done) | (simp; omega)))))
  (hb : (backOku σ.np hp1 n1 && noT z) = true:=by (simp only [go_sem,seval]; iterate 2 try (simp (disch:=omega) only [zq]; try simp only [go_sem,seval]))) (hnl : σ.np ≤ L.length:=by exact Nat.le_of_ble_eq_true rfl) (hn : L.take σ.np = List.range σ.np:=by rfl) : chainT B r Θ P ops K Kp (c + 1) i σ :=
 ⟨o,ho,StepU.yield (LastsU.at hL hnl hn) h hob hd hz hob' hL hnd hnl hhp hxs hc
  (fun z _ _ hh=>by
   rcases hh with ⟨hC,h1,h2,h3⟩ | ⟨_,h1,_⟩
   ·cases h1; subst h2 h3; exact ⟨hb,hK hC⟩
   ·cases h1)
  (fun z _ _ hh=>by
   rcases hh with ⟨_,h1,_⟩ | ⟨hC,h1,h2,h3⟩
   ·cases h1
   ·cases h1; subst h2; exact ⟨by simp only [backOku,solo,noTHm,Bool.true_and]; exact decide_eq_true h3,hKp hC _ h3⟩)⟩
theorem chainT.cY [LastsU Θ] {z : AV} {k : Nat} (L : List Nat) (hc : RoundU Θ P σ.gl k xs hp0 L.length σ.np fun r h n=>r = .ret z ∧ h = hp1 ∧ n = n1)
  (hK : chainT B r Θ P ops K Kp c (i + 1) (St.put (backU σ L σ.np hp1 n1) o.dst (ren (bk (L.take σ.np) σ.nx) z))) (ho : ops[i]? = some o:=by exact rfl)
  (h : ayield σ o.op = some (ob,k,ys):=by (simp only [go_sem,seval]; iterate 2 try (simp (disch:=omega) only [zq]; try simp only [go_sem,seval])); exact rfl) (hz : mapO (fz σ.hp 9) ys = some (ob',zs):=by (simp only [go_sem,seval]; iterate 2 try (simp (disch:=omega) only [zq]; try simp only [go_sem,seval])); exact rfl) (hd : dstOk σ.n o.dst = true:=by (simp only [go_sem,seval]; iterate 2 try (simp (disch:=omega) only [zq]; try simp only [go_sem,seval]))) (hL : L.all (fun id=>(get σ.hp id).isSome) = true:=by (simp only [go_sem,seval]; iterate 2 try (simp (disch:=omega) only [zq]; try simp only [go_sem,seval]))) (hnd : L.Nodup:=by decide)
  (hhp : viewHp (Aw.pick L σ.nx) L.length σ.hp hp0:=by (try (simp only [go_sem,seval]; iterate 2 try (simp (disch:=omega) only [zq]; try simp only [go_sem,seval]))) <;> (try (first | rfl | trivial | (and_intros <;> first | rfl | trivial)))) (hxs : renL (Aw.pick L σ.nx) xs = zs:=by (try (simp only [go_sem,seval]; iterate 2 try (simp (disch:=omega) only [zq]; try simp only [go_sem,seval]))) <;> (try rfl)) (hob : ob:=by ((try (simp only [go_sem,seval]; iterate 2 try (simp (disch:=omega) only [zq]; try simp only [go_sem,seval]))); try (first | exact True.intro | omega | (simp only [zb]; omega) | (simp; done) | (simp; omega) | (and_intros <;> first | assumption | omega | (simp; done) | (simp; omega))))) (hob' : ob':=by ((try (simp only [go_sem,seval]; iterate 2 try (simp (disch:=omega) only [zq]; try simp only [go_sem,seval]))); try (first | exact True.intro | omega | (simp only [zb]; omega) | (simp; done) | (simp; omega) | (and_intros <;> first | assumption | omega | (simp; done) | (simp; omega)))))
  (hb : (backOku σ.np hp1 n1 && noT z) = true:=by (simp only [go_sem,seval]; iterate 2 try (simp (disch:=omega) only [zq]; try simp only [go_sem,seval]))) (hnl : σ.np ≤ L.length:=by exact Nat.le_of_ble_eq_true rfl) (hn : L.take σ.np = List.range σ.np:=by rfl) : chainT B r Θ P ops K Kp (c + 1) i σ :=
 ⟨o,ho,StepU.yield (LastsU.at hL hnl hn) h hob hd hz hob' hL hnd hnl hhp hxs hc (fun z _ _ ⟨h1,h2,h3⟩=>by cases h1; subst h2 h3; exact ⟨hb,hK⟩) (fun _ _ _ ⟨h1,_⟩=>by cases h1)⟩
theorem chainT.p [Lasts Θ] (hK : chainT B r Θ P ops K Kp c (i + 1) σ') (ho : ops[i]? = some o:=by exact rfl) (h : stepOp P [] σ o = some (ob,σ'):=by (simp only [go_sem,seval]; iterate 2 try (simp (disch:=omega) only [zq]; try simp only [go_sem,seval])); exact rfl) (hob : ob:=by ((try (simp only [go_sem,seval]; iterate 2 try (simp (disch:=omega) only [zq]; try simp only [go_sem,seval]))); try (first | exact True.intro | omega | (simp only [zb]; omega) | (simp; done) | (simp; omega) | (and_intros <;> first | assumption | omega | (simp; done) | (simp; omega))))) (hg : o.guard = none:=by exact rfl) (hnd : notDefer o.op = true:=by rfl) : chainT B r Θ P ops K Kp (c + 1) i σ:=by
 refine ⟨o,ho,StepT.of hnd ?_⟩
 have h1:=stepOp_sound (K:=chainT B r Θ P ops K Kp c (i + 1)) (Kp:=Kp) h hob hK
 unfold awGuard at h1
 rw [hg] at h1
 simp only at h1
 exact awStep_sound h1
theorem chainT.nil (h : K σ) : chainT B r Θ P ops K Kp 0 i σ:=h
end
section
variable {B : Bs} {r : Option Nat} {Θ : Mem → Prop} [Lasts Θ] {P : Program} {σ : St} {Q : AX → St → Prop} {g : Operand} {ps : List Tmp} {assign body : Code} {it : FuncId} {caps zs xs : List AV} {ob' : Prop} {L L2 : List Nat}
 {hp0 : List (Nat × ABlk)} {E : List (Nat × AV)} {R : Option Code → List (Nat × ABlk) → Nat → Prop}
theorem AWT.rangeOP {Rp : AV → Prop} {f0 : FuncId} {fnc : Func} (hfo : B.fn = some f0) (hff : P.funcs[f0]? = some fnc)
  (hit : ∀ (Ω : Mem → Prop) (_ : LastsU Ω) (l : Nat) (rb : Loop) (rc : Option Code → Loop),RoundOkP Ω P σ.gl σ.n E ps assign body l L.length rb rc →
   FnU Ω P σ.gl it (.raw (.func (.yield l) #[] #[]) :: xs) (hp0 ++ [(L.length,.lp l (rc none))]) (L.length + 1 + L2.length) (L.length + 1) fun q hp' nx'=>((∃ x,q = .ret x) ∧ ∃ j,get hp' L.length = some (.lp l (rc j)) ∧ R j hp' nx') ∨ (∃ x,q = .panic x ∧ Rp x ∧ L.length + 1 ≤ nx'))
  (hKp : ∀ x N,σ.nx ≤ N → Rp x → Q (.panic x) ⟨σ.n,σ.env,dels σ.hp (L ++ L2),N,σ.gl,σ.np,σ.df⟩)
  (hK : ∀ j hp' nx',R j hp' nx' → backOku (L.length + 1) hp' nx' = true ∧ (match j with | none=>Q .normal (backBU σ L L2 hp' nx') | some c=>AWT B none Θ P c (backBU σ L L2 hp' nx') Q))
  (hg : ev σ g = some (.clos it caps)) (hz : mapO (fz σ.hp 9) caps = some (ob',zs)) (hob' : ob') (hL : (L ++ L2).all (fun id=>(get σ.hp id).isSome) = true) (hnd : (L ++ L2).Nodup)
  (hhp : viewHp (Aw.pick (L ++ σ.nx :: L2) (σ.nx + 1)) (L.length + 1 + L2.length) σ.hp hp0) (hxs : renL (Aw.pick (L ++ σ.nx :: L2) (σ.nx + 1)) xs = zs) (hE : ∀ t x,get E t = some x → get σ.env t = some (ren (Aw.pick (L ++ σ.nx :: L2) (σ.nx + 1)) x) ∧ small (L.length + 1) x = true) (hp : ∀ p ∈ ps,p < σ.n) :
  AWT B none Θ P (.rangeFunc g ps.toArray assign body) σ Q:=by
 intro m a hS ht
 refine AWT.rangeAtP (fnc:=fnc) hfo hff (m1:=m.enteredD) (mark:=[{ target:=.collected m.w.heap.size,args:=#[] }]) (dd:=m.w.heap.size) (enteredD_leT hS.s.h) ⟨hS.s.of (enteredD_keeps hS.s.h) (enteredD_simH hS.s.h),?_,?_⟩ ht ?_ hit hKp hK hg hz hob' hL hnd hhp hxs hE hp
 ·exact hS.marks.push (enteredD_leT hS.s.h) (by simp) hS.base (.inr rfl) (World.alloc_heap_new m.w _)
 ·have:=hS.base
  simp only [Mem.enteredD,World.size_alloc]
  omega
 ·intro fn
  rw [run_enterLoop_outer]
  congr 1
  simp [Mem.enteredD]
end
section
variable {B : Bs} {r : Option Nat} {Θ : Mem → Prop} [Lasts Θ] {P : Program} {σ : St} {Q : AX → St → Prop} {ob' : Prop} {zs xs : List AV}
theorem AWT.rP {Rp : AV → Prop} {f0 : FuncId} {fnc : Func} {g : Operand} {ps : List Tmp} {assign body : Code} {it : FuncId} {caps : List AV} {hp0 : List (Nat × ABlk)} (hfo : B.fn = some f0) (hff : P.funcs[f0]? = some fnc) (L L2 : List Nat) (E : List (Nat × AV)) (R : Option Code → List (Nat × ABlk) → Nat → Prop)
  (hit : ∀ (Ω : Mem → Prop) (_ : LastsU Ω) (l : Nat) (rb : Loop) (rc : Option Code → Loop),RoundOkP Ω P σ.gl σ.n E ps assign body l L.length rb rc →
   FnU Ω P σ.gl it (.raw (.func (.yield l) #[] #[]) :: xs) (hp0 ++ [(L.length,.lp l (rc none))]) (L.length + 1 + L2.length) (L.length + 1) fun q hp' nx'=>((∃ x,q = .ret x) ∧ ∃ j,get hp' L.length = some (.lp l (rc j)) ∧ R j hp' nx') ∨ (∃ x,q = .panic x ∧ Rp x ∧ L.length + 1 ≤ nx'))
  (hKp : ∀ x N,σ.nx ≤ N → Rp x → Q (.panic x) ⟨σ.n,σ.env,dels σ.hp (L ++ L2),N,σ.gl,σ.np,σ.df⟩)
  (hK : ∀ j hp' nx',R j hp' nx' → backOku (L.length + 1) hp' nx' = true ∧ (match j with | none=>Q .normal (backBU σ L L2 hp' nx') | some c=>AWT B none Θ P c (backBU σ L L2 hp' nx') Q))
  (hg : ev σ g = some (.clos it caps):=by (simp only [go_sem,seval]; iterate 2 try (simp (disch:=omega) only [zq]; try simp only [go_sem,seval])); exact rfl) (hz : mapO (fz σ.hp 9) caps = some (ob',zs):=by (simp only [go_sem,seval]; iterate 2 try (simp (disch:=omega) only [zq]; try simp only [go_sem,seval])); exact rfl) (hob' : ob':=by ((try (simp only [go_sem,seval]; iterate 2 try (simp (disch:=omega) only [zq]; try simp only [go_sem,seval]))); try (first | exact True.intro | omega | (simp only [zb]; omega) | (simp; done) | (simp; omega) | (and_intros <;> first | assumption | omega | (simp; done) | (simp; omega))))) (hL : (L ++ L2).all (fun id=>(get σ.hp id).isSome) = true:=by (simp only [go_sem,seval]; iterate 2 try (simp (disch:=omega) only [zq]; try simp only [go_sem,seval]))) (hnd : (L ++ L2).Nodup:=by decide)
  (hhp : viewHp (Aw.pick (L ++ σ.nx :: L2) (σ.nx + 1)) (L.length + 1 + L2.length) σ.hp hp0:=by (try (simp only [go_sem,seval]; iterate 2 try (simp (disch:=omega) only [zq]; try simp only [go_sem,seval]))) <;> (try (first | rfl | trivial | (and_intros <;> first | rfl | trivial)))) (hxs : renL (Aw.pick (L ++ σ.nx :: L2) (σ.nx + 1)) xs = zs:=by (try (simp only [go_sem,seval]; iterate 2 try (simp (disch:=omega) only [zq]; try simp only [go_sem,seval]))) <;> (try rfl))
  (hE' : renE (Aw.pick (L ++ σ.nx :: L2) (σ.nx + 1)) E σ.env:=by (simp only [go_sem,seval]; iterate 2 try (simp (disch:=omega) only [zq]; try simp only [go_sem,seval]))) (hsm : E.all (fun p=>small (L.length + 1) p.2) = true:=by (simp only [go_sem,seval]; iterate 2 try (simp (disch:=omega) only [zq]; try simp only [go_sem,seval]))) (hp : ps.all (fun p=>decide (p < σ.n)) = true:=by (simp only [go_sem,seval]; iterate 2 try (simp (disch:=omega) only [zq]; try simp only [go_sem,seval]))) : AWT B none Θ P (.rangeFunc g ps.toArray assign body) σ Q :=
 AWT.rangeOP (fnc:=fnc) hfo hff hit hKp hK hg hz hob' hL hnd hhp hxs (fun _ _ h=>⟨renE_get hE' h,List.all_eq_true.1 hsm _ (mem_of_get h)⟩) (fun p hq=>of_decide_eq_true (List.all_eq_true.1 hp p hq))
end
theorem unblock_pan (id : Nat) (Q : AX → St → Prop) (x : AV) (σ : St) : unblock id Q (.panic x) σ = Q (.panic x) σ:=rfl
theorem andThen_pan (K : St → Prop) (Q : AX → St → Prop) (x : AV) (σ : St) : andThen K Q (.panic x) σ = Q (.panic x) σ:=rfl
theorem PI.finU {P : Program} {rs : List ResultVar} {R : AE → List (Nat × ABlk) → Nat → Prop} : PI (Aw.finU P rs R):=insens_finH (R:=fun q _ nx'=>R q [] nx')
section
variable {B : Bs} {r : Option Nat} {Θ : Mem → Prop} {P : Program} {σ : St} {Q : AX → St → Prop}
theorem AWT.rtU {q : Prop} (hq : q) (h : Q .ret σ = q:=by (try simp only [↓Aw.unblock_ret,↓Aw.andThen_ret,↓Aw.finU_ret]); (try (simp only [go_sem,seval]; iterate 2 try (simp (disch:=omega) only [zq]; try simp only [go_sem,seval]))); exact rfl) : AWT B r Θ P .ret σ Q:=AWT.ret (h ▸ hq)
theorem wkU {p q : Prop} (hq : q) (h : p = q:=by (try simp only [↓Aw.finU_nrm,↓Aw.finU_pan,↓Aw.unblock_nrm,↓Aw.unblock_pan,↓Aw.andThen_pan]); (try (simp only [go_sem,seval]; iterate 2 try (simp (disch:=omega) only [zq]; try simp only [go_sem,seval]))); exact rfl) : p:=h ▸ hq
end
end Aw

namespace Aw
open Go
section
variable {P : Program} {ops : Array Oper}
def storeAt (σ : St) (hp1 : List (Nat × ABlk)) : St:=⟨σ.n,σ.env,hp1,σ.nx,σ.gl,σ.np,σ.df⟩
def storeOk (ops : Array Oper) (e : Nat) (S : List Nat) : Bool :=
 !(S.contains e) && (bindsAt ops e).all (S.contains ·) && (List.range ops.size).all fun j=>S.contains j || j == e || (S.all ((reach ops 9 j).contains ·) && (reach ops 9 j).contains e)
def EffAt (P : Program) (ops : Array Oper) (e : Nat) (oe : Oper) (σ : St) (hp1 : List (Nat × ABlk)) : Prop :=
 ∃ σr : St,Base σ σr ∧ (∀ t x,get σr.env t = some x → t ∈ oe.looksAt ops ∧ get σ.env t = some x) ∧
  GStep P ops e σr (fun σ'=>σ'.hp = hp1 ∧ σ'.nx = σ.nx) (fun _ _=>False)
theorem EffAt.step {e : Nat} {oe : Oper} {σ σ2 : St} {hp1 : List (Nat × ABlk)} (ho : ops[e]? = some oe) (hd : oe.dst = none) (h : EffAt P ops e oe σ hp1) (hb : Base σ σ2) (he : ∀ t ∈ oe.looksAt ops,∀ x,get σ.env t = some x → get σ2.env t = some x)
  {K : St → Prop} {Kp : AV → St → Prop} (hK : K (storeAt σ2 hp1)) : GStep P ops e σ2 K Kp:=by
 obtain ⟨σr,hr,hre,hg⟩:=h
 unfold GStep at *
 rw [ho] at hg ⊢
 intro m a N Q hS hN hQ
 have hbr : Base σ2 σr:=⟨hr.n.trans hb.n.symm,hr.hp.trans hb.hp.symm,hr.nx.trans hb.nx.symm,hr.gl.trans hb.gl.symm,hr.np.trans hb.np.symm,hr.df.trans hb.df.symm⟩
 have hSr : Sim m a σr:=hS.fewer hbr fun t x ht=>he t (hre t x ht).1 x (hre t x ht).2
 refine hg m a N Q hSr ?_ (fun _ _ _ _ _ _ _ _ _ h=>h.elim)
 rintro m' a' σ' hle hk hS' hK' hL ⟨e1,e2⟩
 have hlv : ∀ t,oe.dst ≠ some t:=fun t h=>by rw [hd] at h; cases h
 refine hN m' a' (storeAt σ2 hp1) hle hk ?_ ?_ hL hK
 ·refine ⟨?_,?_,?_,?_,?_,?_⟩
  ·show SimH m' hp1 σ2.nx
   rw [hb.nx,← e2,← e1]; exact hS'.h
  ·show a'.tmps.size = σ2.n
   rw [hb.n,← hr.n,← hK'.n]; exact hS'.n
  ·show DefR m' σ2.df a'.defers
   rw [hb.df,← hr.df,← hK'.df]; exact hS'.defers
  ·intro t x ht
   obtain ⟨g1,g2⟩:=hS.env t x ht
   refine ⟨g1,?_⟩
   rw [hL t (hlv t)]
   exact Rep.mono hk 0 _ _ g2
  ·intro g x hg'
   have hg'' : get σ2.gl g = some x:=hg'
   rw [hb.gl,← hr.gl,← hK'.gl] at hg''
   exact hS'.gl g x hg''
  ·show m'.np = σ2.np
   rw [hb.np,← hr.np,← hK'.np]; exact hS'.np
 ·exact ⟨rfl,rfl,rfl,rfl,fun _ _=>rfl,fun hE=>by
   have:=hK'.hp hE
   refine ⟨?_,rfl⟩
   show hp1 = σ2.hp
   rw [← e1,this.1,hr.hp,hb.hp],fun hA id b hg=>by
   show get hp1 id = some b
   rw [← e1]
   refine hK'.hpA hA id b ?_
   rw [hr.hp,← hb.hp]
   exact hg⟩
theorem game_store_step {K : St → Prop} {Kp : AV → St → Prop} {S : List Nat} {e : Nat} {X : Nat → AV} {σ0 : St} {oe : Oper} {hp1 : List (Nat × ABlk)} (F : FactsE P ops S e X σ0) (F1 : FactsE P ops S e X (storeAt σ0 hp1)) {f' : Nat}
  (hoe : ops[e]? = some oe) (heS : e ∉ S) (hbe : ∀ k ∈ bindsAt ops e,k ∈ S)
  (hE : ∀ σ,Base σ0 σ → (∀ k ∈ bindsAt ops e,∀ t,dstAt ops k = some t → get σ.env t = some (X k)) → (∀ t,(∀ i ∈ S,dstAt ops i ≠ some t) → get σ.env t = get σ0.env t) → ∀ K',K' (storeAt σ hp1) → GStep P ops e σ K' Kp)
  (hend : ∀ l σ,DoneE ops S e X (storeAt σ0 hp1) true l σ → unl l S = 0 → GAny P ops K Kp f' l σ) (c : Nat) (l : Array Bool) (σ : St) (hc : unl l S = c) (hD : DoneE ops S e X σ0 false l σ)
  (ih : ∀ c',c = c' + 1 → ∀ l' σ',unl l' S = c' → DoneE ops S e X σ0 false l' σ' → GAny P ops K Kp (c' + 1 + f') l' σ') : GAny P ops K Kp (c + f' + 1) l σ:=by
 have hel : e < l.size:=by rw [hD.size]; exact (Array.getElem?_eq_some_iff.1 hoe).1
 refine ⟨fun h0=>?_,fun j hj=>?_⟩
 ·exfalso
  by_cases hz : unl l S = 0
  ·have hall:=unl_zero hz
   have : e ∈ Region.ready .any ops l:=ready_iff.2 ⟨getD_ft hel hD.isE,oe,hoe,fun k hk=>hall k (hbe k (by rw [bindsAt_of hoe]; exact hk))⟩
   rw [h0] at this
   cases this
  ·obtain ⟨A,i,B,hS,h1,h2⟩:=first_unl (l:=l) (S:=S) (by omega)
   obtain ⟨o,d,ho,_⟩:=F.isop i (by rw [hS]; simp)
   have hil : i < l.size:=by
    rw [hD.size]
    exact (Array.getElem?_eq_some_iff.1 ho).1
   have : i ∈ Region.ready .any ops l:=ready_iff.2 ⟨getD_ft hil h1,o,ho,fun k hk=>h2 k (F.early A i B hS k (by unfold bindsAt; rw [ho]; exact hk))⟩
   rw [h0] at this
   cases this
 ·obtain ⟨hu,o',ho',hk'⟩:=ready_iff.1 hj
  obtain ⟨hjl,hjf⟩:=getD_tf hu
  by_cases hje : j = e
  ·subst hje
   rw [hoe] at ho'
   injection ho' with ho'
   subst ho'
   refine hE σ hD.base ?_ ?_ _ ?_
   ·intro k hk t hkt
    have hkS:=hbe k hk
    have hkl : l.getD k false = true:=hk' k (by rw [bindsAt_of hoe] at hk; exact hk)
    rcases hD.env t with ⟨i,hiS,hil,hid,hiv⟩ | ⟨hn,hv⟩
    ·rw [hiv,F.dist i hiS k hkS (by rw [hid,hkt])]
    ·exact absurd hkt (hn k hkS hkl)
   ·intro t hno
    rcases hD.env t with ⟨i,hiS,hil,hid,hiv⟩ | ⟨hn,hv⟩
    ·exact absurd hid (hno i hiS)
    ·exact hv
   refine game_late F1 hend c _ _ (by rw [unl_other hel heS]; exact hc) ⟨by simpa using hD.size,?_,?_,?_,?_,?_⟩
   ·intro i hi
    rw [getD_setB hjl] at hi
    split at hi
    ·rename_i e'; exact .inr ⟨e'.symm,rfl⟩
    ·rcases hD.sub i hi with h | h
     ·exact .inl h
     ·exact absurd h.2 (by decide)
   ·rw [getD_setB hjl,if_pos rfl]
   ·intro i hi k hk
    rw [getD_setB hjl] at hi ⊢
    split
    ·rfl
    ·split at hi
     ·rename_i e'; subst e'
      rw [bindsAt_of hoe] at hk
      exact hk' k hk
     ·exact hD.down i hi k hk
   ·have hb:=hD.base
    exact ⟨hb.n,rfl,hb.nx,hb.gl,hb.np,hb.df⟩
   ·intro t
    show (∃ i ∈ S,_ ∧ dstAt ops i = some t ∧ get σ.env t = some (X i)) ∨ (_ ∧ get σ.env t = get σ0.env t)
    rcases hD.env t with ⟨i,hiS,hil,hid,hiv⟩ | ⟨hn,hv⟩
    ·left
     refine ⟨i,hiS,?_,hid,hiv⟩
     rw [getD_setB hjl]
     split
     ·rfl
     ·exact hil
    ·right
     refine ⟨fun i hiS hi=>?_,hv⟩
     rw [getD_setB hjl] at hi
     split at hi
     ·rename_i e'; subst e'; exact absurd hiS heS
     ·exact hn i hiS hi
  ·have hjS : j ∈ S:=by
    by_cases hm : j ∈ S
    ·exact hm
    ·exfalso
     have:=reach_listed hD.down 9 j (by unfold bindsAt; rw [ho']; exact hk') e (F.tail j (by rw [← hD.size]; exact hjl) hm hje).2
     rw [hD.isE] at this
     cases this
   have hcu:=unl_set hjl F.nodup hjS hjf
   obtain ⟨c',rfl⟩ : ∃ c',c = c' + 1:=⟨unl (l.setIfInBounds j true) S,by omega⟩
   obtain ⟨o,σi,ho,hbi,hF,hlook⟩:=F.step j hjS
   rw [ho] at ho'
   injection ho' with ho'
   subst ho'
   have hbase : Base σi σ:=⟨hD.base.n.trans hbi.n.symm,hD.base.hp.trans hbi.hp.symm,hD.base.nx.trans hbi.nx.symm,hD.base.gl.trans hbi.gl.symm,hD.base.np.trans hbi.np.symm,hD.base.df.trans hbi.df.symm⟩
   refine hF.step ho hbase ?_ ?_
   ·intro t ht x hx
    rcases hlook t ht x hx with ⟨k,hkS,hkd,hkb,rfl⟩ | ⟨hno,hx0⟩
    ·rcases hD.env t with ⟨i,hiS,_,hid,hiv⟩ | ⟨hn,_⟩
     ·rw [F.dist k hkS i hiS (by rw [hkd,hid])]
      exact hiv
     ·exact absurd hkd (hn k hkS (hk' k hkb))
    ·rcases hD.env t with ⟨i,hiS,_,hid,_⟩ | ⟨_,hv⟩
     ·exact absurd hid (hno i hiS)
     ·rw [hv]; exact hx0
   ·have hdj : dstAt ops j = o.dst:=by unfold dstAt; rw [ho] <;> rfl
    obtain ⟨_,d,ho2,hod⟩:=F.isop j hjS
    rw [ho] at ho2
    injection ho2 with ho2
    subst ho2
    rw [show c' + 1 + f' = c' + 1 + f' from rfl]
    refine ih c' rfl _ _ (by omega) ⟨by simpa using hD.size,?_,?_,?_,hD.base.trans (Base.put _ _ _),?_⟩
    ·intro i hi
     rw [getD_setB hjl] at hi
     split at hi
     ·rename_i e'; subst e'; exact .inl hjS
     ·exact hD.sub i hi
    ·rw [getD_setB hjl,if_neg hje]
     exact hD.isE
    ·intro i hi k hk
     rw [getD_setB hjl] at hi ⊢
     split
     ·rfl
     ·split at hi
      ·rename_i e'; subst e'
       unfold bindsAt at hk
       rw [ho] at hk
       exact hk' k hk
      ·exact hD.down i hi k hk
    ·intro t
     by_cases hdt : d = t
     ·subst hdt
      left
      refine ⟨j,hjS,by rw [getD_setB hjl,if_pos rfl],by rw [hdj,hod],?_⟩
      rw [hod]
      simp only [St.put,get_set,if_true]
     ·have hput : get (σ.put o.dst (X j)).env t = get σ.env t:=by
       rw [hod]
       simp only [St.put,get_set,if_neg hdt]
      rw [hput]
      rcases hD.env t with ⟨i,hiS,hil,hid,hiv⟩ | ⟨hn,hv⟩
      ·left
       refine ⟨i,hiS,?_,hid,hiv⟩
       rw [getD_setB hjl]
       split
       ·rfl
       ·exact hil
      ·right
       refine ⟨fun i hiS hi=>?_,hv⟩
       rw [getD_setB hjl] at hi
       split at hi
       ·rename_i e'; subst e'
        rw [hdj,hod]
        intro h; injection h with h; exact hdt h
       ·exact hn i hiS hi

theorem game_store {K : St → Prop} {Kp : AV → St → Prop} {S : List Nat} {e : Nat} {X : Nat → AV} {σ0 : St} {oe : Oper} {hp1 : List (Nat × ABlk)} (F : FactsE P ops S e X σ0) (F1 : FactsE P ops S e X (storeAt σ0 hp1)) {f' : Nat}
  (hoe : ops[e]? = some oe) (heS : e ∉ S) (hbe : ∀ k ∈ bindsAt ops e,k ∈ S)
  (hE : ∀ σ,Base σ0 σ → (∀ k ∈ bindsAt ops e,∀ t,dstAt ops k = some t → get σ.env t = some (X k)) → (∀ t,(∀ i ∈ S,dstAt ops i ≠ some t) → get σ.env t = get σ0.env t) → ∀ K',K' (storeAt σ hp1) → GStep P ops e σ K' Kp)
  (hend : ∀ l σ,DoneE ops S e X (storeAt σ0 hp1) true l σ → unl l S = 0 → GAny P ops K Kp f' l σ) : ∀ (c : Nat) (l : Array Bool) (σ : St),unl l S = c → DoneE ops S e X σ0 false l σ → GAny P ops K Kp (c + 1 + f') l σ:=by
 intro c
 induction c with
 | zero =>
  intro l σ hc hD
  rw [show 0 + 1 + f' = (0 + f') + 1 from by omega]
  exact game_store_step F F1 hoe heS hbe hE hend 0 l σ hc hD (fun c' h=>absurd h (by omega))
 | succ c ih =>
  intro l σ hc hD
  rw [show c + 1 + 1 + f' = (c + 1 + f') + 1 from by omega]
  exact game_store_step F F1 hoe heS hbe hE hend (c + 1) l σ hc hD (fun c' h l' σ' h1 h2=>(show c = c' from by omega) ▸ ih l' σ' (by omega) h2)
theorem AWG.funS {σ : St} {Q : AX → St → Prop} (S : List Nat) (e : Nat) (pl : List (Nat × Nat)) {oe : Oper} {hp1 : List (Nat × ABlk)} (hsel : Region.noSelect ops = true) (hst : funSteps ops [] S = true) (hok : storeOk ops e S = true)
  (hlks : (oe.looksAt ops).all (fun t=>S.all fun i=>dstAt ops i != some t || (bindsAt ops e).contains i) = true)
  (hp : (planOk ops pl (listAll (Array.replicate ops.size false) (e :: S)) && pl.length + S.length + 1 == ops.size) = true) (hQ : PI Q)
  (hoe : ops[e]? = some oe) (hd : oe.dst = none)
  (h : awFunE P ops (fun σ'=>EffAt P ops e oe ⟨σ'.n,σ'.env,σ.hp,σ.nx,σ'.gl,σ'.np,σ'.df⟩ hp1 ∧ awPlan P ops (fun σ'=>Q .normal σ') (fun x σ'=>Q (.panic x) σ') pl σ') S σ (storeAt σ hp1)) : AWG P ops σ Q:=by
 simp only [Bool.and_eq_true,beq_iff_eq] at hp
 unfold AWG
 have hnil : ∀ σ : St,Pre P ops [] (fun _=>.top) σ σ:=fun σ=>⟨List.nodup_nil,by simp,by simp,by intro A i B e; simp at e,Base.refl σ,fun t=>.inr ⟨by simp,rfl⟩,by simp⟩
 obtain ⟨X,σ0',σS,hP0,hP,hEf,hK⟩:=awFunE_pre (σ0:=σ) (σ1:=storeAt σ hp1) S [] (fun _=>.top) σ (storeAt σ hp1) hst (by intro i hi; cases hi) (hnil _) (hnil _) h
 rw [List.nil_append] at hP hP0
 simp only [storeOk,Bool.and_eq_true,List.all_eq_true,List.mem_range,Bool.or_eq_true,List.contains_iff_mem,Bool.not_eq_true',beq_iff_eq] at hok
 obtain ⟨⟨heS0,hbe⟩,htl⟩:=hok
 have heS : e ∉ S:=by
  intro hm
  have : S.contains e = true:=by simpa using hm
  rw [this] at heS0
  cases heS0
 have htail : ∀ j,j < ops.size → j ∉ S → j ≠ e → (∀ i ∈ S,i ∈ reach ops 9 j) ∧ e ∈ reach ops 9 j:=by
  intro j hj hm hje
  rcases htl j hj with (h' | h') | h'
  ·exact absurd h' hm
  ·exact absurd h' hje
  ·exact h'
 have F0 : FactsE P ops S e X σ:=⟨hP0.nodup,hP0.dist,hP0.isop,hP0.early,htail,hP0.step⟩
 have F : FactsE P ops S e X (storeAt σ hp1):=⟨hP.nodup,hP.dist,hP.isop,hP.early,htail,hP.step⟩
 have hE : ∀ σ',Base σ σ' → (∀ k ∈ bindsAt ops e,∀ t,dstAt ops k = some t → get σ'.env t = some (X k)) → (∀ t,(∀ i ∈ S,dstAt ops i ≠ some t) → get σ'.env t = get σ.env t) → ∀ K',K' (storeAt σ' hp1) → GStep P ops e σ' K' (fun x σ'=>Q (.panic x) σ'):=by
  intro σ' hb hv1 hv2 K' hK'
  refine hEf.step hoe hd ⟨hb.n.trans hP.base.n.symm,hb.hp,hb.nx,hb.gl.trans hP.base.gl.symm,hb.np.trans hP.base.np.symm,hb.df.trans hP.base.df.symm⟩ ?_ hK'
  intro t ht x hx
  have hx' : get σS.env t = some x:=hx
  have hl:=List.all_eq_true.1 hlks t ht
  simp only [List.all_eq_true,Bool.or_eq_true,bne_iff_ne,ne_eq,List.contains_iff_mem] at hl
  rcases hP.env t with ⟨k,hk,hkd,hkv⟩ | ⟨hn,hv0⟩
  ·have hkb : k ∈ bindsAt ops e:=by
    rcases hl k hk with h | h
    ·exact absurd hkd h
    ·exact h
   rw [hv1 k hkb t hkd,← hkv]
   exact hx'
  ·rw [hv2 t hn]
   have : get σS.env t = get σ.env t:=hv0
   rw [← this]
   exact hx'
 have hSlt : ∀ i ∈ S,i < (Array.replicate ops.size false).size:=by
  intro i hi
  obtain ⟨o,d,ho,_⟩:=hP.isop i hi
  simpa using (Array.getElem?_eq_some_iff.1 ho).1
 have hcnt : unl (Array.replicate ops.size false) S = S.length:=by
  unfold unl
  congr 1
  rw [List.filter_eq_self]
  intro i hi
  have:=hSlt i hi
  simp at this
  simp [this]
 have hgame:=game_store (K:=fun σ=>∃ σ2,Eqv σ σ2 ∧ Q .normal σ2) (Kp:=fun x σ'=>Q (.panic x) σ') (f':=pl.length) F0 F hoe heS (fun k hk=>by have:=hbe k hk; simpa using this) hE (by
  intro l σl hD hz
  have hall:=unl_zero hz
  have hSlt' : ∀ i ∈ e :: S,i < (Array.replicate ops.size false).size:=by
   intro i hi
   rcases List.mem_cons.1 hi with rfl | hi
   ·simpa using (Array.getElem?_eq_some_iff.1 hoe).1
   ·exact hSlt i hi
  have hleq : listAll (Array.replicate ops.size false) (e :: S) = l:=by
   apply Array.ext
   ·rw [listAll_size,hD.size]; simp
   ·intro j hj1 hj2
    have h1:=listAll_get (e :: S) _ hSlt' j
    have h2 : (Array.replicate ops.size false).getD j false = false:=by simp [Array.getD]
    rw [h2,Bool.false_or] at h1
    have e1 : (listAll (Array.replicate ops.size false) (e :: S)).getD j false = (listAll (Array.replicate ops.size false) (e :: S))[j]:=by simp [Array.getD,hj1]
    have e2 : l.getD j false = l[j]:=by simp [Array.getD,hj2]
    rw [← e1,← e2,h1]
    by_cases hm : j ∈ S
    ·rw [hall j hm]; simp [hm]
    ·by_cases hje : j = e
     ·rw [hje,hD.isE]; simp
     ·have : (e :: S).contains j = false:=by simp [hm,hje]
      rw [this]
      cases hv : l.getD j false with
      | false=>rfl
      | true =>
       rcases hD.sub j hv with h' | h'
       ·exact absurd h' hm
       ·exact absurd h'.1 hje
  have hs:=awPlan_sound hsel hQ pl _ σS hp.1 hK
  rw [hleq] at hs
  refine GAny.eqv (fun σ σ' he ⟨σ2,h1,h2⟩=>⟨σ2,he.symm.trans h1,h2⟩) ?_ hs
  have hb : Base σS σl:=⟨hD.base.n.trans hP.base.n.symm,hD.base.hp.trans hP.base.hp.symm,hD.base.nx.trans hP.base.nx.symm,hD.base.gl.trans hP.base.gl.symm,hD.base.np.trans hP.base.np.symm,hD.base.df.trans hP.base.df.symm⟩
  refine ⟨hb.n,hb.gl,hb.np,hb.hp,hb.nx,hb.df,fun t=>?_⟩
  rcases hD.env t with ⟨i,hi,_,hid,hiv⟩ | ⟨hn,hv⟩
  ·rcases hP.env t with ⟨k,hk',hkd,hkv⟩ | ⟨hn,_⟩
   ·rw [hiv,hkv,hP.dist i hi k hk' (by rw [hid,hkd])]
   ·exact absurd hid (hn i hi)
  ·rcases hP.env t with ⟨k,hk',hkd,_⟩ | ⟨_,hv'⟩
   ·exact absurd hkd (hn k hk' (hall k hk'))
   ·rw [hv,hv']) S.length _ σ hcnt ⟨by simp,by
    intro i hi; simp [Array.getD] at hi,by simp [Array.getD],by
    intro i hi; simp [Array.getD] at hi,Base.refl σ,fun t=>.inr ⟨by
    intro i _ hi; simp [Array.getD] at hi,rfl⟩⟩
 rw [show ops.size = S.length + 1 + pl.length from by omega]
 rw [show ops.size = S.length + 1 + pl.length from by omega] at hgame
 exact hgame
end
end Aw
