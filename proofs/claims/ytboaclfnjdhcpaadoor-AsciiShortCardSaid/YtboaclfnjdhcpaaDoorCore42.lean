/- Rules of a calculus of walks: no condition of its own. -/
import Derived.Test.YtboaclfnjdhcpaaDoorCore41
namespace Aw
open Go
theorem SimH.view {m : Mem} {hp hp' : List (Nat × ABlk)} {nx : Nat} (h : SimH m hp nx) (l : List Nat) (hnd : l.Nodup) (hhp : viewHp (pick l nx) l.length hp hp') : SimH (m.ren (pick l nx)) hp' l.length:=by
 refine ⟨?_,?_,?_,h.Fold,h.Pold⟩
 ·intro id x hx
  obtain ⟨_,h2⟩:=viewHp_get hhp hx
  obtain ⟨ri,h3,h4⟩:=h.blk _ _ h2
  exact ⟨ri,h3,h4.ren⟩
 ·intro id id' x x' ri ri' hx hx' hr hr' hne hn1 hn2
  obtain ⟨l1,g1⟩:=viewHp_get hhp hx
  obtain ⟨l2,g2⟩:=viewHp_get hhp hx'
  refine h.apart _ _ _ _ ri ri' g1 g2 hr hr' ?_ hn1 hn2
  intro e
  unfold pick at e
  obtain ⟨y1,e1⟩:=nth_lt l1
  obtain ⟨y2,e2⟩:=nth_lt l2
  rw [e1,e2] at e
  simp only at e
  rw [nth_eq] at e1 e2
  have:=(List.getElem?_inj l1 hnd).1 (e1.trans (by rw [e2,e]))
  exact hne this
 ·intro id hid
  show m.ρ (pick l nx id) = Option.none
  unfold pick
  rw [nth_none hid]
  exact h.fresh _ (by simp only; omega)
theorem FnK.cut {P : Program} {gl : List (Nat × AV)} {f : FuncId} {xs : List AV} {hp hp1 hp2 : List (Nat × ABlk)} {nx np n1 : Nat} {c : Prop} {y z : AV} (h : FnK P gl f xs hp nx np fun r h n=>(c ∧ r = .ret y ∧ h = hp1 ∧ n = n1) ∨ (¬ c ∧ r = .panic z ∧ np ≤ n)) (l : List Nat)
  (hpre : ∀ i,i < np → nth l i = some i) (hnd : l.Nodup) (hhp : viewHp (pick l n1) l.length hp1 hp2) (hy : Aw.ren (pick l n1) y = y) :
  FnK P gl f xs hp nx np fun r h n=>(c ∧ r = .ret y ∧ h = hp2 ∧ n = l.length) ∨ (¬ c ∧ r = .panic z ∧ np ≤ n):=by
 refine ⟨h.enters,fun m vs hm hv=>(h.calls m vs hm hv).mono ?_⟩
 rintro e w' ⟨m',r,hp',nx',rfl,hle,hH,hen,⟨hc,rfl,rfl,rfl⟩ | ⟨hc,rfl,hn⟩⟩
 ·refine ⟨m'.ren (pick l nx'),.ret y,hp2,l.length,rfl,hle.trans ⟨rfl,rfl,rfl,Nat.le_refl _,rfl,fun _ _=>rfl,fun _ _ h=>h,fun _ _ _=>rfl,fun _ _ _ h=>h,rfl,?_⟩,hH.view l hnd hhp,?_,.inl ⟨hc,rfl,rfl,rfl⟩⟩
  ·intro id ri hi hr
   show m'.ρ (pick l nx' id) = some ri
   rw [hle.np,hm.np] at hi
   unfold pick
   rw [hpre id hi]
   exact hr
  ·obtain ⟨v,h1,h2⟩:=hen
   exact ⟨v,h1,Rep.ren y v (by rw [hy]; exact h2)⟩
 ·exact ⟨m',.panic z,hp',nx',rfl,hle,hH,hen,.inr ⟨hc,rfl,hn⟩⟩
theorem AWT.fz {B : Bs} {r : Option Nat} {Θ : Mem → Prop} [Lasts Θ] {P : Program} {σ : St} {c : Code} {Q : AX → St → Prop} (l : List Nat) {hp' : List (Nat × ABlk)} (k : AWT B r Θ P c ⟨σ.n,σ.env,hp',σ.nx,σ.gl,σ.np,σ.df⟩ Q) (hh : frzs σ.hp l = hp':=by (simp only [go_sem,seval]; iterate 2 try (simp (disch:=omega) only [zq]; try simp only [go_sem,seval])); exact rfl) : AWT B r Θ P c σ Q:=by
 subst hh
 refine AWT.pre (σ':=⟨σ.n,σ.env,frzs σ.hp l,σ.nx,σ.gl,σ.np,σ.df⟩) (fun m a hS=>?_) k
 obtain ⟨m',h1,h2,h3,h4,h5⟩:=frzs_sound l hS.h
 refine ⟨m',h1,h3,h5,hS.n,hS.defers.mono h4,?_,fun g z hg=>Rep.mono h4 1 _ _ (hS.gl g z hg),by have:=h3.np; rw [this]; exact hS.np⟩
 intro u z hz
 obtain ⟨g1,g2⟩:=hS.env u z hz
 exact ⟨g1,Rep.mono h4 0 _ _ g2⟩
theorem awTree.fKM {P : Program} {ops : Array Oper} {K : St → Prop} {Kp : AV → St → Prop} {o : Oper} {i : Nat} {t r : PT} {ob ob' : Prop} {σ : St} {f : FuncId} {xs ys zs : List AV} {hp0 hp1 : List (Nat × ABlk)} {n1 : Nat} {y z : AV} {c : Prop} (np : Nat) (L : List Nat)
  (hc : FnK P σ.gl f xs hp0 L.length np fun r h n=>(c ∧ r = .ret y ∧ h = hp1 ∧ n = n1) ∨ (¬ c ∧ r = .panic z ∧ np ≤ n)) (hKp : ¬ c → ∀ n,np ≤ n → Kp z (backU σ L np [] n)) (hk : c → awTree P ops K Kp t (St.put (backU σ L np hp1 n1) o.dst (ren (bk (L.take np) σ.nx) y))) (hr : awTree P ops K Kp r σ)
  (ho : nth ops.toList i = some o:=by exact rfl) (hg : o.guard = none:=by exact rfl)
  (h : acall σ o.op = some (ob,f,ys):=by (simp only [go_sem,seval]; iterate 2 try (simp (disch:=omega) only [zq]; try simp only [go_sem,seval])); exact rfl) (hz : mapO (fz σ.hp 9) ys = some (ob',zs):=by (simp only [go_sem,seval]; iterate 2 try (simp (disch:=omega) only [zq]; try simp only [go_sem,seval])); exact rfl) (hd : dstOk σ.n o.dst = true:=by (simp only [go_sem,seval]; iterate 2 try (simp (disch:=omega) only [zq]; try simp only [go_sem,seval]))) (hL : L.all (fun id=>(get σ.hp id).isSome) = true:=by (simp only [go_sem,seval]; iterate 2 try (simp (disch:=omega) only [zq]; try simp only [go_sem,seval]))) (hnd : L.Nodup:=by decide) (hl : np ≤ L.length:=by decide)
  (hhp : viewHp (Aw.pick L σ.nx) L.length σ.hp hp0:=by (try (simp only [go_sem,seval]; iterate 2 try (simp (disch:=omega) only [zq]; try simp only [go_sem,seval]))) <;> (try (first | rfl | trivial | (and_intros <;> first | rfl | trivial)))) (hxs : renL (Aw.pick L σ.nx) xs = zs:=by (try (simp only [go_sem,seval]; iterate 2 try (simp (disch:=omega) only [zq]; try simp only [go_sem,seval]))) <;> (try rfl)) (hob : ob:=by ((try (simp only [go_sem,seval]; iterate 2 try (simp (disch:=omega) only [zq]; try simp only [go_sem,seval]))); try (first | exact True.intro | omega | (simp only [zb]; omega) | (simp; done) | (simp; omega) | (and_intros <;> first | assumption | omega | (simp; done) | (simp; omega))))) (hob' : ob':=by ((try (simp only [go_sem,seval]; iterate 2 try (simp (disch:=omega) only [zq]; try simp only [go_sem,seval]))); try (first | exact True.intro | omega | (simp only [zb]; omega) | (simp; done) | (simp; omega) | (and_intros <;> first | assumption | omega | (simp; done) | (simp; omega)))))
  (hb : (backOku np hp1 n1 && noT y) = true:=by (simp only [go_sem,seval]; iterate 2 try (simp (disch:=omega) only [zq]; try simp only [go_sem,seval]))) : awTree P ops K Kp (.fork i t r) σ :=
 ⟨⟨o,nth_ops ho,awGuard.cKM np L hc hKp hk hg h hz hd hL hnd hl hhp hxs hob hob' hb⟩,hr⟩
def withE (E0 : List (Nat × AV)) (Q : AX → St → Prop) (x : AX) (σ : St) : Prop :=
 match x with
 | .panic x=>Q (.panic x) ⟨σ.n,E0,σ.hp,σ.nx,σ.gl,σ.np,σ.df⟩
 | x=>Q x σ
theorem withE_pan (E0 : List (Nat × AV)) (Q : AX → St → Prop) (x : AV) (σ : St) : withE E0 Q (.panic x) σ = Q (.panic x) ⟨σ.n,E0,σ.hp,σ.nx,σ.gl,σ.np,σ.df⟩:=rfl
theorem PI.withE {E0 : List (Nat × AV)} {Q : AX → St → Prop} : PI (Aw.withE E0 Q):=by
 intro y σ1 σ2 h1 h2 h3 h4 h5 h6 h
 show Q (.panic y) ⟨σ2.n,E0,σ2.hp,σ2.nx,σ2.gl,σ2.np,σ2.df⟩
 rw [h1,h2,h3,h4,h5,h6]
 exact h
def hasE (E0 : List (Nat × AV)) (σ : St) : Prop:=∀ t y,get E0 t = some y → get σ.env t = some y
def PE (Q : AX → St → Prop) : Prop:=∀ E0 x σ,hasE E0 σ → Q (.panic x) ⟨σ.n,E0,σ.hp,σ.nx,σ.gl,σ.np,σ.df⟩ → Q (.panic x) σ
theorem PE.unblock {id : Nat} {Q : AX → St → Prop} (h : PE Q) : PE (Aw.unblock id Q):=h
theorem PE.andThen {N : St → Prop} {Q : AX → St → Prop} (h : PE Q) : PE (Aw.andThen N Q):=h
theorem PE.finD {P : Program} {fn : Func} {R : AE → Prop} : PE (Aw.finD P fn R):=by
 rintro E0 x σ hE ⟨ob,y,h1,h2,h3⟩
 refine ⟨ob,y,h1,h2,?_⟩
 intro m0 m a mode hle hS hd
 exact h3 m0 m a mode hle (hS.fewer ⟨rfl,rfl,rfl,rfl,rfl,rfl⟩ hE) hd
def offE (E0 : List (Nat × AV)) (ops : Array Oper) : Bool:=ops.toList.all fun o=>match o.dst with | some t=>(get E0 t).isNone | none=>true
theorem offE_spec {E0 : List (Nat × AV)} {ops : Array Oper} (h : offE E0 ops = true) {i : Nat} {o : Oper} (ho : ops[i]? = some o) {t : Nat} {y : AV} (ht : get E0 t = some y) : o.dst ≠ some t:=by
 intro e
 have hm : o ∈ ops.toList:=by rw [← Array.getElem?_toList] at ho; exact List.mem_of_getElem? ho
 have:=List.all_eq_true.1 h o hm
 rw [e] at this
 simp only [ht] at this
 cases this
theorem GAny.frame {P : Program} {ops : Array Oper} {K : St → Prop} {Kp Kp' : AV → St → Prop} {E0 : List (Nat × AV)} (hd : offE E0 ops = true) (hKp : ∀ x σ,hasE E0 σ → Kp x σ → Kp' x σ) :
  ∀ (f : Nat) (l : Array Bool) (σ : St),hasE E0 σ → GAny P ops K Kp f l σ → GAny P ops K Kp' f l σ
 | 0,_,_,_,h=>h
 | f + 1,l,σ,hE,h=>⟨h.1,fun i hi=>by
  have hs:=h.2 i hi
  unfold GStep at hs ⊢
  split
  ·rename_i hn
   rw [hn] at hs
   exact GAny.frame hd hKp f _ σ hE hs
  ·rename_i o ho
   rw [ho] at hs
   intro m a N Q hS hN hQ
   exact hs m a N Q hS
    (fun m' a' σ' h1 h2 h3 h4 h5 h6=>hN m' a' σ' h1 h2 h3 h4 h5 (GAny.frame hd hKp f _ σ' (fun t y ht=>by rw [h4.env t (offE_spec hd ho ht)]; exact hE t y ht) h6))
    (fun m' σ' x v h1 h2 h3 h4 h5 h6=>hQ m' σ' x v h1 h2 h3 h4 h5 (hKp x σ' (fun t y ht=>by rw [h5 t]; exact hE t y ht) h6))⟩
section
variable {B : Bs} {r : Option Nat} {Θ : Mem → Prop} {P : Program} {σ : St} {Q : AX → St → Prop} {y : Code} {id : Nat} {ops : Array Oper}
theorem AWG.ofE (E0 : List (Nat × AV)) (hQ : PE Q) (hd : offE E0 ops = true) (hE : hasE E0 σ) (h : AWG P ops σ (withE E0 Q)) : AWG P ops σ Q :=
 GAny.frame hd (fun x σ hE h=>hQ E0 x σ hE h) _ _ _ hE h
theorem AWT.tGCE [Lasts Θ] {C : Prop} {σf : St} (E0 : List (Nat × AV)) (T : PT) (h : awTree P ops (fun σ=>C ∧ σ.norm = σf) (fun x σ'=>withE E0 Q (.panic x) σ') T σ) (hk : C → AWT B r Θ P y σf Q) (hE : renE (fun i=>i) E0 σ.env:=by (simp only [go_sem,seval]; iterate 2 try (simp (disch:=omega) only [zq]; try simp only [go_sem,seval]))) (hm : P.follows .mixedOrders = true:=by kernel_rfl) (hsel : Region.noSelect ops = true:=by kernel_rfl)
  (hp : treeOk ops false ops.size T (Array.replicate ops.size false) = true:=by kernel_rfl) (hQ : PE Q:=by repeat (first | exact Aw.PE.finD | refine Aw.PE.unblock ?_ | refine Aw.PE.andThen ?_)) (hnd : noDefers ops.toList = true:=by rfl) (hd : offE E0 ops = true:=by rfl) : AWT B r Θ P (.seq (.region id ops true) y) σ Q :=
 AWT.seq (AWT.ofG hm hnd (AWG.ofE (Q:=andThen (fun σ=>AWT B r Θ P y σ Q) Q) E0 (PE.andThen hQ) hd (fun t y ht=>by have:=renE_get hE ht; rwa [ren_id] at this) (AWG.drawTreeC C T hsel hp PI.withE h hk)))
end
section
variable {B : Bs} {r : Option Nat} {Θ : Mem → Prop} {P : Program} {σ : St} {Q : AX → St → Prop} {y : Code} {id : Nat} {ops : Array Oper}
theorem AWG.drawTreeK (T : PT) (hsel : Region.noSelect ops = true) (hp : treeOk ops false ops.size T (Array.replicate ops.size false) = true) (hQ : PI Q)
  (h : awTree P ops (fun σ=>Q .normal σ) (fun x σ'=>Q (.panic x) σ') T σ) : AWG P ops σ Q:=by
 have hT:=(awTree_sound (P:=P) hsel hQ T false ops.size _ σ hp h).1 rfl
 exact GAny.mono (fun σ' ⟨σ2,he,hc⟩=>⟨σ2,he,hc⟩) hT
theorem AWT.tVE [Lasts Θ] {C : Prop} {σ1 : St} (E0 : List (Nat × AV)) (T : PT) (h : awTree P ops (fun σ=>C ∧ St.le σ1 σ) (fun x σ'=>withE E0 Q (.panic x) σ') T σ) (hk : C → AWT B r Θ P y σ1 Q) (hE : renE (fun i=>i) E0 σ.env:=by (simp only [go_sem,seval]; iterate 2 try (simp (disch:=omega) only [zq]; try simp only [go_sem,seval]))) (hm : P.follows .mixedOrders = true:=by kernel_rfl) (hsel : Region.noSelect ops = true:=by kernel_rfl)
  (hp : treeOk ops false ops.size T (Array.replicate ops.size false) = true:=by kernel_rfl) (hQ : PE Q:=by repeat (first | exact Aw.PE.finD | refine Aw.PE.unblock ?_ | refine Aw.PE.andThen ?_)) (hnd : noDefers ops.toList = true:=by rfl) (hd : offE E0 ops = true:=by rfl) : AWT B r Θ P (.seq (.region id ops true) y) σ Q :=
 AWT.twice (AWT.ofG hm hnd (AWG.ofE (Q:=andThen (fun σ'=>C ∧ St.le σ1 σ') Q) E0 (PE.andThen hQ) hd (fun t y ht=>by have:=renE_get hE ht; rwa [ren_id] at this) (AWG.drawTreeK T hsel hp PI.withE h))) hk
theorem awTree.dnV {C : Prop} {σ1 : St} {Kp : AV → St → Prop} (hC : C) (h : St.le σ1 σ) : awTree P ops (fun σ=>C ∧ St.le σ1 σ) Kp .done σ:=⟨hC,h⟩
end
def noPan (Q : AX → St → Prop) (x : AX) (σ : St) : Prop :=
 match x with
 | .panic _=>False
 | x=>Q x σ
theorem noPan_ret (Q : AX → St → Prop) (σ : St) : noPan Q .ret σ = Q .ret σ:=rfl
theorem noPan_nrm (Q : AX → St → Prop) (σ : St) : noPan Q .normal σ = Q .normal σ:=rfl
theorem PI.noPan {Q : AX → St → Prop} : PI (Aw.noPan Q):=fun _ _ _ _ _ _ _ _ _ h=>h
theorem AWT.noPan {B : Bs} {r : Option Nat} {Θ : Mem → Prop} {P : Program} {σ : St} {c : Code} {Q : AX → St → Prop} (h : AWT B r Θ P c σ (Aw.noPan Q)) : AWT B r Θ P c σ Q :=
 AWT.mono h fun x σ hq=>by
  cases x with
  | panic x=>exact hq.elim
  | normal=>exact hq
  | ret=>exact hq
  | exit _=>exact hq
theorem panD {P : Program} {fn : Func} {R : AE → Prop} {σ : St} {ob : Prop} {x y : AV} {hp' : List (Nat × ABlk)} {n : Nat} {df : List (FuncId × List AV)} (hl : LeaveS P fn (.pan y) ⟨n,σ.env,hp',σ.nx,σ.gl,σ.np,df⟩ R) (h : closeR σ x = some (ob,y):=by (simp only [go_sem,seval]; iterate 2 try (simp (disch:=omega) only [zq]; try simp only [go_sem,seval])); exact rfl) (hob : ob:=by ((try (simp only [go_sem,seval]; iterate 2 try (simp (disch:=omega) only [zq]; try simp only [go_sem,seval]))); try (first | exact True.intro | omega | (simp only [zb]; omega) | (simp; done) | (simp; omega) | (and_intros <;> first | assumption | omega | (simp; done) | (simp; omega)))))
  (hh : frzs σ.hp (rids σ.hp 9 x) = hp':=by (simp only [go_sem,seval]; iterate 2 try (simp (disch:=omega) only [zq]; try simp only [go_sem,seval])); exact rfl) (hn : σ.n = n:=by exact rfl) (hdf : σ.df = df:=by exact rfl) : finD P fn R (.panic x) σ:=by
 subst hh hn hdf
 exact ⟨ob,y,h,hob,hl⟩
end Aw
