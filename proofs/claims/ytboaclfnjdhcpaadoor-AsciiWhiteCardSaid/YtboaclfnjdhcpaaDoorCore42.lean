/- Rules of a calculus of walks: no condition of its own. -/
import Derived.Test.YtboaclfnjdhcpaaDoorCore41
namespace Aw
open Go
theorem SimH.view {m : Mem} {hp hp' : List (Nat × ABlk)} {nx : Nat} (h : SimH m hp nx) (l : List Nat) (hnd : l.Nodup) (hhp : viewHp (pick l nx) l.length hp hp') : SimH (m.ren (pick l nx)) hp' l.length:=by
 refine ⟨?_,?_,?_,h.Fold,h.Pold⟩
 ·intro id x hx
  obtain ⟨_,h2⟩:=viewHp_get hhp hx
  obtain ⟨ri,h3,h4⟩:=h.blk _ _ h2
  exact ⟨ri,h3,h4.ren⟩
 ·intro id id' x x' ri ri' hx hx' hr hr' hne hn1 hn2
  obtain ⟨l1,g1⟩:=viewHp_get hhp hx
  obtain ⟨l2,g2⟩:=viewHp_get hhp hx'
  refine h.apart _ _ _ _ ri ri' g1 g2 hr hr' ?_ hn1 hn2
  intro e
  unfold pick at e
  obtain ⟨y1,e1⟩:=nth_lt l1
  obtain ⟨y2,e2⟩:=nth_lt l2
  rw [e1,e2] at e
  simp only at e
  rw [nth_eq] at e1 e2
  have:=(List.getElem?_inj l1 hnd).1 (e1.trans (by rw [e2,e]))
  exact hne this
 ·intro id hid
  show m.ρ (pick l nx id) = Option.none
  unfold pick
  rw [nth_none hid]
  exact h.fresh _ (by simp only; omega)
theorem FnK.cut {P : Program} {gl : List (Nat × AV)} {f : FuncId} {xs : List AV} {hp hp1 hp2 : List (Nat × ABlk)} {nx np n1 : Nat} {c : Prop} {y z : AV} (h : FnK P gl f xs hp nx np fun r h n=>(c ∧ r = .ret y ∧ h = hp1 ∧ n = n1) ∨ (¬ c ∧ r = .panic z ∧ np ≤ n)) (l : List Nat)
  (hpre : ∀ i,i < np → nth l i = some i) (hnd : l.Nodup) (hhp : viewHp (pick l n1) l.length hp1 hp2) (hy : Aw.ren (pick l n1) y = y) :
  FnK P gl f xs hp nx np fun r h n=>(c ∧ r = .ret y ∧ h = hp2 ∧ n = l.length) ∨ (¬ c ∧ r = .panic z ∧ np ≤ n):=by
 refine ⟨h.enters,fun m vs hm hv=>(h.calls m vs hm hv).mono ?_⟩
 rintro e w' ⟨m',r,hp',nx',rfl,hle,hH,hen,⟨hc,rfl,rfl,rfl⟩ | ⟨hc,rfl,hn⟩⟩
 ·refine ⟨m'.ren (pick l nx'),.ret y,hp2,l.length,rfl,hle.trans ⟨rfl,rfl,rfl,Nat.le_refl _,rfl,fun _ _=>rfl,fun _ _ h=>h,fun _ _ _=>rfl,fun _ _ _ h=>h,rfl,?_⟩,hH.view l hnd hhp,?_,.inl ⟨hc,rfl,rfl,rfl⟩⟩
  ·intro id ri hi hr
   show m'.ρ (pick l nx' id) = some ri
   rw [hle.np,hm.np] at hi
   unfold pick
   rw [hpre id hi]
   exact hr
  ·obtain ⟨v,h1,h2⟩:=hen
   exact ⟨v,h1,Rep.ren y v (by rw [hy]; exact h2)⟩
 ·exact ⟨m',.panic z,hp',nx',rfl,hle,hH,hen,.inr ⟨hc,rfl,hn⟩⟩
theorem AWT.fz {B : Bs} {r : Option Nat} {Θ : Mem → Prop} [Lasts Θ] {P : Program} {σ : St} {c : Code} {Q : AX → St → Prop} (l : List Nat) {hp' : List (Nat × ABlk)} (k : AWT B r Θ P c ⟨σ.n,σ.env,hp',σ.nx,σ.gl,σ.np,σ.df⟩ Q) (hh : frzs σ.hp l = hp':=by (simp only [go_sem,seval]; iterate 2 try (simp (disch:=omega) only [zq]; try simp only [go_sem,seval])); exact rfl) : AWT B r Θ P c σ Q:=by
 subst hh
 refine AWT.pre (σ':=⟨σ.n,σ.env,frzs σ.hp l,σ.nx,σ.gl,σ.np,σ.df⟩) (fun m a hS=>?_) k
 obtain ⟨m',h1,h2,h3,h4,h5⟩:=frzs_sound l hS.h
 refine ⟨m',h1,h3,h5,hS.n,hS.defers.mono h4,?_,fun g z hg=>Rep.mono h4 1 _ _ (hS.gl g z hg),by have:=h3.np; rw [this]; exact hS.np⟩
 intro u z hz
 obtain ⟨g1,g2⟩:=hS.env u z hz
 exact ⟨g1,Rep.mono h4 0 _ _ g2⟩
def hasE (E0 : List (Nat × AV)) (σ : St) : Prop:=∀ t y,get E0 t = some y → get σ.env t = some y
def PE (Q : AX → St → Prop) : Prop:=∀ E0 x σ,hasE E0 σ → Q (.panic x) ⟨σ.n,E0,σ.hp,σ.nx,σ.gl,σ.np,σ.df⟩ → Q (.panic x) σ
theorem PE.unblock {id : Nat} {Q : AX → St → Prop} (h : PE Q) : PE (Aw.unblock id Q):=h
theorem PE.andThen {N : St → Prop} {Q : AX → St → Prop} (h : PE Q) : PE (Aw.andThen N Q):=h
def offE (E0 : List (Nat × AV)) (ops : Array Oper) : Bool:=ops.toList.all fun o=>match o.dst with | some t=>(get E0 t).isNone | none=>true
theorem offE_spec {E0 : List (Nat × AV)} {ops : Array Oper} (h : offE E0 ops = true) {i : Nat} {o : Oper} (ho : ops[i]? = some o) {t : Nat} {y : AV} (ht : get E0 t = some y) : o.dst ≠ some t:=by
 intro e
 have hm : o ∈ ops.toList:=by rw [← Array.getElem?_toList] at ho; exact List.mem_of_getElem? ho
 have:=List.all_eq_true.1 h o hm
 rw [e] at this
 simp only [ht] at this
 cases this
theorem GAny.frame {P : Program} {ops : Array Oper} {K : St → Prop} {Kp Kp' : AV → St → Prop} {E0 : List (Nat × AV)} (hd : offE E0 ops = true) (hKp : ∀ x σ,hasE E0 σ → Kp x σ → Kp' x σ) :
  ∀ (f : Nat) (l : Array Bool) (σ : St),hasE E0 σ → GAny P ops K Kp f l σ → GAny P ops K Kp' f l σ
 | 0,_,_,_,h=>h
 | f + 1,l,σ,hE,h=>⟨h.1,fun i hi=>by
  have hs:=h.2 i hi
  unfold GStep at hs ⊢
  split
  ·rename_i hn
   rw [hn] at hs
   exact GAny.frame hd hKp f _ σ hE hs
  ·rename_i o ho
   rw [ho] at hs
   intro m a N Q hS hN hQ
   exact hs m a N Q hS
    (fun m' a' σ' h1 h2 h3 h4 h5 h6=>hN m' a' σ' h1 h2 h3 h4 h5 (GAny.frame hd hKp f _ σ' (fun t y ht=>by rw [h4.env t (offE_spec hd ho ht)]; exact hE t y ht) h6))
    (fun m' σ' x v h1 h2 h3 h4 h5 h6=>hQ m' σ' x v h1 h2 h3 h4 h5 (hKp x σ' (fun t y ht=>by rw [h5 t]; exact hE t y ht) h6))⟩
section
variable {B : Bs} {r : Option Nat} {Θ : Mem → Prop} {P : Program} {σ : St} {Q : AX → St → Prop} {y : Code} {id : Nat} {ops : Array Oper}
end
section
variable {B : Bs} {r : Option Nat} {Θ : Mem → Prop} {P : Program} {σ : St} {Q : AX → St → Prop} {y : Code} {id : Nat} {ops : Array Oper}
end
end Aw
