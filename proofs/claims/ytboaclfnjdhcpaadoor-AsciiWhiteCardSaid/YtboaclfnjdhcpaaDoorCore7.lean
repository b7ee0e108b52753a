/- Rules of a calculus of walks: no condition of its own. -/
import Derived.Test.YtboaclfnjdhcpaaDoorCore6
namespace Aw
open Go

mutual
def ren (π : Nat → Nat) : AV → AV
 | .bool b=>.bool b
 | .int k n=>.int k n
 | .str s=>.str s
 | .agg cs=>.agg (renL π cs)
 | .tup cs=>.tup (renL π cs)
 | .sl es=>.sl es
 | .row id off len=>.row (π id) off len
 | .ptr id off=>.ptr (π id) off
 | .rptr id idx c=>.rptr (π id) idx c
 | .cptr cs=>.cptr cs
 | .tptr cs=>.tptr cs
 | .clos f cs=>.clos f (renL π cs)
 | .iface t x=>.iface t (ren π x)
 | .ite c x y=>.ite c (ren π x) (ren π y)
 | .opt c x=>.opt c (ren π x)
 | .map id=>.map (π id)
 | .cmap ks vs=>.cmap ks vs
 | .raw v=>.raw v
 | .top=>.top
def renL (π : Nat → Nat) : List AV → List AV
 | []=>[]
 | x :: xs=>ren π x :: renL π xs
end
theorem renL_len (π : Nat → Nat) : ∀ xs : List AV,(renL π xs).length = xs.length
 | []=>rfl
 | _ :: xs=>congrArg (· + 1) (renL_len π xs)
def renB (π : Nat → Nat) : ABlk → ABlk
 | .cells cs=>.cells (renL π cs)
 | .tc T cs=>.tc T (renL π cs)
 | .row sz es own=>.row sz es own
 | .amap ks vs=>.amap ks vs
 | .lp l rc=>.lp l rc
 | .it left cur=>.it left cur
 | .full sz es=>.full sz es
 | .brow e l=>.brow e l
 | .mrow sz es=>.mrow sz es

def Mem.ren (m : Mem) (π : Nat → Nat) : Mem:={ m with ρ:=fun i=>m.ρ (π i) }
theorem KF.ren (m : Mem) (π : Nat → Nat) : KF m (m.ren π):=⟨fun _ _ h=>h,fun _ _ _=>rfl⟩
theorem KP.ren (m : Mem) (π : Nat → Nat) : KP m (m.ren π):=⟨fun _ h=>h,fun _ _=>rfl⟩

mutual
theorem Rep.ren {m : Mem} {π : Nat → Nat} : ∀ (x : AV) (v : Value),Rep m 0 (Aw.ren π x) v → Rep (m.ren π) 0 x v
 | .bool _,_,hx=>by simpa only [Aw.ren,Rep] using hx
 | .int _ _,_,hx=>by simpa only [Aw.ren,Rep] using hx
 | .str _,_,hx=>by simpa only [Aw.ren,Rep] using hx
 | .agg cs,v,hx=>by
  simp only [Aw.ren,Rep] at hx ⊢
  obtain ⟨vs,rfl,hl⟩:=hx
  exact ⟨vs,rfl,RepL.ren cs _ hl⟩
 | .tup cs,v,hx=>by
  simp only [Aw.ren,Rep] at hx ⊢
  obtain ⟨vs,rfl,hl⟩:=hx
  exact ⟨vs,rfl,RepL.ren cs _ hl⟩
 | .clos f cs,v,hx=>by
  simp only [Aw.ren,Rep] at hx ⊢
  obtain ⟨vs,rfl,hl⟩:=hx
  exact ⟨vs,rfl,RepL.ren cs _ hl⟩
 | .sl es,v,hx=>by
  simp only [Aw.ren] at hx
  exact Rep.down (Nat.zero_le 2) _ _ (Rep.monoK (m':=m.ren π) (KF.ren m π) 2 (fun h=>absurd h (by omega)) (by omega) (.sl es) v (by simpa only [Rep] using hx))
 | .row id off len,v,hx=>by simpa only [Aw.ren,Rep,Mem.ren] using hx
 | .ptr id off,v,hx=>by simpa only [Aw.ren,Rep,Mem.ren] using hx
 | .rptr id idx c,v,hx=>by simpa only [Aw.ren,Rep,Mem.ren] using hx
 | .map id,v,hx=>by simpa only [Aw.ren,Rep,Mem.ren] using hx
 | .cptr cs,v,hx=>by
  simp only [Aw.ren] at hx
  exact Rep.down (Nat.zero_le 2) _ _ (Rep.monoK (m':=m.ren π) (KF.ren m π) 2 (fun h=>absurd h (by omega)) (by omega) (.cptr cs) v (by simpa only [Rep] using hx))
 | .tptr cs,v,hx=>by
  simp only [Aw.ren] at hx
  exact Rep.down (Nat.zero_le 1) _ _ (Rep.monoK (m':=m.ren π) (KF.ren m π) 1 (fun _=>KP.ren m _) (by omega) (.tptr cs) v
   (by simp only [Rep] at hx ⊢; exact ⟨Nat.le_refl 1,hx.2⟩))
 | .cmap ks vs,v,hx=>by
  simp only [Aw.ren] at hx
  exact Rep.down (Nat.zero_le 1) _ _ (Rep.monoK (m':=m.ren π) (KF.ren m π) 1 (fun _=>KP.ren m _) (by omega) (.cmap ks vs) v
   (by simp only [Rep] at hx ⊢; exact ⟨Nat.le_refl 1,hx.2⟩))
 | .iface t x,v,hx=>by
  simp only [Aw.ren,Rep] at hx ⊢
  obtain ⟨u,rfl,hu⟩:=hx
  exact ⟨u,rfl,Rep.ren x u hu⟩
 | .ite c x y,v,hx=>by
  simp only [Aw.ren,Rep] at hx ⊢
  exact ⟨fun hc=>Rep.ren x v (hx.1 hc),fun hc=>Rep.ren y v (hx.2 hc)⟩
 | .opt c x,v,hx=>by
  simp only [Aw.ren,Rep] at hx ⊢
  exact ⟨fun hc=>Rep.ren x v (hx.1 hc),hx.2⟩
 | .raw _,_,hx=>by simpa only [Aw.ren,Rep] using hx
 | .top,_,_=>by simp only [Rep]
theorem RepL.ren {m : Mem} {π : Nat → Nat} : ∀ (xs : List AV) (vs : List Value),RepL m 0 (renL π xs) vs → RepL (m.ren π) 0 xs vs
 | [],_,hx=>by simpa only [renL,RepL] using hx
 | x :: xs,vs,hx=>by
  simp only [renL,RepL] at hx ⊢
  obtain ⟨v,rest,rfl,hv,hr⟩:=hx
  exact ⟨v,rest,rfl,Rep.ren x v hv,RepL.ren xs rest hr⟩
end

theorem RepX.renK {m : Mem} {π : Nat → Nat} {k b : Nat} (hk : 1 ≤ k) : ∀ {cs : List AV} {o : Nat},RepX m k cs b o → RepX (m.ren π) k cs b o
 | [],_,_=>by simp only [RepX]
 | x :: cs,o,hx=>by
  simp only [RepX] at hx ⊢
  obtain ⟨⟨v,hv,hr⟩,hrest⟩:=hx
  exact ⟨⟨v,hv,Rep.monoK (m':=m.ren π) (KF.ren m π) k (fun _=>KP.ren m _) hk x v hr⟩,RepX.renK hk hrest⟩
theorem RepY.renK {m : Mem} {π : Nat → Nat} {b : Nat} : ∀ {es : List (List AV)} {o sz : Nat},RepY m es b o sz → RepY (m.ren π) es b o sz
 | [],_,_,_=>by simp only [RepY]
 | e :: es,o,sz,hx=>by
  simp only [RepY] at hx ⊢
  exact ⟨hx.1,hx.2.1.renK (by omega),hx.2.2.renK⟩

theorem RowRep.ren {m : Mem} {π : Nat → Nat} {ri : RI} {sz e : Nat} {es : List (List AV)} {own : Bool} (hx : RowRepG m ri sz es own e) : RowRepG (m.ren π) ri sz es own e:=by
 rcases hx with hx | ⟨h1,h2,h3,h4,h5,h8⟩
 ·exact .inl hx
 ·refine .inr ⟨h1,h2,h3,h4,h5,?_⟩
  split at h8
  ·rename_i ho
   rw [if_pos ho]
   exact ⟨h8.1.renK,h8.2⟩
  ·rename_i ho
   rw [if_neg ho]
   exact ⟨RepE.monoK (m':=m.ren π) (KF.ren m π) _ _ _ _ h8.1,h8.2⟩
theorem BlkRep.ren {m : Mem} {π : Nat → Nat} {ri : RI} {x : ABlk} (hx : BlkRep m ri (renB π x)) : BlkRep (m.ren π) ri x:=by
 cases x with
 | cells cs =>
  obtain ⟨h1,h2,h3,c,T,h4,h5⟩:=hx
  exact ⟨h1,h2,h3,c,T,h4,RepL.ren _ _ h5⟩
 | tc T0 cs =>
  obtain ⟨h1,h2,h3,c,h4,h5⟩:=hx
  exact ⟨h1,h2,h3,c,h4,RepL.ren _ _ h5.1,h5.2.1,h5.2.2.1,h5.2.2.2.trans (renL_len _ _)⟩
 | row sz es own=>exact RowRep.ren hx
 | full sz es=>exact ⟨RowRep.ren hx.1,hx.2⟩
 | mrow sz es=>exact ⟨hx.1,RowRep.ren hx.2⟩
 | brow e l=>exact ⟨RowRep.ren hx.1,hx.2⟩
 | amap ks vs =>
  obtain ⟨h1,h2,h3,kv,vv,es,clock,h4,h5,h6,h7⟩:=hx
  exact ⟨h1,h2,h3,kv,vv,es,clock,h4,h5,RepL.monoK (m':=m.ren π) (KF.ren m π) 1 (fun _=>KP.ren m _) (by omega) _ _ h6,
   RepL.monoK (m':=m.ren π) (KF.ren m π) 1 (fun _=>KP.ren m _) (by omega) _ _ h7⟩
 | lp l rc=>exact hx
 | it left cur =>
  obtain ⟨h1,h2,h3,h4,bm,es,clock,seen,g1,g2,g3,g4,⟨el,e1,e2,e3⟩,g5⟩:=hx
  exact ⟨h1,h2,h3,h4,bm,es,clock,seen,g1,g2,g3,g4,⟨el,e1,RepL.monoK (m':=m.ren π) (KF.ren m π) 1 (fun _=>KP.ren m _) (by omega) _ _ e2,RepL.monoK (m':=m.ren π) (KF.ren m π) 1 (fun _=>KP.ren m _) (by omega) _ _ e3⟩,
   fun k v hc=>let ⟨e,q1,q2,q3,q4⟩:=g5 k v hc; ⟨e,q1,q2,Rep.monoK (m':=m.ren π) (KF.ren m π) 1 (fun _=>KP.ren m _) (by omega) _ _ q3,Rep.monoK (m':=m.ren π) (KF.ren m π) 1 (fun _=>KP.ren m _) (by omega) _ _ q4⟩⟩

def Less (x y : AV) : Prop:=∀ m v,Rep m 0 y v → Rep m 0 x v
theorem Less.refl (x : AV) : Less x x:=fun _ _ h=>h
theorem Less.top (x : AV) : Less .top x:=fun _ _ _=>by simp only [Rep]
theorem Less.opt {c : Bool} {x y : AV} (hc : c = true) (h : Less x y) : Less x (.opt c y):=fun m v hv=>by
 simp only [Rep] at hv
 exact h m v (hv.1 hc)
theorem Less.nil {n c : Nat} (hn : n = 0) : Less (.sl []) (.raw (.slice none n c)):=fun m v hv=>by
 simp only [Rep] at hv ⊢
 subst hv hn
 exact .inl ⟨trivial,_,_,rfl⟩

def pick (l : List Nat) (nx i : Nat) : Nat :=
 match nth l i with
 | some j=>j
 | none=>nx + i
def viewEnv (π : Nat → Nat) (env : List (Nat × AV)) : List (Nat × AV) → Prop
 | []=>True
 | p :: r=>(match get env p.1 with
  | some y=>Less (ren π p.2) y
  | none=>False) ∧ viewEnv π env r
def viewHp (π : Nat → Nat) (nx : Nat) (hp : List (Nat × ABlk)) : List (Nat × ABlk) → Prop
 | []=>True
 | p :: r=>(p.1 < nx ∧ get hp (π p.1) = some (renB π p.2)) ∧ viewHp π nx hp r

theorem viewEnv_get {π : Nat → Nat} {env : List (Nat × AV)} : ∀ {l : List (Nat × AV)},viewEnv π env l → ∀ {t x},get l t = some x → ∃ y,get env t = some y ∧ Less (ren π x) y
 | [],_,t,x,hx=>by simp [get] at hx
 | p :: r,h,t,x,hx=>by
  simp only [viewEnv] at h
  simp only [get] at hx
  split at hx
  ·rename_i e
   injection hx with hx
   subst hx e
   have h1:=h.1
   split at h1
   ·rename_i y hy
    exact ⟨y,hy,h1⟩
   ·exact h1.elim
  ·exact viewEnv_get h.2 hx
theorem viewHp_get {π : Nat → Nat} {nx : Nat} {hp : List (Nat × ABlk)} : ∀ {l : List (Nat × ABlk)},viewHp π nx hp l → ∀ {i b},get l i = some b → i < nx ∧ get hp (π i) = some (renB π b)
 | [],_,t,x,hx=>by simp [get] at hx
 | p :: r,h,t,x,hx=>by
  simp only [viewHp] at h
  simp only [get] at hx
  split at hx
  ·rename_i e
   injection hx with hx
   subst hx e
   exact h.1
  ·exact viewHp_get h.2 hx

theorem nth_lt {α : Type} : ∀ {l : List α} {i : Nat},i < l.length → ∃ x,nth l i = some x
 | x :: _,0,_=>⟨x,rfl⟩
 | _ :: l,i + 1,h=>nth_lt (l:=l) (i:=i) (by simpa using h)
theorem nth_none {α : Type} : ∀ {l : List α} {i : Nat},l.length ≤ i → nth l i = none
 | [],_,_=>rfl
 | _ :: l,i + 1,h=>nth_none (l:=l) (i:=i) (by simpa using h)

def renDf (π : Nat → Nat) : List (FuncId × List AV) → List (FuncId × List AV)
 | []=>[]
 | p :: r=>(p.1,renL π p.2) :: renDf π r
theorem DefR.ren {m : Mem} {π : Nat → Nat} : ∀ {l : List (FuncId × List AV)} {ds : List Deferred},DefR m (renDf π l) ds → DefR (m.ren π) l ds
 | [],_,hd=>hd
 | _ :: _,_,hd=>by
  obtain ⟨d,rest,caps,h1,h2,h3,h4⟩:=hd
  exact ⟨d,rest,caps,h1,h2,RepL.ren _ _ h3,h4.ren⟩
theorem St.le.view {σ σ' : St} (l : List Nat) (hn : σ'.n = σ.n) (hgl : σ'.gl = σ.gl) (hnp : σ'.np = σ.np) (hdf : σ.df = renDf (pick l σ.nx) σ'.df) (hnx : σ'.nx = l.length) (hpre : ∀ i,i < σ.np → nth l i = some i) (hnd : l.Nodup)
  (henv : viewEnv (pick l σ.nx) σ.env σ'.env) (hhp : viewHp (pick l σ.nx) l.length σ.hp σ'.hp) : St.le σ' σ:=by
 intro m a hS
 refine ⟨m.ren (pick l σ.nx),rfl,⟨rfl,rfl,rfl,Nat.le_refl _,rfl,fun _ _=>rfl,fun _ _ h=>h,fun _ _ _=>rfl,fun _ _ _ h=>h,rfl,?_⟩,?_⟩
 ·intro id ri hi hr
  show m.ρ (pick l σ.nx id) = some ri
  rw [hS.np] at hi
  unfold pick
  rw [hpre id hi]
  exact hr
 ·refine ⟨⟨?_,?_,?_,hS.h.Fold,hS.h.Pold⟩,hS.n.trans hn.symm,(hdf ▸ hS.defers).ren,?_,?_,hS.np.trans hnp.symm⟩
  ·intro id x hx
   obtain ⟨_,h2⟩:=viewHp_get hhp hx
   obtain ⟨ri,h3,h4⟩:=hS.h.blk _ _ h2
   exact ⟨ri,h3,h4.ren⟩
  ·intro id id' x x' ri ri' hx hx' hr hr' hne hn1 hn2
   obtain ⟨l1,g1⟩:=viewHp_get hhp hx
   obtain ⟨l2,g2⟩:=viewHp_get hhp hx'
   refine hS.h.apart _ _ _ _ ri ri' g1 g2 hr hr' ?_ hn1 hn2
   intro e
   unfold pick at e
   obtain ⟨y1,e1⟩:=nth_lt l1
   obtain ⟨y2,e2⟩:=nth_lt l2
   rw [e1,e2] at e
   simp only at e
   rw [nth_eq] at e1 e2
   have:=(List.getElem?_inj l1 hnd).1 (e1.trans (by rw [e2,e]))
   exact hne this
  ·intro id hid
   rw [hnx] at hid
   show m.ρ (pick l σ.nx id) = none
   unfold pick
   rw [nth_none hid]
   exact hS.h.fresh _ (by simp only; omega)
  ·intro t x hx
   obtain ⟨y,h1,h2⟩:=viewEnv_get henv hx
   obtain ⟨h3,h4⟩:=hS.env t y h1
   exact ⟨by rw [hn]; exact h3,Rep.ren _ _ (h2 m _ h4)⟩
  ·intro g x hg
   rw [hgl] at hg
   exact Rep.monoK (m':=m.ren (pick l σ.nx)) (KF.ren m _) 1 (fun _=>KP.ren m _) (by omega) _ _ (hS.gl g x hg)

attribute [go_sem] renDf ren renL renB Aw.pick viewEnv viewHp
end Aw
