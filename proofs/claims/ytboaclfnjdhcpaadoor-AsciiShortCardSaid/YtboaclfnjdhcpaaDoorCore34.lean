/- Rules of a calculus of walks: no condition of its own. -/
import Derived.Test.YtboaclfnjdhcpaaDoorCore33
namespace Aw
open Go
theorem pick_mid {L L2 : List Nat} {nx n : Nat} : Aw.pick (L ++ nx :: L2) n L.length = nx:=by
 unfold Aw.pick
 rw [nth_eq]
 simp
def backBU (σ : St) (L L2 : List Nat) (hp' : List (Nat × ABlk)) (nx' : Nat) : St :=
 ⟨σ.n,σ.env,del (appHp (dels σ.hp (L ++ L2)) (renHp (bk (L ++ [σ.nx]) (σ.nx + 1)) hp')) σ.nx,σ.nx + 1 + (nx' - (L.length + 1)),σ.gl,σ.np,σ.df⟩
theorem AWT.rangeAtU {B : Bs} {r : Option Nat} {Θ : Mem → Prop} [Lasts Θ] {P : Program} {σ : St} {Q : AX → St → Prop} {g : Operand} {ps : List Tmp} {assign body : Code} {it : FuncId} {caps zs xs : List AV} {ob' : Prop} {L L2 : List Nat}
  {hp0 : List (Nat × ABlk)} {E : List (Nat × AV)} {R : Option Code → List (Nat × ABlk) → Nat → Prop} {m m1 : Mem} {a : Act} {mark : List Deferred} {dd : Nat}
  (hl1 : m.leT m1) (hS1 : SimT B m1 { a with defers:=mark ++ a.defers } σ) (ht : Θ m)
  (hent : ∀ fn,(Instr.enterLoop fn a.tmps ps.toArray assign body r).run P m.w = .ok (m1.w.heap.size,mark) (m1.w.alloc (.loop (recOf a.tmps ps.toArray assign body dd fn .ready none))))
  (hit : ∀ (Ω : Mem → Prop) (_ : LastsU Ω) (l : Nat) (rb : Loop) (rc : Option Code → Loop),
   (∀ ys hp nx Rr,get hp L.length = some (.lp l (rc none)) → ys.length = ps.length → AWT 0 (some l) (fun _=>True) P assign ⟨σ.n,setAll E ps ys,hp,nx,σ.gl,L.length + 1,[]⟩
    (fun ax σ'=>ax = .normal ∧ get σ'.hp L.length = some (.lp l (rc none)) ∧ AWT 0 (some l) (fun _=>True) P body ⟨σ'.n,σ'.env,set σ'.hp L.length (.lp l rb),σ'.nx,σ'.gl,σ'.np,σ'.df⟩
     (fun ax σ''=>∃ j,jumpOf ax = some j ∧ ∃ σ3,St.le σ3 σ'' ∧ get σ3.hp L.length = some (.lp l rb) ∧ noTHm σ3.hp = true ∧ Rr (AE.ret (.bool j.isNone)) (set σ3.hp L.length (.lp l (rc j))) σ3.nx)) → RoundU Ω P σ.gl l ys hp nx (L.length + 1) Rr) →
   FnU Ω P σ.gl it (.raw (.func (.yield l) #[] #[]) :: xs) (hp0 ++ [(L.length,.lp l (rc none))]) (L.length + 1 + L2.length) (L.length + 1) fun q hp' nx'=>(∃ x,q = .ret x) ∧ ∃ j,get hp' L.length = some (.lp l (rc j)) ∧ R j hp' nx')
  (hK : ∀ j hp' nx',R j hp' nx' → backOku (L.length + 1) hp' nx' = true ∧ (match j with | none=>Q .normal (backBU σ L L2 hp' nx') | some c=>AWT B r Θ P c (backBU σ L L2 hp' nx') Q))
  (hg : ev σ g = some (.clos it caps)) (hz : mapO (fz σ.hp 9) caps = some (ob',zs)) (hob' : ob') (hL : (L ++ L2).all (fun id=>(get σ.hp id).isSome) = true) (hnd : (L ++ L2).Nodup)
  (hhp : viewHp (Aw.pick (L ++ σ.nx :: L2) (σ.nx + 1)) (L.length + 1 + L2.length) σ.hp hp0) (hxs : renL (Aw.pick (L ++ σ.nx :: L2) (σ.nx + 1)) xs = zs) (hE : ∀ t x,get E t = some x → get σ.env t = some (ren (Aw.pick (L ++ σ.nx :: L2) (σ.nx + 1)) x) ∧ small (L.length + 1) x = true) (hp : ∀ p ∈ ps,p < σ.n) :
  wpB B.fn r P (Code.rangeFunc g ps.toArray assign body) (PostT B m Q) a m.w:=by
 have hL' : ∀ id ∈ L ++ L2,(get σ.hp id).isSome = true:=fun id hid=>List.all_eq_true.1 hL id hid
 have hlt : ∀ id ∈ L ++ L2,id < σ.nx:=fun id hid=>by
  obtain ⟨x,hx⟩:=Option.isSome_iff_exists.1 (hL' id hid)
  obtain ⟨ri,hr,_⟩:=hS1.s.h.blk id x hx
  exact rho_lt hS1.s.h hr
 have hnx : get σ.hp σ.nx = none:=by
  cases hh : get σ.hp σ.nx with
  | none=>rfl
  | some x =>
   obtain ⟨ri,hr,_⟩:=hS1.s.h.blk _ x hh
   rw [hS1.s.h.fresh _ (Nat.le_refl _)] at hr
   cases hr
 have hnd2 : (L ++ σ.nx :: L2).Nodup:=by
  rw [List.nodup_append] at hnd ⊢
  refine ⟨hnd.1,List.nodup_cons.2 ⟨fun h=>?_,hnd.2.1⟩,fun x hx y hy=>?_⟩
  ·have:=hlt _ (List.mem_append_right _ h); omega
  ·rcases List.mem_cons.1 hy with rfl | hy
   ·have:=hlt x (List.mem_append_left _ hx); omega
   ·exact hnd.2.2 x hx y hy
 have hmem : ∀ id ∈ (L ++ σ.nx :: L2),id ∈ L ++ L2 ∨ id = σ.nx:=by
  intro id hid
  rcases List.mem_append.1 hid with h | h
  ·exact .inl (List.mem_append_left _ h)
  ·rcases List.mem_cons.1 h with h | h
   ·exact .inr h
   ·exact .inl (List.mem_append_right _ h)
 have htk : (L ++ σ.nx :: L2).take (L.length + 1) = L ++ [σ.nx]:=by
  rw [show L ++ σ.nx :: L2 = (L ++ [σ.nx]) ++ L2 from by simp]
  exact List.take_left' (by simp)
 refine wpB_rangeFunc ?_
 intro fn _
 obtain ⟨l,hl⟩ : ∃ l,l = m1.w.heap.size:=⟨_,rfl⟩
 obtain ⟨rc,hrcd⟩ : ∃ rc : Option Code → Loop,rc = fun j=>recOf a.tmps ps.toArray assign body dd fn (if j.isNone then .ready else .done) j:=⟨_,rfl⟩
 have hrc0 : recOf a.tmps ps.toArray assign body dd fn .ready none = rc none:=by rw [hrcd] <;> rfl
 have hcl:=hS1.s.ev hg
 simp only [Rep] at hcl
 obtain ⟨cv,hgv,hcv⟩:=hcl
 have hgv' : a.eval g = .func (.func it) #[] cv:=hgv
 -- the record, a block of one's own
 have hw : Alloc m1.w (m1.w.alloc (.loop (rc none))) (.loop (rc none)):=⟨rfl,rfl,rfl,rfl⟩
 obtain ⟨ri,hri⟩ : ∃ ri : RI,ri = ⟨m1.w.heap.size,0,0,0,false⟩:=⟨_,rfl⟩
 obtain ⟨m2,hm2⟩ : ∃ m2,m2 = m1.with (m1.w.alloc (.loop (rc none))) σ.nx ri (fun _ _=>False):=⟨_,rfl⟩
 have hU:=Upd.alloc hS1.s.h hw ri (fun _ _=>False) (fun _ _ h=>h.elim)
 have hH2 : SimH m2 (set σ.hp σ.nx (.lp l (rc none))) (σ.nx + 1):=by
  rw [hm2]
  refine hS1.s.h.alloc hw (fun _ _ h=>h.elim) (by rw [hri]) ⟨by rw [hri],?_,?_,by rw [hri,hl],by rw [hri]; exact hw.new⟩
  ·intro h; rw [hri] at h; have:=hS1.s.h.Pold _ h; exact absurd this (Nat.lt_irrefl _)
  ·intro o h
   rw [hri] at h
   rcases h with h | h
   ·have:=hS1.s.h.Fold _ o h; exact absurd this (Nat.lt_irrefl _)
   ·exact h
 rw [← hm2] at hU
 have hk2:=hU.keeps hS1.s.h
 have hl2:=(hU.le hS1.s.h).t
 have hw2 : m2.w = m1.w.alloc (.loop (rc none)):=by rw [hm2] <;> rfl
 have hS2 : SimT B m2 { a with defers:=mark ++ a.defers } ⟨σ.n,σ.env,set σ.hp σ.nx (.lp l (rc none)),σ.nx + 1,σ.gl,σ.np,σ.df⟩:=⟨hS1.s.of hk2 hH2,hS1.marks.le hl2,Nat.le_trans hS1.base hl2.size⟩
 have hL2 : ∀ id ∈ L ++ σ.nx :: L2,(get (set σ.hp σ.nx (.lp l (rc none))) id).isSome = true:=by
  intro id hid
  rw [get_set]
  rcases hmem id hid with h | h
  ·rw [if_neg (by have:=hlt id h; omega)]; exact hL' id h
  ·rw [if_pos h.symm]
   rfl
 have hlen2 : (L ++ σ.nx :: L2).length = L.length + 1 + L2.length:=by simp; omega
 have hnl : L.length + 1 ≤ (L ++ σ.nx :: L2).length:=by omega
 have hz2 : mapO (fz (set σ.hp σ.nx (.lp l (rc none))) 9) caps = some (ob',zs) → True:=fun _=>trivial
 have hargs0 : RepL m2 0 caps cv.toList:=RepL.mono hk2 0 _ _ hcv
 have hzs1 : RepL m1 0 zs cv.toList:=mapO_sound (m:=m1) (m':=m1) (k:=0) (f:=fz σ.hp 9) (fun x y v ob h hob hv=>fz_sound hS1.s.h 9 x y v ob h hob hv) hz hob' hcv
 have hzs : RepL m2 0 zs cv.toList:=RepL.mono hk2 0 _ _ hzs1
 have hview : viewHp (Aw.pick (L ++ σ.nx :: L2) (σ.nx + 1)) (L ++ σ.nx :: L2).length (set σ.hp σ.nx (.lp l (rc none))) (hp0 ++ [(L.length,.lp l (rc none))]):=by
  rw [hlen2]
  exact viewHp_snoc (c:=.lp l (rc none)) hnx (by omega) pick_mid rfl hhp
 obtain ⟨hstart,hargs⟩ : StartU (m2.innerU (L ++ σ.nx :: L2) (σ.nx + 1) (L.length + 1)) σ.gl (hp0 ++ [(L.length,.lp l (rc none))]) (L ++ σ.nx :: L2).length (L.length + 1) ∧ RepL (m2.innerU (L ++ σ.nx :: L2) (σ.nx + 1) (L.length + 1)) 0 xs cv.toList:=by
  have hM:=innerH_map hH2 hL2
  have hP : KP m2 (m2.innerU (L ++ σ.nx :: L2) (σ.nx + 1) (L.length + 1)):=⟨fun b hb=>hM.Pr b hb,fun _ _=>rfl⟩
  have hF : KF m2 (m2.innerU (L ++ σ.nx :: L2) (σ.nx + 1) (L.length + 1)):=⟨fun _ _ h=>h,fun _ _ _=>rfl⟩
  refine ⟨⟨(innerH_simH hH2 hL2 hnd2 hview).npf _,fun g x hg=>Rep.monoK hF 1 (fun _=>hP) (Nat.le_refl 1) _ _ (hS2.s.gl g x hg),rfl,hnl⟩,?_⟩
  rw [← hxs] at hzs
  have:=RepL.map hM xs cv.toList (RepL.ren xs cv.toList hzs)
  rw [renL_id] at this
  exact this.npf _ rfl
 have hM : MapOk (m2.ren (Aw.pick (L ++ σ.nx :: L2) (σ.nx + 1))) (m2.innerU (L ++ σ.nx :: L2) (σ.nx + 1) (L.length + 1)) (fun i=>i):=innerU_map hH2 hL2
 have hsz : a.tmps.size = σ.n:=hS1.s.n
 have hE0 : ∀ m3,KeptU (m2.innerU (L ++ σ.nx :: L2) (σ.nx + 1) (L.length + 1)) m3 → ∀ t y,get E t = some y → t < (rc none).tmps.size ∧ Rep m3 0 y ((rc none).tmps.getD t undef):=by
  intro m3 hk3 t y hy
  obtain ⟨hE1,hE2⟩:=hE t y hy
  obtain ⟨h1,h2⟩:=hS2.s.env t _ hE1
  rw [show (rc none).tmps = a.tmps by rw [hrcd]; rfl]
  refine ⟨by rw [hsz]; exact h1,?_⟩
  have:=Rep.map hM y _ (Rep.ren y _ h2)
  rw [ren_id] at this
  exact Rep.monoS ⟨hk3.Pr,hk3.block,hk3.F,hk3.cell,hk3.ρ⟩ y _ hE2 this
 have hsz0 : (rc none).tmps.size = σ.n:=by rw [hrcd]; exact hsz
 have hc:=hit (KeptU (m2.innerU (L ++ σ.nx :: L2) (σ.nx + 1) (L.length + 1))) inferInstance l ⟨.busy,(rc none).pending,(rc none).fn,(rc none).tmps,(rc none).params,(rc none).assign,(rc none).body,(rc none).defers⟩ rc (fun ys hp' nx' Rr hgk hyl h=>by
  refine RoundU.ofB (k:=L.length) (rc:=rc none) (ps:=ps) (E:=E) hgk (by rw [hrcd]; rfl) (by rw [hrcd]; rfl) hE0 (fun p hp''=>by rw [hsz0]; exact hp p hp'') hyl ?_
  rw [hsz0]
  rw [← show (rc none).assign = assign by rw [hrcd]; rfl,← show (rc none).body = body by rw [hrcd]; rfl] at h
  have hj : ∀ j : Option Code,({ rc none with state:=if j.isNone then .ready else .done,pending:=j } : Loop) = rc j:=fun j=>by rw [hrcd] <;> rfl
  refine h.mono fun ax σ' ⟨h1,h2,h3⟩=>⟨h1,h2,h3.mono fun ax σ'' ⟨j,k1,σ3,k2,k3,k4,k5⟩=>⟨j,k1,σ3,k2,k3,k4,?_⟩⟩
  rw [hj j]
  exact k5)
 refine ⟨l,mark,m2.w,{ target:=.fn (.func it) cv,args:=#[.func (.yield l) #[] #[]] },m2.w,it,#[.func (.yield l) #[] #[]] ++ cv,m2.w,?_,?_,?_,?_,fun hh=>(by cases hh),?_⟩
 ·rw [hl,hw2,← hrc0]; exact hent fn
 ·simp only [resolve,hgv']
  simp [go_sem]
 ·intro _ _; trivial
 ·simp only [invoke]
  exact hc.enters _ _
 ·have hcall:=hc.calls (m2.innerU (L ++ σ.nx :: L2) (σ.nx + 1) (L.length + 1)) (.func (.yield l) #[] #[] :: cv.toList) (by rw [← hlen2]; exact hstart) ⟨rfl,fun _ h=>h,fun _ _=>rfl,fun _ _ h=>h,fun _ _ _=>rfl,fun _ _ _ h=>h⟩ (by
   simp only [RepL]
   exact ⟨_,_,rfl,by simp only [Rep],hargs⟩)
  have e2 : (m2.innerU (L ++ σ.nx :: L2) (σ.nx + 1) (L.length + 1)).w = m2.w:=rfl
  have e3 : (Value.func (.yield l) #[] #[] :: cv.toList).toArray = #[.func (.yield l) #[] #[]] ++ cv:=by
   apply Array.ext'
   simp
  rw [e2,e3] at hcall
  refine callsIn_fr.2 (hcall.mono ?_)
  rintro e w' ⟨m',q,hp',nx',rfl,hle,hH',hend,⟨x,rfl⟩,j,hgj,hR⟩
  obtain ⟨v,rfl,hv⟩:=hend
  obtain ⟨hb,hq⟩:=hK j hp' nx' hR
  obtain ⟨l3,s3,_⟩:=backPanU (y:=.top) (v:=v) hS2 hL2 hnl hle hH' hb (by simp only [Rep])
  obtain ⟨m3,hm3⟩ : ∃ m3,m3 = m2.outerH m' ((L ++ σ.nx :: L2).take (L.length + 1)) (σ.nx + 1):=⟨_,rfl⟩
  rw [← hm3] at l3 s3
  have ew : m'.w = m3.w:=by rw [hm3] <;> rfl
  have hgl : get (backU ⟨σ.n,σ.env,set σ.hp σ.nx (.lp l (rc none)),σ.nx + 1,σ.gl,σ.np,σ.df⟩ (L ++ σ.nx :: L2) (L.length + 1) hp' nx').hp σ.nx = some (.lp l (rc j)):=by
   show get (appHp (dels (set σ.hp σ.nx (.lp l (rc none))) (L ++ σ.nx :: L2)) (renHp (bk ((L ++ σ.nx :: L2).take (L.length + 1)) (σ.nx + 1)) hp')) σ.nx = _
   rw [get_appHp_eq,get_dels_eq,if_pos (by simp),htk]
   have hb1 : bk (L ++ [σ.nx]) (σ.nx + 1) L.length = σ.nx:=by
    unfold bk
    rw [nth_eq]
    simp
   have:=get_renHp_inj (π:=bk (L ++ [σ.nx]) (σ.nx + 1)) (fun i j h=>bk_inj (by rw [← htk]; exact hnd2.sublist (List.take_sublist _ _)) (fun id hid=>by
    rcases List.mem_append.1 hid with h | h
    ·have:=hlt id (List.mem_append_left _ h); omega
    ·simp only [List.mem_singleton] at h; omega) h) hp' L.length
   rw [hb1,hgj] at this
   exact this
  obtain ⟨g1,g2,_⟩:=s3.s.h.lp hgl
  have hH4:=prot_simH s3.s.h hgl
  have hS4 : SimT B (m3.prot l) { a with defers:=mark ++ a.defers } (backBU σ L L2 hp' nx'):=by
   refine ⟨?_,s3.marks.le prot_leT,s3.base⟩
   have h5:=s3.s.of prot_keeps (hH4.sub (hp':=(backBU σ L L2 hp' nx').hp) ?_)
   ·exact h5
   ·intro id x hx
    change get (del (appHp (dels σ.hp (L ++ L2)) (renHp (bk (L ++ [σ.nx]) (σ.nx + 1)) hp')) σ.nx) id = some x at hx
    show get (del (appHp (dels (set σ.hp σ.nx (.lp l (rc none))) (L ++ σ.nx :: L2)) (renHp (bk ((L ++ σ.nx :: L2).take (L.length + 1)) (σ.nx + 1)) hp')) σ.nx) id = some x
    rw [htk]
    rw [get_del] at hx ⊢
    split at hx
    ·cases hx
    rename_i hne
    rw [if_neg hne]
    rw [get_appHp_eq,get_dels_eq] at hx ⊢
    rw [get_set,if_neg hne]
    by_cases hid : id ∈ L ++ L2
    ·rw [if_pos hid] at hx
     rw [if_pos (by rcases List.mem_append.1 hid with h | h <;> simp [h])]
     exact hx
    ·rw [if_neg hid] at hx
     rw [if_neg (fun h=>(hmem id h).elim hid (fun e=>hne e.symm))]
     exact hx
  have hP4 : (m3.prot l).Pr l:=.inr rfl
  have hlP : ¬ m.Pr l:=fun h=>by
   have h':=hS1.s.h.Pold _ (hl1.Pr _ h)
   omega
  have l4 : m.leT ((m3.prot l).turn l (.loop { rc j with state:=.exhausted })):=(((hl1.trans hl2).trans l3).trans prot_leT).turn hlP g1 rfl rfl
  have s4 : SimT B ((m3.prot l).turn l (.loop { rc j with state:=.exhausted })) { a with defers:=mark ++ a.defers } (backBU σ L L2 hp' nx'):=by
   exact ⟨hS4.s.turn hP4 g1 rfl rfl,hS4.marks.turn g1,by rw [turn_size]; exact hS4.base⟩
  refine ⟨j,_,(by rw [ew]; have:=run_endLoop (P:=P) g1 (by rw [hrcd]; cases j <;> simp [recOf]); rw [this]; congr 1; rw [hrcd]; rfl),?_⟩
  cases j with
  | none=>exact ⟨(m3.prot l).turn l (.loop { rc none with state:=.exhausted }),_,.normal,rfl,l4,s4,rfl,hq⟩
  | some c =>
   refine wpB_mono (hq _ _ s4 (Lasts.le l4 ht)) ?_
   intro e a' w' hp
   exact hp.trans l4
end Aw

namespace Aw
open Go
def RoundOkU (Ω : Mem → Prop) (P : Program) (gl : List (Nat × AV)) (n : Nat) (E : List (Nat × AV)) (ps : List Tmp) (assign body : Code) (l k : Nat) (rb : Loop) (rc : Option Code → Loop) : Prop :=
 ∀ ys hp nx Rr,get hp k = some (.lp l (rc none)) → ys.length = ps.length → AWT 0 (some l) (fun _=>True) P assign ⟨n,setAll E ps ys,hp,nx,gl,k + 1,[]⟩
  (fun ax σ'=>ax = .normal ∧ get σ'.hp k = some (.lp l (rc none)) ∧ AWT 0 (some l) (fun _=>True) P body ⟨σ'.n,σ'.env,set σ'.hp k (.lp l rb),σ'.nx,σ'.gl,σ'.np,σ'.df⟩
   (fun ax σ''=>∃ j,jumpOf ax = some j ∧ ∃ σ3,St.le σ3 σ'' ∧ get σ3.hp k = some (.lp l rb) ∧ noTHm σ3.hp = true ∧ Rr (AE.ret (.bool j.isNone)) (set σ3.hp k (.lp l (rc j))) σ3.nx)) → RoundU Ω P gl l ys hp nx (k + 1) Rr
section
variable {B : Bs} {r : Option Nat} {Θ : Mem → Prop} [Lasts Θ] {P : Program} {σ : St} {Q : AX → St → Prop} {g : Operand} {ps : List Tmp} {assign body : Code} {it : FuncId} {caps zs xs : List AV} {ob' : Prop} {L L2 : List Nat}
 {hp0 : List (Nat × ABlk)} {E : List (Nat × AV)} {R : Option Code → List (Nat × ABlk) → Nat → Prop}
theorem AWT.rangeOU
  (hit : ∀ (Ω : Mem → Prop) (_ : LastsU Ω) (l : Nat) (rb : Loop) (rc : Option Code → Loop),RoundOkU Ω P σ.gl σ.n E ps assign body l L.length rb rc →
   FnU Ω P σ.gl it (.raw (.func (.yield l) #[] #[]) :: xs) (hp0 ++ [(L.length,.lp l (rc none))]) (L.length + 1 + L2.length) (L.length + 1) fun q hp' nx'=>(∃ x,q = .ret x) ∧ ∃ j,get hp' L.length = some (.lp l (rc j)) ∧ R j hp' nx')
  (hK : ∀ j hp' nx',R j hp' nx' → backOku (L.length + 1) hp' nx' = true ∧ (match j with | none=>Q .normal (backBU σ L L2 hp' nx') | some c=>AWT B none Θ P c (backBU σ L L2 hp' nx') Q))
  (hg : ev σ g = some (.clos it caps)) (hz : mapO (fz σ.hp 9) caps = some (ob',zs)) (hob' : ob') (hL : (L ++ L2).all (fun id=>(get σ.hp id).isSome) = true) (hnd : (L ++ L2).Nodup)
  (hhp : viewHp (Aw.pick (L ++ σ.nx :: L2) (σ.nx + 1)) (L.length + 1 + L2.length) σ.hp hp0) (hxs : renL (Aw.pick (L ++ σ.nx :: L2) (σ.nx + 1)) xs = zs) (hE : ∀ t x,get E t = some x → get σ.env t = some (ren (Aw.pick (L ++ σ.nx :: L2) (σ.nx + 1)) x) ∧ small (L.length + 1) x = true) (hp : ∀ p ∈ ps,p < σ.n) :
  AWT B none Θ P (.rangeFunc g ps.toArray assign body) σ Q:=by
 intro m a hS ht
 refine AWT.rangeAtU (m1:=m.enteredD) (mark:=[{ target:=.collected m.w.heap.size,args:=#[] }]) (dd:=m.w.heap.size) (enteredD_leT hS.s.h) ⟨hS.s.of (enteredD_keeps hS.s.h) (enteredD_simH hS.s.h),?_,?_⟩ ht ?_ hit hK hg hz hob' hL hnd hhp hxs hE hp
 ·exact hS.marks.push (enteredD_leT hS.s.h) (by simp) hS.base (.inr rfl) (World.alloc_heap_new m.w _)
 ·have:=hS.base
  simp only [Mem.enteredD,World.size_alloc]
  omega
 ·intro fn
  rw [run_enterLoop_outer]
  congr 1
  simp [Mem.enteredD]
theorem AWT.rangeIU {k0 l0 : Nat} {r0 : Loop} (h0 : get σ.hp k0 = some (.lp l0 r0))
  (hit : ∀ (Ω : Mem → Prop) (_ : LastsU Ω) (l : Nat) (rb : Loop) (rc : Option Code → Loop),RoundOkU Ω P σ.gl σ.n E ps assign body l L.length rb rc →
   FnU Ω P σ.gl it (.raw (.func (.yield l) #[] #[]) :: xs) (hp0 ++ [(L.length,.lp l (rc none))]) (L.length + 1 + L2.length) (L.length + 1) fun q hp' nx'=>(∃ x,q = .ret x) ∧ ∃ j,get hp' L.length = some (.lp l (rc j)) ∧ R j hp' nx')
  (hK : ∀ j hp' nx',R j hp' nx' → backOku (L.length + 1) hp' nx' = true ∧ (match j with | none=>Q .normal (backBU σ L L2 hp' nx') | some c=>AWT B (some l0) Θ P c (backBU σ L L2 hp' nx') Q))
  (hg : ev σ g = some (.clos it caps)) (hz : mapO (fz σ.hp 9) caps = some (ob',zs)) (hob' : ob') (hL : (L ++ L2).all (fun id=>(get σ.hp id).isSome) = true) (hnd : (L ++ L2).Nodup)
  (hhp : viewHp (Aw.pick (L ++ σ.nx :: L2) (σ.nx + 1)) (L.length + 1 + L2.length) σ.hp hp0) (hxs : renL (Aw.pick (L ++ σ.nx :: L2) (σ.nx + 1)) xs = zs) (hE : ∀ t x,get E t = some x → get σ.env t = some (ren (Aw.pick (L ++ σ.nx :: L2) (σ.nx + 1)) x) ∧ small (L.length + 1) x = true) (hp : ∀ p ∈ ps,p < σ.n) :
  AWT B (some l0) Θ P (.rangeFunc g ps.toArray assign body) σ Q:=by
 intro m a hS ht
 obtain ⟨h1,_⟩:=hS.s.h.lp h0
 exact AWT.rangeAtU (m1:=m) (mark:=[]) (dd:=r0.defers) (.refl m) hS ht (fun fn=>run_enterLoop_inner h1 _ _ _ _ _) hit hK hg hz hob' hL hnd hhp hxs hE hp
end
end Aw

namespace Aw
open Go
def roundPostP (P : Program) (l : Nat) (fn : Func) (R : Ending → World → Prop) : Exit → Act → World → Prop
 | .panic chain,a,w=>LeavesInM (Fr none) 0 P fn a.tmps R a.defers (.panicking chain) w
 | e,a,w=>roundPost P l R e a w
theorem roundIn_of_wpInP {P : Program} {l : Nat} {f : FuncId} {fn : Func} {tmps : Array Value} {assign body : Code} {w : World} {R : Ending → World → Prop} (hf : P.funcs[f]? = some fn)
  (h : assign.wpIn (Fr (some l)) 0 P (Exit.then (fun a₁ w₁=>∃ w₂,(Instr.beginRound l).run P w₁ = .ok () w₂ ∧ body.wpIn (Fr (some l)) 0 P (roundPostP P l fn R) a₁ w₂) (fun _ _ _=>False))
   { tmps:=tmps,defers:=[] } w) :
  RoundIn (Fr none) 0 P l f tmps assign body w R:=by
 refine ⟨trivial,fun c cs hr=>?_⟩
 let b : Frame:={ (default : Frame) with fn:=f,kind:=.normal,roundOf:=some l }
 have hb0 : Frame.round l f tmps assign body .normal = b.atR { tmps:=tmps,defers:=[] } [.code assign,.beginRound,.code body]:=by
  simp [Frame.round,Frame.atR,b]
 have hF : (Fr none).inRound l = Fr (some l):=rfl
 have hr' : (Fr (some l)).room ((c :: cs).length + 1 + 0):=hr
 have hF' : (Fr (some l)).fn b.fn:=trivial
 obtain ⟨e,a₁,w₁,hq,harr⟩:=h b [.beginRound,.code body] (c :: cs) rfl hF' hr'
 rw [← hb0] at harr
 cases e with
 | normal =>
  obtain ⟨w₂,hbr,hbody⟩:=hq
  have s1 : StepsIn (Machine.fenced P (Fr (some l))) P (lone (b.atR a₁ [.beginRound,.code body]) (c :: cs) w₁) (lone (b.atR a₁ [.code body]) (c :: cs) w₂) :=
   .one (fenced_calm (fr:=b.atR a₁ [.beginRound,.code body]) hF' hr' rfl) (stepR_beginRound rfl hbr)
  obtain ⟨e₂,a₂,w₃,hq₂,harr₂⟩:=hbody b [] (c :: cs) rfl hF' hr'
  cases e₂ with
  | normal =>
   obtain ⟨v,w₄,hend,hR⟩:=hq₂
   exact ⟨.returned v,w₄,hR,(StepsIn.trans harr s1).trans (StepsIn.trans harr₂ (.one (fenced_calm (fr:=b.atR a₂ []) hF' hr' rfl) (stepR_round_end rfl rfl hend)))⟩
  | ret =>
   obtain ⟨v,w₄,hend,hR⟩:=hq₂
   obtain ⟨k₁,hs⟩:=harr₂.2 rfl
   exact ⟨.returned v,w₄,hR,(StepsIn.trans harr s1).trans (StepsIn.trans hs (.one (fenced_calm (fr:=b.atR a₂ (.code .ret :: k₁)) hF' hr' rfl) (stepR_round_ret rfl rfl hend)))⟩
  | exit id =>
   obtain ⟨v,w₄,hend,hR⟩:=hq₂
   obtain ⟨k₁,hk,hs⟩:=harr₂.2 rfl rfl
   exact ⟨.returned v,w₄,hR,(StepsIn.trans harr s1).trans (StepsIn.trans hs (.one (fenced_calm (fr:=b.atR a₂ (.code (.exit id) :: k₁)) hF' hr' rfl) (stepR_round_exit rfl rfl hk hend)))⟩
  | goto t =>
   obtain ⟨v,w₄,hend,hR⟩:=hq₂
   obtain ⟨k₁,hk,hs⟩:=harr₂.2 rfl rfl
   exact ⟨.returned v,w₄,hR,(StepsIn.trans harr s1).trans (StepsIn.trans hs (.one (fenced_calm (fr:=b.atR a₂ (.code (.goto t) :: k₁)) hF' hr' rfl) (stepR_round_goto rfl rfl hk hend)))⟩
  | panic chain =>
   obtain ⟨todo,hs₀⟩:=harr₂
   obtain ⟨e',w'',fr',hR,hs,hfn,hl⟩:=leaves_stepsInM (F:=Fr none) (n:=0) a₂.defers (.panicking chain) w₃ { b.atR a₂ todo with mode:=.panicking chain } (c :: cs) rfl rfl rfl hf rfl trivial hr hq₂
   have h1:=(StepsIn.trans harr s1).trans hs₀
   cases e' with
   | returned v=>exact ⟨.returned v,w'',hR,StepsIn.trans (StepsIn.trans h1 hs) (.one (fenced_leaving (n:=0) trivial hr hl) (step_leave_returned hl))⟩
   | panicked chain'=>exact ⟨.panicked chain',w'',hR,StepsIn.trans (StepsIn.trans h1 hs) (.one (fenced_leaving (n:=0) trivial hr hl) (step_leave_panicked hl))⟩
   | outgrown=>exact ⟨.outgrown,w'',hR,ComesIn.of_steps h1 hs⟩
  | outgrown=>exact hq₂.elim
 | exit id=>exact hq.elim
 | goto t=>exact hq.elim
 | ret=>exact hq.elim
 | panic chain=>exact hq.elim
 | outgrown=>exact hq.elim

def RoundEnd (k l : Nat) (rb : Loop) (rc : Option Code → Loop) (R : AE → List (Nat × ABlk) → Nat → Prop) (ax : AX) (σ : St) : Prop :=
 match ax with
 | .panic x=>finHPanic (fun q _ nx'=>R q [] nx') x σ
 | ax=>∃ j,jumpOf ax = some j ∧ ∃ σ3,St.le σ3 σ ∧ get σ3.hp k = some (.lp l rb) ∧ noTHm σ3.hp = true ∧ R (.ret (.bool j.isNone)) (set σ3.hp k (.lp l (rc j))) σ3.nx
theorem noTHm_lp {k l : Nat} {rc : Loop} : ∀ hp : List (Nat × ABlk),noTHm hp = true → noTHm (set hp k (.lp l rc)) = true:=by
 intro hp
 induction hp with
 | nil=>intro _; rfl
 | cons p r ih =>
  intro hh
  simp only [noTHm,Bool.and_eq_true] at hh
  obtain ⟨i,x⟩:=p
  simp only [set]
  split
  ·simp only [noTHm,noTBm,Bool.true_and]; exact hh.2
  ·simp only [noTHm,Bool.and_eq_true]; exact ⟨hh.1,ih hh.2⟩
theorem leavesPan {P : Program} {fn : Func} {tmps : Array Value} {m m' : Mem} {a : Act} {σ : St} {R : AE → List (Nat × ABlk) → Nat → Prop} {x : AV} {v : Value} (hP : ∀ b,m.Pr b → b < m.w.heap.size) {fo : Option FuncId} (hS : SimT ⟨m.w.heap.size,[],fo⟩ m' a σ) (hle : m.leT m') (hv : Rep m' 0 x v)
  (h : finHPanic (fun q _ nx'=>R q [] nx') x σ) :
  LeavesInM (Fr none) 0 P fn tmps (fun e w'=>∃ m' r hp' nx',m'.w = w' ∧ m.le m' ∧ SimH m' hp' nx' ∧ endOkH m' r e ∧ R r hp' nx') a.defers (.panicking [{ v,recovered:=false }]) m'.w:=by
 refine leavesM (B:=m.w.heap.size) (fun m2=>m.leT m2 ∧ Sim m2 { a with defers:=[] } σ ∧ Rep m2 0 x v) ?_ ?_ (by simp) a.defers m' hS.marks ⟨hle,hS.s,hv⟩
 ·rintro m2 D ⟨h1,h2,h3⟩ hD hB hh
  have h4:=Sim.turn (o':=.deferred none) hD hh rfl rfl h2
  refine ⟨h1.turn (fun hp=>?_) hh rfl rfl,h4,?_⟩
  ·have:=hP D hp
   omega
  ·exact Rep.monoD (turn_kd hh rfl rfl) 0 _ _ h3
 ·rintro m2 ⟨h1,h2,h3⟩
  obtain ⟨_,m3,q,hp',nx',e3,l3,s3,en3,r3⟩:=finHPanic_sound h2 (.refl m2) h3 h
  refine ⟨m3.shrink m,q,[],nx',e3,shrink_le (h1.trans l3.t),shrink_simH (h1.trans l3.t) s3.none rfl,?_,r3⟩
  cases q with
  | ret y=>obtain ⟨_,h5,_⟩:=en3; cases h5
  | panic y =>
   obtain ⟨v',h5,h6⟩:=en3
   exact ⟨v',h5,shrink_rep2 h6⟩

theorem RoundU.ofP {np : Nat} {P : Program} {gl : List (Nat × AV)} {hp : List (Nat × ABlk)} {nx : Nat} {M0 : Mem} {l k : Nat} {rc : Loop} {fnc : Func} {ps : List Tmp} {E : List (Nat × AV)} {xs : List AV} {R : AE → List (Nat × ABlk) → Nat → Prop}
  (hfn : P.funcs[rc.fn]? = some fnc)
  (hgk : get hp k = some (.lp l rc)) (hst : rc.state = .ready) (hps : rc.params = ps.toArray) (hE : ∀ m,KeptU M0 m → ∀ t y,get E t = some y → t < rc.tmps.size ∧ Rep m 0 y (rc.tmps.getD t undef)) (hp' : ∀ p ∈ ps,p < rc.tmps.size) (hxl : xs.length = ps.length)
  (h : ∀ n,AWT ⟨n,[],none⟩ (some l) (fun _=>True) P rc.assign ⟨rc.tmps.size,setAll E ps xs,hp,nx,gl,np,[]⟩
   (fun ax σ'=>ax = .normal ∧ get σ'.hp k = some (.lp l rc) ∧ AWT ⟨n,[],none⟩ (some l) (fun _=>True) P rc.body ⟨σ'.n,σ'.env,set σ'.hp k (.lp l { rc with state:=.busy }),σ'.nx,σ'.gl,σ'.np,σ'.df⟩
    (RoundEnd k l { rc with state:=.busy } (fun j=>{ rc with state:=if j.isNone then .ready else .done,pending:=j }) R))) : RoundU (KeptU M0) P gl l xs hp nx np R:=by
 intro m vs hm hk hv
 obtain ⟨hml,hmP,_⟩:=hm.h.lp hgk
 have hlen:=hv.length
 refine ⟨rc,hml,by rw [hps]; simp [← hxl,hlen],?_⟩
 refine roundIn_of_wpInP hfn ?_
 rw [hps,setTmps_eq]
 have hS : Sim m { tmps:=setTmps rc.tmps ps vs,defers:=[] } ⟨rc.tmps.size,setAll E ps xs,hp,nx,gl,np,[]⟩ :=
  ⟨hm.h,setTmps_size _ _ _,rfl,setTmps_env rfl hp' hv (hE m hk),hm.gl,hm.np⟩
 have hS0 : SimT ⟨m.w.heap.size,[],none⟩ m { tmps:=setTmps rc.tmps ps vs,defers:=[] } ⟨rc.tmps.size,setAll E ps xs,hp,nx,gl,np,[]⟩:=⟨hS,Marks.nil (B:=⟨m.w.heap.size,[],none⟩),Nat.le_refl _⟩
 refine wpB.wide (wpB_mono (h m.w.heap.size m _ hS0 trivial) ?_)
 rintro e a1 w1 ⟨m1,σ1,ax,rfl,l1,s1,hex,rfl,hg1,hbody⟩
 simp only [exOk] at hex
 subst hex
 obtain ⟨h1l,h1P,_,_,_,_,h1t⟩:=s1.s.h.lp hg1
 obtain ⟨t1,t2,t3⟩:=h1t { rc with state:=.busy }
 refine ⟨_,run_beginRound h1l hst,?_⟩
 have s2 : SimT ⟨m.w.heap.size,[],none⟩ (m1.turn l (.loop { rc with state:=.busy })) a1 ⟨σ1.n,σ1.env,set σ1.hp k (.lp l { rc with state:=.busy }),σ1.nx,σ1.gl,σ1.np,σ1.df⟩:=⟨s1.s.of t2 t3,s1.marks.le t1.t,by rw [turn_size]; exact s1.base⟩
 refine wpB.wide (wpB_mono (hbody (m1.turn l (.loop { rc with state:=.busy })) a1 s2 trivial) ?_)
 rintro e a3 w3 ⟨m3',σ3',ax,rfl,l3',s3',hex,hend0⟩
 cases ax with
 | panic x =>
  simp only [exOk] at hex
  obtain ⟨v,rfl,hv'⟩:=hex
  exact leavesPan (fun b hb=>hm.h.Pold b hb) s3' ((l1.trans t1.t).trans l3') hv' hend0
 | normal =>
  obtain ⟨j,hj,σ3,hle3,hg3,hnT,hR⟩:=hend0
  obtain ⟨m3,e3,l3'',s3⟩:=s3'.le hle3
  obtain ⟨h3l,h3P,_,_,_,_,h3t⟩:=s3.s.h.lp hg3
  obtain ⟨u1,u2,u3⟩:=h3t { rc with state:=if j.isNone then .ready else .done,pending:=j }
  have hle : m.leT (m3.turn l (.loop { rc with state:=if j.isNone then .ready else .done,pending:=j })):=((l1.trans t1.t).trans (l3'.trans l3'')).trans u1.t
  simp only [exOk] at hex
  simp only [jumpOf,Option.some.injEq] at hj
  subst hex hj
  rw [← e3]
  exact ⟨_,_,run_endRound none h3l,⟨(m3.turn l _).shrink m,.ret (.bool true),_,_,rfl,shrink_le hle,shrink_simH hle u3 (noTHm_lp _ hnT),⟨_,rfl,by simp only [Rep]; rfl⟩,hR⟩⟩
 | ret =>
  obtain ⟨j,hj,σ3,hle3,hg3,hnT,hR⟩:=hend0
  obtain ⟨m3,e3,l3'',s3⟩:=s3'.le hle3
  obtain ⟨h3l,h3P,_,_,_,_,h3t⟩:=s3.s.h.lp hg3
  obtain ⟨u1,u2,u3⟩:=h3t { rc with state:=if j.isNone then .ready else .done,pending:=j }
  have hle : m.leT (m3.turn l (.loop { rc with state:=if j.isNone then .ready else .done,pending:=j })):=((l1.trans t1.t).trans (l3'.trans l3'')).trans u1.t
  simp only [exOk] at hex
  simp only [jumpOf,Option.some.injEq] at hj
  subst hex hj
  rw [← e3]
  exact ⟨_,_,run_endRound (some .ret) h3l,⟨(m3.turn l _).shrink m,.ret (.bool false),_,_,rfl,shrink_le hle,shrink_simH hle u3 (noTHm_lp _ hnT),⟨_,rfl,by simp only [Rep]; rfl⟩,hR⟩⟩
 | exit id =>
  obtain ⟨j,hj,σ3,hle3,hg3,hnT,hR⟩:=hend0
  obtain ⟨m3,e3,l3'',s3⟩:=s3'.le hle3
  obtain ⟨h3l,h3P,_,_,_,_,h3t⟩:=s3.s.h.lp hg3
  obtain ⟨u1,u2,u3⟩:=h3t { rc with state:=if j.isNone then .ready else .done,pending:=j }
  have hle : m.leT (m3.turn l (.loop { rc with state:=if j.isNone then .ready else .done,pending:=j })):=((l1.trans t1.t).trans (l3'.trans l3'')).trans u1.t
  simp only [exOk] at hex
  simp only [jumpOf,Option.some.injEq] at hj
  subst hex hj
  rw [← e3]
  exact ⟨_,_,run_endRound (some (.exit id)) h3l,⟨(m3.turn l _).shrink m,.ret (.bool false),_,_,rfl,shrink_le hle,shrink_simH hle u3 (noTHm_lp _ hnT),⟨_,rfl,by simp only [Rep]; rfl⟩,hR⟩⟩
end Aw

namespace Aw
open Go
def RoundOkP (Ω : Mem → Prop) (P : Program) (gl : List (Nat × AV)) (n : Nat) (E : List (Nat × AV)) (ps : List Tmp) (assign body : Code) (l k : Nat) (rb : Loop) (rc : Option Code → Loop) : Prop :=
 ∀ ys hp nx Rr,get hp k = some (.lp l (rc none)) → ys.length = ps.length → (∀ b,AWT ⟨b,[],none⟩ (some l) (fun _=>True) P assign ⟨n,setAll E ps ys,hp,nx,gl,k + 1,[]⟩
  (fun ax σ'=>ax = .normal ∧ get σ'.hp k = some (.lp l (rc none)) ∧ AWT ⟨b,[],none⟩ (some l) (fun _=>True) P body ⟨σ'.n,σ'.env,set σ'.hp k (.lp l rb),σ'.nx,σ'.gl,σ'.np,σ'.df⟩
   (RoundEnd k l rb rc Rr))) → RoundU Ω P gl l ys hp nx (k + 1) Rr
theorem AWT.rangeAtP {B : Bs} {r : Option Nat} {Θ : Mem → Prop} [Lasts Θ] {P : Program} {σ : St} {Q : AX → St → Prop} {g : Operand} {ps : List Tmp} {assign body : Code} {it : FuncId} {caps zs xs : List AV} {ob' : Prop} {L L2 : List Nat}
  {hp0 : List (Nat × ABlk)} {E : List (Nat × AV)} {R : Option Code → List (Nat × ABlk) → Nat → Prop} {Rp : AV → Prop} {f0 : FuncId} {fnc : Func} {m m1 : Mem} {a : Act} {mark : List Deferred} {dd : Nat}
  (hfo : B.fn = some f0) (hff : P.funcs[f0]? = some fnc) (hl1 : m.leT m1) (hS1 : SimT B m1 { a with defers:=mark ++ a.defers } σ) (ht : Θ m)
  (hent : ∀ fn,(Instr.enterLoop fn a.tmps ps.toArray assign body r).run P m.w = .ok (m1.w.heap.size,mark) (m1.w.alloc (.loop (recOf a.tmps ps.toArray assign body dd fn .ready none))))
  (hit : ∀ (Ω : Mem → Prop) (_ : LastsU Ω) (l : Nat) (rb : Loop) (rc : Option Code → Loop),
   RoundOkP Ω P σ.gl σ.n E ps assign body l L.length rb rc →
   FnU Ω P σ.gl it (.raw (.func (.yield l) #[] #[]) :: xs) (hp0 ++ [(L.length,.lp l (rc none))]) (L.length + 1 + L2.length) (L.length + 1) fun q hp' nx'=>((∃ x,q = .ret x) ∧ ∃ j,get hp' L.length = some (.lp l (rc j)) ∧ R j hp' nx') ∨ (∃ x,q = .panic x ∧ Rp x ∧ L.length + 1 ≤ nx'))
  (hKp : ∀ x N,σ.nx ≤ N → Rp x → Q (.panic x) ⟨σ.n,σ.env,dels σ.hp (L ++ L2),N,σ.gl,σ.np,σ.df⟩)
  (hK : ∀ j hp' nx',R j hp' nx' → backOku (L.length + 1) hp' nx' = true ∧ (match j with | none=>Q .normal (backBU σ L L2 hp' nx') | some c=>AWT B r Θ P c (backBU σ L L2 hp' nx') Q))
  (hg : ev σ g = some (.clos it caps)) (hz : mapO (fz σ.hp 9) caps = some (ob',zs)) (hob' : ob') (hL : (L ++ L2).all (fun id=>(get σ.hp id).isSome) = true) (hnd : (L ++ L2).Nodup)
  (hhp : viewHp (Aw.pick (L ++ σ.nx :: L2) (σ.nx + 1)) (L.length + 1 + L2.length) σ.hp hp0) (hxs : renL (Aw.pick (L ++ σ.nx :: L2) (σ.nx + 1)) xs = zs) (hE : ∀ t x,get E t = some x → get σ.env t = some (ren (Aw.pick (L ++ σ.nx :: L2) (σ.nx + 1)) x) ∧ small (L.length + 1) x = true) (hp : ∀ p ∈ ps,p < σ.n) :
  wpB B.fn r P (Code.rangeFunc g ps.toArray assign body) (PostT B m Q) a m.w:=by
 have hL' : ∀ id ∈ L ++ L2,(get σ.hp id).isSome = true:=fun id hid=>List.all_eq_true.1 hL id hid
 have hlt : ∀ id ∈ L ++ L2,id < σ.nx:=fun id hid=>by
  obtain ⟨x,hx⟩:=Option.isSome_iff_exists.1 (hL' id hid)
  obtain ⟨ri,hr,_⟩:=hS1.s.h.blk id x hx
  exact rho_lt hS1.s.h hr
 have hnx : get σ.hp σ.nx = none:=by
  cases hh : get σ.hp σ.nx with
  | none=>rfl
  | some x =>
   obtain ⟨ri,hr,_⟩:=hS1.s.h.blk _ x hh
   rw [hS1.s.h.fresh _ (Nat.le_refl _)] at hr
   cases hr
 have hnd2 : (L ++ σ.nx :: L2).Nodup:=by
  rw [List.nodup_append] at hnd ⊢
  refine ⟨hnd.1,List.nodup_cons.2 ⟨fun h=>?_,hnd.2.1⟩,fun x hx y hy=>?_⟩
  ·have:=hlt _ (List.mem_append_right _ h); omega
  ·rcases List.mem_cons.1 hy with rfl | hy
   ·have:=hlt x (List.mem_append_left _ hx); omega
   ·exact hnd.2.2 x hx y hy
 have hmem : ∀ id ∈ (L ++ σ.nx :: L2),id ∈ L ++ L2 ∨ id = σ.nx:=by
  intro id hid
  rcases List.mem_append.1 hid with h | h
  ·exact .inl (List.mem_append_left _ h)
  ·rcases List.mem_cons.1 h with h | h
   ·exact .inr h
   ·exact .inl (List.mem_append_right _ h)
 have htk : (L ++ σ.nx :: L2).take (L.length + 1) = L ++ [σ.nx]:=by
  rw [show L ++ σ.nx :: L2 = (L ++ [σ.nx]) ++ L2 from by simp]
  exact List.take_left' (by simp)
 refine wpB_rangeFunc ?_
 intro fn hfn
 obtain rfl:=hfn f0 hfo
 obtain ⟨l,hl⟩ : ∃ l,l = m1.w.heap.size:=⟨_,rfl⟩
 obtain ⟨rc,hrcd⟩ : ∃ rc : Option Code → Loop,rc = fun j=>recOf a.tmps ps.toArray assign body dd fn (if j.isNone then .ready else .done) j:=⟨_,rfl⟩
 have hrc0 : recOf a.tmps ps.toArray assign body dd fn .ready none = rc none:=by rw [hrcd] <;> rfl
 have hcl:=hS1.s.ev hg
 simp only [Rep] at hcl
 obtain ⟨cv,hgv,hcv⟩:=hcl
 have hgv' : a.eval g = .func (.func it) #[] cv:=hgv
 -- the record, a block of one's own
 have hw : Alloc m1.w (m1.w.alloc (.loop (rc none))) (.loop (rc none)):=⟨rfl,rfl,rfl,rfl⟩
 obtain ⟨ri,hri⟩ : ∃ ri : RI,ri = ⟨m1.w.heap.size,0,0,0,false⟩:=⟨_,rfl⟩
 obtain ⟨m2,hm2⟩ : ∃ m2,m2 = m1.with (m1.w.alloc (.loop (rc none))) σ.nx ri (fun _ _=>False):=⟨_,rfl⟩
 have hU:=Upd.alloc hS1.s.h hw ri (fun _ _=>False) (fun _ _ h=>h.elim)
 have hH2 : SimH m2 (set σ.hp σ.nx (.lp l (rc none))) (σ.nx + 1):=by
  rw [hm2]
  refine hS1.s.h.alloc hw (fun _ _ h=>h.elim) (by rw [hri]) ⟨by rw [hri],?_,?_,by rw [hri,hl],by rw [hri]; exact hw.new⟩
  ·intro h; rw [hri] at h; have:=hS1.s.h.Pold _ h; exact absurd this (Nat.lt_irrefl _)
  ·intro o h
   rw [hri] at h
   rcases h with h | h
   ·have:=hS1.s.h.Fold _ o h; exact absurd this (Nat.lt_irrefl _)
   ·exact h
 rw [← hm2] at hU
 have hk2:=hU.keeps hS1.s.h
 have hl2:=(hU.le hS1.s.h).t
 have hw2 : m2.w = m1.w.alloc (.loop (rc none)):=by rw [hm2] <;> rfl
 have hS2 : SimT B m2 { a with defers:=mark ++ a.defers } ⟨σ.n,σ.env,set σ.hp σ.nx (.lp l (rc none)),σ.nx + 1,σ.gl,σ.np,σ.df⟩:=⟨hS1.s.of hk2 hH2,hS1.marks.le hl2,Nat.le_trans hS1.base hl2.size⟩
 have hL2 : ∀ id ∈ L ++ σ.nx :: L2,(get (set σ.hp σ.nx (.lp l (rc none))) id).isSome = true:=by
  intro id hid
  rw [get_set]
  rcases hmem id hid with h | h
  ·rw [if_neg (by have:=hlt id h; omega)]; exact hL' id h
  ·rw [if_pos h.symm]
   rfl
 have hlen2 : (L ++ σ.nx :: L2).length = L.length + 1 + L2.length:=by simp; omega
 have hnl : L.length + 1 ≤ (L ++ σ.nx :: L2).length:=by omega
 have hz2 : mapO (fz (set σ.hp σ.nx (.lp l (rc none))) 9) caps = some (ob',zs) → True:=fun _=>trivial
 have hargs0 : RepL m2 0 caps cv.toList:=RepL.mono hk2 0 _ _ hcv
 have hzs1 : RepL m1 0 zs cv.toList:=mapO_sound (m:=m1) (m':=m1) (k:=0) (f:=fz σ.hp 9) (fun x y v ob h hob hv=>fz_sound hS1.s.h 9 x y v ob h hob hv) hz hob' hcv
 have hzs : RepL m2 0 zs cv.toList:=RepL.mono hk2 0 _ _ hzs1
 have hview : viewHp (Aw.pick (L ++ σ.nx :: L2) (σ.nx + 1)) (L ++ σ.nx :: L2).length (set σ.hp σ.nx (.lp l (rc none))) (hp0 ++ [(L.length,.lp l (rc none))]):=by
  rw [hlen2]
  exact viewHp_snoc (c:=.lp l (rc none)) hnx (by omega) pick_mid rfl hhp
 obtain ⟨hstart,hargs⟩ : StartU (m2.innerU (L ++ σ.nx :: L2) (σ.nx + 1) (L.length + 1)) σ.gl (hp0 ++ [(L.length,.lp l (rc none))]) (L ++ σ.nx :: L2).length (L.length + 1) ∧ RepL (m2.innerU (L ++ σ.nx :: L2) (σ.nx + 1) (L.length + 1)) 0 xs cv.toList:=by
  have hM:=innerH_map hH2 hL2
  have hP : KP m2 (m2.innerU (L ++ σ.nx :: L2) (σ.nx + 1) (L.length + 1)):=⟨fun b hb=>hM.Pr b hb,fun _ _=>rfl⟩
  have hF : KF m2 (m2.innerU (L ++ σ.nx :: L2) (σ.nx + 1) (L.length + 1)):=⟨fun _ _ h=>h,fun _ _ _=>rfl⟩
  refine ⟨⟨(innerH_simH hH2 hL2 hnd2 hview).npf _,fun g x hg=>Rep.monoK hF 1 (fun _=>hP) (Nat.le_refl 1) _ _ (hS2.s.gl g x hg),rfl,hnl⟩,?_⟩
  rw [← hxs] at hzs
  have:=RepL.map hM xs cv.toList (RepL.ren xs cv.toList hzs)
  rw [renL_id] at this
  exact this.npf _ rfl
 have hM : MapOk (m2.ren (Aw.pick (L ++ σ.nx :: L2) (σ.nx + 1))) (m2.innerU (L ++ σ.nx :: L2) (σ.nx + 1) (L.length + 1)) (fun i=>i):=innerU_map hH2 hL2
 have hsz : a.tmps.size = σ.n:=hS1.s.n
 have hE0 : ∀ m3,KeptU (m2.innerU (L ++ σ.nx :: L2) (σ.nx + 1) (L.length + 1)) m3 → ∀ t y,get E t = some y → t < (rc none).tmps.size ∧ Rep m3 0 y ((rc none).tmps.getD t undef):=by
  intro m3 hk3 t y hy
  obtain ⟨hE1,hE2⟩:=hE t y hy
  obtain ⟨h1,h2⟩:=hS2.s.env t _ hE1
  rw [show (rc none).tmps = a.tmps by rw [hrcd]; rfl]
  refine ⟨by rw [hsz]; exact h1,?_⟩
  have:=Rep.map hM y _ (Rep.ren y _ h2)
  rw [ren_id] at this
  exact Rep.monoS ⟨hk3.Pr,hk3.block,hk3.F,hk3.cell,hk3.ρ⟩ y _ hE2 this
 have hsz0 : (rc none).tmps.size = σ.n:=by rw [hrcd]; exact hsz
 have hc:=hit (KeptU (m2.innerU (L ++ σ.nx :: L2) (σ.nx + 1) (L.length + 1))) inferInstance l ⟨.busy,(rc none).pending,(rc none).fn,(rc none).tmps,(rc none).params,(rc none).assign,(rc none).body,(rc none).defers⟩ rc (fun ys hp' nx' Rr hgk hyl h=>by
  refine RoundU.ofP (k:=L.length) (rc:=rc none) (ps:=ps) (E:=E) (fnc:=fnc) (by rw [hrcd]; exact hff) hgk (by rw [hrcd]; rfl) (by rw [hrcd]; rfl) hE0 (fun p hp''=>by rw [hsz0]; exact hp p hp'') hyl fun n=>?_
  have h:=h n
  rw [hsz0]
  rw [← show (rc none).assign = assign by rw [hrcd]; rfl,← show (rc none).body = body by rw [hrcd]; rfl] at h
  have hj : (fun j : Option Code=>({ rc none with state:=if j.isNone then .ready else .done,pending:=j } : Loop)) = rc:=by rw [hrcd] <;> rfl
  rw [hj]
  exact h)
 refine ⟨l,mark,m2.w,{ target:=.fn (.func it) cv,args:=#[.func (.yield l) #[] #[]] },m2.w,it,#[.func (.yield l) #[] #[]] ++ cv,m2.w,?_,?_,?_,?_,fun hh=>(by cases hh),?_⟩
 ·rw [hl,hw2,← hrc0]; exact hent fn
 ·simp only [resolve,hgv']
  simp [go_sem]
 ·intro _ _; trivial
 ·simp only [invoke]
  exact hc.enters _ _
 ·have hcall:=hc.calls (m2.innerU (L ++ σ.nx :: L2) (σ.nx + 1) (L.length + 1)) (.func (.yield l) #[] #[] :: cv.toList) (by rw [← hlen2]; exact hstart) ⟨rfl,fun _ h=>h,fun _ _=>rfl,fun _ _ h=>h,fun _ _ _=>rfl,fun _ _ _ h=>h⟩ (by
   simp only [RepL]
   exact ⟨_,_,rfl,by simp only [Rep],hargs⟩)
  have e2 : (m2.innerU (L ++ σ.nx :: L2) (σ.nx + 1) (L.length + 1)).w = m2.w:=rfl
  have e3 : (Value.func (.yield l) #[] #[] :: cv.toList).toArray = #[.func (.yield l) #[] #[]] ++ cv:=by
   apply Array.ext'
   simp
  rw [e2,e3] at hcall
  refine callsIn_fr.2 (hcall.mono ?_)
  rintro e w' ⟨m',q,hp',nx',rfl,hle,hH',hend,⟨⟨x,rfl⟩,j,hgj,hR⟩ | ⟨x,rfl,hRp,hnx'⟩⟩
  rotate_left
  ·obtain ⟨v,rfl,hv⟩:=hend
   obtain ⟨l3,s3,hv3⟩:=backPanU (hp':=[]) hS2 hL2 hnl hle hH'.none (by simp only [backOku,solo,noTHm,Bool.true_and]; exact decide_eq_true hnx') hv
   have hh5:=s3.s.h.sub (hp':=dels σ.hp (L ++ L2)) (fun id x hx=>by
    rw [get_dels_eq] at hx
    split at hx
    ·cases hx
    rename_i hni
    have hne : ¬ id = σ.nx:=fun e=>by rw [e,hnx] at hx; cases hx
    show get (appHp (dels (set σ.hp σ.nx (.lp l (rc none))) (L ++ σ.nx :: L2)) (renHp (bk ((L ++ σ.nx :: L2).take (L.length + 1)) (σ.nx + 1)) [])) id = some x
    rw [get_appHp_eq,get_dels_eq,if_neg (fun h=>(hmem id h).elim hni hne),get_set,if_neg (fun e=>hne e.symm),hx])
   have hs5:=(⟨hh5,s3.s.n,s3.s.defers,s3.s.env,s3.s.gl,s3.s.np⟩ : Sim _ _ ⟨σ.n,σ.env,dels σ.hp (L ++ L2),_,σ.gl,σ.np,σ.df⟩)
   exact ⟨m2.outerH m' ((L ++ σ.nx :: L2).take (L.length + 1)) (σ.nx + 1),_,.panic x,rfl,((hl1.trans hl2).trans l3),⟨hs5,s3.marks,s3.base⟩,⟨v,rfl,hv3⟩,hKp x _ (by show σ.nx ≤ σ.nx + 1 + _; omega) hRp⟩
  obtain ⟨v,rfl,hv⟩:=hend
  obtain ⟨hb,hq⟩:=hK j hp' nx' hR
  obtain ⟨l3,s3,_⟩:=backPanU (y:=.top) (v:=v) hS2 hL2 hnl hle hH' hb (by simp only [Rep])
  obtain ⟨m3,hm3⟩ : ∃ m3,m3 = m2.outerH m' ((L ++ σ.nx :: L2).take (L.length + 1)) (σ.nx + 1):=⟨_,rfl⟩
  rw [← hm3] at l3 s3
  have ew : m'.w = m3.w:=by rw [hm3] <;> rfl
  have hgl : get (backU ⟨σ.n,σ.env,set σ.hp σ.nx (.lp l (rc none)),σ.nx + 1,σ.gl,σ.np,σ.df⟩ (L ++ σ.nx :: L2) (L.length + 1) hp' nx').hp σ.nx = some (.lp l (rc j)):=by
   show get (appHp (dels (set σ.hp σ.nx (.lp l (rc none))) (L ++ σ.nx :: L2)) (renHp (bk ((L ++ σ.nx :: L2).take (L.length + 1)) (σ.nx + 1)) hp')) σ.nx = _
   rw [get_appHp_eq,get_dels_eq,if_pos (by simp),htk]
   have hb1 : bk (L ++ [σ.nx]) (σ.nx + 1) L.length = σ.nx:=by
    unfold bk
    rw [nth_eq]
    simp
   have:=get_renHp_inj (π:=bk (L ++ [σ.nx]) (σ.nx + 1)) (fun i j h=>bk_inj (by rw [← htk]; exact hnd2.sublist (List.take_sublist _ _)) (fun id hid=>by
    rcases List.mem_append.1 hid with h | h
    ·have:=hlt id (List.mem_append_left _ h); omega
    ·simp only [List.mem_singleton] at h; omega) h) hp' L.length
   rw [hb1,hgj] at this
   exact this
  obtain ⟨g1,g2,_⟩:=s3.s.h.lp hgl
  have hH4:=prot_simH s3.s.h hgl
  have hS4 : SimT B (m3.prot l) { a with defers:=mark ++ a.defers } (backBU σ L L2 hp' nx'):=by
   refine ⟨?_,s3.marks.le prot_leT,s3.base⟩
   have h5:=s3.s.of prot_keeps (hH4.sub (hp':=(backBU σ L L2 hp' nx').hp) ?_)
   ·exact h5
   ·intro id x hx
    change get (del (appHp (dels σ.hp (L ++ L2)) (renHp (bk (L ++ [σ.nx]) (σ.nx + 1)) hp')) σ.nx) id = some x at hx
    show get (del (appHp (dels (set σ.hp σ.nx (.lp l (rc none))) (L ++ σ.nx :: L2)) (renHp (bk ((L ++ σ.nx :: L2).take (L.length + 1)) (σ.nx + 1)) hp')) σ.nx) id = some x
    rw [htk]
    rw [get_del] at hx ⊢
    split at hx
    ·cases hx
    rename_i hne
    rw [if_neg hne]
    rw [get_appHp_eq,get_dels_eq] at hx ⊢
    rw [get_set,if_neg hne]
    by_cases hid : id ∈ L ++ L2
    ·rw [if_pos hid] at hx
     rw [if_pos (by rcases List.mem_append.1 hid with h | h <;> simp [h])]
     exact hx
    ·rw [if_neg hid] at hx
     rw [if_neg (fun h=>(hmem id h).elim hid (fun e=>hne e.symm))]
     exact hx
  have hP4 : (m3.prot l).Pr l:=.inr rfl
  have hlP : ¬ m.Pr l:=fun h=>by
   have h':=hS1.s.h.Pold _ (hl1.Pr _ h)
   omega
  have l4 : m.leT ((m3.prot l).turn l (.loop { rc j with state:=.exhausted })):=(((hl1.trans hl2).trans l3).trans prot_leT).turn hlP g1 rfl rfl
  have s4 : SimT B ((m3.prot l).turn l (.loop { rc j with state:=.exhausted })) { a with defers:=mark ++ a.defers } (backBU σ L L2 hp' nx'):=by
   exact ⟨hS4.s.turn hP4 g1 rfl rfl,hS4.marks.turn g1,by rw [turn_size]; exact hS4.base⟩
  refine ⟨j,_,(by rw [ew]; have:=run_endLoop (P:=P) g1 (by rw [hrcd]; cases j <;> simp [recOf]); rw [this]; congr 1; rw [hrcd]; rfl),?_⟩
  cases j with
  | none=>exact ⟨(m3.prot l).turn l (.loop { rc none with state:=.exhausted }),_,.normal,rfl,l4,s4,rfl,hq⟩
  | some c =>
   refine wpB_mono (hq _ _ s4 (Lasts.le l4 ht)) ?_
   intro e a' w' hp
   exact hp.trans l4
end Aw

namespace Aw
open Go
def LeavesB (P : Program) (fn : Func) (tmps : Array Value) (R : Ending → World → Prop) (ds0 : List Deferred) : List Deferred → FrameMode → World → Prop
 | [],u,w=>Go.Leaves P fn tmps R ds0 u w
 | d :: ds,u,w=>u ≠ .run ∧ ∃ r w',d.target = .collected r ∧ (Instr.takeDeferred r).run P w = .ok [] w' ∧ LeavesB P fn tmps R ds0 ds u w'
theorem leaves_stepsB {P : Program} {fn : Func} {tmps : Array Value} {R : Ending → World → Prop} {ds0 : List Deferred} : ∀ (ds : List Deferred) (u : FrameMode) (w : World) (fr : Frame)
  (cs : List Frame),fr.mode = u → fr.defers = ds ++ ds0 → fr.tmps = tmps → P.funcs[fr.fn]? = some fn → fr.kind = .normal → LeavesB P fn tmps R ds0 ds u w →
  ∃ e w' fr',R e w' ∧ Comes P (lone fr cs w) (lone fr' cs w') e ∧ fr'.fn = fr.fn ∧ fr'.leaving P w' e
 | [],u,w,fr,cs,hu,hd,ht,hf,hk,h=>leaves_steps ds0 u w fr cs hu hd ht hf hk h
 | d :: ds,u,w,fr,cs,hu,hd,ht,hf,hk,h=>by
  obtain ⟨hrun,r,w',htar,htake,hrest⟩:=h
  have h1:=step_collected (cs:=cs) (hu ▸ hrun) hd htar htake
  obtain ⟨e',w'',fr',hR',hs',hfn',hl'⟩:=leaves_stepsB ds u w' { fr with defers:=[] ++ (ds ++ ds0) } cs hu rfl ht hf hk hrest
  exact ⟨e',w'',fr',hR',Comes.of_steps (.one h1) hs',hfn',hl'⟩
def bodyPostB (P : Program) (fn : Func) (R : Ending → World → Prop) : Exit → Act → World → Prop
 | .normal,a,w | .ret,a,w=>∃ ms ds,a.defers = ms ++ ds ∧ LeavesB P fn a.tmps R ds ms .returning w
 | .panic chain,a,w=>∃ ms ds,a.defers = ms ++ ds ∧ LeavesB P fn a.tmps R ds ms (.panicking chain) w
 | .outgrown,_,w=>R .outgrown w
 | _,_,_=>False
theorem calls_of_wpB {P : Program} {f : FuncId} {fn : Func} {c : Code} {args : Array Value} {w : World} {R : Ending → World → Prop}
  (hf : P.funcs[f]? = some fn) (hb : fn.body = some c)
  (h : wpB (some f) none P c (bodyPostB P fn R) { tmps:=args ++ Array.replicate (fn.ntmps - args.size) undef,defers:=[] } w) : Calls P f args w R:=by
 intro cs
 let b : Frame:={ (default : Frame) with fn:=f,kind:=.normal,roundOf:=none }
 have henter : Frame.enter P f args .normal =
   b.atR { tmps:=args ++ Array.replicate (fn.ntmps - args.size) undef,defers:=[] } [.code c]:=by
  simp [Frame.enter,Frame.atR,hf,hb,b]
 obtain ⟨e,a',w',hq,harr⟩:=h b [] cs rfl (fun g hg=>by cases hg; rfl)
 rw [← henter] at harr
 cases e with
 | normal =>
  obtain ⟨ms,ds,hd,hq⟩:=hq
  obtain ⟨e',w'',fr',hR,hs,hfn,hl⟩:=leaves_stepsB ms .returning w' { b.atR a' [] with mode:=.returning } cs rfl hd rfl hf rfl hq
  exact ⟨e',w'',fr',hR,Comes.of_steps (Steps.trans (StepsIn.steps harr) (.one (stepR_end rfl))) hs,hfn,hl⟩
 | ret =>
  obtain ⟨ms,ds,hd,hq⟩:=hq
  obtain ⟨todo,hs₀⟩:=harr.1 rfl
  obtain ⟨e',w'',fr',hR,hs,hfn,hl⟩:=leaves_stepsB ms .returning w' { b.atR a' todo with mode:=.returning } cs rfl hd rfl hf rfl hq
  exact ⟨e',w'',fr',hR,Comes.of_steps (StepsIn.steps hs₀) hs,hfn,hl⟩
 | panic chain =>
  obtain ⟨ms,ds,hd,hq⟩:=hq
  obtain ⟨todo,hs₀⟩:=harr
  obtain ⟨e',w'',fr',hR,hs,hfn,hl⟩:=leaves_stepsB ms (.panicking chain) w' { b.atR a' todo with mode:=.panicking chain } cs rfl hd rfl hf rfl hq
  exact ⟨e',w'',fr',hR,Comes.of_steps (StepsIn.steps hs₀) hs,hfn,hl⟩
 | exit id=>exact hq.elim
 | goto l=>exact hq.elim
 | outgrown=>exact ⟨.outgrown,w',b,hq,harr.resolve_left (by simp [b]),rfl,trivial⟩
theorem leaves_mono {P : Program} {fn : Func} {tmps : Array Value} {R R' : Ending → World → Prop} (hr : ∀ e w,R e w → R' e w) : ∀ (ds : List Deferred) (u : FrameMode) (w : World),Go.Leaves P fn tmps R ds u w → Go.Leaves P fn tmps R' ds u w
 | [],.returning,w,h=>let ⟨v,h1,h2⟩:=h; ⟨v,h1,hr _ _ h2⟩
 | [],.panicking chain,w,h=>hr _ _ h
 | [],.run,w,h=>h.elim
 | d :: ds,u,w,h=>by
  obtain ⟨h1,fv,cap,f,args,h2,h3,h4⟩:=h
  refine ⟨h1,fv,cap,f,args,h2,h3,h4.mono ?_⟩
  intro e u' w' h5
  cases e with
  | returned v=>exact leaves_mono hr ds _ _ h5
  | panicked chain=>exact leaves_mono hr ds _ _ h5
  | outgrown=>exact hr _ _ h5
theorem leavesBs {B : Nat} {P : Program} {fn : Func} {tmps : Array Value} {R : Ending → World → Prop} {u : FrameMode} (Φ : Mem → Prop) (ds0 : List Deferred)
  (hΦ : ∀ m D,Φ m → m.Pr D → B ≤ D → m.w.heap[D]? = some (.deferred (some [])) → Φ (m.turn D (.deferred none))) (hend : ∀ m,Φ m → Go.Leaves P fn tmps R ds0 u m.w) (hu : u ≠ .run) :
  ∀ (ds : List Deferred) (m : Mem),MarksL B m ds → Φ m → LeavesB P fn tmps R ds0 ds u m.w
 | [],m,_,h=>hend m h
 | d :: ds,m,hM,h=>by
  obtain ⟨D,h1,h2,h3,h4⟩:=hM.1 d List.mem_cons_self
  refine ⟨hu,D,_,h1,run_takeDeferred h4,?_⟩
  refine leavesBs Φ ds0 hΦ hend hu ds (m.turn D (.deferred none)) ⟨fun e he=>?_,(List.pairwise_cons.1 hM.2).2⟩ (hΦ m D h h3 h2 h4)
  obtain ⟨D',g1,g2,g3,g4⟩:=hM.1 e (List.mem_cons_of_mem _ he)
  have hne : D' ≠ D:=by
   intro e'
   have:=(List.pairwise_cons.1 hM.2).1 e he
   rw [h1,g1,e'] at this
   exact this rfl
  exact ⟨D',g1,g2,g3,(turn_heap hne).trans g4⟩
section
variable {P : Program} {gl : List (Nat × AV)} {f : FuncId} {fn : Func} {c x1 x2 y : Code} {xs : List AV} {hp : List (Nat × ABlk)} {nx : Nat}
theorem finD_leaves {m m' : Mem} {n : Nat} {ds : List Deferred} {fo : Option FuncId} {a' : Act} {σ' : St} {ax : AX} {e : Exit} {R : AE → Prop} (hP : ∀ b,m.Pr b → b < n) (hle : m.leT m') (hS' : SimT ⟨n,ds,fo⟩ m' a' σ') (hex : exOk m' ax e) (hq : finD P fn R ax σ') :
  bodyPostB P fn (fun e w'=>∃ m' r,m'.w = w' ∧ m.le m' ∧ (∀ b o,m'.F b o → b < m'.w.heap.size) ∧ endOk m' r e ∧ R r) e a' m'.w:=by
 obtain ⟨ms,hd,hM⟩:=hS'.marks
 have hsim : Sim m' { a' with defers:=ds } σ':=hS'.s
 have fin : ∀ (m2 m3 : Mem) (e : Ending),m.leT m2 → m2.le m3 → ∀ q,(∀ b o,m3.F b o → b < m3.w.heap.size) → endOk m3 q e → R q → ∃ m' r,m'.w = m3.w ∧ m.le m' ∧ (∀ b o,m'.F b o → b < m'.w.heap.size) ∧ endOk m' r e ∧ R r:=by
  intro m2 m3 e h1 l3 q f3 en3 r3
  refine ⟨m3.shrink m,q,rfl,shrink_le (h1.trans l3.t),f3,?_,r3⟩
  cases q with
  | ret z=>obtain ⟨v',h1,h2⟩:=en3; exact ⟨v',h1,shrink_rep2 h2⟩
  | panic z=>obtain ⟨v',h1,h2⟩:=en3; exact ⟨v',h1,shrink_rep2 h2⟩
 have mono : ∀ (m2 : Mem) (u : FrameMode),m.leT m2 → Go.Leaves P fn a'.tmps (fun e w'=>∃ m' r,m'.w = w' ∧ m2.le m' ∧ (∀ b o,m'.F b o → b < m'.w.heap.size) ∧ endOk m' r e ∧ R r) ds u m2.w →
   Go.Leaves P fn a'.tmps (fun e w'=>∃ m' r,m'.w = w' ∧ m.le m' ∧ (∀ b o,m'.F b o → b < m'.w.heap.size) ∧ endOk m' r e ∧ R r) ds u m2.w:=by
  intro m2 u h1 h
  refine leaves_mono ?_ _ _ _ h
  rintro e w' ⟨m3,q,rfl,l3,f3,en3,r3⟩
  exact fin m2 m3 e h1 l3 q f3 en3 r3
 have turned : ∀ (m2 : Mem) (D : Nat),(m.leT m2 ∧ Sim m2 { a' with defers:=ds } σ') → m2.Pr D → n ≤ D → m2.w.heap[D]? = some (.deferred (some [])) → m.leT (m2.turn D (.deferred none)) ∧ Sim (m2.turn D (.deferred none)) { a' with defers:=ds } σ':=by
  rintro m2 D ⟨h1,h2⟩ hD hB hh
  refine ⟨h1.turn (fun hp=>?_) hh rfl rfl,h2.turn hD hh rfl rfl⟩
  have:=hP D hp
  omega
 have ret : LeaveS P fn .ret σ' R → ∃ ms ds,a'.defers = ms ++ ds ∧ LeavesB P fn a'.tmps (fun e w'=>∃ m' r,m'.w = w' ∧ m.le m' ∧ (∀ b o,m'.F b o → b < m'.w.heap.size) ∧ endOk m' r e ∧ R r) ds ms .returning m'.w:=by
  intro hq
  refine ⟨ms,ds,hd,leavesBs (B:=n) (fun m2=>m.leT m2 ∧ Sim m2 { a' with defers:=ds } σ') ds turned ?_ (by simp) ms m' hM ⟨hle,hsim⟩⟩
  rintro m2 ⟨h1,h2⟩
  exact mono m2 _ h1 (hq m2 m2 _ .returning (.refl m2) h2 rfl)
 cases ax with
 | normal =>
  simp only [exOk] at hex
  subst hex
  exact ret hq
 | ret =>
  simp only [exOk] at hex
  subst hex
  exact ret hq
 | exit id=>exact hq.elim
 | panic x =>
  simp only [exOk] at hex
  obtain ⟨v,rfl,hv⟩:=hex
  obtain ⟨ob,z,hc,hob,hq⟩:=hq
  refine ⟨ms,ds,hd,leavesBs (B:=n) (fun m2=>(m.leT m2 ∧ Sim m2 { a' with defers:=ds } σ') ∧ Rep m2 0 x v) ds ?_ ?_ (by simp) ms m' hM ⟨⟨hle,hsim⟩,hv⟩⟩
  ·rintro m2 D ⟨h1,h3⟩ hD hB hh
   exact ⟨turned m2 D h1 hD hB hh,Rep.monoD (turn_kd hh rfl rfl) 0 _ _ h3⟩
  ·rintro m2 ⟨⟨h1,h2⟩,h3⟩
   obtain ⟨m3,g1,_,g3,g4,g5⟩:=frzs_sound (rids σ'.hp 9 x) h2.h
   have hrep:=shr_sound g5 false ⟨fun _ _ h=>h,fun _ _ _=>rfl⟩ rfl (fun h=>by cases h) 9 x z v ob hc hob (Rep.mono g4 0 _ _ h3)
   have:=hq m3 m3 _ (.panicking [{ v,recovered:=false }]) (.refl m3) (h2.of g4 g5) ⟨v,rfl,hrep⟩
   have h4 : Go.Leaves P fn a'.tmps (fun e w'=>∃ m' r,m'.w = w' ∧ m.le m' ∧ (∀ b o,m'.F b o → b < m'.w.heap.size) ∧ endOk m' r e ∧ R r) ds (.panicking [{ v,recovered:=false }]) m3.w:=mono m3 _ (h1.trans g3.t) this
   rw [g1] at h4
   exact h4
theorem FnP.introN {R : AE → Prop} (hf : P.funcs[f]? = some fn) (hname : (fn.name == "runtime.NumGoroutine") = false) (hb : fn.body = some (.seq x1 (.seq x2 y))) (hn : xs.length ≤ fn.ntmps)
  (h : AW P x1 ⟨fn.ntmps,argEnv 0 xs,[],0,gl,0,[]⟩ (fun ax σ1=>ax = .normal ∧ AW P x2 σ1 (fun ax σ2=>ax = .normal ∧ ∀ n ds,AWT ⟨n,ds,some f⟩ none (fun _=>True) P y σ2 (finD P fn R)))) : FnP P gl f xs R:=by
 refine ⟨enters_of hf hname hb,fun m vs hm hv=>?_⟩
 refine calls_of_wpB hf hb ?_
 have hm' : StartH m gl [] 0:=⟨⟨fun id x h=>by simp [Aw.get] at h,fun id id' x x' _ _ h=>by simp [Aw.get] at h,fun id _=>hm.ρ id,hm.Fold,hm.Pold⟩,hm.gl,hm.np⟩
 have hS:=simArgs (fn:=fn) hm' (hv.down (Nat.zero_le 1)) hn
 refine wpB_seq (wpB.of (wpIn_wide.2 (wp_mono (h m _ hS) ?_)))
 rintro e a1 w1 ⟨m1,σ1,ax,rfl,l1,s1,hex,rfl,h2⟩
 simp only [exOk] at hex
 subst hex
 refine wpB_seq (wpB.of (wpIn_wide.2 (wp_mono (h2 m1 _ s1) ?_)))
 rintro e a2 w2 ⟨m2,σ2,ax,rfl,l2,s2,hex,rfl,h3⟩
 simp only [exOk] at hex
 subst hex
 have hS2 : SimT ⟨m.w.heap.size,a2.defers,some f⟩ m2 a2 σ2:=⟨s2,Marks.nil (B:=⟨m.w.heap.size,a2.defers,some f⟩),Nat.le_trans l1.size l2.size⟩
 refine wpB_mono (h3 m.w.heap.size a2.defers m2 a2 hS2 trivial) ?_
 rintro e a3 w3 ⟨m3,σ3,ax,rfl,l3,s3,hex,hq⟩
 exact finD_leaves (fun b hb=>hm.Pold b hb) (l1.t.trans (l2.t.trans l3)) s3 hex hq
def finU (P : Program) (rs : List ResultVar) (R : AE → List (Nat × ABlk) → Nat → Prop) (x : AX) (σ : St) : Prop :=
 match x with
 | .normal=>finHRet P rs R σ
 | .ret=>finHRet P rs R σ
 | .panic x=>finHPanic (fun q _ nx'=>R q [] nx') x σ
 | .exit _=>False
theorem finU_ret (P : Program) (rs : List ResultVar) (R : AE → List (Nat × ABlk) → Nat → Prop) (σ : St) : finU P rs R .ret σ = finHRet P rs R σ:=rfl
theorem finU_nrm (P : Program) (rs : List ResultVar) (R : AE → List (Nat × ABlk) → Nat → Prop) (σ : St) : finU P rs R .normal σ = finHRet P rs R σ:=rfl
theorem finU_pan (P : Program) (rs : List ResultVar) (R : AE → List (Nat × ABlk) → Nat → Prop) (x : AV) (σ : St) : finU P rs R (.panic x) σ = finHPanic (fun q _ nx'=>R q [] nx') x σ:=rfl
theorem callsN {Θ : Mem → Prop} {np : Nat} {R : AE → List (Nat × ABlk) → Nat → Prop} (hf : P.funcs[f]? = some fn) (hb : fn.body = some c) (hn : xs.length ≤ fn.ntmps)
  (hT : ∀ x hp' nx',R (.ret x) hp' nx' → noTHm hp' = true ∧ noT x = true)
  (h : ∀ n,AWT ⟨n,[],some f⟩ none Θ P c ⟨fn.ntmps,argEnv 0 xs,hp,nx,gl,np,[]⟩ (finU P fn.results.toList R)) {m : Mem} {vs : List Value} (hm : StartU m gl hp nx np) (ht : Θ m) (hv : RepL m 0 xs vs) :
  Calls P f vs.toArray m.w fun e w'=>∃ m' r hp' nx',m'.w = w' ∧ m.le m' ∧ SimH m' hp' nx' ∧ endOkH m' r e ∧ R r hp' nx':=by
 refine calls_of_wpB hf hb ?_
 have hS0:=simArgsU (fn:=fn) hm hv hn
 have hS : SimT ⟨m.w.heap.size,[],some f⟩ m { tmps:=vs.toArray ++ Array.replicate (fn.ntmps - vs.toArray.size) undef,defers:=[] } ⟨fn.ntmps,argEnv 0 xs,hp,nx,gl,np,[]⟩:=⟨hS0,Marks.nil (B:=⟨m.w.heap.size,[],some f⟩),Nat.le_refl _⟩
 refine wpB_mono (h m.w.heap.size m _ hS ht) ?_
 rintro e a' w' ⟨m',σ',ax,rfl,hle,hS',hex,hq⟩
 obtain ⟨ms,hd,hM⟩:=hS'.marks
 have hsim : Sim m' { a' with defers:=[] } σ':=hS'.s
 have turned : ∀ (m2 : Mem) (D : Nat),(m.leT m2 ∧ Sim m2 { a' with defers:=[] } σ') → m2.Pr D → m.w.heap.size ≤ D → m2.w.heap[D]? = some (.deferred (some [])) → m.leT (m2.turn D (.deferred none)) ∧ Sim (m2.turn D (.deferred none)) { a' with defers:=[] } σ':=by
  rintro m2 D ⟨h1,h2⟩ hD hB hh
  refine ⟨h1.turn (fun hp=>?_) hh rfl rfl,h2.turn hD hh rfl rfl⟩
  have:=hm.h.Pold D hp
  omega
 have ret : finHRet P fn.results.toList R σ' → ∃ ms ds,a'.defers = ms ++ ds ∧ LeavesB P fn a'.tmps (fun e w'=>∃ m' r hp' nx',m'.w = w' ∧ m.le m' ∧ SimH m' hp' nx' ∧ endOkH m' r e ∧ R r hp' nx') ds ms .returning m'.w:=by
  intro hq
  refine ⟨ms,[],hd,leavesBs (B:=m.w.heap.size) (fun m2=>m.leT m2 ∧ Sim m2 { a' with defers:=[] } σ') [] turned ?_ (by simp) ms m' hM ⟨hle,hsim⟩⟩
  rintro m2 ⟨h1,h2⟩
  obtain ⟨_,v,hrun,m3,q,hp',nx',e3,l3,s3,en3,r3⟩:=finHRet_sound h2 (.refl m2) hq
  cases q with
  | ret x =>
   obtain ⟨k1,k2⟩:=hT _ _ _ r3
   obtain ⟨v',h5,h6⟩:=en3
   exact ⟨v,hrun,m3.shrink m,.ret x,hp',nx',e3,shrink_le (h1.trans l3.t),shrink_simH (h1.trans l3.t) s3 k1,⟨v',h5,shrink_rep k2 h6⟩,r3⟩
  | panic x=>obtain ⟨_,h5,_⟩:=en3; cases h5
 cases ax with
 | normal =>
  simp only [exOk] at hex
  subst hex
  exact ret hq
 | ret =>
  simp only [exOk] at hex
  subst hex
  exact ret hq
 | exit id=>exact hq.elim
 | panic x =>
  simp only [exOk] at hex
  obtain ⟨v,rfl,hv⟩:=hex
  refine ⟨ms,[],hd,leavesBs (B:=m.w.heap.size) (fun m2=>(m.leT m2 ∧ Sim m2 { a' with defers:=[] } σ') ∧ Rep m2 0 x v) [] ?_ ?_ (by simp) ms m' hM ⟨⟨hle,hsim⟩,hv⟩⟩
  ·rintro m2 D ⟨h1,h3⟩ hD hB hh
   exact ⟨turned m2 D h1 hD hB hh,Rep.monoD (turn_kd hh rfl rfl) 0 _ _ h3⟩
  ·rintro m2 ⟨⟨h1,h2⟩,h3⟩
   have hq' : finHPanic (fun q _ nx'=>R q [] nx') x σ':=hq
   obtain ⟨_,m3,q,hp',nx',e3,l3,s3,en3,r3⟩:=finHPanic_sound h2 (.refl m2) h3 hq'
   refine ⟨m3.shrink m,q,[],nx',e3,shrink_le (h1.trans l3.t),shrink_simH (h1.trans l3.t) s3.none rfl,?_,r3⟩
   cases q with
   | ret y=>obtain ⟨_,h5,_⟩:=en3; cases h5
   | panic y =>
    obtain ⟨v',h5,h6⟩:=en3
    exact ⟨v',h5,shrink_rep2 h6⟩
theorem FnU.introN {Θ : Mem → Prop} {np : Nat} {R : AE → List (Nat × ABlk) → Nat → Prop} (hf : P.funcs[f]? = some fn) (hname : (fn.name == "runtime.NumGoroutine") = false) (hb : fn.body = some c) (hn : xs.length ≤ fn.ntmps)
  (hT : ∀ x hp' nx',R (.ret x) hp' nx' → noTHm hp' = true ∧ noT x = true)
  (h : ∀ n,AWT ⟨n,[],some f⟩ none Θ P c ⟨fn.ntmps,argEnv 0 xs,hp,nx,gl,np,[]⟩ (finU P fn.results.toList R)) : FnU Θ P gl f xs hp nx np R :=
 ⟨enters_of hf hname hb,fun _ _ hm ht hv=>callsN hf hb hn hT h hm ht hv⟩
theorem FnK.introN {np : Nat} {R : AE → List (Nat × ABlk) → Nat → Prop} (hf : P.funcs[f]? = some fn) (hname : (fn.name == "runtime.NumGoroutine") = false) (hb : fn.body = some c) (hn : xs.length ≤ fn.ntmps)
  (hT : ∀ x hp' nx',R (.ret x) hp' nx' → noTHm hp' = true ∧ noT x = true)
  (h : ∀ n,AWT ⟨n,[],some f⟩ none (fun _=>True) P c ⟨fn.ntmps,argEnv 0 xs,hp,nx,gl,np,[]⟩ (finU P fn.results.toList R)) : FnK P gl f xs hp nx np R :=
 ⟨enters_of hf hname hb,fun _ _ hm hv=>callsN hf hb hn hT h hm trivial hv⟩
theorem FnU.ofK {Θ : Mem → Prop} {np : Nat} {R : AE → List (Nat × ABlk) → Nat → Prop} (h : FnK P gl f xs hp nx np R) : FnU Θ P gl f xs hp nx np R:=⟨h.enters,fun m vs hm _ hv=>h.calls m vs hm hv⟩
end
end Aw

namespace Aw
open Go
def noGuards (ops : Array Oper) : Bool:=ops.toList.all fun o=>o.guard.isNone
def rowOk (ops : Array Oper) (n : Nat) : Bool :=
 decide (n ≤ ops.size) && (noGuards ops && (noDefers ops.toList && ((List.range ops.size).all fun j=>(bindsAt ops j).all (fun k=>decide (k < j)) && (decide (j < n) || (List.range j).all fun k=>(reach ops 6 j).contains k))))
section
variable {B : Bs} {r : Option Nat} {Θ : Mem → Prop} {P : Program} {ops : Array Oper} {K : St → Prop} {Kp : AV → St → Prop}
def chainT (B : Bs) (r : Option Nat) (Θ : Mem → Prop) (P : Program) (ops : Array Oper) (K : St → Prop) (Kp : AV → St → Prop) : Nat → Nat → St → Prop
 | 0,_,σ=>K σ
 | c + 1,i,σ=>∃ o,ops[i]? = some o ∧ StepT B r Θ P σ o (chainT B r Θ P ops K Kp c (i + 1)) Kp
theorem no_guard {o : Oper} {i : Nat} (h : noGuards ops = true) (ho : ops[i]? = some o) (tm : Array Value) (Y : Array Oper) : Region.wanted o (yielded Y tm) = true:=by
 have : o ∈ ops.toList:=by rw [← Array.getElem?_toList] at ho; exact List.mem_of_getElem? ho
 have:=List.all_eq_true.1 h o this
 simp only [Option.isNone_iff_eq_none] at this
 simp [Region.wanted,this]
structure RowF (ops : Array Oper) (n : Nat) : Prop where
 le : n ≤ ops.size
 ng : noGuards ops = true
 nd : noDefers ops.toList = true
 up : ∀ j,∀ k ∈ bindsAt ops j,k < j
 row : ∀ j,n ≤ j → j < ops.size → ∀ k,k < j → k ∈ reach ops 6 j
theorem rowOk_spec {n : Nat} (h : rowOk ops n = true) : RowF ops n:=by
 simp only [rowOk,Bool.and_eq_true,decide_eq_true_eq] at h
 obtain ⟨h1,h2,h3,h4⟩:=h
 have h5:=List.all_eq_true.1 h4
 refine ⟨h1,h2,h3,fun j k hk=>?_,fun j hn hj k hk=>?_⟩
 ·rcases Nat.lt_or_ge j ops.size with hj | hj
  ·have:=h5 j (List.mem_range.2 hj)
   simp only [Bool.and_eq_true] at this
   exact of_decide_eq_true (List.all_eq_true.1 this.1 k hk)
  ·have : ops[j]? = none:=Array.getElem?_eq_none hj
   simp [bindsAt,this] at hk
 ·have:=h5 j (List.mem_range.2 hj)
  simp only [Bool.and_eq_true,Bool.or_eq_true,decide_eq_true_eq] at this
  rcases this.2 with h | h
  ·omega
  ·have:=List.all_eq_true.1 h k (List.mem_range.2 hk)
   simpa using this
theorem down_of {n : Nat} (F : RowF ops n) {l : Array Bool} {i : Nat} (h1 : ∀ j,j < i → l.getD j false = true) (h2 : ∀ j,i ≤ j → l.getD j false = false) : ∀ j,l.getD j false = true → ∀ k ∈ bindsAt ops j,l.getD k false = true:=by
 intro j hj k hk
 have : j < i:=by
  rcases Nat.lt_or_ge j i with h | h
  ·exact h
  ·rw [h2 j h] at hj; cases hj
 exact h1 k (Nat.lt_trans (F.up j k hk) this)
theorem chain_sound [Lasts Θ] {n : Nat} (F : RowF ops n) {X : Exit → Act → World → Prop} (m0 : Mem)
  (hK : ∀ m a σ,m0.leT m → SimT B m a σ → K σ → X .normal a m.w) (hKp : ∀ m a σ x v,m0.leT m → SimT B m a σ → Rep m 0 x v → Kp x σ → X (.panic [{ v,recovered:=false }]) a m.w) :
  ∀ (c i f : Nat) (l : Array Bool) (σ : St),n ≤ i → i + c = ops.size → c ≤ f → l.size = ops.size → (∀ j,j < i → l.getD j false = true) → (∀ j,i ≤ j → l.getD j false = false) → chainT B r Θ P ops K Kp c i σ →
   ∀ m a,m0.leT m → SimT B m a σ → Θ m → wpAnyIn (Fr r) 0 P .any ops X f l a m.w
 | 0,i,f,l,σ,hn,hc,hf,hl,h1,h2,h,m,a,hle,hS,ht=>by
  have hr : Region.ready .any ops l = []:=by
   rw [List.eq_nil_iff_forall_not_mem]
   intro j hj
   obtain ⟨e,_⟩:=ready_iff.1 hj
   obtain ⟨e1,e2⟩:=getD_tf e
   rw [h1 j (by omega)] at e2
   cases e2
  cases f with
  | zero=>exact ⟨hr,hK m a σ hle hS h⟩
  | succ f=>exact ⟨fun _=>hK m a σ hle hS h,fun j hj=>by rw [hr] at hj; cases hj⟩
 | c + 1,i,f,l,σ,hn,hc,hf,hl,h1,h2,h,m,a,hle,hS,ht=>by
  obtain ⟨o,ho,hst⟩:=h
  obtain ⟨f,rfl⟩ : ∃ f',f = f' + 1:=⟨f - 1,by omega⟩
  have hd:=down_of F h1 h2
  have hir : i ∈ Region.ready .any ops l:=by
   refine ready_iff.2 ⟨getD_ft (by omega) (h2 i (Nat.le_refl _)),o,ho,fun k hk=>h1 k ?_⟩
   exact F.up i k (by rw [bindsAt_of ho]; exact hk)
  refine ⟨fun h0=>(by rw [h0] at hir; cases hir),fun j hj=>?_⟩
  have hji : j = i:=by
   obtain ⟨e,oj,hoj,hbj⟩:=ready_iff.1 hj
   obtain ⟨e1,e2⟩:=getD_tf e
   rcases Nat.lt_trichotomy j i with hlt | he | hgt
   ·rw [h1 j hlt] at e2; cases e2
   ·exact he
   ·have hm:=reach_listed hd 6 j (by rw [bindsAt_of hoj]; exact hbj) i (F.row j (by omega) (by omega) i hgt)
    rw [h2 i (Nat.le_refl _)] at hm
    cases hm
  subst hji
  unfold wpOpIn
  rw [ho]
  simp only
  rw [if_pos (no_guard F.ng ho _ _)]
  refine hst m a _ _ hS ht (fun m' a' σ' hle' hS' hk=>?_) (fun m' σ' x v hle' hS' hx hk=>hKp m' a σ' x v (hle.trans hle') hS' hx hk)
  refine chain_sound F m0 hK hKp c (j + 1) f _ σ' (by omega) (by omega) (by omega) (by simpa using hl) (fun k hk=>?_) (fun k hk=>?_) hk m' a' (hle.trans hle') hS' (Lasts.le hle' ht)
  ·rw [getD_setB (by omega)]
   split
   ·rfl
   ·exact h1 k (by omega)
  ·rw [getD_setB (by omega),if_neg (by omega)]
   exact h2 k (by omega)
theorem least_not {n : Nat} {p : Nat → Prop} (h : ∃ j,j < n ∧ ¬ p j) : ∃ j,j < n ∧ ¬ p j ∧ ∀ k,k < j → p k:=by
 obtain ⟨j,hj,hp⟩:=h
 induction j using Nat.strongRecOn with
 | _ j ih =>
  by_cases hc : ∀ k,k < j → p k
  ·exact ⟨j,hj,hp,hc⟩
  ·obtain ⟨k,hk⟩ : ∃ k,¬ (k < j → p k):=Classical.byContradiction fun hn=>hc fun k=>Classical.byContradiction fun h=>hn ⟨k,h⟩
   have hkj : k < j:=Classical.byContradiction fun h=>hk fun h'=>absurd h' h
   exact ih k hkj (by omega) fun h=>hk fun _=>h
theorem pre_ready {n : Nat} (F : RowF ops n) {l l' : Array Bool} (hl' : l'.size = n) (he : ∀ j,j < n → l.getD j false = l'.getD j false) {j0 : Nat} (h0 : j0 < n) (h1 : ¬ l.getD j0 false = true) (h2 : ∀ k,k < j0 → l.getD k false = true) : j0 ∈ Region.ready .any (ops.extract 0 n) l':=by
 have hle:=F.le
 have hlt : j0 < ops.size:=by omega
 have hpo : (ops.extract 0 n)[j0]? = some ops[j0]:=by
  rw [Array.getElem?_extract,if_pos (by omega),Nat.zero_add]
  exact Array.getElem?_eq_getElem hlt
 refine ready_iff.2 ⟨getD_ft (by omega) (by rw [← he j0 h0]; simpa using h1),_,hpo,fun k hk=>?_⟩
 have hk':=F.up j0 k (by rw [bindsAt_of (Array.getElem?_eq_getElem hlt)]; exact hk)
 rw [← he k (by omega)]
 exact h2 k hk'
theorem pre_sound [Lasts Θ] {n : Nat} (F : RowF ops n) {X : Exit → Act → World → Prop} (m0 : Mem)
  (hK : ∀ m a σ,m0.leT m → SimT B m a σ → K σ → X .normal a m.w) (hKp : ∀ m a σ x v,m0.leT m → SimT B m a σ → Rep m 0 x v → Kp x σ → X (.panic [{ v,recovered:=false }]) a m.w) :
  ∀ (f : Nat) (l' : Array Bool) (σ : St),GAny P (ops.extract 0 n) (fun σ=>∃ σ2,Eqv σ σ2 ∧ chainT B r Θ P ops K Kp (ops.size - n) n σ2) Kp f l' σ → ∀ l : Array Bool,l'.size = n → l.size = ops.size → (∀ j,j < n → l.getD j false = l'.getD j false) → (∀ j,n ≤ j → l.getD j false = false) →
   (∀ j,l.getD j false = true → ∀ k ∈ bindsAt ops j,l.getD k false = true) → ∀ m a,m0.leT m → SimT B m a σ → Θ m → wpAnyIn (Fr r) 0 P .any ops X (f + (ops.size - n)) l a m.w:=by
 intro f
 induction f with
 | zero =>
  intro l' σ h l hl' hl he hn hd m a hle hS ht
  have hall : ∀ j,j < n → l.getD j false = true:=fun j hj=>Classical.byContradiction fun hc=>by
   obtain ⟨j0,h0,h1,h2⟩:=least_not (p:=fun j=>l.getD j false = true) ⟨j,hj,hc⟩
   have:=pre_ready F hl' he h0 h1 h2
   rw [h.1] at this
   cases this
  obtain ⟨σ2,hq,hch⟩:=h.2
  exact chain_sound F m0 hK hKp (ops.size - n) n _ l σ2 (Nat.le_refl _) (by have:=F.le; omega) (by omega) hl hall hn hch m a hle ⟨hS.s.eqv hq,hS.marks,hS.base⟩ ht
 | succ f ih =>
  intro l' σ h l hl' hl he hn hd m a hle hS ht
  by_cases hall : ∀ j,j < n → l.getD j false = true
  ·have hr : Region.ready .any (ops.extract 0 n) l' = []:=by
    rw [List.eq_nil_iff_forall_not_mem]
    intro j hj
    obtain ⟨e,_⟩:=ready_iff.1 hj
    obtain ⟨e1,e2⟩:=getD_tf e
    rw [← he j (by omega),hall j (by omega)] at e2
    cases e2
   obtain ⟨σ2,hq,hch⟩:=h.1 hr
   exact chain_sound F m0 hK hKp (ops.size - n) n _ l σ2 (Nat.le_refl _) (by have:=F.le; omega) (by omega) hl hall hn hch m a hle ⟨hS.s.eqv hq,hS.marks,hS.base⟩ ht
  ·obtain ⟨j0,h0,h1,h2⟩ : ∃ j0,j0 < n ∧ ¬ l.getD j0 false = true ∧ ∀ k,k < j0 → l.getD k false = true:=by
    refine least_not (p:=fun j=>l.getD j false = true) ?_
    exact Classical.byContradiction fun hc=>hall fun j hj=>Classical.byContradiction fun hj2=>hc ⟨j,hj,hj2⟩
   have hr0 : j0 ∈ Region.ready .any ops l:=by
    have hlt : j0 < ops.size:=by have:=F.le; omega
    refine ready_iff.2 ⟨getD_ft (by omega) (by simpa using h1),ops[j0],Array.getElem?_eq_getElem hlt,fun k hk=>h2 k ?_⟩
    exact F.up j0 k (by rw [bindsAt_of (Array.getElem?_eq_getElem hlt)]; exact hk)
   rw [show f + 1 + (ops.size - n) = f + (ops.size - n) + 1 from by omega]
   refine ⟨fun hz=>(by rw [hz] at hr0; cases hr0),fun i hi=>?_⟩
   obtain ⟨e,o,ho,hbi⟩:=ready_iff.1 hi
   obtain ⟨e1,e2⟩:=getD_tf e
   have hin : i < n:=by
    refine Classical.byContradiction fun hc=>?_
    have:=reach_listed hd 6 i (by rw [bindsAt_of ho]; exact hbi) j0 (F.row i (by omega) (by omega) j0 (by omega))
    exact h1 this
   have hpo : (ops.extract 0 n)[i]? = some o:=by
    rw [Array.getElem?_extract]
    have:=F.le
    rw [if_pos (by omega),Nat.zero_add]
    exact ho
   have hir : i ∈ Region.ready .any (ops.extract 0 n) l':=by
    refine ready_iff.2 ⟨getD_ft (by omega) (by rw [← he i hin]; exact e2),o,hpo,fun k hk=>?_⟩
    have hk':=F.up i k (by rw [bindsAt_of ho]; exact hk)
    rw [← he k (by omega)]
    exact hbi k hk
   have hst:=h.2 i hir
   unfold GStep at hst
   rw [hpo] at hst
   simp only at hst
   unfold wpOpIn
   rw [ho]
   simp only
   rw [if_pos (no_guard F.ng ho _ _)]
   have hnd:=noDefers_at F.nd ho
   have hh:=hst m { a with defers:=B.ds } (fun a' w'=>∃ m' σ',m'.w = w' ∧ m.le m' ∧ Sim m' a' σ' ∧ Keeps o σ σ' ∧ GAny P (ops.extract 0 n) (fun σ=>∃ σ2,Eqv σ σ2 ∧ chainT B r Θ P ops K Kp (ops.size - n) n σ2) Kp f (l'.setIfInBounds i true) σ')
    (fun e a' w'=>∃ m' σ' x v,m'.w = w' ∧ e = .panic [{ v,recovered:=false }] ∧ m.le m' ∧ Sim m' { a with defers:=B.ds } σ' ∧ Rep m' 0 x v ∧ Kp x σ') hS.s
    (fun m' a' σ' h1 _ h2 h3 _ h4=>⟨m',σ',rfl,h1,h2,h3,h4⟩) (fun m' σ' x v h1 _ h2 h3 _ h4=>⟨m',σ',x,v,rfl,rfl,h1,h2,h3,h4⟩)
   rw [if_pos (no_guard F.ng ho _ _)] at hh
   refine wpIn_of_wp hnd hh ?_ ?_ ?_
   ·rintro a' w' ⟨m',σ',rfl,g1,g2,g3,g4⟩
    refine ⟨by rw [g2.defers.len,hS.s.defers.len,g3.df],fun hdd=>?_⟩
    refine ih (l'.setIfInBounds i true) σ' g4 (l.setIfInBounds i true) (by simpa using hl') (by simpa using hl) (fun j hj=>?_) (fun j hj=>?_) (fun j hj k hk=>?_) m' _ (hle.trans g1.t) ⟨?_,hS.marks.le g1.t,Nat.le_trans hS.base g1.size⟩ (Lasts.le g1.t ht)
    ·rw [getD_setB (by omega),getD_setB (by omega),he j hj]
    ·rw [getD_setB (by omega),if_neg (by omega)]
     exact hn j hj
    ·rw [getD_setB (by omega)] at hj ⊢
     split
     ·rfl
     ·split at hj
      ·rename_i hij
       subst hij
       exact hbi k (by rw [bindsAt_of ho] at hk; exact hk)
      ·exact hd j hj k hk
    ·have : ({ ({ a' with defers:=a.defers } : Act) with defers:=B.ds } : Act) = a':=by
      cases a'
      simp only at hdd
      subst hdd
      rfl
     rw [this]
     exact g2
   ·rintro e w' ⟨m',σ',x,v,rfl,rfl,g1,g2,g3,g4⟩
    exact hKp m' a σ' x v (hle.trans g1.t) ⟨g2,hS.marks.le g1.t,Nat.le_trans hS.base g1.size⟩ g3 g4
   ·rintro ⟨a',w',_,_,_,_,_,h,_⟩
    cases h
end
end Aw
