/- Rules of a calculus of walks: no condition of its own. -/
import Derived.Test.YtboaclfnjdhcpaaDoorCore33
namespace Aw
open Go
theorem pick_mid {L L2 : List Nat} {nx n : Nat} : Aw.pick (L ++ nx :: L2) n L.length = nx:=by
 unfold Aw.pick
 rw [nth_eq]
 simp
def backBU (σ : St) (L L2 : List Nat) (hp' : List (Nat × ABlk)) (nx' : Nat) : St :=
 ⟨σ.n,σ.env,del (appHp (dels σ.hp (L ++ L2)) (renHp (bk (L ++ [σ.nx]) (σ.nx + 1)) hp')) σ.nx,σ.nx + 1 + (nx' - (L.length + 1)),σ.gl,σ.np,σ.df⟩
theorem AWT.rangeAtU {B : Bs} {r : Option Nat} {Θ : Mem → Prop} [Lasts Θ] {P : Program} {σ : St} {Q : AX → St → Prop} {g : Operand} {ps : List Tmp} {assign body : Code} {it : FuncId} {caps zs xs : List AV} {ob' : Prop} {L L2 : List Nat}
  {hp0 : List (Nat × ABlk)} {E : List (Nat × AV)} {R : Option Code → List (Nat × ABlk) → Nat → Prop} {m m1 : Mem} {a : Act} {mark : List Deferred} {dd : Nat}
  (hl1 : m.leT m1) (hS1 : SimT B m1 { a with defers:=mark ++ a.defers } σ) (ht : Θ m)
  (hent : ∀ fn,(Instr.enterLoop fn a.tmps ps.toArray assign body r).run P m.w = .ok (m1.w.heap.size,mark) (m1.w.alloc (.loop (recOf a.tmps ps.toArray assign body dd fn .ready none))))
  (hit : ∀ (Ω : Mem → Prop) (_ : LastsU Ω) (l : Nat) (rb : Loop) (rc : Option Code → Loop),
   (∀ ys hp nx Rr,get hp L.length = some (.lp l (rc none)) → ys.length = ps.length → AWT 0 (some l) (fun _=>True) P assign ⟨σ.n,setAll E ps ys,hp,nx,σ.gl,L.length + 1,[]⟩
    (fun ax σ'=>ax = .normal ∧ get σ'.hp L.length = some (.lp l (rc none)) ∧ AWT 0 (some l) (fun _=>True) P body ⟨σ'.n,σ'.env,set σ'.hp L.length (.lp l rb),σ'.nx,σ'.gl,σ'.np,σ'.df⟩
     (fun ax σ''=>∃ j,jumpOf ax = some j ∧ ∃ σ3,St.le σ3 σ'' ∧ get σ3.hp L.length = some (.lp l rb) ∧ noTHm σ3.hp = true ∧ Rr (AE.ret (.bool j.isNone)) (set σ3.hp L.length (.lp l (rc j))) σ3.nx)) → RoundU Ω P σ.gl l ys hp nx (L.length + 1) Rr) →
   FnU Ω P σ.gl it (.raw (.func (.yield l) #[] #[]) :: xs) (hp0 ++ [(L.length,.lp l (rc none))]) (L.length + 1 + L2.length) (L.length + 1) fun q hp' nx'=>(∃ x,q = .ret x) ∧ ∃ j,get hp' L.length = some (.lp l (rc j)) ∧ R j hp' nx')
  (hK : ∀ j hp' nx',R j hp' nx' → backOku (L.length + 1) hp' nx' = true ∧ (match j with | none=>Q .normal (backBU σ L L2 hp' nx') | some c=>AWT B r Θ P c (backBU σ L L2 hp' nx') Q))
  (hg : ev σ g = some (.clos it caps)) (hz : mapO (fz σ.hp 9) caps = some (ob',zs)) (hob' : ob') (hL : (L ++ L2).all (fun id=>(get σ.hp id).isSome) = true) (hnd : (L ++ L2).Nodup)
  (hhp : viewHp (Aw.pick (L ++ σ.nx :: L2) (σ.nx + 1)) (L.length + 1 + L2.length) σ.hp hp0) (hxs : renL (Aw.pick (L ++ σ.nx :: L2) (σ.nx + 1)) xs = zs) (hE : ∀ t x,get E t = some x → get σ.env t = some (ren (Aw.pick (L ++ σ.nx :: L2) (σ.nx + 1)) x) ∧ small (L.length + 1) x = true) (hp : ∀ p ∈ ps,p < σ.n) :
  wpB B.fn r P (Code.rangeFunc g ps.toArray assign body) (PostT B m Q) a m.w:=by
 have hL' : ∀ id ∈ L ++ L2,(get σ.hp id).isSome = true:=fun id hid=>List.all_eq_true.1 hL id hid
 have hlt : ∀ id ∈ L ++ L2,id < σ.nx:=fun id hid=>by
  obtain ⟨x,hx⟩:=Option.isSome_iff_exists.1 (hL' id hid)
  obtain ⟨ri,hr,_⟩:=hS1.s.h.blk id x hx
  exact rho_lt hS1.s.h hr
 have hnx : get σ.hp σ.nx = none:=by
  cases hh : get σ.hp σ.nx with
  | none=>rfl
  | some x =>
   obtain ⟨ri,hr,_⟩:=hS1.s.h.blk _ x hh
   rw [hS1.s.h.fresh _ (Nat.le_refl _)] at hr
   cases hr
 have hnd2 : (L ++ σ.nx :: L2).Nodup:=by
  rw [List.nodup_append] at hnd ⊢
  refine ⟨hnd.1,List.nodup_cons.2 ⟨fun h=>?_,hnd.2.1⟩,fun x hx y hy=>?_⟩
  ·have:=hlt _ (List.mem_append_right _ h); omega
  ·rcases List.mem_cons.1 hy with rfl | hy
   ·have:=hlt x (List.mem_append_left _ hx); omega
   ·exact hnd.2.2 x hx y hy
 have hmem : ∀ id ∈ (L ++ σ.nx :: L2),id ∈ L ++ L2 ∨ id = σ.nx:=by
  intro id hid
  rcases List.mem_append.1 hid with h | h
  ·exact .inl (List.mem_append_left _ h)
  ·rcases List.mem_cons.1 h with h | h
   ·exact .inr h
   ·exact .inl (List.mem_append_right _ h)
 have htk : (L ++ σ.nx :: L2).take (L.length + 1) = L ++ [σ.nx]:=by
  rw [show L ++ σ.nx :: L2 = (L ++ [σ.nx]) ++ L2 from by simp]
  exact List.take_left' (by simp)
 refine wpB_rangeFunc ?_
 intro fn _
 obtain ⟨l,hl⟩ : ∃ l,l = m1.w.heap.size:=⟨_,rfl⟩
 obtain ⟨rc,hrcd⟩ : ∃ rc : Option Code → Loop,rc = fun j=>recOf a.tmps ps.toArray assign body dd fn (if j.isNone then .ready else .done) j:=⟨_,rfl⟩
 have hrc0 : recOf a.tmps ps.toArray assign body dd fn .ready none = rc none:=by rw [hrcd] <;> rfl
 have hcl:=hS1.s.ev hg
 simp only [Rep] at hcl
 obtain ⟨cv,hgv,hcv⟩:=hcl
 have hgv' : a.eval g = .func (.func it) #[] cv:=hgv
 -- the record, a block of one's own
 have hw : Alloc m1.w (m1.w.alloc (.loop (rc none))) (.loop (rc none)):=⟨rfl,rfl,rfl,rfl⟩
 obtain ⟨ri,hri⟩ : ∃ ri : RI,ri = ⟨m1.w.heap.size,0,0,0,false⟩:=⟨_,rfl⟩
 obtain ⟨m2,hm2⟩ : ∃ m2,m2 = m1.with (m1.w.alloc (.loop (rc none))) σ.nx ri (fun _ _=>False):=⟨_,rfl⟩
 have hU:=Upd.alloc hS1.s.h hw ri (fun _ _=>False) (fun _ _ h=>h.elim)
 have hH2 : SimH m2 (set σ.hp σ.nx (.lp l (rc none))) (σ.nx + 1):=by
  rw [hm2]
  refine hS1.s.h.alloc hw (fun _ _ h=>h.elim) (by rw [hri]) ⟨by rw [hri],?_,?_,by rw [hri,hl],by rw [hri]; exact hw.new⟩
  ·intro h; rw [hri] at h; have:=hS1.s.h.Pold _ h; exact absurd this (Nat.lt_irrefl _)
  ·intro o h
   rw [hri] at h
   rcases h with h | h
   ·have:=hS1.s.h.Fold _ o h; exact absurd this (Nat.lt_irrefl _)
   ·exact h
 rw [← hm2] at hU
 have hk2:=hU.keeps hS1.s.h
 have hl2:=(hU.le hS1.s.h).t
 have hw2 : m2.w = m1.w.alloc (.loop (rc none)):=by rw [hm2] <;> rfl
 have hS2 : SimT B m2 { a with defers:=mark ++ a.defers } ⟨σ.n,σ.env,set σ.hp σ.nx (.lp l (rc none)),σ.nx + 1,σ.gl,σ.np,σ.df⟩:=⟨hS1.s.of hk2 hH2,hS1.marks.le hl2,Nat.le_trans hS1.base hl2.size⟩
 have hL2 : ∀ id ∈ L ++ σ.nx :: L2,(get (set σ.hp σ.nx (.lp l (rc none))) id).isSome = true:=by
  intro id hid
  rw [get_set]
  rcases hmem id hid with h | h
  ·rw [if_neg (by have:=hlt id h; omega)]; exact hL' id h
  ·rw [if_pos h.symm]
   rfl
 have hlen2 : (L ++ σ.nx :: L2).length = L.length + 1 + L2.length:=by simp; omega
 have hnl : L.length + 1 ≤ (L ++ σ.nx :: L2).length:=by omega
 have hz2 : mapO (fz (set σ.hp σ.nx (.lp l (rc none))) 9) caps = some (ob',zs) → True:=fun _=>trivial
 have hargs0 : RepL m2 0 caps cv.toList:=RepL.mono hk2 0 _ _ hcv
 have hzs1 : RepL m1 0 zs cv.toList:=mapO_sound (m:=m1) (m':=m1) (k:=0) (f:=fz σ.hp 9) (fun x y v ob h hob hv=>fz_sound hS1.s.h 9 x y v ob h hob hv) hz hob' hcv
 have hzs : RepL m2 0 zs cv.toList:=RepL.mono hk2 0 _ _ hzs1
 have hview : viewHp (Aw.pick (L ++ σ.nx :: L2) (σ.nx + 1)) (L ++ σ.nx :: L2).length (set σ.hp σ.nx (.lp l (rc none))) (hp0 ++ [(L.length,.lp l (rc none))]):=by
  rw [hlen2]
  exact viewHp_snoc (c:=.lp l (rc none)) hnx (by omega) pick_mid rfl hhp
 obtain ⟨hstart,hargs⟩ : StartU (m2.innerU (L ++ σ.nx :: L2) (σ.nx + 1) (L.length + 1)) σ.gl (hp0 ++ [(L.length,.lp l (rc none))]) (L ++ σ.nx :: L2).length (L.length + 1) ∧ RepL (m2.innerU (L ++ σ.nx :: L2) (σ.nx + 1) (L.length + 1)) 0 xs cv.toList:=by
  have hM:=innerH_map hH2 hL2
  have hP : KP m2 (m2.innerU (L ++ σ.nx :: L2) (σ.nx + 1) (L.length + 1)):=⟨fun b hb=>hM.Pr b hb,fun _ _=>rfl⟩
  have hF : KF m2 (m2.innerU (L ++ σ.nx :: L2) (σ.nx + 1) (L.length + 1)):=⟨fun _ _ h=>h,fun _ _ _=>rfl⟩
  refine ⟨⟨(innerH_simH hH2 hL2 hnd2 hview).npf _,fun g x hg=>Rep.monoK hF 1 (fun _=>hP) (Nat.le_refl 1) _ _ (hS2.s.gl g x hg),rfl,hnl⟩,?_⟩
  rw [← hxs] at hzs
  have:=RepL.map hM xs cv.toList (RepL.ren xs cv.toList hzs)
  rw [renL_id] at this
  exact this.npf _ rfl
 have hM : MapOk (m2.ren (Aw.pick (L ++ σ.nx :: L2) (σ.nx + 1))) (m2.innerU (L ++ σ.nx :: L2) (σ.nx + 1) (L.length + 1)) (fun i=>i):=innerU_map hH2 hL2
 have hsz : a.tmps.size = σ.n:=hS1.s.n
 have hE0 : ∀ m3,KeptU (m2.innerU (L ++ σ.nx :: L2) (σ.nx + 1) (L.length + 1)) m3 → ∀ t y,get E t = some y → t < (rc none).tmps.size ∧ Rep m3 0 y ((rc none).tmps.getD t undef):=by
  intro m3 hk3 t y hy
  obtain ⟨hE1,hE2⟩:=hE t y hy
  obtain ⟨h1,h2⟩:=hS2.s.env t _ hE1
  rw [show (rc none).tmps = a.tmps by rw [hrcd]; rfl]
  refine ⟨by rw [hsz]; exact h1,?_⟩
  have:=Rep.map hM y _ (Rep.ren y _ h2)
  rw [ren_id] at this
  exact Rep.monoS ⟨hk3.Pr,hk3.block,hk3.F,hk3.cell,hk3.ρ⟩ y _ hE2 this
 have hsz0 : (rc none).tmps.size = σ.n:=by rw [hrcd]; exact hsz
 have hc:=hit (KeptU (m2.innerU (L ++ σ.nx :: L2) (σ.nx + 1) (L.length + 1))) inferInstance l ⟨.busy,(rc none).pending,(rc none).fn,(rc none).tmps,(rc none).params,(rc none).assign,(rc none).body,(rc none).defers⟩ rc (fun ys hp' nx' Rr hgk hyl h=>by
  refine RoundU.ofB (k:=L.length) (rc:=rc none) (ps:=ps) (E:=E) hgk (by rw [hrcd]; rfl) (by rw [hrcd]; rfl) hE0 (fun p hp''=>by rw [hsz0]; exact hp p hp'') hyl ?_
  rw [hsz0]
  rw [← show (rc none).assign = assign by rw [hrcd]; rfl,← show (rc none).body = body by rw [hrcd]; rfl] at h
  have hj : ∀ j : Option Code,({ rc none with state:=if j.isNone then .ready else .done,pending:=j } : Loop) = rc j:=fun j=>by rw [hrcd] <;> rfl
  refine h.mono fun ax σ' ⟨h1,h2,h3⟩=>⟨h1,h2,h3.mono fun ax σ'' ⟨j,k1,σ3,k2,k3,k4,k5⟩=>⟨j,k1,σ3,k2,k3,k4,?_⟩⟩
  rw [hj j]
  exact k5)
 refine ⟨l,mark,m2.w,{ target:=.fn (.func it) cv,args:=#[.func (.yield l) #[] #[]] },m2.w,it,#[.func (.yield l) #[] #[]] ++ cv,m2.w,?_,?_,?_,?_,fun hh=>(by cases hh),?_⟩
 ·rw [hl,hw2,← hrc0]; exact hent fn
 ·simp only [resolve,hgv']
  simp [go_sem]
 ·intro _ _; trivial
 ·simp only [invoke]
  exact hc.enters _ _
 ·have hcall:=hc.calls (m2.innerU (L ++ σ.nx :: L2) (σ.nx + 1) (L.length + 1)) (.func (.yield l) #[] #[] :: cv.toList) (by rw [← hlen2]; exact hstart) ⟨rfl,fun _ h=>h,fun _ _=>rfl,fun _ _ h=>h,fun _ _ _=>rfl,fun _ _ _ h=>h⟩ (by
   simp only [RepL]
   exact ⟨_,_,rfl,by simp only [Rep],hargs⟩)
  have e2 : (m2.innerU (L ++ σ.nx :: L2) (σ.nx + 1) (L.length + 1)).w = m2.w:=rfl
  have e3 : (Value.func (.yield l) #[] #[] :: cv.toList).toArray = #[.func (.yield l) #[] #[]] ++ cv:=by
   apply Array.ext'
   simp
  rw [e2,e3] at hcall
  refine callsIn_fr.2 (hcall.mono ?_)
  rintro e w' ⟨m',q,hp',nx',rfl,hle,hH',hend,⟨x,rfl⟩,j,hgj,hR⟩
  obtain ⟨v,rfl,hv⟩:=hend
  obtain ⟨hb,hq⟩:=hK j hp' nx' hR
  obtain ⟨l3,s3,_⟩:=backPanU (y:=.top) (v:=v) hS2 hL2 hnl hle hH' hb (by simp only [Rep])
  obtain ⟨m3,hm3⟩ : ∃ m3,m3 = m2.outerH m' ((L ++ σ.nx :: L2).take (L.length + 1)) (σ.nx + 1):=⟨_,rfl⟩
  rw [← hm3] at l3 s3
  have ew : m'.w = m3.w:=by rw [hm3] <;> rfl
  have hgl : get (backU ⟨σ.n,σ.env,set σ.hp σ.nx (.lp l (rc none)),σ.nx + 1,σ.gl,σ.np,σ.df⟩ (L ++ σ.nx :: L2) (L.length + 1) hp' nx').hp σ.nx = some (.lp l (rc j)):=by
   show get (appHp (dels (set σ.hp σ.nx (.lp l (rc none))) (L ++ σ.nx :: L2)) (renHp (bk ((L ++ σ.nx :: L2).take (L.length + 1)) (σ.nx + 1)) hp')) σ.nx = _
   rw [get_appHp_eq,get_dels_eq,if_pos (by simp),htk]
   have hb1 : bk (L ++ [σ.nx]) (σ.nx + 1) L.length = σ.nx:=by
    unfold bk
    rw [nth_eq]
    simp
   have:=get_renHp_inj (π:=bk (L ++ [σ.nx]) (σ.nx + 1)) (fun i j h=>bk_inj (by rw [← htk]; exact hnd2.sublist (List.take_sublist _ _)) (fun id hid=>by
    rcases List.mem_append.1 hid with h | h
    ·have:=hlt id (List.mem_append_left _ h); omega
    ·simp only [List.mem_singleton] at h; omega) h) hp' L.length
   rw [hb1,hgj] at this
   exact this
  obtain ⟨g1,g2,_⟩:=s3.s.h.lp hgl
  have hH4:=prot_simH s3.s.h hgl
  have hS4 : SimT B (m3.prot l) { a with defers:=mark ++ a.defers } (backBU σ L L2 hp' nx'):=by
   refine ⟨?_,s3.marks.le prot_leT,s3.base⟩
   have h5:=s3.s.of prot_keeps (hH4.sub (hp':=(backBU σ L L2 hp' nx').hp) ?_)
   ·exact h5
   ·intro id x hx
    change get (del (appHp (dels σ.hp (L ++ L2)) (renHp (bk (L ++ [σ.nx]) (σ.nx + 1)) hp')) σ.nx) id = some x at hx
    show get (del (appHp (dels (set σ.hp σ.nx (.lp l (rc none))) (L ++ σ.nx :: L2)) (renHp (bk ((L ++ σ.nx :: L2).take (L.length + 1)) (σ.nx + 1)) hp')) σ.nx) id = some x
    rw [htk]
    rw [get_del] at hx ⊢
    split at hx
    ·cases hx
    rename_i hne
    rw [if_neg hne]
    rw [get_appHp_eq,get_dels_eq] at hx ⊢
    rw [get_set,if_neg hne]
    by_cases hid : id ∈ L ++ L2
    ·rw [if_pos hid] at hx
     rw [if_pos (by rcases List.mem_append.1 hid with h | h <;> simp [h])]
     exact hx
    ·rw [if_neg hid] at hx
     rw [if_neg (fun h=>(hmem id h).elim hid (fun e=>hne e.symm))]
     exact hx
  have hP4 : (m3.prot l).Pr l:=.inr rfl
  have hlP : ¬ m.Pr l:=fun h=>by
   have h':=hS1.s.h.Pold _ (hl1.Pr _ h)
   omega
  have l4 : m.leT ((m3.prot l).turn l (.loop { rc j with state:=.exhausted })):=(((hl1.trans hl2).trans l3).trans prot_leT).turn hlP g1 rfl rfl
  have s4 : SimT B ((m3.prot l).turn l (.loop { rc j with state:=.exhausted })) { a with defers:=mark ++ a.defers } (backBU σ L L2 hp' nx'):=by
   exact ⟨hS4.s.turn hP4 g1 rfl rfl,hS4.marks.turn g1,by rw [turn_size]; exact hS4.base⟩
  refine ⟨j,_,(by rw [ew]; have:=run_endLoop (P:=P) g1 (by rw [hrcd]; cases j <;> simp [recOf]); rw [this]; congr 1; rw [hrcd]; rfl),?_⟩
  cases j with
  | none=>exact ⟨(m3.prot l).turn l (.loop { rc none with state:=.exhausted }),_,.normal,rfl,l4,s4,rfl,hq⟩
  | some c =>
   refine wpB_mono (hq _ _ s4 (Lasts.le l4 ht)) ?_
   intro e a' w' hp
   exact hp.trans l4
end Aw

namespace Aw
open Go
def RoundOkU (Ω : Mem → Prop) (P : Program) (gl : List (Nat × AV)) (n : Nat) (E : List (Nat × AV)) (ps : List Tmp) (assign body : Code) (l k : Nat) (rb : Loop) (rc : Option Code → Loop) : Prop :=
 ∀ ys hp nx Rr,get hp k = some (.lp l (rc none)) → ys.length = ps.length → AWT 0 (some l) (fun _=>True) P assign ⟨n,setAll E ps ys,hp,nx,gl,k + 1,[]⟩
  (fun ax σ'=>ax = .normal ∧ get σ'.hp k = some (.lp l (rc none)) ∧ AWT 0 (some l) (fun _=>True) P body ⟨σ'.n,σ'.env,set σ'.hp k (.lp l rb),σ'.nx,σ'.gl,σ'.np,σ'.df⟩
   (fun ax σ''=>∃ j,jumpOf ax = some j ∧ ∃ σ3,St.le σ3 σ'' ∧ get σ3.hp k = some (.lp l rb) ∧ noTHm σ3.hp = true ∧ Rr (AE.ret (.bool j.isNone)) (set σ3.hp k (.lp l (rc j))) σ3.nx)) → RoundU Ω P gl l ys hp nx (k + 1) Rr
section
variable {B : Bs} {r : Option Nat} {Θ : Mem → Prop} [Lasts Θ] {P : Program} {σ : St} {Q : AX → St → Prop} {g : Operand} {ps : List Tmp} {assign body : Code} {it : FuncId} {caps zs xs : List AV} {ob' : Prop} {L L2 : List Nat}
 {hp0 : List (Nat × ABlk)} {E : List (Nat × AV)} {R : Option Code → List (Nat × ABlk) → Nat → Prop}
theorem AWT.rangeOU
  (hit : ∀ (Ω : Mem → Prop) (_ : LastsU Ω) (l : Nat) (rb : Loop) (rc : Option Code → Loop),RoundOkU Ω P σ.gl σ.n E ps assign body l L.length rb rc →
   FnU Ω P σ.gl it (.raw (.func (.yield l) #[] #[]) :: xs) (hp0 ++ [(L.length,.lp l (rc none))]) (L.length + 1 + L2.length) (L.length + 1) fun q hp' nx'=>(∃ x,q = .ret x) ∧ ∃ j,get hp' L.length = some (.lp l (rc j)) ∧ R j hp' nx')
  (hK : ∀ j hp' nx',R j hp' nx' → backOku (L.length + 1) hp' nx' = true ∧ (match j with | none=>Q .normal (backBU σ L L2 hp' nx') | some c=>AWT B none Θ P c (backBU σ L L2 hp' nx') Q))
  (hg : ev σ g = some (.clos it caps)) (hz : mapO (fz σ.hp 9) caps = some (ob',zs)) (hob' : ob') (hL : (L ++ L2).all (fun id=>(get σ.hp id).isSome) = true) (hnd : (L ++ L2).Nodup)
  (hhp : viewHp (Aw.pick (L ++ σ.nx :: L2) (σ.nx + 1)) (L.length + 1 + L2.length) σ.hp hp0) (hxs : renL (Aw.pick (L ++ σ.nx :: L2) (σ.nx + 1)) xs = zs) (hE : ∀ t x,get E t = some x → get σ.env t = some (ren (Aw.pick (L ++ σ.nx :: L2) (σ.nx + 1)) x) ∧ small (L.length + 1) x = true) (hp : ∀ p ∈ ps,p < σ.n) :
  AWT B none Θ P (.rangeFunc g ps.toArray assign body) σ Q:=by
 intro m a hS ht
 refine AWT.rangeAtU (m1:=m.enteredD) (mark:=[{ target:=.collected m.w.heap.size,args:=#[] }]) (dd:=m.w.heap.size) (enteredD_leT hS.s.h) ⟨hS.s.of (enteredD_keeps hS.s.h) (enteredD_simH hS.s.h),?_,?_⟩ ht ?_ hit hK hg hz hob' hL hnd hhp hxs hE hp
 ·exact hS.marks.push (enteredD_leT hS.s.h) (by simp) hS.base (.inr rfl) (World.alloc_heap_new m.w _)
 ·have:=hS.base
  simp only [Mem.enteredD,World.size_alloc]
  omega
 ·intro fn
  rw [run_enterLoop_outer]
  congr 1
  simp [Mem.enteredD]
end
end Aw

namespace Aw
open Go
end Aw

namespace Aw
open Go
end Aw

namespace Aw
open Go
section
variable {P : Program} {gl : List (Nat × AV)} {f : FuncId} {fn : Func} {c x1 x2 y : Code} {xs : List AV} {hp : List (Nat × ABlk)} {nx : Nat}
end
end Aw

namespace Aw
open Go
def noGuards (ops : Array Oper) : Bool:=ops.toList.all fun o=>o.guard.isNone
section
variable {B : Bs} {r : Option Nat} {Θ : Mem → Prop} {P : Program} {ops : Array Oper} {K : St → Prop} {Kp : AV → St → Prop}
def chainT (B : Bs) (r : Option Nat) (Θ : Mem → Prop) (P : Program) (ops : Array Oper) (K : St → Prop) (Kp : AV → St → Prop) : Nat → Nat → St → Prop
 | 0,_,σ=>K σ
 | c + 1,i,σ=>∃ o,ops[i]? = some o ∧ StepT B r Θ P σ o (chainT B r Θ P ops K Kp c (i + 1)) Kp
structure RowF (ops : Array Oper) (n : Nat) : Prop where
 le : n ≤ ops.size
 ng : noGuards ops = true
 nd : noDefers ops.toList = true
 up : ∀ j,∀ k ∈ bindsAt ops j,k < j
 row : ∀ j,n ≤ j → j < ops.size → ∀ k,k < j → k ∈ reach ops 6 j
end
end Aw
