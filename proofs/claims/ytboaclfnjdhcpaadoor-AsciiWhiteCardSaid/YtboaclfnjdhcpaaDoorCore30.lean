/- Rules of a calculus of walks: no condition of its own. -/
import Derived.Test.YtboaclfnjdhcpaaDoorCore29
namespace Aw
open Go
def Mem.innerU (m : Mem) (L : List Nat) (nx np : Nat) : Mem:={ m.innerH L nx with np:=np }
structure StartU (m : Mem) (gl : List (Nat × AV)) (hp : List (Nat × ABlk)) (nx k : Nat) : Prop where
 h : SimH m hp nx
 gl : ∀ g x,get gl g = some x → Rep m 1 x (.pointer (some ⟨g,0,none⟩))
 np : m.np = k
 le : k ≤ nx
theorem SimH.npf {m : Mem} {hp : List (Nat × ABlk)} {nx : Nat} (h : SimH m hp nx) (k : Nat) : SimH { m with np:=k } hp nx:=by
 refine ⟨fun id x hx=>?_,h.apart,h.fresh,h.Fold,h.Pold⟩
 obtain ⟨ri,h1,h2⟩:=h.blk id x hx
 refine ⟨ri,h1,?_⟩
 have hm : MapOk m { m with np:=k } (fun i=>i):=⟨fun _ h=>h,fun _ _=>rfl,fun _ _ h=>h,fun _ _ _=>rfl,fun _ _ h=>h⟩
 have:=BlkRep.map hm (fun _=>rfl) (fun hn=>h2.noPr hn) (fun _ _ h=>h) h2
 rw [renB_id] at this
 exact this
theorem RepL.npf {m : Mem} (k : Nat) {j : Nat} {xs : List AV} {vs : List Value} (hj : j = 0) (h : RepL m j xs vs) : RepL { m with np:=k } j xs vs:=by
 subst hj
 have hm : MapOk m { m with np:=k } (fun i=>i):=⟨fun _ h=>h,fun _ _=>rfl,fun _ _ h=>h,fun _ _ _=>rfl,fun _ _ h=>h⟩
 have:=RepL.map hm xs vs h
 rw [renL_id] at this
 exact this
section
variable {m m' : Mem} {hp hp0 hp' : List (Nat × ABlk)} {nx nx' np : Nat} {L : List Nat}
theorem innerU_map (hH : SimH m hp nx) (hL : ∀ id ∈ L,(get hp id).isSome = true) : MapOk (m.ren (Aw.pick L nx)) (m.innerU L nx np) (fun i=>i) :=
 ⟨(innerH_map hH hL).Pr,fun _ _=>rfl,fun _ _ h=>h,fun _ _ _=>rfl,fun _ _ h=>h⟩
theorem outerU_keeps (hH : SimH m hp nx) (hL : ∀ id ∈ L,(get hp id).isSome = true) (h : (m.innerU L nx np).le m') : m.keeps (m.outerH m' (L.take np) nx) where
 np:=rfl
 Pr _ hb:=hb
 block b hb:=h.block b ((innerU_map hH hL).Pr b hb)
 F:=h.F
 cell:=h.cell
 ρ id ri hr:=by show (if id < nx then m.ρ id else _) = some ri; rw [if_pos (rho_lt hH hr)]; exact hr
theorem outerU_le (hH : SimH m hp nx) (hL : ∀ id ∈ L,(get hp id).isSome = true) (h : (m.innerU L nx np).le m') : m.le (m.outerH m' (L.take np) nx) where
 os:=h.os
 tape:=h.tape
 output:=h.output
 size:=h.size
 Pr:=rfl
 block b hb:=h.block b ((innerU_map hH hL).Pr b hb)
 F:=h.F
 cell:=h.cell
 new b o hb hf:=h.new b o ((innerU_map hH hL).Pr b hb) hf
 np:=rfl
 pin id ri _ hr:=(outerU_keeps hH hL h).ρ id ri hr
theorem pick_take {i : Nat} (hi : i < np) : Aw.pick (L.take np) nx i = Aw.pick L nx i:=by
 unfold Aw.pick
 rw [nth_eq,nth_eq,List.getElem?_take_of_lt hi]
theorem bkU_map (hl : np ≤ L.length) (hH : SimH m hp nx) (hL : ∀ id ∈ L,(get hp id).isSome = true) (h : (m.innerU L nx np).le m') {id : Nat} {ri : RI} (hr : m'.ρ id = some ri) : (m.outerH m' (L.take np) nx).ρ (bk (L.take np) nx id) = some ri:=by
 have hlen : (L.take np).length = np:=by simp; omega
 unfold bk
 rcases Nat.lt_or_ge id np with hlt | hge
 ·obtain ⟨j,h1,h2,h3⟩:=pick_lt (L:=L.take np) (nx:=nx) (by rw [hlen]; exact hlt)
  rw [h2]
  simp only
  obtain ⟨x,hx⟩:=Option.isSome_iff_exists.1 (hL j (List.mem_of_mem_take h3))
  obtain ⟨ri',hr',_⟩:=hH.blk j x hx
  have:=h.pin id ri' hlt (by show m.ρ (Aw.pick L nx id) = some ri'; rw [← pick_take hlt,h1]; exact hr')
  rw [this] at hr
  injection hr with hr
  subst hr
  show (if j < nx then m.ρ j else _) = some ri'
  rw [if_pos (rho_lt hH hr')]
  exact hr'
 ·rw [nth_none (by rw [hlen]; exact hge)]
  simp only
  show (if nx + (id - (L.take np).length) < nx then _ else m'.ρ ((L.take np).length + (nx + (id - (L.take np).length) - nx))) = some ri
  rw [if_neg (by omega),hlen,show np + (nx + (id - np) - nx) = id from by omega]
  exact hr
theorem bkU_mapF (hl : np ≤ L.length) (hH : SimH m hp nx) (hL : ∀ id ∈ L,(get hp id).isSome = true) (h : (m.innerU L nx np).le m') : MapF m' (m.outerH m' (L.take np) nx) (bk (L.take np) nx) :=
 ⟨fun _ _ h=>h,fun _ _ _=>rfl,fun _ _ hr=>bkU_map hl hH hL h hr⟩
theorem outerU_simH (hl : np ≤ L.length) (hH : SimH m hp nx) (hL : ∀ id ∈ L,(get hp id).isSome = true) (h : (m.innerU L nx np).le m') (hH' : SimH m' hp' nx') (hs : solo hp' = true) (hn : noTHm hp' = true) (hge : np ≤ nx') :
  SimH (m.outerH m' (L.take np) nx) (appHp (dels hp L) (renHp (bk (L.take np) nx) hp')) (nx + (nx' - np)):=by
 have hlen : (L.take np).length = np:=by simp; omega
 have hPr : m'.Pr = (m.innerU L nx np).Pr:=h.Pr
 have hold : ∀ id x ri,get (dels hp L) id = some x → m.ρ id = some ri → ri.isNil = false → (m.innerU L nx np).Pr ri.b:=by
  intro id x ri hx hr hn
  obtain ⟨h1,h2⟩:=get_dels hx
  obtain ⟨ri',hr',hb⟩:=hH.blk id x h1
  obtain rfl : ri' = ri:=Option.some.inj (hr'.symm.trans hr)
  refine ⟨hb.lt hn,fun j hj rj hrj hnj=>?_⟩
  obtain ⟨y,hy⟩:=Option.isSome_iff_exists.1 (hL j hj)
  exact hH.apart j id y x rj ri' hy h1 hrj hr (fun e=>h2 (e ▸ hj)) hnj hn
 have hnew : ∀ id x,get (renHp (bk (L.take np) nx) hp') id = some x → ∃ i y ri,get hp' i = some y ∧ bk (L.take np) nx i = id ∧ x = renB (bk (L.take np) nx) y ∧ m'.ρ i = some ri ∧ BlkRep m' ri y ∧ noTBm y = true:=by
  intro id x hx
  obtain ⟨i,y,h1,h2,h3⟩:=get_renHp hx
  have h4:=get_of_mem hs h1
  obtain ⟨ri,h5,h6⟩:=hH'.blk i y h4
  exact ⟨i,y,ri,h4,h2,h3,h5,h6,noTHm_mem hn h1⟩
 have hrho : ∀ id x,get (dels hp L) id = some x → (m.outerH m' (L.take np) nx).ρ id = m.ρ id:=by
  intro id x hx
  obtain ⟨ri,hr,_⟩:=hH.blk id x (get_dels hx).1
  show (if id < nx then m.ρ id else _) = m.ρ id
  rw [if_pos (rho_lt hH hr)]
 refine ⟨?_,?_,?_,?_,?_⟩
 ·intro id x hx
  rcases get_appHp hx with hx | hx
  ·obtain ⟨h1,h2⟩:=get_dels hx
   obtain ⟨ri,hr,hb⟩:=hH.blk id x h1
   refine ⟨ri,(hrho id x hx).trans hr,?_⟩
   have hk:=outerU_keeps hH hL h
   have hm : MapOk m (m.outerH m' (L.take np) nx) (fun i=>i):=⟨hk.Pr,hk.block,hk.F,hk.cell,hk.ρ⟩
   have:=BlkRep.map hm (fun hn=>h.block ri.b (hold id x ri hx hr hn)) (fun hn=>hb.noPr hn) (fun hn o hf=>h.new ri.b o (hold id x ri hx hr hn) hf) hb
   rw [renB_id] at this
   exact this
  ·obtain ⟨i,y,ri,h1,h2,h3,h4,h5,h6⟩:=hnew id x hx
   subst h2 h3
   refine ⟨ri,bkU_map hl hH hL h h4,BlkRep.mapTm (bkU_mapF hl hH hL h) (fun _=>rfl) (fun hn hp=>?_) (fun _ _ h=>h) h6 h5⟩
   exact h5.noPr hn (hPr ▸ (innerU_map hH hL).Pr _ hp)
 ·intro id id' x x' ri ri' hx hx' hr hr' hne hn1 hn2
  rcases get_appHp hx with hx | hx <;> rcases get_appHp hx' with hx' | hx'
  ·rw [hrho id x hx] at hr
   rw [hrho id' x' hx'] at hr'
   exact hH.apart id id' x x' ri ri' (get_dels hx).1 (get_dels hx').1 hr hr' hne hn1 hn2
  ·rw [hrho id x hx] at hr
   obtain ⟨i,y,rj,h1,h2,h3,h4,h5,h6⟩:=hnew id' x' hx'
   subst h2
   rw [bkU_map hl hH hL h h4] at hr'
   injection hr' with hr'
   subst hr'
   intro e
   exact h5.noPr hn2 (hPr ▸ e ▸ hold id x ri hx hr hn1)
  ·rw [hrho id' x' hx'] at hr'
   obtain ⟨i,y,rj,h1,h2,h3,h4,h5,h6⟩:=hnew id x hx
   subst h2
   rw [bkU_map hl hH hL h h4] at hr
   injection hr with hr
   subst hr
   intro e
   exact h5.noPr hn1 (hPr ▸ e ▸ hold id' x' ri' hx' hr' hn2)
  ·obtain ⟨i,y,rj,h1,h2,h3,h4,h5,h6⟩:=hnew id x hx
   obtain ⟨i',y',rj',g1,g2,g3,g4,g5,g6⟩:=hnew id' x' hx'
   subst h2 g2
   rw [bkU_map hl hH hL h h4] at hr
   rw [bkU_map hl hH hL h g4] at hr'
   injection hr with hr
   injection hr' with hr'
   subst hr hr'
   exact hH'.apart i i' y y' rj rj' h1 g1 h4 g4 (fun e=>hne (by rw [e])) hn1 hn2
 ·intro id hid
  show (if id < nx then m.ρ id else m'.ρ ((L.take np).length + (id - nx))) = none
  rw [if_neg (by omega),hlen]
  exact hH'.fresh _ (by omega)
 ·exact hH'.Fold
 ·intro b hb
  exact hH'.Pold b (hPr ▸ (innerU_map hH hL).Pr b hb)
end
def backU (σ : St) (L : List Nat) (np : Nat) (hp' : List (Nat × ABlk)) (nx' : Nat) : St :=
 ⟨σ.n,σ.env,appHp (dels σ.hp L) (renHp (bk (L.take np) σ.nx) hp'),σ.nx + (nx' - np),σ.gl,σ.np,σ.df⟩
def backOku (np : Nat) (hp' : List (Nat × ABlk)) (nx' : Nat) : Bool:=solo hp' && (noTHm hp' && decide (np ≤ nx'))

class LastsU (Θ : Mem → Prop) : Prop extends Lasts Θ where
 inner : ∀ {m : Mem} {hp : List (Nat × ABlk)} {nx np : Nat} {L : List Nat},Θ m → SimH m hp nx → (∀ id ∈ L,(get hp id).isSome = true) → m.np = np → np ≤ L.length → L.take np = List.range np → Θ (m.innerU L nx np)
structure KeptU (M0 m : Mem) : Prop where
 np : m.np = M0.np
 Pr : ∀ b,M0.Pr b → m.Pr b
 block : ∀ b,M0.Pr b → m.w.heap[b]? = M0.w.heap[b]?
 F : ∀ b o,M0.F b o → m.F b o
 cell : ∀ b o,M0.F b o → m.w.cell? ⟨b,o,none⟩ = M0.w.cell? ⟨b,o,none⟩
 ρ : ∀ id ri,id < M0.np → M0.ρ id = some ri → m.ρ id = some ri
instance {M0 : Mem} : LastsU (KeptU M0) where
 le {m m'} hl h:=⟨hl.np.trans h.np,fun b hb=>hl.Pr b (h.Pr b hb),fun b hb=>(hl.block b (h.Pr b hb)).trans (h.block b hb),fun b o hf=>hl.F b o (h.F b o hf),
  fun b o hf=>(hl.cell b o (h.F b o hf)).trans (h.cell b o hf),fun id ri hi hr=>hl.pin id ri (by rw [h.np]; exact hi) (h.ρ id ri hi hr)⟩
 inner {m hp nx np L} h hH hL hn hl ht:=⟨hn.symm.trans h.np,fun b hb=>(innerU_map hH hL).Pr b (h.Pr b hb),h.block,h.F,h.cell,fun id ri hi hr=>by
  have hlt : id < np:=by rw [← hn,h.np]; exact hi
  show m.ρ (Aw.pick L nx id) = some ri
  rw [← pick_take hlt,ht,pick_range hlt]
  exact h.ρ id ri hi hr⟩
instance : LastsU (fun _=>True):=⟨fun _ _ _ _ _ _=>trivial⟩

structure FnU (Θ : Mem → Prop) (P : Program) (gl : List (Nat × AV)) (f : FuncId) (xs : List AV) (hp : List (Nat × ABlk)) (nx np : Nat) (R : AE → List (Nat × ABlk) → Nat → Prop) : Prop where
 enters : enters P f
 calls : ∀ m vs,StartU m gl hp nx np → Θ m → RepL m 0 xs vs → Calls P f vs.toArray m.w fun e w'=>∃ m' r hp' nx',m'.w = w' ∧ m.le m' ∧ SimH m' hp' nx' ∧ endOkH m' r e ∧ R r hp' nx'
theorem FnU.mono {Θ : Mem → Prop} {P : Program} {gl : List (Nat × AV)} {f : FuncId} {xs : List AV} {hp : List (Nat × ABlk)} {nx np : Nat} {R R' : AE → List (Nat × ABlk) → Nat → Prop} (h : FnU Θ P gl f xs hp nx np R) (hr : ∀ r hp nx,R r hp nx → R' r hp nx) : FnU Θ P gl f xs hp nx np R' :=
 ⟨h.enters,fun m vs hm ht hv=>(h.calls m vs hm ht hv).mono fun _ _ ⟨m',r,hp',nx',h1,h2,h3,h4,h5⟩=>⟨m',r,hp',nx',h1,h2,h3,h4,hr r _ _ h5⟩⟩
def RoundU (Θ : Mem → Prop) (P : Program) (gl : List (Nat × AV)) (l : Nat) (xs : List AV) (hp : List (Nat × ABlk)) (nx np : Nat) (R : AE → List (Nat × ABlk) → Nat → Prop) : Prop :=
 ∀ m vs,StartU m gl hp nx np → Θ m → RepL m 0 xs vs → ∃ rc : Loop,m.w.heap[l]? = some (.loop rc) ∧ vs.toArray.size = rc.params.size ∧
  RoundIn (Fr none) 0 P l rc.fn ((rc.params.zip vs.toArray).foldl (fun tmps (t,a)=>tmps.setIfInBounds t a) rc.tmps) rc.assign rc.body m.w fun e w'=>∃ m' r hp' nx',m'.w = w' ∧ m.le m' ∧ SimH m' hp' nx' ∧ endOkH m' r e ∧ R r hp' nx'
section
variable {B : Bs} {r : Option Nat} {Θ : Mem → Prop} {P : Program} {σ : St} {o : Oper} {K : St → Prop} {Kp : AV → St → Prop} {ob ob' : Prop} {f : FuncId} {ys zs xs : List AV} {hp0 : List (Nat × ABlk)} {R : AE → List (Nat × ABlk) → Nat → Prop} {L : List Nat} {np : Nat}
theorem innerStartU {m : Mem} {a : Act} {vs : List Value} (hS : Sim m a σ) (hvs : RepL m 0 ys vs)
  (hz : mapO (fz σ.hp 9) ys = some (ob',zs)) (hob' : ob') (hL' : ∀ id ∈ L,(get σ.hp id).isSome = true) (hnd : L.Nodup)
  (hhp : viewHp (Aw.pick L σ.nx) L.length σ.hp hp0) (hxs : renL (Aw.pick L σ.nx) xs = zs) (hl : np ≤ L.length) : StartU (m.innerU L σ.nx np) σ.gl hp0 L.length np ∧ RepL (m.innerU L σ.nx np) 0 xs vs:=by
 obtain ⟨h1,h2⟩:=innerStart hS hvs hz hob' hL' hnd hhp hxs
 refine ⟨⟨h1.h.npf np,fun g x hg=>?_,rfl,hl⟩,RepL.npf np rfl h2⟩
 have hF : KF (m.innerH L σ.nx) (m.innerU L σ.nx np):=⟨fun _ _ h=>h,fun _ _ _=>rfl⟩
 have hP : KP (m.innerH L σ.nx) (m.innerU L σ.nx np):=⟨fun _ h=>h,fun _ _=>rfl⟩
 exact Rep.monoK hF 1 (fun _=>hP) (Nat.le_refl 1) _ _ (h1.gl g x hg)
theorem backRetU {m m' : Mem} {a : Act} {y : AV} {v : Value} {hp' : List (Nat × ABlk)} {nx' : Nat} (hS : SimT B m a σ) (hL' : ∀ id ∈ L,(get σ.hp id).isSome = true) (hl : np ≤ L.length) (hle : (m.innerU L σ.nx np).le m') (hH' : SimH m' hp' nx')
  (hb : (backOku np hp' nx' && noT y) = true) (hd : dstOk σ.n o.dst = true) (hv : Rep m' 0 y v) :
  m.leT (m.outerH m' (L.take np) σ.nx) ∧ SimT B (m.outerH m' (L.take np) σ.nx) (a.put o.dst v) (St.put (backU σ L np hp' nx') o.dst (ren (bk (L.take np) σ.nx) y)):=by
 have hk2:=outerU_keeps hS.s.h hL' hle
 have hl2:=(outerU_le hS.s.h hL' hle).t
 simp only [backOku,Bool.and_eq_true,decide_eq_true_eq] at hb
 have hH2:=outerU_simH hl hS.s.h hL' hle hH' hb.1.1 hb.1.2.1 hb.1.2.2
 have h:=hS.s.put hk2 hH2 hd (Rep.mapT (bkU_mapF hl hS.s.h hL' hle) y v hb.2 hv)
 have hdf : (a.put o.dst v).defers = a.defers:=by cases o.dst <;> rfl
 refine ⟨hl2,?_,by rw [hdf]; exact hS.marks.le hl2,Nat.le_trans hS.base hl2.size⟩
 have : ({ a.put o.dst v with defers:=B.ds } : Act) = ({ a with defers:=B.ds } : Act).put o.dst v:=by cases o.dst <;> rfl
 rw [this]
 exact h
theorem backPanU {m m' : Mem} {a : Act} {y : AV} {v : Value} {hp' : List (Nat × ABlk)} {nx' : Nat} (hS : SimT B m a σ) (hL' : ∀ id ∈ L,(get σ.hp id).isSome = true) (hl : np ≤ L.length) (hle : (m.innerU L σ.nx np).le m') (hH' : SimH m' hp' nx')
  (hb : backOku np hp' nx' = true) (hv : Rep m' 2 y v) : m.leT (m.outerH m' (L.take np) σ.nx) ∧ SimT B (m.outerH m' (L.take np) σ.nx) a (backU σ L np hp' nx') ∧ Rep (m.outerH m' (L.take np) σ.nx) 0 y v:=by
 have hk2:=outerU_keeps hS.s.h hL' hle
 have hl2:=(outerU_le hS.s.h hL' hle).t
 simp only [backOku,Bool.and_eq_true,decide_eq_true_eq] at hb
 have hH2:=outerU_simH hl hS.s.h hL' hle hH' hb.1 hb.2.1 hb.2.2
 have hKF2 : KF m' (m.outerH m' (L.take np) σ.nx):=⟨fun _ _ h=>h,fun _ _ _=>rfl⟩
 have hv2:=Rep.monoK hKF2 2 (fun h=>absurd h (by omega)) (by omega) _ _ hv
 exact ⟨hl2,⟨hS.s.of hk2 hH2,hS.marks.le hl2,Nat.le_trans hS.base hl2.size⟩,Rep.down (Nat.zero_le 2) _ _ hv2⟩
theorem StepU.call (hΘ : ∀ m a,Sim m a σ → Θ m → Θ (m.innerU L σ.nx np)) (h : acall σ o.op = some (ob,f,ys)) (hob : ob) (hd : dstOk σ.n o.dst = true)
  (hz : mapO (fz σ.hp 9) ys = some (ob',zs)) (hob' : ob') (hL : L.all (fun id=>(get σ.hp id).isSome) = true) (hnd : L.Nodup) (hl : np ≤ L.length)
  (hhp : viewHp (Aw.pick L σ.nx) L.length σ.hp hp0) (hxs : renL (Aw.pick L σ.nx) xs = zs) (hc : FnU Θ P σ.gl f xs hp0 L.length np R)
  (hK : ∀ y hp' nx',R (.ret y) hp' nx' → (backOku np hp' nx' && noT y) = true ∧ K (St.put (backU σ L np hp' nx') o.dst (ren (bk (L.take np) σ.nx) y)))
  (hKp : ∀ y hp' nx',R (.panic y) hp' nx' → backOku np hp' nx' = true ∧ Kp y (backU σ L np hp' nx')) : StepT B r Θ P σ o K Kp:=by
 intro m a N X hS ht hN hX
 obtain ⟨vs,hexec,hvs⟩:=acall_sound hS.s h hob
 have he : ({ a with defers:=B.ds } : Act).eval = a.eval:=rfl
 rw [he] at hexec
 refine ⟨fun _ _=>trivial,?_⟩
 rw [Oper.semAt_eq _ _ _ (notDefer_ne (acall_notDefer h)),hexec,hc.enters]
 have hL' : ∀ id ∈ L,(get σ.hp id).isSome = true:=fun id hid=>List.all_eq_true.1 hL id hid
 obtain ⟨hstart,hargs⟩:=innerStartU hS.s hvs hz hob' hL' hnd hhp hxs hl
 have hcall:=hc.calls (m.innerU L σ.nx np) vs hstart (hΘ m _ hS.s ht) hargs
 have e2 : (m.innerU L σ.nx np).w = m.w:=rfl
 rw [e2] at hcall
 refine ⟨fun hh=>(by cases hh),callsIn_fr.2 (hcall.mono ?_)⟩
 rintro e w' ⟨m',q,hp',nx',rfl,hle,hH',hend,hR⟩
 cases q with
 | ret y =>
  obtain ⟨v,rfl,hv⟩:=hend
  obtain ⟨hb,hk⟩:=hK y hp' nx' hR
  obtain ⟨h1,h2⟩:=backRetU (o:=o) hS hL' hl hle hH' hb hd hv
  exact hN (m.outerH m' (L.take np) σ.nx) _ _ h1 h2 hk
 | panic y =>
  obtain ⟨v,rfl,hv⟩:=hend
  obtain ⟨hb,hk⟩:=hKp y hp' nx' hR
  obtain ⟨h1,h2,h3⟩:=backPanU hS hL' hl hle hH' hb hv
  exact hX (m.outerH m' (L.take np) σ.nx) _ y v h1 h2 h3 hk
theorem StepU.yield {l : Nat} (hΘ : ∀ m a,Sim m a σ → Θ m → Θ (m.innerU L σ.nx np)) (h : ayield σ o.op = some (ob,l,ys)) (hob : ob) (hd : dstOk σ.n o.dst = true)
  (hz : mapO (fz σ.hp 9) ys = some (ob',zs)) (hob' : ob') (hL : L.all (fun id=>(get σ.hp id).isSome) = true) (hnd : L.Nodup) (hl : np ≤ L.length)
  (hhp : viewHp (Aw.pick L σ.nx) L.length σ.hp hp0) (hxs : renL (Aw.pick L σ.nx) xs = zs) (hc : RoundU Θ P σ.gl l xs hp0 L.length np R)
  (hK : ∀ y hp' nx',R (.ret y) hp' nx' → (backOku np hp' nx' && noT y) = true ∧ K (St.put (backU σ L np hp' nx') o.dst (ren (bk (L.take np) σ.nx) y)))
  (hKp : ∀ y hp' nx',R (.panic y) hp' nx' → backOku np hp' nx' = true ∧ Kp y (backU σ L np hp' nx')) : StepT B r Θ P σ o K Kp:=by
 intro m a N X hS ht hN hX
 obtain ⟨vs,hexec,hvs⟩:=ayield_sound hS.s h hob
 have he : ({ a with defers:=B.ds } : Act).eval = a.eval:=rfl
 rw [he] at hexec
 refine ⟨fun _ _=>trivial,?_⟩
 have hL' : ∀ id ∈ L,(get σ.hp id).isSome = true:=fun id hid=>List.all_eq_true.1 hL id hid
 obtain ⟨hstart,hargs⟩:=innerStartU hS.s hvs hz hob' hL' hnd hhp hxs hl
 obtain ⟨rc,hrc,hsz,hcall⟩:=hc (m.innerU L σ.nx np) vs hstart (hΘ m _ hS.s ht) hargs
 have e2 : (m.innerU L σ.nx np).w = m.w:=rfl
 rw [e2] at hcall hrc
 rw [Oper.semAt_eq _ _ _ (notDefer_ne (ayield_notDefer h)),hexec,run_yield hrc hsz]
 refine ⟨fun hh=>(by cases hh),(show RoundIn (Fr none) 0 P _ _ _ _ _ _ _ from RoundIn.mono hcall ?_)⟩
 rintro e w' ⟨m',q,hp',nx',rfl,hle,hH',hend,hR⟩
 cases q with
 | ret y =>
  obtain ⟨v,rfl,hv⟩:=hend
  obtain ⟨hb,hk⟩:=hK y hp' nx' hR
  obtain ⟨h1,h2⟩:=backRetU (o:=o) hS hL' hl hle hH' hb hd hv
  exact hN (m.outerH m' (L.take np) σ.nx) _ _ h1 h2 hk
 | panic y =>
  obtain ⟨v,rfl,hv⟩:=hend
  obtain ⟨hb,hk⟩:=hKp y hp' nx' hR
  obtain ⟨h1,h2,h3⟩:=backPanU hS hL' hl hle hH' hb hv
  exact hX (m.outerH m' (L.take np) σ.nx) _ y v h1 h2 h3 hk
end
end Aw

namespace Aw
open Go
section
variable {P : Program} {gl : List (Nat × AV)} {f : FuncId} {fn : Func} {c : Code} {xs : List AV} {hp : List (Nat × ABlk)} {nx : Nat} {Θ : Mem → Prop}
theorem simArgsU {m : Mem} {vs : List Value} {np : Nat} (hm : StartU m gl hp nx np) (hv : RepL m 0 xs vs) (hn : xs.length ≤ fn.ntmps) : Sim m { tmps:=vs.toArray ++ Array.replicate (fn.ntmps - vs.toArray.size) undef,defers:=[] } ⟨fn.ntmps,argEnv 0 xs,hp,nx,gl,np,[]⟩:=by
 have hlen:=hv.length
 refine ⟨hm.h,?_,rfl,?_,hm.gl,hm.np⟩
 ·simp only [Array.size_append,List.size_toArray,Array.size_replicate]
  omega
 ·intro t x ht
  obtain ⟨_,hx⟩:=get_argEnv ht
  have hlt : t < xs.length:=by
   rcases Nat.lt_or_ge t xs.length with h | h
   ·exact h
   ·rw [List.getElem?_eq_none (by omega)] at hx; cases hx
  refine ⟨Nat.lt_of_lt_of_le hlt hn,?_⟩
  obtain ⟨v,hv1,hv2⟩:=hv.at t hlt
  have hx' : xs[t] = x:=by
   rw [Nat.sub_zero,List.getElem?_eq_getElem hlt] at hx
   exact Option.some.inj hx
  have : (vs.toArray ++ Array.replicate (fn.ntmps - vs.toArray.size) undef).getD t undef = v:=by
   rw [Array.getD_eq_getD_getElem?,Array.getElem?_append_left (by simp; omega)]
   simp [hv1]
  rw [this,← hx']
  exact hv2
theorem FnU.intro {np : Nat} {R : AE → List (Nat × ABlk) → Nat → Prop} (hf : P.funcs[f]? = some fn) (hname : (fn.name == "runtime.NumGoroutine") = false) (hb : fn.body = some c) (hn : xs.length ≤ fn.ntmps)
  (hT : ∀ q hp' nx',R q hp' nx' → noTHm hp' = true ∧ ∃ x,q = .ret x ∧ noT x = true)
  (h : ∀ B,AWT B none Θ P c ⟨fn.ntmps,argEnv 0 xs,hp,nx,gl,np,[]⟩ (finH P fn.results.toList R)) : FnU Θ P gl f xs hp nx np R:=by
 refine ⟨enters_of hf hname hb,fun m vs hm ht hv=>?_⟩
 refine callsIn_wide.1 (callsIn_of_wp_marks (F:=Fence.wide) (n:=0) hf hb trivial ?_)
 have hS:=SimT.start (simArgsU (fn:=fn) hm hv hn) rfl
 refine wpB.wide (wpB_mono (h ⟨m.w.heap.size,[],none⟩ m _ hS ht) ?_)
 rintro e a' w' ⟨m',σ',ax,rfl,hle,hS',hex,hq⟩
 have key : ∀ u,u ≠ .run → (∀ m2 : Mem,m.leT m2 → Sim m2 { a' with defers:=[] } σ' → LeavesIn Fence.wide 0 P fn a'.tmps (fun e w'=>∃ m' r hp' nx',m'.w = w' ∧ m.le m' ∧ SimH m' hp' nx' ∧ endOkH m' r e ∧ R r hp' nx') [] u m2.w) →
   LeavesInM Fence.wide 0 P fn a'.tmps (fun e w'=>∃ m' r hp' nx',m'.w = w' ∧ m.le m' ∧ SimH m' hp' nx' ∧ endOkH m' r e ∧ R r hp' nx') a'.defers u m'.w:=by
  intro u hu hend
  refine leavesM (B:=m.w.heap.size) (fun m2=>m.leT m2 ∧ Sim m2 { a' with defers:=[] } σ') ?_ (fun m2 h2=>hend m2 h2.1 h2.2) hu a'.defers m' hS'.marks ⟨hle,hS'.s⟩
  rintro m2 D ⟨h1,h2⟩ hD hB hh
  refine ⟨h1.turn (fun hP=>?_) hh rfl rfl,h2.turn hD hh rfl rfl⟩
  have:=hm.h.Pold D hP
  omega
 have ret : finHRet P fn.results.toList R σ' → LeavesInM Fence.wide 0 P fn a'.tmps (fun e w'=>∃ m' r hp' nx',m'.w = w' ∧ m.le m' ∧ SimH m' hp' nx' ∧ endOkH m' r e ∧ R r hp' nx') a'.defers .returning m'.w:=by
  intro hq
  refine key .returning (by simp) fun m2 h1 h2=>?_
  obtain ⟨_,v,hrun,m3,q,hp',nx',e3,l3,s3,en3,r3⟩:=finHRet_sound h2 (.refl m2) hq
  refine ⟨v,hrun,m3.shrink m,q,hp',nx',e3,shrink_le (h1.trans l3.t),shrink_simH (h1.trans l3.t) s3 (hT _ _ _ r3).1,?_,r3⟩
  obtain ⟨_,x,rfl,hx⟩:=hT _ _ _ r3
  obtain ⟨v',h1,h2⟩:=en3
  exact ⟨v',h1,shrink_rep hx h2⟩
 cases ax with
 | normal =>
  simp only [exOk] at hex
  subst hex
  exact ret hq
 | ret =>
  simp only [exOk] at hex
  subst hex
  exact ret hq
 | exit id=>exact hq.elim
 | panic x =>
  exfalso
  have hq' : finHPanic R x σ':=hq
  unfold finHPanic at hq'
  split at hq'
  ·exact hq'
  ·obtain ⟨_,_,h,_⟩:=hT _ _ _ hq'.2
   cases h
end
theorem RoundU.ofB {np : Nat} {P : Program} {gl : List (Nat × AV)} {hp : List (Nat × ABlk)} {nx : Nat} {M0 : Mem} {l k : Nat} {rc : Loop} {ps : List Tmp} {E : List (Nat × AV)} {xs : List AV} {R : AE → List (Nat × ABlk) → Nat → Prop}
  (hgk : get hp k = some (.lp l rc)) (hst : rc.state = .ready) (hps : rc.params = ps.toArray) (hE : ∀ m,KeptU M0 m → ∀ t y,get E t = some y → t < rc.tmps.size ∧ Rep m 0 y (rc.tmps.getD t undef)) (hp' : ∀ p ∈ ps,p < rc.tmps.size) (hxl : xs.length = ps.length)
  (h : AWT 0 (some l) (fun _=>True) P rc.assign ⟨rc.tmps.size,setAll E ps xs,hp,nx,gl,np,[]⟩
   (fun ax σ'=>ax = .normal ∧ get σ'.hp k = some (.lp l rc) ∧ AWT 0 (some l) (fun _=>True) P rc.body ⟨σ'.n,σ'.env,set σ'.hp k (.lp l { rc with state:=.busy }),σ'.nx,σ'.gl,σ'.np,σ'.df⟩
    (fun ax σ''=>∃ j,jumpOf ax = some j ∧ ∃ σ3,St.le σ3 σ'' ∧ get σ3.hp k = some (.lp l { rc with state:=.busy }) ∧ noTHm σ3.hp = true ∧
     R (.ret (.bool j.isNone)) (set σ3.hp k (.lp l { rc with state:=if j.isNone then .ready else .done,pending:=j })) σ3.nx))) : RoundU (KeptU M0) P gl l xs hp nx np R:=by
 intro m vs hm hk hv
 obtain ⟨hml,hmP,_⟩:=hm.h.lp hgk
 have hlen:=hv.length
 refine ⟨rc,hml,by rw [hps]; simp [← hxl,hlen],?_⟩
 refine roundIn_of_wpIn (F:=Fr none) (n:=0) trivial ?_
 rw [hps,setTmps_eq]
 have hS : Sim m { tmps:=setTmps rc.tmps ps vs,defers:=[] } ⟨rc.tmps.size,setAll E ps xs,hp,nx,gl,np,[]⟩ :=
  ⟨hm.h,setTmps_size _ _ _,rfl,setTmps_env rfl hp' hv (hE m hk),hm.gl,hm.np⟩
 have hS0 : SimT 0 m { tmps:=setTmps rc.tmps ps vs,defers:=[] } ⟨rc.tmps.size,setAll E ps xs,hp,nx,gl,np,[]⟩:=⟨hS,Marks.nil (B:=0),Nat.zero_le _⟩
 refine wpB.wide (wpB_mono (h m _ hS0 trivial) ?_)
 rintro e a1 w1 ⟨m1,σ1,ax,rfl,l1,s1,hex,rfl,hg1,hbody⟩
 simp only [exOk] at hex
 subst hex
 obtain ⟨h1l,h1P,_,_,_,_,h1t⟩:=s1.s.h.lp hg1
 obtain ⟨t1,t2,t3⟩:=h1t { rc with state:=.busy }
 refine ⟨_,run_beginRound h1l hst,?_⟩
 have s2 : SimT 0 (m1.turn l (.loop { rc with state:=.busy })) a1 ⟨σ1.n,σ1.env,set σ1.hp k (.lp l { rc with state:=.busy }),σ1.nx,σ1.gl,σ1.np,σ1.df⟩:=⟨s1.s.of t2 t3,s1.marks.le t1.t,Nat.zero_le _⟩
 refine wpB.wide (wpB_mono (hbody (m1.turn l (.loop { rc with state:=.busy })) a1 s2 trivial) ?_)
 rintro e a3 w3 ⟨m3',σ3',ax,rfl,l3',s3',hex,j,hj,σ3,hle3,hg3,hnT,hR⟩
 obtain ⟨m3,e3,l3'',s3⟩:=s3'.le hle3
 have l3:=l3'.trans l3''
 obtain ⟨h3l,h3P,_,_,_,_,h3t⟩:=s3.s.h.lp hg3
 obtain ⟨u1,u2,u3⟩:=h3t { rc with state:=if j.isNone then .ready else .done,pending:=j }
 have hend : ∃ v w',(Instr.endRound l j).run P m3.w = .ok v w' ∧ ∃ m' r hp' nx',m'.w = w' ∧ m.le m' ∧ SimH m' hp' nx' ∧ endOkH m' r (.returned v) ∧ R r hp' nx':=by
  refine ⟨_,_,run_endRound j h3l,?_⟩
  have hle : m.leT (m3.turn l (.loop { rc with state:=if j.isNone then .ready else .done,pending:=j })):=((l1.trans t1.t).trans l3).trans u1.t
  have hnT' : noTHm (set σ3.hp k (.lp l { rc with state:=if j.isNone then .ready else .done,pending:=j })) = true:=by
   have key : ∀ hp : List (Nat × ABlk),noTHm hp = true → noTHm (set hp k (.lp l { rc with state:=if j.isNone then .ready else .done,pending:=j })) = true:=by
    intro hp
    induction hp with
    | nil=>intro _; rfl
    | cons p r ih =>
     intro hh
     simp only [noTHm,Bool.and_eq_true] at hh
     obtain ⟨i,x⟩:=p
     simp only [set]
     split
     ·simp only [noTHm,noTBm,Bool.true_and]; exact hh.2
     ·simp only [noTHm,Bool.and_eq_true]; exact ⟨hh.1,ih hh.2⟩
   exact key _ hnT
  exact ⟨(m3.turn l _).shrink m,.ret (.bool j.isNone),_,_,rfl,shrink_le hle,shrink_simH hle u3 hnT',⟨_,rfl,by simp only [Rep]⟩,hR⟩
 rw [← e3]
 cases ax with
 | normal =>
  simp only [exOk] at hex
  simp only [jumpOf,Option.some.injEq] at hj
  subst hex hj
  exact hend
 | ret =>
  simp only [exOk] at hex
  simp only [jumpOf,Option.some.injEq] at hj
  subst hex hj
  exact hend
 | exit id =>
  simp only [exOk] at hex
  simp only [jumpOf,Option.some.injEq] at hj
  subst hex hj
  exact hend
 | panic x=>cases hj

mutual
def small (n : Nat) : AV → Bool
 | .agg cs=>smallL n cs
 | .tup cs=>smallL n cs
 | .clos _ cs=>smallL n cs
 | .row id _ _=>decide (id < n)
 | .ptr id _=>decide (id < n)
 | .rptr id _ _=>decide (id < n)
 | .map id=>decide (id < n)
 | .iface _ x=>small n x
 | .ite _ x y=>small n x && small n y
 | .opt _ x=>small n x
 | _=>true
def smallL (n : Nat) : List AV → Bool
 | []=>true
 | x :: xs=>small n x && smallL n xs
end
structure KS (n : Nat) (m m' : Mem) : Prop where
 Pr : ∀ b,m.Pr b → m'.Pr b
 block : ∀ b,m.Pr b → m'.w.heap[b]? = m.w.heap[b]?
 F : ∀ b o,m.F b o → m'.F b o
 cell : ∀ b o,m.F b o → m'.w.cell? ⟨b,o,none⟩ = m.w.cell? ⟨b,o,none⟩
 ρ : ∀ id ri,id < n → m.ρ id = some ri → m'.ρ id = some ri
theorem KS.kf {n : Nat} {m m' : Mem} (h : KS n m m') : KF m m':=⟨h.F,h.cell⟩
theorem KS.kp {n : Nat} {m m' : Mem} (h : KS n m m') : KP m m':=⟨h.Pr,h.block⟩
mutual
theorem Rep.monoS {n : Nat} {m m' : Mem} (h : KS n m m') : ∀ (x : AV) (v : Value),small n x = true → Rep m 0 x v → Rep m' 0 x v
 | .bool _,_,_,hx=>by simpa only [Rep] using hx
 | .int _ _,_,_,hx=>by simpa only [Rep] using hx
 | .str _,_,_,hx=>by simpa only [Rep] using hx
 | .agg cs,v,hs,hx=>by
  simp only [small] at hs
  simp only [Rep] at hx ⊢
  obtain ⟨vs,rfl,hl⟩:=hx
  exact ⟨vs,rfl,RepL.monoS h cs _ hs hl⟩
 | .tup cs,v,hs,hx=>by
  simp only [small] at hs
  simp only [Rep] at hx ⊢
  obtain ⟨vs,rfl,hl⟩:=hx
  exact ⟨vs,rfl,RepL.monoS h cs _ hs hl⟩
 | .sl es,v,_,hx=>by
  have:=Rep.monoK h.kf 1 (fun _=>h.kp) (Nat.le_refl 1) (.sl es) v (by simpa only [Rep] using hx)
  simpa only [Rep] using this
 | .row id off len,v,hs,hx=>by
  simp only [small,decide_eq_true_eq] at hs
  simp only [Rep] at hx ⊢
  obtain ⟨hk,ri,hr,hv⟩:=hx
  exact ⟨hk,ri,h.ρ id ri hs hr,hv⟩
 | .ptr id off,v,hs,hx=>by
  simp only [small,decide_eq_true_eq] at hs
  simp only [Rep] at hx ⊢
  obtain ⟨hk,ri,hr,hv⟩:=hx
  exact ⟨hk,ri,h.ρ id ri hs hr,hv⟩
 | .rptr id idx c,v,hs,hx=>by
  simp only [small,decide_eq_true_eq] at hs
  simp only [Rep] at hx ⊢
  obtain ⟨hk,ri,hr,hv⟩:=hx
  exact ⟨hk,ri,h.ρ id ri hs hr,hv⟩
 | .cptr cs,v,_,hx=>by
  have:=Rep.monoK h.kf 1 (fun _=>h.kp) (Nat.le_refl 1) (.cptr cs) v (by simpa only [Rep] using hx)
  simpa only [Rep] using this
 | .tptr cs,v,_,hx=>by
  have:=Rep.monoK h.kf 1 (fun _=>h.kp) (Nat.le_refl 1) (.tptr cs) v (by simp only [Rep] at hx ⊢; exact ⟨Nat.le_refl 1,hx.2⟩)
  simp only [Rep] at this ⊢
  exact ⟨Nat.zero_le 1,this.2⟩
 | .clos f caps,v,hs,hx=>by
  simp only [small] at hs
  simp only [Rep] at hx ⊢
  obtain ⟨vs,rfl,hl⟩:=hx
  exact ⟨vs,rfl,RepL.monoS h caps _ hs hl⟩
 | .iface t x,v,hs,hx=>by
  simp only [small] at hs
  simp only [Rep] at hx ⊢
  obtain ⟨u,rfl,hu⟩:=hx
  exact ⟨u,rfl,Rep.monoS h x u hs hu⟩
 | .ite c x y,v,hs,hx=>by
  simp only [small,Bool.and_eq_true] at hs
  simp only [Rep] at hx ⊢
  exact ⟨fun hc=>Rep.monoS h x v hs.1 (hx.1 hc),fun hc=>Rep.monoS h y v hs.2 (hx.2 hc)⟩
 | .opt c x,v,hs,hx=>by
  simp only [small] at hs
  simp only [Rep] at hx ⊢
  exact ⟨fun hc=>Rep.monoS h x v hs (hx.1 hc),hx.2⟩
 | .map id,v,hs,hx=>by
  simp only [small,decide_eq_true_eq] at hs
  simp only [Rep] at hx ⊢
  obtain ⟨hk,ri,hr,hv⟩:=hx
  exact ⟨hk,ri,h.ρ id ri hs hr,hv⟩
 | .cmap ks vs,v,_,hx=>by
  have:=Rep.monoK h.kf 1 (fun _=>h.kp) (Nat.le_refl 1) (.cmap ks vs) v (by simp only [Rep] at hx ⊢; exact ⟨Nat.le_refl 1,hx.2⟩)
  simp only [Rep] at this ⊢
  exact ⟨Nat.zero_le 1,this.2⟩
 | .raw _,_,_,hx=>by simpa only [Rep] using hx
 | .top,_,_,_=>by simp only [Rep]
theorem RepL.monoS {n : Nat} {m m' : Mem} (h : KS n m m') : ∀ (xs : List AV) (vs : List Value),smallL n xs = true → RepL m 0 xs vs → RepL m' 0 xs vs
 | [],_,_,hx=>by simpa only [RepL] using hx
 | x :: xs,vs,hs,hx=>by
  simp only [smallL,Bool.and_eq_true] at hs
  simp only [RepL] at hx ⊢
  obtain ⟨v,rest,rfl,hv,hr⟩:=hx
  exact ⟨v,rest,rfl,Rep.monoS h x v hs.1 hv,RepL.monoS h xs rest hs.2 hr⟩
end
end Aw
