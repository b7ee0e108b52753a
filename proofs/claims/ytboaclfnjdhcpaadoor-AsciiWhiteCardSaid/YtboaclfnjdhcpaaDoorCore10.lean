/- Rules of a calculus of walks: no condition of its own. -/
import Derived.Test.YtboaclfnjdhcpaaDoorCore9
import Derived.IntWalk
import Derived.Recover
namespace Aw
open Go
def keepE (L : List Nat) (env : List (Nat × AV)) : List (Nat × AV) :=
 match L with
 | []=>[]
 | t :: r=>match get env t with
  | some x=>(t,x) :: keepE r env
  | none=>keepE r env
def appE (a b : List (Nat × AV)) : List (Nat × AV) :=
 match a with
 | []=>b
 | x :: r=>x :: appE r b
attribute [go_sem] keepE appE
theorem AW.loopK {P : Program} {σ : St} {Q : AX → St → Prop} {c : Code} {S : Type} (L : List Nat) (V : S → List (Nat × AV)) (H : S → List (Nat × ABlk)) (N : Nat) (μ : S → Nat) (s : S) {E : List (Nat × AV)} (_ : keepE L σ.env = E)
  (h₀ : St.le ⟨σ.n,appE E (V s),H s,N,σ.gl,σ.np,σ.df⟩ σ)
  (h : ∀ s,AW P c ⟨σ.n,appE E (V s),H s,N,σ.gl,σ.np,σ.df⟩ (andThen (fun σ'=>∃ s',St.le ⟨σ.n,appE E (V s'),H s',N,σ.gl,σ.np,σ.df⟩ σ' ∧ μ s' < μ s) Q)) : AW P (.loop c) σ Q:=AW.loop (fun s=>⟨σ.n,appE E (V s),H s,N,σ.gl,σ.np,σ.df⟩) μ s h₀ h
theorem wrap_i64 {n : Int} (h0 : -9223372036854775808 ≤ n) (h : n ≤ 9223372036854775807) : IntKind.i64.wrap n = n:=IntWalk.i64_in _ ⟨h0,h⟩
theorem wrap_u8 {n : Int} (h0 : 0 ≤ n) (h : n ≤ 255) : IntKind.u8.wrap n = n:=IntWalk.u8_in _ ⟨h0,h⟩
theorem wrap_u64 {n : Int} (h0 : 0 ≤ n) (h : n ≤ 18446744073709551615) : IntKind.u64.wrap n = n:=IntWalk.u64_in _ ⟨h0,h⟩
theorem again {S : Type} {A : S → Prop} {μ : S → Nat} {n : Nat} (s' : S) (h1 : μ s' < n) (h2 : A s') : ∃ s',A s' ∧ μ s' < n:=⟨s',h2,h1⟩
end Aw
namespace Aw
open Go
theorem okRow_nil : okRow 0 [] = true:=rfl
theorem okRow_cons (n : Nat) (x : AV) (xs : List AV) : okRow (n + 1) (x :: xs) = (okCell x && okRow n xs):=by
 simp only [okRow,List.length_cons,List.all_cons,Nat.add_right_cancel_iff]
 cases okCell x <;> cases decide (xs.length = n) <;> cases xs.all okCell <;> rfl
theorem tdiv_nn {a b : Int} (h : 0 ≤ a) : a.tdiv b = a / b:=Int.tdiv_eq_ediv_of_nonneg h
theorem tmod_nn {a b : Int} (h : 0 ≤ a) : a.tmod b = a % b:=Int.tmod_eq_emod_of_nonneg h
attribute [go_sem] List.append_eq List.toList_toArray bytesAV_nil List.take_succ_cons List.take_zero List.take_nil List.forall_mem_cons List.not_mem_nil false_imp_iff okRow_nil okRow_cons room
end Aw
namespace Aw
open Go
theorem u8_le (b : UInt8) : ((b.toNat : Nat) : Int) ≤ 255:=by have:=b.toNat_lt; omega
theorem Less.of_eq {x y : AV} (h : x = y) : Less x y:=h ▸ Less.refl x
theorem Less.int {k : IntKind} {a b : Int} (h : a = b) : Less (.int k a) (.int k b):=h ▸ Less.refl _
theorem Less.row {i o a b : Nat} (h : a = b) : Less (.row i o a) (.row i o b):=h ▸ Less.refl _
theorem toNat_sub1 (n : Nat) : ((n : Int) - 1).toNat = n - 1:=by omega
attribute [go_sem] Int.toNat_natCast_add_one toNat_sub1 Int.toNat_sub
end Aw
namespace Aw
open Go
theorem i64max : IntKind.i64.max = 9223372036854775807:=by decide
attribute [go_sem] i64max
end Aw

namespace Aw
open Go

structure MapOk (m m' : Mem) (π : Nat → Nat) : Prop where
 Pr : ∀ b,m.Pr b → m'.Pr b
 block : ∀ b,m.Pr b → m'.w.heap[b]? = m.w.heap[b]?
 F : ∀ b o,m.F b o → m'.F b o
 cell : ∀ b o,m.F b o → m'.w.cell? ⟨b,o,none⟩ = m.w.cell? ⟨b,o,none⟩
 ρ : ∀ id ri,m.ρ id = some ri → m'.ρ (π id) = some ri
section
variable {m m' : Mem} {π : Nat → Nat}
theorem MapOk.kf (h : MapOk m m' π) : KF m m':=⟨h.F,h.cell⟩
theorem MapOk.kp (h : MapOk m m' π) : KP m m':=⟨h.Pr,h.block⟩
mutual
theorem Rep.map (h : MapOk m m' π) : ∀ (x : AV) (v : Value),Rep m 0 x v → Rep m' 0 (Aw.ren π x) v
 | .bool _,_,hx=>by simpa only [Aw.ren,Rep] using hx
 | .int _ _,_,hx=>by simpa only [Aw.ren,Rep] using hx
 | .str _,_,hx=>by simpa only [Aw.ren,Rep] using hx
 | .agg cs,v,hx=>by
  simp only [Aw.ren,Rep] at hx ⊢
  obtain ⟨vs,rfl,hl⟩:=hx
  exact ⟨vs,rfl,RepL.map h cs _ hl⟩
 | .tup cs,v,hx=>by
  simp only [Aw.ren,Rep] at hx ⊢
  obtain ⟨vs,rfl,hl⟩:=hx
  exact ⟨vs,rfl,RepL.map h cs _ hl⟩
 | .clos f cs,v,hx=>by
  simp only [Aw.ren,Rep] at hx ⊢
  obtain ⟨vs,rfl,hl⟩:=hx
  exact ⟨vs,rfl,RepL.map h cs _ hl⟩
 | .sl es,v,hx=>by
  simp only [Aw.ren]
  exact Rep.down (Nat.zero_le 2) _ _ (Rep.monoK h.kf 2 (fun h=>absurd h (by omega)) (by omega) (.sl es) v (by simpa only [Rep] using hx))
 | .row id off len,v,hx=>by
  simp only [Aw.ren,Rep] at hx ⊢
  obtain ⟨hk,ri,hr,hv⟩:=hx
  exact ⟨hk,ri,h.ρ id ri hr,hv⟩
 | .ptr id off,v,hx=>by
  simp only [Aw.ren,Rep] at hx ⊢
  obtain ⟨hk,ri,hr,hv⟩:=hx
  exact ⟨hk,ri,h.ρ id ri hr,hv⟩
 | .rptr id idx c,v,hx=>by
  simp only [Aw.ren,Rep] at hx ⊢
  obtain ⟨hk,ri,hr,hv⟩:=hx
  exact ⟨hk,ri,h.ρ id ri hr,hv⟩
 | .map id,v,hx=>by
  simp only [Aw.ren,Rep] at hx ⊢
  obtain ⟨hk,ri,hr,hv⟩:=hx
  exact ⟨hk,ri,h.ρ id ri hr,hv⟩
 | .cptr cs,v,hx=>by
  simp only [Aw.ren]
  exact Rep.down (Nat.zero_le 2) _ _ (Rep.monoK h.kf 2 (fun h=>absurd h (by omega)) (by omega) (.cptr cs) v (by simpa only [Rep] using hx))
 | .tptr cs,v,hx=>by
  simp only [Aw.ren]
  exact Rep.down (Nat.zero_le 1) _ _ (Rep.monoK h.kf 1 (fun _=>h.kp) (by omega) (.tptr cs) v (by simp only [Rep] at hx ⊢; exact ⟨Nat.le_refl 1,hx.2⟩))
 | .cmap ks vs,v,hx=>by
  simp only [Aw.ren]
  exact Rep.down (Nat.zero_le 1) _ _ (Rep.monoK h.kf 1 (fun _=>h.kp) (by omega) (.cmap ks vs) v (by simp only [Rep] at hx ⊢; exact ⟨Nat.le_refl 1,hx.2⟩))
 | .iface t x,v,hx=>by
  simp only [Aw.ren,Rep] at hx ⊢
  obtain ⟨u,rfl,hu⟩:=hx
  exact ⟨u,rfl,Rep.map h x u hu⟩
 | .ite c x y,v,hx=>by
  simp only [Aw.ren,Rep] at hx ⊢
  exact ⟨fun hc=>Rep.map h x v (hx.1 hc),fun hc=>Rep.map h y v (hx.2 hc)⟩
 | .opt c x,v,hx=>by
  simp only [Aw.ren,Rep] at hx ⊢
  exact ⟨fun hc=>Rep.map h x v (hx.1 hc),hx.2⟩
 | .raw _,_,hx=>by simpa only [Aw.ren,Rep] using hx
 | .top,_,_=>by simp only [Aw.ren,Rep]
theorem RepL.map (h : MapOk m m' π) : ∀ (xs : List AV) (vs : List Value),RepL m 0 xs vs → RepL m' 0 (renL π xs) vs
 | [],_,hx=>by simpa only [renL,RepL] using hx
 | x :: xs,vs,hx=>by
  simp only [renL,RepL] at hx ⊢
  obtain ⟨v,rest,rfl,hv,hr⟩:=hx
  exact ⟨v,rest,rfl,Rep.map h x v hv,RepL.map h xs rest hr⟩
end
theorem RepX.mapK (h : MapOk m m' π) {b : Nat} (hb : m'.w.heap[b]? = m.w.heap[b]?) {k : Nat} (hk : 1 ≤ k) : ∀ {cs : List AV} {o : Nat},RepX m k cs b o → RepX m' k cs b o
 | [],_,_=>by simp only [RepX]
 | x :: cs,o,hx=>by
  simp only [RepX] at hx ⊢
  obtain ⟨⟨v,hv,hr⟩,hrest⟩:=hx
  exact ⟨⟨v,(cell?_of_block hb).trans hv,Rep.monoK h.kf k (fun _=>h.kp) hk x v hr⟩,RepX.mapK h hb hk hrest⟩
theorem RepY.mapK (h : MapOk m m' π) {b : Nat} (hb : m'.w.heap[b]? = m.w.heap[b]?) : ∀ {es : List (List AV)} {o sz : Nat},RepY m es b o sz → RepY m' es b o sz
 | [],_,_,_=>by simp only [RepY]
 | e :: es,o,sz,hx=>by
  simp only [RepY] at hx ⊢
  exact ⟨hx.1,hx.2.1.mapK h hb (by omega),hx.2.2.mapK h hb⟩
theorem RowRep.map (h : MapOk m m' π) {ri : RI} {sz e : Nat} {es : List (List AV)} {own : Bool} (hb : ri.isNil = false → m'.w.heap[ri.b]? = m.w.heap[ri.b]?) (hP : ri.isNil = false → ¬ m'.Pr ri.b) (hF : ri.isNil = false → ∀ o,m'.F ri.b o → m.F ri.b o)
  (hx : RowRepG m ri sz es own e) : RowRepG m' ri sz es own e:=by
 rcases hx with hx | ⟨h1,h2,h3,h4,h5,h8⟩
 ·exact .inl hx
 ·obtain ⟨c,T,lo,hi,g1,g2,g3⟩:=h5
  refine .inr ⟨h1,hP h1,h3,h4,⟨c,T,lo,hi,(hb h1).trans g1,g2,g3⟩,?_⟩
  split at h8
  ·rename_i ho
   rw [if_pos ho]
   exact ⟨h8.1.mapK h (hb h1),fun i hi hf=>h8.2 i hi (hF h1 i hf)⟩
  ·rename_i ho
   rw [if_neg ho]
   exact ⟨RepE.monoK h.kf _ _ _ _ h8.1,fun i hi hf=>h8.2 i hi (hF h1 i hf)⟩
theorem BlkRep.map (h : MapOk m m' π) {ri : RI} {x : ABlk} (hb : ri.isNil = false → m'.w.heap[ri.b]? = m.w.heap[ri.b]?) (hP : ri.isNil = false → ¬ m'.Pr ri.b) (hF : ri.isNil = false → ∀ o,m'.F ri.b o → m.F ri.b o)
  (hx : BlkRep m ri x) : BlkRep m' ri (renB π x):=by
 cases x with
 | cells cs =>
  obtain ⟨h1,h2,h3,c,T,h4,h5⟩:=hx
  exact ⟨h1,hP h1,fun o ho=>h3 o (hF h1 o ho),c,T,(hb h1).trans h4,RepL.map h _ _ h5⟩
 | tc T0 cs =>
  obtain ⟨h1,h2,h3,c,h4,h5⟩:=hx
  exact ⟨h1,hP h1,fun o ho=>h3 o (hF h1 o ho),c,(hb h1).trans h4,RepL.map h _ _ h5.1,h5.2.1,h5.2.2.1,h5.2.2.2.trans (renL_len _ _).symm⟩
 | row sz es own=>exact RowRep.map h hb hP hF hx
 | full sz es=>exact ⟨RowRep.map h hb hP hF hx.1,hx.2⟩
 | mrow sz es=>exact ⟨hx.1,RowRep.map h hb hP hF hx.2⟩
 | brow e l=>exact ⟨RowRep.map h hb hP hF hx.1,fun hn=>⟨(hx.2 hn).1,let ⟨c,hc⟩:=(hx.2 hn).2; ⟨c,(hb hn).trans hc⟩⟩⟩
 | amap ks vs =>
  obtain ⟨h1,h2,h3,kv,vv,es,clock,h4,h5,h6,h7⟩:=hx
  exact ⟨h1,hP h1,fun o ho=>h3 o (hF h1 o ho),kv,vv,es,clock,(hb h1).trans h4,h5,RepL.monoK h.kf 1 (fun _=>h.kp) (by omega) _ _ h6,RepL.monoK h.kf 1 (fun _=>h.kp) (by omega) _ _ h7⟩
 | lp l rc =>
  obtain ⟨h1,h2,h3,h4,h5⟩:=hx
  exact ⟨h1,hP h1,fun o ho=>h3 o (hF h1 o ho),h4,(hb h1).trans h5⟩
 | it left cur =>
  obtain ⟨h1,h2,h3,h4,bm,es,clock,seen,g1,g2,g3,g4,⟨el,e1,e2,e3⟩,g5⟩:=hx
  exact ⟨h1,hP h1,fun o ho=>h3 o (hF h1 o ho),h4,bm,es,clock,seen,h.Pr bm g1,(h.block bm g1).trans g2,g3,(hb h1).trans g4,⟨el,e1,RepL.monoK h.kf 1 (fun _=>h.kp) (by omega) _ _ e2,RepL.monoK h.kf 1 (fun _=>h.kp) (by omega) _ _ e3⟩,
   fun k v hc=>let ⟨e,q1,q2,q3,q4⟩:=g5 k v hc; ⟨e,q1,q2,Rep.monoK h.kf 1 (fun _=>h.kp) (by omega) _ _ q3,Rep.monoK h.kf 1 (fun _=>h.kp) (by omega) _ _ q4⟩⟩
end
mutual
theorem ren_id : ∀ x : AV,ren (fun i=>i) x = x
 | .bool _=>rfl
 | .int _ _=>rfl
 | .str _=>rfl
 | .agg cs=>by simp only [ren,renL_id cs]
 | .tup cs=>by simp only [ren,renL_id cs]
 | .clos _ cs=>by simp only [ren,renL_id cs]
 | .sl _=>rfl
 | .row _ _ _=>rfl
 | .ptr _ _=>rfl
 | .rptr _ _ _=>rfl
 | .map _=>rfl
 | .cptr _=>rfl
 | .tptr _=>rfl
 | .cmap _ _=>rfl
 | .iface _ x=>by simp only [ren,ren_id x]
 | .ite _ x y=>by simp only [ren,ren_id x,ren_id y]
 | .opt _ x=>by simp only [ren,ren_id x]
 | .raw _=>rfl
 | .top=>rfl
theorem renL_id : ∀ xs : List AV,renL (fun i=>i) xs = xs
 | []=>rfl
 | x :: xs=>by simp only [renL,ren_id x,renL_id xs]
end
theorem renB_id (x : ABlk) : renB (fun i=>i) x = x:=by
 cases x <;> simp only [renB,renL_id]

/-! ### the contract -/
structure StartH (m : Mem) (gl : List (Nat × AV)) (hp : List (Nat × ABlk)) (nx : Nat) : Prop where
 h : SimH m hp nx
 gl : ∀ g x,get gl g = some x → Rep m 1 x (.pointer (some ⟨g,0,none⟩))
 np : m.np = nx
def endOkH (m : Mem) (r : AE) (e : Ending) : Prop :=
 match r with
 | .ret x=>∃ v,e = .returned v ∧ Rep m 0 x v
 | .panic x=>∃ v,e = .panicked [{ v,recovered:=false }] ∧ Rep m 2 x v
structure FnH (P : Program) (gl : List (Nat × AV)) (f : FuncId) (xs : List AV) (hp : List (Nat × ABlk)) (nx : Nat) (R : AE → List (Nat × ABlk) → Nat → Prop) : Prop where
 enters : enters P f
 calls : ∀ m vs,StartH m gl hp nx → RepL m 0 xs vs → Calls P f vs.toArray m.w fun e w'=>∃ m' r hp' nx',m'.w = w' ∧ m.le m' ∧ SimH m' hp' nx' ∧ endOkH m' r e ∧ R r hp' nx'
theorem FnH.mono {P : Program} {gl : List (Nat × AV)} {f : FuncId} {xs : List AV} {hp : List (Nat × ABlk)} {nx : Nat} {R R' : AE → List (Nat × ABlk) → Nat → Prop} (h : FnH P gl f xs hp nx R) (hr : ∀ r hp nx,R r hp nx → R' r hp nx) : FnH P gl f xs hp nx R' :=
 ⟨h.enters,fun m vs hm hv=>(h.calls m vs hm hv).mono fun _ _ ⟨m',r,hp',nx',h1,h2,h3,h4,h5⟩=>⟨m',r,hp',nx',h1,h2,h3,h4,hr r _ _ h5⟩⟩

def finHRet (P : Program) (rs : List ResultVar) (R : AE → List (Nat × ABlk) → Nat → Prop) (σ : St) : Prop :=
 match aresult P σ rs with
 | none=>False
 | some p=>(σ.df = [] ∧ p.1) ∧ R (.ret p.2) σ.hp σ.nx
def finHPanic (R : AE → List (Nat × ABlk) → Nat → Prop) (x : AV) (σ : St) : Prop :=
 match closeR σ x with
 | none=>False
 | some q=>(σ.df = [] ∧ q.1) ∧ R (.panic q.2) (frzs σ.hp (rids σ.hp 9 x)) σ.nx
def finH (P : Program) (rs : List ResultVar) (R : AE → List (Nat × ABlk) → Nat → Prop) (x : AX) (σ : St) : Prop :=
 match x with
 | .normal=>finHRet P rs R σ
 | .ret=>finHRet P rs R σ
 | .panic x=>finHPanic R x σ
 | .exit _=>False
theorem finHRet_sound {P : Program} {m0 m : Mem} {a : Act} {σ : St} (hS : Sim m a σ) (hle : m0.le m) {fn : Func} {R : AE → List (Nat × ABlk) → Nat → Prop} (h : finHRet P fn.results.toList R σ) :
  a.defers = [] ∧ ∃ v,(results fn a.tmps).run P m.w = .ok v m.w ∧ ∃ m' r hp' nx',m'.w = m.w ∧ m0.le m' ∧ SimH m' hp' nx' ∧ endOkH m' r (.returned v) ∧ R r hp' nx':=by
 unfold finHRet at h
 split at h
 ·exact h.elim
 rename_i p hp
 obtain ⟨hob,h⟩:=h
 obtain ⟨v,hrun,hrep⟩:=aresult_sound hS hp hob.2
 have hd:=hS.defers
 rw [hob.1] at hd
 exact ⟨hd,v,hrun,m,.ret p.2,σ.hp,σ.nx,rfl,hle,hS.h,⟨v,rfl,hrep⟩,h⟩
theorem finHPanic_sound {m0 m : Mem} {a : Act} {σ : St} (hS : Sim m a σ) (hle : m0.le m) {R : AE → List (Nat × ABlk) → Nat → Prop} {x : AV} {v : Value} (hv : Rep m 0 x v) (h : finHPanic R x σ) :
  a.defers = [] ∧ ∃ m' r hp' nx',m'.w = m.w ∧ m0.le m' ∧ SimH m' hp' nx' ∧ endOkH m' r (.panicked [{ v,recovered:=false }]) ∧ R r hp' nx':=by
 unfold finHPanic at h
 split at h
 ·exact h.elim
 rename_i q hq
 obtain ⟨hob,h⟩:=h
 have hd:=hS.defers
 rw [hob.1] at hd
 obtain ⟨m',h1,_,h3,h4,h5⟩:=frzs_sound (rids σ.hp 9 x) hS.h
 exact ⟨hd,m',.panic q.2,_,_,h1,hle.trans h3,h5,⟨v,rfl,shr_sound h5 false ⟨fun _ _ h=>h,fun _ _ _=>rfl⟩ rfl (fun h=>by cases h) 9 x q.2 v q.1 hq hob.2 (Rep.mono h4 0 _ _ hv)⟩,h⟩

theorem FnH.intro {P : Program} {gl : List (Nat × AV)} {f : FuncId} {fn : Func} {c : Code} {xs : List AV} {hp : List (Nat × ABlk)} {nx : Nat} {R : AE → List (Nat × ABlk) → Nat → Prop} (hf : P.funcs[f]? = some fn) (hname : (fn.name == "runtime.NumGoroutine") = false)
  (hb : fn.body = some c) (hn : xs.length ≤ fn.ntmps) (h : AW P c ⟨fn.ntmps,argEnv 0 xs,hp,nx,gl,nx,[]⟩ (finH P fn.results.toList R)) : FnH P gl f xs hp nx R:=by
 refine ⟨enters_of hf hname hb,fun m vs hm hv=>?_⟩
 have hlen:=hv.length
 refine calls_of_wp hf hb ?_
 have hS : Sim m { tmps:=vs.toArray ++ Array.replicate (fn.ntmps - vs.toArray.size) undef,defers:=[] } ⟨fn.ntmps,argEnv 0 xs,hp,nx,gl,nx,[]⟩:=by
  refine ⟨hm.h,?_,rfl,?_,hm.gl,hm.np⟩
  ·simp only [Array.size_append,List.size_toArray,Array.size_replicate]
   omega
  ·intro t x ht
   obtain ⟨_,hx⟩:=get_argEnv ht
   have hlt : t < xs.length:=by
    rcases Nat.lt_or_ge t xs.length with h | h
    ·exact h
    ·rw [List.getElem?_eq_none (by omega)] at hx; cases hx
   refine ⟨Nat.lt_of_lt_of_le hlt hn,?_⟩
   obtain ⟨v,hv1,hv2⟩:=hv.at t hlt
   have hx' : xs[t] = x:=by
    rw [Nat.sub_zero,List.getElem?_eq_getElem hlt] at hx
    exact Option.some.inj hx
   have : (vs.toArray ++ Array.replicate (fn.ntmps - vs.toArray.size) undef).getD t undef = v:=by
    rw [Array.getD_eq_getD_getElem?,Array.getElem?_append_left (by simp; omega)]
    simp [hv1]
   rw [this,← hx']
   exact hv2
 refine wp_mono (h m _ hS) ?_
 rintro e a' w' ⟨m',σ',ax,rfl,hle,hS',hex,hq⟩
 cases ax with
 | normal =>
  simp only [exOk] at hex
  subst hex
  exact finHRet_sound hS' hle hq
 | ret =>
  simp only [exOk] at hex
  subst hex
  exact finHRet_sound hS' hle hq
 | exit id=>exact hq.elim
 | panic x =>
  simp only [exOk] at hex
  obtain ⟨v,rfl,hv⟩:=hex
  exact finHPanic_sound hS' hle hv hq
end Aw

namespace Aw
open Go

def fz (hp : List (Nat × ABlk)) : Nat → AV → Option (Prop × AV)
 | 0,x=>some (True,x)
 | n + 1,x=>match x with
  | .row id off len=>match get hp id with
   | some (.row _ es false)=>some (off + len ≤ es.length,.sl ((es.drop off).take len))
   | _=>some (True,.row id off len)
  | .agg cs=>match mapO (fz hp n) cs with
   | some q=>some (q.1,.agg q.2)
   | none=>none
  | .clos f cs=>match mapO (fz hp n) cs with
   | some q=>some (q.1,.clos f q.2)
   | none=>none
  | y=>some (True,y)
theorem fz_sound {m : Mem} {hp : List (Nat × ABlk)} {nx : Nat} (hH : SimH m hp nx) : ∀ (n : Nat) (x y : AV) (v : Value) (ob : Prop),fz hp n x = some (ob,y) → ob → Rep m 0 x v → Rep m 0 y v
 | 0,x,y,v,ob,h,_,hv=>by
  simp only [fz,Option.some.injEq,Prod.mk.injEq] at h
  obtain ⟨_,rfl⟩:=h
  exact hv
 | n + 1,x,y,v,ob,h,hob,hv=>by
  unfold fz at h
  split at h
  ·rename_i id off len
   split at h
   ·rename_i es hg
    simp only [Option.some.injEq,Prod.mk.injEq] at h
    obtain ⟨rfl,rfl⟩:=h
    exact Rep.down (Nat.zero_le 2) _ _ (clo_sound hH (x:=.row id off len) (ob:=off + len ≤ es.length) (by simp only [clo,hg]) hob hv).1
   ·simp only [Option.some.injEq,Prod.mk.injEq] at h
    obtain ⟨rfl,rfl⟩:=h
    exact hv
  ·split at h
   case h_2=>cases h
   rename_i q hq
   simp only [Option.some.injEq,Prod.mk.injEq] at h
   obtain ⟨rfl,rfl⟩:=h
   simp only [Rep] at hv ⊢
   obtain ⟨vs,rfl,hl⟩:=hv
   exact ⟨vs,rfl,mapO_sound (fun x y v ob h hob hv=>fz_sound hH n x y v ob h hob hv) hq hob hl⟩
  ·split at h
   case h_2=>cases h
   rename_i q hq
   simp only [Option.some.injEq,Prod.mk.injEq] at h
   obtain ⟨rfl,rfl⟩:=h
   simp only [Rep] at hv ⊢
   obtain ⟨vs,rfl,hl⟩:=hv
   exact ⟨vs,rfl,mapO_sound (fun x y v ob h hob hv=>fz_sound hH n x y v ob h hob hv) hq hob hl⟩
  ·simp only [Option.some.injEq,Prod.mk.injEq] at h
   obtain ⟨rfl,rfl⟩:=h
   exact hv

def bk (L : List Nat) (nx i : Nat) : Nat :=
 match nth L i with
 | some j=>j
 | none=>nx + (i - L.length)
def dels (hp : List (Nat × ABlk)) : List Nat → List (Nat × ABlk)
 | []=>hp
 | i :: r=>dels (del hp i) r
def renHp (π : Nat → Nat) : List (Nat × ABlk) → List (Nat × ABlk)
 | []=>[]
 | p :: r=>(π p.1,renB π p.2) :: renHp π r
def appHp (a b : List (Nat × ABlk)) : List (Nat × ABlk) :=
 match a with
 | []=>b
 | x :: r=>x :: appHp r b
theorem get_dels : ∀ {L : List Nat} {hp : List (Nat × ABlk)} {j : Nat} {x : ABlk},get (dels hp L) j = some x → get hp j = some x ∧ j ∉ L
 | [],_,_,_,h=>⟨h,by simp⟩
 | i :: r,hp,j,x,h=>by
  simp only [dels] at h
  obtain ⟨h1,h2⟩:=get_dels h
  rw [get_del] at h1
  split at h1
  ·cases h1
  ·rename_i hne
   exact ⟨h1,by simp [Ne.symm hne,h2]⟩
theorem get_appHp {a b : List (Nat × ABlk)} {j : Nat} {x : ABlk} (h : get (appHp a b) j = some x) : get a j = some x ∨ get b j = some x:=by
 induction a with
 | nil=>exact .inr h
 | cons p r ih =>
  simp only [appHp,Aw.get] at h ⊢
  split at h
  ·rename_i e
   rw [if_pos e]
   exact .inl h
  ·rename_i e
   rw [if_neg e]
   exact ih h
theorem get_renHp {π : Nat → Nat} {hp : List (Nat × ABlk)} {j : Nat} {x : ABlk} (h : get (renHp π hp) j = some x) : ∃ i y,(i,y) ∈ hp ∧ π i = j ∧ x = renB π y:=by
 induction hp with
 | nil=>simp [renHp,Aw.get] at h
 | cons p r ih =>
  simp only [renHp,Aw.get] at h
  split at h
  ·rename_i e
   injection h with h
   exact ⟨p.1,p.2,by simp,e,h.symm⟩
  ·obtain ⟨i,y,h1,h2,h3⟩:=ih h
   exact ⟨i,y,by simp [h1],h2,h3⟩

def solo : List (Nat × ABlk) → Bool
 | []=>true
 | p :: r=>(get r p.1).isNone && solo r
theorem get_of_mem : ∀ {hp : List (Nat × ABlk)} {i : Nat} {y : ABlk},solo hp = true → (i,y) ∈ hp → get hp i = some y
 | p :: r,i,y,hs,hm=>by
  simp only [solo,Bool.and_eq_true,Option.isNone_iff_eq_none] at hs
  simp only [Aw.get]
  rcases List.mem_cons.1 hm with e | hm
  ·rw [← e]; simp
  ·have:=get_of_mem hs.2 hm
   split
   ·rename_i e
    rw [e,this] at hs
    cases hs.1
   ·exact this

def Mem.innerH (m : Mem) (L : List Nat) (nx : Nat) : Mem :=
 { w:=m.w,F:=m.F,Pr:=fun b=>b < m.w.heap.size ∧ ∀ id ∈ L,∀ ri,m.ρ id = some ri → ri.isNil = false → ri.b ≠ b,ρ:=fun i=>m.ρ (Aw.pick L nx i),np:=L.length }
def Mem.outerH (m m' : Mem) (L : List Nat) (nx : Nat) : Mem :=
 { w:=m'.w,F:=m'.F,Pr:=m.Pr,ρ:=fun id=>if id < nx then m.ρ id else m'.ρ (L.length + (id - nx)),np:=m.np }
section
variable {m m' : Mem} {hp hp0 hp' : List (Nat × ABlk)} {nx nx' : Nat} {L : List Nat}
theorem innerH_map (hH : SimH m hp nx) (hL : ∀ id ∈ L,(get hp id).isSome = true) : MapOk (m.ren (Aw.pick L nx)) (m.innerH L nx) (fun i=>i) where
 Pr b hb:=⟨hH.Pold b hb,fun id hid ri hr hn e=>by
  obtain ⟨x,hx⟩:=Option.isSome_iff_exists.1 (hL id hid)
  obtain ⟨ri',hr',hbr⟩:=hH.blk id x hx
  obtain rfl : ri' = ri:=Option.some.inj (hr'.symm.trans hr)
  have hP : ¬ m.Pr ri'.b:=by
   cases x with
   | cells cs=>exact hbr.2.1
   | tc T0 cs=>exact hbr.2.1
   | amap ks vs=>exact hbr.2.1
   | lp l rc=>exact hbr.2.1
   | it left cur=>exact hbr.2.1
   | full sz es =>
    rcases hbr.1 with hbr | hbr
    ·rw [hn] at hbr; cases hbr.1
    ·exact hbr.2.1
   | brow e0 l0 =>
    rcases hbr.1 with hbr | hbr
    ·rw [hn] at hbr; cases hbr.1
    ·exact hbr.2.1
   | mrow sz es =>
    rcases hbr.2 with hbr | hbr
    ·rw [hn] at hbr; cases hbr.1
    ·exact hbr.2.1
   | row sz es own =>
    rcases hbr with hbr | hbr
    ·rw [hn] at hbr; cases hbr.1
    ·exact hbr.2.1
  exact hP (e ▸ hb)⟩
 block _ _:=rfl
 F _ _ h:=h
 cell _ _ _:=rfl
 ρ _ _ h:=h
theorem BlkRep.noPr {ri : RI} {x : ABlk} (h : BlkRep m ri x) (hn : ri.isNil = false) : ¬ m.Pr ri.b:=by
 cases x with
 | cells cs=>exact h.2.1
 | tc T0 cs=>exact h.2.1
 | amap ks vs=>exact h.2.1
 | lp l rc=>exact h.2.1
 | it left cur=>exact h.2.1
 | full sz es =>
  rcases h.1 with h | h
  ·rw [hn] at h; cases h.1
  ·exact h.2.1
 | brow e0 l0 =>
  rcases h.1 with h | h
  ·rw [hn] at h; cases h.1
  ·exact h.2.1
 | mrow sz es =>
  rcases h.2 with h | h
  ·rw [hn] at h; cases h.1
  ·exact h.2.1
 | row sz es own =>
  rcases h with h | h
  ·rw [hn] at h; cases h.1
  ·exact h.2.1
theorem innerH_simH (hH : SimH m hp nx) (hL : ∀ id ∈ L,(get hp id).isSome = true) (hnd : L.Nodup) (hhp : viewHp (Aw.pick L nx) L.length hp hp0) : SimH (m.innerH L nx) hp0 L.length where
 blk id x hx:=by
  obtain ⟨h1,h2⟩:=viewHp_get hhp hx
  obtain ⟨ri,h3,h4⟩:=hH.blk _ _ h2
  refine ⟨ri,h3,?_⟩
  have h5:=BlkRep.map (innerH_map hH hL) (ri:=ri) (x:=x) (fun _=>rfl) (fun hn hP=>?_) (fun _ _ h=>h) h4.ren
  ·rw [renB_id] at h5; exact h5
  ·have hmem : Aw.pick L nx id ∈ L:=by
    obtain ⟨y,hy⟩:=nth_lt h1
    unfold Aw.pick
    rw [hy]
    simp only
    rw [nth_eq] at hy
    exact List.mem_of_getElem? hy
   exact hP.2 _ hmem ri h3 hn rfl
 apart id id' x x' ri ri' hx hx' hr hr' hne hn1 hn2:=by
  obtain ⟨l1,g1⟩:=viewHp_get hhp hx
  obtain ⟨l2,g2⟩:=viewHp_get hhp hx'
  refine hH.apart _ _ _ _ ri ri' g1 g2 hr hr' ?_ hn1 hn2
  intro e
  unfold Aw.pick at e
  obtain ⟨y1,e1⟩:=nth_lt l1
  obtain ⟨y2,e2⟩:=nth_lt l2
  rw [e1,e2] at e
  simp only at e
  rw [nth_eq] at e1 e2
  exact hne ((List.getElem?_inj l1 hnd).1 (e1.trans (by rw [e2,e])))
 fresh id hid:=by
  show m.ρ (Aw.pick L nx id) = none
  unfold Aw.pick
  rw [nth_none hid]
  exact hH.fresh _ (by simp only; omega)
 Fold:=hH.Fold
 Pold b hb:=hb.1

theorem pick_lt {i : Nat} (h : i < L.length) : ∃ j,Aw.pick L nx i = j ∧ nth L i = some j ∧ j ∈ L:=by
 obtain ⟨y,hy⟩:=nth_lt h
 refine ⟨y,by unfold Aw.pick; rw [hy],hy,?_⟩
 rw [nth_eq] at hy
 exact List.mem_of_getElem? hy
theorem rho_lt (hH : SimH m hp nx) {id : Nat} {ri : RI} (h : m.ρ id = some ri) : id < nx:=by
 rcases Nat.lt_or_ge id nx with h1 | h1
 ·exact h1
 ·rw [hH.fresh id h1] at h; cases h
theorem outerH_keeps (hH : SimH m hp nx) (hL : ∀ id ∈ L,(get hp id).isSome = true) (h : (m.innerH L nx).le m') : m.keeps (m.outerH m' L nx) where
 np:=rfl
 Pr _ hb:=hb
 block b hb:=h.block b ((innerH_map hH hL).Pr b hb)
 F:=h.F
 cell:=h.cell
 ρ id ri hr:=by show (if id < nx then m.ρ id else _) = some ri; rw [if_pos (rho_lt hH hr)]; exact hr
theorem outerH_le (hH : SimH m hp nx) (hL : ∀ id ∈ L,(get hp id).isSome = true) (h : (m.innerH L nx).le m') : m.le (m.outerH m' L nx) where
 os:=h.os
 tape:=h.tape
 output:=h.output
 size:=h.size
 Pr:=rfl
 block b hb:=h.block b ((innerH_map hH hL).Pr b hb)
 F:=h.F
 cell:=h.cell
 new b o hb hf:=h.new b o ((innerH_map hH hL).Pr b hb) hf
 np:=rfl
 pin id ri _ hr:=(outerH_keeps hH hL h).ρ id ri hr
theorem bk_map (hH : SimH m hp nx) (hL : ∀ id ∈ L,(get hp id).isSome = true) (h : (m.innerH L nx).le m') {id : Nat} {ri : RI} (hr : m'.ρ id = some ri) : (m.outerH m' L nx).ρ (bk L nx id) = some ri:=by
 unfold bk
 rcases Nat.lt_or_ge id L.length with hlt | hge
 ·obtain ⟨j,h1,h2,h3⟩:=pick_lt (nx:=nx) hlt
  rw [h2]
  simp only
  obtain ⟨x,hx⟩:=Option.isSome_iff_exists.1 (hL j h3)
  obtain ⟨ri',hr',_⟩:=hH.blk j x hx
  have:=h.pin id ri' hlt (by show m.ρ (Aw.pick L nx id) = some ri'; rw [h1]; exact hr')
  rw [this] at hr
  injection hr with hr
  subst hr
  show (if j < nx then m.ρ j else _) = some ri'
  rw [if_pos (rho_lt hH hr')]
  exact hr'
 ·rw [nth_none hge]
  show (if nx + (id - L.length) < nx then _ else m'.ρ (L.length + (nx + (id - L.length) - nx))) = some ri
  rw [if_neg (by omega),show L.length + (nx + (id - L.length) - nx) = id from by omega]
  exact hr
end

/-! ### what comes back -/
mutual
def noT : AV → Bool
 | .agg cs=>noTL cs
 | .tup cs=>noTL cs
 | .clos _ cs=>noTL cs
 | .tptr _=>false
 | .cmap _ _=>false
 | .iface _ x=>noT x
 | .ite _ x y=>noT x && noT y
 | .opt _ x=>noT x
 | _=>true
def noTL : List AV → Bool
 | []=>true
 | x :: xs=>noT x && noTL xs
end
structure MapF (m m' : Mem) (π : Nat → Nat) : Prop where
 F : ∀ b o,m.F b o → m'.F b o
 cell : ∀ b o,m.F b o → m'.w.cell? ⟨b,o,none⟩ = m.w.cell? ⟨b,o,none⟩
 ρ : ∀ id ri,m.ρ id = some ri → m'.ρ (π id) = some ri
section
variable {m m' : Mem} {π : Nat → Nat}
theorem MapF.kf (h : MapF m m' π) : KF m m':=⟨h.F,h.cell⟩
mutual
theorem Rep.mapT (h : MapF m m' π) : ∀ (x : AV) (v : Value),noT x = true → Rep m 0 x v → Rep m' 0 (Aw.ren π x) v
 | .bool _,_,_,hx=>by simpa only [Aw.ren,Rep] using hx
 | .int _ _,_,_,hx=>by simpa only [Aw.ren,Rep] using hx
 | .str _,_,_,hx=>by simpa only [Aw.ren,Rep] using hx
 | .agg cs,v,hn,hx=>by
  simp only [noT] at hn
  simp only [Aw.ren,Rep] at hx ⊢
  obtain ⟨vs,rfl,hl⟩:=hx
  exact ⟨vs,rfl,RepL.mapT h cs _ hn hl⟩
 | .tup cs,v,hn,hx=>by
  simp only [noT] at hn
  simp only [Aw.ren,Rep] at hx ⊢
  obtain ⟨vs,rfl,hl⟩:=hx
  exact ⟨vs,rfl,RepL.mapT h cs _ hn hl⟩
 | .clos f cs,v,hn,hx=>by
  simp only [noT] at hn
  simp only [Aw.ren,Rep] at hx ⊢
  obtain ⟨vs,rfl,hl⟩:=hx
  exact ⟨vs,rfl,RepL.mapT h cs _ hn hl⟩
 | .sl es,v,_,hx=>by
  simp only [Aw.ren]
  exact Rep.down (Nat.zero_le 2) _ _ (Rep.monoK h.kf 2 (fun h=>absurd h (by omega)) (by omega) (.sl es) v (by simpa only [Rep] using hx))
 | .row id off len,v,_,hx=>by
  simp only [Aw.ren,Rep] at hx ⊢
  obtain ⟨hk,ri,hr,hv⟩:=hx
  exact ⟨hk,ri,h.ρ id ri hr,hv⟩
 | .ptr id off,v,_,hx=>by
  simp only [Aw.ren,Rep] at hx ⊢
  obtain ⟨hk,ri,hr,hv⟩:=hx
  exact ⟨hk,ri,h.ρ id ri hr,hv⟩
 | .rptr id idx c,v,_,hx=>by
  simp only [Aw.ren,Rep] at hx ⊢
  obtain ⟨hk,ri,hr,hv⟩:=hx
  exact ⟨hk,ri,h.ρ id ri hr,hv⟩
 | .map id,v,_,hx=>by
  simp only [Aw.ren,Rep] at hx ⊢
  obtain ⟨hk,ri,hr,hv⟩:=hx
  exact ⟨hk,ri,h.ρ id ri hr,hv⟩
 | .cptr cs,v,_,hx=>by
  simp only [Aw.ren]
  exact Rep.down (Nat.zero_le 2) _ _ (Rep.monoK h.kf 2 (fun h=>absurd h (by omega)) (by omega) (.cptr cs) v (by simpa only [Rep] using hx))
 | .tptr _,_,hn,_=>by simp [noT] at hn
 | .cmap _ _,_,hn,_=>by simp [noT] at hn
 | .iface t x,v,hn,hx=>by
  simp only [noT] at hn
  simp only [Aw.ren,Rep] at hx ⊢
  obtain ⟨u,rfl,hu⟩:=hx
  exact ⟨u,rfl,Rep.mapT h x u hn hu⟩
 | .ite c x y,v,hn,hx=>by
  simp only [noT,Bool.and_eq_true] at hn
  simp only [Aw.ren,Rep] at hx ⊢
  exact ⟨fun hc=>Rep.mapT h x v hn.1 (hx.1 hc),fun hc=>Rep.mapT h y v hn.2 (hx.2 hc)⟩
 | .opt c x,v,hn,hx=>by
  simp only [noT] at hn
  simp only [Aw.ren,Rep] at hx ⊢
  exact ⟨fun hc=>Rep.mapT h x v hn (hx.1 hc),hx.2⟩
 | .raw _,_,_,hx=>by simpa only [Aw.ren,Rep] using hx
 | .top,_,_,_=>by simp only [Aw.ren,Rep]
theorem RepL.mapT (h : MapF m m' π) : ∀ (xs : List AV) (vs : List Value),noTL xs = true → RepL m 0 xs vs → RepL m' 0 (renL π xs) vs
 | [],_,_,hx=>by simpa only [renL,RepL] using hx
 | x :: xs,vs,hn,hx=>by
  simp only [noTL,Bool.and_eq_true] at hn
  simp only [renL,RepL] at hx ⊢
  obtain ⟨v,rest,rfl,hv,hr⟩:=hx
  exact ⟨v,rest,rfl,Rep.mapT h x v hn.1 hv,RepL.mapT h xs rest hn.2 hr⟩
end
theorem RepX.mapT (h : KF m m') {b : Nat} (hb : m'.w.heap[b]? = m.w.heap[b]?) {k : Nat} (hk : 2 ≤ k) : ∀ {cs : List AV} {o : Nat},RepX m k cs b o → RepX m' k cs b o
 | [],_,_=>by simp only [RepX]
 | x :: cs,o,hx=>by
  simp only [RepX] at hx ⊢
  obtain ⟨⟨v,hv,hr⟩,hrest⟩:=hx
  exact ⟨⟨v,(cell?_of_block hb).trans hv,Rep.monoK h k (fun h=>absurd h (by omega)) (by omega) x v hr⟩,RepX.mapT h hb hk hrest⟩
theorem RepY.mapT (h : KF m m') {b : Nat} (hb : m'.w.heap[b]? = m.w.heap[b]?) : ∀ {es : List (List AV)} {o sz : Nat},RepY m es b o sz → RepY m' es b o sz
 | [],_,_,_=>by simp only [RepY]
 | e :: es,o,sz,hx=>by
  simp only [RepY] at hx ⊢
  exact ⟨hx.1,hx.2.1.mapT h hb (by omega),hx.2.2.mapT h hb⟩
def noTB : ABlk → Bool
 | .cells cs=>noTL cs
 | .tc _ cs=>noTL cs
 | .row _ _ _=>true
 | .amap _ _=>false
 | .lp _ _=>false
 | .it _ _=>false
 | .full _ _=>true
 | .brow _ _=>true
 | .mrow _ _=>true
theorem RowRep.mapT (h : MapF m m' π) {ri : RI} {sz e : Nat} {es : List (List AV)} {own : Bool} (hb : ri.isNil = false → m'.w.heap[ri.b]? = m.w.heap[ri.b]?) (hP : ri.isNil = false → ¬ m'.Pr ri.b) (hF : ri.isNil = false → ∀ o,m'.F ri.b o → m.F ri.b o)
  (hx : RowRepG m ri sz es own e) : RowRepG m' ri sz es own e:=by
 rcases hx with hx | ⟨h1,h2,h3,h4,h5,h8⟩
 ·exact .inl hx
 ·obtain ⟨c,T,lo,hi,g1,g2,g3⟩:=h5
  refine .inr ⟨h1,hP h1,h3,h4,⟨c,T,lo,hi,(hb h1).trans g1,g2,g3⟩,?_⟩
  split at h8
  ·rename_i ho
   rw [if_pos ho]
   exact ⟨h8.1.mapT h.kf (hb h1),fun i hi hf=>h8.2 i hi (hF h1 i hf)⟩
  ·rename_i ho
   rw [if_neg ho]
   exact ⟨RepE.monoK h.kf _ _ _ _ h8.1,fun i hi hf=>h8.2 i hi (hF h1 i hf)⟩
theorem BlkRep.mapT (h : MapF m m' π) {ri : RI} {x : ABlk} (hb : ri.isNil = false → m'.w.heap[ri.b]? = m.w.heap[ri.b]?) (hP : ri.isNil = false → ¬ m'.Pr ri.b) (hF : ri.isNil = false → ∀ o,m'.F ri.b o → m.F ri.b o)
  (hn : noTB x = true) (hx : BlkRep m ri x) : BlkRep m' ri (renB π x):=by
 cases x with
 | cells cs =>
  obtain ⟨h1,h2,h3,c,T,h4,h5⟩:=hx
  exact ⟨h1,hP h1,fun o ho=>h3 o (hF h1 o ho),c,T,(hb h1).trans h4,RepL.mapT h _ _ hn h5⟩
 | tc T0 cs =>
  obtain ⟨h1,h2,h3,c,h4,h5⟩:=hx
  exact ⟨h1,hP h1,fun o ho=>h3 o (hF h1 o ho),c,(hb h1).trans h4,RepL.mapT h _ _ hn h5.1,h5.2.1,h5.2.2.1,h5.2.2.2.trans (renL_len _ _).symm⟩
 | row sz es own=>exact RowRep.mapT h hb hP hF hx
 | full sz es=>exact ⟨RowRep.mapT h hb hP hF hx.1,hx.2⟩
 | mrow sz es=>exact ⟨hx.1,RowRep.mapT h hb hP hF hx.2⟩
 | brow e l=>exact ⟨RowRep.mapT h hb hP hF hx.1,fun hn1=>⟨(hx.2 hn1).1,let ⟨c,hc⟩:=(hx.2 hn1).2; ⟨c,(hb hn1).trans hc⟩⟩⟩
 | amap ks vs=>cases hn
 | lp l rc=>cases hn
 | it left cur=>cases hn
end

def noTH : List (Nat × ABlk) → Bool
 | []=>true
 | p :: r=>noTB p.2 && noTH r
theorem noTH_mem : ∀ {hp : List (Nat × ABlk)} {i : Nat} {y : ABlk},noTH hp = true → (i,y) ∈ hp → noTB y = true
 | p :: r,i,y,h,hm=>by
  simp only [noTH,Bool.and_eq_true] at h
  rcases List.mem_cons.1 hm with e | hm
  ·rw [show y = p.2 from by rw [← e]]; exact h.1
  ·exact noTH_mem h.2 hm

section
variable {m m' : Mem} {hp hp0 hp' : List (Nat × ABlk)} {nx nx' : Nat} {L : List Nat}
theorem bk_mapF (hH : SimH m hp nx) (hL : ∀ id ∈ L,(get hp id).isSome = true) (h : (m.innerH L nx).le m') : MapF m' (m.outerH m' L nx) (bk L nx):=⟨fun _ _ h=>h,fun _ _ _=>rfl,fun _ _ hr=>bk_map hH hL h hr⟩
theorem bk_inj (hnd : L.Nodup) (hLn : ∀ id ∈ L,id < nx) {i j : Nat} (h : bk L nx i = bk L nx j) : i = j:=by
 unfold bk at h
 rcases Nat.lt_or_ge i L.length with h1 | h1 <;> rcases Nat.lt_or_ge j L.length with h2 | h2
 ·obtain ⟨a,_,ha,_⟩:=pick_lt (nx:=nx) h1
  obtain ⟨b,_,hb,_⟩:=pick_lt (nx:=nx) h2
  rw [ha,hb] at h
  simp only at h
  rw [nth_eq] at ha hb
  exact (List.getElem?_inj h1 hnd).1 (ha.trans (by rw [hb,h]))
 ·obtain ⟨a,_,ha,hm⟩:=pick_lt (nx:=nx) h1
  rw [ha,nth_none h2] at h
  simp only at h
  have:=hLn a hm
  omega
 ·obtain ⟨b,_,hb,hm⟩:=pick_lt (nx:=nx) h2
  rw [hb,nth_none h1] at h
  simp only at h
  have:=hLn b hm
  omega
 ·rw [nth_none h1,nth_none h2] at h
  simp only at h
  omega
theorem outerH_simH (hH : SimH m hp nx) (hL : ∀ id ∈ L,(get hp id).isSome = true) (_ : L.Nodup) (h : (m.innerH L nx).le m') (hH' : SimH m' hp' nx') (hs : solo hp' = true) (hn : noTH hp' = true) (hge : L.length ≤ nx') :
  SimH (m.outerH m' L nx) (appHp (dels hp L) (renHp (bk L nx) hp')) (nx + (nx' - L.length)):=by
 have hLn : ∀ id ∈ L,id < nx:=fun id hid=>by
  obtain ⟨x,hx⟩:=Option.isSome_iff_exists.1 (hL id hid)
  obtain ⟨ri,hr,_⟩:=hH.blk id x hx
  exact rho_lt hH hr
 have hPr : m'.Pr = (m.innerH L nx).Pr:=h.Pr
 have hold : ∀ id x ri,get (dels hp L) id = some x → m.ρ id = some ri → ri.isNil = false → (m.innerH L nx).Pr ri.b:=by
  intro id x ri hx hr hn
  obtain ⟨h1,h2⟩:=get_dels hx
  obtain ⟨ri',hr',hb⟩:=hH.blk id x h1
  obtain rfl : ri' = ri:=Option.some.inj (hr'.symm.trans hr)
  refine ⟨hb.lt hn,fun j hj rj hrj hnj=>?_⟩
  obtain ⟨y,hy⟩:=Option.isSome_iff_exists.1 (hL j hj)
  exact hH.apart j id y x rj ri' hy h1 hrj hr (fun e=>h2 (e ▸ hj)) hnj hn
 have hnew : ∀ id x,get (renHp (bk L nx) hp') id = some x → ∃ i y ri,get hp' i = some y ∧ bk L nx i = id ∧ x = renB (bk L nx) y ∧ m'.ρ i = some ri ∧ BlkRep m' ri y ∧ noTB y = true:=by
  intro id x hx
  obtain ⟨i,y,h1,h2,h3⟩:=get_renHp hx
  have h4:=get_of_mem hs h1
  obtain ⟨ri,h5,h6⟩:=hH'.blk i y h4
  exact ⟨i,y,ri,h4,h2,h3,h5,h6,noTH_mem hn h1⟩
 have hrho : ∀ id x,get (dels hp L) id = some x → (m.outerH m' L nx).ρ id = m.ρ id:=by
  intro id x hx
  obtain ⟨ri,hr,_⟩:=hH.blk id x (get_dels hx).1
  show (if id < nx then m.ρ id else _) = m.ρ id
  rw [if_pos (rho_lt hH hr)]
 refine ⟨?_,?_,?_,?_,?_⟩
 ·intro id x hx
  rcases get_appHp hx with hx | hx
  ·obtain ⟨h1,h2⟩:=get_dels hx
   obtain ⟨ri,hr,hb⟩:=hH.blk id x h1
   refine ⟨ri,(hrho id x hx).trans hr,?_⟩
   have hk:=outerH_keeps hH hL h
   have hm : MapOk m (m.outerH m' L nx) (fun i=>i):=⟨hk.Pr,hk.block,hk.F,hk.cell,hk.ρ⟩
   have:=BlkRep.map hm (fun hn=>h.block ri.b (hold id x ri hx hr hn)) (fun hn=>hb.noPr hn) (fun hn o hf=>h.new ri.b o (hold id x ri hx hr hn) hf) hb
   rw [renB_id] at this
   exact this
  ·obtain ⟨i,y,ri,h1,h2,h3,h4,h5,h6⟩:=hnew id x hx
   subst h2 h3
   refine ⟨ri,bk_map hH hL h h4,BlkRep.mapT (bk_mapF hH hL h) (fun _=>rfl) (fun hn hp=>?_) (fun _ _ h=>h) h6 h5⟩
   exact h5.noPr hn (hPr ▸ (innerH_map hH hL).Pr _ hp)
 ·intro id id' x x' ri ri' hx hx' hr hr' hne hn1 hn2
  rcases get_appHp hx with hx | hx <;> rcases get_appHp hx' with hx' | hx'
  ·rw [hrho id x hx] at hr
   rw [hrho id' x' hx'] at hr'
   exact hH.apart id id' x x' ri ri' (get_dels hx).1 (get_dels hx').1 hr hr' hne hn1 hn2
  ·rw [hrho id x hx] at hr
   obtain ⟨i,y,rj,h1,h2,h3,h4,h5,h6⟩:=hnew id' x' hx'
   subst h2
   rw [bk_map hH hL h h4] at hr'
   injection hr' with hr'
   subst hr'
   intro e
   exact h5.noPr hn2 (hPr ▸ e ▸ hold id x ri hx hr hn1)
  ·rw [hrho id' x' hx'] at hr'
   obtain ⟨i,y,rj,h1,h2,h3,h4,h5,h6⟩:=hnew id x hx
   subst h2
   rw [bk_map hH hL h h4] at hr
   injection hr with hr
   subst hr
   intro e
   exact h5.noPr hn1 (hPr ▸ e ▸ hold id' x' ri' hx' hr' hn2)
  ·obtain ⟨i,y,rj,h1,h2,h3,h4,h5,h6⟩:=hnew id x hx
   obtain ⟨i',y',rj',g1,g2,g3,g4,g5,g6⟩:=hnew id' x' hx'
   subst h2 g2
   rw [bk_map hH hL h h4] at hr
   rw [bk_map hH hL h g4] at hr'
   injection hr with hr
   injection hr' with hr'
   subst hr hr'
   exact hH'.apart i i' y y' rj rj' h1 g1 h4 g4 (fun e=>hne (by rw [e])) hn1 hn2
 ·intro id hid
  show (if id < nx then m.ρ id else m'.ρ (L.length + (id - nx))) = none
  rw [if_neg (by omega)]
  exact hH'.fresh _ (by omega)
 ·exact hH'.Fold
 ·intro b hb
  exact hH'.Pold b (hPr ▸ (innerH_map hH hL).Pr b hb)
end
end Aw

namespace Aw
open Go
section
variable {P : Program} {ds : List (Option Tmp)} {σ : St} {o : Oper} {K : St → Prop} {Kp : AV → St → Prop} {ob ob' : Prop} {f : FuncId} {ys zs xs : List AV} {hp0 : List (Nat × ABlk)} {R : AE → List (Nat × ABlk) → Nat → Prop} {L : List Nat}
def backSt (σ : St) (L : List Nat) (hp' : List (Nat × ABlk)) (nx' : Nat) : St :=
 ⟨σ.n,σ.env,appHp (dels σ.hp L) (renHp (bk L σ.nx) hp'),σ.nx + (nx' - L.length),σ.gl,σ.np,σ.df⟩
def backOk (L : List Nat) (hp' : List (Nat × ABlk)) (nx' : Nat) : Bool:=solo hp' && (noTH hp' && decide (L.length ≤ nx'))
theorem SemStep.callH (h : acall σ o.op = some (ob,f,ys)) (hob : ob) (hd : dstOk σ.n o.dst = true)
  (hz : mapO (fz σ.hp 9) ys = some (ob',zs)) (hob' : ob') (hL : L.all (fun id=>(get σ.hp id).isSome) = true) (hnd : L.Nodup)
  (hhp : viewHp (Aw.pick L σ.nx) L.length σ.hp hp0) (hxs : renL (Aw.pick L σ.nx) xs = zs) (hc : FnH P σ.gl f xs hp0 L.length R)
  (hK : ∀ y hp' nx',R (.ret y) hp' nx' → (backOk L hp' nx' && noT y) = true ∧ K (St.put (backSt σ L hp' nx') o.dst (ren (bk L σ.nx) y)))
  (hKp : ∀ y hp' nx',R (.panic y) hp' nx' → backOk L hp' nx' = true ∧ Kp y (backSt σ L hp' nx')) : SemStep P σ o K Kp:=by
 intro m a N Q hS hN hQ
 obtain ⟨vs,hexec,hvs⟩:=acall_sound hS h hob
 unfold Oper.wp
 rw [hexec,hc.enters,Oper.upon_enter]
 have hL' : ∀ id ∈ L,(get σ.hp id).isSome = true:=fun id hid=>List.all_eq_true.1 hL id hid
 have hzs:=mapO_sound (m:=m) (m':=m) (k:=0) (f:=fz σ.hp 9) (fun x y v ob h hob hv=>fz_sound hS.h 9 x y v ob h hob hv) hz hob' hvs
 rw [← hxs] at hzs
 have hM:=innerH_map hS.h hL'
 have hargs : RepL (m.innerH L σ.nx) 0 xs vs:=by
  have:=RepL.map hM xs vs (RepL.ren xs vs hzs)
  rw [renL_id] at this
  exact this
 have hP : KP m (m.innerH L σ.nx):=⟨fun b hb=>hM.Pr b hb,fun _ _=>rfl⟩
 have hF : KF m (m.innerH L σ.nx):=⟨fun _ _ h=>h,fun _ _ _=>rfl⟩
 have hstart : StartH (m.innerH L σ.nx) σ.gl hp0 L.length:=⟨innerH_simH hS.h hL' hnd hhp,fun g x hg=>Rep.monoK hF 1 (fun _=>hP) (Nat.le_refl 1) _ _ (hS.gl g x hg),rfl⟩
 have hcall:=hc.calls (m.innerH L σ.nx) vs hstart hargs
 have e2 : (m.innerH L σ.nx).w = m.w:=rfl
 rw [e2] at hcall
 refine hcall.mono ?_
 rintro e w' ⟨m',r,hp',nx',rfl,hle,hH',hend,hR⟩
 have hk2:=outerH_keeps hS.h hL' hle
 have hl2:=outerH_le hS.h hL' hle
 cases r with
 | ret y =>
  obtain ⟨v,rfl,hv⟩:=hend
  obtain ⟨hb,hk⟩:=hK y hp' nx' hR
  simp only [backOk,Bool.and_eq_true,decide_eq_true_eq] at hb
  have hH2:=outerH_simH hS.h hL' hnd hle hH' hb.1.1 hb.1.2.1 hb.1.2.2
  exact hN (m.outerH m' L σ.nx) _ _ hl2 hk2 (hS.put hk2 hH2 hd (Rep.mapT (bk_mapF hS.h hL' hle) y v hb.2 hv)) (.eff (acall_isEff h) (acall_notA h)) .put hk
 | panic y =>
  obtain ⟨v,rfl,hv⟩:=hend
  obtain ⟨hb,hk⟩:=hKp y hp' nx' hR
  simp only [backOk,Bool.and_eq_true,decide_eq_true_eq] at hb
  have hH2:=outerH_simH hS.h hL' hnd hle hH' hb.1 hb.2.1 hb.2.2
  have hKF2 : KF m' (m.outerH m' L σ.nx):=⟨fun _ _ h=>h,fun _ _ _=>rfl⟩
  have hv2:=Rep.monoK hKF2 2 (fun h=>absurd h (by omega)) (by omega) _ _ hv
  exact hQ (m.outerH m' L σ.nx) _ y v hl2 hk2 (hS.of hk2 hH2) (Rep.down (Nat.zero_le 2) _ _ hv2) (fun _=>rfl) hk

theorem awGuard.callH (hg : o.guard = none) (h : acall σ o.op = some (ob,f,ys)) (hz : mapO (fz σ.hp 9) ys = some (ob',zs)) (hd : dstOk σ.n o.dst = true) (hL : L.all (fun id=>(get σ.hp id).isSome) = true) (hnd : L.Nodup)
  (hhp : viewHp (Aw.pick L σ.nx) L.length σ.hp hp0) (hxs : renL (Aw.pick L σ.nx) xs = zs) (hob : ob) (hob' : ob') (hc : FnH P σ.gl f xs hp0 L.length R)
  (hK : ∀ y hp' nx',R (.ret y) hp' nx' → (backOk L hp' nx' && noT y) = true ∧ K (St.put (backSt σ L hp' nx') o.dst (ren (bk L σ.nx) y)))
  (hKp : ∀ y hp' nx',R (.panic y) hp' nx' → backOk L hp' nx' = true ∧ Kp y (backSt σ L hp' nx')) : awGuard P ds o σ K Kp:=by
 unfold awGuard
 rw [hg]
 simp only
 unfold awStep
 rw [(acall_pure h).1,(acall_pure (P:=P) (g:=true) h).2]
 exact SemStep.callH h hob hd hz hob' hL hnd hhp hxs hc hK hKp
theorem awGuard.callH1 {y : AV} {hp' : List (Nat × ABlk)} {nx' : Nat} (hg : o.guard = none) (h : acall σ o.op = some (ob,f,ys)) (hz : mapO (fz σ.hp 9) ys = some (ob',zs)) (hd : dstOk σ.n o.dst = true) (hL : L.all (fun id=>(get σ.hp id).isSome) = true) (hnd : L.Nodup)
  (hhp : viewHp (Aw.pick L σ.nx) L.length σ.hp hp0) (hxs : renL (Aw.pick L σ.nx) xs = zs) (hob : ob) (hob' : ob') (hc : FnH P σ.gl f xs hp0 L.length fun r h n=>r = .ret y ∧ h = hp' ∧ n = nx')
  (hb : (backOk L hp' nx' && noT y) = true) (hK : K (St.put (backSt σ L hp' nx') o.dst (ren (bk L σ.nx) y))) : awGuard P ds o σ K Kp :=
 awGuard.callH hg h hz hd hL hnd hhp hxs hob hob' hc (fun z _ _ ⟨h1,h2,h3⟩=>by cases h1; subst h2 h3; exact ⟨hb,hK⟩) (fun _ _ _ ⟨h1,_⟩=>by cases h1)
end
attribute [go_sem] fz bk dels renHp appHp solo noTH noTB noT noTL backSt backOk finHRet finHPanic finH nth
end Aw

namespace Aw
open Go
section
variable {P : Program} {ds : List (Option Tmp)} {σ : St} {o : Oper} {K : St → Prop} {Kp : AV → St → Prop} {ob ob' : Prop}

theorem awGuard.panic {x : Operand} {t : TypeId} {y : AV} (hg : o.guard = none) (ho : o.op = .panic x) (hx : evE σ x = some (ob,.iface t y)) (hob : ob) (hK : Kp (.iface t y) σ) : awGuard P ds o σ K Kp:=by
 unfold awGuard
 rw [hg]
 simp only
 unfold awStep
 have e1 : pureOp P σ true o.op = none:=by rw [ho] <;> rfl
 have e2 : effOp P σ o.op = none:=by rw [ho] <;> rfl
 rw [e1,e2]
 intro m a N Q hS _ hQ
 have hv:=evE_sound hS hx hob
 simp only [Rep] at hv
 obtain ⟨u,hu,hr⟩:=hv
 unfold Oper.wp
 have : (execOp a.eval o).run P m.w = .halt (.panic (.iface t u)) m.w:=by
  unfold execOp
  rw [ho]
  simp only [hu,Instr.panic]
  rfl
 rw [this]
 exact hQ m σ (.iface t y) (.iface t u) (.refl m) (.refl m) hS (by simp only [Rep]; exact ⟨u,rfl,hr⟩) (fun _=>rfl) hK

/-! ### the statement 'defer' -/
def adefer (σ : St) (o : Op) : Option (Prop × FuncId × List AV) :=
 match o with
 | .defer c=>acall σ (.call c)
 | _=>none
theorem adefer_sound {m : Mem} {a : Act} (hS : Sim m a σ) {f : FuncId} {ys : List AV} (h : adefer σ o.op = some (ob,f,ys)) (hob : ob) :
  ∃ d caps,(execOp a.eval o).run P m.w = .ok (.defer d) m.w ∧ d.target = .fn (.func f) caps ∧ RepL m 0 ys (d.args.toList ++ caps.toList):=by
 unfold adefer at h
 split at h
 case h_2=>cases h
 rename_i c hc
 simp only [acall] at h
 split at h
 case h_2=>cases h
 rename_i g hg
 split at h
 case h_2=>cases h
 rename_i p hp
 split at h
 case h_2=>cases h
 rename_i f' cs hf
 split at h
 case h_2=>cases h
 rename_i q hq
 simp only [Option.some.injEq,Prod.mk.injEq] at h
 obtain ⟨rfl,rfl,rfl⟩:=h
 have h1:=evE_sound hS hp hob.1
 rw [hf] at h1
 simp only [Rep] at h1
 obtain ⟨us,h1,hus⟩:=h1
 have h2:=evEs_sound hS hq hob.2
 refine ⟨{ target:=.fn (.func f') us,args:=c.args.map a.eval },us,?_,rfl,?_⟩
 ·unfold execOp
  rw [hc]
  simp only [resolve,hg,h1,Deferred.ofValue,pure_bind]
  simp
 ·simp only [Array.toList_map]
  exact h2.append hus

theorem AW.regDefer {σ' : St} {Q : AX → St → Prop} {id : Nat} {ops : Array Oper} {l : List Oper} {f : FuncId} {ys : List AV} (hops : ops.toList = l ++ [o]) (hg : o.guard = none)
  (h : runOps P (ops.toList.map (·.dst)) l σ = (ob,[],σ')) (hob : ob) (hd : adefer σ' o.op = some (ob',f,ys)) (hob' : ob') (hdst : dstOk σ'.n o.dst = true)
  (hk : Q .normal (St.put ⟨σ'.n,σ'.env,σ'.hp,σ'.nx,σ'.gl,σ'.np,(f,ys) :: σ'.df⟩ o.dst (.raw undef))) : AW P (.region id ops false) σ Q:=fun m a hS=>by
 refine wp_region_list ?_
 rw [hops]
 have key : ∀ (l : List Oper) (σ : St) (ob : Prop) (σ' : St),runOps P (ops.toList.map (·.dst)) l σ = (ob,[],σ') → ob → ∀ (m0 m : Mem) (a : Act),m0.le m → Sim m a σ →
   (∀ m a,m0.le m → Sim m a σ' → wpList P ops (Post m0 Q) [o] a m.w) → wpList P ops (Post m0 Q) (l ++ [o]) a m.w:=by
  intro l
  induction l with
  | nil =>
   intro σ ob σ' h _ m0 m a hle hS hk
   simp only [runOps,Prod.mk.injEq] at h
   obtain ⟨_,_,rfl⟩:=h
   exact hk m a hle hS
  | cons x rest ih =>
   intro σ ob σ' h hob m0 m a hle hS hk
   simp only [runOps] at h
   split at h
   ·simp only [Prod.mk.injEq] at h
    cases h.2.1
   rename_i r hr
   generalize hq : runOps P (ops.toList.map (·.dst)) rest r.2 = q at h
   obtain ⟨q1,q2,q3⟩:=q
   simp only [Prod.mk.injEq] at h
   obtain ⟨rfl,rfl,rfl⟩:=h
   have hst:=stepOp_sound (K:=fun s=>s = r.2) (Kp:=fun _ _=>False) hr hob.1 rfl
   have hone:=awOps_sound (P:=P) (ops:=ops) (Q:=fun e a w=>e = .normal ∧ ∃ m',m'.w = w ∧ m0.le m' ∧ Sim m' a r.2) (K:=fun s=>s = r.2) (Kp:=fun _ _=>False) m0
    (fun m a s hl hS hs=>⟨rfl,m,rfl,hl,hs ▸ hS⟩) (fun _ _ _ _ _ _ _ _ h=>h.elim) [x] σ (by simp only [awOps]; exact hst) m a hle hS
   have hnext : ∀ (a' : Act) (w : World),(∃ m',m'.w = w ∧ m0.le m' ∧ Sim m' a' r.2) → wpList P ops (Post m0 Q) (rest ++ [o]) a' w:=by
    rintro a' w ⟨m',rfl,hl,hS'⟩
    exact ih r.2 q1 q3 hq hob.2 m0 m' a' hl hS' hk
   unfold wpList at hone
   show wpList P ops (Post m0 Q) (x :: (rest ++ [o])) a m.w
   unfold wpList
   split at hone
   ·rename_i hw
    rw [if_pos hw]
    rcases hone with hone | hone
    ·refine .inl ?_
     have hmono : ∀ {N N' : Act → World → Prop} {Q1 Q2 : Exit → Act → World → Prop},(∀ a w,N a w → N' a w) → (∀ c a w,Q1 (.panic c) a w → Q2 (.panic c) a w) → (LetsOut Q1 → LetsOut Q2) →
       ∀ {rr : Result Next},x.upon P a N Q1 rr → x.upon P a N' Q2 rr:=by
      intro N N' Q1 Q2 h1 h2 h3 rr h
      cases rr with
      | ok n w' =>
       cases n <;> simp only [Oper.upon] at h ⊢
       case value=>exact h1 _ _ h
       case skip=>exact h1 _ _ h
       case defer=>exact h1 _ _ h
       case enter =>
        refine Calls.mono h fun e w'' he=>?_
        cases e with
        | returned u=>exact h1 _ _ he
        | panicked c=>exact h2 _ _ _ he
        | outgrown=>exact h3 he
       case row=>exact Rows.mono h fun u w'' he=>h1 _ _ he
      | halt y w' =>
       cases y <;> simp only [Oper.upon] at h ⊢
       case panic u=>exact h2 _ _ _ h
     refine hmono (fun a' w' h'=>hnext a' w' ?_) (fun c a w h=>by cases h.1) (fun h=>by obtain ⟨_,_,h1,_⟩:=h; cases h1) hone
     unfold wpList at h'
     exact h'.2
    ·exact absurd hone.2 (by rintro ⟨_,_,h,_⟩; cases h)
   ·rename_i hw
    rw [if_neg hw]
    unfold wpList at hone
    exact hnext _ _ hone.2
 refine key l σ ob σ' h hob m m a (.refl m) hS ?_
 intro m' a' hle hS'
 obtain ⟨d,caps,hrun,ht,hr⟩:=adefer_sound (P:=P) hS' hd hob'
 unfold wpList
 rw [if_pos (by simp [Region.wanted,hg])]
 refine .inl ?_
 unfold Oper.wp
 rw [hrun]
 show wpList P ops (Post m Q) [] _ _
 unfold wpList
 have hS2 : Sim m' { a' with defers:=d :: a'.defers } ⟨σ'.n,σ'.env,σ'.hp,σ'.nx,σ'.gl,σ'.np,(f,ys) :: σ'.df⟩:=⟨hS'.h,hS'.n,⟨d,a'.defers,caps,rfl,ht,hr,hS'.defers⟩,hS'.env,hS'.gl,hS'.np⟩
 exact ⟨m',_,.normal,rfl,hle,hS2.put (.refl m') hS'.h hdst (by simp only [Rep]),rfl,hk⟩
end
end Aw

namespace Aw
open Go

inductive DM where
 | ret
 | pan (x : AV)
 | done
def dmOk (m : Mem) (u : DM) (mode : FrameMode) : Prop :=
 match u with
 | .ret=>mode = .returning
 | .pan x=>∃ v,mode = .panicking [{ v,recovered:=false }] ∧ Rep m 2 x v
 | .done=>∃ v,mode = .panicking [{ v,recovered:=true }]
theorem dmOk.mono {m m' : Mem} {u : DM} {mode : FrameMode} (h : KF m m') (hd : dmOk m u mode) : dmOk m' u mode:=by
 cases u with
 | ret=>exact hd
 | pan x =>
  obtain ⟨v,h1,h2⟩:=hd
  exact ⟨v,h1,Rep.monoK h 2 (fun h=>absurd h (by omega)) (by omega) _ _ h2⟩
 | done=>exact hd
def DM.settle : DM → DM
 | .done=>.ret
 | u=>u
theorem dmOk.settle {m : Mem} {u : DM} {mode : FrameMode} (h : dmOk m u mode) : dmOk m u.settle (Go.settle mode):=by
 cases u with
 | ret=>simp only [dmOk] at h; subst h; simp only [DM.settle,dmOk,Go.settle]
 | pan x =>
  obtain ⟨v,rfl,h2⟩:=h
  exact ⟨v,rfl,h2⟩
 | done =>
  obtain ⟨v,rfl⟩:=h
  simp [DM.settle,dmOk,Go.settle]
theorem Mem.le.kf {m m' : Mem} (h : m.le m') : KF m m':=⟨h.F,h.cell⟩

structure FnD (P : Program) (gl : List (Nat × AV)) (f : FuncId) (xs : List AV) (hp : List (Nat × ABlk)) (nx : Nat) (u : DM) (R : DM → List (Nat × ABlk) → Nat → Prop) : Prop where
 enters : enters P f
 calls : ∀ m vs mode,StartH m gl hp nx → RepL m 0 xs vs → dmOk m u mode → CallsD P f vs.toArray mode m.w fun e mode' w'=>∃ m' v u' hp' nx',m'.w = w' ∧ m.le m' ∧ SimH m' hp' nx' ∧ e = .returned v ∧ dmOk m' u' (settle mode') ∧ R u' hp' nx'

/-! ### leaving -/
def LeaveS (P : Program) (fn : Func) (u : DM) (σ : St) (R : AE → Prop) : Prop :=
 ∀ (m0 m : Mem) (a : Act) (mode : FrameMode),m0.le m → Sim m a σ → dmOk m u mode → Go.Leaves P fn a.tmps (fun e w'=>∃ m' r,m'.w = w' ∧ m0.le m' ∧ (∀ b o,m'.F b o → b < m'.w.heap.size) ∧ endOk m' r e ∧ R r) a.defers mode m.w
section
variable {P : Program} {fn : Func} {σ : St} {R : AE → Prop}
theorem LeaveS.ret (h : finRet P fn.results.toList R σ) : LeaveS P fn .ret σ R:=by
 intro m0 m a mode hle hS hd
 obtain ⟨h1,v,h2,m',r,h3,h4,h5,h6,h7⟩:=finRet_sound hS hle h
 simp only [dmOk] at hd
 subst hd
 rw [h1]
 exact ⟨v,h2,m',r,h3,h4,h5,h6,h7⟩
theorem LeaveS.pan {x : AV} (hdf : σ.df = []) (h : R (.panic x)) : LeaveS P fn (.pan x) σ R:=by
 intro m0 m a mode hle hS hd
 obtain ⟨v,rfl,hv⟩:=hd
 have h1:=hS.defers
 rw [hdf] at h1
 rw [show a.defers = [] from h1]
 exact ⟨m,.panic x,rfl,hle,hS.h.Fold,⟨v,rfl,hv⟩,h⟩
theorem LeaveS.cons {u : DM} {f : FuncId} {ys zs xs : List AV} {r : List (FuncId × List AV)} {ob' : Prop} {hp0 : List (Nat × ABlk)} {R' : DM → List (Nat × ABlk) → Nat → Prop} {L : List Nat} (hdf : σ.df = (f,ys) :: r)
  (hz : mapO (fz σ.hp 9) ys = some (ob',zs)) (hob' : ob') (hL : L.all (fun id=>(get σ.hp id).isSome) = true) (hnd : L.Nodup) (hhp : viewHp (Aw.pick L σ.nx) L.length σ.hp hp0) (hxs : renL (Aw.pick L σ.nx) xs = zs)
  (hc : FnD P σ.gl f xs hp0 L.length u R')
  (hK : ∀ u' hp' nx',R' u' hp' nx' → backOk L hp' nx' = true ∧ LeaveS P fn u' ⟨σ.n,σ.env,appHp (dels σ.hp L) (renHp (bk L σ.nx) hp'),σ.nx + (nx' - L.length),σ.gl,σ.np,r⟩ R) : LeaveS P fn u σ R:=by
 intro m0 m a mode hle hS hd
 have h1:=hS.defers
 rw [hdf] at h1
 obtain ⟨d,rest,caps,e1,e2,hvs,hrest⟩:=h1
 rw [e1]
 have hL' : ∀ id ∈ L,(get σ.hp id).isSome = true:=fun id hid=>List.all_eq_true.1 hL id hid
 have hzs:=mapO_sound (m:=m) (m':=m) (k:=0) (f:=fz σ.hp 9) (fun x y v ob h hob hv=>fz_sound hS.h 9 x y v ob h hob hv) hz hob' hvs
 rw [← hxs] at hzs
 have hM:=innerH_map hS.h hL'
 have hargs : RepL (m.innerH L σ.nx) 0 xs (d.args.toList ++ caps.toList):=by
  have:=RepL.map hM xs _ (RepL.ren xs _ hzs)
  rw [renL_id] at this
  exact this
 have hP : KP m (m.innerH L σ.nx):=⟨fun b hb=>hM.Pr b hb,fun _ _=>rfl⟩
 have hF : KF m (m.innerH L σ.nx):=⟨fun _ _ h=>h,fun _ _ _=>rfl⟩
 have hstart : StartH (m.innerH L σ.nx) σ.gl hp0 L.length:=⟨innerH_simH hS.h hL' hnd hhp,fun g x hg=>Rep.monoK hF 1 (fun _=>hP) (Nat.le_refl 1) _ _ (hS.gl g x hg),rfl⟩
 have hmode : mode ≠ .run:=by
  intro e
  subst e
  cases u with
  | ret=>cases hd
  | pan x=>obtain ⟨_,h,_⟩:=hd; cases h
  | done=>obtain ⟨_,h⟩:=hd; cases h
 obtain ⟨tg,dargs⟩:=d
 simp only at e2 hvs hargs
 subst e2
 refine leaves_cons (f:=f) (args:=dargs ++ caps) hmode ?_ ?_
 ·simp only [invoke]
  have:=hc.enters (dargs ++ caps) m.w
  simpa using this
 have hcall:=hc.calls (m.innerH L σ.nx) _ mode hstart hargs (hd.mono hF)
 have e3 : (dargs.toList ++ caps.toList).toArray = dargs ++ caps:=by simp
 rw [e3] at hcall
 refine hcall.mono ?_
 rintro e u' w' ⟨m',v,um,hp',nx',rfl,hle',hH',rfl,hdm,hR⟩
 obtain ⟨hb,hk⟩:=hK um hp' nx' hR
 simp only [backOk,Bool.and_eq_true,decide_eq_true_eq] at hb
 have hk2:=outerH_keeps hS.h hL' hle'
 have hl2:=outerH_le hS.h hL' hle'
 have hH2:=outerH_simH hS.h hL' hnd hle' hH' hb.1 hb.2.1 hb.2.2
 have hS2:=hS.of hk2 hH2
 have hS3 : Sim (m.outerH m' L σ.nx) { a with defers:=rest } ⟨σ.n,σ.env,appHp (dels σ.hp L) (renHp (bk L σ.nx) hp'),σ.nx + (nx' - L.length),σ.gl,σ.np,r⟩ :=
  ⟨hS2.h,hS2.n,hrest.mono hk2,hS2.env,hS2.gl,hS2.np⟩
 exact hk m0 (m.outerH m' L σ.nx) { a with defers:=rest } _ (hle.trans hl2) hS3 (dmOk.mono (m:=m') (m':=m.outerH m' L σ.nx) ⟨fun _ _ h=>h,fun _ _ _=>rfl⟩ hdm)
end

def finD (P : Program) (fn : Func) (R : AE → Prop) (x : AX) (σ : St) : Prop :=
 match x with
 | .normal=>LeaveS P fn .ret σ R
 | .ret=>LeaveS P fn .ret σ R
 | .panic x=>∃ ob y,closeR σ x = some (ob,y) ∧ ob ∧ LeaveS P fn (.pan y) ⟨σ.n,σ.env,frzs σ.hp (rids σ.hp 9 x),σ.nx,σ.gl,σ.np,σ.df⟩ R
 | .exit _=>False

theorem FnP.introD {P : Program} {gl : List (Nat × AV)} {f : FuncId} {fn : Func} {c : Code} {xs : List AV} {R : AE → Prop} (hf : P.funcs[f]? = some fn) (hname : (fn.name == "runtime.NumGoroutine") = false)
  (hb : fn.body = some c) (hn : xs.length ≤ fn.ntmps) (h : AW P c ⟨fn.ntmps,argEnv 0 xs,[],0,gl,0,[]⟩ (finD P fn R)) : FnP P gl f xs R:=by
 refine ⟨enters_of hf hname hb,fun m vs hm hv=>?_⟩
 have hlen:=hv.length
 refine calls_of_wp_defers hf hb ?_
 have hS : Sim m { tmps:=vs.toArray ++ Array.replicate (fn.ntmps - vs.toArray.size) undef,defers:=[] } ⟨fn.ntmps,argEnv 0 xs,[],0,gl,0,[]⟩:=by
  refine ⟨⟨fun id x h=>by simp [Aw.get] at h,fun id id' x x' _ _ h=>by simp [Aw.get] at h,fun id _=>hm.ρ id,hm.Fold,hm.Pold⟩,?_,rfl,?_,hm.gl,hm.np⟩
  ·simp only [Array.size_append,List.size_toArray,Array.size_replicate]
   omega
  ·intro t x ht
   obtain ⟨_,hx⟩:=get_argEnv ht
   have hlt : t < xs.length:=by
    rcases Nat.lt_or_ge t xs.length with h | h
    ·exact h
    ·rw [List.getElem?_eq_none (by omega)] at hx; cases hx
   refine ⟨Nat.lt_of_lt_of_le hlt hn,?_⟩
   obtain ⟨v,hv1,hv2⟩:=hv.at t hlt
   have hx' : xs[t] = x:=by
    rw [Nat.sub_zero,List.getElem?_eq_getElem hlt] at hx
    exact Option.some.inj hx
   have : (vs.toArray ++ Array.replicate (fn.ntmps - vs.toArray.size) undef).getD t undef = v:=by
    rw [Array.getD_eq_getD_getElem?,Array.getElem?_append_left (by simp; omega)]
    simp [hv1]
   rw [this,← hx']
   exact Rep.down (Nat.zero_le 1) _ _ hv2
 refine wp_mono (h m _ hS) ?_
 rintro e a' w' ⟨m',σ',ax,rfl,hle,hS',hex,hq⟩
 cases ax with
 | normal =>
  simp only [exOk] at hex
  subst hex
  exact hq m m' a' .returning hle hS' rfl
 | ret =>
  simp only [exOk] at hex
  subst hex
  exact hq m m' a' .returning hle hS' rfl
 | exit id=>exact hq.elim
 | panic x =>
  simp only [exOk] at hex
  obtain ⟨v,rfl,hv⟩:=hex
  obtain ⟨ob,y,hc,hob,hq⟩:=hq
  obtain ⟨m2,g1,_,g3,g4,g5⟩:=frzs_sound (rids σ'.hp 9 x) hS'.h
  have hrep:=shr_sound g5 false ⟨fun _ _ h=>h,fun _ _ _=>rfl⟩ rfl (fun h=>by cases h) 9 x y v ob hc hob (Rep.mono g4 0 _ _ hv)
  have:=hq m m2 a' (.panicking [{ v,recovered:=false }]) (hle.trans g3) (hS'.of g4 g5) ⟨v,rfl,hrep⟩
  rw [g1] at this
  exact this

/-! ### a deferred function's text -/
def AWD (P : Program) (c : Code) (u : DM) (σ : St) (Q : AX → DM → St → Prop) : Prop :=
 ∀ m a (c0 : Frame) (cs : List Frame),Sim m a σ → dmOk m u c0.mode →
  c.wpS P (fun e a' cs' w'=>∃ m' σ' x u' md,m'.w = w' ∧ m.le m' ∧ Sim m' a' σ' ∧ exOk m' x e ∧ cs' = { c0 with mode:=md } :: cs ∧ dmOk m' u' md ∧ Q x u' σ') a (c0 :: cs) m.w
section
variable {P : Program} {σ : St} {u : DM} {Q : AX → DM → St → Prop}
theorem wpS_mono {c : Code} {Q Q' : Exit → Act → List Frame → World → Prop} {a : Act} {cs : List Frame} {w : World} (h : c.wpS P Q a cs w) (hq : ∀ e a cs w,Q e a cs w → Q' e a cs w) : c.wpS P Q' a cs w :=
 fun b k hb hr=>let ⟨e,a',cs',w',q,r⟩:=h b k hb hr; ⟨e,a',cs',w',hq _ _ _ _ q,r⟩
theorem AWD.of {c : Code} (h : AW P c σ (fun x σ=>Q x u σ)) : AWD P c u σ Q:=by
 intro m a c0 cs hS hd
 refine wpS_of_wp (wp_mono (h m a hS) ?_)
 rintro e a' w' ⟨m',σ',x,rfl,hle,hS',hex,hq⟩
 exact ⟨m',σ',x,u,c0.mode,rfl,hle,hS',hex,rfl,hd.mono hle.kf,hq⟩
def andThenD (next : DM → St → Prop) (Q : AX → DM → St → Prop) (x : AX) (u : DM) (σ : St) : Prop :=
 match x with
 | .normal=>next u σ
 | y=>Q y u σ
theorem AWD.seq {x y : Code} (h : AWD P x u σ (andThenD (fun u' σ'=>AWD P y u' σ' Q) Q)) : AWD P (.seq x y) u σ Q:=by
 intro m a c0 cs hS hd
 refine wpS_seq (wpS_mono (h m a c0 cs hS hd) ?_)
 rintro e a' cs' w' ⟨m',σ',ax,u',md,rfl,hle,hS',hex,rfl,hd',hq⟩
 cases ax with
 | normal =>
  simp only [exOk] at hex
  subst hex
  refine wpS_mono (hq m' a' { c0 with mode:=md } cs hS' hd') ?_
  rintro e a2 cs2 w2 ⟨m2,σ2,x2,u2,md2,h1,h2,h3,h4,h5,h6,h7⟩
  exact ⟨m2,σ2,x2,u2,md2,h1,hle.trans h2,h3,h4,h5,h6,h7⟩
 | exit id =>
  simp only [exOk] at hex
  subst hex
  exact ⟨m',σ',.exit id,u',md,rfl,hle,hS',rfl,rfl,hd',hq⟩
 | ret =>
  simp only [exOk] at hex
  subst hex
  exact ⟨m',σ',.ret,u',md,rfl,hle,hS',rfl,rfl,hd',hq⟩
 | panic z =>
  simp only [exOk] at hex
  obtain ⟨v,rfl,hv⟩:=hex
  exact ⟨m',σ',.panic z,u',md,rfl,hle,hS',⟨v,rfl,hv⟩,rfl,hd',hq⟩

def recV : DM → AV
 | .pan x=>x
 | _=>.raw .nilIface
def recU : DM → DM
 | .pan _=>.done
 | u=>u
def isRecover (o : Op) : Bool :=
 match o with
 | .call c=>match c.callee with
  | .builtin .recover=>true
  | _=>false
 | _=>false
theorem recoverD_ok {m : Mem} {c0 : Frame} {cs : List Frame} (hd : dmOk m u c0.mode) :
  ∃ v md,Rep m 0 (recV u) v ∧ dmOk m (recU u) md ∧ (recoverD (c0 :: cs) = some (v,{ c0 with mode:=md } :: cs) ∨ (recoverD (c0 :: cs) = none ∧ v = .nilIface ∧ c0 = { c0 with mode:=md })):=by
 obtain ⟨fn,tmps,todo,defers,mode,kind,_⟩:=c0
 cases u with
 | ret =>
  simp only [dmOk] at hd
  subst hd
  exact ⟨.nilIface,.returning,by simp only [recV,Rep],rfl,.inr ⟨rfl,rfl,rfl⟩⟩
 | pan x =>
  obtain ⟨v,h,hv⟩:=hd
  simp only at h
  subst h
  exact ⟨v,_,Rep.down (Nat.zero_le 2) _ _ hv,⟨v,rfl⟩,.inl rfl⟩
 | done =>
  obtain ⟨v,h⟩:=hd
  simp only at h
  subst h
  exact ⟨.nilIface,_,by simp only [recV,Rep],⟨v,rfl⟩,.inr ⟨rfl,rfl,rfl⟩⟩

def wpListS (P : Program) (ops : Array Oper) (Q : Exit → Act → World → Prop) : List Oper → Act → World → Prop
 | [],a,w=>Q .normal a w
 | o :: rest,a,w=>if Region.wanted o (yielded ops a.tmps) then o.wp P a w (wpListS P ops Q rest) Q else wpListS P ops Q rest (a.put o.dst undef) w
theorem wpOpsS_of_list {ops : Array Oper} {Q : Exit → Act → List Frame → World → Prop} {cs : List Frame} : ∀ (l : List Oper) (k : Nat) (a : Act) (w : World),(∀ j,l[j]? = ops[k + j]?) → wpListS P ops (fun e a w=>Q e a cs w) l a w →
  wpOpsS P ops Q (List.range' k l.length) a cs w
 | [],k,a,w,_,h=>by simpa [wpOpsS,wpListS] using h
 | o :: rest,k,a,w,hl,h=>by
  have h0 : ops[k]? = some o:=by have:=hl 0; simpa using this.symm
  have hr : ∀ j,rest[j]? = ops[k + 1 + j]?:=fun j=>by have:=hl (j + 1); rw [List.getElem?_cons_succ] at this; rw [this]; congr 1; omega
  rw [List.length_cons,List.range'_succ]
  simp only [wpOpsS,h0]
  unfold wpListS at h
  split
  ·rename_i hw
   rw [if_pos hw] at h
   unfold Oper.wp at h
   generalize (execOp a.eval o).run P w = rr at h ⊢
   have hmono : ∀ {rr : Result Next},o.upon P a (wpListS P ops (fun e a w=>Q e a cs w) rest) (fun e a w=>Q e a cs w) rr →
     o.upon P a (fun a' w'=>wpOpsS P ops Q (List.range' (k + 1) rest.length) a' cs w') (fun e a' w'=>Q e a' cs w') rr:=by
    intro rr h
    have h1:=fun a' w'=>wpOpsS_of_list (Q:=Q) (cs:=cs) rest (k + 1) a' w' hr
    cases rr with
    | ok n w' =>
     cases n <;> simp only [Oper.upon] at h ⊢
     case value=>exact h1 _ _ h
     case skip=>exact h1 _ _ h
     case defer=>exact h1 _ _ h
     case enter =>
      refine Calls.mono h fun e w'' he=>?_
      cases e with
      | returned u=>exact h1 _ _ he
      | panicked c=>exact he
      | outgrown=>exact he
     case row=>exact Rows.mono h fun u w'' he=>h1 _ _ he
    | halt y w' =>
     cases y <;> simp only [Oper.upon] at h ⊢
     case panic u=>exact h
   have h2:=hmono h
   split
   ·rename_i w' heq
    simp only [Oper.upon] at h
   ·exact h2
  ·rename_i hw
   rw [if_neg hw] at h
   exact wpOpsS_of_list rest (k + 1) _ _ hr h
theorem awOps_soundS {ops : Array Oper} {Q : Exit → Act → World → Prop} {K : St → Prop} {Kp : AV → St → Prop} (m0 : Mem)
  (hK : ∀ m a σ,m0.le m → Sim m a σ → K σ → Q .normal a m.w) (hKp : ∀ m a σ x v,m0.le m → Sim m a σ → Rep m 0 x v → Kp x σ → Q (.panic [{ v:=v,recovered:=false }]) a m.w) :
  ∀ (l : List Oper) (σ : St),l.all (fun o=>o.guard.isNone) = true → awOps P (ops.toList.map (·.dst)) l σ K Kp → ∀ m a,m0.le m → Sim m a σ → wpListS P ops Q l a m.w
 | [],σ,_,h,m,a,hle,hS=>hK m a σ hle hS h
 | o :: rest,σ,hg,h,m,a,hle,hS=>by
  simp only [List.all_cons,Bool.and_eq_true,Option.isNone_iff_eq_none] at hg
  have ih:=awOps_soundS (ops:=ops) (Q:=Q) (K:=K) (Kp:=Kp) m0 hK hKp rest
  simp only [awOps] at h
  unfold awGuard at h
  rw [hg.1] at h
  simp only at h
  unfold wpListS
  rw [if_pos (by simp [Region.wanted,hg.1])]
  exact awStep_sound h m a _ _ hS (fun m' a' σ' hle' _ hS' _ _ h'=>ih σ' hg.2 h' m' a' (hle.trans hle') hS') (fun m' σ' x v hle' _ hS' hx _ h'=>hKp m' a σ' x v (hle.trans hle') hS' hx h')

theorem AWD.regRecover {id : Nat} {ops : Array Oper} {o : Oper} {l : List Oper} (hops : ops.toList = o :: l) (hg : o.guard = none) (hr : isRecover o.op = true) (hl : l.all (fun o=>o.guard.isNone) = true) (hd : dstOk σ.n o.dst = true)
  (h : awOps P (ops.toList.map (·.dst)) l (σ.put o.dst (recV u)) (fun σ'=>Q .normal (recU u) σ') (fun x σ'=>Q (.panic x) (recU u) σ')) : AWD P (.region id ops false) u σ Q:=by
 intro m a c0 cs hS hdm
 refine wpS_region ?_
 obtain ⟨v,md,hv,hmd,hrec⟩:=recoverD_ok (cs:=cs) hdm
 have hrun : (execOp a.eval o).run P m.w = .ok .recover m.w:=by
  unfold isRecover at hr
  split at hr
  ·rename_i c hc
   split at hr
   ·rename_i hb
    unfold execOp
    rw [hc]
    simp [resolve,hb,invoke,builtin]
   ·cases hr
  ·cases hr
 have h0 : ops[0]? = some o:=by rw [← Array.getElem?_toList,hops] <;> rfl
 have hlen : ops.size = l.length + 1:=by rw [← Array.length_toList,hops] <;> rfl
 have hrest : ∀ j,l[j]? = ops[1 + j]?:=fun j=>by rw [← Array.getElem?_toList,hops,Nat.add_comm 1 j,List.getElem?_cons_succ]
 rw [List.range_eq_range',hlen,List.range'_succ]
 simp only [wpOpsS,h0]
 rw [if_pos (by simp [Region.wanted,hg]),hrun]
 simp only
 have hS2 : Sim m (a.put o.dst v) (σ.put o.dst (recV u)):=hS.put (.refl m) hS.h hd hv
 have hfin : ∀ cs',cs' = { c0 with mode:=md } :: cs → wpOpsS P ops (fun e a' cs' w'=>∃ m' σ' x u' md,m'.w = w' ∧ m.le m' ∧ Sim m' a' σ' ∧ exOk m' x e ∧ cs' = { c0 with mode:=md } :: cs ∧ dmOk m' u' md ∧ Q x u' σ') (List.range' 1 l.length) (a.put o.dst v) cs' m.w:=by
  rintro cs' rfl
  refine wpOpsS_of_list l 1 _ _ hrest ?_
  refine awOps_soundS m ?_ ?_ l _ hl h m _ (.refl m) hS2
  ·intro m' a' σ' hle hS' h'
   exact ⟨m',σ',.normal,recU u,md,rfl,hle,hS',rfl,rfl,hmd.mono hle.kf,h'⟩
  ·intro m' a' σ' x v hle hS' hx h'
   exact ⟨m',σ',.panic x,recU u,md,rfl,hle,hS',⟨v,rfl,hx⟩,rfl,hmd.mono hle.kf,h'⟩
 rcases hrec with hrec | ⟨hrec,rfl,hc⟩
 ·rw [hrec]
  exact hfin _ rfl
 ·rw [hrec]
  simp only
  rw [hc]
  exact hfin _ rfl

theorem FnD.intro {gl : List (Nat × AV)} {f : FuncId} {fn : Func} {c : Code} {xs : List AV} {hp : List (Nat × ABlk)} {nx : Nat} {R : DM → List (Nat × ABlk) → Nat → Prop} (hf : P.funcs[f]? = some fn) (hname : (fn.name == "runtime.NumGoroutine") = false)
  (hb : fn.body = some c) (hn : xs.length ≤ fn.ntmps) (h : AWD P c u ⟨fn.ntmps,argEnv 0 xs,hp,nx,gl,nx,[]⟩ fun x u' σ=>match x with
   | .normal=>finHRet P fn.results.toList (fun _ hp' nx'=>R u'.settle hp' nx') σ
   | .ret=>finHRet P fn.results.toList (fun _ hp' nx'=>R u'.settle hp' nx') σ
   | _=>False) : FnD P gl f xs hp nx u R:=by
 refine ⟨enters_of hf hname hb,fun m vs mode hm hv hd=>?_⟩
 have hlen:=hv.length
 refine callsD_of_wpS hf hb fun c0 cs hu=>?_
 have hS : Sim m { tmps:=vs.toArray ++ Array.replicate (fn.ntmps - vs.toArray.size) undef,defers:=[] } ⟨fn.ntmps,argEnv 0 xs,hp,nx,gl,nx,[]⟩:=by
  refine ⟨hm.h,?_,rfl,?_,hm.gl,hm.np⟩
  ·simp only [Array.size_append,List.size_toArray,Array.size_replicate]
   omega
  ·intro t x ht
   obtain ⟨_,hx⟩:=get_argEnv ht
   have hlt : t < xs.length:=by
    rcases Nat.lt_or_ge t xs.length with h | h
    ·exact h
    ·rw [List.getElem?_eq_none (by omega)] at hx; cases hx
   refine ⟨Nat.lt_of_lt_of_le hlt hn,?_⟩
   obtain ⟨v,hv1,hv2⟩:=hv.at t hlt
   have hx' : xs[t] = x:=by
    rw [Nat.sub_zero,List.getElem?_eq_getElem hlt] at hx
    exact Option.some.inj hx
   have : (vs.toArray ++ Array.replicate (fn.ntmps - vs.toArray.size) undef).getD t undef = v:=by
    rw [Array.getD_eq_getD_getElem?,Array.getElem?_append_left (by simp; omega)]
    simp [hv1]
   rw [this,← hx']
   exact hv2
 refine wpS_mono (h m _ c0 cs hS (hu ▸ hd)) ?_
 rintro e a' cs' w' ⟨m',σ',ax,u',md,rfl,hle,hS',hex,rfl,hd',hq⟩
 cases ax with
 | normal =>
  simp only [exOk] at hex
  subst hex
  obtain ⟨h1,v,h2,m2,r,hp',nx',h3,h4,h5,h6,h7⟩:=finHRet_sound hS' (.refl m') hq
  exact ⟨h1,md,rfl,v,h2,m2,v,u'.settle,hp',nx',h3,hle.trans h4,h5,rfl,hd'.settle.mono h4.kf,h7⟩
 | ret =>
  simp only [exOk] at hex
  subst hex
  obtain ⟨h1,v,h2,m2,r,hp',nx',h3,h4,h5,h6,h7⟩:=finHRet_sound hS' (.refl m') hq
  exact ⟨h1,md,rfl,v,h2,m2,v,u'.settle,hp',nx',h3,hle.trans h4,h5,rfl,hd'.settle.mono h4.kf,h7⟩
 | exit id=>exact hq.elim
 | panic x=>exact hq.elim
end
attribute [go_sem] recV recU DM.settle adefer andThenD
end Aw

namespace Aw
open Go

inductive PT where
 | done
 | stop
 | take (i k : Nat) (t : PT)
 | fork (i : Nat) (t r : PT)
def PT.alts : PT → List Nat
 | .fork i _ r=>i :: r.alts
 | _=>[]
/- 'take' with 2: what waits for the operation only through others is held to wait for it too. -/
def reachB (ops : Array Oper) (i : Nat) : Nat → Nat → Bool
 | 0,_=>false
 | f + 1,j=>match ops[j]? with
  | some oj=>oj.after.any fun e=>Region.binds .any e && (e.on == i || reachB ops i f e.on)
  | none=>false
def downB (ops : Array Oper) (l : Array Bool) : Bool :=
 (List.range ops.size).all fun k=>!(l.getD k false) || match ops[k]? with
  | some ok=>ok.after.all fun e=>!(Region.binds .any e) || l.getD e.on false
  | none=>true
def freeOk2 (ops : Array Oper) (l : Array Bool) (i : Nat) (oi : Oper) : Bool :=
 downB ops l && (List.range ops.size).all fun j=>j == i || l.getD j true || match ops[j]? with
  | some oj=>reachB ops i 9 j || (oi.apart ops oj && (!isEff oj.op || (isAlloc oj.op && isLoad oi.op)))
  | none=>true
def treeOk (ops : Array Oper) : Bool → Nat → PT → Array Bool → Bool
 | _,_,.done,l=>(Region.ready .any ops l).isEmpty
 | inn,_,.stop,_=>inn
 | _,0,_,_=>false
 | _,f + 1,.take i k t,l=>(match ops[i]? with
   | none=>false
   | some oi=>decide (k < 3) && ((Region.ready .any ops l).contains i && (if k = 2 then freeOk2 ops l i oi else freeOk ops l i oi (k == 0)) && match oi.dst with
     | some d=>!(oi.looksAt ops).contains d
     | none=>false)) && treeOk ops false f t (l.setIfInBounds i true)
 | inn,f + 1,.fork i t r,l=>(inn || (!(Region.ready .any ops l).isEmpty && (Region.ready .any ops l).all ((PT.fork i t r).alts.contains ·))) && ((ops[i]?).isSome && (treeOk ops false f t (l.setIfInBounds i true) && treeOk ops true (f + 1) r l))
section
variable {P : Program} {ops : Array Oper} {K : St → Prop} {Kp : AV → St → Prop}
def awTree (P : Program) (ops : Array Oper) (K : St → Prop) (Kp : AV → St → Prop) : PT → St → Prop
 | .done,σ=>K σ
 | .stop,_=>True
 | .take i k t,σ=>∃ o,ops[i]? = some o ∧ ∃ x,TakeAt P (ops.toList.map (·.dst)) o (k == 0) σ x ∧ awTree P ops K Kp t (σ.put o.dst x)
 | .fork i t r,σ=>(∃ o,ops[i]? = some o ∧ awGuard P (ops.toList.map (·.dst)) o σ (awTree P ops K Kp t) Kp) ∧ awTree P ops K Kp r σ

def Down (ops : Array Oper) (l : Array Bool) : Prop:=∀ k ok,ops[k]? = some ok → l.getD k false = true → ∀ e ∈ ok.after,Region.binds .any e = true → l.getD e.on false = true
theorem getD_tf2 {l : Array Bool} {j : Nat} (h : l.getD j true = false) : j < l.size ∧ l.getD j false = false:=by
 rcases Nat.lt_or_ge j l.size with hj | hj
 ·simp only [Array.getD,hj,dif_pos] at h ⊢
  exact ⟨trivial,h⟩
 ·simp [Array.getD,Nat.not_lt.2 hj] at h
theorem getD_setB2 {l : Array Bool} {i j : Nat} (hi : i < l.size) : (l.setIfInBounds i true).getD j false = if i = j then true else l.getD j false:=by
 simp only [Array.getD_eq_getD_getElem?,Array.getElem?_setIfInBounds]
 split
 ·rename_i e; subst e; simp
 ·rfl
theorem reach_pending {l : Array Bool} {i : Nat} (hd : Down ops l) (hi : l.getD i false = false) : ∀ (f j : Nat) (oj : Oper),ops[j]? = some oj → reachB ops i f j = true → ¬ ∀ e ∈ oj.after,Region.binds .any e = true → l.getD e.on false = true
 | 0,_,_,_,h,_=>by simp [reachB] at h
 | f + 1,j,oj,hj,h,hall=>by
  simp only [reachB,hj] at h
  obtain ⟨e,he,hb⟩:=Array.any_eq_true'.1 h
  simp only [Bool.and_eq_true,Bool.or_eq_true,beq_iff_eq] at hb
  obtain ⟨hb,hb2⟩:=hb
  have hl:=hall e he hb
  rcases hb2 with h2 | h2
  ·rw [h2,hi] at hl; cases hl
  ·cases hok : ops[e.on]? with
   | none=>cases f <;> simp [reachB,hok] at h2
   | some ok=>exact reach_pending hd hi f e.on ok hok h2 (hd e.on ok hok hl)
theorem GAny.take2 {i d : Nat} {oi : Oper} {x : AV} (hi : ops[i]? = some oi) (hdst : oi.dst = some d) (hself : d ∉ oi.looksAt ops) (hsel : Region.noSelect ops = true)
  (hK : ∀ σ σ',Eqv σ σ' → K σ → K σ') (hKp : insens Kp) :
  ∀ (f : Nat) (l : Array Bool) (σ : St),Down ops l →
   (∀ j oj,ops[j]? = some oj → j ≠ i → l.getD j true = false → reachB ops i 9 j = true ∨ (oi.apart ops oj = true ∧ (isEff oj.op = false ∨ (isAlloc oj.op = true ∧ isLoad oi.op = true)))) →
   i ∈ Region.ready .any ops l → TakeAt P (ops.toList.map (·.dst)) oi false σ x → GAny P ops K Kp f (l.setIfInBounds i true) (σ.put oi.dst x) → GAny P ops K Kp (f + 1) l σ
 | 0,l,σ,_,_,hr,hT,H=>by
  refine ⟨fun h=>(by rw [h] at hr; cases hr),fun j hj=>?_⟩
  by_cases hji : j = i
  ·subst hji
   exact awGuard_sound hi (hT.guard H)
  ·have:=ready_mono hj hji
   rw [H.1] at this
   cases this
 | f + 1,l,σ,hdn,hfree,hr,hT,H=>by
  refine ⟨fun h=>(by rw [h] at hr; cases hr),fun j hj=>?_⟩
  by_cases hji : j = i
  ·subst hji
   exact awGuard_sound hi (hT.guard H)
  ·have h1:=H.2 j (ready_mono hj hji)
   obtain ⟨hjun,oj,hoj,hall⟩:=mem_ready.1 hj
   have hpi:=(getD_tf2 (mem_ready.1 hr).1).2
   have hfr:=(hfree j oj hoj hji hjun).resolve_left fun hre=>reach_pending hdn hpi 9 j oj hoj hre hall
   have h2:=GStep.swap hdst hself hoj hfr.1 (fun cs b=>Region.noSelect_spec hsel j oj cs b hoj) (fun _=>hfr.2) hT hKp h1
   refine h2.mono ?_
   rintro σ'' ⟨σ',g1,g2,g3⟩
   have hjs:=(getD_tf2 hjun).1
   refine GAny.take2 hi hdst hself hsel hK hKp f (l.setIfInBounds j true) σ'' ?_ ?_ (ready_mono hr (Ne.symm hji)) g3 ?_
   ·intro k ok hok hk e he hb
    rw [getD_setB2 hjs] at hk ⊢
    split
    ·rfl
    ·by_cases hjk : j = k
     ·subst hjk
      rw [hoj] at hok
      injection hok with hok
      subst hok
      exact hall e he hb
     ·rw [if_neg hjk] at hk
      exact hdn k ok hok hk e he hb
   ·intro k ok hk hki hun
    refine hfree k ok hk hki ?_
    by_cases hjk : j = k
    ·subst hjk; exact hjun
    ·rw [getD_set_ne true hjk] at hun; exact hun
   ·rw [Array.setIfInBounds_comm _ _ hji]
    exact GAny.eqv hK g2 g1
theorem freeOk2_spec {l : Array Bool} {i : Nat} {oi : Oper} (h : freeOk2 ops l i oi = true) : Down ops l ∧ ∀ j oj,ops[j]? = some oj → j ≠ i → l.getD j true = false → reachB ops i 9 j = true ∨ (oi.apart ops oj = true ∧ (isEff oj.op = false ∨ (isAlloc oj.op = true ∧ isLoad oi.op = true))):=by
 simp only [freeOk2,Bool.and_eq_true,List.all_eq_true,List.mem_range] at h
 refine ⟨fun k ok hok hk e he hb=>?_,fun j oj hj hne hun=>?_⟩
 ·have h1:=h.1
  simp only [downB,List.all_eq_true,List.mem_range] at h1
  have h2:=h1 k (Array.getElem?_eq_some_iff.1 hok).1
  simp only [hok,hk,Bool.not_true,Bool.false_or] at h2
  have h3:=Array.all_eq_true'.1 h2 e he
  simpa [hb] using h3
 ·have h1:=h.2 j (Array.getElem?_eq_some_iff.1 hj).1
  simp only [hj,Bool.or_eq_true,beq_iff_eq,hne,false_or,hun,Bool.false_eq_true,Bool.and_eq_true,Bool.not_eq_true'] at h1
  exact h1
theorem awTree_sound (hsel : Region.noSelect ops = true) (hKp : insens Kp) : ∀ (T : PT) (inn : Bool) (f : Nat) (l : Array Bool) (σ : St),treeOk ops inn f T l = true → awTree P ops K Kp T σ →
  (inn = false → GAny P ops (fun σ=>∃ σ2,Eqv σ σ2 ∧ K σ2) Kp f l σ) ∧
  (∀ i ∈ T.alts,∀ f',f = f' + 1 → GStep P ops i σ (GAny P ops (fun σ=>∃ σ2,Eqv σ σ2 ∧ K σ2) Kp f' (l.setIfInBounds i true)) Kp)
 | .done,inn,f,l,σ,hT,h=>by
  have hr : Region.ready .any ops l = []:=by simpa [treeOk] using hT
  refine ⟨fun _=>?_,fun i hi=>by simp [PT.alts] at hi⟩
  cases f with
  | zero=>exact ⟨hr,σ,.refl σ,h⟩
  | succ f=>exact ⟨fun _=>⟨σ,.refl σ,h⟩,fun i hi=>by rw [hr] at hi; cases hi⟩
 | .stop,inn,f,l,σ,hT,_=>by
  refine ⟨fun hi=>?_,fun i hi=>by simp [PT.alts] at hi⟩
  subst hi
  simp [treeOk] at hT
 | .take i k t,inn,0,l,σ,hT,_=>by simp [treeOk] at hT
 | .take i k t,inn,f + 1,l,σ,hT,h=>by
  refine ⟨fun _=>?_,fun i hi=>by simp [PT.alts] at hi⟩
  obtain ⟨o,ho,x,hx,hrest⟩:=h
  simp only [treeOk,ho,Bool.and_eq_true] at hT
  obtain ⟨⟨_,⟨hr,hf⟩,hd⟩,hT⟩:=hT
  have ih:=(awTree_sound hsel hKp t false f (l.setIfInBounds i true) _ hT hrest).1 rfl
  cases hdst : o.dst with
  | none=>rw [hdst] at hd; cases hd
  | some d =>
   rw [hdst] at hd
   by_cases hk2 : k = 2
   ·rw [if_pos hk2] at hf
    subst hk2
    exact GAny.take2 ho hdst (by simpa using hd) hsel (fun σ σ' he ⟨σ2,h1,h2⟩=>⟨σ2,he.symm.trans h1,h2⟩) hKp f l σ (freeOk2_spec hf).1 (freeOk2_spec hf).2 (by simpa using hr) hx ih
   ·rw [if_neg hk2] at hf
    exact GAny.take ho hdst (by simpa using hd) hsel (fun σ σ' he ⟨σ2,h1,h2⟩=>⟨σ2,he.symm.trans h1,h2⟩) hKp f l σ (freeOk_spec hf) (by simpa using hr) hx ih
 | .fork i t r,inn,0,l,σ,hT,_=>by simp [treeOk] at hT
 | .fork i t r,inn,f + 1,l,σ,hT,h=>by
  simp only [treeOk,Bool.and_eq_true] at hT
  obtain ⟨hc,ho,ht,hr⟩:=hT
  obtain ⟨⟨o,ho',hg⟩,hrest⟩:=h
  have hall : ∀ j ∈ (PT.fork i t r).alts,∀ f',f + 1 = f' + 1 → GStep P ops j σ (GAny P ops (fun σ=>∃ σ2,Eqv σ σ2 ∧ K σ2) Kp f' (l.setIfInBounds j true)) Kp:=by
   intro j hj f' hf
   obtain rfl : f = f':=by omega
   simp only [PT.alts,List.mem_cons] at hj
   rcases hj with rfl | hj
   ·exact (awGuard_sound ho' hg).mono fun σ' h'=>(awTree_sound hsel hKp t false f _ σ' ht h').1 rfl
   ·exact (awTree_sound hsel hKp r true (f + 1) l σ hr hrest).2 j hj f rfl
  refine ⟨fun hi=>?_,hall⟩
  subst hi
  simp only [Bool.false_or,Bool.and_eq_true,List.all_eq_true] at hc
  refine ⟨fun h0=>?_,fun j hj=>hall j (by simpa using hc.2 j hj) f rfl⟩
  ·-- nothing is ready: then the alternative is not either
   exfalso
   rw [h0] at hc
   simp at hc

def runTree (P : Program) (l : List Oper) (ds : List (Option Tmp)) : PT → St → Option (Prop × List St)
 | .done,σ=>some (True,[σ])
 | .stop,_=>some (True,[])
 | .take i k t,σ=>match nth l i with
  | none=>none
  | some o=>match stepTake P ds σ o (k == 0) with
   | none=>none
   | some r=>match runTree P l ds t r.2 with
    | some q=>some (r.1 ∧ q.1,q.2)
    | none=>none
 | .fork i t r,σ=>match nth l i with
  | none=>none
  | some o=>match stepOp P ds σ o with
   | none=>none
   | some s=>match runTree P l ds t s.2,runTree P l ds r σ with
    | some a,some b=>some ((s.1 ∧ a.1) ∧ b.1,a.2 ++ b.2)
    | _,_=>none
/-! ### the same state, its slots in order -/
def insE (k : Nat) (x : AV) : List (Nat × AV) → List (Nat × AV)
 | []=>[(k,x)]
 | p :: r=>if k < p.1 then (k,x) :: p :: r else if k = p.1 then (k,x) :: r else p :: insE k x r
def sortE : List (Nat × AV) → List (Nat × AV)
 | []=>[]
 | p :: r=>insE p.1 p.2 (sortE r)
theorem get_insE (k : Nat) (x : AV) : ∀ (l : List (Nat × AV)) (t : Nat),get (insE k x l) t = if k = t then some x else get l t
 | [],t=>by simp [insE,Aw.get]
 | p :: r,t=>by
  simp only [insE]
  split
  ·simp [Aw.get]
  ·split
   ·rename_i h
    simp only [Aw.get,h]
    by_cases e : p.1 = t <;> simp [e]
   ·rename_i h1 h2
    simp only [Aw.get,get_insE k x r t]
    by_cases e : p.1 = t
    ·have : ¬ k = t:=fun h=>h2 (h.trans e.symm)
     simp [e,this]
    ·simp [e]
theorem get_sortE : ∀ (l : List (Nat × AV)) (t : Nat),get (sortE l) t = get l t
 | [],t=>rfl
 | p :: r,t=>by
  rw [sortE,get_insE,get_sortE r t]
  simp only [Aw.get]
def St.norm (σ : St) : St:=⟨σ.n,sortE σ.env,σ.hp,σ.nx,σ.gl,σ.np,σ.df⟩
theorem St.norm_eqv (σ : St) : Eqv σ σ.norm:=⟨rfl,rfl,rfl,rfl,rfl,rfl,fun t=>get_sortE σ.env t⟩

end
attribute [go_sem] runTree St.norm sortE insE
end Aw

namespace Aw
open Go
def intsAV (l : List Int) : List (List AV):=l.map fun n=>[.int .i64 n]
def strsAV (l : List (List UInt8)) : List (List AV):=l.map fun s=>[.str s]
theorem intsAV_getD {l : List Int} {i : Nat} {d : List AV} (h : i < l.length) : (intsAV l).getD i d = [.int .i64 (l.getD i 0)]:=by
 simp [intsAV,List.getD,h]
theorem strsAV_getD {l : List (List UInt8)} {i : Nat} {d : List AV} (h : i < l.length) : (strsAV l).getD i d = [.str (l.getD i [])]:=by
 simp [strsAV,List.getD,h]
theorem intsAV_out {l : List Int} {i : Nat} {d : List AV} (h : l.length ≤ i) : (intsAV l).getD i d = d:=by
 simp [intsAV,List.getD,h]
theorem strsAV_out {l : List (List UInt8)} {i : Nat} {d : List AV} (h : l.length ≤ i) : (strsAV l).getD i d = d:=by
 simp [strsAV,List.getD,h]
theorem intsAV_ok (l : List Int) : (∀ e ∈ intsAV l,okRow 1 e = true) = True:=by
 simp only [intsAV,List.mem_map,eq_iff_iff,iff_true]
 rintro e ⟨b,_,rfl⟩
 rfl
theorem strsAV_ok (l : List (List UInt8)) : (∀ e ∈ strsAV l,okRow 1 e = true) = True:=by
 simp only [strsAV,List.mem_map,eq_iff_iff,iff_true]
 rintro e ⟨b,_,rfl⟩
 rfl
theorem intsAV_len1 (l : List Int) : (∀ e ∈ intsAV l,e.length = 1) = True:=by
 simp only [intsAV,List.mem_map,eq_iff_iff,iff_true]
 rintro e ⟨b,_,rfl⟩
 rfl
theorem strsAV_len1 (l : List (List UInt8)) : (∀ e ∈ strsAV l,e.length = 1) = True:=by
 simp only [strsAV,List.mem_map,eq_iff_iff,iff_true]
 rintro e ⟨b,_,rfl⟩
 rfl
attribute [go_sem] intsAV_ok strsAV_ok intsAV_len1 strsAV_len1
theorem RepL.set {m : Mem} {k : Nat} {x y : AV} (hxy : ∀ v,Rep m k x v → Rep m k y v) : ∀ {cs : List AV} {vs : List Value} {i : Nat},RepL m k cs vs → cs[i]? = some x → RepL m k (cs.set i y) vs
 | [],_,_,_,h=>by simp at h
 | c :: cs,vs,0,hr,h=>by
  simp only [List.getElem?_cons_zero,Option.some.injEq] at h
  subst h
  simp only [RepL,List.set_cons_zero] at hr ⊢
  obtain ⟨v,rest,rfl,hv,hr⟩:=hr
  exact ⟨v,rest,rfl,hxy v hv,hr⟩
 | c :: cs,vs,i + 1,hr,h=>by
  simp only [List.getElem?_cons_succ] at h
  simp only [RepL,List.set_cons_succ] at hr ⊢
  obtain ⟨v,rest,rfl,hv,hr⟩:=hr
  exact ⟨v,rest,rfl,hv,RepL.set hxy hr h⟩
theorem St.le.nilcell {σ : St} (id off sz : Nat) {cs : List AV} (h : get σ.hp id = some (.cells cs)) (hc : cs[off]? = some (.raw (.slice none 0 0))) :
  St.le ⟨σ.n,σ.env,set (set σ.hp σ.nx (.row sz [] true)) id (.cells (cs.set off (.row σ.nx 0 0))),σ.nx + 1,σ.gl,σ.np,σ.df⟩ σ:=by
 intro m a hS
 obtain ⟨m',h1,h2,h3,h4,h5⟩:=nilrow_sound hS.h sz true
 have hS':=hS.of h3 h4
 have hne : ¬ σ.nx = id:=by
  intro e
  obtain ⟨ri,hr,_⟩:=hS.h.blk id _ h
  rw [hS.h.fresh id (by omega)] at hr
  cases hr
 have hg : get (set σ.hp σ.nx (.row sz [] true)) id = some (.cells cs):=by rw [get_set,if_neg hne]; exact h
 refine ⟨m',h1,h2,⟨⟨?_,?_,h4.fresh,h4.Fold,h4.Pold⟩,hS'.n,hS'.defers,hS'.env,hS'.gl,hS'.np⟩⟩
 ·intro j x hx
  rw [get_set] at hx
  split at hx
  ·rename_i e
   subst e
   injection hx with hx
   subst hx
   obtain ⟨ri,hr,g1,g2,g3,c,T,g4,g5⟩:=h4.blk id _ hg
   refine ⟨ri,hr,g1,g2,g3,c,T,g4,RepL.set (x:=.raw (.slice none 0 0)) (fun v hv=>?_) g5 hc⟩
   simp only [Rep] at hv
   subst hv
   exact h5
  ·exact h4.blk j x hx
 ·intro j j' x x' ri ri' hx hx' hr hr' hjj hn hn'
  have key : ∀ k y,get (set (set σ.hp σ.nx (.row sz [] true)) id (.cells (cs.set off (.row σ.nx 0 0)))) k = some y → ∃ z,get (set σ.hp σ.nx (.row sz [] true)) k = some z:=by
   intro k y hy
   rw [get_set] at hy
   split at hy
   ·rename_i e
    subst e
    exact ⟨_,hg⟩
   ·exact ⟨y,hy⟩
  obtain ⟨z,hz⟩:=key j x hx
  obtain ⟨z',hz'⟩:=key j' x' hx'
  exact h4.apart j j' z z' ri ri' hz hz' hr hr' hjj hn hn'

def splitLast : List Oper → Option (List Oper × Oper)
 | []=>none
 | x :: r=>match splitLast r with
  | none=>some ([],x)
  | some p=>some (x :: p.1,p.2)
theorem splitLast_eq : ∀ {l : List Oper} {p : List Oper × Oper},splitLast l = some p → l = p.1 ++ [p.2]
 | [],p,h=>by simp [splitLast] at h
 | x :: r,p,h=>by
  simp only [splitLast] at h
  split at h
  ·rename_i hr
   injection h with h
   subst h
   cases r with
   | nil=>rfl
   | cons y r =>
    simp only [splitLast] at hr
    split at hr <;> cases hr
  ·rename_i q hq
   injection h with h
   subst h
   rw [splitLast_eq hq]
   rfl
section
variable {P : Program} {σ σ' : St} {Q : AX → St → Prop} {y : Code} {id : Nat} {ops : Array Oper} {ob ob' : Prop} {f : FuncId} {ys : List AV} {l : List Oper} {o : Oper}
theorem AW.seqDefer (hops : splitLast ops.toList = some (l,o)) (h : runOps P (ops.toList.map (·.dst)) l σ = (ob,[],σ')) (hd : adefer σ' o.op = some (ob',f,ys)) (hg : o.guard = none) (hdst : dstOk σ'.n o.dst = true) (hob : ob) (hob' : ob')
  (hk : AW P y (St.put ⟨σ'.n,σ'.env,σ'.hp,σ'.nx,σ'.gl,σ'.np,(f,ys) :: σ'.df⟩ o.dst (.raw undef)) Q) : AW P (.seq (.region id ops false) y) σ Q :=
 AW.seq (AW.regDefer (splitLast_eq hops) hg h hob hd hob' hdst hk)
end
attribute [go_sem] splitLast
end Aw

namespace Aw
open Go
inductive Pob where
 | mk (kind num gen : Int) (str : List UInt8) (keys : List (List UInt8)) (kids : List Pob)
namespace Pob
def kind : Pob → Int | .mk k _ _ _ _ _=>k
def num : Pob → Int | .mk _ n _ _ _ _=>n
def gen : Pob → Int | .mk _ _ g _ _ _=>g
def str : Pob → List UInt8 | .mk _ _ _ s _ _=>s
def keys : Pob → List (List UInt8) | .mk _ _ _ _ ks _=>ks
def kids : Pob → List Pob | .mk _ _ _ _ _ l=>l
theorem eta (o : Pob) : Pob.mk o.kind o.num o.gen o.str o.keys o.kids = o:=by cases o; rfl
theorem kind_mk (k n g : Int) (s : List UInt8) (ks : List (List UInt8)) (l : List Pob) : (Pob.mk k n g s ks l).kind = k:=rfl
theorem num_mk (k n g : Int) (s : List UInt8) (ks : List (List UInt8)) (l : List Pob) : (Pob.mk k n g s ks l).num = n:=rfl
theorem gen_mk (k n g : Int) (s : List UInt8) (ks : List (List UInt8)) (l : List Pob) : (Pob.mk k n g s ks l).gen = g:=rfl
theorem str_mk (k n g : Int) (s : List UInt8) (ks : List (List UInt8)) (l : List Pob) : (Pob.mk k n g s ks l).str = s:=rfl
theorem keys_mk (k n g : Int) (s : List UInt8) (ks : List (List UInt8)) (l : List Pob) : (Pob.mk k n g s ks l).keys = ks:=rfl
theorem kids_mk (k n g : Int) (s : List UInt8) (ks : List (List UInt8)) (l : List Pob) : (Pob.mk k n g s ks l).kids = l:=rfl
def null : Pob:=.mk 0 0 0 [] [] []
end Pob
mutual
def Pob.cells : Pob → List AV
 | .mk k n g s ks l=>[.int .i64 k,.int .i64 n,.int .i64 g,.str s,.sl (strsAV ks),.sl (objsAV l)]
def objsAV : List Pob → List (List AV)
 | []=>[]
 | o :: l=>o.cells :: objsAV l
end
theorem Pob.cells_eq (o : Pob) : o.cells = [.int .i64 o.kind,.int .i64 o.num,.int .i64 o.gen,.str o.str,.sl (strsAV o.keys),.sl (objsAV o.kids)]:=by
 cases o; simp only [Pob.cells,kind,num,gen,str,keys,kids]
theorem objsAV_map (l : List Pob) : objsAV l = l.map Pob.cells:=by
 induction l with
 | nil=>simp only [objsAV,List.map_nil]
 | cons o l ih=>simp only [objsAV,List.map_cons,ih]
theorem objsAV_length (l : List Pob) : (objsAV l).length = l.length:=by simp [objsAV_map]
theorem objsAV_getD {l : List Pob} {i : Nat} {d : List AV} (h : i < l.length) : (objsAV l).getD i d = (l.getD i Pob.null).cells:=by
 simp [objsAV_map,List.getD,h]
theorem objsAV_out {l : List Pob} {i : Nat} {d : List AV} (h : l.length ≤ i) : (objsAV l).getD i d = d:=by
 simp [objsAV_map,List.getD,h]
theorem strsAV_nil : strsAV [] = []:=rfl
theorem intsAV_nil : intsAV [] = []:=rfl

structure Itm where
 num : Int
 gen : Int
 obj : Pob
def Itm.cells (i : Itm) : List AV:=[.int .i64 i.num,.int .i64 i.gen,.int .i64 i.obj.kind,.int .i64 i.obj.num,.int .i64 i.obj.gen,.str i.obj.str,.sl (strsAV i.obj.keys),.sl (objsAV i.obj.kids)]
def Itm.zero : Itm:=⟨0,0,Pob.null⟩
def itemsAV (l : List Itm) : List (List AV):=l.map Itm.cells
theorem itemsAV_getD {l : List Itm} {i : Nat} {d : List AV} (h : i < l.length) : (itemsAV l).getD i d = (l.getD i Itm.zero).cells:=by
 simp [itemsAV,List.getD,h]
theorem itemsAV_out {l : List Itm} {i : Nat} {d : List AV} (h : l.length ≤ i) : (itemsAV l).getD i d = d:=by
 simp [itemsAV,List.getD,h]
theorem itemsAV_ok (l : List Itm) : (∀ e ∈ itemsAV l,okRow 8 e = true) = True:=by
 simp only [itemsAV,List.mem_map,eq_iff_iff,iff_true]
 rintro e ⟨b,_,rfl⟩
 rfl
theorem itemsAV_len8 (l : List Itm) : (∀ e ∈ itemsAV l,e.length = 8) = True:=by
 simp only [itemsAV,List.mem_map,eq_iff_iff,iff_true]
 rintro e ⟨b,_,rfl⟩
 rfl
theorem itemsAV_nil : itemsAV [] = []:=rfl
def zObj : List AV:=[.int .i64 0,.int .i64 0,.int .i64 0,.str [],.raw (.slice none 0 0),.raw (.slice none 0 0)]
def fillO (l : List Pob) (i : Nat) : List (List AV):=objsAV (l.take i) ++ List.replicate (l.length - i) zObj
theorem fillO_length {l : List Pob} {i : Nat} (h : i ≤ l.length) : (fillO l i).length = l.length:=by
 simp only [fillO,List.length_append,objsAV_length,List.length_take,List.length_replicate]
 omega
theorem fillO_set {l : List Pob} {i : Nat} (h : i < l.length) : (fillO l i).set i [.int .i64 (l.getD i Pob.null).kind,.int .i64 (l.getD i Pob.null).num,.int .i64 (l.getD i Pob.null).gen,.str (l.getD i Pob.null).str,.sl (strsAV (l.getD i Pob.null).keys),.sl (objsAV (l.getD i Pob.null).kids)] = fillO l (i + 1):=by
 rw [← Pob.cells_eq]
 have e : (l.getD i Pob.null) = l[i]:=by simp [List.getD,h]
 rw [e]
 simp only [fillO]
 have hl : (objsAV (l.take i)).length = i:=by rw [objsAV_length,List.length_take]; omega
 rw [List.set_append_right _ _ (by omega),hl,Nat.sub_self,show l.length - i = (l.length - (i + 1)) + 1 from by omega,List.replicate_succ,List.set_cons_zero,List.take_succ_eq_append_getElem h]
 simp only [objsAV_map,List.map_append,List.map_cons,List.map_nil,List.append_assoc,List.cons_append,List.nil_append]
mutual
def Pob.eqb : Pob → Pob → Bool
 | .mk k n g s ks l,.mk k' n' g' s' ks' l'=>decide (k = k') && (decide (n = n') && (decide (g = g') && (decide (s = s') && (decide (ks = ks') && eqbs l l'))))
def eqbs : List Pob → List Pob → Bool
 | [],[]=>true
 | a :: l,b :: l'=>a.eqb b && eqbs l l'
 | _,_=>false
end
mutual
theorem Pob.eqb_iff : ∀ a b : Pob,a.eqb b = true ↔ a = b
 | .mk k n g s ks l,.mk k' n' g' s' ks' l'=>by
  simp only [Pob.eqb,Bool.and_eq_true,decide_eq_true_eq,Pob.mk.injEq,eqbs_iff l l']
theorem eqbs_iff : ∀ a b : List Pob,eqbs a b = true ↔ a = b
 | [],[]=>by simp [eqbs]
 | [],b :: l'=>by simp [eqbs]
 | a :: l,[]=>by simp [eqbs]
 | a :: l,b :: l'=>by simp only [eqbs,Bool.and_eq_true,Pob.eqb_iff a b,eqbs_iff l l',List.cons.injEq]
end
instance pobDec : DecidableEq Pob:=fun a b=>decidable_of_iff (a.eqb b = true) (Pob.eqb_iff a b)
theorem Itm_eq (a b : Itm) : a = b ↔ a.num = b.num ∧ a.gen = b.gen ∧ a.obj = b.obj:=by
 cases a; cases b; simp
instance itmDec : DecidableEq Itm:=fun a b=>decidable_of_iff (a.num = b.num ∧ a.gen = b.gen ∧ a.obj = b.obj) (Itm_eq a b).symm
attribute [go_sem] Pob.eta Pob.kind_mk Pob.num_mk Pob.gen_mk Pob.str_mk Pob.keys_mk Pob.kids_mk Pob.cells_eq objsAV_length strsAV_nil intsAV_nil Itm.cells itemsAV_ok itemsAV_len8 itemsAV_nil
end Aw

namespace Aw
open Go
section
variable {P : Program} {ds : List (Option Tmp)} {σ : St} {o : Oper} {K : St → Prop} {Kp : AV → St → Prop} {ob ob' : Prop}
def nilBool (op : BinOp) (b : Bool) : Bool :=
 match op with
 | .eql=>b
 | _=>!b
def isNilOp (op : BinOp) : Bool :=
 match op with
 | .eql=>true
 | .neq=>true
 | _=>false
end
theorem splice0_nil {α : Type} (l : List α) : splice l 0 [] = l:=by simp [splice]
theorem splice0_cons {α : Type} (a b : α) (l new : List α) : splice (a :: l) 0 (b :: new) = b :: splice l 0 new:=by simp [splice]
theorem spliceS {α : Type} (a : α) (l new : List α) (o : Nat) : splice (a :: l) (o + 1) new = a :: splice l o new:=by
 simp [splice,show o + 1 + new.length = (o + new.length) + 1 from by omega]
attribute [go_sem] List.all_cons List.all_nil List.drop_succ_cons List.headD_cons nilBool isNilOp splice0_nil splice0_cons spliceS
end Aw

namespace Aw
open Go
section
variable {P : Program} {ds : List (Option Tmp)} {σ : St} {o : Oper} {K : St → Prop} {Kp : AV → St → Prop} {ob ob' : Prop} {f : FuncId} {ys xs : List AV}
theorem awGuard.callM {c : Bool} {y z : AV} (hg : o.guard = none) (h : acall σ o.op = some (ob,f,ys)) (hx : mapO (shr true (frzs σ.hp (ys.flatMap (rids σ.hp 9))) 9) ys = some (ob',xs)) (hd : dstOk σ.n o.dst = true) (hob : ob) (hob' : ob')
  (hc : FnP P σ.gl f xs fun r=>r = if c = true then .ret y else .panic z) (hK : c = true → K (St.put ⟨σ.n,σ.env,frzs σ.hp (ys.flatMap (rids σ.hp 9)),σ.nx,σ.gl,σ.np,σ.df⟩ o.dst y))
  (hKp : c = false → Kp z ⟨σ.n,σ.env,frzs σ.hp (ys.flatMap (rids σ.hp 9)),σ.nx,σ.gl,σ.np,σ.df⟩) : awGuard P ds o σ K Kp:=by
 refine awGuard.call hg h hx hd hob hob' hc (fun w hw=>?_) (fun w hw=>?_)
 ·cases c with
  | true=>rw [if_pos rfl] at hw; cases hw
  | false=>rw [if_neg (by simp)] at hw; injection hw with hw; subst hw; exact hKp rfl
 ·cases c with
  | true=>rw [if_pos rfl] at hw; injection hw with hw; subst hw; exact hK rfl
  | false=>rw [if_neg (by simp)] at hw; cases hw
end
end Aw
