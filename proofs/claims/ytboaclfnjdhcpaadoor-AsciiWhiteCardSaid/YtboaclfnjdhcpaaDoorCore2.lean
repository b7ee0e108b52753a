/- Rules of a calculus of walks: no condition of its own. -/
import Derived.Test.YtboaclfnjdhcpaaDoorCore1
namespace Aw
open Go

structure KF (m m' : Mem) : Prop where
 F : ∀ b o,m.F b o → m'.F b o
 cell : ∀ b o,m.F b o → m'.w.cell? ⟨b,o,none⟩ = m.w.cell? ⟨b,o,none⟩
structure KP (m m' : Mem) : Prop where
 Pr : ∀ b,m.Pr b → m'.Pr b
 block : ∀ b,m.Pr b → m'.w.heap[b]? = m.w.heap[b]?

mutual
theorem Rep.monoK {m m' : Mem} (h : KF m m') : ∀ (k : Nat) (_ : k ≤ 1 → KP m m') (_ : 1 ≤ k) (x : AV) (v : Value),Rep m k x v → Rep m' k x v
 | _,_,_,.bool _,_,hx=>by simpa only [Rep] using hx
 | _,_,_,.int _ _,_,hx=>by simpa only [Rep] using hx
 | _,_,_,.str _,_,hx=>by simpa only [Rep] using hx
 | k,hp,hk,.agg cs,v,hx=>by
  simp only [Rep] at hx ⊢
  obtain ⟨vs,rfl,hl⟩:=hx
  exact ⟨vs,rfl,RepL.monoK h k hp hk cs _ hl⟩
 | k,hp,hk,.tup cs,v,hx=>by
  simp only [Rep] at hx ⊢
  obtain ⟨vs,rfl,hl⟩:=hx
  exact ⟨vs,rfl,RepL.monoK h k hp hk cs _ hl⟩
 | _,_,_,.sl es,v,hx=>by
  simp only [Rep] at hx ⊢
  rcases hx with hx | ⟨b,o,c,sz,rfl,hc,he⟩
  ·exact .inl hx
  ·exact .inr ⟨b,o,c,sz,rfl,hc,RepE.monoK h es b o sz he⟩
 | k,_,hk,.row id off len,v,hx=>by
  simp only [Rep] at hx
  omega
 | k,_,hk,.ptr id off,v,hx=>by
  simp only [Rep] at hx
  omega
 | k,_,hk,.rptr id idx c,v,hx=>by
  simp only [Rep] at hx
  omega
 | _,_,_,.cptr cs,v,hx=>by
  simp only [Rep] at hx ⊢
  obtain ⟨b,o,rfl,hc⟩:=hx
  exact ⟨b,o,rfl,RepC.monoK h cs b o hc⟩
 | k,hp,_,.tptr cs,v,hx=>by
  simp only [Rep] at hx ⊢
  obtain ⟨hk,b,o,rfl,hc⟩:=hx
  exact ⟨hk,b,o,rfl,RepP.monoK h (hp hk) cs b o hc⟩
 | k,hp,hk,.clos f caps,v,hx=>by
  simp only [Rep] at hx ⊢
  obtain ⟨vs,rfl,hl⟩:=hx
  exact ⟨vs,rfl,RepL.monoK h k hp hk caps _ hl⟩
 | k,hp,hk,.iface t x,v,hx=>by
  simp only [Rep] at hx ⊢
  obtain ⟨u,rfl,hu⟩:=hx
  exact ⟨u,rfl,Rep.monoK h k hp hk x u hu⟩
 | k,hp,hk,.ite c x y,v,hx=>by
  simp only [Rep] at hx ⊢
  exact ⟨fun hc=>Rep.monoK h k hp hk x v (hx.1 hc),fun hc=>Rep.monoK h k hp hk y v (hx.2 hc)⟩
 | k,hp,hk,.opt c x,v,hx=>by
  simp only [Rep] at hx ⊢
  exact ⟨fun hc=>Rep.monoK h k hp hk x v (hx.1 hc),hx.2⟩
 | k,_,hk,.map id,v,hx=>by
  simp only [Rep] at hx
  omega
 | k,hp,_,.cmap ks vs,v,hx=>by
  simp only [Rep] at hx ⊢
  obtain ⟨hk1,b,kv,vv,es,clock,rfl,hb,hh,he,hk,hv⟩:=hx
  have:=hp hk1
  exact ⟨hk1,b,kv,vv,es,clock,rfl,this.Pr b hb,(this.block b hb).trans hh,he,RepL.monoK h 1 (fun _=>this) (Nat.le_refl 1) ks _ hk,RepL.monoK h 1 (fun _=>this) (Nat.le_refl 1) vs _ hv⟩
 | _,_,_,.raw _,_,hx=>by simpa only [Rep] using hx
 | _,_,_,.top,_,_=>by simp only [Rep]
theorem RepL.monoK {m m' : Mem} (h : KF m m') : ∀ (k : Nat) (_ : k ≤ 1 → KP m m') (_ : 1 ≤ k) (xs : List AV) (vs : List Value),RepL m k xs vs → RepL m' k xs vs
 | _,_,_,[],_,hx=>by simpa only [RepL] using hx
 | k,hp,hk,x :: xs,vs,hx=>by
  simp only [RepL] at hx ⊢
  obtain ⟨v,rest,rfl,hv,hr⟩:=hx
  exact ⟨v,rest,rfl,Rep.monoK h k hp hk x v hv,RepL.monoK h k hp hk xs rest hr⟩
theorem RepC.monoK {m m' : Mem} (h : KF m m') : ∀ (xs : List AV) (b o : Nat),RepC m xs b o → RepC m' xs b o
 | [],_,_,_=>by simp only [RepC]
 | x :: xs,b,o,hx=>by
  simp only [RepC] at hx ⊢
  obtain ⟨hf,⟨v,hv,hr⟩,hrest⟩:=hx
  exact ⟨h.F b o hf,⟨v,(h.cell b o hf).trans hv,Rep.monoK h 2 (fun h=>absurd h (by omega)) (by omega) x v hr⟩,RepC.monoK h xs b (o + 1) hrest⟩
theorem RepP.monoK {m m' : Mem} (h : KF m m') (hp : KP m m') : ∀ (xs : List AV) (b o : Nat),RepP m xs b o → RepP m' xs b o
 | [],_,_,_=>by simp only [RepP]
 | x :: xs,b,o,hx=>by
  simp only [RepP] at hx ⊢
  obtain ⟨hf,⟨v,hv,hr⟩,hrest⟩:=hx
  exact ⟨hp.Pr b hf,⟨v,(cell?_of_block (hp.block b hf)).trans hv,Rep.monoK h 1 (fun _=>hp) (by omega) x v hr⟩,RepP.monoK h hp xs b (o + 1) hrest⟩
theorem RepE.monoK {m m' : Mem} (h : KF m m') : ∀ (es : List (List AV)) (b o sz : Nat),RepE m es b o sz → RepE m' es b o sz
 | [],_,_,_,_=>by simp only [RepE]
 | e :: es,b,o,sz,hx=>by
  simp only [RepE] at hx ⊢
  obtain ⟨hl,hc,hr⟩:=hx
  exact ⟨hl,RepC.monoK h e b o hc,RepE.monoK h es b (o + sz) sz hr⟩
end

/-! ### what is handed over -/
def mapO (f : AV → Option (Prop × AV)) : List AV → Option (Prop × List AV)
 | []=>some (True,[])
 | x :: xs=>match f x,mapO f xs with
  | some p,some q=>some (p.1 ∧ q.1,p.2 :: q.2)
  | _,_=>none

def shr (tp : Bool) (hp : List (Nat × ABlk)) : Nat → AV → Option (Prop × AV)
 | 0,_=>none
 | n + 1,x=>match x with
  | .agg cs=>match mapO (shr tp hp n) cs with
   | some q=>some (q.1,.agg q.2)
   | none=>none
  | .tup cs=>match mapO (shr tp hp n) cs with
   | some q=>some (q.1,.tup q.2)
   | none=>none
  | .clos f cs=>match mapO (shr tp hp n) cs with
   | some q=>some (q.1,.clos f q.2)
   | none=>none
  | .iface t y=>match shr tp hp n y with
   | some q=>some (q.1,.iface t q.2)
   | none=>none
  | .opt c y=>match shr tp hp n y with
   | some q=>some (c = true ∧ q.1,q.2)
   | none=>none
  | .ite c y z=>match shr tp hp n y,shr tp hp n z with
   | some q,some r=>some (q.1 ∧ r.1,.ite c q.2 r.2)
   | _,_=>none
  | .ptr id off=>if tp then match get hp id with
    | some (.cells cs)=>match mapO (shr tp hp n) cs with
     | some q=>some (q.1,.tptr (q.2.drop off))
     | none=>none
    | _=>none
   else none
  | .tptr cs=>if tp then some (True,.tptr cs) else none
  | .cmap ks vs=>if tp then some (True,.cmap ks vs) else none
  | .map id=>if tp then match get hp id with
    | some (.amap ks vs)=>some (True,.cmap ks vs)
    | _=>none
   else none
  | .rptr id idx c=>match get hp id with
   | some (.row _ es false)=>some (idx < es.length,.cptr ((es.getD idx []).drop c))
   | _=>none
  | .top=>some (True,.top)
  | y=>clo hp y

def rids (hp : List (Nat × ABlk)) : Nat → AV → List Nat
 | 0,_=>[]
 | n + 1,x=>match x with
  | .agg cs=>cs.flatMap (rids hp n)
  | .tup cs=>cs.flatMap (rids hp n)
  | .clos _ cs=>cs.flatMap (rids hp n)
  | .iface _ y=>rids hp n y
  | .opt _ y=>rids hp n y
  | .ite _ y z=>rids hp n y ++ rids hp n z
  | .ptr id _=>match get hp id with
   | some (.cells cs)=>cs.flatMap (rids hp n)
   | _=>[]
  | .row id _ _=>[id]
  | .rptr id _ _=>[id]
  | _=>[]

theorem mapO_sound {f : AV → Option (Prop × AV)} {m m' : Mem} {k : Nat} (hf : ∀ x y v (ob : Prop),f x = some (ob,y) → ob → Rep m 0 x v → Rep m' k y v) :
  ∀ {xs ys : List AV} {vs : List Value} {ob : Prop},mapO f xs = some (ob,ys) → ob → RepL m 0 xs vs → RepL m' k ys vs
 | [],ys,vs,ob,h,_,hv=>by
  simp only [mapO,Option.some.injEq,Prod.mk.injEq] at h
  obtain ⟨_,rfl⟩:=h
  simp only [RepL] at hv ⊢
  exact hv
 | x :: xs,ys,vs,ob,h,hob,hv=>by
  simp only [mapO] at h
  split at h
  case h_2=>cases h
  rename_i p q hp hq
  simp only [Option.some.injEq,Prod.mk.injEq] at h
  obtain ⟨rfl,rfl⟩:=h
  simp only [RepL] at hv ⊢
  obtain ⟨v,rest,rfl,hx,hr⟩:=hv
  exact ⟨v,rest,rfl,hf _ _ _ _ hp hob.1 hx,mapO_sound hf hq hob.2 hr⟩

theorem RepX.zero_of_list {m : Mem} {kk b : Nat} {c : Array Value} {T : TypeId} {fr : Nat × Nat} (hb : m.w.heap[b]? = some (.cells c T fr)) {cs : List AV} (hl : RepL m kk cs c.toList) : RepX m kk cs b 0 :=
 RepX.of_list hb (by rw [List.drop_zero,← hl.length,List.take_length]; exact hl)

theorem shr_sound {m m' : Mem} {hp : List (Nat × ABlk)} {nx : Nat} (hH : SimH m hp nx) (tp : Bool) (hF : KF m m') (hw : m'.w = m.w) (hPr : tp = true → ∀ b,b < m.w.heap.size → m'.Pr b) :
  ∀ (n : Nat) (x y : AV) (v : Value) (ob : Prop),shr tp hp n x = some (ob,y) → ob → Rep m 0 x v → Rep m' (if tp then 1 else 2) y v
 | 0,_,_,_,_,h,_,_=>by simp [shr] at h
 | n + 1,x,y,v,ob,h,hob,hv=>by
  have ih:=shr_sound hH tp hF hw hPr n
  have hk2 : 1 ≤ (if tp then 1 else 2):=by split <;> omega
  have hKP : tp = true → KP m m':=fun ht=>⟨fun b hb=>hPr ht b (hH.Pold b hb),fun b _=>by rw [hw]⟩
  have hclo : ∀ z,clo hp x = some (ob,z) → Rep m' (if tp then 1 else 2) z v:=by
   intro z hz
   have h2:=(clo_sound hH hz hob hv).1
   have h3:=Rep.monoK hF 2 (fun h=>absurd h (by omega)) (by omega) _ _ h2
   exact Rep.down (by split <;> omega) _ _ h3
  have hmap : ∀ {xs : List AV} {ys : List AV} {vs : List Value} {q : Prop},mapO (shr tp hp n) xs = some (q,ys) → q → RepL m 0 xs vs → RepL m' (if tp then 1 else 2) ys vs :=
   fun h hq hl=>mapO_sound (fun x y v ob h hob hv=>ih x y v ob h hob hv) h hq hl
  cases x
  case agg cs =>
   simp only [shr] at h
   split at h
   case h_2=>cases h
   rename_i q hq
   simp only [Option.some.injEq,Prod.mk.injEq] at h
   obtain ⟨rfl,rfl⟩:=h
   simp only [Rep] at hv ⊢
   obtain ⟨vs,rfl,hl⟩:=hv
   exact ⟨vs,rfl,hmap hq hob hl⟩
  case tup cs =>
   simp only [shr] at h
   split at h
   case h_2=>cases h
   rename_i q hq
   simp only [Option.some.injEq,Prod.mk.injEq] at h
   obtain ⟨rfl,rfl⟩:=h
   simp only [Rep] at hv ⊢
   obtain ⟨vs,rfl,hl⟩:=hv
   exact ⟨vs,rfl,hmap hq hob hl⟩
  case clos f cs =>
   simp only [shr] at h
   split at h
   case h_2=>cases h
   rename_i q hq
   simp only [Option.some.injEq,Prod.mk.injEq] at h
   obtain ⟨rfl,rfl⟩:=h
   simp only [Rep] at hv ⊢
   obtain ⟨vs,rfl,hl⟩:=hv
   exact ⟨vs,rfl,hmap hq hob hl⟩
  case iface t z =>
   simp only [shr] at h
   split at h
   case h_2=>cases h
   rename_i q hq
   simp only [Option.some.injEq,Prod.mk.injEq] at h
   obtain ⟨rfl,rfl⟩:=h
   simp only [Rep] at hv ⊢
   obtain ⟨u,rfl,hu⟩:=hv
   exact ⟨u,rfl,ih _ _ _ _ hq hob hu⟩
  case opt c z =>
   simp only [shr] at h
   split at h
   case h_2=>cases h
   rename_i q hq
   simp only [Option.some.injEq,Prod.mk.injEq] at h
   obtain ⟨rfl,rfl⟩:=h
   simp only [Rep] at hv
   exact ih _ _ _ _ hq hob.2 (hv.1 hob.1)
  case ite c z z' =>
   simp only [shr] at h
   split at h
   case h_2=>cases h
   rename_i q r hq hr
   simp only [Option.some.injEq,Prod.mk.injEq] at h
   obtain ⟨rfl,rfl⟩:=h
   simp only [Rep] at hv ⊢
   exact ⟨fun hc=>ih _ _ _ _ hq hob.1 (hv.1 hc),fun hc=>ih _ _ _ _ hr hob.2 (hv.2 hc)⟩
  case ptr id off =>
   simp only [shr] at h
   split at h
   case isFalse=>cases h
   rename_i ht
   split at h
   case h_2=>cases h
   rename_i cs hg
   split at h
   case h_2=>cases h
   rename_i q hq
   simp only [Option.some.injEq,Prod.mk.injEq] at h
   obtain ⟨rfl,rfl⟩:=h
   simp only [Rep] at hv ⊢
   obtain ⟨_,ri,hρ,rfl⟩:=hv
   obtain ⟨ri',hρ',hb⟩:=hH.blk id _ hg
   rw [hρ] at hρ'
   injection hρ' with hρ'
   subst hρ'
   obtain ⟨_,_,_,c,T,hc,hl⟩:=hb
   subst ht
   have hX:=RepX.zero_of_list (m:=m') (by rw [hw]; exact hc) (hmap hq hob hl)
   have:=hX.drop off
   rw [Nat.zero_add] at this
   exact ⟨Nat.le_refl 1,ri.b,off,rfl,RepP.of this (hPr rfl _ (lt_of_getElem? hc))⟩
  case tptr cs =>
   simp only [shr] at h
   split at h
   case isFalse=>cases h
   rename_i ht
   simp only [Option.some.injEq,Prod.mk.injEq] at h
   obtain ⟨rfl,rfl⟩:=h
   simp only [Rep] at hv ⊢
   obtain ⟨_,b,o,rfl,hc⟩:=hv
   rw [ht]
   exact ⟨Nat.le_refl 1,b,o,rfl,RepP.monoK hF (hKP ht) _ _ _ hc⟩
  case cmap ks vs =>
   simp only [shr] at h
   split at h
   case isFalse=>cases h
   rename_i ht
   simp only [Option.some.injEq,Prod.mk.injEq] at h
   obtain ⟨rfl,rfl⟩:=h
   simp only [Rep] at hv ⊢
   obtain ⟨_,b,kv,vv,es,clock,rfl,hb,hh,he,hk,hv⟩:=hv
   rw [ht]
   exact ⟨Nat.le_refl 1,b,kv,vv,es,clock,rfl,(hKP ht).Pr b hb,by rw [hw]; exact hh,he,RepL.monoK hF 1 (fun _=>hKP ht) (Nat.le_refl 1) _ _ hk,RepL.monoK hF 1 (fun _=>hKP ht) (Nat.le_refl 1) _ _ hv⟩
  case map id =>
   simp only [shr] at h
   split at h
   case isFalse=>cases h
   rename_i ht
   split at h
   case h_2=>cases h
   rename_i ks vs hg
   simp only [Option.some.injEq,Prod.mk.injEq] at h
   obtain ⟨rfl,rfl⟩:=h
   simp only [Rep] at hv ⊢
   obtain ⟨_,ri,hρ,rfl⟩:=hv
   obtain ⟨ri',hρ',hb⟩:=hH.blk id _ hg
   rw [hρ] at hρ'
   injection hρ' with hρ'
   subst hρ'
   obtain ⟨_,_,_,kv,vv,es,clock,hh,he,hk,hv⟩:=hb
   rw [ht]
   exact ⟨Nat.le_refl 1,ri.b,kv,vv,es,clock,rfl,hPr ht _ (lt_of_getElem? hh),by rw [hw]; exact hh,he,RepL.monoK hF 1 (fun _=>hKP ht) (Nat.le_refl 1) _ _ hk,RepL.monoK hF 1 (fun _=>hKP ht) (Nat.le_refl 1) _ _ hv⟩
  case rptr id idx c =>
   simp only [shr] at h
   split at h
   case h_2=>cases h
   rename_i sz es hg
   simp only [Option.some.injEq,Prod.mk.injEq] at h
   obtain ⟨rfl,rfl⟩:=h
   simp only [Rep] at hv ⊢
   obtain ⟨_,ri,hρ,rfl⟩:=hv
   obtain ⟨ri',hρ',hb⟩:=hH.blk id _ hg
   rw [hρ] at hρ'
   injection hρ' with hρ'
   subst hρ'
   rcases hb with ⟨_,he⟩ | ⟨_,_,_,_,_,hif⟩
   ·exact (mem_ne_nil hob he).elim
   ·rw [if_neg (by simp)] at hif
    have hat:=(hif.1.at idx hob).2
    have he : es.getD idx [] = es[idx]:=by simp [List.getD,List.getElem?_eq_getElem hob]
    rw [he]
    exact ⟨ri.b,_,rfl,RepC.monoK hF _ _ _ (hat.drop c)⟩
  case top =>
   simp only [shr,Option.some.injEq,Prod.mk.injEq] at h
   obtain ⟨_,rfl⟩:=h
   simp only [Rep]
  all_goals exact hclo _ (by simpa only [shr] using h)

end Aw

namespace Aw
open Go

inductive AE where
 | ret (x : AV)
 | panic (x : AV)

def endOk (m : Mem) (r : AE) (e : Ending) : Prop :=
 match r with
 | .ret x=>∃ v,e = .returned v ∧ Rep m 2 x v
 | .panic x=>∃ v,e = .panicked [{ v,recovered:=false }] ∧ Rep m 2 x v

structure Start (m : Mem) (gl : List (Nat × AV)) : Prop where
 Fold : ∀ b o,m.F b o → b < m.w.heap.size
 Pold : ∀ b,m.Pr b → b < m.w.heap.size
 gl : ∀ g x,get gl g = some x → Rep m 1 x (.pointer (some ⟨g,0,none⟩))
 np : m.np = 0
 ρ : ∀ id,m.ρ id = none

def enters (P : Program) (f : FuncId) : Prop:=∀ args w,(callFunc f args).run P w = .ok (.enter f args) w

structure FnP (P : Program) (gl : List (Nat × AV)) (f : FuncId) (xs : List AV) (R : AE → Prop) : Prop where
 enters : enters P f
 calls : ∀ m vs,Start m gl → RepL m 1 xs vs → Calls P f vs.toArray m.w fun e w'=>∃ m' r,m'.w = w' ∧ m.le m' ∧ (∀ b o,m'.F b o → b < m'.w.heap.size) ∧ endOk m' r e ∧ R r

theorem FnP.mono {P : Program} {gl : List (Nat × AV)} {f : FuncId} {xs : List AV} {R R' : AE → Prop} (h : FnP P gl f xs R) (hr : ∀ r,R r → R' r) : FnP P gl f xs R' :=
 ⟨h.enters,fun m vs hm hv=>(h.calls m vs hm hv).mono fun _ _ ⟨m',r,h1,h2,h3,h4,h5⟩=>⟨m',r,h1,h2,h3,h4,hr r h5⟩⟩

theorem enters_of {P : Program} {f : FuncId} {fn : Func} {c : Code} (hf : P.funcs[f]? = some fn) (hname : (fn.name == "runtime.NumGoroutine") = false) (hb : fn.body = some c) : enters P f := by
 intro args w
 have h1 : fn.name ≠ "runtime.NumGoroutine" := by simpa using hname
 simp [callFunc,hf,h1,hb]

/-! ### within -/
def argEnv : Nat → List AV → List (Nat × AV)
 | _,[]=>[]
 | i,x :: xs=>(i,x) :: argEnv (i + 1) xs
theorem get_argEnv : ∀ {i : Nat} {xs : List AV} {t : Nat} {x : AV},get (argEnv i xs) t = some x → i ≤ t ∧ xs[t - i]? = some x
 | _,[],_,_,h=>by simp [argEnv,get] at h
 | i,y :: xs,t,x,h=>by
  simp only [argEnv,get] at h
  split at h
  ·rename_i e
   subst e
   injection h with h
   subst h
   simp
  ·obtain ⟨h1,h2⟩:=get_argEnv h
   refine ⟨by omega,?_⟩
   rw [show t - i = (t - (i + 1)) + 1 from by omega]
   simpa using h2

def ares (P : Program) (σ : St) : List ResultVar → Option (Prop × List AV)
 | []=>some (True,[])
 | r :: rs=>match ares P σ rs with
  | none=>none
  | some q=>match r with
   | .tmp t=>match evE σ (.tmp t) with
    | some x=>some (x.1 ∧ q.1,x.2 :: q.2)
    | none=>none
   | .cell a t=>match get σ.env a with
    | some (.ptr id off)=>match aload P σ.hp t (.ptr id off) with
     | some p=>some (p.1 ∧ q.1,p.2 :: q.2)
     | none=>none
    | _=>none
def aresult (P : Program) (σ : St) (rs : List ResultVar) : Option (Prop × AV) :=
 match ares P σ rs with
 | none=>none
 | some q=>match q.2 with
  | [x]=>some (q.1,x)
  | xs=>some (q.1,.tup xs)

theorem ares_sound {P : Program} {m : Mem} {a : Act} {σ : St} (hS : Sim m a σ) : ∀ {rs : List ResultVar} {ob : Prop} {xs : List AV},ares P σ rs = some (ob,xs) → ob →
  ∃ vs : List Value,(rs.mapM (m:=Sem) fun r=>match r with
   | .tmp t=>pure (a.tmps.getD t undef)
   | .cell b t=>do loadVar t (← asAddr (a.tmps.getD b undef))).run P m.w = .ok vs m.w ∧ RepL m 0 xs vs
 | [],ob,xs,h,_=>by
  simp only [ares,Option.some.injEq,Prod.mk.injEq] at h
  obtain ⟨_,rfl⟩:=h
  exact ⟨[],by simp,by simp [RepL]⟩
 | r :: rs,ob,xs,h,hob=>by
  simp only [ares] at h
  split at h
  ·cases h
  rename_i q hq
  split at h
  ·rename_i t
   split at h
   case h_2=>cases h
   rename_i x hx
   simp only [Option.some.injEq,Prod.mk.injEq] at h
   obtain ⟨rfl,rfl⟩:=h
   obtain ⟨vs,hrun,hl⟩:=ares_sound hS hq hob.2
   refine ⟨a.tmps.getD t undef :: vs,?_,?_⟩
   ·simp only [List.mapM_cons,pure_bind]
    rw [run_bind hrun]
    rfl
   ·simp only [RepL]
    exact ⟨_,_,rfl,evE_sound hS hx hob.1,hl⟩
  ·rename_i b t
   split at h
   case h_2=>cases h
   rename_i id off hx
   split at h
   case h_2=>cases h
   rename_i p hp
   simp only [Option.some.injEq,Prod.mk.injEq] at h
   obtain ⟨rfl,rfl⟩:=h
   obtain ⟨vs,hrun,hl⟩:=ares_sound hS hq hob.2
   have hv:=(hS.env b _ hx).2
   obtain ⟨u,hu,hr⟩:=aload_sound (P:=P) hS.h hv hp hob.1
   simp only [Rep] at hv
   obtain ⟨_,ri,hρ,hval⟩:=hv
   rw [hval] at hu
   unfold Instr.loadAt Instr.sureAddr at hu
   rw [run_bind (yes_ok P m.w _)] at hu
   refine ⟨u :: vs,?_,?_⟩
   ·simp only [List.mapM_cons]
    rw [run_bind (a:=u) (w':=m.w)]
    ·rw [run_bind hrun]
     rfl
    ·rw [hval,run_bind (a:=_) (w':=m.w)]
     ·exact hu
     ·rfl
   ·simp only [RepL]
    exact ⟨_,_,rfl,hr,hl⟩
theorem aresult_sound {P : Program} {m : Mem} {a : Act} {σ : St} (hS : Sim m a σ) {fn : Func} {ob : Prop} {x : AV} (h : aresult P σ fn.results.toList = some (ob,x)) (hob : ob) :
  ∃ v,(results fn a.tmps).run P m.w = .ok v m.w ∧ Rep m 0 x v:=by
 unfold aresult at h
 split at h
 ·cases h
 rename_i q hq
 have hob' : q.1:=by
  split at h <;> (simp only [Option.some.injEq,Prod.mk.injEq] at h; rw [h.1]; exact hob)
 obtain ⟨vs,hrun,hl⟩:=ares_sound hS hq hob'
 have hres : (results fn a.tmps).run P m.w = .ok (if h : vs.toArray.size = 1 then vs.toArray[0] else .tuple vs.toArray) m.w:=by
  unfold results
  rw [Array.mapM_eq_mapM_toList,bind_map_left]
  exact (run_bind hrun).trans rfl
 refine ⟨_,hres,?_⟩
 split at h
 ·rename_i y hy
  simp only [Option.some.injEq,Prod.mk.injEq] at h
  obtain ⟨_,rfl⟩:=h
  rw [hy] at hl
  simp only [RepL] at hl
  obtain ⟨v,rest,rfl,hv,rfl⟩:=hl
  simpa using hv
 ·rename_i hne
  simp only [Option.some.injEq,Prod.mk.injEq] at h
  obtain ⟨_,rfl⟩:=h
  have hlen:=hl.length
  have h1 : vs.length ≠ 1:=by
   intro e
   rw [e] at hlen
   cases hq2 : q.2 with
   | nil=>rw [hq2] at hlen; simp at hlen
   | cons y ys =>
    rw [hq2] at hlen
    cases ys with
    | nil=>exact hne y hq2
    | cons _ _=>simp at hlen
  rw [dif_neg (by simpa using h1)]
  simp only [Rep]
  exact ⟨_,rfl,by simpa using hl⟩

def closeR (σ : St) (x : AV) : Option (Prop × AV):=shr false (frzs σ.hp (rids σ.hp 9 x)) 9 x
theorem closeR_sound {m : Mem} {a : Act} {σ : St} (hS : Sim m a σ) {x y : AV} {ob : Prop} {v : Value} (h : closeR σ x = some (ob,y)) (hob : ob) (hv : Rep m 0 x v) :
  ∃ m' : Mem,m'.w = m.w ∧ m.le m' ∧ (∀ b o,m'.F b o → b < m'.w.heap.size) ∧ Rep m' 2 y v:=by
 obtain ⟨m',h1,_,h3,h4,h5⟩:=frzs_sound (rids σ.hp 9 x) hS.h
 exact ⟨m',h1,h3,h5.Fold,shr_sound h5 false ⟨fun _ _ h=>h,fun _ _ _=>rfl⟩ rfl (fun h=>by cases h) 9 x y v ob h hob (Rep.mono h4 0 _ _ hv)⟩

def finRet (P : Program) (rs : List ResultVar) (R : AE → Prop) (σ : St) : Prop :=
 match aresult P σ rs with
 | none=>False
 | some p=>(σ.df = [] ∧ p.1) ∧ match closeR σ p.2 with
  | none=>False
  | some q=>q.1 ∧ R (.ret q.2)
def finPanic (R : AE → Prop) (x : AV) (σ : St) : Prop :=
 match closeR σ x with
 | none=>False
 | some q=>(σ.df = [] ∧ q.1) ∧ R (.panic q.2)
def fin (P : Program) (rs : List ResultVar) (R : AE → Prop) (x : AX) (σ : St) : Prop :=
 match x with
 | .normal=>finRet P rs R σ
 | .ret=>finRet P rs R σ
 | .panic x=>finPanic R x σ
 | .exit _=>False

theorem finRet_sound {P : Program} {m0 m : Mem} {a : Act} {σ : St} (hS : Sim m a σ) (hle : m0.le m) {fn : Func} {R : AE → Prop} (h : finRet P fn.results.toList R σ) :
  a.defers = [] ∧ ∃ v,(results fn a.tmps).run P m.w = .ok v m.w ∧ ∃ m' r,m'.w = m.w ∧ m0.le m' ∧ (∀ b o,m'.F b o → b < m'.w.heap.size) ∧ endOk m' r (.returned v) ∧ R r:=by
 unfold finRet at h
 split at h
 ·exact h.elim
 rename_i p hp
 obtain ⟨hob,h⟩:=h
 split at h
 ·exact h.elim
 rename_i q hq
 obtain ⟨v,hrun,hrep⟩:=aresult_sound hS hp hob.2
 obtain ⟨m',h1,h2,h3,h4⟩:=closeR_sound hS hq h.1 hrep
 have hd:=hS.defers
 rw [hob.1] at hd
 exact ⟨hd,v,hrun,m',.ret q.2,h1,hle.trans h2,h3,⟨v,rfl,h4⟩,h.2⟩

theorem FnP.intro {P : Program} {gl : List (Nat × AV)} {f : FuncId} {fn : Func} {c : Code} {xs : List AV} {R : AE → Prop} (hf : P.funcs[f]? = some fn) (hname : (fn.name == "runtime.NumGoroutine") = false)
  (hb : fn.body = some c) (hn : xs.length ≤ fn.ntmps) (h : AW P c ⟨fn.ntmps,argEnv 0 xs,[],0,gl,0,[]⟩ (fin P fn.results.toList R)) : FnP P gl f xs R:=by
 refine ⟨enters_of hf hname hb,fun m vs hm hv=>?_⟩
 have hlen:=hv.length
 refine calls_of_wp hf hb ?_
 have hS : Sim m { tmps:=vs.toArray ++ Array.replicate (fn.ntmps - vs.toArray.size) undef,defers:=[] } ⟨fn.ntmps,argEnv 0 xs,[],0,gl,0,[]⟩:=by
  refine ⟨⟨fun id x h=>by simp [get] at h,fun id id' x x' _ _ h=>by simp [get] at h,fun id _=>hm.ρ id,hm.Fold,hm.Pold⟩,?_,rfl,?_,hm.gl,hm.np⟩
  ·simp only [Array.size_append,List.size_toArray,Array.size_replicate]
   omega
  ·intro t x ht
   obtain ⟨_,hx⟩:=get_argEnv ht
   have hlt : t < xs.length:=by
    rcases Nat.lt_or_ge t xs.length with h | h
    ·exact h
    ·rw [List.getElem?_eq_none (by omega)] at hx; cases hx
   refine ⟨Nat.lt_of_lt_of_le hlt hn,?_⟩
   obtain ⟨v,hv1,hv2⟩:=hv.at t hlt
   have hx' : xs[t] = x:=by
    rw [Nat.sub_zero,List.getElem?_eq_getElem hlt] at hx
    exact Option.some.inj hx
   have : (vs.toArray ++ Array.replicate (fn.ntmps - vs.toArray.size) undef).getD t undef = v:=by
    rw [Array.getD_eq_getD_getElem?,Array.getElem?_append_left (by simp; omega)]
    simp [hv1]
   rw [this,← hx']
   exact Rep.down (Nat.zero_le 1) _ _ hv2
 refine wp_mono (h m _ hS) ?_
 rintro e a' w' ⟨m',σ',ax,rfl,hle,hS',hex,hq⟩
 cases ax with
 | normal =>
  simp only [exOk] at hex
  subst hex
  exact finRet_sound hS' hle hq
 | ret =>
  simp only [exOk] at hex
  subst hex
  exact finRet_sound hS' hle hq
 | exit id=>exact hq.elim
 | panic x =>
  simp only [exOk] at hex
  obtain ⟨v,rfl,hv⟩:=hex
  have hd:=hS'.defers
  simp only [fin] at hq
  unfold finPanic at hq
  split at hq
  ·exact hq.elim
  rename_i q hq'
  rw [hq.1.1] at hd
  refine ⟨hd,?_⟩
  obtain ⟨m2,h1,h2,h3,h4⟩:=closeR_sound hS' hq' hq.1.2 hv
  exact ⟨m2,.panic q.2,h1,hle.trans h2,h3,⟨v,rfl,h4⟩,hq.2⟩

/-! ### from without -/
def evEs (σ : St) : List Operand → Option (Prop × List AV)
 | []=>some (True,[])
 | x :: xs=>match evE σ x,evEs σ xs with
  | some p,some q=>some (p.1 ∧ q.1,p.2 :: q.2)
  | _,_=>none
theorem evEs_sound {m : Mem} {a : Act} {σ : St} (hS : Sim m a σ) : ∀ {l : List Operand} {ob : Prop} {ys : List AV},evEs σ l = some (ob,ys) → ob → RepL m 0 ys (l.map a.eval)
 | [],ob,ys,h,_=>by
  simp only [evEs,Option.some.injEq,Prod.mk.injEq] at h
  obtain ⟨_,rfl⟩:=h
  simp [RepL]
 | x :: l,ob,ys,h,hob=>by
  simp only [evEs] at h
  split at h
  case h_2=>cases h
  rename_i p q hp hq
  simp only [Option.some.injEq,Prod.mk.injEq] at h
  obtain ⟨rfl,rfl⟩:=h
  simp only [List.map_cons,RepL]
  exact ⟨_,_,rfl,evE_sound hS hp hob.1,evEs_sound hS hq hob.2⟩

def acall (σ : St) (o : Op) : Option (Prop × FuncId × List AV) :=
 match o with
 | .call c=>match c.callee with
  | .value g=>match evE σ g with
   | some p=>match p.2 with
    | .clos f caps=>match evEs σ c.args.toList with
     | some q=>some (p.1 ∧ q.1,f,q.2 ++ caps)
     | none=>none
    | _=>none
   | none=>none
  | _=>none
 | _=>none

theorem acall_sound {m : Mem} {a : Act} {σ : St} (hS : Sim m a σ) {o : Oper} {ob : Prop} {f : FuncId} {ys : List AV} (h : acall σ o.op = some (ob,f,ys)) (hob : ob) :
  ∃ vs : List Value,execOp a.eval o = callFunc f vs.toArray ∧ RepL m 0 ys vs:=by
 unfold acall at h
 split at h
 case h_2=>cases h
 rename_i c hc
 split at h
 case h_2=>cases h
 rename_i g hg
 split at h
 case h_2=>cases h
 rename_i p hp
 split at h
 case h_2=>cases h
 rename_i f' caps hf
 split at h
 case h_2=>cases h
 rename_i q hq
 simp only [Option.some.injEq,Prod.mk.injEq] at h
 obtain ⟨rfl,rfl,rfl⟩:=h
 have h1:=evE_sound hS hp hob.1
 rw [hf] at h1
 simp only [Rep] at h1
 obtain ⟨us,h1,hus⟩:=h1
 have h2:=evEs_sound hS hq hob.2
 refine ⟨c.args.toList.map a.eval ++ us.toList,?_,h2.append hus⟩
 unfold execOp
 rw [hc]
 simp only [resolve,hg,h1,Deferred.ofValue,pure_bind,invoke]
 congr 1
 simp

end Aw

namespace Aw
open Go

def Mem.inner (m : Mem) : Mem:={ w:=m.w,F:=m.F,Pr:=fun b=>b < m.w.heap.size,ρ:=fun _=>none,np:=0 }
def Mem.outer (m m' : Mem) : Mem:={ w:=m'.w,F:=m'.F,Pr:=m.Pr,ρ:=m.ρ,np:=m.np }

section
variable {m m' : Mem} {hp : List (Nat × ABlk)} {nx : Nat}
theorem outer_keeps (hH : SimH m hp nx) (h : m.inner.le m') : m.keeps (m.outer m') where
 np:=rfl
 Pr _ hb:=hb
 block b hb:=h.block b (hH.Pold b hb)
 F:=h.F
 cell:=h.cell
 ρ _ _ h:=h
theorem outer_le (hH : SimH m hp nx) (h : m.inner.le m') : m.le (m.outer m') where
 os:=h.os
 tape:=h.tape
 output:=h.output
 size:=h.size
 Pr:=rfl
 block b hb:=h.block b (hH.Pold b hb)
 F:=h.F
 cell:=h.cell
 new b o hb hf:=h.new b o (hH.Pold b hb) hf
 np:=rfl
 pin _ _ _ h:=h
theorem outer_simH (hH : SimH m hp nx) (h : m.inner.le m') (hF : ∀ b o,m'.F b o → b < m'.w.heap.size) : SimH (m.outer m') hp nx where
 blk id x hx:=by
  obtain ⟨ri,hρ,hb⟩:=hH.blk id x hx
  refine ⟨ri,hρ,?_⟩
  cases hn : ri.isNil with
  | false =>
   have hlt:=hb.lt hn
   exact hb.mono (outer_keeps hH h) (fun h=>h) (fun o hf=>h.new ri.b o hlt hf) (fun _=>h.block ri.b hlt)
  | true =>
   cases x with
   | cells cs=>obtain ⟨h1,_⟩:=hb; rw [hn] at h1; cases h1
   | tc T0 cs=>obtain ⟨h1,_⟩:=hb; rw [hn] at h1; cases h1
   | amap ks vs=>obtain ⟨h1,_⟩:=hb; rw [hn] at h1; cases h1
   | mrow sz es=>obtain ⟨h1,_⟩:=hb; rw [hn] at h1; cases h1
   | lp l rc=>obtain ⟨h1,_⟩:=hb; rw [hn] at h1; cases h1
   | it left cur=>obtain ⟨h1,_⟩:=hb; rw [hn] at h1; cases h1
   | full sz es =>
    rcases hb with ⟨hb | ⟨h1,_⟩,hb'⟩
    ·exact ⟨.inl hb,hb'⟩
    ·rw [hn] at h1; cases h1
   | brow e0 l0 =>
    rcases hb with ⟨hb | ⟨h1,_⟩,hb'⟩
    ·exact ⟨.inl hb,fun q=>by rw [hn] at q; cases q⟩
    ·rw [hn] at h1; cases h1
   | row sz es own =>
    rcases hb with hb | ⟨h1,_⟩
    ·exact .inl hb
    ·rw [hn] at h1; cases h1
 apart:=hH.apart
 fresh:=hH.fresh
 Fold:=hF
 Pold b hb:=Nat.lt_of_lt_of_le (hH.Pold b hb) h.size
end

theorem acall_isEff {σ : St} {o : Op} {r : Prop × FuncId × List AV} (h : acall σ o = some r) : isEff o = true:=by
 unfold acall at h
 split at h
 case h_2=>cases h
 rename_i c
 split at h
 case h_2=>cases h
 rename_i g hg
 simp only [isEff,hg]

theorem acall_notA {σ : St} {o : Op} {r : Prop × FuncId × List AV} (h : acall σ o = some r) : isAlloc o = false:=by
 unfold acall at h
 split at h
 case h_2=>cases h
 rfl
theorem SemStep.call {P : Program} {σ : St} {o : Oper} {K : St → Prop} {Kp : AV → St → Prop} {ob ob' : Prop} {f : FuncId} {ys xs : List AV} {R : AE → Prop}
  (h : acall σ o.op = some (ob,f,ys)) (hob : ob) (hd : dstOk σ.n o.dst = true)
  (hx : mapO (shr true (frzs σ.hp (ys.flatMap (rids σ.hp 9))) 9) ys = some (ob',xs)) (hob' : ob') (hc : FnP P σ.gl f xs R)
  (hK : ∀ y,R (.ret y) → K (St.put ⟨σ.n,σ.env,frzs σ.hp (ys.flatMap (rids σ.hp 9)),σ.nx,σ.gl,σ.np,σ.df⟩ o.dst y))
  (hKp : ∀ y,R (.panic y) → Kp y ⟨σ.n,σ.env,frzs σ.hp (ys.flatMap (rids σ.hp 9)),σ.nx,σ.gl,σ.np,σ.df⟩) : SemStep P σ o K Kp:=by
 intro m a N Q hS hN hQ
 obtain ⟨vs,hexec,hvs⟩:=acall_sound hS h hob
 unfold Oper.wp
 rw [hexec,hc.enters,Oper.upon_enter]
 obtain ⟨m1,e1,eρ,l1,k1,H1⟩:=frzs_sound (ys.flatMap (rids σ.hp 9)) hS.h
 have hS1:=hS.of k1 H1
 have hin : KF m1 m1.inner:=⟨fun _ _ h=>h,fun _ _ _=>rfl⟩
 have hKP : KP m1 m1.inner:=⟨fun b hb=>H1.Pold b hb,fun _ _=>rfl⟩
 have hargs : RepL m1.inner 1 xs vs:=by
  have:=mapO_sound (m:=m1) (m':=m1.inner) (k:=1) (f:=shr true (frzs σ.hp (ys.flatMap (rids σ.hp 9))) 9)
   (fun x y v ob h hob hv=>by simpa using shr_sound H1 true hin rfl (fun _ b hb=>hb) 9 x y v ob h hob hv) hx hob' (RepL.mono k1 0 _ _ hvs)
  exact this
 have hstart : Start m1.inner σ.gl:=⟨H1.Fold,fun _ h=>h,fun g x hg=>Rep.monoK hin 1 (fun _=>hKP) (Nat.le_refl 1) _ _ (hS1.gl g x hg),rfl,fun _=>rfl⟩
 have hcall:=hc.calls m1.inner vs hstart hargs
 have e2 : m1.inner.w = m.w:=e1
 rw [e2] at hcall
 refine hcall.mono ?_
 rintro e w' ⟨m',r,rfl,hle,hF,hend,hR⟩
 have hH2:=outer_simH H1 hle hF
 have hk2:=outer_keeps H1 hle
 have hl2:=outer_le H1 hle
 have hKF2 : KF m' (m1.outer m'):=⟨fun _ _ h=>h,fun _ _ _=>rfl⟩
 cases r with
 | ret y =>
  obtain ⟨v,rfl,hv⟩:=hend
  have hv2:=Rep.monoK hKF2 2 (fun h=>absurd h (by omega)) (by omega) _ _ hv
  exact hN (m1.outer m') _ _ (l1.trans hl2) (k1.trans hk2) (hS1.put hk2 hH2 hd (Rep.down (Nat.zero_le 2) _ _ hv2)) (.eff (acall_isEff h) (acall_notA h)) .put (hK y hR)
 | panic y =>
  obtain ⟨v,rfl,hv⟩:=hend
  have hv2:=Rep.monoK hKF2 2 (fun h=>absurd h (by omega)) (by omega) _ _ hv
  exact hQ (m1.outer m') _ y v (l1.trans hl2) (k1.trans hk2) (hS1.of hk2 hH2) (Rep.down (Nat.zero_le 2) _ _ hv2) (fun _=>rfl) (hKp y hR)

end Aw

namespace Aw
open Go

section
variable {P : Program}
def stepOp (P : Program) (ds : List (Option Tmp)) (σ : St) (o : Oper) : Option (Prop × St) :=
 match o.guard with
 | none=>match pureOp P σ true o.op with
  | some r=>if dstOk σ.n o.dst = true then some (r.1,σ.put o.dst r.2) else none
  | none=>match effOp P σ o.op with
   | some e=>if dstOk σ.n o.dst = true then some (e.ob,St.put ⟨σ.n,σ.env,e.hp,e.nx,σ.gl,σ.np,σ.df⟩ o.dst e.val) else none
   | none=>none
 | some p=>match gAt ds σ p.1 p.2 with
  | none=>none
  | some g=>match pureOp P σ g o.op with
   | some r=>if dstOk σ.n o.dst = true then some ((g = true → r.1),σ.put o.dst (.opt g r.2)) else none
   | none=>none

def runOps (P : Program) (ds : List (Option Tmp)) : List Oper → St → Prop × List Oper × St
 | [],σ=>(True,[],σ)
 | o :: rest,σ=>match stepOp P ds σ o with
  | none=>(True,o :: rest,σ)
  | some r=>match runOps P ds rest r.2 with
   | q=>(r.1 ∧ q.1,q.2)

theorem stepOp_sound {ds : List (Option Tmp)} {σ σ' : St} {o : Oper} {ob : Prop} {K : St → Prop} {Kp : AV → St → Prop} (h : stepOp P ds σ o = some (ob,σ')) (hob : ob) (hk : K σ') :
  awGuard P ds o σ K Kp:=by
 unfold stepOp at h
 unfold awGuard
 split at h
 ·rename_i hg
  rw [hg]
  simp only
  unfold awStep
  split at h
  ·rename_i r hr
   rw [hr]
   simp only
   split at h
   ·rename_i hd
    simp only [Option.some.injEq,Prod.mk.injEq] at h
    obtain ⟨rfl,rfl⟩:=h
    exact ⟨hd,hob,hk⟩
   ·cases h
  ·rename_i hr
   rw [hr]
   simp only
   split at h
   ·rename_i e he
    rw [he]
    simp only
    split at h
    ·rename_i hd
     simp only [Option.some.injEq,Prod.mk.injEq] at h
     obtain ⟨rfl,rfl⟩:=h
     exact ⟨hd,hob,hk⟩
    ·cases h
   ·cases h
 ·rename_i p hg
  rw [hg]
  simp only
  split at h
  ·cases h
  ·rename_i g hgv
   rw [hgv]
   simp only
   split at h
   ·rename_i r hr
    rw [hr]
    simp only
    split at h
    ·rename_i hd
     simp only [Option.some.injEq,Prod.mk.injEq] at h
     obtain ⟨rfl,rfl⟩:=h
     exact ⟨hd,hob,hk⟩
    ·cases h
   ·cases h

theorem awOps.run {ds : List (Option Tmp)} {K : St → Prop} {Kp : AV → St → Prop} : ∀ {l l' : List Oper} {σ σ' : St} {ob : Prop},runOps P ds l σ = (ob,l',σ') → ob → awOps P ds l' σ' K Kp → awOps P ds l σ K Kp
 | [],l',σ,σ',ob,h,_,hk=>by
  simp only [runOps,Prod.mk.injEq] at h
  obtain ⟨_,rfl,rfl⟩:=h
  exact hk
 | o :: rest,l',σ,σ',ob,h,hob,hk=>by
  simp only [runOps] at h
  split at h
  ·simp only [Prod.mk.injEq] at h
   obtain ⟨_,rfl,rfl⟩:=h
   exact hk
  ·rename_i r hr
   generalize hq : runOps P ds rest r.2 = q at h
   obtain ⟨q1,q2,q3⟩:=q
   simp only [Prod.mk.injEq] at h
   obtain ⟨rfl,rfl,rfl⟩:=h
   simp only [awOps]
   exact stepOp_sound hr hob.1 (awOps.run hq hob.2 hk)

theorem AW.reg {σ : St} {Q : AX → St → Prop} {id : Nat} {ops : Array Oper} {ob : Prop} {l : List Oper} {σ' : St} (h : runOps P (ops.toList.map (·.dst)) ops.toList σ = (ob,l,σ')) (hob : ob)
  (hk : awOps P (ops.toList.map (·.dst)) l σ' (fun σ'=>Q .normal σ') (fun x σ'=>Q (.panic x) σ')) : AW P (.region id ops false) σ Q :=
 AW.region (awOps.run h hob hk)
theorem AW.regAll {σ : St} {Q : AX → St → Prop} {id : Nat} {ops : Array Oper} {ob : Prop} {σ' : St} (h : runOps P (ops.toList.map (·.dst)) ops.toList σ = (ob,[],σ')) (hob : ob)
  (hk : Q .normal σ') : AW P (.region id ops false) σ Q :=
 AW.region (awOps.run h hob hk)

theorem awOps.call {ds : List (Option Tmp)} {σ : St} {o : Oper} {rest : List Oper} {K : St → Prop} {Kp : AV → St → Prop} {ob ob' : Prop} {f : FuncId} {ys xs : List AV} {R : AE → Prop}
  (hg : o.guard = none) (h : acall σ o.op = some (ob,f,ys)) (hp : pureOp P σ true o.op = none) (he : effOp P σ o.op = none) (hob : ob) (hd : dstOk σ.n o.dst = true)
  (hx : mapO (shr true (frzs σ.hp (ys.flatMap (rids σ.hp 9))) 9) ys = some (ob',xs)) (hob' : ob') (hc : FnP P σ.gl f xs R)
  (hK : ∀ y,R (.ret y) → awOps P ds rest (St.put ⟨σ.n,σ.env,frzs σ.hp (ys.flatMap (rids σ.hp 9)),σ.nx,σ.gl,σ.np,σ.df⟩ o.dst y) K Kp)
  (hKp : ∀ y,R (.panic y) → Kp y ⟨σ.n,σ.env,frzs σ.hp (ys.flatMap (rids σ.hp 9)),σ.nx,σ.gl,σ.np,σ.df⟩) : awOps P ds (o :: rest) σ K Kp:=by
 simp only [awOps]
 unfold awGuard
 rw [hg]
 simp only
 unfold awStep
 rw [hp,he]
 exact SemStep.call h hob hd hx hob' hc hK hKp
end
end Aw
