/- Rules of a calculus of walks: no condition of its own. -/
import Derived.Test.YtboaclfnjdhcpaaDoorCore23
import Derived.OrdersIn
import Derived.Laws.IdiomRangeMap
namespace Aw
open Go
section
variable {B : Bs} {r : Option Nat} {Θ : Mem → Prop} {P : Program} {ops : Array Oper} {K : St → Prop} {Kp : AV → St → Prop}
theorem noDefers_at {i : Nat} {o : Oper} (hn : noDefers ops.toList = true) (ho : ops[i]? = some o) : notDefer o.op = true :=
 List.all_eq_true.1 hn o (by rw [← Array.getElem?_toList] at ho; exact List.mem_of_getElem? ho)
theorem GAny_soundT {X : Exit → Act → World → Prop} (m0 : Mem) (hn : noDefers ops.toList = true)
  (hK : ∀ m a σ,m0.leT m → SimT B m a σ → K σ → X .normal a m.w) (hKp : ∀ m a σ x v,m0.leT m → SimT B m a σ → Rep m 0 x v → Kp x σ → X (.panic [{ v,recovered:=false }]) a m.w) :
  ∀ (f : Nat) (l : Array Bool) (σ : St),GAny P ops K Kp f l σ → ∀ m a,m0.leT m → SimT B m a σ → wpAnyIn (Fr r) 0 P .any ops X f l a m.w
 | 0,_,σ,h,m,a,hle,hS=>⟨h.1,hK m a σ hle hS h.2⟩
 | f + 1,l,σ,h,m,a,hle,hS=>by
  refine ⟨fun h0=>hK m a σ hle hS (h.1 h0),fun i hi=>?_⟩
  have hi':=h.2 i hi
  unfold GStep at hi'
  unfold wpOpIn
  cases ho : ops[i]? with
  | none =>
   rw [ho] at hi'
   exact GAny_soundT m0 hn hK hKp f _ σ hi' m a hle hS
  | some o =>
   rw [ho] at hi'
   have hnd:=noDefers_at hn ho
   have hh:=hi' m { a with defers:=B.ds } (fun a' w'=>∃ m' σ',m'.w = w' ∧ m.le m' ∧ Sim m' a' σ' ∧ Keeps o σ σ' ∧ GAny P ops K Kp f (l.setIfInBounds i true) σ')
    (fun e a' w'=>∃ m' σ' x v,m'.w = w' ∧ e = .panic [{ v,recovered:=false }] ∧ m.le m' ∧ Sim m' { a with defers:=B.ds } σ' ∧ Rep m' 0 x v ∧ Kp x σ') hS.s
    (fun m' a' σ' h1 _ h2 h3 _ h4=>⟨m',σ',rfl,h1,h2,h3,h4⟩) (fun m' σ' x v h1 _ h2 h3 _ h4=>⟨m',σ',x,v,rfl,rfl,h1,h2,h3,h4⟩)
   have fin : ∀ a' w',(∃ m' σ',m'.w = w' ∧ m.le m' ∧ Sim m' a' σ' ∧ Keeps o σ σ' ∧ GAny P ops K Kp f (l.setIfInBounds i true) σ') →
     a'.defers.length = B.ds.length ∧ (a'.defers = B.ds → wpAnyIn (Fr r) 0 P .any ops X f (l.setIfInBounds i true) { a' with defers:=a.defers } w'):=by
    rintro a' w' ⟨m',σ',rfl,h1,h2,h3,h4⟩
    refine ⟨by rw [h2.defers.len,hS.s.defers.len,h3.df],fun hd=>GAny_soundT m0 hn hK hKp f _ σ' h4 m' _ (hle.trans h1.t) ⟨?_,hS.marks.le h1.t,Nat.le_trans hS.base h1.size⟩⟩
    have : ({ ({ a' with defers:=a.defers } : Act) with defers:=B.ds } : Act) = a':=by
     cases a'
     simp only at hd
     subst hd
     rfl
    rw [this]
    exact h2
   simp only
   have hw : Region.wanted o (yielded ops ({ a with defers:=B.ds } : Act).tmps) = Region.wanted o (yielded ops a.tmps):=rfl
   split
   ·rename_i hwt
    rw [if_pos (hw.trans hwt)] at hh
    refine wpIn_of_wp hnd hh fin ?_ ?_
    ·rintro e w' ⟨m',σ',x,v,rfl,rfl,h1,h2,h3,h4⟩
     exact hKp m' a σ' x v (hle.trans h1.t) ⟨h2,hS.marks.le h1.t,Nat.le_trans hS.base h1.size⟩ h3 h4
    ·rintro ⟨a',w',_,_,_,_,_,h,_⟩
     cases h
   ·rename_i hwt
    rw [if_neg (fun h=>hwt (hw ▸ h))] at hh
    have hg:=(fin _ _ hh).2 (by cases o.dst <;> rfl)
    refine ⟨fun _ _=>trivial,?_⟩
    have : ({ ({ a with defers:=B.ds } : Act).put o.dst undef with defers:=a.defers } : Act) = a.put o.dst undef:=by cases o.dst <;> rfl
    rw [this] at hg
    exact hg
theorem AWT.ofG {σ : St} {Q : AX → St → Prop} {id : Nat} (hm : P.follows .mixedOrders = true) (hn : noDefers ops.toList = true) (h : AWG P ops σ Q) : AWT B r Θ P (.region id ops true) σ Q:=fun m a hS _=>by
 refine wpB.of (wpIn_region_any hm ?_)
 let md : Mem:={ m with w:={ m.w with drawn:=m.w.drawn + 1 } }
 have hk : m.keeps md:=⟨rfl,fun _ h=>h,fun _ _=>rfl,fun _ _ h=>h,fun _ _ _=>rfl,fun _ _ h=>h⟩
 have hl : m.le md:=⟨rfl,rfl,rfl,Nat.le_refl _,rfl,fun _ _=>rfl,fun _ _ h=>h,fun _ _ _=>rfl,fun _ _ _ h=>h,rfl,fun _ _ _ h=>h⟩
 have hH : SimH md σ.hp σ.nx:=by
  refine ⟨fun i x hx=>?_,hS.s.h.apart,hS.s.h.fresh,hS.s.h.Fold,hS.s.h.Pold⟩
  obtain ⟨ri,h1,h2⟩:=hS.s.h.blk i x hx
  exact ⟨ri,h1,h2.mono hk (fun h=>h) (fun _ h=>h) (fun _=>rfl)⟩
 have hS' : SimT B md a σ:=⟨hS.s.of hk hH,hS.marks.le hl.t,hS.base⟩
 refine GAny_soundT (r:=r) (K:=fun σ=>∃ σ2,Eqv σ σ2 ∧ Q .normal σ2) (Kp:=fun x σ'=>Q (.panic x) σ') md hn ?_ ?_ ops.size _ σ h md a (.refl md) hS'
 ·rintro m' a' σ' hle hS' ⟨σ2,he,hq⟩
  exact ⟨m',σ2,.normal,rfl,hl.t.trans hle,⟨hS'.s.eqv he,hS'.marks,hS'.base⟩,rfl,hq⟩
 ·intro m' a' σ' x v hle hS' hx h'
  exact ⟨m',σ',.panic x,rfl,hl.t.trans hle,hS',⟨v,rfl,hx⟩,h'⟩
theorem PI.round {F : Option Code → St → Prop} : PI (fun ax σ=>∃ j,jumpOf ax = some j ∧ F j σ):=by
 intro x σ σ'
 simp [jumpOf]
end
end Aw

namespace Aw
open Go
theorem repL_map_set {κ ν : Type} {m : Mem} {V : ν → AV} : ∀ {l : List (κ × ν)} {vs : List Value} {j : Nat} {k : κ} {v : ν} {w : Value},RepL m 1 (l.map fun p=>V p.2) vs → Rep m 1 (V v) w → RepL m 1 ((l.set j (k,v)).map fun p=>V p.2) (vs.set j w)
 | [],vs,j,k,v,w,h,_=>by simpa [RepL] using h
 | p :: l,vs,0,k,v,w,h,hw=>by
  simp only [List.map_cons,RepL] at h
  obtain ⟨x,rest,rfl,hx,hr⟩:=h
  simp only [List.set_cons_zero,List.map_cons,RepL]
  exact ⟨_,_,rfl,hw,hr⟩
 | p :: l,vs,j + 1,k,v,w,h,hw=>by
  simp only [List.map_cons,RepL] at h
  obtain ⟨x,rest,rfl,hx,hr⟩:=h
  simp only [List.set_cons_succ,List.map_cons,RepL]
  exact ⟨_,_,rfl,hx,repL_map_set hr hw⟩
section
variable {κ ν : Type} [DecidableEq κ] {kind : TypeDesc} {VK : κ → Value} {K : κ → AV} {V : ν → AV}
def mfind : List (κ × ν) → κ → Option ν
 | [],_=>none
 | p :: l,k=>if p.1 = k then some p.2 else mfind l k
def mset : List (κ × ν) → κ → ν → List (κ × ν)
 | [],k,v=>[(k,v)]
 | p :: l,k,v=>if p.1 = k then (k,v) :: l else p :: mset l k v
theorem mfind_none {l : List (κ × ν)} {k : κ} : mfind l k = none ↔ k ∉ l.map Prod.fst:=by
 induction l with
 | nil=>simp [mfind]
 | cons p l ih =>
  simp only [mfind,List.map_cons,List.mem_cons,not_or]
  split
  ·rename_i h; simp [h]
  ·rename_i h; rw [ih]; simp [Ne.symm h]
theorem mset_new {l : List (κ × ν)} {k : κ} {v : ν} (h : k ∉ l.map Prod.fst) : mset l k v = l ++ [(k,v)]:=by
 induction l with
 | nil=>rfl
 | cons p l ih =>
  simp only [List.map_cons,List.mem_cons,not_or] at h
  simp only [mset]
  rw [if_neg (Ne.symm h.1),ih h.2]
  rfl
end
section
variable {κ ν : Type} {K : κ → AV} {V : ν → AV}
def mapOf (K : κ → AV) (V : ν → AV) (l : List (κ × ν)) : ABlk:=.amap (l.map fun p=>K p.1) (l.map fun p=>V p.2)
def cmapOf (K : κ → AV) (V : ν → AV) (l : List (κ × ν)) : AV:=.cmap (l.map fun p=>K p.1) (l.map fun p=>V p.2)
theorem renB_mapOf (π : Nat → Nat) (l : List (κ × ν)) : renB π (mapOf K V l) = mapOf K V l:=rfl
theorem ren_cmapOf (π : Nat → Nat) (l : List (κ × ν)) : ren π (cmapOf K V l) = cmapOf K V l:=rfl
end
section
variable {κ ν : Type} [DecidableEq κ] {kind : TypeDesc} {VK : κ → Value} {K : κ → AV} {V : ν → AV}
theorem find_gen (hK : KeyOk kind VK K) {m : Mem} {k : κ} : ∀ {l : List (κ × ν)} {es : List MapEntry} (i : Nat),es.map (·.key) = l.map (fun p=>VK p.1) → RepL m 1 (l.map fun p=>V p.2) (es.map (·.val)) →
  (mfind l k = none ∧ Instr.findNow kind (VK k) es i = some none) ∨
  ∃ j e v,Instr.findNow kind (VK k) es i = some (some (i + j,e.val)) ∧ es[j]? = some e ∧ mfind l k = some v ∧ Rep m 1 (V v) e.val ∧ e.key = VK k ∧ ∀ v',mset l k v' = l.set j (k,v')
 | [],[],i,_,_=>.inl ⟨rfl,rfl⟩
 | [],_ :: _,i,h,_=>by simp at h
 | _ :: _,[],i,h,_=>by simp at h
 | p :: l,e :: es,i,h,hv=>by
  simp only [List.map_cons,List.cons.injEq] at h
  simp only [List.map_cons,RepL] at hv
  obtain ⟨v0,rest,e0,hv0,hr⟩:=hv
  injection e0 with e1 e2
  subst e1 e2
  rw [Instr.findNow,h.1,hK.same]
  by_cases hka : p.1 = k
  ·refine .inr ⟨0,e,p.2,?_,rfl,?_,hv0,by rw [h.1,hka],?_⟩
   ·rw [decide_eq_true hka.symm] <;> rfl
   ·simp [mfind,hka]
   ·intro v'; simp [mset,hka]
  ·rw [decide_eq_false (fun h=>hka h.symm)]
   rcases find_gen hK (i + 1) h.2 hr with ⟨h1,h2⟩ | ⟨j,e',v,h1,h2,h3,h4,h5,h6⟩
   ·exact .inl ⟨by simp [mfind,hka,h1],h2⟩
   ·refine .inr ⟨j + 1,e',v,?_,by simpa using h2,by simp [mfind,hka,h3],h4,h5,fun v'=>by simp [mset,hka,h6]⟩
    simp only [h1]
    rw [show i + 1 + j = i + (j + 1) from by omega]

variable {P : Program} {ds : List (Option Tmp)} {σ : St} {o : Oper} {KK : St → Prop} {Kp : AV → St → Prop} {ob ob' : Prop}
theorem keysOf (hK : KeyOk kind VK K) {m : Mem} {n : Nat} : ∀ {l : List (κ × ν)} {vs : List Value},RepL m n (l.map fun p=>K p.1) vs ↔ vs = l.map fun p=>VK p.1
 | [],vs=>by simp [RepL]
 | a :: l,vs=>by
  simp only [List.map_cons,RepL,hK.rep]
  constructor
  ·rintro ⟨v,rest,rfl,rfl,h⟩
   rw [(keysOf hK).1 h]
  ·rintro rfl
   exact ⟨_,_,rfl,rfl,(keysOf hK).2 rfl⟩
theorem map_blk (hK : KeyOk kind VK K) {m : Mem} {ri : RI} {l : List (κ × ν)} (h : BlkRep m ri (mapOf K V l)) :
  ri.isNil = false ∧ ¬ m.Pr ri.b ∧ (∀ o,¬ m.F ri.b o) ∧ ∃ es clock,m.w.heap[ri.b]? = some (.map es clock) ∧ es.toList.map (·.key) = l.map (fun p=>VK p.1) ∧ RepL m 1 (l.map fun p=>V p.2) (es.toList.map (·.val)) ∧ MapKept.Stamped es clock:=by
 obtain ⟨h1,h2,h3,kv,vv,es,clock,h4,h5,h6,h7⟩:=h
 rw [keysOf hK] at h6
 obtain ⟨g1,g2,g3⟩:=h5
 exact ⟨h1,h2,h3,es,clock,h4,g1.trans h6,g2.symm ▸ h7,g3⟩
theorem blk_map (hK : KeyOk kind VK K) {m : Mem} {ri : RI} {l : List (κ × ν)} (h1 : ri.isNil = false) (h2 : ¬ m.Pr ri.b) (h3 : ∀ o,¬ m.F ri.b o) {es : Array MapEntry} {clock : Nat} (h4 : m.w.heap[ri.b]? = some (.map es clock)) (h5 : es.toList.map (·.key) = l.map (fun p=>VK p.1))
  (h6 : RepL m 1 (l.map fun p=>V p.2) (es.toList.map (·.val))) (h7 : MapKept.Stamped es clock) : BlkRep m ri (mapOf K V l):=⟨h1,h2,h3,_,_,es,clock,h4,⟨rfl,rfl,h7⟩,(keysOf hK).2 h5,h6⟩
theorem cmap_val (hK : KeyOk kind VK K) {m : Mem} {n : Nat} {l : List (κ × ν)} {v : Value} (h : Rep m n (cmapOf K V l) v) :
  ∃ b es clock,v = .map (some b) ∧ m.w.heap[b]? = some (.map es clock) ∧ es.toList.map (·.key) = l.map (fun p=>VK p.1) ∧ RepL m 1 (l.map fun p=>V p.2) (es.toList.map (·.val)):=by
 simp only [cmapOf,Rep] at h
 obtain ⟨_,b,kv,vv,es,clock,rfl,_,hh,he,hk,hv⟩:=h
 rw [keysOf hK] at hk
 exact ⟨b,es,clock,rfl,hh,he.1.trans hk,he.2.1.symm ▸ hv⟩

theorem mkmapR_sound (hK : KeyOk kind VK K) {t kt et : TypeId} {i : TI} {r : Option Operand} (ho : o.op = .makeMap t r) (hi : tinfo P t = some i) (hk : i.k = .map kt et) (hr : ∀ x,r = some x → ∃ n : Int,evE σ x = some (ob,.int .i64 n)) (hob : ob) {m : Mem} {a : Act} (hS : Sim m a σ) :
  EffOk P m a o ⟨True,.map σ.nx,set σ.hp σ.nx (mapOf K V []),σ.nx + 1⟩:=by
 have hw : Alloc m.w { m.w with heap:=m.w.heap.push (.map #[] 0) } (.map #[] 0):=⟨rfl,rfl,rfl,rfl⟩
 let ri : RI:=⟨m.w.heap.size,0,0,0,false⟩
 have hU:=Upd.alloc hS.h hw ri (fun _ _=>False) (fun _ _ h=>h.elim)
 have hum:=und_map hi hk
 have hund : (underlying t).run P m.w = .ok (.map kt et) m.w:=by simp only [underlying,program,bind,Sem.bind,Sem.run,hum,pure]
 refine ⟨.map (some m.w.heap.size),m.with _ σ.nx ri (fun _ _=>False),.inl ?_,hU.le hS.h,hU.keeps hS.h,hS.h.alloc hw (fun _ _ h=>h.elim) rfl ?_,?_⟩
 ·simp only [execOp,ho]
  refine run_value ?_
  cases r with
  | none =>
   simp only [Option.map_none,Instr.makeMap,Sem.run_bind,run_newObj,Result.andThen_ok,Sem.run_pure]
   rfl
  | some x =>
   obtain ⟨n,hx⟩:=hr x rfl
   have hv:=evE_sound hS hx hob
   simp only [Rep] at hv
   simp only [Option.map_some,hv,Instr.makeMap,Sem.run_bind,hund,run_newObj,Result.andThen_ok,Sem.run_pure,asInt]
   rfl
 ·refine blk_map hK rfl ?_ ?_ hw.new rfl (by simp [RepL]) (MapKept.stamped_empty 0)
  ·intro h; have:=hS.h.Pold _ h; exact absurd this (Nat.lt_irrefl _)
  ·intro o h
   rcases h with h | h
   ·have:=hS.h.Fold _ o h; exact absurd this (Nat.lt_irrefl _)
   ·exact h
 ·simp only [Rep]
  exact ⟨trivial,ri,by simp [Mem.with],rfl⟩

def mres (V : ν → AV) (z : ν) (ok : Bool) (l : List (κ × ν)) (k : κ) : AV:=if ok then .tup [V ((mfind l k).getD z),.bool (mfind l k).isSome] else V ((mfind l k).getD z)
theorem mlook (hK : KeyOk kind VK K) {t kt et : TypeId} {i : TI} {l : List (κ × ν)} {k : κ} {ok : Bool} {z : ν} {zv : Value} (hi : tinfo P t = some i) (hk : i.k = .map kt et) (hkt : P.underlying kt = some kind) (hz : (P.info? et).map (·.zero) = some (some zv))
  {m : Mem} (hzr : Rep m 1 (V z) zv) {b : Nat} {es : Array MapEntry} {clock : Nat} (h4 : m.w.heap[b]? = some (.map es clock)) (h5 : es.toList.map (·.key) = l.map (fun p=>VK p.1)) (h6 : RepL m 1 (l.map fun p=>V p.2) (es.toList.map (·.val))) :
  ∃ v,(Instr.lookup t (.map (some b)) (VK k) ok).run P m.w = .ok v m.w ∧ Rep m 1 (mres V z ok l k) v:=by
 have hum:=und_map hi hk
 have hund : (underlying t).run P m.w = .ok (.map kt et) m.w:=by simp only [underlying,program,bind,Sem.bind,Sem.run,hum,pure]
 have hundk : (underlying kt).run P m.w = .ok kind m.w:=by simp only [underlying,program,bind,Sem.bind,Sem.run,hkt,pure]
 have hfind : (Instr.findKey kt (VK k) es.toList).run P m.w = (match Instr.findNow kind (VK k) es.toList 0 with | some r=>(Result.ok r m.w : Result (Option (Nat × Value))) | none=>(Instr.findAsking kt (VK k) es.toList).run P m.w):=by
  simp only [Instr.findKey,Sem.run_bind,hundk,Result.andThen_ok]
  cases Instr.findNow kind (VK k) es.toList 0 <;> rfl
 rcases find_gen hK (k:=k) 0 h5 h6 with ⟨h1,g1⟩ | ⟨j,e,v,g1,g2,g3,g4,_,_⟩
 ·rw [g1] at hfind
  have hzr' : (zeroValue et).run P m.w = .ok zv m.w:=by
   cases hi' : P.info? et with
   | none=>rw [hi'] at hz; cases hz
   | some inf =>
    rw [hi'] at hz
    simp only [Option.map_some,Option.some.injEq] at hz
    simp only [zeroValue,typeInfo,program,bind,Sem.bind,Sem.run,hi',pure,hz]
  refine ⟨if ok then .tuple #[zv,.bool false] else zv,?_,?_⟩
  ·simp only [Instr.lookup,Sem.run_bind,hund,Result.andThen_ok,run_getMap h4,Sem.run_pure,hK.plain P kt m.w _ k hkt,hfind,hzr']
  ·unfold mres
   rw [h1]
   cases ok
   ·simpa using hzr
   ·simp [Rep,RepL,hzr]
 ·rw [g1] at hfind
  refine ⟨if ok then .tuple #[e.val,.bool true] else e.val,?_,?_⟩
  ·simp only [Instr.lookup,Sem.run_bind,hund,Result.andThen_ok,run_getMap h4,Sem.run_pure,hK.plain P kt m.w _ k hkt,hfind]
  ·unfold mres
   rw [g3]
   cases ok
   ·simpa using g4
   ·simp [Rep,RepL,g4]
theorem mlookup_sound (hK : KeyOk kind VK K) {t kt et : TypeId} {i : TI} {x y : Operand} {id : Nat} {l : List (κ × ν)} {k : κ} {ok : Bool} {z : ν} {zv : Value} (ho : o.op = .lookup t x y ok) (hi : tinfo P t = some i) (hk : i.k = .map kt et) (hkt : P.underlying kt = some kind)
  (hz : (P.info? et).map (·.zero) = some (some zv)) (hzr : ∀ m : Mem,Rep m 1 (V z) zv) (hx : evE σ x = some (ob,.map id)) (hob : ob) (hp : get σ.hp id = some (mapOf K V l)) (hy : evE σ y = some (ob',K k)) (hob' : ob') {m : Mem} {a : Act} (hS : Sim m a σ) :
  EffOk P m a o ⟨True,mres V z ok l k,σ.hp,σ.nx⟩:=by
 have hv:=evE_sound hS hx hob
 have hy':=(hK.rep _ _ _ _).1 (evE_sound hS hy hob')
 simp only [Rep] at hv
 obtain ⟨_,ri,hρ,hv⟩:=hv
 obtain ⟨ri',hρ',hb⟩:=hS.h.blk id _ hp
 rw [hρ] at hρ'
 injection hρ' with hρ'
 subst hρ'
 obtain ⟨h1,h2,h3,es,clock,h4,h5,h6,_⟩:=map_blk hK hb
 obtain ⟨v,hrun,hrep⟩:=mlook (ok:=ok) (k:=k) hK hi hk hkt hz (hzr m) h4 h5 h6
 refine ⟨v,m,.inl ?_,.refl m,.refl m,hS.h,Rep.down (Nat.zero_le 1) _ _ hrep⟩
 simp only [execOp,ho]
 refine run_value ?_
 rw [hv,hy']
 exact hrun
theorem clookup_sound (hK : KeyOk kind VK K) {t kt et : TypeId} {i : TI} {x y : Operand} {l : List (κ × ν)} {k : κ} {ok : Bool} {z : ν} {zv : Value} (ho : o.op = .lookup t x y ok) (hi : tinfo P t = some i) (hk : i.k = .map kt et) (hkt : P.underlying kt = some kind)
  (hz : (P.info? et).map (·.zero) = some (some zv)) (hzr : ∀ m : Mem,Rep m 1 (V z) zv) (hx : evE σ x = some (ob,cmapOf K V l)) (hob : ob) (hy : evE σ y = some (ob',K k)) (hob' : ob') {m : Mem} {a : Act} (hS : Sim m a σ) :
  EffOk P m a o ⟨True,mres V z ok l k,σ.hp,σ.nx⟩:=by
 obtain ⟨b,es,clock,hv,h4,h5,h6⟩:=cmap_val hK (evE_sound hS hx hob)
 have hy':=(hK.rep _ _ _ _).1 (evE_sound hS hy hob')
 obtain ⟨v,hrun,hrep⟩:=mlook (ok:=ok) (k:=k) hK hi hk hkt hz (hzr m) h4 h5 h6
 refine ⟨v,m,.inl ?_,.refl m,.refl m,hS.h,Rep.down (Nat.zero_le 1) _ _ hrep⟩
 simp only [execOp,ho]
 refine run_value ?_
 rw [hv,hy']
 exact hrun
theorem nlookup_sound (hK : KeyOk kind VK K) {t kt et : TypeId} {i : TI} {x y : Operand} {k : κ} {ok : Bool} {z : ν} {zv : Value} (ho : o.op = .lookup t x y ok) (hi : tinfo P t = some i) (hk : i.k = .map kt et) (hkt : P.underlying kt = some kind)
  (hz : (P.info? et).map (·.zero) = some (some zv)) (hzr : ∀ m : Mem,Rep m 1 (V z) zv) (hx : evE σ x = some (ob,.raw (.map none))) (hob : ob) (hy : evE σ y = some (ob',K k)) (hob' : ob') {m : Mem} {a : Act} (hS : Sim m a σ) :
  EffOk P m a o ⟨True,mres V z ok ([] : List (κ × ν)) k,σ.hp,σ.nx⟩:=by
 have hv:=evE_sound hS hx hob
 have hy':=(hK.rep _ _ _ _).1 (evE_sound hS hy hob')
 simp only [Rep] at hv
 have hum:=und_map hi hk
 have hund : (underlying t).run P m.w = .ok (.map kt et) m.w:=by simp only [underlying,program,bind,Sem.bind,Sem.run,hum,pure]
 have hundk : (underlying kt).run P m.w = .ok kind m.w:=by simp only [underlying,program,bind,Sem.bind,Sem.run,hkt,pure]
 have hzr' : (zeroValue et).run P m.w = .ok zv m.w:=by
  cases hi' : P.info? et with
  | none=>rw [hi'] at hz; cases hz
  | some inf =>
   rw [hi'] at hz
   simp only [Option.map_some,Option.some.injEq] at hz
   simp only [zeroValue,typeInfo,program,bind,Sem.bind,Sem.run,hi',pure,hz]
 have hfind : (Instr.findKey kt (VK k) []).run P m.w = .ok none m.w:=by
  simp only [Instr.findKey,Sem.run_bind,hundk,Result.andThen_ok,Instr.findNow,Sem.run_pure]
 refine ⟨if ok then .tuple #[zv,.bool false] else zv,m,.inl ?_,.refl m,.refl m,hS.h,?_⟩
 ·simp only [execOp,ho]
  refine run_value ?_
  rw [hv,hy']
  simp only [Instr.lookup,Sem.run_bind,hund,Result.andThen_ok,Sem.run_pure,hK.plain P kt m.w _ k hkt,hfind,hzr']
 ·unfold mres
  have:=Rep.down (Nat.zero_le 1) _ _ (hzr m)
  cases ok
  ·simpa [mfind] using this
  ·simp [Rep,RepL,mfind,this]

theorem repL_snoc {m : Mem} {n : Nat} {y : AV} {w : Value} (hw : Rep m n y w) : ∀ {xs : List AV} {vs : List Value},RepL m n xs vs → RepL m n (xs ++ [y]) (vs ++ [w])
 | [],vs,h=>by
  simp only [RepL] at h
  subst h
  simp only [List.nil_append,RepL]
  exact ⟨_,_,rfl,hw,rfl⟩
 | x :: xs,vs,h=>by
  simp only [RepL] at h
  obtain ⟨x',rest,rfl,hx,hr⟩:=h
  simp only [List.cons_append,RepL]
  exact ⟨_,_,rfl,hx,repL_snoc hw hr⟩
theorem mset_hit {l : List (κ × ν)} {j : Nat} {k : κ} {v : ν} (h : mset l k v = l.set j (k,v)) (hj : (l.map Prod.fst)[j]? = some k) : (mset l k v).map Prod.fst = l.map Prod.fst:=by
 rw [h]
 apply List.ext_getElem?
 intro q
 simp only [List.getElem?_map,List.getElem?_set]
 by_cases hq : j = q
 ·subst hq
  simp only [List.getElem?_map] at hj
  cases hl : l[j]? with
  | none=>rw [hl] at hj; cases hj
  | some p =>
   rw [hl] at hj
   simp only [Option.map_some,Option.some.injEq] at hj
   have hlt : j < l.length:=(List.getElem?_eq_some_iff.1 hl).1
   simp [hlt,hj]
 ·simp [hq]
theorem gmapupd_sound (hK : KeyOk kind VK K) {t kt et : TypeId} {i : TI} {x y z : Operand} {id : Nat} {l : List (κ × ν)} {k : κ} {v : ν} {zx : AV} {ob'' obz : Prop} (ho : o.op = .mapUpdate t x y z) (hi : tinfo P t = some i) (hk : i.k = .map kt et) (hkt : P.underlying kt = some kind)
  (hx : evE σ x = some (ob,.map id)) (hob : ob) (hp : get σ.hp id = some (mapOf K V l)) (hy : evE σ y = some (ob',K k)) (hob' : ob') (hz : evE σ z = some (ob'',zx)) (hob'' : ob'') (hsh : shr false σ.hp 9 zx = some (obz,V v)) (hobz : obz) {m : Mem} {a : Act} (hS : Sim m a σ) :
  EffOk P m a o ⟨True,.raw undef,set σ.hp id (mapOf K V (mset l k v)),σ.nx⟩:=by
 have hv:=evE_sound hS hx hob
 have hy':=(hK.rep _ _ _ _).1 (evE_sound hS hy hob')
 have hz0:=evE_sound hS hz hob''
 have hz2:=shr_sound (m':=m) hS.h false ⟨fun _ _ h=>h,fun _ _ _=>rfl⟩ rfl (fun h=>(by cases h)) 9 zx (V v) _ obz hsh hobz hz0
 simp only [Bool.false_eq_true,if_false] at hz2
 have hz1 : Rep m 1 (V v) (a.eval z):=Rep.down (by omega) _ _ hz2
 simp only [Rep] at hv
 obtain ⟨_,ri,hρ,hv⟩:=hv
 obtain ⟨ri',hρ',hb⟩:=hS.h.blk id _ hp
 rw [hρ] at hρ'
 injection hρ' with hρ'
 subst hρ'
 obtain ⟨h1,h2,h3,es,clock,h4,h5,h6,h7⟩:=map_blk hK hb
 have hum:=und_map hi hk
 have hund : (underlying t).run P m.w = .ok (.map kt et) m.w:=by simp only [underlying,program,bind,Sem.bind,Sem.run,hum,pure]
 have hundk : (underlying kt).run P m.w = .ok kind m.w:=by simp only [underlying,program,bind,Sem.bind,Sem.run,hkt,pure]
 have hfind : (Instr.findKey kt (VK k) es.toList).run P m.w = (match Instr.findNow kind (VK k) es.toList 0 with | some r=>(Result.ok r m.w : Result (Option (Nat × Value))) | none=>(Instr.findAsking kt (VK k) es.toList).run P m.w):=by
  simp only [Instr.findKey,Sem.run_bind,hundk,Result.andThen_ok]
  cases Instr.findNow kind (VK k) es.toList 0 <;> rfl
 -- what the map is afterwards
 obtain ⟨es',clock',hrun,e5,e6,e7⟩ : ∃ es' clock',(Instr.mapUpdate t (.map (some ri.b)) (VK k) (a.eval z)).run P m.w = .ok () (wset m.w ri.b (.map es' clock')) ∧ es'.toList.map (·.key) = (mset l k v).map (fun p=>VK p.1) ∧
   RepL m 1 ((mset l k v).map fun p=>V p.2) (es'.toList.map (·.val)) ∧ MapKept.Stamped es' clock':=by
  rcases find_gen hK (k:=k) 0 h5 h6 with ⟨g0,g1⟩ | ⟨j,e,v0,g1,g2,g3,g4,g5,g6⟩
  ·have hm:=mfind_none.1 g0
   rw [g1] at hfind
   refine ⟨es.push { key:=VK k,val:=a.eval z,born:=clock },clock + 1,?_,?_,?_,MapKept.stamped_push h7 ?_⟩
   ·simp only [Instr.mapUpdate,Sem.run_bind,hund,Result.andThen_ok,run_getMap h4,hK.plain P kt m.w _ k hkt,hfind,run_setMap h4]
   ·rw [mset_new hm]; simp [h5]
   ·rw [mset_new hm]
    simp only [List.map_append,List.map_cons,List.map_nil,Array.toList_push]
    exact repL_snoc hz1 h6
   ·intro x hx he
    have : VK k ∈ l.map (fun p=>VK p.1):=by rw [← h5,← he]; exact List.mem_map_of_mem hx
    obtain ⟨p,hp',hkk⟩:=List.mem_map.1 this
    exact hm (hK.inj hkk ▸ List.mem_map_of_mem hp')
  ·rw [g1,Nat.zero_add] at hfind
   have hej : es[j]? = some e:=by rw [← Array.getElem?_toList]; exact g2
   have hstay : (Instr.keyThatStays (((es[j]?).map (·.key)).getD (VK k)) (VK k)).run P m.w = .ok (VK k) m.w:=by
    rw [hej]
    simp only [Option.map_some,Option.getD_some,g5,Instr.keyThatStays,hK.bits,if_true,Sem.run_pure]
   have hlj : (l.map Prod.fst)[j]? = some k:=by
    have h0 : (es.toList.map (·.key))[j]? = some e.key:=by rw [List.getElem?_map,g2] <;> rfl
    rw [h5,List.getElem?_map,g5] at h0
    rw [List.getElem?_map]
    cases hl : l[j]? with
    | none=>rw [hl] at h0; cases h0
    | some p =>
     rw [hl] at h0
     simp only [Option.map_some,Option.some.injEq] at h0
     simp only [Option.map_some,Option.some.injEq]
     exact hK.inj h0
   refine ⟨es.modify j fun e=>{ e with key:=VK k,val:=a.eval z },clock,?_,?_,?_,MapKept.stamped_modify h7 j _ (fun _ _=>rfl) (fun e' _ he'=>by rw [hej] at he'; injection he' with he'; subst he'; exact g5.symm)⟩
   ·simp only [Instr.mapUpdate,Sem.run_bind,hund,Result.andThen_ok,run_getMap h4,hK.plain P kt m.w _ k hkt,hfind,hstay,run_setMap h4]
   ·have hks:=mset_hit (g6 v) hlj
    have : (mset l k v).map (fun p=>VK p.1) = (l.map Prod.fst).map VK:=by rw [← hks,List.map_map] <;> rfl
    rw [this,List.map_map]
    have h5' : l.map (VK ∘ Prod.fst) = es.toList.map (·.key):=h5.symm
    rw [h5']
    apply List.ext_getElem?
    intro q
    simp only [List.getElem?_map,Array.getElem?_toList,Array.getElem?_modify]
    by_cases hq : j = q
    ·subst hq
     simp [hej,g5]
    ·simp [hq]
   ·rw [g6 v]
    have hvs : (es.modify j fun e=>{ e with key:=VK k,val:=a.eval z }).toList.map (·.val) = (es.toList.map (·.val)).set j (a.eval z):=by
     apply List.ext_getElem?
     intro q
     have hjl : j < es.size:=(Array.getElem?_eq_some_iff.1 hej).1
     simp only [List.getElem?_map,Array.getElem?_toList,Array.getElem?_modify,List.getElem?_set,List.length_map,Array.length_toList]
     by_cases hq : j = q
     ·subst hq
      simp [hjl]
     ·simp [hq]
    rw [hvs]
    exact repL_map_set h6 hz1
 have hU : Upd m { m with w:=wset m.w ri.b (.map es' clock') } ri.b:=Upd.set hS.h h2 (fun o h=>(h3 o h).elim)
 refine ⟨undef,{ m with w:=wset m.w ri.b (.map es' clock') },.inr ⟨?_,rfl⟩,hU.le hS.h,hU.keeps hS.h,?_,by simp only [Rep]⟩
 ·simp only [execOp,ho,hv,hy']
  simp only [Sem.run_bind,hrun,Result.andThen_ok,Sem.run_pure]
 ·refine hS.h.upd hU (k:=id) (ri:=ri) (blk:=mapOf K V (mset l k v)) hρ (blk_map hK h1 h2 h3 (wset_get h4) e5 (RepL.mono (hU.keeps hS.h) 1 _ _ e6) e7) (fun _=>rfl) (by rw [get_set,if_pos rfl]) ?_ hS.h.fresh
  intro j hj z hz
  rw [get_set,if_neg (Ne.symm hj)] at hz
  exact ⟨hz,hS.h.sole hp hρ h1 j hj z hz⟩
end
attribute [go_sem high] renB_mapOf ren_cmapOf
end Aw

namespace Aw
open Go
section
variable {κ ν : Type} {K : κ → AV} {V : ν → AV}
def itOf (K : κ → AV) (V : ν → AV) (l : List (κ × ν)) (cur : Option (κ × ν)) : ABlk:=.it (l.map fun p=>(K p.1,V p.2)) (cur.map fun p=>(K p.1,V p.2))
theorem renB_itOf (π : Nat → Nat) (l : List (κ × ν)) (c : Option (κ × ν)) : renB π (itOf K V l c) = itOf K V l c:=rfl
end
theorem prot_any {m : Mem} {hp : List (Nat × ABlk)} {nx k : Nat} {x : ABlk} {ri : RI} (hH : SimH m hp nx) (hg : get hp k = some x) (hr : m.ρ k = some ri) (hn : ri.isNil = false) (hlt : ri.b < m.w.heap.size) : SimH (m.prot ri.b) (del hp k) nx:=by
 refine ⟨fun id y hy=>?_,fun id id' y y' r r' hy hy'=>?_,hH.fresh,hH.Fold,fun b hb=>?_⟩
 ·rw [get_del] at hy
  split at hy
  ·cases hy
  rename_i hne
  obtain ⟨r,hr',hb⟩:=hH.blk id y hy
  refine ⟨r,hr',?_⟩
  have hm : MapOk m (m.prot ri.b) (fun i=>i):=⟨fun _ h=>.inl h,fun _ _=>rfl,fun _ _ h=>h,fun _ _ _=>rfl,fun _ _ h=>h⟩
  have:=BlkRep.map hm (fun _=>rfl) (fun hn' hP=>by
   rcases hP with hP | hP
   ·exact hb.noPr hn' hP
   ·exact hH.apart id k y _ r ri hy hg hr' hr (fun e=>hne e.symm) hn' hn hP) (fun _ _ h=>h) hb
  rw [renB_id] at this
  exact this
 ·rw [get_del] at hy hy'
  split at hy
  ·cases hy
  split at hy'
  ·cases hy'
  exact hH.apart id id' y y' r r' hy hy'
 ·rcases hb with hb | rfl
  ·exact hH.Pold b hb
  ·exact hlt
theorem AWT.pm {B : Bs} {r : Option Nat} {Θ : Mem → Prop} [Lasts Θ] {P : Program} {σ : St} {c : Code} {Q : AX → St → Prop} {t id : Nat} {ks vs : List AV}
  (hg : get σ.env t = some (.map id)) (hp : get σ.hp id = some (.amap ks vs)) (k : AWT B r Θ P c ⟨σ.n,set σ.env t (.cmap ks vs),del σ.hp id,σ.nx,σ.gl,σ.np,σ.df⟩ Q) : AWT B r Θ P c σ Q:=by
 intro m a hS ht
 obtain ⟨ri,hr,hb⟩:=hS.s.h.blk id _ hp
 have hn : ri.isNil = false:=hb.1
 have hlt:=hb.lt hn
 obtain ⟨h1,h2,h3,kv,vv,es,clock,h4,h5,h6,h7⟩:=hb
 have hH:=prot_any hS.s.h hp hr hn hlt
 have hk : m.keeps (m.prot ri.b):=prot_keeps
 have hs : SimT B (m.prot ri.b) a ⟨σ.n,set σ.env t (.cmap ks vs),del σ.hp id,σ.nx,σ.gl,σ.np,σ.df⟩:=by
  have h0:=hS.s.of hk hH
  refine ⟨⟨hH,h0.n,h0.defers,fun i x hx=>?_,h0.gl,h0.np⟩,hS.marks.le prot_leT,hS.base⟩
  rw [get_set] at hx
  split at hx
  ·rename_i e
   subst e
   injection hx with hx
   subst hx
   obtain ⟨g1,g2⟩:=hS.s.env t _ hg
   refine ⟨g1,?_⟩
   simp only [Rep] at g2 ⊢
   obtain ⟨_,ri',hr',hv⟩:=g2
   rw [hr] at hr'
   injection hr' with hr'
   subst hr'
   exact ⟨by omega,ri.b,kv,vv,es,clock,hv,.inr rfl,h4,h5,RepL.mono hk 1 _ _ h6,RepL.mono hk 1 _ _ h7⟩
  ·exact h0.env i x hx
 exact wpB_mono (k (m.prot ri.b) a hs (Lasts.le prot_leT ht)) fun _ _ _ hp=>hp.trans prot_leT
section
variable {κ ν : Type} {K : κ → AV} {V : ν → AV} {P : Program} {ds : List (Option Tmp)} {σ : St} {o : Oper} {KK : St → Prop} {Kp : AV → St → Prop} {ob : Prop}
theorem filter_all {es : Array MapEntry} : (es.filter fun e=>!(#[] : Array Nat).contains e.born) = es:=by
 rw [Array.filter_eq_self]
 intro x _
 simp
theorem range_sound {t kt et : TypeId} {i : TI} {x : Operand} {l : List (κ × ν)} (ho : o.op = .range t x) (hi : tinfo P t = some i) (hk : i.k = .map kt et) (hx : evE σ x = some (ob,cmapOf K V l)) (hob : ob) {m : Mem} {a : Act} (hS : Sim m a σ) :
  EffOk P m a o ⟨True,.ptr σ.nx 0,set σ.hp σ.nx (itOf K V l none),σ.nx + 1⟩:=by
 have hv:=evE_sound hS hx hob
 simp only [cmapOf,Rep] at hv
 obtain ⟨_,bm,kv,vv,es,clock,hv,hP,hh,⟨e1,e2,e3⟩,hkv,hvv⟩:=hv
 have hw : Alloc m.w (m.w.alloc (.mapIter (some bm) clock #[] clock)) (.mapIter (some bm) clock #[] clock):=⟨rfl,rfl,rfl,rfl⟩
 let ri : RI:=⟨m.w.heap.size,0,0,0,false⟩
 have hU:=Upd.alloc hS.h hw ri (fun _ _=>False) (fun _ _ h=>h.elim)
 have hum:=und_map hi hk
 have hbm:=hS.h.Pold _ hP
 refine ⟨.pointer (some ⟨m.w.heap.size,0,none⟩),m.with _ σ.nx ri (fun _ _=>False),.inl ?_,hU.le hS.h,hU.keeps hS.h,hS.h.alloc hw (fun _ _ h=>h.elim) rfl ?_,?_⟩
 ·simp only [execOp,ho]
  refine run_value ?_
  rw [hv]
  exact run_range_map m.w t kt et bm es clock hum hh
 ·refine ⟨rfl,?_,?_,rfl,bm,es,clock,#[],hP,(hw.old hbm).trans hh,e3,hw.new,⟨es.toList,by rw [filter_all],?_,?_⟩,fun k v h=>by cases h⟩
  ·intro h; have:=hS.h.Pold _ h; exact absurd this (Nat.lt_irrefl _)
  ·intro o h
   rcases h with h | h
   ·have:=hS.h.Fold _ o h; exact absurd this (Nat.lt_irrefl _)
   ·exact h
  ·rw [e1,List.map_map]
   exact RepL.mono (hU.keeps hS.h) 1 _ _ hkv
  ·rw [e2,List.map_map]
   exact RepL.mono (hU.keeps hS.h) 1 _ _ hvv
 ·simp only [Rep]
  exact ⟨trivial,ri,by simp [Mem.with],rfl⟩
theorem repL_erase {m : Mem} {n : Nat} : ∀ {xs : List AV} {vs : List Value} (j : Nat),RepL m n xs vs → RepL m n (xs.eraseIdx j) (vs.eraseIdx j)
 | [],vs,j,h=>by
  simp only [RepL] at h
  subst h
  simp [RepL]
 | x :: xs,vs,0,h=>by
  simp only [RepL] at h
  obtain ⟨v,rest,rfl,hv,hr⟩:=h
  simpa using hr
 | x :: xs,vs,j + 1,h=>by
  simp only [RepL] at h
  obtain ⟨v,rest,rfl,hv,hr⟩:=h
  simp only [List.eraseIdx_cons_succ,RepL]
  exact ⟨_,_,rfl,hv,repL_erase j hr⟩
theorem erase_map {α β : Type} (f : α → β) : ∀ (l : List α) (j : Nat),(l.map f).eraseIdx j = (l.eraseIdx j).map f
 | [],_=>rfl
 | _ :: _,0=>rfl
 | x :: l,j + 1=>by simp [erase_map f l j]
theorem filter_ne {α : Type} (f : α → Nat) : ∀ {l : List α} {j : Nat} {e : α},(l.map f).Nodup → l[j]? = some e → l.filter (fun x=>!(f x == f e)) = l.eraseIdx j
 | [],j,e,_,h=>by simp at h
 | x :: l,0,e,hn,h=>by
  simp only [List.getElem?_cons_zero,Option.some.injEq] at h
  subst h
  simp only [List.map_cons,List.nodup_cons] at hn
  simp only [List.eraseIdx_zero,List.tail_cons,List.filter_cons,beq_self_eq_true,Bool.not_true,Bool.false_eq_true,if_false]
  rw [List.filter_eq_self]
  intro y hy
  have : f y ≠ f x:=fun h=>hn.1 (h ▸ List.mem_map_of_mem hy)
  simpa using this
 | x :: l,j + 1,e,hn,h=>by
  simp only [List.getElem?_cons_succ] at h
  simp only [List.map_cons,List.nodup_cons] at hn
  have hne : f x ≠ f e:=fun h'=>hn.1 (h' ▸ List.mem_map_of_mem (List.mem_of_getElem? h))
  have : (!(f x == f e)) = true:=by simpa using hne
  rw [List.filter_cons,if_pos this,List.eraseIdx_cons_succ,filter_ne f hn.2 h]
theorem next_sound {x : Operand} {id : Nat} {l : List (κ × ν)} {cur : Option (κ × ν)} (ho : o.op = .next x false) (hd : dstOk σ.n o.dst = true) (hx : evE σ x = some (ob,.ptr id 0)) (hob : ob) (hp : get σ.hp id = some (itOf K V l cur))
  (h0 : l = [] → KK (σ.put o.dst (.tup [.bool false])))
  (h1 : ∀ l1 p l2,l = l1 ++ p :: l2 → KK (St.put ⟨σ.n,σ.env,set σ.hp id (itOf K V (l1 ++ l2) (some p)),σ.nx,σ.gl,σ.np,σ.df⟩ o.dst (.tup [.bool true,K p.1,V p.2]))) : SemStep P σ o KK Kp:=by
 intro m a N Q hS hN _
 have hv:=evE_sound hS hx hob
 simp only [Rep] at hv
 obtain ⟨_,ri,hρ,hv⟩:=hv
 obtain ⟨ri',hρ',hb⟩:=hS.h.blk id _ hp
 rw [hρ] at hρ'
 injection hρ' with hρ'
 subst hρ'
 obtain ⟨b1,b2,b3,b4,bm,es,clock,seen,hP,hh,hst,hit,⟨el,e1,e2,e3⟩,hcur⟩:=hb
 have hne : bm ≠ ri.b:=fun e=>b2 (e ▸ hP)
 have hrlt:=lt_of_getElem? hit
 unfold Oper.wp
 simp only [execOp,ho,hv]
 have hold : ∀ x ∈ es.toList,x.born < clock:=hst.1
 have hnext : ∀ (ty : TypeId),(Instr.next (.pointer (some ⟨ri.b,0,none⟩)) false ty).run P m.w =
   (do
    let L:=es.filter fun e=>!seen.contains e.born
    let candidates:=(if L.isEmpty then #[none] else #[]) ++ L.map some
    match candidates[← choose (.mapNext candidates.size)]? with
    | some (some e) =>
     setObj ri.b (.mapIter (some bm) clock (seen.push e.born) clock)
     pure (.tuple #[.bool true,e.key,e.val])
    | some none=>pure (.tuple #[.bool false])
    | none => stuck "Next: no such candidate" : Sem Value).run P m.w := by
  intro ty
  have hmem : ∀ x ∈ (Array.filter (fun e=>!seen.contains e.born) es).toList,x.born < clock:=fun x hx=>hold x (by simp at hx ⊢; exact hx.1)
  simp only [Instr.next,getObj,Sem.run_bind,Sem.run,hit,hh,Result.andThen,next_test_false seen es clock clock hold (Nat.le_refl _),Bool.false_eq_true,if_false]
  generalize Array.filter (fun e=>!seen.contains e.born) es = L at hmem ⊢
  have e1 : L.filter (fun x=>decide (x.born < clock)) = L:=Array.filter_eq_self.2 (fun x hx=>by simpa using hmem x (by simpa using hx))
  have e2 : L.filter (fun x=>decide (x.born ≥ clock)) = #[]:=by
   rw [Array.filter_eq_empty_iff]
   intro x hx
   have:=hmem x (by simpa using hx)
   simp
   omega
  simp only [e1,e2,Array.append_empty]
  rfl
 obtain ⟨L,hL⟩ : ∃ L,L = es.filter fun e=>!seen.contains e.born:=⟨_,rfl⟩
 rw [← hL] at e1
 have hnL : (L.toList.map (·.born)).Nodup:=by
  have : L.toList = es.toList.filter fun e=>!seen.contains e.born:=by rw [hL]; simp
  rw [this]
  exact (List.Sublist.map _ List.filter_sublist).nodup hst.2.1
 by_cases hz : L.size = 0
 ·have hLe : L = #[]:=Array.eq_empty_of_size_eq_zero hz
  have hl : l = []:=by
   rw [e1,hLe] at e2
   cases l with
   | nil=>rfl
   | cons p l=>simp [RepL] at e2
  have hrun : ∀ ty,(Instr.next (.pointer (some ⟨ri.b,0,none⟩)) false ty).run P m.w = .ok (.tuple #[.bool false]) m.w:=by
   intro ty
   rw [hnext ty,← hL,hLe]
   simp [choose,Sem.run,Question.forced]
  rw [run_value (hrun _)]
  exact hN m _ _ (.refl m) (.refl m) (hS.put (.refl m) hS.h hd (by simp [Rep,RepL])) .put .put (h0 hl)
 ·have hne' : L.isEmpty = false:=by simp [Array.isEmpty,hz]
  have hch : ∃ (j : Nat) (n : Nat),j < L.size ∧ (choose (Question.mapNext L.size)).run P m.w = .ok j { m.w with drawn:=m.w.drawn + n }:=by
   by_cases hf : L.size ≤ 1
   ·exact ⟨0,0,by omega,by simp [choose,Sem.run,Question.forced,hf]⟩
   ·exact ⟨_,1,Nat.mod_lt _ (by omega),by
     simp only [choose,Sem.run,Question.forced,decide_eq_true_eq,hf,if_false,Question.cut]
     rfl⟩
  obtain ⟨j,n,hj,hrunc⟩:=hch
  obtain ⟨e,he⟩ : ∃ e,e = L[j]:=⟨_,rfl⟩
  have hej : L.toList[j]? = some e:=by rw [Array.getElem?_toList,Array.getElem?_eq_getElem hj,he]
  obtain ⟨md,hmd⟩ : ∃ md : Mem,md = { m with w:={ m.w with drawn:=m.w.drawn + n } }:=⟨_,rfl⟩
  have hkd : m.keeps md:=by rw [hmd] <;> exact ⟨rfl,fun _ h=>h,fun _ _=>rfl,fun _ _ h=>h,fun _ _ _=>rfl,fun _ _ h=>h⟩
  have hld : m.le md:=by rw [hmd] <;> exact ⟨rfl,rfl,rfl,Nat.le_refl _,rfl,fun _ _=>rfl,fun _ _ h=>h,fun _ _ _=>rfl,fun _ _ _ h=>h,rfl,fun _ _ _ h=>h⟩
  have hheap : md.w.heap = m.w.heap:=by rw [hmd]
  have hHd : SimH md σ.hp σ.nx:=by
   refine ⟨fun i x hx=>?_,by rw [hmd]; exact hS.h.apart,by rw [hmd]; exact hS.h.fresh,by rw [hmd]; exact hS.h.Fold,by rw [hmd]; exact hS.h.Pold⟩
   obtain ⟨r,g1,g2⟩:=hS.h.blk i x hx
   exact ⟨r,by rw [hmd]; exact g1,g2.mono hkd (fun h=>by rw [hmd] at h; exact h) (fun _ h=>by rw [hmd] at h; exact h) (fun _=>by rw [hheap])⟩
  have hPd : ¬ md.Pr ri.b:=by rw [hmd]; exact b2
  have hFd : ∀ o,¬ md.F ri.b o:=by rw [hmd]; exact b3
  have hρd : md.ρ id = some ri:=by rw [hmd]; exact hρ
  have hU : Upd md { md with w:=wset md.w ri.b (.mapIter (some bm) clock (seen.push e.born) clock) } ri.b:=Upd.set hHd hPd (fun o h=>(hFd o h).elim)
  have hrun : ∀ ty,(Instr.next (.pointer (some ⟨ri.b,0,none⟩)) false ty).run P m.w = .ok (.tuple #[.bool true,e.key,e.val]) (wset md.w ri.b (.mapIter (some bm) clock (seen.push e.born) clock)):=by
   intro ty
   rw [hnext ty,← hL]
   simp only [hne',Bool.false_eq_true,if_false,Array.empty_append,Array.size_map,Sem.run_bind,hrunc,Result.andThen_ok,Array.getElem?_map,Array.getElem?_eq_getElem hj,Option.map_some]
   rw [hmd,he]
   simp only [setObj,Sem.run,hit,Result.andThen_ok,wset]
   rfl
  rw [run_value (hrun _)]
  have hlen : l.length = L.toList.length:=by
   have:=e2.length
   rw [e1] at this
   simpa using this.symm
  have hjl : j < l.length:=by rw [hlen]; simpa using hj
  have hsp : l = l.take j ++ l[j] :: l.drop (j + 1):=by rw [← List.drop_eq_getElem_cons hjl,List.take_append_drop]
  have her : l.eraseIdx j = l.take j ++ l.drop (j + 1):=List.eraseIdx_eq_take_drop_succ l j
  have hkey : Rep m 1 (K l[j].1) e.key:=by
   obtain ⟨v,hv1,hv2⟩:=e2.at j (by simpa using hjl)
   rw [e1,List.getElem?_map,hej] at hv1
   simp only [Option.map_some,Option.some.injEq] at hv1
   rw [hv1]
   simpa using hv2
  have hval : Rep m 1 (V l[j].2) e.val:=by
   obtain ⟨v,hv1,hv2⟩:=e3.at j (by simpa using hjl)
   rw [e1,List.getElem?_map,hej] at hv1
   simp only [Option.map_some,Option.some.injEq] at hv1
   rw [hv1]
   simpa using hv2
  have hk2 : m.keeps { md with w:=wset md.w ri.b (.mapIter (some bm) clock (seen.push e.born) clock) }:=hkd.trans (hU.keeps hHd)
  have hfil : (es.filter fun x=>!(seen.push e.born).contains x.born).toList = L.toList.eraseIdx j:=by
   rw [← filter_ne (·.born) hnL hej,hL]
   simp only [Array.toList_filter,List.filter_filter,Array.contains_push]
   congr 1
   funext x
   rw [Bool.not_or,Bool.and_comm]
  have hemem : e ∈ es.toList:=by
   have : e ∈ L.toList:=List.mem_of_getElem? hej
   rw [hL] at this
   simp at this
   simpa using this.1
  have hblk : BlkRep { md with w:=wset md.w ri.b (.mapIter (some bm) clock (seen.push e.born) clock) } ri (itOf K V (l.eraseIdx j) (some l[j])):=by
   refine ⟨b1,hPd,hFd,b4,bm,es,clock,seen.push e.born,?_,?_,hst,wset_get (by rw [hheap]; exact hit),⟨L.toList.eraseIdx j,hfil.symm,?_,?_⟩,?_⟩
   ·rw [hmd]; exact hP
   ·exact (wset_other hne).trans (by rw [hheap]; exact hh)
   ·have:=repL_erase j (RepL.mono hk2 1 _ _ e2)
    rw [e1] at this
    simp only [List.map_map] at this
    rw [erase_map,erase_map] at this
    simpa using this
   ·have:=repL_erase j (RepL.mono hk2 1 _ _ e3)
    rw [e1] at this
    simp only [List.map_map] at this
    rw [erase_map,erase_map] at this
    simpa using this
   ·intro k v hkv
    simp only [Option.map_some,Option.some.injEq,Prod.mk.injEq] at hkv
    obtain ⟨rfl,rfl⟩:=hkv
    exact ⟨e,hemem,⟨seen,rfl⟩,Rep.mono hk2 1 _ _ hkey,Rep.mono hk2 1 _ _ hval⟩
  have hH2 : SimH { md with w:=wset md.w ri.b (.mapIter (some bm) clock (seen.push e.born) clock) } (set σ.hp id (itOf K V (l.eraseIdx j) (some l[j]))) σ.nx:=by
   refine hHd.upd hU (k:=id) (ri:=ri) (blk:=itOf K V (l.eraseIdx j) (some l[j])) hρd hblk (fun _=>rfl) (by rw [get_set,if_pos rfl]) ?_ hHd.fresh
   intro i hi z hz'
   rw [get_set,if_neg (Ne.symm hi)] at hz'
   exact ⟨hz',hHd.sole hp hρd b1 i hi z hz'⟩
  rw [her] at hH2
  refine hN _ _ _ (hld.trans (hU.le hHd)) hk2 (hS.put hk2 hH2 hd ?_) (.eff (by rw [ho]; rfl) (by rw [ho]; rfl)) .put (h1 _ _ _ hsp)
  simp only [Rep,RepL]
  exact ⟨_,rfl,_,_,rfl,rfl,_,_,rfl,Rep.down (Nat.zero_le 1) _ _ (Rep.mono hk2 1 _ _ hkey),_,_,rfl,Rep.down (Nat.zero_le 1) _ _ (Rep.mono hk2 1 _ _ hval),rfl⟩
theorem entry_sound {x : Operand} {id : Nat} {l : List (κ × ν)} {p : κ × ν} (ho : o.op = .entry x) (hx : evE σ x = some (ob,.ptr id 0)) (hob : ob) (hp : get σ.hp id = some (itOf K V l (some p))) {m : Mem} {a : Act} (hS : Sim m a σ) :
  EffOk P m a o ⟨True,.tup [K p.1,V p.2],σ.hp,σ.nx⟩:=by
 have hv:=evE_sound hS hx hob
 simp only [Rep] at hv
 obtain ⟨_,ri,hρ,hv⟩:=hv
 obtain ⟨ri',hρ',hb⟩:=hS.h.blk id _ hp
 rw [hρ] at hρ'
 injection hρ' with hρ'
 subst hρ'
 obtain ⟨b1,b2,b3,b4,bm,es,clock,seen,hP,hh,hst,hit,_,hcur⟩:=hb
 obtain ⟨e,q1,⟨s',rfl⟩,q3,q4⟩:=hcur _ _ rfl
 refine ⟨.tuple #[e.key,e.val],m,.inl ?_,.refl m,.refl m,hS.h,?_⟩
 ·simp only [execOp,ho]
  refine run_value ?_
  rw [hv]
  have hf : es.find? (·.born == e.born) = some e:=by rw [← Array.find?_toList]; exact find_born e es.toList hst.2.1 q1
  simp only [Instr.entry,getObj,Sem.run_bind,Sem.run,hit,hh,Result.andThen,Array.back?_push,bne_self_eq_false,Bool.false_eq_true,if_false,hf]
  rfl
 ·simp only [Rep,RepL]
  exact ⟨_,rfl,_,_,rfl,Rep.down (Nat.zero_le 1) _ _ q3,_,_,rfl,Rep.down (Nat.zero_le 1) _ _ q4,rfl⟩
end
attribute [go_sem high] renB_itOf
end Aw
