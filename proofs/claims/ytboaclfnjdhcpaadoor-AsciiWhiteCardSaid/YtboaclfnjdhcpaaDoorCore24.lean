/- Rules of a calculus of walks: no condition of its own. -/
import Derived.Test.YtboaclfnjdhcpaaDoorCore23
import Derived.OrdersIn
import Derived.Laws.IdiomRangeMap
namespace Aw
open Go
section
variable {B : Bs} {r : Option Nat} {Θ : Mem → Prop} {P : Program} {ops : Array Oper} {K : St → Prop} {Kp : AV → St → Prop}
theorem noDefers_at {i : Nat} {o : Oper} (hn : noDefers ops.toList = true) (ho : ops[i]? = some o) : notDefer o.op = true :=
 List.all_eq_true.1 hn o (by rw [← Array.getElem?_toList] at ho; exact List.mem_of_getElem? ho)
theorem GAny_soundT {X : Exit → Act → World → Prop} (m0 : Mem) (hn : noDefers ops.toList = true)
  (hK : ∀ m a σ,m0.leT m → SimT B m a σ → K σ → X .normal a m.w) (hKp : ∀ m a σ x v,m0.leT m → SimT B m a σ → Rep m 0 x v → Kp x σ → X (.panic [{ v,recovered:=false }]) a m.w) :
  ∀ (f : Nat) (l : Array Bool) (σ : St),GAny P ops K Kp f l σ → ∀ m a,m0.leT m → SimT B m a σ → wpAnyIn (Fr r) 0 P .any ops X f l a m.w
 | 0,_,σ,h,m,a,hle,hS=>⟨h.1,hK m a σ hle hS h.2⟩
 | f + 1,l,σ,h,m,a,hle,hS=>by
  refine ⟨fun h0=>hK m a σ hle hS (h.1 h0),fun i hi=>?_⟩
  have hi':=h.2 i hi
  unfold GStep at hi'
  unfold wpOpIn
  cases ho : ops[i]? with
  | none =>
   rw [ho] at hi'
   exact GAny_soundT m0 hn hK hKp f _ σ hi' m a hle hS
  | some o =>
   rw [ho] at hi'
   have hnd:=noDefers_at hn ho
   have hh:=hi' m { a with defers:=B.ds } (fun a' w'=>∃ m' σ',m'.w = w' ∧ m.le m' ∧ Sim m' a' σ' ∧ Keeps o σ σ' ∧ GAny P ops K Kp f (l.setIfInBounds i true) σ')
    (fun e a' w'=>∃ m' σ' x v,m'.w = w' ∧ e = .panic [{ v,recovered:=false }] ∧ m.le m' ∧ Sim m' { a with defers:=B.ds } σ' ∧ Rep m' 0 x v ∧ Kp x σ') hS.s
    (fun m' a' σ' h1 _ h2 h3 _ h4=>⟨m',σ',rfl,h1,h2,h3,h4⟩) (fun m' σ' x v h1 _ h2 h3 _ h4=>⟨m',σ',x,v,rfl,rfl,h1,h2,h3,h4⟩)
   have fin : ∀ a' w',(∃ m' σ',m'.w = w' ∧ m.le m' ∧ Sim m' a' σ' ∧ Keeps o σ σ' ∧ GAny P ops K Kp f (l.setIfInBounds i true) σ') →
     a'.defers.length = B.ds.length ∧ (a'.defers = B.ds → wpAnyIn (Fr r) 0 P .any ops X f (l.setIfInBounds i true) { a' with defers:=a.defers } w'):=by
    rintro a' w' ⟨m',σ',rfl,h1,h2,h3,h4⟩
    refine ⟨by rw [h2.defers.len,hS.s.defers.len,h3.df],fun hd=>GAny_soundT m0 hn hK hKp f _ σ' h4 m' _ (hle.trans h1.t) ⟨?_,hS.marks.le h1.t,Nat.le_trans hS.base h1.size⟩⟩
    have : ({ ({ a' with defers:=a.defers } : Act) with defers:=B.ds } : Act) = a':=by
     cases a'
     simp only at hd
     subst hd
     rfl
    rw [this]
    exact h2
   simp only
   have hw : Region.wanted o (yielded ops ({ a with defers:=B.ds } : Act).tmps) = Region.wanted o (yielded ops a.tmps):=rfl
   split
   ·rename_i hwt
    rw [if_pos (hw.trans hwt)] at hh
    refine wpIn_of_wp hnd hh fin ?_ ?_
    ·rintro e w' ⟨m',σ',x,v,rfl,rfl,h1,h2,h3,h4⟩
     exact hKp m' a σ' x v (hle.trans h1.t) ⟨h2,hS.marks.le h1.t,Nat.le_trans hS.base h1.size⟩ h3 h4
    ·rintro ⟨a',w',_,_,_,_,_,h,_⟩
     cases h
   ·rename_i hwt
    rw [if_neg (fun h=>hwt (hw ▸ h))] at hh
    have hg:=(fin _ _ hh).2 (by cases o.dst <;> rfl)
    refine ⟨fun _ _=>trivial,?_⟩
    have : ({ ({ a with defers:=B.ds } : Act).put o.dst undef with defers:=a.defers } : Act) = a.put o.dst undef:=by cases o.dst <;> rfl
    rw [this] at hg
    exact hg
theorem AWT.ofG {σ : St} {Q : AX → St → Prop} {id : Nat} (hm : P.follows .mixedOrders = true) (hn : noDefers ops.toList = true) (h : AWG P ops σ Q) : AWT B r Θ P (.region id ops true) σ Q:=fun m a hS _=>by
 refine wpB.of (wpIn_region_any hm ?_)
 let md : Mem:={ m with w:={ m.w with drawn:=m.w.drawn + 1 } }
 have hk : m.keeps md:=⟨rfl,fun _ h=>h,fun _ _=>rfl,fun _ _ h=>h,fun _ _ _=>rfl,fun _ _ h=>h⟩
 have hl : m.le md:=⟨rfl,rfl,rfl,Nat.le_refl _,rfl,fun _ _=>rfl,fun _ _ h=>h,fun _ _ _=>rfl,fun _ _ _ h=>h,rfl,fun _ _ _ h=>h⟩
 have hH : SimH md σ.hp σ.nx:=by
  refine ⟨fun i x hx=>?_,hS.s.h.apart,hS.s.h.fresh,hS.s.h.Fold,hS.s.h.Pold⟩
  obtain ⟨ri,h1,h2⟩:=hS.s.h.blk i x hx
  exact ⟨ri,h1,h2.mono hk (fun h=>h) (fun _ h=>h) (fun _=>rfl)⟩
 have hS' : SimT B md a σ:=⟨hS.s.of hk hH,hS.marks.le hl.t,hS.base⟩
 refine GAny_soundT (r:=r) (K:=fun σ=>∃ σ2,Eqv σ σ2 ∧ Q .normal σ2) (Kp:=fun x σ'=>Q (.panic x) σ') md hn ?_ ?_ ops.size _ σ h md a (.refl md) hS'
 ·rintro m' a' σ' hle hS' ⟨σ2,he,hq⟩
  exact ⟨m',σ2,.normal,rfl,hl.t.trans hle,⟨hS'.s.eqv he,hS'.marks,hS'.base⟩,rfl,hq⟩
 ·intro m' a' σ' x v hle hS' hx h'
  exact ⟨m',σ',.panic x,rfl,hl.t.trans hle,hS',⟨v,rfl,hx⟩,h'⟩
theorem PI.round {F : Option Code → St → Prop} : PI (fun ax σ=>∃ j,jumpOf ax = some j ∧ F j σ):=by
 intro x σ σ'
 simp [jumpOf]
end
end Aw

namespace Aw
open Go
section
variable {κ ν : Type} [DecidableEq κ] {kind : TypeDesc} {VK : κ → Value} {K : κ → AV} {V : ν → AV}
end
section
variable {κ ν : Type} {K : κ → AV} {V : ν → AV}
def mapOf (K : κ → AV) (V : ν → AV) (l : List (κ × ν)) : ABlk:=.amap (l.map fun p=>K p.1) (l.map fun p=>V p.2)
def cmapOf (K : κ → AV) (V : ν → AV) (l : List (κ × ν)) : AV:=.cmap (l.map fun p=>K p.1) (l.map fun p=>V p.2)
theorem renB_mapOf (π : Nat → Nat) (l : List (κ × ν)) : renB π (mapOf K V l) = mapOf K V l:=rfl
theorem ren_cmapOf (π : Nat → Nat) (l : List (κ × ν)) : ren π (cmapOf K V l) = cmapOf K V l:=rfl
end
section
variable {κ ν : Type} [DecidableEq κ] {kind : TypeDesc} {VK : κ → Value} {K : κ → AV} {V : ν → AV}
variable {P : Program} {ds : List (Option Tmp)} {σ : St} {o : Oper} {KK : St → Prop} {Kp : AV → St → Prop} {ob ob' : Prop}
end
attribute [go_sem high] renB_mapOf ren_cmapOf
end Aw

namespace Aw
open Go
section
variable {κ ν : Type} {K : κ → AV} {V : ν → AV}
def itOf (K : κ → AV) (V : ν → AV) (l : List (κ × ν)) (cur : Option (κ × ν)) : ABlk:=.it (l.map fun p=>(K p.1,V p.2)) (cur.map fun p=>(K p.1,V p.2))
theorem renB_itOf (π : Nat → Nat) (l : List (κ × ν)) (c : Option (κ × ν)) : renB π (itOf K V l c) = itOf K V l c:=rfl
end
section
variable {κ ν : Type} {K : κ → AV} {V : ν → AV} {P : Program} {ds : List (Option Tmp)} {σ : St} {o : Oper} {KK : St → Prop} {Kp : AV → St → Prop} {ob : Prop}
end
attribute [go_sem high] renB_itOf
end Aw
