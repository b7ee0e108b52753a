/- Rules of a calculus of walks: no condition of its own. -/
import Derived.Tactics
import Derived.Orders
import Derived.Below
import Derived.MapKept
import Derived.Lib.Strings
import Derived.Laws.BytesArg
import Derived.Laws.Tables
namespace Aw
open Go

inductive AV where
 | bool (b : Bool)
 | int (k : IntKind) (n : Int)
 | str (s : List UInt8)
 | agg (cs : List AV)
 | tup (vs : List AV)
 | sl (es : List (List AV))
 | row (id off len : Nat)
 | ptr (id off : Nat)
 | rptr (id idx c : Nat)
 | cptr (cs : List AV)
 | tptr (cs : List AV)
 | clos (f : FuncId) (caps : List AV)
 | iface (t : TypeId) (v : AV)
 | ite (c : Bool) (x y : AV)
 | opt (c : Bool) (x : AV)
 | map (id : Nat)
 | cmap (ks vs : List AV)
 | raw (v : Value)
 | top

structure RI where
 b : Nat
 o : Nat
 cap : Nat
 sz : Nat
 isNil : Bool

structure Mem where
 w : World
 F : Nat → Nat → Prop
 Pr : Nat → Prop
 ρ : Nat → Option RI
 np : Nat

def rowVal (ri : RI) (off len : Nat) (v : Value) : Prop :=
 (ri.isNil = true ∧ off = 0 ∧ len = 0 ∧ v = .slice none 0 0) ∨
 (ri.isNil = false ∧ off + len ≤ ri.cap ∧ off < ri.cap ∧ v = .slice (some ⟨ri.b,ri.o + off * ri.sz,none⟩) len (ri.cap - off)) ∨
 (ri.isNil = false ∧ off = ri.cap ∧ len = 0 ∧ ∃ a,v = .slice (some a) 0 0)

def entriesAre (ks vs : List Value) (es : Array MapEntry) (clock : Nat) : Prop:=es.toList.map (·.key) = ks ∧ es.toList.map (·.val) = vs ∧ MapKept.Stamped es clock

mutual
def Rep (m : Mem) (k : Nat) : AV → Value → Prop
 | .bool b,v=>v = .bool b
 | .int ki n,v=>v = .int ki n
 | .str s,v=>v = .string ⟨s.toArray⟩
 | .agg cs,v=>∃ vs,v = .agg vs ∧ RepL m k cs vs.toList
 | .tup cs,v=>∃ vs,v = .tuple vs ∧ RepL m k cs vs.toList
 | .sl es,v=>(es = [] ∧ ∃ a c,v = .slice a 0 c) ∨ (∃ b o c sz,v = .slice (some ⟨b,o,none⟩) es.length c ∧ es.length ≤ c ∧ RepE m es b o sz)
 | .row id off len,v=>k = 0 ∧ ∃ ri,m.ρ id = some ri ∧ rowVal ri off len v
 | .ptr id off,v=>k = 0 ∧ ∃ ri,m.ρ id = some ri ∧ v = .pointer (some ⟨ri.b,off,none⟩)
 | .rptr id idx c,v=>k = 0 ∧ ∃ ri,m.ρ id = some ri ∧ v = .pointer (some ⟨ri.b,ri.o + idx * ri.sz + c,none⟩)
 | .cptr cs,v=>∃ b o,v = .pointer (some ⟨b,o,none⟩) ∧ RepC m cs b o
 | .tptr cs,v=>k ≤ 1 ∧ ∃ b o,v = .pointer (some ⟨b,o,none⟩) ∧ RepP m cs b o
 | .clos f caps,v=>∃ vs,v = .func (.func f) #[] vs ∧ RepL m k caps vs.toList
 | .iface t x,v=>∃ u,v = .iface t u ∧ Rep m k x u
 | .ite c x y,v=>(c = true → Rep m k x v) ∧ (c = false → Rep m k y v)
 | .opt c x,v=>(c = true → Rep m k x v) ∧ (c = false → v = undef)
 | .map id,v=>k = 0 ∧ ∃ ri,m.ρ id = some ri ∧ v = .map (some ri.b)
 | .cmap ks vs,v=>k ≤ 1 ∧ ∃ b kv vv es clock,v = .map (some b) ∧ m.Pr b ∧ m.w.heap[b]? = some (.map es clock) ∧ entriesAre kv vv es clock ∧ RepL m 1 ks kv ∧ RepL m 1 vs vv
 | .raw u,v=>v = u
 | .top,_=>True
def RepL (m : Mem) (k : Nat) : List AV → List Value → Prop
 | [],vs=>vs = []
 | x :: xs,vs=>∃ v rest,vs = v :: rest ∧ Rep m k x v ∧ RepL m k xs rest
def RepC (m : Mem) : List AV → Nat → Nat → Prop
 | [],_,_=>True
 | x :: xs,b,o=>m.F b o ∧ (∃ v,m.w.cell? ⟨b,o,none⟩ = some v ∧ Rep m 2 x v) ∧ RepC m xs b (o + 1)
def RepP (m : Mem) : List AV → Nat → Nat → Prop
 | [],_,_=>True
 | x :: xs,b,o=>m.Pr b ∧ (∃ v,m.w.cell? ⟨b,o,none⟩ = some v ∧ Rep m 1 x v) ∧ RepP m xs b (o + 1)
def RepE (m : Mem) : List (List AV) → Nat → Nat → Nat → Prop
 | [],_,_,_=>True
 | e :: es,b,o,sz=>e.length = sz ∧ RepC m e b o ∧ RepE m es b (o + sz) sz
end

structure Mem.le (m m' : Mem) : Prop where
 os : m'.w.os = m.w.os
 tape : m'.w.tape = m.w.tape
 output : m'.w.output = m.w.output
 size : m.w.heap.size ≤ m'.w.heap.size
 Pr : m'.Pr = m.Pr
 block : ∀ b,m.Pr b → m'.w.heap[b]? = m.w.heap[b]?
 F : ∀ b o,m.F b o → m'.F b o
 cell : ∀ b o,m.F b o → m'.w.cell? ⟨b,o,none⟩ = m.w.cell? ⟨b,o,none⟩
 new : ∀ b o,m.Pr b → m'.F b o → m.F b o
 np : m'.np = m.np
 pin : ∀ id ri,id < m.np → m.ρ id = some ri → m'.ρ id = some ri

theorem Mem.le.refl (m : Mem) : m.le m:=⟨rfl,rfl,rfl,Nat.le_refl _,rfl,fun _ _=>rfl,fun _ _ h=>h,fun _ _ _=>rfl,fun _ _ _ h=>h,rfl,fun _ _ _ h=>h⟩
theorem Mem.le.trans {m m' m'' : Mem} (h : m.le m') (h' : m'.le m'') : m.le m'' where
 os:=h'.os.trans h.os
 tape:=h'.tape.trans h.tape
 output:=h'.output.trans h.output
 size:=Nat.le_trans h.size h'.size
 Pr:=h'.Pr.trans h.Pr
 block b hb:=(h'.block b (by rw [h.Pr]; exact hb)).trans (h.block b hb)
 F b o hf:=h'.F b o (h.F b o hf)
 cell b o hf:=(h'.cell b o (h.F b o hf)).trans (h.cell b o hf)
 new b o hp hf:=h.new b o hp (h'.new b o (by rw [h.Pr]; exact hp) hf)
 np:=h'.np.trans h.np
 pin id ri hi hr:=h'.pin id ri (by rw [h.np]; exact hi) (h.pin id ri hi hr)

structure Mem.keeps (m m' : Mem) : Prop where
 np : m'.np = m.np
 Pr : ∀ b,m.Pr b → m'.Pr b
 block : ∀ b,m.Pr b → m'.w.heap[b]? = m.w.heap[b]?
 F : ∀ b o,m.F b o → m'.F b o
 cell : ∀ b o,m.F b o → m'.w.cell? ⟨b,o,none⟩ = m.w.cell? ⟨b,o,none⟩
 ρ : ∀ id ri,m.ρ id = some ri → m'.ρ id = some ri

theorem Mem.keeps.refl (m : Mem) : m.keeps m:=⟨rfl,fun _ h=>h,fun _ _=>rfl,fun _ _ h=>h,fun _ _ _=>rfl,fun _ _ h=>h⟩

theorem Mem.keeps.trans {m m' m'' : Mem} (h : m.keeps m') (h' : m'.keeps m'') : m.keeps m'' where
 np:=h'.np.trans h.np
 Pr b hb:=h'.Pr b (h.Pr b hb)
 block b hb:=(h'.block b (h.Pr b hb)).trans (h.block b hb)
 F b o hf:=h'.F b o (h.F b o hf)
 cell b o hf:=(h'.cell b o (h.F b o hf)).trans (h.cell b o hf)
 ρ id ri hr:=h'.ρ id ri (h.ρ id ri hr)

theorem cell?_of_block {w w' : World} {b o : Nat} (h : w'.heap[b]? = w.heap[b]?) : w'.cell? ⟨b,o,none⟩ = w.cell? ⟨b,o,none⟩:=by
 simp only [World.cell?,h]

mutual
theorem Rep.mono {m m' : Mem} (h : m.keeps m') : ∀ (k : Nat) (x : AV) (v : Value),Rep m k x v → Rep m' k x v
 | _,.bool _,_,hx=>by simpa only [Rep] using hx
 | _,.int _ _,_,hx=>by simpa only [Rep] using hx
 | _,.str _,_,hx=>by simpa only [Rep] using hx
 | k,.agg cs,v,hx=>by
  simp only [Rep] at hx ⊢
  obtain ⟨vs,rfl,hl⟩:=hx
  exact ⟨vs,rfl,RepL.mono h k cs _ hl⟩
 | k,.tup cs,v,hx=>by
  simp only [Rep] at hx ⊢
  obtain ⟨vs,rfl,hl⟩:=hx
  exact ⟨vs,rfl,RepL.mono h k cs _ hl⟩
 | k,.sl es,v,hx=>by
  simp only [Rep] at hx ⊢
  rcases hx with hx | ⟨b,o,c,sz,rfl,hc,he⟩
  ·exact .inl hx
  ·exact .inr ⟨b,o,c,sz,rfl,hc,RepE.mono h es b o sz he⟩
 | k,.row id off len,v,hx=>by
  simp only [Rep] at hx ⊢
  obtain ⟨hk,ri,hr,hv⟩:=hx
  exact ⟨hk,ri,h.ρ id ri hr,hv⟩
 | k,.ptr id off,v,hx=>by
  simp only [Rep] at hx ⊢
  obtain ⟨hk,ri,hr,hv⟩:=hx
  exact ⟨hk,ri,h.ρ id ri hr,hv⟩
 | k,.rptr id idx c,v,hx=>by
  simp only [Rep] at hx ⊢
  obtain ⟨hk,ri,hr,hv⟩:=hx
  exact ⟨hk,ri,h.ρ id ri hr,hv⟩
 | k,.cptr cs,v,hx=>by
  simp only [Rep] at hx ⊢
  obtain ⟨b,o,rfl,hc⟩:=hx
  exact ⟨b,o,rfl,RepC.mono h cs b o hc⟩
 | k,.tptr cs,v,hx=>by
  simp only [Rep] at hx ⊢
  obtain ⟨hk,b,o,rfl,hc⟩:=hx
  exact ⟨hk,b,o,rfl,RepP.mono h cs b o hc⟩
 | k,.clos f caps,v,hx=>by
  simp only [Rep] at hx ⊢
  obtain ⟨vs,rfl,hl⟩:=hx
  exact ⟨vs,rfl,RepL.mono h k caps _ hl⟩
 | k,.iface t x,v,hx=>by
  simp only [Rep] at hx ⊢
  obtain ⟨u,rfl,hu⟩:=hx
  exact ⟨u,rfl,Rep.mono h k x u hu⟩
 | k,.ite c x y,v,hx=>by
  simp only [Rep] at hx ⊢
  exact ⟨fun hc=>Rep.mono h k x v (hx.1 hc),fun hc=>Rep.mono h k y v (hx.2 hc)⟩
 | k,.opt c x,v,hx=>by
  simp only [Rep] at hx ⊢
  exact ⟨fun hc=>Rep.mono h k x v (hx.1 hc),hx.2⟩
 | k,.map id,v,hx=>by
  simp only [Rep] at hx ⊢
  obtain ⟨hk,ri,hr,hv⟩:=hx
  exact ⟨hk,ri,h.ρ id ri hr,hv⟩
 | k,.cmap ks vs,v,hx=>by
  simp only [Rep] at hx ⊢
  obtain ⟨hk1,b,kv,vv,es,clock,rfl,hp,hb,he,hk,hv⟩:=hx
  exact ⟨hk1,b,kv,vv,es,clock,rfl,h.Pr b hp,(h.block b hp).trans hb,he,RepL.mono h 1 ks _ hk,RepL.mono h 1 vs _ hv⟩
 | _,.raw _,_,hx=>by simpa only [Rep] using hx
 | _,.top,_,_=>by simp only [Rep]
theorem RepL.mono {m m' : Mem} (h : m.keeps m') : ∀ (k : Nat) (xs : List AV) (vs : List Value),RepL m k xs vs → RepL m' k xs vs
 | _,[],_,hx=>by simpa only [RepL] using hx
 | k,x :: xs,vs,hx=>by
  simp only [RepL] at hx ⊢
  obtain ⟨v,rest,rfl,hv,hr⟩:=hx
  exact ⟨v,rest,rfl,Rep.mono h k x v hv,RepL.mono h k xs rest hr⟩
theorem RepC.mono {m m' : Mem} (h : m.keeps m') : ∀ (xs : List AV) (b o : Nat),RepC m xs b o → RepC m' xs b o
 | [],_,_,_=>by simp only [RepC]
 | x :: xs,b,o,hx=>by
  simp only [RepC] at hx ⊢
  obtain ⟨hf,⟨v,hv,hr⟩,hrest⟩:=hx
  exact ⟨h.F b o hf,⟨v,(h.cell b o hf).trans hv,Rep.mono h 2 x v hr⟩,RepC.mono h xs b (o + 1) hrest⟩
theorem RepP.mono {m m' : Mem} (h : m.keeps m') : ∀ (xs : List AV) (b o : Nat),RepP m xs b o → RepP m' xs b o
 | [],_,_,_=>by simp only [RepP]
 | x :: xs,b,o,hx=>by
  simp only [RepP] at hx ⊢
  obtain ⟨hf,⟨v,hv,hr⟩,hrest⟩:=hx
  exact ⟨h.Pr b hf,⟨v,(cell?_of_block (h.block b hf)).trans hv,Rep.mono h 1 x v hr⟩,RepP.mono h xs b (o + 1) hrest⟩
theorem RepE.mono {m m' : Mem} (h : m.keeps m') : ∀ (es : List (List AV)) (b o sz : Nat),RepE m es b o sz → RepE m' es b o sz
 | [],_,_,_,_=>by simp only [RepE]
 | e :: es,b,o,sz,hx=>by
  simp only [RepE] at hx ⊢
  obtain ⟨hl,hc,hr⟩:=hx
  exact ⟨hl,RepC.mono h e b o hc,RepE.mono h es b (o + sz) sz hr⟩
end

mutual
theorem Rep.down {m : Mem} {k k' : Nat} (h : k' ≤ k) : ∀ (x : AV) (v : Value),Rep m k x v → Rep m k' x v
 | .bool _,_,hx=>by simpa only [Rep] using hx
 | .int _ _,_,hx=>by simpa only [Rep] using hx
 | .str _,_,hx=>by simpa only [Rep] using hx
 | .agg cs,v,hx=>by
  simp only [Rep] at hx ⊢
  obtain ⟨vs,rfl,hl⟩:=hx
  exact ⟨vs,rfl,RepL.down h cs _ hl⟩
 | .tup cs,v,hx=>by
  simp only [Rep] at hx ⊢
  obtain ⟨vs,rfl,hl⟩:=hx
  exact ⟨vs,rfl,RepL.down h cs _ hl⟩
 | .sl es,v,hx=>by simpa only [Rep] using hx
 | .row id off len,v,hx=>by
  simp only [Rep] at hx ⊢
  exact ⟨by omega,hx.2⟩
 | .ptr id off,v,hx=>by
  simp only [Rep] at hx ⊢
  exact ⟨by omega,hx.2⟩
 | .rptr id idx c,v,hx=>by
  simp only [Rep] at hx ⊢
  exact ⟨by omega,hx.2⟩
 | .cptr cs,v,hx=>by simpa only [Rep] using hx
 | .tptr cs,v,hx=>by
  simp only [Rep] at hx ⊢
  exact ⟨by omega,hx.2⟩
 | .clos f caps,v,hx=>by
  simp only [Rep] at hx ⊢
  obtain ⟨vs,rfl,hl⟩:=hx
  exact ⟨vs,rfl,RepL.down h caps _ hl⟩
 | .iface t x,v,hx=>by
  simp only [Rep] at hx ⊢
  obtain ⟨u,rfl,hu⟩:=hx
  exact ⟨u,rfl,Rep.down h x u hu⟩
 | .ite c x y,v,hx=>by
  simp only [Rep] at hx ⊢
  exact ⟨fun hc=>Rep.down h x v (hx.1 hc),fun hc=>Rep.down h y v (hx.2 hc)⟩
 | .opt c x,v,hx=>by
  simp only [Rep] at hx ⊢
  exact ⟨fun hc=>Rep.down h x v (hx.1 hc),hx.2⟩
 | .map id,v,hx=>by
  simp only [Rep] at hx ⊢
  exact ⟨by omega,hx.2⟩
 | .cmap ks vs,v,hx=>by
  simp only [Rep] at hx ⊢
  exact ⟨by omega,hx.2⟩
 | .raw _,_,hx=>by simpa only [Rep] using hx
 | .top,_,_=>by simp only [Rep]
theorem RepL.down {m : Mem} {k k' : Nat} (h : k' ≤ k) : ∀ (xs : List AV) (vs : List Value),RepL m k xs vs → RepL m k' xs vs
 | [],_,hx=>by simpa only [RepL] using hx
 | x :: xs,vs,hx=>by
  simp only [RepL] at hx ⊢
  obtain ⟨v,rest,rfl,hv,hr⟩:=hx
  exact ⟨v,rest,rfl,Rep.down h x v hv,RepL.down h xs rest hr⟩
end

end Aw

namespace Aw
open Go

def get {α : Type} : List (Nat × α) → Nat → Option α
 | [],_=>none
 | (k,x) :: l,i=>if k = i then some x else get l i
def set {α : Type} : List (Nat × α) → Nat → α → List (Nat × α)
 | [],i,x=>[(i,x)]
 | (k,y) :: l,i,x=>if k = i then (i,x) :: l else (k,y) :: set l i x
def del {α : Type} : List (Nat × α) → Nat → List (Nat × α)
 | [],_=>[]
 | (k,y) :: l,i=>if k = i then del l i else (k,y) :: del l i

theorem get_set {α : Type} (l : List (Nat × α)) (i j : Nat) (x : α) : get (set l i x) j = if i = j then some x else get l j:=by
 induction l with
 | nil=>simp [get,set]
 | cons p l ih =>
  obtain ⟨k,y⟩:=p
  simp only [set]
  split
  ·rename_i h
   subst h
   simp only [get]
   split <;> rfl
  ·rename_i h
   simp only [get,ih]
   by_cases hk : k = j
   ·subst hk
    simp [Ne.symm h]
   ·simp [hk]
theorem get_del {α : Type} (l : List (Nat × α)) (i j : Nat) : get (del l i) j = if i = j then none else get l j:=by
 induction l with
 | nil=>simp [get,del]
 | cons p l ih =>
  obtain ⟨k,y⟩:=p
  simp only [del]
  split
  ·rename_i h
   subst h
   rw [ih]
   by_cases hk : k = j <;> simp [get,hk]
  ·rename_i h
   simp only [get,ih]
   by_cases hk : k = j
   ·subst hk
    simp [Ne.symm h]
   ·simp [hk]

inductive ABlk where
 | cells (cs : List AV)
 | tc (T : TypeId) (cs : List AV)
 | brow (e : TypeId) (l : List UInt8)
 | mrow (sz : Nat) (es : List (List AV))
 | row (sz : Nat) (es : List (List AV)) (own : Bool)
 | amap (ks vs : List AV)
 | full (sz : Nat) (es : List (List AV))
 | lp (l : Nat) (rc : Loop)
 | it (left : List (AV × AV)) (cur : Option (AV × AV))

structure St where
 n : Nat
 env : List (Nat × AV)
 hp : List (Nat × ABlk)
 nx : Nat
 gl : List (Nat × AV)
 np : Nat
 df : List (FuncId × List AV)

/-! ### types -/
inductive TK where
 | bool
 | int (k : IntKind)
 | str
 | ptr (e : TypeId)
 | slice (e : TypeId)
 | arr (n : Nat) (e : TypeId)
 | struct (fs : List (Nat × TypeId))
 | map (k e : TypeId)
 | func
 | iface
 | other

structure TI where
 k : TK
 sz : Nat
 bytes : Nat
 zero : Option (List AV)

def constAV : Value → AV
 | .bool b=>.bool b
 | .int k n=>.int k n
 | .string s=>.str s.data.toList
 | v=>.raw v

def tkOf : TypeDesc → TK
 | .bool=>.bool
 | .int k=>.int k
 | .string=>.str
 | .pointer e=>.ptr e
 | .slice e=>.slice e
 | .array n e=>.arr n e
 | .struct fs=>.struct (fs.toList.map fun f=>(f.offset,f.type))
 | .map k e=>.map k e
 | .func _ _ _=>.func
 | .interface _=>.iface
 | _=>.other

def tinfo (P : Program) (t : TypeId) : Option TI :=
 match P.info? t,P.underlying t with
 | some i,some d=>some ⟨tkOf d,i.size,i.bytes,i.zero.map fun z=>z.cells.toList.map constAV⟩
 | _,_=>none

def TK.isAgg : TK → Bool
 | .struct _=>true
 | .arr _ _=>true
 | _=>false

/-! ### operands -/
def ev (σ : St) (x : Operand) : Option AV :=
 match x with
 | .tmp t=>get σ.env t
 | .const v=>some (constAV v)
 | .global g=>match get σ.gl g with
  | some x=>some x
  | none=>some (.raw (.pointer (some ⟨g,0,none⟩)))
 | .func f=>some (.clos f [])
def strip (g : Bool) (x : AV) : Prop × AV :=
 match x with
 | .opt c y=>(g = true → c = true,y)
 | y=>(True,y)
def op0 (r : Option AV) : Option (Prop × AV) :=
 match r with
 | some v=>some (True,v)
 | none=>none
def op1 (σ : St) (g : Bool) (x : Operand) (f : AV → Option (Prop × AV)) : Option (Prop × AV) :=
 match ev σ x with
 | some a=>match f (strip g a).2 with
  | some q=>some ((strip g a).1 ∧ q.1,q.2)
  | none=>none
 | none=>none
def op2 (σ : St) (g : Bool) (x y : Operand) (f : AV → AV → Option (Prop × AV)) : Option (Prop × AV) :=
 op1 σ g x fun a=>op1 σ g y fun b=>f a b

/-! ### what the operations compute -/
def bitAnd (k : IntKind) (x y : Int) : Int:=k.wrap (BitVec.ofInt k.bits x &&& BitVec.ofInt k.bits y).toNat
def bitOr (k : IntKind) (x y : Int) : Int:=k.wrap (BitVec.ofInt k.bits x ||| BitVec.ofInt k.bits y).toNat
def bitXor (k : IntKind) (x y : Int) : Int:=k.wrap (BitVec.ofInt k.bits x ^^^ BitVec.ofInt k.bits y).toNat
def bitAndNot (k : IntKind) (x y : Int) : Int:=k.wrap (BitVec.ofInt k.bits x &&& ~~~(BitVec.ofInt k.bits y)).toNat
def bitShl (k : IntKind) (x y : Int) : Int:=k.wrap (x * 2 ^ (min y.toNat k.bits))
def bitShr (k : IntKind) (x y : Int) : Int:=x.fdiv (2 ^ (min y.toNat k.bits))
def aarith (op : BinOp) (k : IntKind) (x y : Int) : Option (Prop × AV) :=
 match op with
 | .add=>some (True,.int k (k.wrap (x + y)))
 | .sub=>some (True,.int k (k.wrap (x - y)))
 | .mul=>some (True,.int k (k.wrap (x * y)))
 | .quo=>some (y ≠ 0,.int k (k.wrap (x.tdiv y)))
 | .rem=>some (y ≠ 0,.int k (x.tmod y))
 | .eql=>some (True,.bool (decide (x = y)))
 | .neq=>some (True,.bool (!decide (x = y)))
 | .lss=>some (True,.bool (decide (x < y)))
 | .leq=>some (True,.bool (decide (x ≤ y)))
 | .gtr=>some (True,.bool (decide (y < x)))
 | .geq=>some (True,.bool (decide (y ≤ x)))
 | .and=>some (True,.int k (bitAnd k x y))
 | .or=>some (True,.int k (bitOr k x y))
 | .xor=>some (True,.int k (bitXor k x y))
 | .andNot=>some (True,.int k (bitAndNot k x y))
 | _=>none
def ashift (op : BinOp) (k : IntKind) (x y : Int) : Option (Prop × AV) :=
 match op with
 | .shl=>some (0 ≤ y,.int k (bitShl k x y))
 | .shr=>some (0 ≤ y,.int k (bitShr k x y))
 | _=>none
def astr (op : BinOp) (s t : List UInt8) : Option (Prop × AV) :=
 match op with
 | .add=>some (((s.length + t.length : Nat) : Int) ≤ IntKind.i64.max,.str (s ++ t))
 | .eql=>some (True,.bool (decide (s = t)))
 | .neq=>some (True,.bool (!decide (s = t)))
 | .lss=>some (True,.bool (Op.bytesLess s t))
 | .leq=>some (True,.bool (Op.bytesLess s t || decide (s = t)))
 | .gtr=>some (True,.bool (!(Op.bytesLess s t || decide (s = t))))
 | .geq=>some (True,.bool (!Op.bytesLess s t))
 | _=>none
def isShift (op : BinOp) : Bool :=
 match op with
 | .shl=>true
 | .shr=>true
 | _=>false
def abin (op : BinOp) (a b : AV) : Option (Prop × AV) :=
 match a,b with
 | .int k x,.int k' y=>if isShift op then ashift op k x y else if k = k' then aarith op k x y else none
 | .str s,.str t=>astr op s t
 | _,_=>none

theorem yes_ok {α : Type} (P : Program) (w : World) (a : α) : (pure a : Sem α).run P w = .ok a w:=rfl

theorem toList_byteArray (s : List UInt8) : (⟨s.toArray⟩ : ByteArray).toList = s:=by
 have : ∀ (a : Array UInt8) (i : Nat) (r : List UInt8),ByteArray.toList.loop ⟨a⟩ i r = r.reverse ++ a.toList.drop i:=by
  intro a i r
  induction h : a.size - i generalizing i r with
  | zero =>
   unfold ByteArray.toList.loop
   have : ¬ i < (⟨a⟩ : ByteArray).size:=by show ¬ i < a.size; omega
   rw [if_neg this,List.drop_eq_nil_of_le (by simp; omega)]
   simp
  | succ n ih =>
   unfold ByteArray.toList.loop
   have hi : i < (⟨a⟩ : ByteArray).size:=by show i < a.size; omega
   rw [if_pos hi,ih _ _ (by omega)]
   have hi' : i < a.toList.length:=by simp; omega
   rw [List.drop_eq_getElem_cons hi']
   have hb : (⟨a⟩ : ByteArray).get! i = a.toList[i]:=by
    show a[i]! = _
    rw [getElem!_pos a i (by omega)]
    simp
   rw [hb]
   simp
 have h:=this s.toArray 0 []
 simpa [ByteArray.toList] using h

def Value.simple : Value → Bool
 | .nilIface=>false
 | .agg _=>false
 | _=>true

theorem eqGuard_ok {P : Program} {w : World} {op : BinOp} {t : TypeId} {x y : Operand} {a b : Value} (h : Value.simple a = true) :
  (eqGuard op t x y a b).run P w = .ok () w:=by
 cases a <;> first | (cases h; done) | (cases op <;> rfl)

theorem binOp_int {P : Program} {w : World} {op : BinOp} {t : TypeId} {k k' : IntKind} {x y : Int} {ob : Prop} {r : AV}
  (h : abin op (.int k x) (.int k' y) = some (ob,r)) (hob : ob) : ∃ v,(binOp op t (.int k x) (.int k' y)).run P w = .ok v w ∧ ∀ m k,Rep m k r v:=by
 simp only [abin] at h
 cases op <;> simp only [isShift,if_true,Bool.false_eq_true,if_false,ashift] at h
 case shl =>
  obtain ⟨rfl,rfl⟩:=by simpa only [Option.some.injEq,Prod.mk.injEq] using h
  exact ⟨.int k (k.wrap (x * 2 ^ min y.toNat k.bits)),by simp [binOp,Op.shift,Int.not_lt.2 hob],fun m k=>by simp only [Rep]; rfl⟩
 case shr =>
  obtain ⟨rfl,rfl⟩:=by simpa only [Option.some.injEq,Prod.mk.injEq] using h
  exact ⟨.int k (x.fdiv (2 ^ min y.toNat k.bits)),by simp [binOp,Op.shift,Int.not_lt.2 hob],fun m k=>by simp only [Rep]; rfl⟩
 all_goals
  split at h
  case isFalse=>cases h
  rename_i hk
  subst hk
  simp only [aarith,Option.some.injEq,Prod.mk.injEq] at h
  obtain ⟨rfl,rfl⟩:=h
  first
   | exact ⟨_,by simp only [binOp,ne_eq,not_true_eq_false,if_false,Op.intArith,Op.intBits,Op.intCmp]; rfl,fun m k=>by simp only [Rep] <;> rfl⟩
   | exact ⟨_,by simp only [binOp,ne_eq,not_true_eq_false,if_false,Op.intDiv,if_neg hob]; rfl,fun m k=>by simp only [Rep] <;> rfl⟩

theorem binOp_str {P : Program} {w : World} {op : BinOp} {t : TypeId} {x y : List UInt8} {ob : Prop} {r : AV}
  (h : abin op (.str x) (.str y) = some (ob,r)) (hob : ob) :
  ∃ v,(binOp op t (.string ⟨x.toArray⟩) (.string ⟨y.toArray⟩)).run P w = .ok v w ∧ ∀ m k,Rep m k r v:=by
 simp only [abin] at h
 cases op <;> simp only [astr,Option.some.injEq,Prod.mk.injEq,reduceCtorEq] at h <;> obtain ⟨rfl,rfl⟩:=h
 case add =>
  refine ⟨.string (⟨x.toArray⟩ ++ ⟨y.toArray⟩),?_,fun m k=>?_⟩
  ·have : ¬ ((((⟨x.toArray⟩ : ByteArray).size + (⟨y.toArray⟩ : ByteArray).size : Nat) : Int) > IntKind.i64.max):=by
    have h1 : (⟨x.toArray⟩ : ByteArray).size = x.length:=by show x.toArray.size = _; simp
    have h2 : (⟨y.toArray⟩ : ByteArray).size = y.length:=by show y.toArray.size = _; simp
    rw [h1,h2]; omega
   simp only [binOp,Op.stringOp,if_neg this]
   rfl
  ·simp only [Rep,Value.string.injEq]
   apply ByteArray.ext
   simp
 all_goals
  refine ⟨_,by simp only [binOp,Op.stringOp,toList_byteArray]; rfl,fun m k=>?_⟩
  simp only [Rep,Value.bool.injEq]
 all_goals first | rfl | (rw [show (x == y) = decide (x = y) from by by_cases h : x = y <;> simp [h]])

end Aw

namespace Aw
open Go

def RepX (m : Mem) (k : Nat) : List AV → Nat → Nat → Prop
 | [],_,_=>True
 | x :: xs,b,o=>(∃ v,m.w.cell? ⟨b,o,none⟩ = some v ∧ Rep m k x v) ∧ RepX m k xs b (o + 1)
def RepY (m : Mem) : List (List AV) → Nat → Nat → Nat → Prop
 | [],_,_,_=>True
 | e :: es,b,o,sz=>e.length = sz ∧ RepX m 2 e b o ∧ RepY m es b (o + sz) sz

theorem RepC.x {m : Mem} : ∀ {cs : List AV} {b o : Nat},RepC m cs b o → RepX m 2 cs b o
 | [],_,_,_=>by simp only [RepX]
 | _ :: _,_,_,h=>by
  simp only [RepC] at h
  simp only [RepX]
  exact ⟨h.2.1,RepC.x h.2.2⟩
theorem RepP.x {m : Mem} : ∀ {cs : List AV} {b o : Nat},RepP m cs b o → RepX m 1 cs b o
 | [],_,_,_=>by simp only [RepX]
 | _ :: _,_,_,h=>by
  simp only [RepP] at h
  simp only [RepX]
  exact ⟨h.2.1,RepP.x h.2.2⟩
theorem RepE.y {m : Mem} : ∀ {es : List (List AV)} {b o sz : Nat},RepE m es b o sz → RepY m es b o sz
 | [],_,_,_,_=>by simp only [RepY]
 | _ :: _,_,_,_,h=>by
  simp only [RepE] at h
  simp only [RepY]
  exact ⟨h.1,h.2.1.x,RepE.y h.2.2⟩
theorem RepC.F {m : Mem} : ∀ {cs : List AV} {b o : Nat},RepC m cs b o → ∀ i,i < cs.length → m.F b (o + i)
 | [],_,_,_,i,hi=>by simp at hi
 | _ :: cs,b,o,h,i,hi=>by
  simp only [RepC] at h
  cases i with
  | zero=>exact h.1
  | succ i =>
   have:=RepC.F h.2.2 i (by simpa using hi)
   rwa [show o + (i + 1) = o + 1 + i from by omega]
theorem RepC.of {m : Mem} : ∀ {cs : List AV} {b o : Nat},RepX m 2 cs b o → (∀ i,i < cs.length → m.F b (o + i)) → RepC m cs b o
 | [],_,_,_,_=>by simp only [RepC]
 | _ :: cs,b,o,h,hF=>by
  simp only [RepX] at h
  simp only [RepC]
  refine ⟨hF 0 (by simp),h.1,RepC.of h.2 fun i hi=>?_⟩
  have:=hF (i + 1) (by simpa using hi)
  rwa [show o + (i + 1) = o + 1 + i from by omega] at this
theorem RepP.of {m : Mem} : ∀ {cs : List AV} {b o : Nat},RepX m 1 cs b o → m.Pr b → RepP m cs b o
 | [],_,_,_,_=>by simp only [RepP]
 | _ :: cs,b,o,h,hF=>by
  simp only [RepX] at h
  simp only [RepP]
  exact ⟨hF,h.1,RepP.of h.2 hF⟩
theorem RepC.drop {m : Mem} : ∀ {cs : List AV} {b o : Nat} (k : Nat),RepC m cs b o → RepC m (cs.drop k) b (o + k)
 | cs,_,_,0,h=>by simpa using h
 | [],_,_,k + 1,_=>by simp only [List.drop_nil,RepC]
 | x :: cs,b,o,k + 1,h=>by
  simp only [RepC] at h
  have:=RepC.drop k h.2.2
  rw [show o + 1 + k = o + (k + 1) from by omega] at this
  simpa using this
theorem RepP.drop {m : Mem} : ∀ {cs : List AV} {b o : Nat} (k : Nat),RepP m cs b o → RepP m (cs.drop k) b (o + k)
 | cs,_,_,0,h=>by simpa using h
 | [],_,_,k + 1,_=>by simp only [List.drop_nil,RepP]
 | x :: cs,b,o,k + 1,h=>by
  simp only [RepP] at h
  have:=RepP.drop k h.2.2
  rw [show o + 1 + k = o + (k + 1) from by omega] at this
  simpa using this
theorem RepX.drop {m : Mem} {kk : Nat} : ∀ {cs : List AV} {b o : Nat} (k : Nat),RepX m kk cs b o → RepX m kk (cs.drop k) b (o + k)
 | cs,_,_,0,h=>by simpa using h
 | [],_,_,k + 1,_=>by simp only [List.drop_nil,RepX]
 | x :: cs,b,o,k + 1,h=>by
  simp only [RepX] at h
  have:=RepX.drop k h.2
  rw [show o + 1 + k = o + (k + 1) from by omega] at this
  simpa using this
theorem RepX.at {m : Mem} {kk : Nat} : ∀ {cs : List AV} {b o : Nat},RepX m kk cs b o → ∀ i (hi : i < cs.length),∃ v,m.w.cell? ⟨b,o + i,none⟩ = some v ∧ Rep m kk cs[i] v
 | [],_,_,_,i,hi=>by simp at hi
 | x :: cs,b,o,h,0,_=>by simp only [RepX] at h; simpa using h.1
 | x :: cs,b,o,h,i + 1,hi=>by
  simp only [RepX] at h
  have:=RepX.at h.2 i (by simpa using hi)
  rw [show o + 1 + i = o + (i + 1) from by omega] at this
  simpa using this
theorem RepE.at {m : Mem} : ∀ {es : List (List AV)} {b o sz : Nat},RepE m es b o sz → ∀ i (hi : i < es.length),es[i].length = sz ∧ RepC m es[i] b (o + i * sz)
 | [],_,_,_,_,i,hi=>by simp at hi
 | e :: es,b,o,sz,h,0,_=>by simp only [RepE] at h; simpa using ⟨h.1,h.2.1⟩
 | e :: es,b,o,sz,h,i + 1,hi=>by
  simp only [RepE] at h
  have:=RepE.at h.2.2 i (by simpa using hi)
  rw [show o + sz + i * sz = o + (i + 1) * sz from by rw [Nat.succ_mul]; omega] at this
  simpa using this
theorem RepY.at {m : Mem} : ∀ {es : List (List AV)} {b o sz : Nat},RepY m es b o sz → ∀ i (hi : i < es.length),es[i].length = sz ∧ RepX m 2 es[i] b (o + i * sz)
 | [],_,_,_,_,i,hi=>by simp at hi
 | e :: es,b,o,sz,h,0,_=>by simp only [RepY] at h; simpa using ⟨h.1,h.2.1⟩
 | e :: es,b,o,sz,h,i + 1,hi=>by
  simp only [RepY] at h
  have:=RepY.at h.2.2 i (by simpa using hi)
  rw [show o + sz + i * sz = o + (i + 1) * sz from by rw [Nat.succ_mul]; omega] at this
  simpa using this
theorem RepE.drop {m : Mem} : ∀ {es : List (List AV)} {b o sz : Nat} (k : Nat),RepE m es b o sz → RepE m (es.drop k) b (o + k * sz) sz
 | es,_,_,_,0,h=>by simpa using h
 | [],_,_,_,k + 1,_=>by simp only [List.drop_nil,RepE]
 | x :: es,b,o,sz,k + 1,h=>by
  simp only [RepE] at h
  have:=RepE.drop k h.2.2
  rw [show o + sz + k * sz = o + (k + 1) * sz from by rw [Nat.succ_mul]; omega] at this
  simpa using this
theorem RepE.take {m : Mem} : ∀ {es : List (List AV)} {b o sz : Nat} (k : Nat),RepE m es b o sz → RepE m (es.take k) b o sz
 | es,_,_,_,0,h=>by simp only [List.take_zero,RepE]
 | [],_,_,_,k + 1,_=>by simp only [List.take_nil,RepE]
 | x :: es,b,o,sz,k + 1,h=>by
  simp only [RepE] at h
  simp only [List.take_succ_cons,RepE]
  exact ⟨h.1,h.2.1,RepE.take k h.2.2⟩

theorem RepL.length {m : Mem} {kk : Nat} : ∀ {xs : List AV} {vs : List Value},RepL m kk xs vs → vs.length = xs.length
 | [],_,h=>by simp only [RepL] at h; simp [h]
 | _ :: _,_,h=>by
  simp only [RepL] at h
  obtain ⟨v,rest,rfl,_,hr⟩:=h
  simp [RepL.length hr]
theorem RepL.at {m : Mem} {kk : Nat} : ∀ {xs : List AV} {vs : List Value},RepL m kk xs vs → ∀ i (hi : i < xs.length),∃ v,vs[i]? = some v ∧ Rep m kk xs[i] v
 | [],_,_,i,hi=>by simp at hi
 | x :: xs,_,h,0,_=>by
  simp only [RepL] at h
  obtain ⟨v,rest,rfl,hv,_⟩:=h
  exact ⟨v,rfl,by simpa using hv⟩
 | x :: xs,_,h,i + 1,hi=>by
  simp only [RepL] at h
  obtain ⟨v,rest,rfl,_,hr⟩:=h
  simpa using RepL.at hr i (by simpa using hi)
theorem RepL.drop {m : Mem} {kk : Nat} : ∀ {xs : List AV} {vs : List Value} (k : Nat),RepL m kk xs vs → RepL m kk (xs.drop k) (vs.drop k)
 | _,_,0,h=>by simpa using h
 | [],_,k + 1,h=>by simp only [RepL] at h; subst h; simp [RepL]
 | _ :: xs,_,k + 1,h=>by
  simp only [RepL] at h
  obtain ⟨v,rest,rfl,_,hr⟩:=h
  simpa using RepL.drop k hr
theorem RepL.take {m : Mem} {kk : Nat} : ∀ {xs : List AV} {vs : List Value} (k : Nat),RepL m kk xs vs → RepL m kk (xs.take k) (vs.take k)
 | _,_,0,h=>by simp [RepL]
 | [],_,k + 1,h=>by simp only [RepL] at h; subst h; simp [RepL]
 | _ :: xs,_,k + 1,h=>by
  simp only [RepL] at h
  obtain ⟨v,rest,rfl,hv,hr⟩:=h
  simp only [List.take_succ_cons,RepL]
  exact ⟨v,_,rfl,hv,RepL.take k hr⟩
theorem RepL.append {m : Mem} {kk : Nat} : ∀ {xs ys : List AV} {vs us : List Value},RepL m kk xs vs → RepL m kk ys us → RepL m kk (xs ++ ys) (vs ++ us)
 | [],_,_,_,h,h'=>by simp only [RepL] at h; subst h; simpa using h'
 | _ :: xs,_,_,_,h,h'=>by
  simp only [RepL] at h
  obtain ⟨v,rest,rfl,hv,hr⟩:=h
  simp only [List.cons_append,RepL]
  exact ⟨v,_,rfl,hv,RepL.append hr h'⟩

theorem RepX.of_list {m : Mem} {kk : Nat} {b : Nat} {c : Array Value} {T : TypeId} {fr : Nat × Nat} (hb : m.w.heap[b]? = some (.cells c T fr)) :
  ∀ {cs : List AV} {o : Nat},RepL m kk cs ((c.toList.drop o).take cs.length) → RepX m kk cs b o
 | [],_,_=>by simp only [RepX]
 | x :: cs,o,h=>by
  simp only [RepL,List.length_cons] at h
  obtain ⟨v,rest,hv,hx,hr⟩:=h
  have ho : o < c.toList.length:=by
   rcases Nat.lt_or_ge o c.toList.length with h | h
   ·exact h
   ·rw [List.drop_eq_nil_of_le h] at hv; simp at hv
  rw [List.drop_eq_getElem_cons ho,List.take_succ_cons] at hv
  injection hv with h1 h2
  subst h1
  refine ⟨⟨_,?_,hx⟩,RepX.of_list hb (h2 ▸ hr)⟩
  simp only [World.cell?,hb,Option.isSome_none,Bool.false_eq_true,if_false]
  rw [Array.getElem?_eq_getElem (by simpa using ho)]
  simp
theorem RepX.list {m : Mem} {kk : Nat} {b : Nat} {c : Array Value} {T : TypeId} {fr : Nat × Nat} (hb : m.w.heap[b]? = some (.cells c T fr)) :
  ∀ {cs : List AV} {o : Nat},RepX m kk cs b o → RepL m kk cs ((c.toList.drop o).take cs.length)
 | [],_,_=>by simp [RepL]
 | x :: cs,o,h=>by
  simp only [RepX] at h
  obtain ⟨⟨v,hv,hx⟩,hr⟩:=h
  simp only [World.cell?,hb,Option.isSome_none,Bool.false_eq_true,if_false] at hv
  have ho : o < c.size:=by
   rcases Nat.lt_or_ge o c.size with h | h
   ·exact h
   ·rw [Array.getElem?_eq_none h] at hv; cases hv
  rw [Array.getElem?_eq_getElem ho] at hv
  injection hv with hv
  rw [List.drop_eq_getElem_cons (by simpa using ho),List.length_cons,List.take_succ_cons]
  simp only [RepL]
  exact ⟨_,_,rfl,by simpa [hv] using hx,RepX.list hb hr⟩

def RowRepG (m : Mem) (ri : RI) (sz : Nat) (es : List (List AV)) (own : Bool) (e : Nat) : Prop:=(ri.isNil = true ∧ es = []) ∨
  (ri.isNil = false ∧ ¬ m.Pr ri.b ∧ (1 ≤ ri.sz ∧ ri.sz = sz) ∧ es.length ≤ ri.cap ∧
   (∃ c T lo hi,m.w.heap[ri.b]? = some (.cells c T (lo,hi)) ∧ (∀ i,i < c.size + e → ¬ (lo ≤ i ∧ i < hi)) ∧ ri.o + ri.cap * ri.sz ≤ c.size) ∧
   (if own = true then RepY m es ri.b ri.o ri.sz ∧ ∀ i,ri.o ≤ i → ¬ m.F ri.b i
    else RepE m es ri.b ri.o ri.sz ∧ ∀ i,ri.o + es.length * ri.sz ≤ i → ¬ m.F ri.b i))
def RowRep (m : Mem) (ri : RI) (sz : Nat) (es : List (List AV)) (own : Bool) : Prop:=RowRepG m ri sz es own (if own = true then 1 else 0)
def BlkRep (m : Mem) (ri : RI) (x : ABlk) : Prop :=
 match x with
 | .cells cs=>ri.isNil = false ∧ ¬ m.Pr ri.b ∧ (∀ o,¬ m.F ri.b o) ∧ ∃ c T,m.w.heap[ri.b]? = some (.cells c T (0,0)) ∧ RepL m 0 cs c.toList
 | .tc T cs=>ri.isNil = false ∧ ¬ m.Pr ri.b ∧ (∀ o,¬ m.F ri.b o) ∧ ∃ c,m.w.heap[ri.b]? = some (.cells c T (0,0)) ∧ RepL m 0 cs c.toList ∧ (ri.o = 0 ∧ ri.sz = 1 ∧ ri.cap = cs.length)
 | .row sz es own=>RowRep m ri sz es own
 | .amap ks vs=>ri.isNil = false ∧ ¬ m.Pr ri.b ∧ (∀ o,¬ m.F ri.b o) ∧ ∃ kv vv es clock,m.w.heap[ri.b]? = some (.map es clock) ∧ entriesAre kv vv es clock ∧ RepL m 1 ks kv ∧ RepL m 1 vs vv
 | .full sz es=>RowRep m ri sz es true ∧ (ri.isNil = false → es.length = ri.cap)
 | .brow e l=>RowRep m ri 1 (l.map fun b=>[.int .u8 (b.toNat : Int)]) true ∧ (ri.isNil = false → (ri.o = 0 ∧ 1 ≤ ri.cap) ∧ ∃ c,m.w.heap[ri.b]? = some (.cells c e (0,0)))
 | .mrow sz es=>ri.isNil = false ∧ RowRepG m ri sz es true 0
 | .lp l rc=>ri.isNil = false ∧ ¬ m.Pr ri.b ∧ (∀ o,¬ m.F ri.b o) ∧ ri.b = l ∧ m.w.heap[ri.b]? = some (.loop rc)
 | .it left cur=>ri.isNil = false ∧ ¬ m.Pr ri.b ∧ (∀ o,¬ m.F ri.b o) ∧ ri.o = 0 ∧ ∃ bm es clock seen,m.Pr bm ∧ m.w.heap[bm]? = some (.map es clock) ∧ MapKept.Stamped es clock ∧ m.w.heap[ri.b]? = some (.mapIter (some bm) clock seen clock) ∧
  (∃ el : List MapEntry,el = (es.filter fun e=>!seen.contains e.born).toList ∧ RepL m 1 (left.map (·.1)) (el.map (·.key)) ∧ RepL m 1 (left.map (·.2)) (el.map (·.val))) ∧
  ∀ k v,cur = some (k,v) → ∃ e ∈ es.toList,(∃ s' : Array Nat,seen = s'.push e.born) ∧ Rep m 1 k e.key ∧ Rep m 1 v e.val

structure SimH (m : Mem) (hp : List (Nat × ABlk)) (nx : Nat) : Prop where
 blk : ∀ id x,get hp id = some x → ∃ ri,m.ρ id = some ri ∧ BlkRep m ri x
 apart : ∀ id id' x x' ri ri',get hp id = some x → get hp id' = some x' → m.ρ id = some ri → m.ρ id' = some ri' → id ≠ id' →
  ri.isNil = false → ri'.isNil = false → ri.b ≠ ri'.b
 fresh : ∀ id,nx ≤ id → m.ρ id = none
 Fold : ∀ b o,m.F b o → b < m.w.heap.size
 Pold : ∀ b,m.Pr b → b < m.w.heap.size

def DefR (m : Mem) : List (FuncId × List AV) → List Deferred → Prop
 | [],ds=>ds = []
 | p :: r,ds=>∃ d rest caps,ds = d :: rest ∧ d.target = .fn (.func p.1) caps ∧ RepL m 0 p.2 (d.args.toList ++ caps.toList) ∧ DefR m r rest
theorem DefR.mono {m m' : Mem} (h : m.keeps m') : ∀ {l : List (FuncId × List AV)} {ds : List Deferred},DefR m l ds → DefR m' l ds
 | [],_,hd=>hd
 | _ :: _,_,hd=>by
  obtain ⟨d,rest,caps,h1,h2,h3,h4⟩:=hd
  exact ⟨d,rest,caps,h1,h2,RepL.mono h 0 _ _ h3,h4.mono h⟩

structure Sim (m : Mem) (a : Act) (σ : St) : Prop where
 h : SimH m σ.hp σ.nx
 n : a.tmps.size = σ.n
 defers : DefR m σ.df a.defers
 env : ∀ t x,get σ.env t = some x → t < σ.n ∧ Rep m 0 x (a.tmps.getD t undef)
 gl : ∀ g x,get σ.gl g = some x → Rep m 1 x (.pointer (some ⟨g,0,none⟩))
 np : m.np = σ.np

theorem Rep.const {m : Mem} {kk : Nat} (v : Value) : Rep m kk (constAV v) v:=by
 unfold constAV
 split <;> simp only [Rep]
theorem Sim.ev {m : Mem} {a : Act} {σ : St} (hS : Sim m a σ) {x : Operand} {y : AV} (h : ev σ x = some y) : Rep m 0 y (a.eval x):=by
 unfold Aw.ev at h
 split at h
 ·exact (hS.env _ _ h).2
 ·injection h with h; subst h; exact Rep.const _
 ·split at h
  ·rename_i hx
   injection h with h
   subst h
   exact Rep.down (Nat.zero_le 1) _ _ (hS.gl _ _ hx)
  ·injection h with h; subst h; simp only [Rep,Act.eval]
 ·injection h with h; subst h; simp only [Rep,Act.eval]; exact ⟨#[],rfl,by simp [RepL]⟩
theorem Rep.strip {m : Mem} {kk : Nat} {g : Bool} {x : AV} {v : Value} (hg : g = true) (h : Rep m kk x v) (hs : (Aw.strip g x).1) : Rep m kk (Aw.strip g x).2 v:=by
 unfold Aw.strip at *
 split
 ·simp only at hs
  simp only [Rep] at h
  exact h.1 (hs hg)
 ·exact h

theorem run_bind {α β : Type} {P : Program} {x : Sem α} {f : α → Sem β} {w w' : World} {a : α} (h : x.run P w = .ok a w') :
  (x >>= f).run P w = (f a).run P w':=by
 rw [Sem.run_bind,h,Result.andThen_ok]

section
variable {P : Program} {w : World} {t : TypeId} {i : TI}
theorem tinfo_parts (hi : tinfo P t = some i) : ∃ ti d,P.info? t = some ti ∧ P.underlying t = some d ∧ i = ⟨tkOf d,ti.size,ti.bytes,ti.zero.map fun z=>z.cells.toList.map constAV⟩:=by
 unfold tinfo at hi
 split at hi
 ·rename_i ti d h1 h2
  injection hi with hi
  exact ⟨ti,d,h1,h2,hi.symm⟩
 ·cases hi
theorem run_typeInfo_ti (hi : tinfo P t = some i) : ∃ ti,(typeInfo t).run P w = .ok ti w ∧ ti.size = i.sz ∧ ti.bytes = i.bytes ∧
  i.zero = ti.zero.map (fun z=>z.cells.toList.map constAV):=by
 obtain ⟨ti,d,h1,h2,rfl⟩:=tinfo_parts hi
 exact ⟨ti,by simp only [typeInfo,program,bind,Sem.bind,Sem.run,h1,pure],rfl,rfl,rfl⟩
theorem run_sizeOf_ti (hi : tinfo P t = some i) : (Go.sizeOf t).run P w = .ok i.sz w:=by
 obtain ⟨ti,h1,h2,_⟩:=run_typeInfo_ti (w:=w) hi
 unfold Go.sizeOf
 rw [run_bind h1,← h2]
 rfl
theorem run_underlying_ti (hi : tinfo P t = some i) : ∃ d,(underlying t).run P w = .ok d w ∧ i.k = tkOf d:=by
 obtain ⟨ti,d,h1,h2,rfl⟩:=tinfo_parts hi
 exact ⟨d,by simp only [underlying,program,bind,Sem.bind,Sem.run,h2,pure],rfl⟩
end

section
variable {P : Program} {w : World} {t : TypeId} {i : TI}
theorem run_isAgg_ti (hi : tinfo P t = some i) : (isAgg t).run P w = .ok i.k.isAgg w:=by
 obtain ⟨d,hd,hk⟩:=run_underlying_ti (w:=w) hi
 unfold isAgg
 rw [run_bind hd,hk]
 cases d <;> rfl
end

theorem addr_add (b o n : Nat) : (⟨b,o,none⟩ : Addr).add n = ⟨b,o + n,none⟩:=by
 unfold Addr.add
 split
 ·rename_i h; subst h; rfl
 ·rfl

theorem run_loadCellsFrom {P : Program} {m : Mem} {kk : Nat} {b o : Nat} : ∀ (n k : Nat) (cs : List AV) (acc : Array Value),RepX m kk cs b (o + k) → n ≤ cs.length →
  ∃ vs : List Value,(loadCellsFrom ⟨b,o,none⟩ k n acc).run P m.w = .ok (acc ++ vs.toArray) m.w ∧ RepL m kk (cs.take n) vs
 | 0,k,cs,acc,_,_=>⟨[],by simp [loadCellsFrom],by simp [RepL]⟩
 | n + 1,k,[],acc,_,h=>by simp at h
 | n + 1,k,x :: cs,acc,hx,h=>by
  simp only [RepX] at hx
  obtain ⟨⟨v,hv,hr⟩,hrest⟩:=hx
  obtain ⟨vs,hrun,hl⟩:=run_loadCellsFrom n (k + 1) cs (acc.push v) (by rw [show o + (k + 1) = o + k + 1 from by omega]; exact hrest) (by simpa using h)
  refine ⟨v :: vs,?_,?_⟩
  ·rw [loadCellsFrom,run_bind (a:=v) (w':=m.w)]
   ·rw [hrun]; simp
   ·simp only [load,addr_add,Sem.run,hv]
  ·simp only [List.take_succ_cons,RepL]
   exact ⟨v,vs,rfl,hr,hl⟩
theorem run_loadCells {P : Program} {m : Mem} {kk : Nat} {b o n : Nat} {cs : List AV} (hx : RepX m kk cs b o) (h : n ≤ cs.length) :
  ∃ vs : List Value,(loadCells ⟨b,o,none⟩ n).run P m.w = .ok vs.toArray m.w ∧ RepL m kk (cs.take n) vs:=by
 obtain ⟨vs,hr,hl⟩:=run_loadCellsFrom (P:=P) n 0 cs #[] hx h
 exact ⟨vs,by simpa [loadCells] using hr,hl⟩

def acut (i : TI) (cs : List AV) : Prop × AV :=
 if i.k.isAgg = true then (i.sz ≤ cs.length,.agg (cs.take i.sz)) else (0 < cs.length,cs.headD .top)

theorem run_loadVar_ti {P : Program} {m : Mem} {kk : Nat} {t : TypeId} {i : TI} {b o : Nat} {cs : List AV} (hi : tinfo P t = some i) (hx : RepX m kk cs b o) (hob : (acut i cs).1) :
  ∃ v,(loadVar t ⟨b,o,none⟩).run P m.w = .ok v m.w ∧ Rep m kk (acut i cs).2 v:=by
 unfold loadVar
 rw [run_bind (run_isAgg_ti hi)]
 unfold acut at *
 split
 ·rename_i hk
  rw [if_pos hk] at hob
  rw [run_bind (run_sizeOf_ti hi)]
  obtain ⟨vs,hr,hl⟩:=run_loadCells (P:=P) hx hob
  rw [run_bind hr]
  refine ⟨_,rfl,?_⟩
  simp only [Rep]
  exact ⟨_,rfl,by simpa using hl⟩
 ·rename_i hk
  rw [if_neg hk] at hob
  cases cs with
  | nil=>simp at hob
  | cons x cs =>
   simp only [RepX] at hx
   obtain ⟨⟨v,hv,hr⟩,_⟩:=hx
   refine ⟨v,?_,?_⟩
   ·simp only [load,Sem.run,hv]
   ·simpa [hk] using hr

end Aw

namespace Aw
open Go

def Pick (c : Bool) (x y : AV) : AV :=
 match x,y with
 | .bool a,.bool b=>.bool (bif c then a else b)
 | .int k a,.int k' b=>if k = k' then .int k (bif c then a else b) else .ite c x y
 | _,_=>.ite c x y
theorem Rep.pick {m : Mem} {c : Bool} {x y : AV} {v : Value} (h1 : c = true → Rep m 0 x v) (h2 : c = false → Rep m 0 y v) : Rep m 0 (Pick c x y) v:=by
 unfold Pick
 split
 ·cases c
  ·simpa [Rep] using h2 rfl
  ·simpa [Rep] using h1 rfl
 ·split
  ·rename_i hk
   subst hk
   cases c
   ·simpa [Rep] using h2 rfl
   ·simpa [Rep] using h1 rfl
  ·simp only [Rep]; exact ⟨h1,h2⟩
 ·simp only [Rep]; exact ⟨h1,h2⟩

def apick (σ : St) (g : Bool) (c a b : Operand) : Option (Prop × AV) :=
 match ev σ c,ev σ a,ev σ b with
 | some c,some a,some b=>match (strip g c).2 with
  | .bool cv=>some ((strip g c).1 ∧ (strip (g && cv) a).1 ∧ (strip (g && !cv) b).1,Pick cv (strip (g && cv) a).2 (strip (g && !cv) b).2)
  | _=>none
 | _,_,_=>none

def aload (P : Program) (hp : List (Nat × ABlk)) (t : TypeId) (a : AV) : Option (Prop × AV) :=
 match tinfo P t with
 | none=>none
 | some i=>match a with
  | .ptr id off=>match get hp id with
   | some (.cells cs)=>some (acut i (cs.drop off))
   | some (.tc _ cs)=>some (acut i (cs.drop off))
   | _=>none
  | .rptr id idx c=>match get hp id with
   | some (.row _ es _)=>some (idx < es.length ∧ (acut i ((es.getD idx []).drop c)).1,(acut i ((es.getD idx []).drop c)).2)
   | some (.mrow _ es)=>some (idx < es.length ∧ (acut i ((es.getD idx []).drop c)).1,(acut i ((es.getD idx []).drop c)).2)
   | _=>none
  | .cptr cs=>some (acut i cs)
  | .tptr cs=>some (acut i cs)
  | _=>none

def anil (a : AV) : Option (Prop × AV) :=
 match a with
 | .ptr id off=>some (True,.ptr id off)
 | .rptr id idx c=>some (True,.rptr id idx c)
 | .cptr cs=>some (True,.cptr cs)
 | .tptr cs=>some (True,.tptr cs)
 | .clos f caps=>some (True,.clos f caps)
 | _=>none

def aun (op : UnOp) (a : AV) : Option (Prop × AV) :=
 match a with
 | .int k n=>match op with
  | .neg=>some (True,.int k (k.wrap (0 - n)))
  | .xor=>some (True,.int k (k.wrap (BitVec.ofInt k.bits (if k.signed then -1 else k.max) ^^^ BitVec.ofInt k.bits n).toNat))
  | _=>none
 | .bool b=>match op with
  | .not=>some (True,.bool (!b))
  | _=>none
 | _=>none

def afaddr (P : Program) (t : TypeId) (f : Nat) (a : AV) : Option (Prop × AV) :=
 match tinfo P t with
 | none=>none
 | some i=>match i.k with
  | .struct fs=>match fs[f]? with
   | none=>none
   | some p=>match tinfo P p.2 with
    | none=>none
    | some j=>if j.sz = 0 then none else match a with
     | .ptr id o=>some (True,.ptr id (o + p.1))
     | .rptr id idx c=>some (True,.rptr id idx (c + p.1))
     | .cptr cs=>some (True,.cptr (cs.drop p.1))
     | .tptr cs=>some (True,.tptr (cs.drop p.1))
     | _=>none
  | _=>none

def afield (P : Program) (t : TypeId) (f : Nat) (a : AV) : Option (Prop × AV) :=
 match tinfo P t with
 | none=>none
 | some i=>match i.k with
  | .struct fs=>match fs[f]? with
   | none=>none
   | some p=>match tinfo P p.2 with
    | none=>none
    | some j=>match a with
     | .agg cs=>some (acut j (cs.drop p.1))
     | _=>none
  | _=>none

def aixa (P : Program) (hp : List (Nat × ABlk)) (t : TypeId) (a i : AV) : Option (Prop × AV) :=
 match i with
 | .int _ n=>match tinfo P t with
  | none=>none
  | some ti=>match ti.k with
   | .slice e=>match tinfo P e with
    | none=>none
    | some ei=>match a with
     | .sl es=>some ((0 ≤ n ∧ n < (es.length : Int)) ∧ ∀ x ∈ es,x.length = ei.sz,.cptr (es.getD n.toNat []))
     | .row id off len=>match get hp id with
      | some (.row sz es _)=>if sz = ei.sz then some ((0 ≤ n ∧ n < (len : Int)) ∧ off + len ≤ es.length,.rptr id (off + n.toNat) 0) else none
      | some (.mrow sz es)=>if sz = ei.sz then some ((0 ≤ n ∧ n < (len : Int)) ∧ off + len ≤ es.length,.rptr id (off + n.toNat) 0) else none
      | _=>none
     | _=>none
   | .arr c e=>match tinfo P e with
    | none=>none
    | some ei=>match a with
     | .ptr id o=>some (0 ≤ n ∧ n < (c : Int),.ptr id (o + n.toNat * ei.sz))
     | .rptr id idx o=>some (0 ≤ n ∧ n < (c : Int),.rptr id idx (o + n.toNat * ei.sz))
     | .cptr cs=>some (0 ≤ n ∧ n < (c : Int),.cptr (cs.drop (n.toNat * ei.sz)))
     | .tptr cs=>some (0 ≤ n ∧ n < (c : Int),.tptr (cs.drop (n.toNat * ei.sz)))
     | _=>none
   | _=>none
 | _=>none

def aindex (P : Program) (t : TypeId) (a i : AV) : Option (Prop × AV) :=
 match i with
 | .int _ n=>match tinfo P t with
  | none=>none
  | some ti=>match ti.k with
   | .str=>match a with
    | .str s=>some (0 ≤ n ∧ n < (s.length : Int),.int .u8 ((s.getD n.toNat 0).toNat : Int))
    | _=>none
   | .arr c e=>match tinfo P e with
    | none=>none
    | some ei=>match a with
     | .agg cs=>some ((0 ≤ n ∧ n < (c : Int)) ∧ (acut ei (cs.drop (n.toNat * ei.sz))).1,(acut ei (cs.drop (n.toNat * ei.sz))).2)
     | _=>none
   | _=>none
 | _=>none

def aextract (k : Nat) (a : AV) : Option (Prop × AV) :=
 match a with
 | .tup vs=>match vs[k]? with
  | some x=>some (True,x)
  | none=>none
 | _=>none

def amkif (P : Program) (t : TypeId) (a : AV) : Option (Prop × AV) :=
 match tinfo P t with
 | none=>none
 | some i=>match i.k with
  | .iface=>none
  | _=>some (True,.iface t a)

theorem mem_ne_nil {α : Type} {es : List α} {i : Nat} (h : i < es.length) : es ≠ []:=by
 intro e; subst e; simp at h

section
variable {P : Program} {m : Mem} {a : Act} {σ : St}

theorem aload_sound (hH : SimH m σ.hp σ.nx) {t : TypeId} {x y : AV} {v : Value} {ob : Prop} (hv : Rep m 0 x v) (h : aload P σ.hp t x = some (ob,y)) (hob : ob) :
  ∃ u,(Instr.loadAt t v).run P m.w = .ok u m.w ∧ Rep m 0 y u:=by
 unfold aload at h
 split at h
 ·cases h
 ·rename_i i hi
  split at h
  ·rename_i id off
   split at h
   ·rename_i cs hg
    simp only [Option.some.injEq,Prod.ext_iff] at h
    obtain ⟨rfl,rfl⟩:=h
    simp only [Rep] at hv
    obtain ⟨_,ri,hρ,rfl⟩:=hv
    obtain ⟨ri',hρ',hb⟩:=hH.blk id _ hg
    rw [hρ] at hρ'
    injection hρ' with hρ'
    subst hρ'
    obtain ⟨_,_,_,c,T,hc,hl⟩:=hb
    have hX : RepX m 0 cs ri.b 0:=RepX.of_list hc (by rw [List.drop_zero,← hl.length,List.take_length]; exact hl)
    have hX':=hX.drop off
    rw [Nat.zero_add] at hX'
    obtain ⟨u,hu,hr⟩:=run_loadVar_ti (P:=P) hi hX' hob
    exact ⟨u,by unfold Instr.loadAt Instr.sureAddr; rw [run_bind (yes_ok P m.w _)]; exact hu,Rep.down (Nat.zero_le _) _ _ hr⟩
   ·rename_i T0 cs hg
    simp only [Option.some.injEq,Prod.ext_iff] at h
    obtain ⟨rfl,rfl⟩:=h
    simp only [Rep] at hv
    obtain ⟨_,ri,hρ,rfl⟩:=hv
    obtain ⟨ri',hρ',hb⟩:=hH.blk id _ hg
    rw [hρ] at hρ'
    injection hρ' with hρ'
    subst hρ'
    obtain ⟨_,_,_,c,hc,hl,_⟩:=hb
    have hX : RepX m 0 cs ri.b 0:=RepX.of_list hc (by rw [List.drop_zero,← hl.length,List.take_length]; exact hl)
    have hX':=hX.drop off
    rw [Nat.zero_add] at hX'
    obtain ⟨u,hu,hr⟩:=run_loadVar_ti (P:=P) hi hX' hob
    exact ⟨u,by unfold Instr.loadAt Instr.sureAddr; rw [run_bind (yes_ok P m.w _)]; exact hu,Rep.down (Nat.zero_le _) _ _ hr⟩
   ·cases h
  ·rename_i id idx c
   split at h
   ·rename_i sz es own hg
    simp only [Option.some.injEq,Prod.ext_iff] at h
    obtain ⟨rfl,rfl⟩:=h
    obtain ⟨hlt,hob⟩:=hob
    simp only [Rep] at hv
    obtain ⟨_,ri,hρ,rfl⟩:=hv
    obtain ⟨ri',hρ',hb⟩:=hH.blk id _ hg
    rw [hρ] at hρ'
    injection hρ' with hρ'
    subst hρ'
    have hX : RepX m 2 es[idx] ri.b (ri.o + idx * ri.sz):=by
     rcases hb with ⟨_,he⟩ | ⟨_,_,_,_,_,hif⟩
     ·exact (mem_ne_nil hlt he).elim
     ·split at hif
      ·exact (hif.1.at idx hlt).2
      ·exact (hif.1.at idx hlt).2.x
    have hX':=hX.drop c
    have he : es.getD idx [] = es[idx]:=by simp [List.getD,List.getElem?_eq_getElem hlt]
    rw [he] at hob ⊢
    obtain ⟨u,hu,hr⟩:=run_loadVar_ti (P:=P) hi hX' hob
    exact ⟨u,by unfold Instr.loadAt Instr.sureAddr; rw [run_bind (yes_ok P m.w _)]; exact hu,Rep.down (Nat.zero_le _) _ _ hr⟩
   ·rename_i sz es hg
    simp only [Option.some.injEq,Prod.ext_iff] at h
    obtain ⟨rfl,rfl⟩:=h
    obtain ⟨hlt,hob⟩:=hob
    simp only [Rep] at hv
    obtain ⟨_,ri,hρ,rfl⟩:=hv
    obtain ⟨ri',hρ',hb⟩:=hH.blk id _ hg
    rw [hρ] at hρ'
    injection hρ' with hρ'
    subst hρ'
    have hX : RepX m 2 es[idx] ri.b (ri.o + idx * ri.sz):=by
     rcases hb.2 with ⟨_,he⟩ | ⟨_,_,_,_,_,hif⟩
     ·exact (mem_ne_nil hlt he).elim
     ·split at hif
      ·exact (hif.1.at idx hlt).2
      ·exact (hif.1.at idx hlt).2.x
    have hX':=hX.drop c
    have he : es.getD idx [] = es[idx]:=by simp [List.getD,List.getElem?_eq_getElem hlt]
    rw [he] at hob ⊢
    obtain ⟨u,hu,hr⟩:=run_loadVar_ti (P:=P) hi hX' hob
    exact ⟨u,by unfold Instr.loadAt Instr.sureAddr; rw [run_bind (yes_ok P m.w _)]; exact hu,Rep.down (Nat.zero_le _) _ _ hr⟩
   ·cases h
  ·rename_i cs
   simp only [Option.some.injEq,Prod.ext_iff] at h
   obtain ⟨rfl,rfl⟩:=h
   simp only [Rep] at hv
   obtain ⟨b,o,rfl,hc⟩:=hv
   obtain ⟨u,hu,hr⟩:=run_loadVar_ti (P:=P) hi hc.x hob
   exact ⟨u,by unfold Instr.loadAt Instr.sureAddr; rw [run_bind (yes_ok P m.w _)]; exact hu,Rep.down (Nat.zero_le _) _ _ hr⟩
  ·rename_i cs
   simp only [Option.some.injEq,Prod.ext_iff] at h
   obtain ⟨rfl,rfl⟩:=h
   simp only [Rep] at hv
   obtain ⟨_,b,o,rfl,hc⟩:=hv
   obtain ⟨u,hu,hr⟩:=run_loadVar_ti (P:=P) hi hc.x hob
   exact ⟨u,by unfold Instr.loadAt Instr.sureAddr; rw [run_bind (yes_ok P m.w _)]; exact hu,Rep.down (Nat.zero_le _) _ _ hr⟩
  ·cases h

theorem aun_sound {op : UnOp} {x y : AV} {v : Value} {ob : Prop} (hv : Rep m 0 x v) (h : aun op x = some (ob,y)) :
  ∃ u,(Op.unary op v).run P m.w = .ok u m.w ∧ Rep m 0 y u:=by
 unfold aun at h
 split at h
 ·simp only [Rep] at hv
  subst hv
  split at h
  ·simp only [Option.some.injEq,Prod.mk.injEq] at h
   obtain ⟨_,rfl⟩:=h
   exact ⟨_,rfl,by simp only [Rep]⟩
  ·simp only [Option.some.injEq,Prod.mk.injEq] at h
   obtain ⟨_,rfl⟩:=h
   exact ⟨_,rfl,by simp only [Rep]⟩
  ·cases h
 ·simp only [Rep] at hv
  subst hv
  split at h
  ·simp only [Option.some.injEq,Prod.mk.injEq] at h
   obtain ⟨_,rfl⟩:=h
   exact ⟨_,rfl,by simp only [Rep]⟩
  ·cases h
 ·cases h

theorem run_struct {t : TypeId} {i : TI} {fs : List (Nat × TypeId)} {w : World} (hi : tinfo P t = some i) (hk : i.k = .struct fs) :
  ∃ fields : Array Field,(underlying t).run P w = .ok (.struct fields) w ∧ fs = fields.toList.map fun f=>(f.offset,f.type):=by
 obtain ⟨d,hd,hk'⟩:=run_underlying_ti (w:=w) hi
 rw [hk] at hk'
 cases d <;> simp only [tkOf,reduceCtorEq,TK.struct.injEq] at hk'
 rename_i fields
 exact ⟨fields,hd,hk'⟩
theorem run_slice_ti {t e : TypeId} {i : TI} {w : World} (hi : tinfo P t = some i) (hk : i.k = .slice e) : (underlying t).run P w = .ok (.slice e) w:=by
 obtain ⟨d,hd,hk'⟩:=run_underlying_ti (w:=w) hi
 rw [hk] at hk'
 cases d <;> simp only [tkOf,reduceCtorEq,TK.slice.injEq] at hk'
 subst hk'
 exact hd
theorem run_arr_ti {t e : TypeId} {n : Nat} {i : TI} {w : World} (hi : tinfo P t = some i) (hk : i.k = .arr n e) : (underlying t).run P w = .ok (.array n e) w:=by
 obtain ⟨d,hd,hk'⟩:=run_underlying_ti (w:=w) hi
 rw [hk] at hk'
 cases d <;> simp only [tkOf,reduceCtorEq,TK.arr.injEq] at hk'
 obtain ⟨rfl,rfl⟩:=hk'
 exact hd
theorem run_str_ti {t : TypeId} {i : TI} {w : World} (hi : tinfo P t = some i) (hk : i.k = .str) : (underlying t).run P w = .ok .string w:=by
 obtain ⟨d,hd,hk'⟩:=run_underlying_ti (w:=w) hi
 rw [hk] at hk'
 cases d <;> simp only [tkOf,reduceCtorEq] at hk'
 exact hd

theorem afaddr_sound {t : TypeId} {f : Nat} {x y : AV} {v : Value} {ob : Prop} (hv : Rep m 0 x v) (h : afaddr P t f x = some (ob,y)) :
  ∃ u,(Instr.fieldAt t v f).run P m.w = .ok u m.w ∧ Rep m 0 y u:=by
 unfold afaddr at h
 split at h
 ·cases h
 rename_i i hi
 split at h
 case h_2=>cases h
 rename_i fs hk
 split at h
 ·cases h
 rename_i p hp
 split at h
 ·cases h
 rename_i j hj
 split at h
 ·cases h
 rename_i hsz
 obtain ⟨fields,hu,hfs⟩:=run_struct (w:=m.w) hi hk
 subst hfs
 rw [List.getElem?_map] at hp
 cases hfl : fields.toList[f]? with
 | none=>rw [hfl] at hp; cases hp
 | some fld =>
  rw [hfl] at hp
  simp only [Option.map_some,Option.some.injEq] at hp
  subst hp
  have hfl' : fields[f]? = some fld:=by rw [← hfl]; simp
  have key : ∀ b o,v = .pointer (some ⟨b,o,none⟩) → (Instr.fieldAt t v f).run P m.w = .ok (.pointer (some ⟨b,o + fld.offset,none⟩)) m.w:=by
   rintro b o rfl
   unfold Instr.fieldAt
   rw [run_bind hu]
   simp only [hfl']
   unfold Instr.sureAddr
   rw [run_bind (yes_ok P m.w _)]
   unfold fieldPlace
   have h1 : (do if (← Go.sizeOf fld.type) = 0 then partAt ⟨b,o,none⟩ fld.offset fld.byteOffset else pure (Addr.add ⟨b,o,none⟩ fld.offset) : Sem Addr).run P m.w = .ok ⟨b,o + fld.offset,none⟩ m.w:=by
    rw [run_bind (run_sizeOf_ti hj),if_neg hsz,addr_add]
    rfl
   rw [run_bind h1]
   rfl
  split at h
  ·simp only [Option.some.injEq,Prod.mk.injEq] at h
   obtain ⟨_,rfl⟩:=h
   simp only [Rep] at hv ⊢
   obtain ⟨_,ri,hr,rfl⟩:=hv
   exact ⟨_,key _ _ rfl,trivial,ri,hr,rfl⟩
  ·simp only [Option.some.injEq,Prod.mk.injEq] at h
   obtain ⟨_,rfl⟩:=h
   simp only [Rep] at hv ⊢
   obtain ⟨_,ri,hr,rfl⟩:=hv
   exact ⟨_,key _ _ rfl,trivial,ri,hr,by simp only [Nat.add_assoc]⟩
  ·simp only [Option.some.injEq,Prod.mk.injEq] at h
   obtain ⟨_,rfl⟩:=h
   simp only [Rep] at hv ⊢
   obtain ⟨b,o,rfl,hc⟩:=hv
   exact ⟨_,key _ _ rfl,b,_,rfl,hc.drop _⟩
  ·simp only [Option.some.injEq,Prod.mk.injEq] at h
   obtain ⟨_,rfl⟩:=h
   simp only [Rep] at hv ⊢
   obtain ⟨_,b,o,rfl,hc⟩:=hv
   exact ⟨_,key _ _ rfl,Nat.zero_le _,b,_,rfl,hc.drop _⟩
  ·cases h

theorem run_part {t : TypeId} {j : TI} {cs : List AV} {vs : Array Value} {off : Nat} {w : World} (hj : tinfo P t = some j) (hl : RepL m 0 cs vs.toList)
  (hob : (acut j (cs.drop off)).1) : ∃ u,(part t vs off).run P w = .ok u w ∧ Rep m 0 (acut j (cs.drop off)).2 u:=by
 unfold part
 rw [run_bind (run_isAgg_ti hj)]
 unfold acut at *
 split
 ·rename_i hk
  rw [run_bind (run_sizeOf_ti hj)]
  refine ⟨_,rfl,?_⟩
  simp only [Rep]
  refine ⟨_,rfl,?_⟩
  have h2:=(hl.drop off).take j.sz
  rw [Array.toList_extract]
  simpa [List.extract] using h2
 ·rename_i hk
  rw [if_neg hk] at hob
  have hlt : off < cs.length:=by
   simp only [List.length_drop] at hob; omega
  obtain ⟨v,hv,hr⟩:=hl.at off hlt
  have hv' : vs[off]? = some v:=by rw [← hv]; simp
  rw [hv']
  refine ⟨v,rfl,?_⟩
  rw [List.drop_eq_getElem_cons hlt]
  exact hr

theorem afield_sound {t : TypeId} {f : Nat} {x y : AV} {v : Value} {ob : Prop} (hv : Rep m 0 x v) (h : afield P t f x = some (ob,y)) (hob : ob) :
  ∃ u,(Instr.field t v f).run P m.w = .ok u m.w ∧ Rep m 0 y u:=by
 unfold afield at h
 split at h
 ·cases h
 rename_i i hi
 split at h
 case h_2=>cases h
 rename_i fs hk
 split at h
 ·cases h
 rename_i p hp
 split at h
 ·cases h
 rename_i j hj
 split at h
 case h_2=>cases h
 obtain ⟨fields,hu,hfs⟩:=run_struct (w:=m.w) hi hk
 subst hfs
 rw [List.getElem?_map] at hp
 cases hfl : fields.toList[f]? with
 | none=>rw [hfl] at hp; cases hp
 | some fld =>
  rw [hfl] at hp
  simp only [Option.map_some,Option.some.injEq] at hp
  subst hp
  have hfl' : fields[f]? = some fld:=by rw [← hfl]; simp
  simp only [Option.some.injEq,Prod.ext_iff] at h
  obtain ⟨rfl,rfl⟩:=h
  simp only [Rep] at hv
  obtain ⟨vs,rfl,hl⟩:=hv
  obtain ⟨u,hu',hr⟩:=run_part (P:=P) (w:=m.w) hj hl hob
  refine ⟨u,?_,hr⟩
  unfold Instr.field
  rw [run_bind hu]
  simp only [hfl',asAgg]
  rw [run_bind (yes_ok P m.w _)]
  exact hu'

theorem asIntOf_run {k : IntKind} {n : Int} {w : World} : (asIntOf (.int k n)).run P w = .ok (k,n) w:=rfl

theorem aixa_sound (hH : SimH m σ.hp σ.nx) {t : TypeId} {x i y : AV} {v u : Value} {ob : Prop} (hv : Rep m 0 x v) (hu : Rep m 0 i u) (h : aixa P σ.hp t x i = some (ob,y)) (hob : ob) :
  ∃ r,(Instr.indexAt t v u).run P m.w = .ok r m.w ∧ Rep m 0 y r:=by
 unfold aixa at h
 split at h
 case h_2=>cases h
 rename_i k n
 simp only [Rep] at hu
 subst hu
 split at h
 ·cases h
 rename_i ti hti
 split at h
 case h_3=>cases h
 ·rename_i e hk
  split at h
  ·cases h
  rename_i ei hei
  have hun:=run_slice_ti (w:=m.w) hti hk
  have key : ∀ b o len c,v = .slice (some ⟨b,o,none⟩) len c → 0 ≤ n → n < (len : Int) →
    (Instr.indexAt t v (.int k n)).run P m.w = .ok (.pointer (some ⟨b,o + n.toNat * ei.sz,none⟩)) m.w:=by
   rintro b o len c rfl h0 h1
   simp only [Instr.indexAt,Sem.run_bind,asIntOf_run,Result.andThen_ok,hun,Sem.run_pure,h0,h1,and_self,if_true,run_sizeOf_ti hei,addr_add]
  split at h
  ·rename_i es
   simp only [Option.some.injEq,Prod.mk.injEq] at h
   obtain ⟨rfl,rfl⟩:=h
   obtain ⟨⟨h0,h1⟩,hall⟩:=hob
   have hlt : n.toNat < es.length:=by omega
   simp only [Rep] at hv
   rcases hv with ⟨he,_⟩ | ⟨b,o,c,sz,rfl,_,hE⟩
   ·exact (mem_ne_nil hlt he).elim
   ·refine ⟨_,key _ _ _ _ rfl h0 h1,?_⟩
    have hat:=hE.at n.toNat hlt
    have hsz : sz = ei.sz:=hat.1.symm.trans (hall _ (List.getElem_mem hlt))
    subst hsz
    simp only [Rep]
    have he : es.getD n.toNat [] = es[n.toNat]:=by simp [List.getD,List.getElem?_eq_getElem hlt]
    rw [he]
    exact ⟨b,_,rfl,hat.2⟩
  ·rename_i id off len
   split at h
   case h_3=>cases h
   ·rename_i sz es own hg
    split at h
    case isFalse=>cases h
    rename_i hsz0
    simp only [Option.some.injEq,Prod.mk.injEq] at h
    obtain ⟨rfl,rfl⟩:=h
    obtain ⟨⟨h0,h1⟩,h2⟩:=hob
    simp only [Rep] at hv
    obtain ⟨_,ri,hρ,hrow⟩:=hv
    obtain ⟨ri',hρ',hb⟩:=hH.blk id _ hg
    rw [hρ] at hρ'
    injection hρ' with hρ'
    subst hρ'
    have hlt : off + n.toNat < es.length:=by omega
    rcases hb with ⟨_,he⟩ | ⟨hnil,_,⟨_,hsz1⟩,hcap,_,hif⟩
    ·exact (mem_ne_nil hlt he).elim
    have hsz : ri.sz = ei.sz:=hsz1.trans hsz0
    rcases hrow with ⟨hn,_⟩ | ⟨_,_,_,rfl⟩ | ⟨_,_,hl,_⟩
    ·rw [hnil] at hn; cases hn
    ·refine ⟨_,key _ _ _ _ rfl h0 h1,?_⟩
     simp only [Rep]
     refine ⟨trivial,ri,hρ,?_⟩
     rw [hsz,Nat.add_mul]
     simp [Nat.add_assoc]
    ·omega
   ·rename_i sz es hg
    split at h
    case isFalse=>cases h
    rename_i hsz0
    simp only [Option.some.injEq,Prod.mk.injEq] at h
    obtain ⟨rfl,rfl⟩:=h
    obtain ⟨⟨h0,h1⟩,h2⟩:=hob
    simp only [Rep] at hv
    obtain ⟨_,ri,hρ,hrow⟩:=hv
    obtain ⟨ri',hρ',hb⟩:=hH.blk id _ hg
    rw [hρ] at hρ'
    injection hρ' with hρ'
    subst hρ'
    have hlt : off + n.toNat < es.length:=by omega
    rcases hb.2 with ⟨_,he⟩ | ⟨hnil,_,⟨_,hsz1⟩,hcap,_,hif⟩
    ·exact (mem_ne_nil hlt he).elim
    have hsz : ri.sz = ei.sz:=hsz1.trans hsz0
    rcases hrow with ⟨hn,_⟩ | ⟨_,_,_,rfl⟩ | ⟨_,_,hl,_⟩
    ·rw [hnil] at hn; cases hn
    ·refine ⟨_,key _ _ _ _ rfl h0 h1,?_⟩
     simp only [Rep]
     refine ⟨trivial,ri,hρ,?_⟩
     rw [hsz,Nat.add_mul]
     simp [Nat.add_assoc]
    ·omega
  ·cases h
 ·rename_i c e hk
  split at h
  ·cases h
  rename_i ei hei
  have hun:=run_arr_ti (w:=m.w) hti hk
  have key : ∀ b o,v = .pointer (some ⟨b,o,none⟩) → 0 ≤ n → n < (c : Int) →
    (Instr.indexAt t v (.int k n)).run P m.w = .ok (.pointer (some ⟨b,o + n.toNat * ei.sz,none⟩)) m.w:=by
   rintro b o rfl h0 h1
   simp only [Instr.indexAt,Instr.sureAddr,Sem.run_bind,asIntOf_run,Result.andThen_ok,hun,Sem.run_pure,h0,h1,and_self,if_true,run_sizeOf_ti hei,addr_add]
  split at h
  ·simp only [Option.some.injEq,Prod.mk.injEq] at h
   obtain ⟨rfl,rfl⟩:=h
   simp only [Rep] at hv ⊢
   obtain ⟨_,ri,hr,rfl⟩:=hv
   exact ⟨_,key _ _ rfl hob.1 hob.2,trivial,ri,hr,rfl⟩
  ·simp only [Option.some.injEq,Prod.mk.injEq] at h
   obtain ⟨rfl,rfl⟩:=h
   simp only [Rep] at hv ⊢
   obtain ⟨_,ri,hr,rfl⟩:=hv
   exact ⟨_,key _ _ rfl hob.1 hob.2,trivial,ri,hr,by simp [Nat.add_assoc]⟩
  ·simp only [Option.some.injEq,Prod.mk.injEq] at h
   obtain ⟨rfl,rfl⟩:=h
   simp only [Rep] at hv ⊢
   obtain ⟨b,o,rfl,hc⟩:=hv
   exact ⟨_,key _ _ rfl hob.1 hob.2,b,_,rfl,hc.drop _⟩
  ·simp only [Option.some.injEq,Prod.mk.injEq] at h
   obtain ⟨rfl,rfl⟩:=h
   simp only [Rep] at hv ⊢
   obtain ⟨_,b,o,rfl,hc⟩:=hv
   exact ⟨_,key _ _ rfl hob.1 hob.2,Nat.zero_le _,b,_,rfl,hc.drop _⟩
  ·cases h

theorem byteArray_getElem? (s : List UInt8) (i : Nat) : (⟨s.toArray⟩ : ByteArray)[i]? = s[i]?:=by
 by_cases h : i < s.length
 ·have h1 : i < (⟨s.toArray⟩ : ByteArray).size:=by show i < s.toArray.size; simpa using h
  rw [getElem?_pos (⟨s.toArray⟩ : ByteArray) i h1,List.getElem?_eq_getElem h]
  rfl
 ·have h1 : ¬ i < (⟨s.toArray⟩ : ByteArray).size:=by show ¬ i < s.toArray.size; simpa using h
  rw [getElem?_neg (⟨s.toArray⟩ : ByteArray) i h1,List.getElem?_eq_none (by omega)]

theorem aindex_sound {t : TypeId} {x i y : AV} {v u : Value} {ob : Prop} (hv : Rep m 0 x v) (hu : Rep m 0 i u) (h : aindex P t x i = some (ob,y)) (hob : ob) :
  ∃ r,(Instr.index t v u).run P m.w = .ok r m.w ∧ Rep m 0 y r:=by
 unfold aindex at h
 split at h
 case h_2=>cases h
 rename_i k n
 simp only [Rep] at hu
 subst hu
 split at h
 ·cases h
 rename_i ti hti
 split at h
 case h_3=>cases h
 ·rename_i hk
  split at h
  case h_2=>cases h
  rename_i s
  simp only [Option.some.injEq,Prod.mk.injEq] at h
  obtain ⟨rfl,rfl⟩:=h
  simp only [Rep] at hv
  subst hv
  have hlt : n.toNat < s.length:=by omega
  refine ⟨.int .u8 ((s.getD n.toNat 0).toNat : Int),?_,by simp only [Rep]⟩
  unfold Instr.index
  rw [run_bind asIntOf_run]
  simp only []
  rw [run_bind (run_str_ti hti hk)]
  simp only [if_pos hob.1,byteArray_getElem?,List.getElem?_eq_getElem hlt]
  simp [List.getD,List.getElem?_eq_getElem hlt]
 ·rename_i c e hk
  split at h
  ·cases h
  rename_i ei hei
  split at h
  case h_2=>cases h
  rename_i cs
  simp only [Option.some.injEq,Prod.mk.injEq] at h
  obtain ⟨rfl,rfl⟩:=h
  simp only [Rep] at hv
  obtain ⟨vs,rfl,hl⟩:=hv
  obtain ⟨u,hu',hr⟩:=run_part (P:=P) (w:=m.w) hei hl hob.2
  refine ⟨u,?_,hr⟩
  unfold Instr.index
  rw [run_bind asIntOf_run]
  simp only []
  rw [run_bind (run_arr_ti hti hk)]
  simp only [hob.1,and_self,if_true]
  rw [run_bind (run_sizeOf_ti hei)]
  exact hu'

theorem aextract_sound {k : Nat} {x y : AV} {v : Value} {ob : Prop} (hv : Rep m 0 x v) (h : aextract k x = some (ob,y)) :
  ∃ r,(Instr.extract v k).run P m.w = .ok r m.w ∧ Rep m 0 y r:=by
 unfold aextract at h
 split at h
 case h_2=>cases h
 split at h
 case h_2=>cases h
 rename_i vs _ z hz
 simp only [Option.some.injEq,Prod.mk.injEq] at h
 obtain ⟨_,rfl⟩:=h
 simp only [Rep] at hv
 obtain ⟨us,rfl,hl⟩:=hv
 have hlt : k < vs.length:=by
  rcases Nat.lt_or_ge k vs.length with h | h
  ·exact h
  ·rw [List.getElem?_eq_none h] at hz; cases hz
 obtain ⟨u,hu,hr⟩:=hl.at k hlt
 rw [List.getElem?_eq_getElem hlt] at hz
 injection hz with hz
 subst hz
 have hu' : us[k]? = some u:=by rw [← hu]; simp
 exact ⟨u,by simp only [Instr.extract,hu']; rfl,hr⟩

theorem amkif_sound {t : TypeId} {x y : AV} {v : Value} {ob : Prop} (hv : Rep m 0 x v) (h : amkif P t x = some (ob,y)) :
  ∃ r,(Instr.makeInterface t v).run P m.w = .ok r m.w ∧ Rep m 0 y r:=by
 unfold amkif at h
 split at h
 ·cases h
 rename_i i hi
 obtain ⟨d,hd,hk⟩:=run_underlying_ti (w:=m.w) hi
 split at h
 ·cases h
 rename_i hne
 simp only [Option.some.injEq,Prod.mk.injEq] at h
 obtain ⟨_,rfl⟩:=h
 refine ⟨.iface t v,?_,by simp only [Rep]; exact ⟨v,rfl,hv⟩⟩
 unfold Instr.makeInterface
 rw [run_bind hd]
 cases d <;> first | rfl | (exact (hne hk).elim)
end
end Aw

namespace Aw
open Go

def abound (dflt : Int) (x : Option AV) : Option Int :=
 match x with
 | none=>some dflt
 | some y=>match y with
  | .int _ n=>some n
  | _=>none

def aslice (P : Program) (t : TypeId) (a : AV) (lo hi : Option AV) : Option (Prop × AV) :=
 match tinfo P t with
 | none=>none
 | some ti=>match ti.k with
  | .str=>match a with
   | .str s=>match abound 0 lo,abound s.length hi with
    | some l,some h=>some ((0 ≤ l ∧ l ≤ h) ∧ h ≤ (s.length : Int),.str ((s.take h.toNat).drop l.toNat))
    | _,_=>none
   | _=>none
  | .slice e=>match tinfo P e with
   | none=>none
   | some ei=>match a with
    | .sl es=>match abound 0 lo,abound es.length hi with
     | some l,some h=>some (((0 ≤ l ∧ l ≤ h) ∧ h ≤ (es.length : Int)) ∧ ∀ x ∈ es,x.length = ei.sz,.sl ((es.take h.toNat).drop l.toNat))
     | _,_=>none
    | .raw _=>none
    | _=>none
  | _=>none

def arowslice (P : Program) (hp : List (Nat × ABlk)) (t : TypeId) (a : AV) (lo hi : Option AV) : Option (Prop × AV) :=
 match tinfo P t with
 | none=>none
 | some ti=>match ti.k with
  | .slice e=>match tinfo P e with
   | none=>none
   | some ei=>match a with
    | .row id off len=>match abound 0 lo,abound len hi,get hp id with
     | some l,some h,some (.row sz _ _)=>if sz = ei.sz then some ((0 ≤ l ∧ l ≤ h) ∧ h ≤ (len : Int),.row id (off + l.toNat) (h - l).toNat) else none
     | some l,some h,some (.full sz es)=>if sz = ei.sz then some ((0 ≤ l ∧ l ≤ h) ∧ h ≤ (es.length : Int) - off,.row id (off + l.toNat) (h - l).toNat) else none
     | _,_,_=>none
    | _=>none
  | _=>none

def alen (P : Program) (hp : List (Nat × ABlk)) (t : TypeId) (a : AV) : Option (Prop × AV) :=
 match tinfo P t with
 | none=>none
 | some ti=>match ti.k with
  | .str=>match a with
   | .str s=>some (True,.int .i64 s.length)
   | _=>none
  | .slice _=>match a with
   | .sl es=>some (True,.int .i64 es.length)
   | .row _ _ len=>some (True,.int .i64 len)
   | .raw v=>match v with
    | .slice none n _=>some (True,.int .i64 n)
    | _=>none
   | _=>none
  | .arr n _=>some (True,.int .i64 n)
  | .map _ _=>match a with
   | .cmap ks _=>some (True,.int .i64 ks.length)
   | .map id=>match get hp id with
    | some (.amap ks _)=>some (True,.int .i64 ks.length)
    | _=>none
   | .raw v=>match v with
    | .map none=>some (True,.int .i64 0)
    | _=>none
   | _=>none
  | _=>none

def acvt (P : Program) (s d : TypeId) (a : AV) : Option (Prop × AV) :=
 match tinfo P s,tinfo P d with
 | some si,some di=>match a with
  | .int _ n=>match di.k with
   | .int k=>some (True,.int k (k.wrap n))
   | _=>none
  | .str l=>match di.k,si.k with
   | .str,.str=>some (True,.str l)
   | _,_=>none
  | _=>none
 | _,_=>none

def nilEq (k : TK) (c : Bool) (a b : AV) : Option Bool :=
 match k with
 | .iface=>match a with
  | .raw v=>match v with
   | .nilIface=>match b with
    | .raw u=>match u with
     | .nilIface=>if c then some true else none
     | _=>none
    | .iface _ _=>some false
    | _=>none
   | _=>none
  | .iface _ _=>match b with
   | .raw u=>match u with
    | .nilIface=>some false
    | _=>none
   | _=>none
  | _=>none
 | .ptr _=>match b with
  | .raw u=>match u with
   | .pointer none=>match a with
    | .raw v=>match v with
     | .pointer none=>some true
     | _=>none
    | .ptr _ _=>some false
    | .rptr _ _ _=>some false
    | .cptr _=>some false
    | .tptr _=>some false
    | _=>none
   | _=>none
  | _=>none
 | .func=>match b with
  | .raw u=>match u with
   | .nilFunc=>match a with
    | .raw v=>match v with
     | .nilFunc=>some true
     | _=>none
    | .clos _ _=>some false
    | _=>none
   | _=>none
  | _=>none
 | _=>none
def isLit (x : Operand) : Bool :=
 match x with
 | .const _=>true
 | _=>false
def nilOp (P : Program) (op : BinOp) (t : TypeId) (c : Bool) (a b : AV) : Option (Prop × AV) :=
 match tinfo P t with
 | none=>none
 | some i=>match nilEq i.k c a b with
  | none=>none
  | some r=>match op with
   | .eql=>some (True,.bool r)
   | .neq=>some (True,.bool (!r))
   | _=>none
def topOp (op : BinOp) : Option (Prop × AV) :=
 match op with
 | .eql=>some (False,.bool false)
 | .neq=>some (False,.bool false)
 | .lss=>some (False,.bool false)
 | .leq=>some (False,.bool false)
 | .gtr=>some (False,.bool false)
 | .geq=>some (False,.bool false)
 | _=>some (False,.top)
theorem topOp_false {op : BinOp} {ob : Prop} {z : AV} (h : topOp op = some (ob,z)) : ¬ ob:=by
 unfold topOp at h
 split at h <;> (simp only [Option.some.injEq,Prod.mk.injEq] at h; rw [← h.1]; exact fun h=>h)
def abinT (P : Program) (op : BinOp) (t : TypeId) (lit : Bool) (a b : AV) : Option (Prop × AV) :=
 match abin op a b with
 | some r=>some r
 | none=>match nilOp P op t lit a b with
  | some r=>some r
  | none=>match a,b with
  | .bool x,.bool y=>match tinfo P t with
   | some i=>match i.k with
    | .bool=>match op with
     | .eql=>some (True,.bool (decide (x = y)))
     | .neq=>some (True,.bool (!decide (x = y)))
     | _=>none
    | _=>none
   | none=>none
  | .top,_=>topOp op
  | _,.top=>topOp op
  | _,_=>none

def evs (σ : St) : List Operand → Option (List AV)
 | []=>some []
 | x :: xs=>match ev σ x,evs σ xs with
  | some y,some ys=>some (y :: ys)
  | _,_=>none

def amkfunc (σ : St) (fn : Fn) (first caps : Array Operand) : Option (Prop × AV) :=
 match fn with
 | .func f=>if first.isEmpty then match evs σ caps.toList with
   | some l=>some (True,.clos f l)
   | none=>none
  else none
 | _=>none

def aassert (P : Program) (ty : TypeId) (ok : Bool) (a : AV) : Option (Prop × AV) :=
 match tinfo P ty with
 | none=>none
 | some i=>match i.k with
  | .iface=>none
  | _=>match a with
   | .iface t x=>if t = ty then some (True,if ok then .tup [x,.bool true] else x)
    else if ok && i.zero.isSome then some (True,.tup [.top,.bool false]) else none
   | .raw v=>match v with
    | .nilIface=>if ok && i.zero.isSome then some (True,.tup [.top,.bool false]) else none
    | _=>none
   | _=>none

def aminmax (isMin : Bool) : List AV → Option AV
 | []=>none
 | x :: xs=>xs.foldl (fun acc y=>match acc with
   | some (.int k a)=>match y with
    | .int k' b=>if k = k' then some (.int k (if isMin then min a b else max a b)) else none
    | _=>none
   | _=>none) (match x with | .int k a=>some (.int k a) | _=>none)

def optOp (σ : St) (g : Bool) (x : Option Operand) (f : Option AV → Option (Prop × AV)) : Option (Prop × AV) :=
 match x with
 | none=>f none
 | some o=>op1 σ g o fun y=>f (some y)

def pureOp (P : Program) (σ : St) (g : Bool) (o : Op) : Option (Prop × AV) :=
 match o with
 | .move x=>op1 σ g x fun a=>some (True,a)
 | .assign x=>op1 σ g x fun a=>some (True,a)
 | .pick c a b=>apick σ g c a b
 | .load t a=>op1 σ g a (aload P σ.hp t)
 | .nilCheck x=>op1 σ g x anil
 | .binOp op t x y _=>op2 σ g x y (abinT P op t (isLit x || isLit y))
 | .unOp op _ x=>op1 σ g x (aun op)
 | .convert s d x=>op1 σ g x (acvt P s d)
 | .makeInterface t x=>op1 σ g x (amkif P t)
 | .makeFunc fn first caps=>amkfunc σ fn first caps
 | .fieldAddr t x f=>op1 σ g x (afaddr P t f)
 | .field t x f=>op1 σ g x (afield P t f)
 | .indexAddr t x i=>op2 σ g x i (aixa P σ.hp t)
 | .index t x i=>op2 σ g x i (aindex P t)
 | .slice t x lo hi mx=>match mx with
  | some _=>none
  | none=>op1 σ g x fun a=>optOp σ g lo fun l=>optOp σ g hi fun h=>match aslice P t a l h with
   | some r=>some r
   | none=>arowslice P σ.hp t a l h
 | .extract x i=>op1 σ g x (aextract i)
 | .typeAssert x _ ty ok=>op1 σ g x (aassert P ty ok)
 | .call c=>match c.callee with
  | .builtin b=>match b with
   | .len=>match c.args.toList,c.argTypes.toList with
    | [x],[t]=>op1 σ g x (alen P σ.hp t)
    | _,_=>none
   | .min=>match evs σ c.args.toList with
    | some l=>op0 (aminmax true l)
    | none=>none
   | .max=>match evs σ c.args.toList with
    | some l=>op0 (aminmax false l)
    | none=>none
   | _=>none
  | _=>none
 | _=>none

section
variable {P : Program} {m : Mem} {a : Act} {σ : St}

theorem op1_sound {g : Bool} (hS : Sim m a σ) (hg : g = true) {x : Operand} {f : AV → Option (Prop × AV)} {ob : Prop} {y : AV}
  (h : op1 σ g x f = some (ob,y)) (hob : ob) : ∃ b q,Rep m 0 b (a.eval x) ∧ f b = some (q,y) ∧ q:=by
 unfold op1 at h
 split at h
 case h_2=>cases h
 rename_i b hb
 split at h
 case h_2=>cases h
 rename_i q hq
 simp only [Option.some.injEq,Prod.mk.injEq] at h
 obtain ⟨rfl,rfl⟩:=h
 exact ⟨_,_,(hS.ev hb).strip hg hob.1,hq,hob.2⟩
theorem op2_sound {g : Bool} (hS : Sim m a σ) (hg : g = true) {x x' : Operand} {f : AV → AV → Option (Prop × AV)} {ob : Prop} {y : AV}
  (h : op2 σ g x x' f = some (ob,y)) (hob : ob) : ∃ b c q,Rep m 0 b (a.eval x) ∧ Rep m 0 c (a.eval x') ∧ f b c = some (q,y) ∧ q:=by
 unfold op2 at h
 obtain ⟨b,q,hb,h',hq⟩:=op1_sound hS hg h hob
 obtain ⟨c,q',hc,h'',hq'⟩:=op1_sound hS hg h' hq
 exact ⟨b,c,q',hb,hc,h'',hq'⟩

theorem evs_sound (hS : Sim m a σ) : ∀ {xs : List Operand} {l : List AV},evs σ xs = some l → RepL m 0 l (xs.map a.eval)
 | [],l,h=>by simp only [evs,Option.some.injEq] at h; subst h; simp [RepL]
 | x :: xs,l,h=>by
  unfold evs at h
  split at h
  case h_2=>cases h
  rename_i y ys hy hys
  simp only [Option.some.injEq] at h
  subst h
  simp only [List.map_cons,RepL]
  exact ⟨_,_,rfl,hS.ev hy,evs_sound hS hys⟩

theorem run_sliceBounds {lo hi : Option AV} {vl vh : Option Value} {l h : Int} {len cap : Nat} {isSlice : Bool} {w : World}
  (hl : ∀ z,lo = some z → ∃ u,vl = some u ∧ Rep m 0 z u) (hln : lo = none → vl = none)
  (hh : ∀ z,hi = some z → ∃ u,vh = some u ∧ Rep m 0 z u) (hhn : hi = none → vh = none)
  (h1 : abound 0 lo = some l) (h2 : abound len hi = some h) (h3 : 0 ≤ l ∧ l ≤ h) (h4 : h ≤ (len : Int)) (h5 : len ≤ cap) :
  (Instr.sliceBounds isSlice len cap vl vh none).run P w = .ok (l.toNat,h.toNat,cap) w:=by
 have hint : ∀ (z : AV) (d n : Int),abound d (some z) = some n → ∃ k,z = .int k n:=by
  intro z d n hz
  cases z <;> simp only [abound,reduceCtorEq,Option.some.injEq] at hz
  exact ⟨_,by rw [hz]⟩
 have b2 : ∀ (v : Value) (n : Int) (y : Nat) (c : BoundsCode) (k : IntKind),v = .int k n → 0 ≤ n → n ≤ y → (Instr.sliceBound v y c).run P w = .ok n.toNat w:=by
  rintro _ n y c k rfl h0 h1
  simp [Instr.sliceBound,asIntOf_run,h0,h1]
 cases hi with
 | none =>
  rw [hhn rfl]
  simp only [abound,Option.some.injEq] at h2
  subst h2
  cases lo with
  | none =>
   rw [hln rfl]
   simp only [abound,Option.some.injEq] at h1
   subst h1
   simp [Instr.sliceBounds]
  | some z =>
   obtain ⟨u,rfl,hu⟩:=hl z rfl
   obtain ⟨k,rfl⟩:=hint z _ _ h1
   simp only [Rep] at hu
   simp [Instr.sliceBounds,b2 u l len _ k hu h3.1 h3.2]
 | some y =>
  obtain ⟨u,rfl,hu⟩:=hh y rfl
  obtain ⟨k,rfl⟩:=hint y _ _ h2
  simp only [Rep] at hu
  have e : (h.toNat : Int) = h:=by omega
  cases lo with
  | none =>
   rw [hln rfl]
   simp only [abound,Option.some.injEq] at h1
   subst h1
   simp [Instr.sliceBounds,b2 u h cap _ k hu (by omega) (by omega)]
  | some z =>
   obtain ⟨u',rfl,hu'⟩:=hl z rfl
   obtain ⟨k',rfl⟩:=hint z _ _ h1
   simp only [Rep] at hu'
   simp [Instr.sliceBounds,b2 u h cap _ k hu (by omega) (by omega),b2 u' l h.toNat _ k' hu' h3.1 (by omega)]

theorem sliceAt_slice {t e : TypeId} {ti : TI} {v : Value} {lo hi : Option Value} {w : World} (hi' : tinfo P t = some ti) (hk : ti.k = .slice e) :
  (Instr.sliceAt t v lo hi none).run P w = (Instr.slice t v lo hi none).run P w:=by
 simp only [Instr.sliceAt,Sem.run_bind,run_slice_ti hi' hk,Result.andThen_ok]
theorem sliceAt_str {t : TypeId} {ti : TI} {v : Value} {lo hi : Option Value} {w : World} (hi' : tinfo P t = some ti) (hk : ti.k = .str) :
  (Instr.sliceAt t v lo hi none).run P w = (Instr.slice t v lo hi none).run P w:=by
 simp only [Instr.sliceAt,Sem.run_bind,run_str_ti hi' hk,Result.andThen_ok]

theorem aslice_sound {t : TypeId} {x y : AV} {v : Value} {lo hi : Option AV} {vl vh : Option Value} {ob : Prop} (hv : Rep m 0 x v)
  (hl : ∀ z,lo = some z → ∃ u,vl = some u ∧ Rep m 0 z u) (hln : lo = none → vl = none)
  (hh : ∀ z,hi = some z → ∃ u,vh = some u ∧ Rep m 0 z u) (hhn : hi = none → vh = none)
  (h : aslice P t x lo hi = some (ob,y)) (hob : ob) : ∃ r,(Instr.sliceAt t v vl vh none).run P m.w = .ok r m.w ∧ Rep m 0 y r:=by
 unfold aslice at h
 split at h
 ·cases h
 rename_i ti hti
 split at h
 case h_3=>cases h
 ·rename_i hk
  split at h
  case h_2=>cases h
  rename_i s
  split at h
  case h_2=>cases h
  rename_i l h' h1 h2
  simp only [Option.some.injEq,Prod.mk.injEq] at h
  obtain ⟨rfl,rfl⟩:=h
  obtain ⟨h3,h4⟩:=hob
  simp only [Rep] at hv
  subst hv
  rw [sliceAt_str hti hk]
  have hsz : (⟨s.toArray⟩ : ByteArray).size = s.length:=by show s.toArray.size = _; simp
  have hb:=run_sliceBounds (P:=P) (w:=m.w) (isSlice:=false) hl hln hh hhn h1 h2 h3 h4 (Nat.le_refl _)
  refine ⟨.string ((⟨s.toArray⟩ : ByteArray).extract l.toNat h'.toNat),?_,?_⟩
  ·simp only [Instr.slice,Sem.run_bind,run_str_ti hti hk,Result.andThen_ok,hsz,hb,Option.isSome_none,Bool.false_eq_true,if_false,Sem.run_pure]
  ·simp only [Rep,Value.string.injEq]
   apply ByteArray.ext
   apply Array.ext'
   rw [Lib.extract_data,List.drop_take]
 ·rename_i e hk
  split at h
  ·cases h
  rename_i ei hei
  split at h
  case h_2=>cases h
  case h_3=>cases h
  rename_i es
  split at h
  case h_2=>cases h
  rename_i l h' h1 h2
  simp only [Option.some.injEq,Prod.mk.injEq] at h
  obtain ⟨rfl,rfl⟩:=h
  obtain ⟨⟨h3,h4⟩,hall⟩:=hob
  rw [sliceAt_slice hti hk]
  simp only [Rep] at hv
  rcases hv with ⟨rfl,a,c,rfl⟩ | ⟨b,o,c,sz,rfl,hle,hE⟩
  ·have hb:=run_sliceBounds (P:=P) (w:=m.w) (isSlice:=true) hl hln hh hhn h1 h2 h3 h4 (Nat.zero_le c)
   have hl0 : l.toNat = 0:=by simp at h4; omega
   have hh0 : h'.toNat = 0:=by simp at h4; omega
   rw [hl0,hh0,List.length_nil] at hb
   refine ⟨_,by simp only [Instr.slice,Sem.run_bind,run_slice_ti hti hk,Result.andThen_ok,hb,run_sizeOf_ti hei,Sem.run_pure]; rfl,?_⟩
   simp only [Rep]
   exact .inl ⟨by simp,_,_,rfl⟩
  ·have hb:=run_sliceBounds (P:=P) (w:=m.w) (isSlice:=true) hl hln hh hhn h1 h2 h3 h4 hle
   refine ⟨_,by simp only [Instr.slice,Sem.run_bind,run_slice_ti hti hk,Result.andThen_ok,hb,run_sizeOf_ti hei,Sem.run_pure]; rfl,?_⟩
   simp only [Rep]
   by_cases hlen : (es.take h'.toNat).drop l.toNat = []
   ·have : h'.toNat - l.toNat = 0:=by
     have:=congrArg List.length hlen
     simp at this
     omega
    exact .inl ⟨hlen,_,_,congrArg (fun n=>Value.slice _ n _) this⟩
   ·have hlt : l.toNat < h'.toNat:=by
     rcases Nat.lt_or_ge l.toNat h'.toNat with h | h
     ·exact h
     ·exfalso; apply hlen; apply List.drop_eq_nil_of_le; simp; omega
    have hsz : sz = ei.sz:=by
     have hlt' : l.toNat < es.length:=by omega
     exact (hE.at _ hlt').1.symm.trans (hall _ (List.getElem_mem hlt'))
    subst hsz
    refine .inr ⟨b,o + l.toNat * ei.sz,c - l.toNat,ei.sz,?_,by simp only [List.length_drop,List.length_take]; omega,(hE.take _).drop _⟩
    rw [if_neg (by omega)]
    simp only [Option.map_some,addr_add,List.length_drop,List.length_take]
    congr 1
    omega

theorem full_cap {m : Mem} {hp : List (Nat × ABlk)} {nx : Nat} (hH : SimH m hp nx) {id off len sz : Nat} {es : List (List AV)} (hg : get hp id = some (.full sz es)) {v : Value} (hv : Rep m 0 (.row id off len) v) :
  ∃ A,v = .slice A len (es.length - off) ∧ off + len ≤ es.length:=by
 simp only [Rep] at hv
 obtain ⟨_,ri,hρ,hrow⟩:=hv
 obtain ⟨ri',hρ',hb,hc⟩:=hH.blk id _ hg
 rw [hρ] at hρ'
 injection hρ' with hρ'
 subst hρ'
 rcases hrow with ⟨hn,rfl,rfl,rfl⟩ | ⟨hn,hcap,hlt,rfl⟩ | ⟨hn,rfl,rfl,a,rfl⟩
 ·have : es = []:=by
   rcases hb with h | h
   ·exact h.2
   ·rw [hn] at h; cases h.1
  subst this
  exact ⟨none,rfl,by simp⟩
 ·have:=hc hn
  exact ⟨_,by rw [this],by omega⟩
 ·have:=hc hn
  exact ⟨some a,by rw [this,Nat.sub_self],by omega⟩


theorem rowfull_slice (hH : SimH m σ.hp σ.nx) {t e : TypeId} {i ei : TI} {id off len sz : Nat} {es : List (List AV)} {l h : Int} {lo hi : Option AV} {vl vh : Option Value} {v : Value} (hi' : tinfo P t = some i) (hk : i.k = .slice e) (hei : tinfo P e = some ei) (hsz : sz = ei.sz) (hv0 : Rep m 0 (.row id off len) v)
  (hl1 : ∀ z,lo = some z → ∃ u,vl = some u ∧ Rep m 0 z u) (hl2 : lo = none → vl = none) (hh1 : ∀ z,hi = some z → ∃ u,vh = some u ∧ Rep m 0 z u) (hh2 : hi = none → vh = none) (hl : abound 0 lo = some l) (hh : abound len hi = some h)
  (hp : get σ.hp id = some (.full sz es)) (hlh : 0 ≤ l ∧ l ≤ h) (hcap : h ≤ (es.length : Int) - off) : ∃ r,(Instr.sliceAt t v vl vh none).run P m.w = .ok r m.w ∧ Rep m 0 (.row id (off + l.toNat) (h - l).toNat) r:=by
 obtain ⟨A,hvs,hle⟩:=full_cap hH hp hv0
 have hv:=hv0
 simp only [Rep] at hv
 obtain ⟨_,ri,hρ,hrow⟩:=hv
 obtain ⟨ri',hρ',hb,hc⟩:=hH.blk id _ hp
 rw [hρ] at hρ'
 injection hρ' with hρ'
 subst hρ'
 have ln : (h - l).toNat = h.toNat - l.toNat:=by omega
 -- the bounds, up to the room
 have hbnd : ∀ cap : Nat,h ≤ cap → len ≤ cap → (Instr.sliceBounds true len cap vl vh none).run P m.w = .ok (l.toNat,h.toNat,cap) m.w:=by
  intro cap hc1 hc2
  have hint : ∀ (z : AV) (d n : Int),abound d (some z) = some n → ∃ k,z = .int k n:=by
   intro z d n hz
   cases z <;> simp only [abound,reduceCtorEq,Option.some.injEq] at hz
   exact ⟨_,by rw [hz]⟩
  have b2 : ∀ (v : Value) (n : Int) (y : Nat) (c : BoundsCode) (k : IntKind),v = .int k n → 0 ≤ n → n ≤ y → (Instr.sliceBound v y c).run P m.w = .ok n.toNat m.w:=by
   rintro _ n y c k rfl h0 h1
   simp [Instr.sliceBound,asIntOf_run,h0,h1]
  have eh : (h.toNat : Int) = h:=by omega
  cases hq : hi with
  | none =>
   rw [hh2 hq]
   rw [hq] at hh
   simp only [abound,Option.some.injEq] at hh
   subst hh
   cases hq' : lo with
   | none =>
    rw [hl2 hq']
    rw [hq'] at hl
    simp only [abound,Option.some.injEq] at hl
    subst hl
    simp [Instr.sliceBounds]
   | some z =>
    obtain ⟨u,hu1,hu2⟩:=hl1 z hq'
    rw [hu1]
    rw [hq'] at hl
    obtain ⟨k,rfl⟩:=hint z _ _ hl
    simp only [Rep] at hu2
    simp [Instr.sliceBounds,b2 u l len _ k hu2 hlh.1 hlh.2]
  | some y =>
   obtain ⟨u,hu1,hu2⟩:=hh1 y hq
   rw [hu1]
   rw [hq] at hh
   obtain ⟨k,rfl⟩:=hint y _ _ hh
   simp only [Rep] at hu2
   cases hq' : lo with
   | none =>
    rw [hl2 hq']
    rw [hq'] at hl
    simp only [abound,Option.some.injEq] at hl
    subst hl
    simp [Instr.sliceBounds,b2 u h cap _ k hu2 (by omega) (by omega)]
   | some z =>
    obtain ⟨u',hu1',hu2'⟩:=hl1 z hq'
    rw [hu1']
    rw [hq'] at hl
    obtain ⟨k',rfl⟩:=hint z _ _ hl
    simp only [Rep] at hu2'
    simp [Instr.sliceBounds,b2 u h cap _ k hu2 (by omega) (by omega),b2 u' l h.toNat _ k' hu2' hlh.1 (by omega)]
 rcases hrow with ⟨hn,rfl,rfl,hv⟩ | ⟨hn,hcap',hlt,hv⟩ | ⟨hn,rfl,rfl,A',hv⟩
 ·have hes : es = []:=by
   rcases hb with h | h
   ·exact h.2
   ·rw [hn] at h; cases h.1
  subst hes
  have hl0 : l.toNat = 0:=by simp at hcap; omega
  have hh0 : h.toNat = 0:=by simp at hcap; omega
  have hb':=hbnd 0 (by simp at hcap ⊢; omega) (Nat.le_refl 0)
  rw [hl0,hh0] at hb'
  refine ⟨.slice none 0 0,?_,?_⟩
  ·rw [sliceAt_slice hi' hk,hv]
   simp only [Instr.slice,Sem.run_bind,run_slice_ti hi' hk,Result.andThen_ok,hb',run_sizeOf_ti hei,Sem.run_pure]; rfl
  ·simp only [Rep]
   exact ⟨trivial,ri,hρ,.inl ⟨hn,by omega,by omega,rfl⟩⟩
 ·have hcc:=hc hn
  have hb':=hbnd (ri.cap - off) (by omega) (by omega)
  refine ⟨_,by rw [sliceAt_slice hi' hk,hv]; simp only [Instr.slice,Sem.run_bind,run_slice_ti hi' hk,Result.andThen_ok,hb',run_sizeOf_ti hei,Sem.run_pure]; rfl,?_⟩
  simp only [Rep]
  refine ⟨trivial,ri,hρ,?_⟩
  by_cases hc0 : ri.cap - off = l.toNat
  ·rw [if_pos hc0]
   refine .inr (.inr ⟨hn,by omega,by omega,⟨ri.b,ri.o + off * ri.sz,none⟩,?_⟩)
   rw [show h.toNat - l.toNat = 0 from by omega,show ri.cap - off - l.toNat = 0 from by omega]
  ·rw [if_neg hc0]
   by_cases hz : l.toNat = 0
   ·refine .inr (.inl ⟨hn,by omega,by omega,?_⟩)
    simp only [Option.map_some,addr_add,hz,Nat.zero_mul,Nat.add_zero,Nat.sub_zero,Nat.sub_zero]
    rw [show (h - l).toNat = h.toNat from by omega]
   ·have hsz' : ri.sz = ei.sz:=by
     rcases hb with ⟨hn',_⟩ | ⟨_,_,⟨_,hsz1⟩,_⟩
     ·rw [hn] at hn'; cases hn'
     ·exact hsz1.trans hsz
    refine .inr (.inl ⟨hn,by omega,by omega,?_⟩)
    simp only [Option.map_some,addr_add,← hsz']
    rw [ln,show ri.o + off * ri.sz + l.toNat * ri.sz = ri.o + (off + l.toNat) * ri.sz from by rw [Nat.add_mul]; omega,Nat.sub_sub]
 ·have hcc:=hc hn
  have hl0 : l.toNat = 0:=by omega
  have hh0 : h.toNat = 0:=by omega
  have hb':=hbnd 0 (by omega) (Nat.le_refl 0)
  rw [hl0,hh0] at hb'
  refine ⟨.slice (some A') 0 0,?_,?_⟩
  ·rw [sliceAt_slice hi' hk,hv]
   simp only [Instr.slice,Sem.run_bind,run_slice_ti hi' hk,Result.andThen_ok,hb',run_sizeOf_ti hei,Sem.run_pure]; rfl
  ·simp only [Rep]
   exact ⟨trivial,ri,hρ,.inr (.inr ⟨hn,by omega,by omega,A',rfl⟩)⟩
theorem arowslice_sound (hH : SimH m σ.hp σ.nx) {t : TypeId} {x y : AV} {v : Value} {lo hi : Option AV} {vl vh : Option Value} {ob : Prop} (hv : Rep m 0 x v)
  (hl : ∀ z,lo = some z → ∃ u,vl = some u ∧ Rep m 0 z u) (hln : lo = none → vl = none)
  (hh : ∀ z,hi = some z → ∃ u,vh = some u ∧ Rep m 0 z u) (hhn : hi = none → vh = none)
  (h : arowslice P σ.hp t x lo hi = some (ob,y)) (hob : ob) : ∃ r,(Instr.sliceAt t v vl vh none).run P m.w = .ok r m.w ∧ Rep m 0 y r:=by
 unfold arowslice at h
 split at h
 ·cases h
 rename_i ti hti
 split at h
 case h_2=>cases h
 rename_i e hk
 split at h
 ·cases h
 rename_i ei hei
 split at h
 case h_2=>cases h
 rename_i id off len
 split at h
 case h_3=>cases h
 case h_2 =>
  rename_i l h' sz es h1 h2 hg
  split at h
  case isFalse=>cases h
  rename_i hsz0
  simp only [Option.some.injEq,Prod.mk.injEq] at h
  obtain ⟨rfl,rfl⟩:=h
  exact rowfull_slice hH hti hk hei hsz0 hv hl hln hh hhn h1 h2 hg hob.1 hob.2
 rename_i l h' sz es own h1 h2 hg
 split at h
 case isFalse=>cases h
 rename_i hsz0
 simp only [Option.some.injEq,Prod.mk.injEq] at h
 obtain ⟨rfl,rfl⟩:=h
 obtain ⟨h3,h4⟩:=hob
 rw [sliceAt_slice hti hk]
 simp only [Rep] at hv
 obtain ⟨_,ri,hρ,hrow⟩:=hv
 obtain ⟨ri',hρ',hb⟩:=hH.blk id _ hg
 rw [hρ] at hρ'
 injection hρ' with hρ'
 subst hρ'
 have ln : (h' - l).toNat = h'.toNat - l.toNat:=by omega
 rcases hrow with ⟨hn,rfl,rfl,rfl⟩ | ⟨hn,hcap,hlt,rfl⟩ | ⟨hn,rfl,rfl,a,rfl⟩
 ·have hb':=run_sliceBounds (P:=P) (w:=m.w) (isSlice:=true) hl hln hh hhn h1 h2 h3 h4 (Nat.le_refl 0)
  have hl0 : l.toNat = 0:=by omega
  have hh0 : h'.toNat = 0:=by omega
  rw [hl0,hh0] at hb'
  refine ⟨.slice none 0 0,by simp only [Instr.slice,Sem.run_bind,run_slice_ti hti hk,Result.andThen_ok,hb',run_sizeOf_ti hei,Sem.run_pure]; rfl,?_⟩
  simp only [Rep]
  exact ⟨trivial,ri,hρ,.inl ⟨hn,by omega,by omega,rfl⟩⟩
 ·have hb':=run_sliceBounds (P:=P) (w:=m.w) (isSlice:=true) hl hln hh hhn h1 h2 h3 h4 (cap:=ri.cap - off) (by omega)
  refine ⟨_,by simp only [Instr.slice,Sem.run_bind,run_slice_ti hti hk,Result.andThen_ok,hb',run_sizeOf_ti hei,Sem.run_pure]; rfl,?_⟩
  simp only [Rep]
  refine ⟨trivial,ri,hρ,?_⟩
  by_cases hc : ri.cap - off = l.toNat
  ·rw [if_pos hc]
   refine .inr (.inr ⟨hn,by omega,by omega,⟨ri.b,ri.o + off * ri.sz,none⟩,?_⟩)
   rw [show h'.toNat - l.toNat = 0 from by omega,show ri.cap - off - l.toNat = 0 from by omega]
  ·rw [if_neg hc]
   by_cases hz : l.toNat = 0
   ·refine .inr (.inl ⟨hn,by omega,by omega,?_⟩)
    simp only [Option.map_some,addr_add,hz,Nat.zero_mul,Nat.add_zero,Nat.sub_zero,Nat.sub_zero]
    rw [show (h' - l).toNat = h'.toNat from by omega]
   ·have hsz : ri.sz = ei.sz:=by
     rcases hb with ⟨hn',_⟩ | ⟨_,_,⟨_,hsz1⟩,_⟩
     ·rw [hn] at hn'; cases hn'
     ·exact hsz1.trans hsz0
    refine .inr (.inl ⟨hn,by omega,by omega,?_⟩)
    simp only [Option.map_some,addr_add,← hsz]
    rw [ln,show ri.o + off * ri.sz + l.toNat * ri.sz = ri.o + (off + l.toNat) * ri.sz from by rw [Nat.add_mul]; omega,Nat.sub_sub]
 ·have hb':=run_sliceBounds (P:=P) (w:=m.w) (isSlice:=true) hl hln hh hhn h1 h2 h3 h4 (Nat.le_refl 0)
  have hl0 : l.toNat = 0:=by omega
  have hh0 : h'.toNat = 0:=by omega
  rw [hl0,hh0] at hb'
  refine ⟨.slice (some a) 0 0,by simp only [Instr.slice,Sem.run_bind,run_slice_ti hti hk,Result.andThen_ok,hb',run_sizeOf_ti hei,Sem.run_pure]; rfl,?_⟩
  simp only [Rep]
  exact ⟨trivial,ri,hρ,.inr (.inr ⟨hn,by omega,by omega,a,rfl⟩)⟩

theorem alen_sound (hH : SimH m σ.hp σ.nx) {t ty : TypeId} {x y : AV} {v : Value} {ob : Prop} (hv : Rep m 0 x v) (h : alen P σ.hp t x = some (ob,y)) :
  ∃ r,(Builtin.len_ #[t] ty #[v]).run P m.w = .ok r m.w ∧ Rep m 0 y r:=by
 unfold alen at h
 split at h
 ·cases h
 rename_i ti hti
 have e1 : (#[t] : Array TypeId)[0]? = some t:=rfl
 have e2 : (#[v] : Array Value)[0]? = some v:=rfl
 split at h
 case h_5=>cases h
 ·rename_i hk
  split at h
  case h_2=>cases h
  rename_i s
  simp only [Option.some.injEq,Prod.mk.injEq] at h
  obtain ⟨_,rfl⟩:=h
  simp only [Rep] at hv ⊢
  subst hv
  have hsz : (⟨s.toArray⟩ : ByteArray).size = s.length:=by show s.toArray.size = _; simp
  exact ⟨_,by simp only [Builtin.len_,e1,e2,Sem.run_bind,run_str_ti hti hk,Result.andThen_ok,Sem.run_pure,hsz,goInt],rfl⟩
 ·rename_i e hk
  have hrun : ∀ a n c,v = .slice a n c → (Builtin.len_ #[t] ty #[v]).run P m.w = .ok (.int .i64 n) m.w:=by
   rintro a n c rfl
   simp only [Builtin.len_,e1,e2,Sem.run_bind,run_slice_ti hti hk,Result.andThen_ok,Sem.run_pure,goInt]
  split at h
  case h_4=>cases h
  ·rename_i es
   simp only [Option.some.injEq,Prod.mk.injEq] at h
   obtain ⟨_,rfl⟩:=h
   simp only [Rep] at hv ⊢
   rcases hv with ⟨rfl,a,c,rfl⟩ | ⟨b,o,c,sz,rfl,_⟩
   ·exact ⟨_,hrun _ _ _ rfl,rfl⟩
   ·exact ⟨_,hrun _ _ _ rfl,rfl⟩
  ·simp only [Option.some.injEq,Prod.mk.injEq] at h
   obtain ⟨_,rfl⟩:=h
   simp only [Rep] at hv ⊢
   obtain ⟨_,ri,hρ,hrow⟩:=hv
   rcases hrow with ⟨hn,rfl,rfl,rfl⟩ | ⟨hn,hcap,hlt,rfl⟩ | ⟨hn,rfl,rfl,a,rfl⟩
   ·exact ⟨_,hrun _ _ _ rfl,rfl⟩
   ·exact ⟨_,hrun _ _ _ rfl,rfl⟩
   ·exact ⟨_,hrun _ _ _ rfl,rfl⟩
  ·split at h
   case h_2=>cases h
   simp only [Option.some.injEq,Prod.mk.injEq] at h
   obtain ⟨_,rfl⟩:=h
   simp only [Rep] at hv ⊢
   exact ⟨_,hrun _ _ _ hv,rfl⟩
 ·rename_i n e hk
  simp only [Option.some.injEq,Prod.mk.injEq] at h
  obtain ⟨_,rfl⟩:=h
  simp only [Rep]
  refine ⟨_,?_,rfl⟩
  simp only [Builtin.len_,e1,e2,Sem.run_bind,run_arr_ti hti hk,Result.andThen_ok,Sem.run_pure,goInt]
 ·rename_i kt et hk
  have hun : (underlying t).run P m.w = .ok (.map kt et) m.w:=by
   obtain ⟨d,hd,hk'⟩:=run_underlying_ti (w:=m.w) hti
   rw [hk] at hk'
   cases d <;> simp only [tkOf,reduceCtorEq,TK.map.injEq] at hk'
   obtain ⟨rfl,rfl⟩:=hk'
   exact hd
  have hmap : ∀ b es clock,v = .map (some b) → m.w.heap[b]? = some (.map es clock) → (Builtin.len_ #[t] ty #[v]).run P m.w = .ok (.int .i64 es.size) m.w:=by
   rintro b es clock rfl hb
   simp only [Builtin.len_,e1,e2,Sem.run_bind,hun,Result.andThen_ok,getObj,Sem.run,hb,Sem.run_pure,goInt]
  have hlen : ∀ (kv vv : List Value) (es : Array MapEntry) (clock : Nat) (ks : List AV),entriesAre kv vv es clock → RepL m 1 ks kv → es.size = ks.length:=by
   intro kv vv es clock ks he hk
   rw [← hk.length,← he.1]
   simp
  split at h
  case h_4=>cases h
  ·rename_i ks vs
   simp only [Option.some.injEq,Prod.mk.injEq] at h
   obtain ⟨_,rfl⟩:=h
   simp only [Rep] at hv ⊢
   obtain ⟨_,b,kv,vv,es,clock,rfl,hp,hb,he,hk,hv⟩:=hv
   exact ⟨_,hmap _ _ _ rfl hb,by rw [hlen _ _ _ _ _ he hk]⟩
  ·split at h
   case h_2=>cases h
   rename_i id _ ks vs hg
   simp only [Option.some.injEq,Prod.mk.injEq] at h
   obtain ⟨_,rfl⟩:=h
   simp only [Rep] at hv ⊢
   obtain ⟨_,ri,hρ,rfl⟩:=hv
   obtain ⟨ri',hρ',hb⟩:=hH.blk id _ hg
   rw [hρ] at hρ'
   injection hρ' with hρ'
   subst hρ'
   obtain ⟨_,_,_,kv,vv,es,clock,hb,he,hk,hv⟩:=hb
   exact ⟨_,hmap _ _ _ rfl hb,by rw [hlen _ _ _ _ _ he hk]⟩
  ·split at h
   case h_2=>cases h
   simp only [Option.some.injEq,Prod.mk.injEq] at h
   obtain ⟨_,rfl⟩:=h
   simp only [Rep] at hv ⊢
   subst hv
   exact ⟨_,by simp only [Builtin.len_,e1,e2,Sem.run_bind,hun,Result.andThen_ok,Sem.run_pure,goInt],rfl⟩

theorem acvt_sound {s d : TypeId} {x y : AV} {v : Value} {ob : Prop} (hv : Rep m 0 x v) (h : acvt P s d x = some (ob,y)) :
  ∃ r,(convert s d v).run P m.w = .ok r m.w ∧ Rep m 0 y r:=by
 unfold acvt at h
 split at h
 case h_2=>cases h
 rename_i si di hsi hdi
 obtain ⟨sd,hsd,hsk⟩:=run_underlying_ti (w:=m.w) hsi
 obtain ⟨dd,hdd,hdk⟩:=run_underlying_ti (w:=m.w) hdi
 split at h
 case h_3=>cases h
 ·rename_i k n
  simp only [Rep] at hv
  subst hv
  split at h
  case h_2=>cases h
  rename_i k' hk
  simp only [Option.some.injEq,Prod.mk.injEq] at h
  obtain ⟨_,rfl⟩:=h
  simp only [Rep]
  refine ⟨_,?_,rfl⟩
  rw [hk] at hdk
  cases dd <;> simp only [tkOf,reduceCtorEq,TK.int.injEq] at hdk
  subst hdk
  simp only [convert,Sem.run_bind,hsd,hdd,Result.andThen_ok]
  cases sd <;> rfl
 ·rename_i l
  simp only [Rep] at hv
  subst hv
  split at h
  case h_2=>cases h
  rename_i hk hk'
  simp only [Option.some.injEq,Prod.mk.injEq] at h
  obtain ⟨_,rfl⟩:=h
  simp only [Rep]
  refine ⟨_,?_,rfl⟩
  rw [hk] at hdk
  rw [hk'] at hsk
  cases dd <;> simp only [tkOf,reduceCtorEq] at hdk
  cases sd <;> simp only [tkOf,reduceCtorEq] at hsk
  simp only [convert,Sem.run_bind,hsd,hdd,Result.andThen_ok]
  rfl

theorem abin_shape {op : BinOp} {x y : AV} {r : Prop × AV} (h : abin op x y = some r) :
  (∃ k k' n n',x = .int k n ∧ y = .int k' n') ∨ ∃ s t,x = .str s ∧ y = .str t:=by
 unfold abin at h
 split at h
 ·exact .inl ⟨_,_,_,_,rfl,rfl⟩
 ·exact .inr ⟨_,_,rfl,rfl⟩
 ·cases h

theorem eqGuard_lit {w : World} {op : BinOp} {t : TypeId} {X Y : Operand} (h : (isLit X || isLit Y) = true) : (eqGuard op t X Y .nilIface .nilIface).run P w = .ok () w:=by
 cases X <;> cases Y <;> first | (cases op <;> rfl) | (simp [isLit] at h)
theorem nilEq_sound {t : TypeId} {i : TI} {lit : Bool} {X Y : Operand} {op : BinOp} {x y : AV} {v u : Value} {r : Bool} (hi : tinfo P t = some i) (hv : Rep m 0 x v) (hu : Rep m 0 y u) (h : nilEq i.k lit x y = some r) (hl : lit = true → (isLit X || isLit Y) = true) :
  (eqGuard op t X Y v u).run P m.w = .ok () m.w ∧ (Op.equal t v u).run P m.w = .ok r m.w ∧ (∀ k n,v ≠ .int k n) ∧ (∀ k n,v ≠ .float k n) ∧ (∀ k n q,v ≠ .complex k n q) ∧ (∀ s,v ≠ .string s):=by
 obtain ⟨d,hd,hk'⟩:=run_underlying_ti (w:=m.w) hi
 have heq : ∀ q : Bool,(Op.equalIn (9999 + 1) t v u).run P m.w = .ok q m.w → (Op.equal t v u).run P m.w = .ok q m.w:=fun q hq=>hq
 unfold nilEq at h
 split at h
 ·rename_i hk
  rw [hk] at hk'
  cases d <;> simp only [tkOf,reduceCtorEq] at hk'
  split at h
  ·split at h
   case h_2=>cases h
   simp only [Rep] at hv
   subst hv
   split at h
   ·split at h
    case h_2=>cases h
    simp only [Rep] at hu
    subst hu
    split at h
    case isFalse=>cases h
    rename_i hlit
    injection h with h
    subst h
    have hc:=hl hlit
    refine ⟨?_,heq _ (by rw [Op.equalIn,run_bind hd]; rfl),by simp,by simp,by simp,by simp⟩
    exact eqGuard_lit hc
   ·simp only [Rep] at hu
    obtain ⟨z,rfl,_⟩:=hu
    injection h with h
    subst h
    refine ⟨by unfold eqGuard; cases op <;> rfl,heq _ (by rw [Op.equalIn,run_bind hd]; rfl),by simp,by simp,by simp,by simp⟩
   ·cases h
  ·simp only [Rep] at hv
   obtain ⟨z,rfl,_⟩:=hv
   split at h
   case h_2=>cases h
   split at h
   case h_2=>cases h
   simp only [Rep] at hu
   subst hu
   injection h with h
   subst h
   refine ⟨by unfold eqGuard; cases op <;> rfl,heq _ (by rw [Op.equalIn,run_bind hd]; rfl),by simp,by simp,by simp,by simp⟩
  ·cases h
 ·rename_i e hk
  rw [hk] at hk'
  cases d <;> simp only [tkOf,reduceCtorEq] at hk'
  split at h
  case h_2=>cases h
  split at h
  case h_2=>cases h
  simp only [Rep] at hu
  subst hu
  have key : ∀ a : Option Addr,v = .pointer a → a.isNone = r → (eqGuard op t X Y v (.pointer none)).run P m.w = .ok () m.w ∧ (Op.equal t v (.pointer none)).run P m.w = .ok r m.w ∧ (∀ k n,v ≠ .int k n) ∧ (∀ k n,v ≠ .float k n) ∧ (∀ k n q,v ≠ .complex k n q) ∧ (∀ s,v ≠ .string s):=by
   rintro a rfl hr
   subst hr
   refine ⟨by unfold eqGuard; cases op <;> rfl,?_,by simp,by simp,by simp,by simp⟩
   cases a with
   | none=>exact (by show (Op.equalIn (9999 + 1) t _ _).run P m.w = _; rw [Op.equalIn,run_bind hd]; rfl)
   | some a=>exact (by show (Op.equalIn (9999 + 1) t _ _).run P m.w = _; rw [Op.equalIn,run_bind hd]; rfl)
  split at h
  ·split at h
   case h_2=>cases h
   injection h with h
   simp only [Rep] at hv
   exact key none hv (by rw [← h]; rfl)
  ·injection h with h
   simp only [Rep] at hv
   obtain ⟨_,ri,_,hv⟩:=hv
   exact key _ hv (by rw [← h]; rfl)
  ·injection h with h
   simp only [Rep] at hv
   obtain ⟨_,ri,_,hv⟩:=hv
   exact key _ hv (by rw [← h]; rfl)
  ·injection h with h
   simp only [Rep] at hv
   obtain ⟨b,o,hv,_⟩:=hv
   exact key _ hv (by rw [← h]; rfl)
  ·injection h with h
   simp only [Rep] at hv
   obtain ⟨_,b,o,hv,_⟩:=hv
   exact key _ hv (by rw [← h]; rfl)
  ·cases h
 ·rename_i hk
  rw [hk] at hk'
  cases d <;> simp only [tkOf,reduceCtorEq] at hk'
  split at h
  case h_2=>cases h
  split at h
  case h_2=>cases h
  simp only [Rep] at hu
  subst hu
  split at h
  ·split at h
   case h_2=>cases h
   injection h with h
   simp only [Rep] at hv
   subst hv h
   exact ⟨by unfold eqGuard; cases op <;> rfl,heq _ (by rw [Op.equalIn,run_bind hd]; rfl),by simp,by simp,by simp,by simp⟩
  ·injection h with h
   simp only [Rep] at hv
   obtain ⟨vs,rfl,_⟩:=hv
   subst h
   exact ⟨by unfold eqGuard; cases op <;> rfl,heq _ (by rw [Op.equalIn,run_bind hd]; rfl),by simp,by simp,by simp,by simp⟩
  ·cases h
 ·cases h
theorem nilOp_sound {t : TypeId} {lit : Bool} {X Y : Operand} {op : BinOp} {x y z : AV} {v u : Value} {ob : Prop} (hv : Rep m 0 x v) (hu : Rep m 0 y u) (h : nilOp P op t lit x y = some (ob,z)) (hl : lit = true → (isLit X || isLit Y) = true) :
  ∃ r,(do eqGuard op t X Y v u; binOp op t v u : Sem Value).run P m.w = .ok r m.w ∧ Rep m 0 z r:=by
 unfold nilOp at h
 split at h
 ·cases h
 rename_i i hi
 split at h
 ·cases h
 rename_i r hr
 obtain ⟨h1,h2,h3,h4,h5,h6⟩:=nilEq_sound (op:=op) hi hv hu hr hl
 split at h
 ·simp only [Option.some.injEq,Prod.mk.injEq] at h
  obtain ⟨_,rfl⟩:=h
  refine ⟨.bool r,?_,by simp only [Rep]⟩
  rw [run_bind h1]
  have : binOp .eql t v u = (do pure (.bool (← Op.equal t v u))):=by
   cases v <;> first | rfl | (exact absurd rfl (h3 _ _)) | (exact absurd rfl (h4 _ _)) | (exact absurd rfl (h5 _ _ _)) | (exact absurd rfl (h6 _))
  rw [this,run_bind h2]
  rfl
 ·simp only [Option.some.injEq,Prod.mk.injEq] at h
  obtain ⟨_,rfl⟩:=h
  refine ⟨.bool (!r),?_,by simp only [Rep]⟩
  rw [run_bind h1]
  have : binOp .neq t v u = (do pure (.bool (!(← Op.equal t v u)))):=by
   cases v <;> first | rfl | (exact absurd rfl (h3 _ _)) | (exact absurd rfl (h4 _ _)) | (exact absurd rfl (h5 _ _ _)) | (exact absurd rfl (h6 _))
  rw [this,run_bind h2]
  rfl
 ·cases h
theorem abinT_sound {op : BinOp} {t : TypeId} {lit : Bool} {X Y : Operand} {x y z : AV} {v u : Value} {ob : Prop} (hv : Rep m 0 x v) (hu : Rep m 0 y u)
  (h : abinT P op t lit x y = some (ob,z)) (hob : ob) (hl : lit = true → (isLit X || isLit Y) = true) :
  ∃ r,(do eqGuard op t X Y v u; binOp op t v u : Sem Value).run P m.w = .ok r m.w ∧ Rep m 0 z r:=by
 unfold abinT at h
 split at h
 ·rename_i r hr
  simp only [Option.some.injEq] at h
  subst h
  rcases abin_shape hr with ⟨k,k',n,n',rfl,rfl⟩ | ⟨s,s',rfl,rfl⟩
  ·simp only [Rep] at hv hu
   subst hv hu
   obtain ⟨r,hrun,hrep⟩:=binOp_int (P:=P) (w:=m.w) (t:=t) hr hob
   exact ⟨r,by rw [run_bind (eqGuard_ok rfl)]; exact hrun,hrep m 0⟩
  ·simp only [Rep] at hv hu
   subst hv hu
   obtain ⟨r,hrun,hrep⟩:=binOp_str (P:=P) (w:=m.w) (t:=t) hr hob
   exact ⟨r,by rw [run_bind (eqGuard_ok rfl)]; exact hrun,hrep m 0⟩
 ·split at h
  ·rename_i r hr
   simp only [Option.some.injEq] at h
   subst h
   exact nilOp_sound hv hu hr hl
  split at h
  case h_4=>cases h
  case h_2=>exact absurd hob (topOp_false h)
  case h_3=>exact absurd hob (topOp_false h)
  rename_i b c _ _
  simp only [Rep] at hv hu
  subst hv hu
  split at h
  case h_2=>cases h
  rename_i i hi
  split at h
  case h_2=>cases h
  rename_i hk
  obtain ⟨d,hd,hk'⟩:=run_underlying_ti (w:=m.w) hi
  rw [hk] at hk'
  have heq : (Op.equal t (.bool b) (.bool c)).run P m.w = .ok (b == c) m.w:=by
   cases d <;> simp only [tkOf,reduceCtorEq] at hk'
   rw [Op.equal,show Op.maxDepth = 9999 + 1 from rfl,Op.equalIn]
   rw [run_bind hd]
   rfl
  have hbc : (b == c) = decide (b = c):=by cases b <;> cases c <;> rfl
  split at h
  ·simp only [Option.some.injEq,Prod.mk.injEq] at h
   obtain ⟨_,rfl⟩:=h
   simp only [Rep]
   exact ⟨_,by rw [run_bind (eqGuard_ok rfl)]; simp only [binOp,Sem.run_bind,heq,Result.andThen_ok,Sem.run_pure,hbc],rfl⟩
  ·simp only [Option.some.injEq,Prod.mk.injEq] at h
   obtain ⟨_,rfl⟩:=h
   simp only [Rep]
   exact ⟨_,by rw [run_bind (eqGuard_ok rfl)]; simp only [binOp,Sem.run_bind,heq,Result.andThen_ok,Sem.run_pure,hbc],rfl⟩
  ·cases h
end
end Aw

namespace Aw
open Go

section
variable {P : Program} {m : Mem} {a : Act} {σ : St}

theorem run_value {s : Sem Value} {r : Value} {w w' : World} (h : s.run P w = .ok r w') : (do pure (.value (← s)) : Sem Next).run P w = .ok (.value r) w':=by
 rw [run_bind h] <;> rfl

theorem aassert_sound {xt ty : TypeId} {ok : Bool} {x y : AV} {v : Value} {ob : Prop} (hv : Rep m 0 x v) (h : aassert P ty ok x = some (ob,y)) :
  ∃ r,(Instr.typeAssert v xt ty ok).run P m.w = .ok r m.w ∧ Rep m 0 y r:=by
 unfold aassert at h
 split at h
 ·cases h
 rename_i i hi
 obtain ⟨d,hd,hk⟩:=run_underlying_ti (w:=m.w) hi
 have hz : i.zero.isSome = true → ∃ z,(zeroValue ty).run P m.w = .ok z m.w:=by
  intro hs
  obtain ⟨ti,ht,_,_,hzz⟩:=run_typeInfo_ti (w:=m.w) hi
  rw [hzz] at hs
  cases hz : ti.zero with
  | none=>rw [hz] at hs; cases hs
  | some z=>exact ⟨z,by unfold zeroValue; rw [run_bind ht]; simp only [hz]; rfl⟩
 split at h
 ·cases h
 rename_i hne
 have hd' : ∀ want,d ≠ .interface want:=by
  rintro want rfl
  exact hne hk
 split at h
 case h_3=>cases h
 ·rename_i t x
  simp only [Rep] at hv
  obtain ⟨u,rfl,hu⟩:=hv
  split at h
  ·rename_i ht
   subst ht
   simp only [Option.some.injEq,Prod.mk.injEq] at h
   obtain ⟨_,rfl⟩:=h
   refine ⟨if ok then .tuple #[u,.bool true] else u,?_,?_⟩
   ·simp only [Instr.typeAssert,Sem.run_bind,hd,Result.andThen_ok]
    cases d <;> first | exact (hd' _ rfl).elim | (simp only [if_true,Sem.run_pure])
   ·cases ok
    ·simpa using hu
    ·simp only [if_true,Rep]
     exact ⟨_,rfl,by simp [RepL,hu,Rep]⟩
  ·rename_i ht
   split at h
   case isFalse=>cases h
   rename_i hok
   simp only [Bool.and_eq_true] at hok
   obtain ⟨rfl,hok⟩:=hok
   simp only [Option.some.injEq,Prod.mk.injEq] at h
   obtain ⟨_,rfl⟩:=h
   obtain ⟨z,hz⟩:=hz hok
   refine ⟨.tuple #[z,.bool false],?_,?_⟩
   ·simp only [Instr.typeAssert,Sem.run_bind,hd,Result.andThen_ok]
    cases d <;> first | exact (hd' _ rfl).elim | (simp only [if_neg ht,if_true,Sem.run_bind,hz,Result.andThen_ok,Sem.run_pure])
   ·simp only [Rep]
    exact ⟨_,rfl,by simp [RepL,Rep]⟩
 ·split at h
  case h_2=>cases h
  simp only [Rep] at hv
  subst hv
  split at h
  case isFalse=>cases h
  rename_i hok
  simp only [Bool.and_eq_true] at hok
  obtain ⟨rfl,hok⟩:=hok
  simp only [Option.some.injEq,Prod.mk.injEq] at h
  obtain ⟨_,rfl⟩:=h
  obtain ⟨z,hz⟩:=hz hok
  refine ⟨.tuple #[z,.bool false],?_,?_⟩
  ·simp only [Instr.typeAssert,Sem.run_bind,hd,Result.andThen_ok]
   cases d <;> first | exact (hd' _ rfl).elim | (simp only [if_true,Sem.run_bind,hz,Result.andThen_ok,Sem.run_pure])
  ·simp only [Rep]
   exact ⟨_,rfl,by simp [RepL,Rep]⟩

theorem aminmax_none (isMin : Bool) : ∀ xs : List AV,xs.foldl (fun acc y=>match acc with
   | some (.int k a)=>match y with
    | .int k' b=>if k = k' then some (.int k (if isMin then min a b else max a b)) else none
    | _=>none
   | _=>none) (none : Option AV) = none
 | []=>rfl
 | _ :: xs=>aminmax_none isMin xs

theorem aminmax_min {m : Mem} : ∀ {xs : List AV} {vs : List Value} {acc : Option AV} {r : AV} {av : Value} {w : World},RepL m 0 xs vs →
  xs.foldl (fun acc y=>match acc with
   | some (.int k a)=>match y with
    | .int k' b=>if k = k' then some (.int k (if true then min a b else max a b)) else none
    | _=>none
   | _=>none) acc = some r → (∃ k n,acc = some (.int k n) ∧ av = .int k n) →
  ∃ u,(vs.foldlM Builtin.min2 av).run P w = .ok u w ∧ Rep m 0 r u
 | [],vs,acc,r,av,w,hl,hf,⟨k,n,h1,h2⟩=>by
  simp only [RepL] at hl
  subst hl h1 h2
  simp only [List.foldl_nil,Option.some.injEq] at hf
  subst hf
  exact ⟨_,rfl,by simp only [Rep]⟩
 | x :: xs,vs,acc,r,av,w,hl,hf,⟨k,n,h1,h2⟩=>by
  simp only [RepL] at hl
  obtain ⟨v,rest,rfl,hv,hr⟩:=hl
  subst h1 h2
  simp only [List.foldl_cons] at hf
  cases x with
  | int k' b =>
   simp only at hf
   by_cases hk : k = k'
   ·subst hk
    simp only [Rep] at hv
    subst hv
    rw [if_pos rfl] at hf
    have:=aminmax_min (w:=w) hr hf ⟨k,_,rfl,rfl⟩
    obtain ⟨u,hu,hrep⟩:=this
    refine ⟨u,?_,hrep⟩
    rw [List.foldlM_cons,run_bind (a:=.int k (min n b)) (w':=w)]
    ·simpa using hu
    ·simp only [Builtin.min2,Sem.run_pure,Result.ok.injEq,Value.int.injEq,and_true,true_and]
     split <;> omega
   ·rw [if_neg hk] at hf
    exfalso
    clear hr
    induction xs with
    | nil=>simp at hf
    | cons y ys ih=>simp only [List.foldl_cons] at hf; exact ih hf
  | _ =>
   simp only at hf
   exfalso
   clear hr
   induction xs with
   | nil=>simp at hf
   | cons y ys ih=>simp only [List.foldl_cons] at hf; exact ih hf

theorem aminmax_max {m : Mem} : ∀ {xs : List AV} {vs : List Value} {acc : Option AV} {r : AV} {av : Value} {w : World},RepL m 0 xs vs →
  xs.foldl (fun acc y=>match acc with
   | some (.int k a)=>match y with
    | .int k' b=>if k = k' then some (.int k (if false then min a b else max a b)) else none
    | _=>none
   | _=>none) acc = some r → (∃ k n,acc = some (.int k n) ∧ av = .int k n) →
  ∃ u,(vs.foldlM Builtin.max2 av).run P w = .ok u w ∧ Rep m 0 r u
 | [],vs,acc,r,av,w,hl,hf,⟨k,n,h1,h2⟩=>by
  simp only [RepL] at hl
  subst hl h1 h2
  simp only [List.foldl_nil,Option.some.injEq] at hf
  subst hf
  exact ⟨_,rfl,by simp only [Rep]⟩
 | x :: xs,vs,acc,r,av,w,hl,hf,⟨k,n,h1,h2⟩=>by
  simp only [RepL] at hl
  obtain ⟨v,rest,rfl,hv,hr⟩:=hl
  subst h1 h2
  simp only [List.foldl_cons] at hf
  cases x with
  | int k' b =>
   simp only at hf
   by_cases hk : k = k'
   ·subst hk
    simp only [Rep] at hv
    subst hv
    rw [if_pos rfl] at hf
    have:=aminmax_max (w:=w) hr hf ⟨k,_,rfl,rfl⟩
    obtain ⟨u,hu,hrep⟩:=this
    refine ⟨u,?_,hrep⟩
    rw [List.foldlM_cons,run_bind (a:=.int k (max n b)) (w':=w)]
    ·simpa using hu
    ·simp only [Builtin.max2,Sem.run_pure,Result.ok.injEq,Value.int.injEq,and_true,true_and]
     split <;> omega
   ·rw [if_neg hk] at hf
    exfalso
    clear hr
    induction xs with
    | nil=>simp at hf
    | cons y ys ih=>simp only [List.foldl_cons] at hf; exact ih hf
  | _ =>
   simp only at hf
   exfalso
   clear hr
   induction xs with
   | nil=>simp at hf
   | cons y ys ih=>simp only [List.foldl_cons] at hf; exact ih hf

theorem pureOp_sound {g : Bool} (hS : Sim m a σ) (hg : g = true) {o : Oper} {ob : Prop} {y : AV} (h : pureOp P σ g o.op = some (ob,y)) (hob : ob) :
  ∃ r,(execOp a.eval o).run P m.w = .ok (.value r) m.w ∧ Rep m 0 y r:=by
 obtain ⟨dst,op,type,pos,after,guard⟩:=o
 cases op <;> simp only [pureOp,reduceCtorEq] at h
 case move x =>
  obtain ⟨b,q,hb,h',hq⟩:=op1_sound hS hg h hob
  simp only [Option.some.injEq,Prod.mk.injEq] at h'
  obtain ⟨_,rfl⟩:=h'
  exact ⟨_,rfl,hb⟩
 case assign x =>
  obtain ⟨b,q,hb,h',hq⟩:=op1_sound hS hg h hob
  simp only [Option.some.injEq,Prod.mk.injEq] at h'
  obtain ⟨_,rfl⟩:=h'
  exact ⟨_,rfl,hb⟩
 case pick c x y' =>
  unfold apick at h
  split at h
  case h_2=>cases h
  rename_i vc vx vy hc hx hy
  split at h
  case h_2=>cases h
  rename_i cv hcv
  simp only [Option.some.injEq,Prod.mk.injEq] at h
  obtain ⟨rfl,rfl⟩:=h
  have h1:=(hS.ev hc).strip hg hob.1
  rw [hcv] at h1
  simp only [Rep] at h1
  have hrun : (execOp a.eval ⟨dst,.pick c x y',type,pos,after,guard⟩).run P m.w = .ok (.value (if cv then a.eval x else a.eval y')) m.w:=by
   show (do pure (Next.value (if ← asBool (a.eval c) then a.eval x else a.eval y')) : Sem Next).run P m.w = _
   rw [h1]
   rw [run_bind (a:=cv) (w':=m.w) rfl]
   rfl
  refine ⟨_,hrun,Rep.pick ?_ ?_⟩
  ·intro h
   subst h
   simp only [if_true]
   exact (hS.ev hx).strip (g:=g && true) (by simp [hg]) hob.2.1
  ·intro h
   subst h
   simp only [Bool.false_eq_true,if_false]
   exact (hS.ev hy).strip (g:=g && !false) (by simp [hg]) hob.2.2
 case load t x =>
  obtain ⟨b,q,hb,h',hq⟩:=op1_sound hS hg h hob
  obtain ⟨r,hr,hrep⟩:=aload_sound hS.h hb h' hq
  exact ⟨r,run_value hr,hrep⟩
 case nilCheck x =>
  obtain ⟨b,q,hb,h',hq⟩:=op1_sound hS hg h hob
  refine ⟨a.eval x,?_,?_⟩
  ·unfold anil at h'
   split at h'
   case h_6=>cases h'
   all_goals
    simp only [Rep] at hb
   ·obtain ⟨_,_,_,e⟩:=hb; simp only [execOp,e]; rfl
   ·obtain ⟨_,_,_,e⟩:=hb; simp only [execOp,e]; rfl
   ·obtain ⟨_,_,e,_⟩:=hb; simp only [execOp,e]; rfl
   ·obtain ⟨_,_,_,e,_⟩:=hb; simp only [execOp,e]; rfl
   ·obtain ⟨_,e,_⟩:=hb; simp only [execOp,e]; rfl
  ·unfold anil at h'
   split at h' <;> simp only [Option.some.injEq,Prod.mk.injEq,reduceCtorEq] at h' <;> (obtain ⟨_,rfl⟩:=h'; exact hb)
 case binOp op t x x' yt =>
  obtain ⟨b,c,q,hb,hc,h',hq⟩:=op2_sound hS hg h hob
  obtain ⟨r,hr,hrep⟩:=abinT_sound (X:=x) (Y:=x') hb hc h' hq (fun h=>h)
  exact ⟨r,run_value hr,hrep⟩
 case unOp op t x =>
  obtain ⟨b,q,hb,h',hq⟩:=op1_sound hS hg h hob
  obtain ⟨r,hr,hrep⟩:=aun_sound (P:=P) hb h'
  exact ⟨r,run_value hr,hrep⟩
 case convert s d x =>
  obtain ⟨b,q,hb,h',hq⟩:=op1_sound hS hg h hob
  obtain ⟨r,hr,hrep⟩:=acvt_sound hb h'
  exact ⟨r,run_value hr,hrep⟩
 case makeInterface t x =>
  obtain ⟨b,q,hb,h',hq⟩:=op1_sound hS hg h hob
  obtain ⟨r,hr,hrep⟩:=amkif_sound hb h'
  exact ⟨r,run_value hr,hrep⟩
 case makeFunc fn first caps =>
  unfold amkfunc at h
  split at h
  case h_2=>cases h
  rename_i f
  split at h
  case isFalse=>cases h
  rename_i hf
  split at h
  case h_2=>cases h
  rename_i l hl
  simp only [Option.some.injEq,Prod.mk.injEq] at h
  obtain ⟨_,rfl⟩:=h
  have : first = #[]:=by simpa using hf
  subst this
  refine ⟨.func (.func f) #[] (caps.map a.eval),by simp [execOp,Instr.makeFunc],?_⟩
  simp only [Rep]
  exact ⟨_,rfl,by simpa using evs_sound hS hl⟩
 case fieldAddr t x f =>
  obtain ⟨b,q,hb,h',hq⟩:=op1_sound hS hg h hob
  obtain ⟨r,hr,hrep⟩:=afaddr_sound hb h'
  exact ⟨r,run_value hr,hrep⟩
 case field t x f =>
  obtain ⟨b,q,hb,h',hq⟩:=op1_sound hS hg h hob
  obtain ⟨r,hr,hrep⟩:=afield_sound hb h' hq
  exact ⟨r,run_value hr,hrep⟩
 case indexAddr t x i =>
  obtain ⟨b,c,q,hb,hc,h',hq⟩:=op2_sound hS hg h hob
  obtain ⟨r,hr,hrep⟩:=aixa_sound hS.h hb hc h' hq
  exact ⟨r,run_value hr,hrep⟩
 case index t x i =>
  obtain ⟨b,c,q,hb,hc,h',hq⟩:=op2_sound hS hg h hob
  obtain ⟨r,hr,hrep⟩:=aindex_sound hb hc h' hq
  exact ⟨r,run_value hr,hrep⟩
 case slice t x lo hi mx =>
  split at h
  ·cases h
  obtain ⟨b,q,hb,h',hq⟩:=op1_sound hS hg h hob
  have hopt : ∀ (o : Option Operand) (f : Option AV → Option (Prop × AV)) (q : Prop),optOp σ g o f = some (q,y) → q →
    ∃ (l : Option AV) (q' : Prop),f l = some (q',y) ∧ q' ∧ (∀ z,l = some z → ∃ u,o.map a.eval = some u ∧ Rep m 0 z u) ∧ (l = none → o.map a.eval = none):=by
   intro o f q hf hq
   unfold optOp at hf
   split at hf
   ·exact ⟨none,q,hf,hq,fun z hz=>(by cases hz),fun _=>rfl⟩
   ·obtain ⟨z,q',hz,hf',hq'⟩:=op1_sound hS hg hf hq
    exact ⟨some z,q',hf',hq',fun z' hz'=>⟨_,rfl,by injection hz' with hz'; subst hz'; exact hz⟩,fun h=>(by cases h)⟩
  obtain ⟨l,q,h',hq,hl,hln⟩:=hopt lo _ _ h' hq
  obtain ⟨h'',q,h',hq,hh,hhn⟩:=hopt hi _ _ h' hq
  have : ∃ r,(Instr.sliceAt t (a.eval x) (lo.map a.eval) (hi.map a.eval) none).run P m.w = .ok r m.w ∧ Rep m 0 y r:=by
   split at h'
   ·rename_i r hr
    simp only [Option.some.injEq] at h'
    subst h'
    exact aslice_sound hb hl hln hh hhn hr hq
   ·exact arowslice_sound hS.h hb hl hln hh hhn h' hq
  obtain ⟨r,hr,hrep⟩:=this
  exact ⟨r,run_value hr,hrep⟩
 case extract x i =>
  obtain ⟨b,q,hb,h',hq⟩:=op1_sound hS hg h hob
  obtain ⟨r,hr,hrep⟩:=aextract_sound (P:=P) hb h'
  exact ⟨r,run_value hr,hrep⟩
 case typeAssert x xt ty ok =>
  obtain ⟨b,q,hb,h',hq⟩:=op1_sound hS hg h hob
  obtain ⟨r,hr,hrep⟩:=aassert_sound (xt:=xt) hb h'
  exact ⟨r,run_value hr,hrep⟩
 case call c =>
  obtain ⟨callee,args,argTypes⟩:=c
  simp only at h
  split at h
  case h_2=>cases h
  rename_i b
  cases b <;> simp only [reduceCtorEq] at h
  case len =>
   split at h
   case h_2=>cases h
   rename_i x t hx ht
   obtain ⟨b,q,hb,h',hq⟩:=op1_sound hS hg h hob
   obtain ⟨r,hr,hrep⟩:=alen_sound (ty:=type) hS.h hb h'
   have e1 : args = #[x]:=by rw [← Array.toList_inj]; exact hx
   have e2 : argTypes = #[t]:=by rw [← Array.toList_inj]; exact ht
   subst e1 e2
   refine ⟨r,?_,hrep⟩
   show (do pure (.value (← Builtin.len_ #[t] type ((#[x] : Array Operand).map a.eval))) : Sem Next).run P m.w = _
   have e3 : (#[x] : Array Operand).map a.eval = #[a.eval x]:=by simp
   rw [e3]
   exact run_value hr
  case min =>
   split at h
   case h_2=>cases h
   rename_i l hl
   have hL:=evs_sound hS hl
   unfold op0 at h
   split at h
   case h_2=>cases h
   rename_i z hz
   simp only [Option.some.injEq,Prod.mk.injEq] at h
   obtain ⟨_,rfl⟩:=h
   unfold aminmax at hz
   split at hz
   ·cases hz
   rename_i x xs
   simp only [RepL] at hL
   obtain ⟨v,rest,hvs,hv,hr⟩:=hL
   cases x with
   | int k n =>
    simp only [Rep] at hv
    obtain ⟨u,hu,hrep⟩:=aminmax_min (w:=m.w) (av:=v) hr hz ⟨k,n,rfl,hv⟩
    refine ⟨u,run_value (s:=Builtin.min_ argTypes type (args.map a.eval)) ?_,hrep⟩
    unfold Builtin.min_
    rw [Array.toList_map,hvs]
    exact hu
   | _ =>
    exact absurd ((aminmax_none true xs).symm.trans hz) (by simp)
  case max =>
   split at h
   case h_2=>cases h
   rename_i l hl
   have hL:=evs_sound hS hl
   unfold op0 at h
   split at h
   case h_2=>cases h
   rename_i z hz
   simp only [Option.some.injEq,Prod.mk.injEq] at h
   obtain ⟨_,rfl⟩:=h
   unfold aminmax at hz
   split at hz
   ·cases hz
   rename_i x xs
   simp only [RepL] at hL
   obtain ⟨v,rest,hvs,hv,hr⟩:=hL
   cases x with
   | int k n =>
    simp only [Rep] at hv
    obtain ⟨u,hu,hrep⟩:=aminmax_max (w:=m.w) (av:=v) hr hz ⟨k,n,rfl,hv⟩
    refine ⟨u,run_value (s:=Builtin.max_ argTypes type (args.map a.eval)) ?_,hrep⟩
    unfold Builtin.max_
    rw [Array.toList_map,hvs]
    exact hu
   | _ =>
    exact absurd ((aminmax_none false xs).symm.trans hz) (by simp)
end
end Aw

namespace Aw
open Go

structure Upd (m m' : Mem) (B : Nat) : Prop where
 os : m'.w.os = m.w.os
 tape : m'.w.tape = m.w.tape
 output : m'.w.output = m.w.output
 size : m.w.heap.size ≤ m'.w.heap.size
 other : ∀ b,b ≠ B → b < m.w.heap.size → m'.w.heap[b]? = m.w.heap[b]?
 F : ∀ b o,m.F b o → m'.F b o
 F' : ∀ b o,b ≠ B → m'.F b o → m.F b o
 Fsz : ∀ b o,m'.F b o → b < m'.w.heap.size
 cell : ∀ o,m.F B o → m'.w.cell? ⟨B,o,none⟩ = m.w.cell? ⟨B,o,none⟩
 Pr : m'.Pr = m.Pr
 notPr : ¬ m.Pr B
 ρ : ∀ id ri,m.ρ id = some ri → m'.ρ id = some ri
 np : m'.np = m.np

theorem Upd.keeps {m m' : Mem} {B : Nat} {hp : List (Nat × ABlk)} {nx : Nat} (hH : SimH m hp nx) (h : Upd m m' B) : m.keeps m' where
 np:=h.np
 Pr b hb:=by rw [h.Pr]; exact hb
 block b hb:=h.other b (fun e=>h.notPr (e ▸ hb)) (hH.Pold b hb)
 F:=h.F
 cell b o hf:=by
  by_cases e : b = B
  ·subst e; exact h.cell o hf
  ·exact cell?_of_block (h.other b e (hH.Fold b o hf))
 ρ:=h.ρ
theorem Upd.le {m m' : Mem} {B : Nat} {hp : List (Nat × ABlk)} {nx : Nat} (hH : SimH m hp nx) (h : Upd m m' B) : m.le m' where
 os:=h.os
 tape:=h.tape
 output:=h.output
 size:=h.size
 Pr:=h.Pr
 block:=(h.keeps hH).block
 F:=h.F
 cell:=(h.keeps hH).cell
 new b o hb hf:=h.F' b o (fun e=>h.notPr (e ▸ hb)) hf
 np:=h.np
 pin id ri _ hr:=h.ρ id ri hr

theorem RepX.mono {m m' : Mem} (h : m.keeps m') {b kk : Nat} (hb : m'.w.heap[b]? = m.w.heap[b]?) : ∀ {cs : List AV} {o : Nat},RepX m kk cs b o → RepX m' kk cs b o
 | [],_,_=>by simp only [RepX]
 | x :: cs,o,hx=>by
  simp only [RepX] at hx ⊢
  obtain ⟨⟨v,hv,hr⟩,hrest⟩:=hx
  exact ⟨⟨v,(cell?_of_block hb).trans hv,Rep.mono h kk x v hr⟩,RepX.mono h hb hrest⟩
theorem RepY.mono {m m' : Mem} (h : m.keeps m') {b : Nat} (hb : m'.w.heap[b]? = m.w.heap[b]?) : ∀ {es : List (List AV)} {o sz : Nat},RepY m es b o sz → RepY m' es b o sz
 | [],_,_,_=>by simp only [RepY]
 | e :: es,o,sz,hx=>by
  simp only [RepY] at hx ⊢
  exact ⟨hx.1,hx.2.1.mono h hb,hx.2.2.mono h hb⟩

theorem RowRep.mono {m m' : Mem} (h : m.keeps m') {ri : RI} {sz e : Nat} {es : List (List AV)} {own : Bool} (hP : m'.Pr ri.b → m.Pr ri.b) (hF : ∀ o,m'.F ri.b o → m.F ri.b o)
  (hb : ri.isNil = false → m'.w.heap[ri.b]? = m.w.heap[ri.b]?) (hx : RowRepG m ri sz es own e) : RowRepG m' ri sz es own e:=by
 rcases hx with hx | ⟨h1,h2,h3,h4,⟨c,T,lo,hi,h5,h6,h7⟩,h8⟩
 ·exact .inl hx
 ·refine .inr ⟨h1,fun hp=>h2 (hP hp),h3,h4,⟨c,T,lo,hi,(hb h1).trans h5,h6,h7⟩,?_⟩
  split
  ·rename_i ho
   rw [if_pos ho] at h8
   exact ⟨h8.1.mono h (hb h1),fun i hi hf=>h8.2 i hi (hF i hf)⟩
  ·rename_i ho
   rw [if_neg ho] at h8
   exact ⟨RepE.mono h _ _ _ _ h8.1,fun i hi hf=>h8.2 i hi (hF i hf)⟩
theorem BlkRep.mono {m m' : Mem} (h : m.keeps m') {ri : RI} {x : ABlk} (hP : m'.Pr ri.b → m.Pr ri.b) (hF : ∀ o,m'.F ri.b o → m.F ri.b o)
  (hb : ri.isNil = false → m'.w.heap[ri.b]? = m.w.heap[ri.b]?) (hx : BlkRep m ri x) : BlkRep m' ri x:=by
 cases x with
 | cells cs =>
  obtain ⟨h1,h2,h3,c,T,h4,h5⟩:=hx
  exact ⟨h1,fun hp=>h2 (hP hp),fun o hf=>h3 o (hF o hf),c,T,(hb h1).trans h4,RepL.mono h 0 _ _ h5⟩
 | tc T0 cs =>
  obtain ⟨h1,h2,h3,c,h4,h5⟩:=hx
  exact ⟨h1,fun hp=>h2 (hP hp),fun o hf=>h3 o (hF o hf),c,(hb h1).trans h4,RepL.mono h 0 _ _ h5.1,h5.2⟩
 | row sz es own=>exact RowRep.mono h hP hF hb hx
 | full sz es=>exact ⟨RowRep.mono h hP hF hb hx.1,hx.2⟩
 | mrow sz es=>exact ⟨hx.1,RowRep.mono h hP hF hb hx.2⟩
 | brow e l=>exact ⟨RowRep.mono h hP hF hb hx.1,fun hn=>⟨(hx.2 hn).1,let ⟨c,hc⟩:=(hx.2 hn).2; ⟨c,(hb hn).trans hc⟩⟩⟩
 | amap ks vs =>
  obtain ⟨h1,h2,h3,kv,vv,es,clock,h4,h5,h6,h7⟩:=hx
  exact ⟨h1,fun hp=>h2 (hP hp),fun o hf=>h3 o (hF o hf),kv,vv,es,clock,(hb h1).trans h4,h5,RepL.mono h 1 _ _ h6,RepL.mono h 1 _ _ h7⟩
 | lp l rc =>
  obtain ⟨h1,h2,h3,h4,h5⟩:=hx
  exact ⟨h1,fun hp=>h2 (hP hp),fun o hf=>h3 o (hF o hf),h4,(hb h1).trans h5⟩
 | it left cur =>
  obtain ⟨h1,h2,h3,h4,bm,es,clock,seen,g1,g2,g3,g4,⟨el,e1,e2,e3⟩,g5⟩:=hx
  exact ⟨h1,fun hp=>h2 (hP hp),fun o hf=>h3 o (hF o hf),h4,bm,es,clock,seen,h.Pr bm g1,(h.block bm g1).trans g2,g3,(hb h1).trans g4,⟨el,e1,RepL.mono h 1 _ _ e2,RepL.mono h 1 _ _ e3⟩,
   fun k v hc=>let ⟨e,q1,q2,q3,q4⟩:=g5 k v hc; ⟨e,q1,q2,Rep.mono h 1 _ _ q3,Rep.mono h 1 _ _ q4⟩⟩

theorem lt_of_getElem? {α : Type} {l : Array α} {b : Nat} {x : α} (h : l[b]? = some x) : b < l.size:=by
 rcases Nat.lt_or_ge b l.size with h' | h'
 ·exact h'
 ·rw [Array.getElem?_eq_none h'] at h; cases h
theorem BlkRep.lt {m : Mem} {ri : RI} {x : ABlk} (hx : BlkRep m ri x) (hn : ri.isNil = false) : ri.b < m.w.heap.size:=by
 cases x with
 | cells cs=>obtain ⟨_,_,_,c,T,h4,_⟩:=hx; exact lt_of_getElem? h4
 | tc T0 cs=>obtain ⟨_,_,_,c,h4,_⟩:=hx; exact lt_of_getElem? h4
 | row sz es own =>
  rcases hx with ⟨h,_⟩ | ⟨_,_,_,_,⟨c,T,lo,hi,h5,_⟩,_⟩
  ·rw [hn] at h; cases h
  ·exact lt_of_getElem? h5
 | amap ks vs=>obtain ⟨_,_,_,kv,vv,es,clock,h4,_⟩:=hx; exact lt_of_getElem? h4
 | lp l rc=>obtain ⟨_,_,_,_,h4⟩:=hx; exact lt_of_getElem? h4
 | it left cur=>obtain ⟨_,_,_,_,bm,es,clock,seen,_,_,_,g4,_⟩:=hx; exact lt_of_getElem? g4
 | full sz es =>
  rcases hx.1 with ⟨h,_⟩ | ⟨_,_,_,_,⟨c,T,lo,hi,h5,_⟩,_⟩
  ·rw [hn] at h; cases h
  ·exact lt_of_getElem? h5
 | brow e0 l0 =>
  rcases hx.1 with ⟨h,_⟩ | ⟨_,_,_,_,⟨c,T,lo,hi,h5,_⟩,_⟩
  ·rw [hn] at h; cases h
  ·exact lt_of_getElem? h5
 | mrow sz es =>
  rcases hx.2 with ⟨h,_⟩ | ⟨_,_,_,_,⟨c,T,lo,hi,h5,_⟩,_⟩
  ·rw [hn] at h; cases h
  ·exact lt_of_getElem? h5

theorem SimH.upd {m m' : Mem} {B : Nat} {hp : List (Nat × ABlk)} {nx : Nat} (hH : SimH m hp nx) (hU : Upd m m' B) {hp' : List (Nat × ABlk)} {nx' k : Nat} {ri : RI} {blk : ABlk}
  (hk : m'.ρ k = some ri) (hblk : BlkRep m' ri blk) (hriB : ri.isNil = false → ri.b = B) (hpk : get hp' k = some blk)
  (hpo : ∀ i,i ≠ k → ∀ x,get hp' i = some x → get hp i = some x ∧ ∀ r,m.ρ i = some r → r.isNil = false → r.b ≠ B)
  (hfresh : ∀ i,nx' ≤ i → m'.ρ i = none) : SimH m' hp' nx' where
 blk id x hx:=by
  by_cases e : id = k
  ·subst e
   rw [hpk] at hx
   injection hx with hx
   subst hx
   exact ⟨ri,hk,hblk⟩
  ·obtain ⟨h1,h2⟩:=hpo id e x hx
   obtain ⟨r,hr,hb⟩:=hH.blk id x h1
   refine ⟨r,hU.ρ _ _ hr,?_⟩
   cases hn : r.isNil with
   | true =>
    cases x with
    | cells cs=>rw [hb.1] at hn; cases hn
    | tc T0 cs=>rw [hb.1] at hn; cases hn
    | row sz es own =>
     rcases hb with hb | hb
     ·exact .inl hb
     ·rw [hb.1] at hn; cases hn
    | amap ks vs=>rw [hb.1] at hn; cases hn
    | mrow sz es=>rw [hb.1] at hn; cases hn
    | lp l rc=>rw [hb.1] at hn; cases hn
    | it left cur=>rw [hb.1] at hn; cases hn
    | full sz es =>
     rcases hb with ⟨hb | hb,hb'⟩
     ·exact ⟨.inl hb,hb'⟩
     ·rw [hb.1] at hn; cases hn
    | brow e0 l0 =>
     rcases hb with ⟨hb | hb,hb'⟩
     ·exact ⟨.inl hb,fun q=>by rw [hn] at q; cases q⟩
     ·rw [hb.1] at hn; cases hn
   | false =>
    have hne:=h2 r hr hn
    exact hb.mono (hU.keeps hH) (fun h=>by rw [hU.Pr] at h; exact h) (fun o h=>hU.F' _ _ hne h) (fun _=>hU.other _ hne (hb.lt hn))
 apart id id' x x' r r' hx hx' hr hr' hne hn hn':=by
  by_cases e : id = k
  ·subst e
   have e' : id' ≠ id:=fun h=>hne h.symm
   obtain ⟨h1,h2⟩:=hpo id' e' x' hx'
   obtain ⟨r0,hr0,_⟩:=hH.blk id' x' h1
   have:=hU.ρ _ _ hr0
   rw [hr'] at this
   injection this with this
   subst this
   rw [hk] at hr
   injection hr with hr
   subst hr
   rw [hriB hn]
   exact fun h=>h2 r' hr0 hn' h.symm
  ·obtain ⟨h1,h2⟩:=hpo id e x hx
   obtain ⟨r0,hr0,_⟩:=hH.blk id x h1
   have:=hU.ρ _ _ hr0
   rw [hr] at this
   injection this with this
   subst this
   by_cases e' : id' = k
   ·subst e'
    rw [hk] at hr'
    injection hr' with hr'
    subst hr'
    rw [hriB hn']
    exact h2 r hr0 hn
   ·obtain ⟨h1',h2'⟩:=hpo id' e' x' hx'
    obtain ⟨r0',hr0',_⟩:=hH.blk id' x' h1'
    have:=hU.ρ _ _ hr0'
    rw [hr'] at this
    injection this with this
    subst this
    exact hH.apart id id' x x' r r' h1 h1' hr0 hr0' hne hn hn'
 fresh:=hfresh
 Fold:=hU.Fsz
 Pold b hb:=Nat.lt_of_lt_of_le (hH.Pold b (by rw [hU.Pr] at hb; exact hb)) hU.size

theorem Sim.of {m m' : Mem} {a : Act} {σ : St} (hS : Sim m a σ) (hk : m.keeps m') {hp : List (Nat × ABlk)} {nx : Nat} (hH : SimH m' hp nx) : Sim m' a ⟨σ.n,σ.env,hp,nx,σ.gl,σ.np,σ.df⟩ :=
 ⟨hH,hS.n,hS.defers.mono hk,fun t x h=>⟨(hS.env t x h).1,Rep.mono hk 0 _ _ (hS.env t x h).2⟩,fun g x h=>Rep.mono hk 1 _ _ (hS.gl g x h),hk.np.trans hS.np⟩

structure Alloc (w w' : World) (o : Obj) : Prop where
 os : w'.os = w.os
 tape : w'.tape = w.tape
 output : w'.output = w.output
 heap : w'.heap = w.heap.push o

theorem Alloc.old {w w' : World} {o : Obj} (h : Alloc w w' o) {b : Nat} (hb : b < w.heap.size) : w'.heap[b]? = w.heap[b]?:=by
 rw [h.heap,Array.getElem?_push,if_neg (by omega)]
theorem Alloc.new {w w' : World} {o : Obj} (h : Alloc w w' o) : w'.heap[w.heap.size]? = some o:=by
 rw [h.heap,Array.getElem?_push,if_pos rfl]
theorem Alloc.size {w w' : World} {o : Obj} (h : Alloc w w' o) : w'.heap.size = w.heap.size + 1:=by
 rw [h.heap,Array.size_push]

def Mem.with (m : Mem) (w' : World) (id : Nat) (ri : RI) (G : Nat → Nat → Prop) : Mem :=
 { w:=w',F:=fun b o=>m.F b o ∨ G b o,Pr:=m.Pr,ρ:=fun i=>if i = id then some ri else m.ρ i,np:=m.np }

theorem Upd.alloc {m : Mem} {hp : List (Nat × ABlk)} {nx : Nat} (hH : SimH m hp nx) {w' : World} {o : Obj} (hw : Alloc m.w w' o) (ri : RI) (G : Nat → Nat → Prop)
  (hG : ∀ b o,G b o → b = m.w.heap.size) : Upd m (m.with w' nx ri G) m.w.heap.size where
 os:=hw.os
 tape:=hw.tape
 output:=hw.output
 size:=by show m.w.heap.size ≤ w'.heap.size; rw [hw.size]; omega
 other b _ hb:=hw.old hb
 F b o h:=.inl h
 F' b o hb h:=h.elim id (fun h=>(hb (hG b o h)).elim)
 Fsz b o h:=by
  show b < w'.heap.size
  rw [hw.size]
  rcases h with h | h
  ·have:=hH.Fold b o h; omega
  ·have:=hG b o h; omega
 cell o h:=by have:=hH.Fold _ o h; omega
 Pr:=rfl
 notPr h:=by have:=hH.Pold _ h; omega
 ρ id r h:=by
  show (if id = nx then some ri else m.ρ id) = some r
  by_cases e : id = nx
  ·subst e; rw [hH.fresh id (Nat.le_refl _)] at h; cases h
  ·rw [if_neg e]; exact h
 np:=rfl

theorem SimH.alloc {m : Mem} {hp : List (Nat × ABlk)} {nx : Nat} (hH : SimH m hp nx) {w' : World} {o : Obj} (hw : Alloc m.w w' o) {ri : RI} {G : Nat → Nat → Prop} {blk : ABlk}
  (hG : ∀ b o,G b o → b = m.w.heap.size) (hri : ri.b = m.w.heap.size) (hblk : BlkRep (m.with w' nx ri G) ri blk) :
  SimH (m.with w' nx ri G) (set hp nx blk) (nx + 1):=by
 have hU:=Upd.alloc hH hw ri G hG
 refine hH.upd hU (k:=nx) (ri:=ri) (blk:=blk) (by simp [Mem.with]) hblk (fun _=>hri) (by rw [get_set,if_pos rfl]) ?_ ?_
 ·intro i hi x hx
  rw [get_set,if_neg (Ne.symm hi)] at hx
  refine ⟨hx,fun r hr hn=>?_⟩
  obtain ⟨r',hr',hb⟩:=hH.blk i x hx
  rw [hr] at hr'
  injection hr' with hr'
  subst hr'
  have:=hb.lt hn
  omega
 ·intro i hi
  simp only [Mem.with]
  rw [if_neg (by omega)]
  exact hH.fresh i (by omega)

/-! ### cells of a value -/
def acells (x : AV) : Option (List AV) :=
 match x with
 | .agg cs=>some cs
 | .ite _ _ _=>none
 | .opt _ _=>none
 | .top=>none
 | .tup _=>none
 | .raw v=>match v with
  | .agg _=>none
  | v=>some [.raw v]
 | y=>some [y]
theorem acells_sound {m : Mem} {k : Nat} {x : AV} {v : Value} {l : List AV} (hv : Rep m k x v) (h : acells x = some l) : RepL m k l v.cells.toList:=by
 have one : ∀ u : Value,(∀ cs,u ≠ .agg cs) → u.cells = #[u]:=by
  intro u hu
  cases u <;> first | rfl | exact (hu _ rfl).elim
 have fin : ∀ y u,Rep m k y u → (∀ cs,u ≠ .agg cs) → RepL m k [y] u.cells.toList:=by
  intro y u hy hu
  rw [one u hu]
  simp only [RepL]
  exact ⟨u,[],rfl,hy,rfl⟩
 unfold acells at h
 split at h
 case h_1 =>
  simp only [Option.some.injEq] at h
  subst h
  simp only [Rep] at hv
  obtain ⟨vs,rfl,hl⟩:=hv
  exact hl
 case h_2=>cases h
 case h_3=>cases h
 case h_4=>cases h
 case h_5=>cases h
 case h_6 =>
  split at h
  ·cases h
  ·rename_i u hu
   simp only [Option.some.injEq] at h
   subst h
   have hv':=hv
   simp only [Rep] at hv'
   subst hv'
   exact fin _ _ hv (fun cs e=>hu cs e)
 case h_7 h1 h2 h3 h4 h5 h6 =>
  simp only [Option.some.injEq] at h
  subst h
  refine fin _ _ hv ?_
  intro cs e
  subst e
  cases x <;> simp only [Rep,reduceCtorEq,and_false,false_and,exists_false,or_false] at hv
  case agg c=>exact h1 _ rfl
  case row=>obtain ⟨_,_,_,h⟩:=hv; rcases h with ⟨_,_,_,h⟩ | ⟨_,_,_,h⟩ | ⟨_,_,_,_,h⟩ <;> cases h
  case ite=>exact h2 _ _ _ rfl
  case opt=>exact h3 _ _ rfl
  case raw=>exact h6 _ rfl
  case top=>exact h4 rfl

def isOne : Value → Bool
 | .agg _=>false
 | .tuple _=>false
 | _=>true
def okCell (x : AV) : Bool :=
 match x with
 | .agg _=>false
 | .tup _=>false
 | .top=>false
 | .opt _ _=>false
 | .ite _ _ _=>false
 | .raw v=>isOne v
 | _=>true
theorem okCell_sound {m : Mem} {k : Nat} {x : AV} {v : Value} (hv : Rep m k x v) (h : okCell x = true) : isOne v = true:=by
 cases x <;> simp only [okCell,Bool.false_eq_true] at h <;> simp only [Rep] at hv
 case bool=>subst hv; rfl
 case int=>subst hv; rfl
 case str=>subst hv; rfl
 case sl=>rcases hv with ⟨_,_,_,rfl⟩ | ⟨_,_,_,_,rfl,_⟩ <;> rfl
 case row=>obtain ⟨_,_,_,h⟩:=hv; rcases h with ⟨_,_,_,rfl⟩ | ⟨_,_,_,rfl⟩ | ⟨_,_,_,_,rfl⟩ <;> rfl
 case ptr=>obtain ⟨_,_,_,rfl⟩:=hv; rfl
 case rptr=>obtain ⟨_,_,_,rfl⟩:=hv; rfl
 case cptr=>obtain ⟨_,_,rfl,_⟩:=hv; rfl
 case tptr=>obtain ⟨_,_,_,rfl,_⟩:=hv; rfl
 case clos=>obtain ⟨_,rfl,_⟩:=hv; rfl
 case iface=>obtain ⟨_,rfl,_⟩:=hv; rfl
 case map=>obtain ⟨_,_,_,rfl⟩:=hv; rfl
 case cmap=>obtain ⟨_,_,_,_,_,_,rfl,_⟩:=hv; rfl
 case raw=>subst hv; exact h

end Aw

namespace Aw
open Go

theorem run_newRow {P : Program} {w : World} {T : TypeId} {c : Array Value} :
  (newRow T c).run P w = .ok ⟨w.heap.size,0,none⟩ { w with heap:=w.heap.push (.cells c T) }:=rfl

/-! ### storing cells -/
def splice {α : Type} (l : List α) (o : Nat) (new : List α) : List α:=l.take o ++ new ++ l.drop (o + new.length)

theorem splice_len {α : Type} {l new : List α} {o : Nat} (h : o + new.length ≤ l.length) : (splice l o new).length = l.length:=by
 simp only [splice,List.length_append,List.length_take,List.length_drop]
 omega

def wset (w : World) (b : Nat) (x : Obj) : World:={ w with heap:=w.heap.setIfInBounds b x }

theorem setCell_eq {w : World} {b o : Nat} {c : Array Value} {T : TypeId} {fr : Nat × Nat} (hb : w.heap[b]? = some (.cells c T fr)) (v : Value) :
  w.setCell ⟨b,o,none⟩ v = wset w b (.cells (c.setIfInBounds o v) T fr):=by
 unfold World.setCell wset
 congr 1
 apply Array.ext_getElem?
 intro i
 rw [Array.getElem?_modify,Array.getElem?_setIfInBounds]
 by_cases h : b = i
 ·subst h
  have:=lt_of_getElem? hb
  rw [if_pos rfl,if_pos rfl,hb,if_pos this]
  rfl
 ·simp [h]

theorem wset_get {w : World} {b : Nat} {x y : Obj} (hb : w.heap[b]? = some y) : (wset w b x).heap[b]? = some x:=by
 have:=lt_of_getElem? hb
 simp [wset,this]
theorem wset_other {w : World} {b b' : Nat} {x : Obj} (h : b' ≠ b) : (wset w b x).heap[b']? = w.heap[b']?:=by
 simp only [wset]
 rw [Array.getElem?_setIfInBounds_ne (Ne.symm h)]
theorem wset_wset {w : World} {b : Nat} {x y : Obj} : wset (wset w b x) b y = wset w b y:=by
 unfold wset
 congr 1
 apply Array.ext_getElem?
 intro i
 simp only [Array.getElem?_setIfInBounds,Array.size_setIfInBounds]
 split <;> rfl

theorem splice_zero {α : Type} (l : List α) (o : Nat) : splice l o [] = l:=by
 unfold splice
 simp
theorem splice_cons {α : Type} (l : List α) (o : Nat) (v : α) (vs : List α) (h : o < l.length) : splice (l.set o v) (o + 1) vs = splice l o (v :: vs):=by
 unfold splice
 have e1 : (l.set o v).take (o + 1) = l.take o ++ [v]:=by
  rw [List.take_set,List.take_succ_eq_append_getElem h]
  rw [List.set_append_right _ _ (by simp; omega)]
  simp [Nat.min_eq_left (Nat.le_of_lt h)]
 have e2 : (l.set o v).drop (o + 1 + vs.length) = l.drop (o + 1 + vs.length):=by
  rw [List.drop_set_of_lt (by omega)]
 rw [e1,e2]
 simp [Nat.add_assoc,Nat.add_comm 1]

theorem run_storeCells {P : Program} {b : Nat} {T : TypeId} {lo hi : Nat} : ∀ (vs : List Value) (o k : Nat) (w : World) (c : Array Value),
  w.heap[b]? = some (.cells c T (lo,hi)) → (∀ i,i < c.size → ¬ (lo ≤ i ∧ i < hi)) → o + k + vs.length ≤ c.size → (∀ v ∈ vs,isOne v = true) →
  ∃ c' : Array Value,c'.toList = splice c.toList (o + k) vs ∧ (storeCells ⟨b,o,none⟩ vs k).run P w = .ok () (wset w b (.cells c' T (lo,hi)))
 | [],o,k,w,c,hb,_,_,_=>by
  refine ⟨c,by rw [splice_zero],?_⟩
  have : wset w b (.cells c T (lo,hi)) = w:=by
   unfold wset
   have : w.heap.setIfInBounds b (.cells c T (lo,hi)) = w.heap:=by
    apply Array.ext_getElem?
    intro i
    rw [Array.getElem?_setIfInBounds]
    by_cases h : b = i
    ·subst h
     rw [if_pos rfl,if_pos (lt_of_getElem? hb),hb]
    ·rw [if_neg h]
   rw [this]
  rw [this]
  rfl
 | v :: vs,o,k,w,c,hb,hfr,hle,hone=>by
  have hlt : o + k < c.size:=by simp only [List.length_cons] at hle; omega
  have hst : (store (Addr.add ⟨b,o,none⟩ k) v).run P w = .ok () (wset w b (.cells (c.setIfInBounds (o + k) v) T (lo,hi))):=by
   rw [addr_add]
   have hcell : w.cell? ⟨b,o + k,none⟩ = some c[o + k]:=by
    simp only [World.cell?,hb,Option.isSome_none,Bool.false_eq_true,if_false,Array.getElem?_eq_getElem hlt]
   have hf : w.frozen? ⟨b,o + k,none⟩ = false:=by
    have:=hfr (o + k) hlt
    simp [World.frozen?,hb]
    omega
   have:=hone v (List.mem_cons_self ..)
   cases v <;> first
    | (cases this; done)
    | (simp only [store,Sem.run,hcell,hf,Bool.false_eq_true,if_false,setCell_eq hb])
  obtain ⟨c',h1,h2⟩:=run_storeCells vs o (k + 1) (wset w b (.cells (c.setIfInBounds (o + k) v) T (lo,hi))) (c.setIfInBounds (o + k) v) (wset_get hb)
   (by simpa using hfr) (by simp only [Array.size_setIfInBounds,List.length_cons] at hle ⊢; omega) (fun u hu=>hone u (List.mem_cons_of_mem _ hu))
  refine ⟨c',?_,?_⟩
  ·rw [h1,Array.toList_setIfInBounds,show o + (k + 1) = o + k + 1 from by omega,splice_cons _ _ _ _ (by simpa using hlt)]
  ·rw [storeCells,run_bind hst,h2,wset_wset]

theorem RepL.splice {m : Mem} {kk : Nat} {xs ys : List AV} {vs us : List Value} (h : RepL m kk xs vs) (h' : RepL m kk ys us) (o : Nat) :
  RepL m kk (splice xs o ys) (splice vs o us):=by
 unfold Aw.splice
 rw [h'.length]
 exact ((h.take o).append h').append (h.drop _)

theorem RepL.isOne {m : Mem} {kk : Nat} : ∀ {xs : List AV} {vs : List Value},RepL m kk xs vs → (∀ x ∈ xs,okCell x = true) → ∀ v ∈ vs,isOne v = true
 | [],vs,h,_=>by simp only [RepL] at h; subst h; intro v hv; cases hv
 | x :: xs,vs,h,hx=>by
  simp only [RepL] at h
  obtain ⟨v,rest,rfl,hv,hr⟩:=h
  intro u hu
  cases hu with
  | head=>exact okCell_sound hv (hx x (List.mem_cons_self ..))
  | tail _ hu=>exact RepL.isOne hr (fun y hy=>hx y (List.mem_cons_of_mem _ hy)) u hu

theorem Upd.set {m : Mem} {hp : List (Nat × ABlk)} {nx : Nat} (hH : SimH m hp nx) {b : Nat} {x : Obj} (hP : ¬ m.Pr b)
  (hcell : ∀ o,m.F b o → (wset m.w b x).cell? ⟨b,o,none⟩ = m.w.cell? ⟨b,o,none⟩) : Upd m { m with w:=wset m.w b x } b where
 os:=rfl
 tape:=rfl
 output:=rfl
 size:=by simp [wset]
 other b' h _:=wset_other h
 F _ _ h:=h
 F' _ _ _ h:=h
 Fsz b' o h:=by
  have:=hH.Fold b' o h
  simpa [wset] using this
 cell:=hcell
 Pr:=rfl
 notPr:=hP
 ρ _ _ h:=h
 np:=rfl

theorem SimH.sole {m : Mem} {hp : List (Nat × ABlk)} {nx : Nat} (hH : SimH m hp nx) {id : Nat} {x : ABlk} {ri : RI} (hx : get hp id = some x) (hr : m.ρ id = some ri)
  (hn : ri.isNil = false) : ∀ i,i ≠ id → ∀ y,get hp i = some y → ∀ r,m.ρ i = some r → r.isNil = false → r.b ≠ ri.b :=
 fun i hi y hy r hr' hn'=>hH.apart i id y x r ri hy hx hr' hr hi hn' hn

def evE (σ : St) (x : Operand) : Option (Prop × AV) :=
 match ev σ x with
 | some y=>some (strip true y)
 | none=>none
theorem evE_sound {m : Mem} {a : Act} {σ : St} (hS : Sim m a σ) {x : Operand} {p : Prop} {y : AV} (h : evE σ x = some (p,y)) (hp : p) : Rep m 0 y (a.eval x):=by
 unfold evE at h
 split at h
 case h_2=>cases h
 rename_i z hz
 simp only [Option.some.injEq,Prod.ext_iff] at h
 obtain ⟨h1,h2⟩:=h
 rw [← h2]
 exact (hS.ev hz).strip rfl (by rw [h1]; exact hp)

structure Eff where
 ob : Prop
 val : AV
 hp : List (Nat × ABlk)
 nx : Nat

def EffOk (P : Program) (m : Mem) (a : Act) (o : Oper) (e : Eff) : Prop :=
 ∃ v m',((execOp a.eval o).run P m.w = .ok (.value v) m'.w ∨ ((execOp a.eval o).run P m.w = .ok .skip m'.w ∧ v = undef)) ∧
  m.le m' ∧ m.keeps m' ∧ SimH m' e.hp e.nx ∧ Rep m' 0 e.val v

/-! ### alloc, box -/
def allocB (t : TypeId) (cs : List AV) : ABlk :=
 match cs with
 | []=>.cells cs
 | x :: r=>match x with
  | .int k _=>match k with
   | .u8=>match r with
    | []=>.cells cs
    | _ :: _=>.tc t cs
   | _=>.cells cs
  | .raw v=>match v with
   | .pointer none=>match r with
    | []=>.cells cs
    | y :: r2=>match y with
     | .raw u=>match u with
      | .slice none _ _=>match r2 with
       | []=>.tc t cs
       | _ :: _=>.cells cs
      | _=>.cells cs
     | _=>.cells cs
   | _=>.cells cs
  | _=>.cells cs
theorem allocB_or (t : TypeId) (cs : List AV) : allocB t cs = .cells cs ∨ allocB t cs = .tc t cs:=by
 unfold allocB
 repeat' split
 all_goals first | exact .inl rfl | exact .inr rfl
def ealloc (P : Program) (σ : St) (t : TypeId) : Option Eff :=
 match tinfo P t with
 | some i=>match i.zero with
  | some cs=>some ⟨True,.ptr σ.nx 0,set σ.hp σ.nx (allocB t cs),σ.nx + 1⟩
  | none=>none
 | none=>none
def ebox (σ : St) (x : Operand) : Option Eff :=
 match evE σ x with
 | some y=>match acells y.2 with
  | some cs=>some ⟨y.1,.ptr σ.nx 0,set σ.hp σ.nx (.cells cs),σ.nx + 1⟩
  | none=>none
 | none=>none

theorem RepL.const {m : Mem} {kk : Nat} : ∀ vs : List Value,RepL m kk (vs.map constAV) vs
 | []=>by simp [RepL]
 | v :: vs=>by
  simp only [List.map_cons,RepL]
  exact ⟨v,vs,rfl,Rep.const v,RepL.const vs⟩

theorem newVar_sound {P : Program} {m : Mem} {a : Act} {σ : St} (hS : Sim m a σ) {t : TypeId} {v : Value} {cs : List AV} (hl : RepL m 0 cs v.cells.toList) :
  ∃ m' : Mem,(newVar t v).run P m.w = .ok ⟨m.w.heap.size,0,none⟩ m'.w ∧ m.le m' ∧ m.keeps m' ∧ SimH m' (set σ.hp σ.nx (.cells cs)) (σ.nx + 1) ∧
   Rep m' 0 (.ptr σ.nx 0) (.pointer (some ⟨m.w.heap.size,0,none⟩)):=by
 have hw : Alloc m.w { m.w with heap:=m.w.heap.push (.cells v.cells t) } (.cells v.cells t):=⟨rfl,rfl,rfl,rfl⟩
 let ri : RI:=⟨m.w.heap.size,0,0,0,false⟩
 have hU:=Upd.alloc hS.h hw ri (fun _ _=>False) (fun _ _ h=>h.elim)
 refine ⟨m.with _ σ.nx ri (fun _ _=>False),run_newRow,hU.le hS.h,hU.keeps hS.h,hS.h.alloc hw (fun _ _ h=>h.elim) rfl ?_,?_⟩
 ·refine ⟨rfl,?_,?_,v.cells,t,hw.new,RepL.mono (hU.keeps hS.h) 0 _ _ hl⟩
  ·intro h; have:=hS.h.Pold _ h; exact absurd this (Nat.lt_irrefl _)
  ·intro o h
   rcases h with h | h
   ·have:=hS.h.Fold _ o h; exact absurd this (Nat.lt_irrefl _)
   ·exact h
 ·simp only [Rep]
  exact ⟨trivial,ri,by simp [Mem.with],rfl⟩

theorem newVar_soundB {P : Program} {m : Mem} {a : Act} {σ : St} (hS : Sim m a σ) {t : TypeId} {v : Value} {cs : List AV} (hl : RepL m 0 cs v.cells.toList) :
  ∃ m' : Mem,(newVar t v).run P m.w = .ok ⟨m.w.heap.size,0,none⟩ m'.w ∧ m.le m' ∧ m.keeps m' ∧ SimH m' (set σ.hp σ.nx (allocB t cs)) (σ.nx + 1) ∧
   Rep m' 0 (.ptr σ.nx 0) (.pointer (some ⟨m.w.heap.size,0,none⟩)):=by
 have hw : Alloc m.w { m.w with heap:=m.w.heap.push (.cells v.cells t) } (.cells v.cells t):=⟨rfl,rfl,rfl,rfl⟩
 let ri : RI:=⟨m.w.heap.size,0,cs.length,1,false⟩
 have hU:=Upd.alloc hS.h hw ri (fun _ _=>False) (fun _ _ h=>h.elim)
 refine ⟨m.with _ σ.nx ri (fun _ _=>False),run_newRow,hU.le hS.h,hU.keeps hS.h,hS.h.alloc hw (fun _ _ h=>h.elim) rfl ?_,?_⟩
 ·rcases allocB_or t cs with q | q <;> rw [q]
  ·refine ⟨rfl,?_,?_,v.cells,t,hw.new,RepL.mono (hU.keeps hS.h) 0 _ _ hl⟩
   ·intro h; have:=hS.h.Pold _ h; exact absurd this (Nat.lt_irrefl _)
   ·intro o h
    rcases h with h | h
    ·have:=hS.h.Fold _ o h; exact absurd this (Nat.lt_irrefl _)
    ·exact h
  ·refine ⟨rfl,?_,?_,v.cells,hw.new,RepL.mono (hU.keeps hS.h) 0 _ _ hl,rfl,rfl,rfl⟩
   ·intro h; have:=hS.h.Pold _ h; exact absurd this (Nat.lt_irrefl _)
   ·intro o h
    rcases h with h | h
    ·have:=hS.h.Fold _ o h; exact absurd this (Nat.lt_irrefl _)
    ·exact h
 ·simp only [Rep]
  exact ⟨trivial,ri,by simp [Mem.with],rfl⟩

theorem ealloc_sound {P : Program} {m : Mem} {a : Act} {σ : St} (hS : Sim m a σ) {o : Oper} {t : TypeId} {e : Eff} (ho : o.op = .alloc t) (h : ealloc P σ t = some e) :
  EffOk P m a o e:=by
 unfold ealloc at h
 split at h
 case h_2=>cases h
 rename_i i hi
 split at h
 case h_2=>cases h
 rename_i cs hz
 simp only [Option.some.injEq] at h
 subst h
 obtain ⟨ti,ht,_,_,hzz⟩:=run_typeInfo_ti (w:=m.w) hi
 rw [hz] at hzz
 cases hzv : ti.zero with
 | none=>rw [hzv] at hzz; cases hzz
 | some z =>
  rw [hzv] at hzz
  simp only [Option.map_some,Option.some.injEq] at hzz
  obtain ⟨m',h1,h2,h3,h4,h5⟩:=newVar_soundB (P:=P) (t:=t) hS (v:=z) (cs:=cs) (by rw [hzz]; exact RepL.const _)
  refine ⟨_,m',.inl ?_,h2,h3,h4,h5⟩
  have hzr : (zeroValue t).run P m.w = .ok z m.w:=by unfold zeroValue; rw [run_bind ht]; simp only [hzv] <;> rfl
  simp only [execOp,ho]
  refine run_value ?_
  simp only [Instr.alloc,Sem.run_bind,hzr,Result.andThen_ok,h1]
  rfl

end Aw

namespace Aw
open Go

theorem ebox_sound {P : Program} {m : Mem} {a : Act} {σ : St} (hS : Sim m a σ) {o : Oper} {t : TypeId} {x : Operand} {e : Eff} (ho : o.op = .box t x) (h : ebox σ x = some e) (hob : e.ob) :
  EffOk P m a o e:=by
 unfold ebox at h
 split at h
 case h_2=>cases h
 rename_i y hy
 split at h
 case h_2=>cases h
 rename_i cs hcs
 simp only [Option.some.injEq] at h
 subst h
 have hr:=evE_sound hS hy hob
 obtain ⟨m',h1,h2,h3,h4,h5⟩:=newVar_sound (P:=P) (t:=t) hS (acells_sound hr hcs)
 refine ⟨_,m',.inl ?_,h2,h3,h4,h5⟩
 simp only [execOp,ho]
 refine run_value ?_
 unfold Instr.box
 rw [run_bind h1]
 rfl

/-! ### a store -/
def estore (P : Program) (σ : St) (t : TypeId) (x y : Operand) : Option Eff :=
 match tinfo P t,evE σ x,evE σ y with
 | some i,some p,some q=>match acells q.2 with
  | none=>none
  | some l=>if l.length = i.sz ∧ l.all okCell = true then
    match p.2 with
    | .ptr id off=>match get σ.hp id with
     | some (.cells cs)=>some ⟨p.1 ∧ q.1 ∧ off + l.length ≤ cs.length,.raw undef,set σ.hp id (.cells (splice cs off l)),σ.nx⟩
     | some (.tc T cs)=>some ⟨p.1 ∧ q.1 ∧ off + l.length ≤ cs.length,.raw undef,set σ.hp id (.tc T (splice cs off l)),σ.nx⟩
     | _=>none
    | _=>none
   else none
 | _,_,_=>none

theorem estore_sound {P : Program} {m : Mem} {a : Act} {σ : St} (hS : Sim m a σ) {o : Oper} {t : TypeId} {x y : Operand} {e : Eff} (ho : o.op = .store t x y)
  (h : estore P σ t x y = some e) (hob : e.ob) : EffOk P m a o e:=by
 unfold estore at h
 split at h
 case h_2=>cases h
 rename_i i p q hi hx hy
 split at h
 case h_1=>cases h
 rename_i l hl
 split at h
 case isFalse=>cases h
 rename_i hc
 obtain ⟨hlen,hall⟩:=hc
 split at h
 case h_2=>cases h
 rename_i id off hp
 split at h
 case h_3=>cases h
 ·rename_i cs hg
  simp only [Option.some.injEq] at h
  subst h
  obtain ⟨h1,h2,h3⟩:=hob
  have hr:=evE_sound hS hx h1
  have hr':=evE_sound hS hy h2
  rw [hp] at hr
  simp only [Rep] at hr
  obtain ⟨_,ri,hρ,hv⟩:=hr
  obtain ⟨ri',hρ',hb⟩:=hS.h.blk id _ hg
  rw [hρ] at hρ'
  injection hρ' with hρ'
  subst hρ'
  obtain ⟨hn,hP,hF,c,T,hbk,hL⟩:=hb
  have hL':=acells_sound hr' hl
  have hall' : ∀ z ∈ l,okCell z = true:=by simpa using hall
  have hsz:=hL.length
  have hsz':=hL'.length
  obtain ⟨c',hc1,hc2⟩:=run_storeCells (P:=P) (a.eval y).cells.toList off 0 m.w c hbk (by intro j _ hj; omega) (by simp at hsz hsz' ⊢; omega) (hL'.isOne hall')
  have hU : Upd m { m with w:=wset m.w ri.b (.cells c' T (0,0)) } ri.b:=Upd.set hS.h hP (fun o h=>(hF o h).elim)
  refine ⟨undef,{ m with w:=wset m.w ri.b (.cells c' T (0,0)) },.inr ⟨?_,rfl⟩,hU.le hS.h,hU.keeps hS.h,?_,by simp only [Rep]⟩
  ·simp only [execOp,ho,Instr.storeAt,Instr.sureAddr,hv]
   rw [run_bind (a:=()) (w':=wset m.w ri.b (.cells c' T (0,0)))]
   ·rfl
   ·rw [run_bind (yes_ok P m.w _)]
    unfold storeVar
    rw [run_bind (run_sizeOf_ti hi)]
    rw [if_neg (by simp at hsz'; omega)]
    exact hc2
  ·refine hS.h.upd hU (k:=id) (ri:=ri) (blk:=.cells (splice cs off l)) hρ ?_ (fun _=>rfl) (by rw [get_set,if_pos rfl]) ?_ hS.h.fresh
   ·refine ⟨hn,hP,hF,c',T,wset_get hbk,?_⟩
    rw [hc1,Nat.add_zero]
    exact (RepL.mono (hU.keeps hS.h) 0 _ _ hL).splice (RepL.mono (hU.keeps hS.h) 0 _ _ hL') off
   ·intro j hj z hz
    rw [get_set,if_neg (Ne.symm hj)] at hz
    exact ⟨hz,hS.h.sole hg hρ hn j hj z hz⟩
 ·rename_i T0 cs hg
  simp only [Option.some.injEq] at h
  subst h
  obtain ⟨h1,h2,h3⟩:=hob
  have hr:=evE_sound hS hx h1
  have hr':=evE_sound hS hy h2
  rw [hp] at hr
  simp only [Rep] at hr
  obtain ⟨_,ri,hρ,hv⟩:=hr
  obtain ⟨ri',hρ',hb⟩:=hS.h.blk id _ hg
  rw [hρ] at hρ'
  injection hρ' with hρ'
  subst hρ'
  obtain ⟨hn,hP,hF,c,hbk,hL,hX1,hX2,hX3⟩:=hb
  have hL':=acells_sound hr' hl
  have hall' : ∀ z ∈ l,okCell z = true:=by simpa using hall
  have hsz:=hL.length
  have hsz':=hL'.length
  obtain ⟨c',hc1,hc2⟩:=run_storeCells (P:=P) (a.eval y).cells.toList off 0 m.w c hbk (by intro j _ hj; omega) (by simp at hsz hsz' ⊢; omega) (hL'.isOne hall')
  have hU : Upd m { m with w:=wset m.w ri.b (.cells c' T0 (0,0)) } ri.b:=Upd.set hS.h hP (fun o h=>(hF o h).elim)
  refine ⟨undef,{ m with w:=wset m.w ri.b (.cells c' T0 (0,0)) },.inr ⟨?_,rfl⟩,hU.le hS.h,hU.keeps hS.h,?_,by simp only [Rep]⟩
  ·simp only [execOp,ho,Instr.storeAt,Instr.sureAddr,hv]
   rw [run_bind (a:=()) (w':=wset m.w ri.b (.cells c' T0 (0,0)))]
   ·rfl
   ·rw [run_bind (yes_ok P m.w _)]
    unfold storeVar
    rw [run_bind (run_sizeOf_ti hi)]
    rw [if_neg (by simp at hsz'; omega)]
    exact hc2
  ·refine hS.h.upd hU (k:=id) (ri:=ri) (blk:=.tc T0 (splice cs off l)) hρ ?_ (fun _=>rfl) (by rw [get_set,if_pos rfl]) ?_ hS.h.fresh
   ·refine ⟨hn,hP,hF,c',wset_get hbk,?_,hX1,hX2,hX3.trans (splice_len h3).symm⟩
    rw [hc1,Nat.add_zero]
    exact (RepL.mono (hU.keeps hS.h) 0 _ _ hL).splice (RepL.mono (hU.keeps hS.h) 0 _ _ hL') off
   ·intro j hj z hz
    rw [get_set,if_neg (Ne.symm hj)] at hz
    exact ⟨hz,hS.h.sole hg hρ hn j hj z hz⟩

/-! ### freezing -/
def frz (hp : List (Nat × ABlk)) (id : Nat) : List (Nat × ABlk) :=
 match get hp id with
 | some (.row sz es true)=>set hp id (.row sz es false)
 | _=>hp
def frzs (hp : List (Nat × ABlk)) (ids : List Nat) : List (Nat × ABlk):=ids.foldl frz hp

theorem RepX.flat_append {m : Mem} {kk b : Nat} : ∀ {xs ys : List AV} {o : Nat},RepX m kk (xs ++ ys) b o ↔ RepX m kk xs b o ∧ RepX m kk ys b (o + xs.length)
 | [],ys,o=>by simp [RepX]
 | x :: xs,ys,o=>by
  simp only [List.cons_append,RepX,RepX.flat_append (xs:=xs),List.length_cons]
  rw [show o + 1 + xs.length = o + (xs.length + 1) from by omega]
  exact ⟨fun h=>⟨⟨h.1,h.2.1⟩,h.2.2⟩,fun h=>⟨h.1.1,h.1.2,h.2⟩⟩
theorem RepY.flat {m : Mem} {b sz : Nat} : ∀ {es : List (List AV)} {o : Nat},RepY m es b o sz ↔ (∀ e ∈ es,e.length = sz) ∧ RepX m 2 es.flatten b o
 | [],o=>by simp [RepY,RepX]
 | e :: es,o=>by
  simp only [RepY,List.flatten_cons,RepX.flat_append,RepY.flat (es:=es),List.mem_cons,forall_eq_or_imp]
  constructor
  ·rintro ⟨h1,h2,h3,h4⟩
   exact ⟨⟨h1,h3⟩,h2,h1 ▸ h4⟩
  ·rintro ⟨⟨h1,h3⟩,h2,h4⟩
   exact ⟨h1,h2,h3,h1 ▸ h4⟩
theorem RepE.of {m : Mem} {b sz : Nat} : ∀ {es : List (List AV)} {o : Nat},RepY m es b o sz → (∀ i,o ≤ i → i < o + es.length * sz → m.F b i) → RepE m es b o sz
 | [],_,_,_=>by simp only [RepE]
 | e :: es,o,h,hF=>by
  simp only [RepY] at h
  simp only [RepE]
  simp only [List.length_cons,Nat.succ_mul] at hF
  refine ⟨h.1,RepC.of h.2.1 fun i hi=>hF _ (by omega) (by rw [h.1] at hi; omega),RepE.of h.2.2 fun i h1 h2=>hF i (by omega) (by omega)⟩
theorem RepE.F {m : Mem} {b sz : Nat} : ∀ {es : List (List AV)} {o : Nat},RepE m es b o sz → ∀ i,o ≤ i → i < o + es.length * sz → m.F b i
 | [],o,_,i,h1,h2=>by simp at h2; omega
 | e :: es,o,h,i,h1,h2=>by
  simp only [RepE] at h
  simp only [List.length_cons,Nat.succ_mul] at h2
  by_cases hi : i < o + sz
  ·have:=h.2.1.F (i - o) (by rw [h.1]; omega)
   rwa [show o + (i - o) = i from by omega] at this
  ·exact h.2.2.F i (by omega) (by omega)

theorem Upd.freeze {m : Mem} {hp : List (Nat × ABlk)} {nx : Nat} (hH : SimH m hp nx) {b : Nat} (hb : b < m.w.heap.size) (hP : ¬ m.Pr b) (G : Nat → Prop) :
  Upd m { m with F:=fun b' o=>m.F b' o ∨ (b' = b ∧ G o) } b where
 os:=rfl
 tape:=rfl
 output:=rfl
 size:=Nat.le_refl _
 other _ _ _:=rfl
 F _ _ h:=.inl h
 F' _ _ h h':=h'.elim id fun h'=>(h h'.1).elim
 Fsz b' o h:=h.elim (hH.Fold b' o) fun h=>h.1 ▸ hb
 cell _ _:=rfl
 Pr:=rfl
 notPr:=hP
 ρ _ _ h:=h
 np:=rfl

theorem frz_sound {m : Mem} {hp : List (Nat × ABlk)} {nx : Nat} (hH : SimH m hp nx) (id : Nat) :
  ∃ m' : Mem,m'.w = m.w ∧ m'.ρ = m.ρ ∧ m.le m' ∧ m.keeps m' ∧ SimH m' (frz hp id) nx:=by
 unfold frz
 split
 ·rename_i sz es hg
  obtain ⟨ri,hρ,hb⟩:=hH.blk id _ hg
  rcases hb with hb | ⟨hn,hP,hsz,hcap,⟨c,T,lo,hi,hbk,hfr,hle⟩,hif⟩
  ·refine ⟨m,rfl,rfl,.refl m,.refl m,?_,?_,hH.fresh,hH.Fold,hH.Pold⟩
   ·intro i x hx
    rw [get_set] at hx
    split at hx
    ·rename_i e
     injection hx with hx
     subst e hx
     exact ⟨ri,hρ,.inl hb⟩
    ·exact hH.blk i x hx
   ·intro i i' x x' r r' hx hx' hr hr' hne hn hn'
    rw [get_set] at hx hx'
    split at hx
    ·rename_i e
     subst e
     rw [hρ] at hr
     injection hr with hr
     subst hr
     rw [hb.1] at hn; cases hn
    ·split at hx'
     ·rename_i e
      subst e
      rw [hρ] at hr'
      injection hr' with hr'
      subst hr'
      rw [hb.1] at hn'; cases hn'
     ·exact hH.apart i i' x x' r r' hx hx' hr hr' hne hn hn'
  ·rw [if_pos rfl] at hif
   have hU:=Upd.freeze hH (lt_of_getElem? hbk) hP (fun o=>ri.o ≤ o ∧ o < ri.o + es.length * ri.sz)
   refine ⟨{ m with F:=fun b' o=>m.F b' o ∨ (b' = ri.b ∧ ri.o ≤ o ∧ o < ri.o + es.length * ri.sz) },rfl,rfl,hU.le hH,hU.keeps hH,
    hH.upd hU (k:=id) (ri:=ri) (blk:=.row sz es false) hρ ?_ (fun _=>rfl) (by rw [get_set,if_pos rfl]) ?_ hH.fresh⟩
   ·refine .inr ⟨hn,hP,hsz,hcap,⟨c,T,lo,hi,hbk,fun i hi=>hfr i (by simp at hi ⊢; omega),hle⟩,?_⟩
    rw [if_neg (by simp)]
    refine ⟨RepE.of (hif.1.mono (hU.keeps hH) rfl) fun i h1 h2=>.inr ⟨rfl,h1,h2⟩,?_⟩
    intro i h1 h2
    rcases h2 with h2 | ⟨_,h2,h3⟩
    ·exact hif.2 i (by omega) h2
    ·omega
   ·intro j hj z hz
    rw [get_set,if_neg (Ne.symm hj)] at hz
    exact ⟨hz,hH.sole hg hρ hn j hj z hz⟩
 ·exact ⟨m,rfl,rfl,.refl m,.refl m,hH⟩

theorem frzs_sound : ∀ (ids : List Nat) {m : Mem} {hp : List (Nat × ABlk)} {nx : Nat},SimH m hp nx →
  ∃ m' : Mem,m'.w = m.w ∧ m'.ρ = m.ρ ∧ m.le m' ∧ m.keeps m' ∧ SimH m' (frzs hp ids) nx
 | [],m,_,_,hH=>⟨m,rfl,rfl,.refl m,.refl m,hH⟩
 | id :: ids,m,_,_,hH=>by
  obtain ⟨m1,h1,h2,h3,h4,h5⟩:=frz_sound hH id
  obtain ⟨m2,g1,g2,g3,g4,g5⟩:=frzs_sound ids h5
  exact ⟨m2,g1.trans h1,g2.trans h2,h3.trans g3,h4.trans g4,g5⟩

def rowIds : List AV → List Nat
 | []=>[]
 | x :: xs=>match x with
  | .row id _ _=>id :: rowIds xs
  | _=>rowIds xs
def clo (hp : List (Nat × ABlk)) (x : AV) : Option (Prop × AV) :=
 match x with
 | .bool b=>some (True,.bool b)
 | .int k n=>some (True,.int k n)
 | .str s=>some (True,.str s)
 | .sl es=>some (True,.sl es)
 | .cptr cs=>some (True,.cptr cs)
 | .raw v=>match v with
  | .slice none 0 _=>some (True,.sl [])
  | .agg _=>none
  | .tuple _=>none
  | v=>some (True,.raw v)
 | .row id off len=>match get hp id with
  | some (.row _ es false)=>some (off + len ≤ es.length,.sl ((es.drop off).take len))
  | _=>none
 | _=>none
def clos (hp : List (Nat × ABlk)) : List AV → Option (Prop × List AV)
 | []=>some (True,[])
 | x :: xs=>match clo hp x,clos hp xs with
  | some p,some q=>some (p.1 ∧ q.1,p.2 :: q.2)
  | _,_=>none

theorem clo_sound {m : Mem} {hp : List (Nat × ABlk)} {nx : Nat} (hH : SimH m hp nx) {x y : AV} {ob : Prop} {v : Value} (h : clo hp x = some (ob,y)) (hob : ob)
  (hv : Rep m 0 x v) : Rep m 2 y v ∧ isOne v = true:=by
 unfold clo at h
 split at h
 case h_8=>cases h
 case h_6 =>
  simp only [Rep] at hv
  subst hv
  split at h
  case h_2=>cases h
  case h_3=>cases h
  all_goals
   simp only [Option.some.injEq,Prod.mk.injEq] at h
   obtain ⟨rfl,rfl⟩:=h
  ·exact ⟨by simp only [Rep,true_and]; exact .inl ⟨_,_,rfl⟩,rfl⟩
  ·rename_i h1 h2 h3
   refine ⟨by simp only [Rep],?_⟩
   unfold isOne
   split
   ·exact (h2 _ rfl).elim
   ·exact (h3 _ rfl).elim
   ·rfl
 case h_7 =>
  rename_i id off len
  split at h
  case h_2=>cases h
  rename_i sz es hg
  simp only [Option.some.injEq,Prod.mk.injEq] at h
  obtain ⟨rfl,rfl⟩:=h
  simp only [Rep] at hv ⊢
  obtain ⟨_,ri,hρ,hrow⟩:=hv
  obtain ⟨ri',hρ',hb⟩:=hH.blk id _ hg
  rw [hρ] at hρ'
  injection hρ' with hρ'
  subst hρ'
  rcases hrow with ⟨hn,rfl,rfl,rfl⟩ | ⟨hn,hcap,hlt,rfl⟩ | ⟨hn,rfl,rfl,a,rfl⟩
  ·exact ⟨.inl ⟨by simp,_,_,rfl⟩,rfl⟩
  ·rcases hb with ⟨hn',_⟩ | ⟨_,_,_,_,_,hif⟩
   ·rw [hn] at hn'; cases hn'
   ·rw [if_neg (by simp)] at hif
    refine ⟨.inr ⟨ri.b,ri.o + off * ri.sz,ri.cap - off,ri.sz,?_,?_,(hif.1.drop off).take len⟩,rfl⟩
    ·simp only [List.length_take,List.length_drop]
     rw [show min len (es.length - off) = len from by omega]
    ·simp only [List.length_take,List.length_drop]; omega
  ·exact ⟨.inl ⟨by simp,_,_,rfl⟩,rfl⟩
 all_goals
  simp only [Option.some.injEq,Prod.mk.injEq] at h
  obtain ⟨_,rfl⟩:=h
  simp only [Rep] at hv ⊢
 ·subst hv; exact ⟨rfl,rfl⟩
 ·subst hv; exact ⟨rfl,rfl⟩
 ·subst hv; exact ⟨rfl,rfl⟩
 ·refine ⟨hv,?_⟩
  rcases hv with ⟨_,_,_,rfl⟩ | ⟨_,_,_,_,rfl,_⟩ <;> rfl
 ·refine ⟨hv,?_⟩
  obtain ⟨_,_,rfl,_⟩:=hv; rfl

theorem clos_sound {m : Mem} {hp : List (Nat × ABlk)} {nx : Nat} (hH : SimH m hp nx) : ∀ {xs ys : List AV} {ob : Prop} {vs : List Value},clos hp xs = some (ob,ys) → ob →
  RepL m 0 xs vs → RepL m 2 ys vs ∧ ∀ v ∈ vs,isOne v = true
 | [],ys,ob,vs,h,_,hv=>by
  simp only [clos,Option.some.injEq,Prod.mk.injEq] at h
  obtain ⟨_,rfl⟩:=h
  simp only [RepL] at hv ⊢
  subst hv
  exact ⟨rfl,fun v hv=>by cases hv⟩
 | x :: xs,ys,ob,vs,h,hob,hv=>by
  simp only [clos] at h
  split at h
  case h_2=>cases h
  rename_i p q hp' hq
  simp only [Option.some.injEq,Prod.mk.injEq] at h
  obtain ⟨rfl,rfl⟩:=h
  simp only [RepL] at hv ⊢
  obtain ⟨v,rest,rfl,hx,hr⟩:=hv
  have h1:=clo_sound hH hp' hob.1 hx
  have h2:=clos_sound hH hq hob.2 hr
  refine ⟨⟨v,rest,rfl,h1.1,h2.1⟩,fun u hu=>?_⟩
  cases hu with
  | head=>exact h1.2
  | tail _ hu=>exact h2.2 u hu

end Aw

namespace Aw
open Go

theorem SimH.congr {m : Mem} {hp hp' : List (Nat × ABlk)} {nx : Nat} (h : ∀ i,get hp' i = get hp i) (hH : SimH m hp nx) : SimH m hp' nx :=
 ⟨fun i x hx=>hH.blk i x (by rw [← h]; exact hx),fun i i' x x' r r' hx hx'=>hH.apart i i' x x' r r' (by rw [← h]; exact hx) (by rw [← h]; exact hx'),hH.fresh,hH.Fold,hH.Pold⟩
theorem SimH.del {m : Mem} {hp : List (Nat × ABlk)} {nx : Nat} (id : Nat) (hH : SimH m hp nx) : SimH m (del hp id) nx :=
 ⟨fun i x hx => hH.blk i x (by rw [get_del] at hx; split at hx; · cases hx
                               · exact hx),
  fun i i' x x' r r' hx hx' => hH.apart i i' x x' r r' (by rw [get_del] at hx; split at hx; · cases hx
                                                           · exact hx) (by rw [get_del] at hx'; split at hx'; · cases hx'
                                                                           · exact hx'),hH.fresh,hH.Fold,hH.Pold⟩

theorem row_sound {m : Mem} {hp : List (Nat × ABlk)} {nx : Nat} (hH : SimH m hp nx) {w' : World} {c : Array Value} {T : TypeId} {lo hi : Nat} (hw : Alloc m.w w' (.cells c T (lo,hi)))
  {es : List (List AV)} {sz cap : Nat} (hsz : 1 ≤ sz) (hes : ∀ e ∈ es,e.length = sz) (hcap : es.length ≤ cap) (hc : cap * sz ≤ c.size) (hfr : ∀ i,i < c.size + 1 → ¬ (lo ≤ i ∧ i < hi))
  (hL : RepL m 2 es.flatten (c.toList.take es.flatten.length)) :
  ∃ m' : Mem,m'.w = w' ∧ m.le m' ∧ m.keeps m' ∧ SimH m' (set hp nx (.row sz es true)) (nx + 1) ∧
   Rep m' 0 (.row nx 0 es.length) (.slice (some ⟨m.w.heap.size,0,none⟩) es.length cap):=by
 let ri : RI:=⟨m.w.heap.size,0,cap,sz,false⟩
 have hU:=Upd.alloc hH hw ri (fun _ _=>False) (fun _ _ h=>h.elim)
 refine ⟨m.with w' nx ri (fun _ _=>False),rfl,hU.le hH,hU.keeps hH,hH.alloc hw (fun _ _ h=>h.elim) rfl ?_,?_⟩
 ·refine .inr ⟨rfl,?_,⟨hsz,rfl⟩,hcap,⟨c,T,lo,hi,hw.new,by simpa using hfr,by simpa [ri] using hc⟩,?_⟩
  ·intro h; have:=hH.Pold _ h; exact absurd this (Nat.lt_irrefl _)
  ·rw [if_pos rfl]
   refine ⟨RepY.flat.2 ⟨hes,RepX.of_list hw.new ?_⟩,?_⟩
   ·rw [List.drop_zero]
    exact RepL.mono (hU.keeps hH) 2 _ _ hL
   ·intro i _ h
    rcases h with h | h
    ·have:=hH.Fold _ i h; exact absurd this (Nat.lt_irrefl _)
    ·exact h
 ·simp only [Rep,true_and]
  refine ⟨ri,by simp [Mem.with],?_⟩
  by_cases h : 0 < cap
  ·exact .inr (.inl ⟨rfl,by simpa [ri] using hcap,h,by simp [ri]⟩)
  ·have h0 : cap = 0:=by omega
   have h1 : es.length = 0:=by omega
   exact .inr (.inr ⟨rfl,by simp [ri,h0],h1,⟨m.w.heap.size,0,none⟩,by rw [h0,h1]⟩)

theorem rowF_sound {m : Mem} {hp : List (Nat × ABlk)} {nx : Nat} (hH : SimH m hp nx) {w' : World} {c : Array Value} {T : TypeId} {lo hi : Nat} (hw : Alloc m.w w' (.cells c T (lo,hi)))
  {es : List (List AV)} {sz cap : Nat} (hsz : 1 ≤ sz) (hes : ∀ e ∈ es,e.length = sz) (hcap : es.length ≤ cap) (hc : cap * sz ≤ c.size) (hfr : ∀ i,i < c.size → ¬ (lo ≤ i ∧ i < hi))
  (hL : RepL m 2 es.flatten (c.toList.take es.flatten.length)) :
  ∃ m' : Mem,m'.w = w' ∧ m.le m' ∧ m.keeps m' ∧ SimH m' (set hp nx (.row sz es false)) (nx + 1) ∧
   Rep m' 0 (.row nx 0 es.length) (.slice (some ⟨m.w.heap.size,0,none⟩) es.length cap):=by
 let ri : RI:=⟨m.w.heap.size,0,cap,sz,false⟩
 let G : Nat → Nat → Prop:=fun b i=>b = m.w.heap.size ∧ i < es.length * sz
 have hG : ∀ b o,G b o → b = m.w.heap.size:=fun _ _ h=>h.1
 have hU:=Upd.alloc hH hw ri G hG
 refine ⟨m.with w' nx ri G,rfl,hU.le hH,hU.keeps hH,hH.alloc hw hG rfl ?_,?_⟩
 ·refine .inr ⟨rfl,?_,⟨hsz,rfl⟩,hcap,⟨c,T,lo,hi,hw.new,by simpa using hfr,by simpa [ri] using hc⟩,?_⟩
  ·intro h; have:=hH.Pold _ h; exact absurd this (Nat.lt_irrefl _)
  ·rw [if_neg (by simp)]
   refine ⟨RepE.of (RepY.flat.2 ⟨hes,RepX.of_list hw.new ?_⟩) fun i _ h2=>.inr ⟨rfl,by simpa [ri] using h2⟩,?_⟩
   ·rw [List.drop_zero]
    exact RepL.mono (hU.keeps hH) 2 _ _ hL
   ·intro i hi h
    rcases h with h | h
    ·have:=hH.Fold _ i h; exact absurd this (Nat.lt_irrefl _)
    ·have:=h.2; simp only [ri] at hi; omega
 ·simp only [Rep,true_and]
  refine ⟨ri,by simp [Mem.with],?_⟩
  by_cases h : 0 < cap
  ·exact .inr (.inl ⟨rfl,by simpa [ri] using hcap,h,by simp [ri]⟩)
  ·have h0 : cap = 0:=by omega
   have h1 : es.length = 0:=by omega
   exact .inr (.inr ⟨rfl,by simp [ri,h0],h1,⟨m.w.heap.size,0,none⟩,by rw [h0,h1]⟩)

theorem nilrow_sound {m : Mem} {hp : List (Nat × ABlk)} {nx : Nat} (hH : SimH m hp nx) (sz : Nat) (own : Bool) :
  ∃ m' : Mem,m'.w = m.w ∧ m.le m' ∧ m.keeps m' ∧ SimH m' (set hp nx (.row sz [] own)) (nx + 1) ∧ Rep m' 0 (.row nx 0 0) (.slice none 0 0):=by
 let ri : RI:=⟨0,0,0,0,true⟩
 have hρ : ∀ id r,m.ρ id = some r → (if id = nx then some ri else m.ρ id) = some r:=by
  intro id r h
  by_cases e : id = nx
  ·subst e; rw [hH.fresh id (Nat.le_refl _)] at h; cases h
  ·rw [if_neg e]; exact h
 have hk : m.keeps { m with ρ:=fun i=>if i = nx then some ri else m.ρ i }:=⟨rfl,fun _ h=>h,fun _ _=>rfl,fun _ _ h=>h,fun _ _ _=>rfl,hρ⟩
 refine ⟨{ m with ρ:=fun i=>if i = nx then some ri else m.ρ i },rfl,⟨rfl,rfl,rfl,Nat.le_refl _,rfl,fun _ _=>rfl,fun _ _ h=>h,fun _ _ _=>rfl,fun _ _ _ h=>h,rfl,fun id ri _ hr=>hρ id ri hr⟩,hk,⟨?_,?_,?_,hH.Fold,hH.Pold⟩,?_⟩
 ·intro i x hx
  rw [get_set] at hx
  split at hx
  ·rename_i e
   injection hx with hx
   subst e hx
   exact ⟨ri,by simp,.inl ⟨rfl,rfl⟩⟩
  ·obtain ⟨r,hr,hb⟩:=hH.blk i x hx
   exact ⟨r,hρ _ _ hr,hb.mono hk (fun h=>h) (fun _ h=>h) (fun _=>rfl)⟩
 ·intro i i' x x' r r' hx hx' hr hr' hne hn hn'
  rw [get_set] at hx hx'
  split at hx
  ·rename_i e
   subst e
   simp only [if_true,Option.some.injEq] at hr
   subst hr
   cases hn
  ·split at hx'
   ·rename_i e
    subst e
    simp only [if_true,Option.some.injEq] at hr'
    subst hr'
    cases hn'
   ·rename_i h1 h2
    simp only [Ne.symm h1,Ne.symm h2,if_false] at hr hr'
    exact hH.apart i i' x x' r r' hx hx' hr hr' hne hn hn'
 ·intro i hi
  show (if i = nx then some ri else m.ρ i) = none
  rw [if_neg (by omega)]
  exact hH.fresh i (by omega)
 ·simp only [Rep,true_and]
  exact ⟨ri,by simp,.inl ⟨rfl,rfl,rfl,rfl⟩⟩

/-! ### make -/
def rep {α : Type} (n : Nat) (x : α) : List α:=List.replicate n x
def emake (P : Program) (σ : St) (t : TypeId) (l c : Operand) : Option Eff :=
 match tinfo P t with
 | none=>none
 | some ti=>match ti.k with
  | .slice e=>match tinfo P e,evE σ l,evE σ c with
   | some ei,some p,some q=>match p.2,q.2,ei.zero with
    | .int _ n,.int _ k,some z=>if 1 ≤ ei.sz ∧ z.length = ei.sz ∧ ei.bytes ≤ 4294967296 then
      some ⟨p.1 ∧ q.1 ∧ 0 ≤ n ∧ n ≤ k ∧ k ≤ 1073741824 ∧ k * ei.bytes ≤ 281474976710656,.row σ.nx 0 n.toNat,set σ.hp σ.nx (.row ei.sz (rep n.toNat z) true),σ.nx + 1⟩
     else none
    | _,_,_=>none
   | _,_,_=>none
  | _=>none

theorem i64_wrap {n : Int} (h0 : 0 ≤ n) (h : n ≤ 9223372036854775807) : IntKind.i64.wrap n = n:=by
 simp only [IntKind.wrap,IntKind.bits,IntKind.signed]
 simp
 omega

theorem run_askRoom {P : Program} {w : World} (n : Nat) : (askRoom n).run P w = .ok () w:=by
 unfold askRoom
 split <;> rfl

theorem map_range_mod {α : Type} [Inhabited α] (l : Array α) : ∀ c,(List.range (c * l.size)).map (fun i=>l[i % l.size]!) = (rep c l.toList).flatten
 | 0=>by simp [rep]
 | c + 1=>by
  rw [Nat.succ_mul,List.range_add,List.map_append,map_range_mod l c]
  have : (rep (c + 1) l.toList).flatten = (rep c l.toList).flatten ++ l.toList:=by
   simp only [rep,List.replicate_succ',List.flatten_append,List.flatten_cons,List.flatten_nil,List.append_nil]
  rw [this]
  congr 1
  rw [List.map_map]
  apply List.ext_getElem
  ·simp
  ·intro i h1 h2
   have hi : i < l.size:=by simpa using h2
   simp [Nat.add_mod,Nat.mod_eq_of_lt hi,hi]
theorem length_rep {α : Type} (n : Nat) (z : List α) : (rep n z).flatten.length = n * z.length:=by
 simp [rep]
theorem take_rep {α : Type} (z : List α) {n c : Nat} (h : n ≤ c) : (rep c z).flatten.take (n * z.length) = (rep n z).flatten:=by
 obtain ⟨d,rfl⟩:=Nat.exists_eq_add_of_le h
 have : (rep (n + d) z).flatten = (rep n z).flatten ++ (rep d z).flatten:=by
  simp only [rep,← List.replicate_append_replicate,List.flatten_append]
 rw [this,List.take_append_of_le_length (by rw [length_rep]; exact Nat.le_refl _),List.take_of_length_le (by rw [length_rep]; exact Nat.le_refl _)]
theorem RepL.rep {m : Mem} {kk : Nat} {z : List AV} {zv : List Value} (h : RepL m kk z zv) : ∀ n,RepL m kk (rep n z).flatten (rep n zv).flatten
 | 0=>by simp [Aw.rep,RepL]
 | n + 1=>by
  have:=h.append (RepL.rep h n)
  simpa only [Aw.rep,List.replicate_succ,List.flatten_cons] using this

theorem range0 (f : Nat → Value) : (Array.range 0).map f = #[]:=by simp
theorem flat_len {α : Type} {sz : Nat} : ∀ {es : List (List α)},(∀ e ∈ es,e.length = sz) → es.flatten.length = es.length * sz
 | [],_=>by simp
 | e :: es,h=>by
  simp only [List.flatten_cons,List.length_append,List.length_cons,Nat.succ_mul]
  rw [flat_len (fun x hx=>h x (List.mem_cons_of_mem _ hx)),h e (List.mem_cons_self ..)]
  omega

theorem emake_sound {P : Program} {m : Mem} {a : Act} {σ : St} (hS : Sim m a σ) {o : Oper} {t : TypeId} {l c : Operand} {e : Eff} (ho : o.op = .makeSlice t l c)
  (h : emake P σ t l c = some e) (hob : e.ob) : EffOk P m a o e:=by
 unfold emake at h
 split at h
 ·cases h
 rename_i ti hti
 split at h
 case h_2=>cases h
 rename_i et hk
 split at h
 case h_2=>cases h
 rename_i ei p q hei hp hq
 split at h
 case h_2=>cases h
 rename_i k1 n k2 k z hpv hqv hz
 split at h
 case isFalse=>cases h
 rename_i hc
 obtain ⟨hsz,hzl,hbt⟩:=hc
 simp only [Option.some.injEq] at h
 subst h
 obtain ⟨h1,h2,h3,h4,h5,h6⟩:=hob
 have hr:=evE_sound hS hp h1
 have hr':=evE_sound hS hq h2
 rw [hpv] at hr
 rw [hqv] at hr'
 simp only [Rep] at hr hr'
 obtain ⟨ti',hti',hts,htb,hzz⟩:=run_typeInfo_ti (w:=m.w) hei
 rw [hz] at hzz
 cases hzv : ti'.zero with
 | none=>rw [hzv] at hzz; cases hzz
 | some zv =>
  rw [hzv] at hzz
  simp only [Option.map_some,Option.some.injEq] at hzz
  have hzr : (zeroValue et).run P m.w = .ok zv m.w:=by unfold zeroValue; rw [run_bind hti']; simp only [hzv] <;> rfl
  have hzs : zv.cells.size = ei.sz:=by rw [← hzl,hzz]; simp
  have hw : Alloc m.w { m.w with heap:=m.w.heap.push (.cells ((Array.range (k.toNat * ei.sz)).map fun i=>zv.cells[i % zv.cells.size]!) et) }
   (.cells ((Array.range (k.toNat * ei.sz)).map fun i=>zv.cells[i % zv.cells.size]!) et (0,0)):=⟨rfl,rfl,rfl,rfl⟩
  have hcell : ((Array.range (k.toNat * ei.sz)).map fun i=>zv.cells[i % zv.cells.size]!).toList = (rep k.toNat zv.cells.toList).flatten:=by
   rw [← map_range_mod,Array.toList_map,Array.toList_range,hzs]
  obtain ⟨m',g1,g2,g3,g4,g5⟩:=row_sound hS.h hw (es:=rep n.toNat z) (sz:=ei.sz) (cap:=k.toNat) hsz
   (by intro e he; simp only [rep,List.mem_replicate] at he; rw [he.2,hzl]) (by simp [rep]; omega) (by simp) (by intro j _ hj; omega)
   (by
    rw [hcell,length_rep,hzl,← hzs,← Array.length_toList,take_rep _ (by omega)]
    rw [hzz]
    exact (RepL.const _).rep _)
  have hlen : (rep n.toNat z).length = n.toNat:=by simp [rep]
  rw [hlen] at g5
  refine ⟨_,m',.inl ?_,g2,g3,g4,g5⟩
  simp only [execOp,ho]
  refine run_value ?_
  have e1 : IntKind.i64.wrap n = n:=i64_wrap (by omega) (by omega)
  have e2 : IntKind.i64.wrap k = k:=i64_wrap (by omega) (by omega)
  have e3 : (asInt (a.eval l)).run P m.w = .ok n m.w:=by rw [hr] <;> rfl
  have e4 : (asInt (a.eval c)).run P m.w = .ok k m.w:=by rw [hr'] <;> rfl
  have b1 : (ei.bytes : Int) * k ≤ 281474976710656:=by rw [Int.mul_comm]; exact h6
  simp only [Instr.makeSlice,Sem.run_bind,run_slice_ti hti hk,Result.andThen_ok,e3,e4,hti',e1,e2]
  have b2 : ¬ ((decide (k < 0) || decide ((ti'.bytes : Int) * k > 2 ^ 48) || decide (n < 0) || decide (n > k)) = true):=by
   simp only [htb,Bool.or_eq_true,decide_eq_true_eq,not_or]
   omega
  rw [if_neg b2]
  simp only [Sem.run_bind,run_askRoom,Result.andThen_ok,run_sizeOf_ti hei]
  by_cases hk0 : k.toNat * ei.sz = 0
  ·rw [if_pos hk0]
   have hk0' : k.toNat = 0:=by
    rcases Nat.mul_eq_zero.1 hk0 with h | h <;> omega
   simp only [Sem.run_bind,Sem.run_pure,Result.andThen_ok,run_newRow,g1,hk0',Nat.zero_mul,range0]
  ·rw [if_neg hk0]
   simp only [Sem.run_bind,hzr,Sem.run_pure,Result.andThen_ok,run_newRow,g1]

/-! ### a slice written out -/
def parts (σ : St) : List (Nat × Operand) → Option (Prop × List (Nat × List AV))
 | []=>some (True,[])
 | p :: ps=>match evE σ p.2 with
  | none=>none
  | some x=>match acells x.2,parts σ ps with
   | some l,some q=>some (x.1 ∧ q.1,(p.1,l) :: q.2)
   | _,_=>none
def partIds : List (Nat × List AV) → List Nat
 | []=>[]
 | p :: ps=>rowIds p.2 ++ partIds ps
def closeParts (hp : List (Nat × ABlk)) : List (Nat × List AV) → Option (Prop × List (Nat × List AV))
 | []=>some (True,[])
 | p :: ps=>match clos hp p.2,closeParts hp ps with
  | some l,some q=>some (l.1 ∧ q.1,(p.1,l.2) :: q.2)
  | _,_=>none
def putAll (es : List (List AV)) : List (Nat × List AV) → List (List AV)
 | []=>es
 | p :: ps=>putAll (es.set p.1 p.2) ps
def partsOk (n sz : Nat) : List (Nat × List AV) → Bool
 | []=>true
 | p :: ps=>decide (p.1 < n) && (decide (p.2.length = sz) && partsOk n sz ps)

def ebuildSl (P : Program) (σ : St) (t : TypeId) (n : Nat) (ps : List (Nat × Operand)) : Option Eff :=
 match tinfo P t with
 | none=>none
 | some ti=>match ti.k with
  | .slice e=>match tinfo P e,parts σ ps with
   | some ei,some q=>match ei.zero,closeParts (frzs σ.hp (partIds q.2)) q.2 with
    | some z,some r=>if 1 ≤ ei.sz ∧ z.length = ei.sz ∧ n * ei.sz ≤ 65536 ∧ partsOk n ei.sz r.2 = true then
      some ⟨q.1 ∧ r.1,.row σ.nx 0 n,set (frzs σ.hp (partIds q.2)) σ.nx (.row ei.sz (putAll (rep n z) r.2) true),σ.nx + 1⟩
     else none
    | _,_=>none
   | _,_=>none
  | _=>none

inductive PartsAre (m : Mem) (kk : Nat) : List (Nat × List AV) → List (Nat × Value) → Prop
 | nil : PartsAre m kk [] []
 | cons {i : Nat} {l : List AV} {v : Value} {ps : List (Nat × List AV)} {vs : List (Nat × Value)} (h : RepL m kk l v.cells.toList) (hr : PartsAre m kk ps vs) :
   PartsAre m kk ((i,l) :: ps) ((i,v) :: vs)

theorem parts_sound {m : Mem} {a : Act} {σ : St} (hS : Sim m a σ) : ∀ {ps : List (Nat × Operand)} {ob : Prop} {q : List (Nat × List AV)},parts σ ps = some (ob,q) → ob →
  PartsAre m 0 q (ps.map fun p=>(p.1,a.eval p.2))
 | [],ob,q,h,_=>by
  simp only [parts,Option.some.injEq,Prod.mk.injEq] at h
  obtain ⟨_,rfl⟩:=h
  exact .nil
 | (i,x) :: ps,ob,q,h,hob=>by
  simp only [parts] at h
  split at h
  case h_1=>cases h
  rename_i y hy
  split at h
  case h_2=>cases h
  rename_i l q' hl hq
  simp only [Option.some.injEq,Prod.mk.injEq] at h
  obtain ⟨rfl,rfl⟩:=h
  exact .cons (acells_sound (evE_sound hS hy hob.1) hl) (parts_sound hS hq hob.2)
theorem PartsAre.mono {m m' : Mem} (hk : m.keeps m') {kk : Nat} {ps : List (Nat × List AV)} {vs : List (Nat × Value)} (h : PartsAre m kk ps vs) : PartsAre m' kk ps vs:=by
 induction h with
 | nil=>exact .nil
 | cons h _ ih=>exact .cons (RepL.mono hk kk _ _ h) ih
theorem closeParts_sound {m : Mem} {hp : List (Nat × ABlk)} {nx : Nat} (hH : SimH m hp nx) {ps : List (Nat × List AV)} {vs : List (Nat × Value)} (h : PartsAre m 0 ps vs) :
  ∀ {ob : Prop} {r : List (Nat × List AV)},closeParts hp ps = some (ob,r) → ob → PartsAre m 2 r vs:=by
 induction h with
 | nil =>
  intro ob r h _
  simp only [closeParts,Option.some.injEq,Prod.mk.injEq] at h
  obtain ⟨_,rfl⟩:=h
  exact .nil
 | cons h _ ih =>
  intro ob r h' hob
  simp only [closeParts] at h'
  split at h'
  case h_2=>cases h'
  rename_i l q hl hq
  simp only [Option.some.injEq,Prod.mk.injEq] at h'
  obtain ⟨rfl,rfl⟩:=h'
  exact .cons (clos_sound hH hl hob.1 h).1 (ih hq hob.2)

theorem fold_splice : ∀ (vs : List Value) (off k : Nat) (cs : Array Value),off + k + vs.length ≤ cs.size →
  ((vs.zipIdx k).foldl (fun cs (p : Value × Nat)=>cs.setIfInBounds (off + p.2) p.1) cs).toList = splice cs.toList (off + k) vs
 | [],off,k,cs,_=>by simp [splice_zero]
 | v :: vs,off,k,cs,h=>by
  simp only [List.length_cons] at h
  simp only [List.zipIdx_cons,List.foldl_cons]
  rw [fold_splice vs off (k + 1) _ (by simp; omega),Array.toList_setIfInBounds,show off + (k + 1) = off + k + 1 from by omega,splice_cons _ _ _ _ (by simp; omega)]

theorem flatten_set {α : Type} {sz : Nat} : ∀ (es : List (List α)) (i : Nat) (l : List α),(∀ e ∈ es,e.length = sz) → l.length = sz → i < es.length →
  (es.set i l).flatten = splice es.flatten (i * sz) l
 | e :: es,0,l,h,hl,_=>by
  have:=h e (List.mem_cons_self ..)
  simp only [List.set_cons_zero,List.flatten_cons,splice,Nat.zero_mul,List.take_zero,List.nil_append,Nat.zero_add,hl]
  rw [← this,List.drop_left]
 | e :: es,i + 1,l,h,hl,hi=>by
  have he:=h e (List.mem_cons_self ..)
  simp only [List.set_cons_succ,List.flatten_cons]
  rw [flatten_set es i l (fun x hx=>h x (List.mem_cons_of_mem _ hx)) hl (by simpa using hi)]
  unfold splice
  rw [show (i + 1) * sz = e.length + i * sz from by rw [Nat.succ_mul,he]; omega,List.take_length_add_append,show e.length + i * sz + l.length = e.length + (i * sz + l.length) from by omega,
   List.drop_length_add_append]
  simp [List.append_assoc]
theorem set_lengths {α : Type} {sz : Nat} {es : List (List α)} {i : Nat} {l : List α} (h : ∀ e ∈ es,e.length = sz) (hl : l.length = sz) : ∀ e ∈ es.set i l,e.length = sz:=by
 intro e he
 rcases List.mem_or_eq_of_mem_set he with h' | h'
 ·exact h e h'
 ·rw [h',hl]

theorem fill_sound {m : Mem} {n sz : Nat} {ps : List (Nat × List AV)} {vs : List (Nat × Value)} (h : PartsAre m 2 ps vs) :
  ∀ {es : List (List AV)} {cs : Array Value},partsOk n sz ps = true → (∀ e ∈ es,e.length = sz) → es.length = n → RepL m 2 es.flatten cs.toList →
   ∃ cs' : Array Value,Instr.fill (fun i=>some (i * sz,sz)) cs vs = some cs' ∧ RepL m 2 (putAll es ps).flatten cs'.toList ∧ (∀ e ∈ putAll es ps,e.length = sz) ∧ (putAll es ps).length = n:=by
 induction h with
 | nil=>intro es cs _ h1 h2 h3; exact ⟨cs,rfl,h3,h1,h2⟩
 | @cons i l v ps vs h _ ih =>
  intro es cs hok h1 h2 h3
  simp only [partsOk,Bool.and_eq_true,decide_eq_true_eq] at hok
  obtain ⟨hi,hl,hok⟩:=hok
  have hv : v.cells.size = sz:=by rw [← hl,← h.length]; simp
  have hfl : cs.size = n * sz:=by
   have:=h3.length
   rw [Array.length_toList] at this
   rw [this,← h2,flat_len h1]
  have hle : i * sz + sz ≤ cs.size:=by
   rw [hfl]
   have:=Nat.mul_le_mul_right sz (show i + 1 ≤ n from hi)
   rw [Nat.succ_mul] at this
   omega
  have hsp:=fold_splice v.cells.toList (i * sz) 0 cs (by simp [hv]; exact hle)
  obtain ⟨cs',g1,g2,g3,g4⟩:=ih (es:=es.set i l) (cs:=(v.cells.zipIdx.foldl (fun cs (p : Value × Nat)=>cs.setIfInBounds (i * sz + p.2) p.1) cs)) hok (set_lengths h1 hl) (by simpa using h2) (by
   rw [flatten_set es i l h1 hl (by omega),← Array.foldl_toList,Array.toList_zipIdx,hsp,Nat.add_zero]
   exact h3.splice h (i * sz))
  refine ⟨cs',?_,g2,g3,g4⟩
  simp only [Instr.fill]
  rw [if_neg (by simp [hv]; omega)]
  exact g1

theorem ebuildSl_sound {P : Program} {m : Mem} {a : Act} {σ : St} (hS : Sim m a σ) {o : Oper} {t : TypeId} {n : Nat} {ps : Array (Nat × Operand)} {e : Eff} (ho : o.op = .buildSlice t n ps)
  (h : ebuildSl P σ t n ps.toList = some e) (hob : e.ob) : EffOk P m a o e:=by
 unfold ebuildSl at h
 split at h
 ·cases h
 rename_i ti hti
 split at h
 case h_2=>cases h
 rename_i et hk
 split at h
 case h_2=>cases h
 rename_i ei q hei hq
 split at h
 case h_2=>cases h
 rename_i z r hz hr
 split at h
 case isFalse=>cases h
 rename_i hc
 obtain ⟨hsz,hzl,hsm,hok⟩:=hc
 simp only [Option.some.injEq] at h
 subst h
 obtain ⟨h1,h2⟩:=hob
 obtain ⟨m1,w1,_,le1,k1,H1⟩:=frzs_sound (partIds q.2) hS.h
 have hP0:=(parts_sound hS hq h1).mono k1
 have hP2:=closeParts_sound H1 hP0 hr h2
 obtain ⟨ti',hti',hts,htb,hzz⟩:=run_typeInfo_ti (w:=m.w) hei
 rw [hz] at hzz
 cases hzv : ti'.zero with
 | none=>rw [hzv] at hzz; cases hzz
 | some zv =>
  rw [hzv] at hzz
  simp only [Option.map_some,Option.some.injEq] at hzz
  have hzr : (zeroValue et).run P m.w = .ok zv m.w:=by unfold zeroValue; rw [run_bind hti']; simp only [hzv] <;> rfl
  have hzs : zv.cells.size = ei.sz:=by rw [← hzl,hzz]; simp
  have hcell : ((Array.range (n * ei.sz)).map fun i=>zv.cells[i % zv.cells.size]!).toList = (rep n zv.cells.toList).flatten:=by
   rw [← map_range_mod,Array.toList_map,Array.toList_range,hzs]
  obtain ⟨cs',f1,f2,f3,f4⟩:=fill_sound (m:=m1) (n:=n) (sz:=ei.sz) hP2 (es:=rep n z) (cs:=(Array.range (n * ei.sz)).map fun i=>zv.cells[i % zv.cells.size]!) hok
   (by intro e he; simp only [rep,List.mem_replicate] at he; rw [he.2,hzl]) (by simp [rep]) (by rw [hcell,hzz]; exact (RepL.const _).rep _)
  have hw : Alloc m1.w { m1.w with heap:=m1.w.heap.push (.cells cs' et) } (.cells cs' et (0,0)):=⟨rfl,rfl,rfl,rfl⟩
  have hcs : cs'.size = n * ei.sz:=by
   have:=f2.length
   rw [Array.length_toList] at this
   rw [this,flat_len f3,f4]
  obtain ⟨m',g1,g2,g3,g4,g5⟩:=row_sound H1 hw hsz f3 (cap:=n) (by omega) (by omega) (by intro j _ hj; omega)
   (by rw [List.take_of_length_le (by rw [f2.length]; exact Nat.le_refl _)]; exact f2)
  rw [f4] at g5
  refine ⟨_,m',.inl ?_,le1.trans g2,k1.trans g3,g4,g5⟩
  simp only [execOp,ho]
  refine run_value ?_
  have hmap : ((ps.map fun (i,x)=>(i,a.eval x)).toList) = ps.toList.map fun p=>(p.1,a.eval p.2):=by simp
  have hlim : ¬ (n * ei.sz > 2 ^ 24):=by omega
  simp only [Instr.buildSlice,Sem.run_bind,run_slice_ti hti hk,Result.andThen_ok,run_sizeOf_ti hei,if_neg hlim]
  by_cases hn0 : n * ei.sz = 0
  ·have hn0' : n = 0:=by
    rcases Nat.mul_eq_zero.1 hn0 with h | h <;> omega
   subst hn0'
   simp only [Nat.zero_mul,if_true,range0]
   rw [hmap]
   simp only [Nat.zero_mul,range0] at f1
   simp only [f1,Sem.run_bind,run_newRow,Result.andThen_ok,Sem.run_pure,g1,w1]
  ·simp only [if_neg hn0,Sem.run_bind,hzr,Result.andThen_ok,Sem.run_pure]
   rw [hmap,f1]
   simp only [Sem.run_bind,run_newRow,Result.andThen_ok,Sem.run_pure,g1,w1]

end Aw

namespace Aw
open Go

theorem RepX.values {m : Mem} {kk b : Nat} : ∀ {cs : List AV} {o : Nat},RepX m kk cs b o → ∃ vs : List Value,RepL m kk cs vs ∧ ∀ i (hi : i < vs.length),m.w.cell? ⟨b,o + i,none⟩ = some vs[i]
 | [],_,_=>⟨[],by simp [RepL],fun i hi=>by simp at hi⟩
 | x :: cs,o,h=>by
  simp only [RepX] at h
  obtain ⟨⟨v,hv,hx⟩,hr⟩:=h
  obtain ⟨vs,hl,hc⟩:=RepX.values hr
  refine ⟨v :: vs,by simp only [RepL]; exact ⟨v,vs,rfl,hx,hl⟩,fun i hi=>?_⟩
  cases i with
  | zero=>simpa using hv
  | succ i =>
   have:=hc i (by simpa using hi)
   rw [show o + 1 + i = o + (i + 1) from by omega] at this
   simpa using this
theorem run_loadCellsFrom_of {P : Program} {w : World} {b o : Nat} : ∀ (vs : List Value) (k : Nat) (acc : Array Value),(∀ i (hi : i < vs.length),w.cell? ⟨b,o + k + i,none⟩ = some vs[i]) →
  (loadCellsFrom ⟨b,o,none⟩ k vs.length acc).run P w = .ok (acc ++ vs.toArray) w
 | [],k,acc,_=>by simp [loadCellsFrom]
 | v :: vs,k,acc,h=>by
  have h0:=h 0 (by simp)
  simp only [Nat.add_zero,List.getElem_cons_zero] at h0
  simp only [List.length_cons,loadCellsFrom,Sem.run_bind,run_load,addr_add,h0,Result.andThen_ok]
  rw [run_loadCellsFrom_of vs (k + 1) (acc.push v) (fun i hi=>by
   have:=h (i + 1) (by simpa using hi)
   rw [show o + k + (i + 1) = o + (k + 1) + i from by omega] at this
   simpa using this)]
  simp
theorem run_loadCells_of {P : Program} {w : World} {b o : Nat} {vs : List Value} (h : ∀ i (hi : i < vs.length),w.cell? ⟨b,o + i,none⟩ = some vs[i]) :
  (loadCells ⟨b,o,none⟩ vs.length).run P w = .ok vs.toArray w:=by
 have:=run_loadCellsFrom_of (P:=P) (w:=w) (b:=b) (o:=o) vs 0 #[] (by simpa using h)
 simpa [loadCells] using this

def bytesAV (s : List UInt8) : List (List AV):=s.map fun b=>[.int .u8 (b.toNat : Int)]
def okRow (sz : Nat) (e : List AV) : Bool:=decide (e.length = sz) && e.all okCell
theorem okRow_len {sz : Nat} {e : List AV} (h : okRow sz e = true) : e.length = sz:=by
 simp only [okRow,Bool.and_eq_true,decide_eq_true_eq] at h; exact h.1
theorem okRow_ok {sz : Nat} {e : List AV} (h : okRow sz e = true) : ∀ x ∈ e,okCell x = true:=by
 simp only [okRow,Bool.and_eq_true,List.all_eq_true] at h; exact h.2
def asrc (hp : List (Nat × ABlk)) (sz : Nat) (x : AV) : Option (Prop × List (List AV)) :=
 match x with
 | .sl es=>some (∀ e ∈ es,okRow sz e = true,es)
 | .row id off len=>match get hp id with
  | some (.row sz' es _)=>if sz' = sz then some (off + len ≤ es.length ∧ ∀ e ∈ es,okRow sz e = true,(es.drop off).take len) else none
  | some (.mrow sz' es)=>if sz' = sz then some (off + len ≤ es.length ∧ ∀ e ∈ es,okRow sz e = true,(es.drop off).take len) else none
  | _=>none
 | .str s=>if sz = 1 then some (True,bytesAV s) else none
 | .raw v=>match v with
  | .slice none 0 _=>some (True,[])
  | _=>none
 | _=>none

theorem RepL.bytes {m : Mem} {kk : Nat} : ∀ s : List UInt8,RepL m kk (bytesAV s).flatten (s.map fun b=>.int .u8 (b.toNat : Int))
 | []=>by simp [bytesAV,RepL]
 | b :: s=>by
  have:=RepL.bytes (m:=m) (kk:=kk) s
  simp only [bytesAV,List.map_cons,List.flatten_cons,List.singleton_append,RepL] at this ⊢
  exact ⟨_,_,rfl,by simp only [Rep],this⟩
theorem RepY.drop {m : Mem} {b sz : Nat} : ∀ {es : List (List AV)} {o : Nat} (k : Nat),RepY m es b o sz → RepY m (es.drop k) b (o + k * sz) sz
 | es,_,0,h=>by simpa using h
 | [],_,k + 1,_=>by simp only [List.drop_nil,RepY]
 | x :: es,o,k + 1,h=>by
  simp only [RepY] at h
  have:=RepY.drop k h.2.2
  rw [show o + sz + k * sz = o + (k + 1) * sz from by rw [Nat.succ_mul]; omega] at this
  simpa using this
theorem RepY.take {m : Mem} {b sz : Nat} : ∀ {es : List (List AV)} {o : Nat} (k : Nat),RepY m es b o sz → RepY m (es.take k) b o sz
 | es,_,0,h=>by simp only [List.take_zero,RepY]
 | [],_,k + 1,_=>by simp only [List.take_nil,RepY]
 | x :: es,o,k + 1,h=>by
  simp only [RepY] at h
  simp only [List.take_succ_cons,RepY]
  exact ⟨h.1,h.2.1,RepY.take k h.2.2⟩

theorem firstCells_of {P : Program} {m : Mem} {es : List (List AV)} {b o c sz : Nat} (hY : RepY m es b o sz) :
  ∃ vs : List Value,RepL m 2 es.flatten vs ∧ ∀ w : World,w.heap = m.w.heap → ∀ n,(Builtin.firstCells sz es.length (.slice (some ⟨b,o,none⟩) n c)).run P w = .ok vs.toArray w:=by
 obtain ⟨hes,hX⟩:=RepY.flat.1 hY
 obtain ⟨vs,hl,hc⟩:=hX.values
 refine ⟨vs,hl,fun w hw n=>?_⟩
 have hlen : es.length * sz = vs.length:=by rw [hl.length,flat_len hes]
 simp only [Builtin.firstCells,hlen]
 exact run_loadCells_of fun i hi=>by
  rw [← hc i hi]
  simp only [World.cell?,hw]
theorem lenOf_slice {P : Program} {a : Option Addr} {n c : Nat} {w : World} : (Builtin.lenOf (.slice a n c)).run P w = .ok n w:=rfl
theorem firstCells_zero {P : Program} {a : Option Addr} {n c sz : Nat} {w : World} : (Builtin.firstCells sz 0 (.slice a n c)).run P w = .ok #[] w:=by
 cases a with
 | none=>rfl
 | some a=>simp [Builtin.firstCells,loadCells,loadCellsFrom]

theorem asrc_sound {P : Program} {m : Mem} {hp : List (Nat × ABlk)} {nx : Nat} (hH : SimH m hp nx) {sz : Nat} {x : AV} {v : Value} {ob : Prop} {es : List (List AV)}
  (h : asrc hp sz x = some (ob,es)) (hob : ob) (hv : Rep m 0 x v) :
  (∀ e ∈ es,e.length = sz) ∧ (∀ w,(Builtin.lenOf v).run P w = .ok es.length w) ∧
   ∃ vs : List Value,RepL m 2 es.flatten vs ∧ (∀ u ∈ vs,isOne u = true) ∧ ∀ w : World,w.heap = m.w.heap → (Builtin.firstCells sz es.length v).run P w = .ok vs.toArray w:=by
 have hones : ∀ (es : List (List AV)) (vs : List Value),(∀ e ∈ es,okRow sz e = true) → RepL m 2 es.flatten vs → ∀ u ∈ vs,isOne u = true:=by
  intro es vs hes hl
  refine hl.isOne fun x hx=>?_
  obtain ⟨e,he,hxe⟩:=List.mem_flatten.1 hx
  exact okRow_ok (hes e he) x hxe
 unfold asrc at h
 split at h
 case h_5=>cases h
 ·rename_i es'
  simp only [Option.some.injEq,Prod.mk.injEq] at h
  obtain ⟨rfl,rfl⟩:=h
  simp only [Rep] at hv
  rcases hv with ⟨rfl,a,c,rfl⟩ | ⟨b,o,c,sz',rfl,_,hE⟩
  ·exact ⟨(fun e he=>by cases he),fun w=>lenOf_slice,[],by simp [RepL],(fun u hu=>by cases hu),(fun w _=>by simpa using firstCells_zero)⟩
  ·by_cases hnil : es' = []
   ·subst hnil
    exact ⟨(fun e he=>by cases he),fun w=>lenOf_slice,[],by simp [RepL],(fun u hu=>by cases hu),(fun w _=>by simpa using firstCells_zero)⟩
   ·have hpos : 0 < es'.length:=List.length_pos_iff.2 hnil
    have hsz : sz' = sz:=(hE.at 0 hpos).1.symm.trans (okRow_len (hob _ (List.getElem_mem hpos)))
    subst hsz
    obtain ⟨vs,hl,hf⟩:=firstCells_of (P:=P) (c:=c) hE.y
    exact ⟨fun e he=>okRow_len (hob e he),fun w=>lenOf_slice,vs,hl,hones _ _ hob hl,fun w hw=>hf w hw _⟩
 ·rename_i id off len
  split at h
  case h_3=>cases h
  ·rename_i sz' es' own hg
   split at h
   case isFalse=>cases h
   simp only [Option.some.injEq,Prod.mk.injEq] at h
   obtain ⟨rfl,rfl⟩:=h
   obtain ⟨hle,hall⟩:=hob
   have hall' : ∀ e ∈ (es'.drop off).take len,okRow sz e = true:=fun e he=>hall e (List.mem_of_mem_drop (List.mem_of_mem_take he))
   simp only [Rep] at hv
   obtain ⟨_,ri,hρ,hrow⟩:=hv
   obtain ⟨ri',hρ',hb⟩:=hH.blk id _ hg
   rw [hρ] at hρ'
   injection hρ' with hρ'
   subst hρ'
   have hlen : ((es'.drop off).take len).length = len:=by simp; omega
   rcases hrow with ⟨hn,rfl,rfl,rfl⟩ | ⟨hn,hcap,hlt,rfl⟩ | ⟨hn,rfl,rfl,a,rfl⟩
   ·exact ⟨(fun e he=>by simp at he),(fun w=>by simpa using lenOf_slice),[],by simp [RepL],(fun u hu=>by cases hu),(fun w _=>by simpa using firstCells_zero)⟩
   ·rcases hb with ⟨hn',_⟩ | ⟨_,_,_,_,_,hif⟩
    ·rw [hn] at hn'; cases hn'
    ·by_cases hnil : (es'.drop off).take len = []
     ·have hl0 : len = 0:=by rw [← hlen,hnil] <;> rfl
      subst hl0
      exact ⟨(fun e he=>by simp at he),(fun w=>by simpa using lenOf_slice),[],by simp [RepL],(fun u hu=>by cases hu),(fun w _=>by simpa using firstCells_zero)⟩
     ·have hY : RepY m es' ri.b ri.o ri.sz:=by
       split at hif
       ·exact hif.1
       ·exact hif.1.y
      have hpos : 0 < es'.length:=by
       rcases Nat.eq_zero_or_pos es'.length with h | h
       ·exfalso; apply hnil; rw [List.length_eq_zero_iff.1 h]; simp
       ·exact h
      have hsz : ri.sz = sz:=(hY.at 0 hpos).1.symm.trans (okRow_len (hall _ (List.getElem_mem hpos)))
      obtain ⟨vs,hl,hf⟩:=firstCells_of (P:=P) (c:=ri.cap - off) ((hY.drop off).take len)
      rw [hlen] at hf ⊢
      rw [← hsz]
      exact ⟨fun e he=>by rw [hsz]; exact okRow_len (hall' e he),fun w=>lenOf_slice,vs,hl,hones _ _ hall' hl,fun w hw=>hf w hw _⟩
   ·exact ⟨(fun e he=>by simp at he),(fun w=>by simpa using lenOf_slice),[],by simp [RepL],(fun u hu=>by cases hu),(fun w _=>by simpa using firstCells_zero)⟩
  ·rename_i sz' es' hg
   split at h
   case isFalse=>cases h
   simp only [Option.some.injEq,Prod.mk.injEq] at h
   obtain ⟨rfl,rfl⟩:=h
   obtain ⟨hle,hall⟩:=hob
   have hall' : ∀ e ∈ (es'.drop off).take len,okRow sz e = true:=fun e he=>hall e (List.mem_of_mem_drop (List.mem_of_mem_take he))
   simp only [Rep] at hv
   obtain ⟨_,ri,hρ,hrow⟩:=hv
   obtain ⟨ri',hρ',hb⟩:=hH.blk id _ hg
   rw [hρ] at hρ'
   injection hρ' with hρ'
   subst hρ'
   have hlen : ((es'.drop off).take len).length = len:=by simp; omega
   rcases hrow with ⟨hn,rfl,rfl,rfl⟩ | ⟨hn,hcap,hlt,rfl⟩ | ⟨hn,rfl,rfl,a,rfl⟩
   ·exact ⟨(fun e he=>by simp at he),(fun w=>by simpa using lenOf_slice),[],by simp [RepL],(fun u hu=>by cases hu),(fun w _=>by simpa using firstCells_zero)⟩
   ·rcases hb.2 with ⟨hn',_⟩ | ⟨_,_,_,_,_,hif⟩
    ·rw [hn] at hn'; cases hn'
    ·by_cases hnil : (es'.drop off).take len = []
     ·have hl0 : len = 0:=by rw [← hlen,hnil] <;> rfl
      subst hl0
      exact ⟨(fun e he=>by simp at he),(fun w=>by simpa using lenOf_slice),[],by simp [RepL],(fun u hu=>by cases hu),(fun w _=>by simpa using firstCells_zero)⟩
     ·have hY : RepY m es' ri.b ri.o ri.sz:=by
       split at hif
       ·exact hif.1
       ·exact hif.1.y
      have hpos : 0 < es'.length:=by
       rcases Nat.eq_zero_or_pos es'.length with h | h
       ·exfalso; apply hnil; rw [List.length_eq_zero_iff.1 h]; simp
       ·exact h
      have hsz : ri.sz = sz:=(hY.at 0 hpos).1.symm.trans (okRow_len (hall _ (List.getElem_mem hpos)))
      obtain ⟨vs,hl,hf⟩:=firstCells_of (P:=P) (c:=ri.cap - off) ((hY.drop off).take len)
      rw [hlen] at hf ⊢
      rw [← hsz]
      exact ⟨fun e he=>by rw [hsz]; exact okRow_len (hall' e he),fun w=>lenOf_slice,vs,hl,hones _ _ hall' hl,fun w hw=>hf w hw _⟩
   ·exact ⟨(fun e he=>by simp at he),(fun w=>by simpa using lenOf_slice),[],by simp [RepL],(fun u hu=>by cases hu),(fun w _=>by simpa using firstCells_zero)⟩
 ·rename_i s
  split at h
  case isFalse=>cases h
  rename_i hsz
  subst hsz
  simp only [Option.some.injEq,Prod.mk.injEq] at h
  obtain ⟨rfl,rfl⟩:=h
  simp only [Rep] at hv
  subst hv
  have hall : ∀ e ∈ bytesAV s,okRow 1 e = true:=by
   intro e he
   simp only [bytesAV,List.mem_map] at he
   obtain ⟨b,_,rfl⟩:=he
   rfl
  have hlen : (bytesAV s).length = s.length:=by simp [bytesAV]
  have hsize : (⟨s.toArray⟩ : ByteArray).size = s.length:=by show s.toArray.size = _; simp
  refine ⟨fun e he=>okRow_len (hall e he),fun w=>by rw [hlen]; simp only [Builtin.lenOf,Sem.run_pure,hsize],s.map fun b=>.int .u8 (b.toNat : Int),RepL.bytes s,hones _ _ hall (RepL.bytes s),fun w _=>?_⟩
  rw [hlen]
  simp only [Builtin.firstCells,Sem.run_pure,Result.ok.injEq,and_true]
  rw [← Array.toList_inj,Array.toList_map,Lib.extract_data]
  simp
 ·split at h
  case h_2=>cases h
  simp only [Option.some.injEq,Prod.mk.injEq] at h
  obtain ⟨rfl,rfl⟩:=h
  simp only [Rep] at hv
  subst hv
  exact ⟨fun e he=>(by cases he),fun w=>lenOf_slice,[],by simp [RepL],fun u hu=>(by cases hu),(fun w _=>by simpa using firstCells_zero)⟩

end Aw

namespace Aw
open Go

def isSrcK (k : TK) : Bool :=
 match k with
 | .slice _=>true
 | .str=>true
 | _=>false
def room (n bytes : Nat) : Prop:=n * bytes ≤ 70368744177664
def eappend (P : Program) (σ : St) (sT xT : TypeId) (s x : Operand) : Option Eff :=
 match tinfo P sT,tinfo P xT,evE σ s,evE σ x with
 | some ti,some xi,some p,some q=>match ti.k with
  | .slice e=>match tinfo P e with
   | none=>none
   | some ei=>if isSrcK xi.k = true ∧ 1 ≤ ei.sz ∧ 1 ≤ ei.bytes ∧ ei.bytes ≤ 4294967296 ∧ ei.zero.map List.length = some ei.sz then
     match asrc σ.hp ei.sz q.2 with
     | none=>none
     | some r=>match p.2 with
      | .raw v=>match v with
       | .slice none 0 0=>some ⟨p.1 ∧ q.1 ∧ r.1 ∧ room r.2.length ei.bytes,.row σ.nx 0 r.2.length,set σ.hp σ.nx (.row ei.sz r.2 true),σ.nx + 1⟩
       | _=>none
      | .row id off len=>match get σ.hp id with
       | some (.row sz es own)=>if sz = ei.sz then some ⟨p.1 ∧ q.1 ∧ r.1 ∧ room (len + r.2.length) ei.bytes ∧ off + len ≤ es.length ∧ (own = false → off + len = es.length),
         .row σ.nx 0 (len + r.2.length),set (del σ.hp id) σ.nx (.row ei.sz ((es.drop off).take len ++ r.2) own),σ.nx + 1⟩
        else none
       | _=>none
      | _=>none
    else none
  | _=>none
 | _,_,_,_=>none

theorem growBy_le (n : Nat) : ∀ r c,c < n → Builtin.growBy n r c ≤ 2 * n + 192
 | 0,c,h=>by simp only [Builtin.growBy]; omega
 | r + 1,c,h=>by
  simp only [Builtin.growBy]
  split
  ·omega
  ·by_cases hlt : c + (c + 768) / 4 < n
   ·exact growBy_le n r _ hlt
   ·cases r with
    | zero=>simp only [Builtin.growBy]; omega
    | succ r=>simp only [Builtin.growBy]; rw [if_pos (by omega)]; omega
theorem nextslicecap_le {n c : Nat} (h : c < n) : Builtin.nextslicecap n c ≤ 2 * n + 192:=by
 unfold Builtin.nextslicecap
 split
 ·omega
 ·split
  ·omega
  ·exact growBy_le n 4 c h

section
variable {P : Program} {w : World} {sT xT ty et : TypeId} {ti xi ei : TI} {sv xv : Value} {base : Option Addr} {sLen sCap n : Nat}

theorem run_append_in (hti : tinfo P sT = some ti) (hk : ti.k = .slice et) (hxi : tinfo P xT = some xi) (hxk : isSrcK xi.k = true) (hei : tinfo P et = some ei)
  (hn : ∀ w,(Builtin.lenOf xv).run P w = .ok n w) (h : sLen + n ≤ sCap) {a : Addr} {new : Array Value} (hf : (Builtin.firstCells ei.sz n xv).run P w = .ok new w)
  {w' : World} (hst : (storeCells (a.add (sLen * ei.sz)) new.toList).run P w = .ok () w') :
  (Builtin.append_ #[sT,xT] ty #[.slice (some a) sLen sCap,xv]).run P w = .ok (.slice (some a) (sLen + n) sCap) w':=by
 have e1 : (#[sT,xT] : Array TypeId)[0]? = some sT:=rfl
 have e2 : (#[sT,xT] : Array TypeId)[1]? = some xT:=rfl
 have e3 : (#[.slice (some a) sLen sCap,xv] : Array Value)[0]? = some (.slice (some a) sLen sCap):=rfl
 have e4 : (#[.slice (some a) sLen sCap,xv] : Array Value)[1]? = some xv:=rfl
 obtain ⟨d,hd,hdk⟩:=run_underlying_ti (w:=w) hxi
 rw [hdk] at hxk
 cases d <;> first
  | (exact Bool.noConfusion (show false = true from hxk))
  | simp only [Builtin.append_,e1,e2,e3,e4,Sem.run_bind,run_slice_ti hti hk,Result.andThen_ok,run_sizeOf_ti hei,hd,Sem.run_pure,Bool.false_eq_true,if_false,hn,if_pos h,Bool.not_false,if_true,hf,hst]
theorem run_append_nil (hti : tinfo P sT = some ti) (hk : ti.k = .slice et) (hxi : tinfo P xT = some xi) (hxk : isSrcK xi.k = true) (hei : tinfo P et = some ei)
  (hn : ∀ w,(Builtin.lenOf xv).run P w = .ok 0 w) {new : Array Value} (hf : (Builtin.firstCells ei.sz 0 xv).run P w = .ok new w) :
  (Builtin.append_ #[sT,xT] ty #[.slice none 0 0,xv]).run P w = .ok (.slice none 0 0) w:=by
 have e1 : (#[sT,xT] : Array TypeId)[0]? = some sT:=rfl
 have e2 : (#[sT,xT] : Array TypeId)[1]? = some xT:=rfl
 have e3 : (#[.slice none 0 0,xv] : Array Value)[0]? = some (.slice none 0 0):=rfl
 have e4 : (#[.slice none 0 0,xv] : Array Value)[1]? = some xv:=rfl
 obtain ⟨d,hd,hdk⟩:=run_underlying_ti (w:=w) hxi
 rw [hdk] at hxk
 cases d <;> first
  | (exact Bool.noConfusion (show false = true from hxk))
  | simp only [Builtin.append_,e1,e2,e3,e4,Sem.run_bind,run_slice_ti hti hk,Result.andThen_ok,run_sizeOf_ti hei,hd,Sem.run_pure,Bool.false_eq_true,if_false,hn,Nat.add_zero,Nat.le_refl,Bool.not_false,if_true,hf]
theorem run_append_grow (hti : tinfo P sT = some ti) (hk : ti.k = .slice et) (hxi : tinfo P xT = some xi) (hxk : isSrcK xi.k = true) (hei : tinfo P et = some ei)
  (hn : ∀ w,(Builtin.lenOf xv).run P w = .ok n w) (h : ¬ sLen + n ≤ sCap) (hb : 1 ≤ ei.bytes) (hb' : ei.bytes ≤ 4294967296) (hr : room (sLen + n) ei.bytes)
  {z : Value} (hzz : ∀ w',(zeroValue et).run P w' = .ok z w') {old new : Array Value}
  (ho : ∀ w',w'.heap = w.heap → (Builtin.firstCells ei.sz sLen (.slice base sLen sCap)).run P w' = .ok old w')
  (hf : ∀ w',w'.heap = w.heap → (Builtin.firstCells ei.sz n xv).run P w' = .ok new w') :
  ∃ (w' : World) (cap : Nat),sLen + n ≤ cap ∧ Alloc w w' (.cells (old ++ new ++ Builtin.zeroCells z.cells (cap - (sLen + n))) et (0,0)) ∧
   (Builtin.append_ #[sT,xT] ty #[.slice base sLen sCap,xv]).run P w = .ok (.slice (some ⟨w.heap.size,0,none⟩) (sLen + n) cap) w':=by
 have e1 : (#[sT,xT] : Array TypeId)[0]? = some sT:=rfl
 have e2 : (#[sT,xT] : Array TypeId)[1]? = some xT:=rfl
 have e3 : (#[.slice base sLen sCap,xv] : Array Value)[0]? = some (.slice base sLen sCap):=rfl
 have e4 : (#[.slice base sLen sCap,xv] : Array Value)[1]? = some xv:=rfl
 obtain ⟨d,hd,hdk⟩:=run_underlying_ti (w:=w) hxi
 rw [hdk] at hxk
 have hti' : ∀ w,∃ t',(typeInfo et).run P w = .ok t' w ∧ t'.bytes = ei.bytes:=by
  intro w
  obtain ⟨t',h1,_,h2,_⟩:=run_typeInfo_ti (w:=w) hei
  exact ⟨t',h1,h2⟩
 obtain ⟨t',ht',htb⟩:=hti' w
 have hall : ∀ w',(typeInfo et).run P w' = .ok t' w':=by
  intro w'
  obtain ⟨t'',h1,h2⟩:=hti' w'
  unfold typeInfo at *
  simp only [program,bind,Sem.bind,Sem.run] at *
  split at ht'
  ·rename_i x hx
   simp only [Sem.run_pure,Result.ok.injEq,and_true] at ht'
   simp only [Sem.run_pure,ht']
  ·cases ht'
 unfold room at hr
 have hcap:=nextslicecap_le (n:=sLen + n) (c:=sCap) (by omega)
 have hmul : Builtin.nextslicecap (sLen + n) sCap * ei.bytes ≤ (2 * (sLen + n) + 192) * ei.bytes:=Nat.mul_le_mul_right _ hcap
 have hexp : (2 * (sLen + n) + 192) * ei.bytes = 2 * ((sLen + n) * ei.bytes) + 192 * ei.bytes:=by rw [Nat.add_mul,Nat.mul_assoc]
 have hle : sLen + n ≤ (sLen + n) * ei.bytes:=Nat.le_mul_of_pos_right _ hb
 let q : Question:=.appendCap (sLen + n) sCap et
 let cap:=q.cut (w.tape w.drawn q)
 let w1 : World:={ w with drawn:=w.drawn + 1 }
 have hch : (choose q).run P w = .ok cap w1:=by
  simp only [choose,Sem.run]
  rw [if_neg (by simp [q,Question.forced])]
 refine ⟨{ w1 with heap:=w1.heap.push (.cells (old ++ new ++ Builtin.zeroCells z.cells (cap - (sLen + n))) et) },cap,?_,⟨rfl,rfl,rfl,rfl⟩,?_⟩
 ·simp only [cap,q,Question.cut]; omega
 ·have c1 : ¬ ((((sLen + n : Nat) : Int) > IntKind.i64.max) ∧ (False ∨ ei.bytes = 0)):=by
   rintro ⟨_,h | h⟩
   ·exact h
   ·omega
  have c2 : ¬ (Builtin.nextslicecap (sLen + n) sCap * ei.bytes > 2 ^ 48):=by omega
  cases d <;> first
   | (exact Bool.noConfusion (show false = true from hxk))
   | simp only [Builtin.append_,e1,e2,e3,e4,Sem.run_bind,run_slice_ti hti hk,Result.andThen_ok,run_sizeOf_ti hei,hd,Sem.run_pure,Bool.false_eq_true,if_false,hn,if_neg h,
     Bool.not_false,if_true,hall,htb,if_neg c1,if_neg c2,hch,run_askRoom,ho w1 rfl,hf w1 rfl,hzz,run_newRow,w1,q]
end

theorem length_zeroCells (z : Array Value) (n : Nat) : (Builtin.zeroCells z n).size = n * z.size:=by
 simp [Builtin.zeroCells]

theorem splice_drop_take {α : Type} {l new : List α} {o k : Nat} (h : o + k + new.length ≤ l.length) :
  ((splice l (o + k) new).drop o).take (k + new.length) = (l.drop o).take k ++ new:=by
 unfold splice
 rw [List.append_assoc,List.drop_append_of_le_length (by simp; omega),List.drop_take,show o + k - o = k from by omega]
 rw [← List.append_assoc,List.take_append_of_le_length (by simp; omega),List.take_of_length_le (by simp; omega)]

theorem grow_in {m : Mem} {hp : List (Nat × ABlk)} {nx : Nat} (hH : SimH m hp nx) {id sz : Nat} {es es2 : List (List AV)} {own : Bool} (hg : get hp id = some (.row sz es own)) {ri : RI}
  (hρ : m.ρ id = some ri) (hn : ri.isNil = false) {off len : Nat} (hle : off + len ≤ es.length) (hfro : own = false → off + len = es.length) (hes2 : ∀ e ∈ es2,e.length = ri.sz)
  (hfit : off + len + es2.length ≤ ri.cap) {vs : List Value} (hl : RepL m 2 es2.flatten vs) (hone : ∀ u ∈ vs,isOne u = true) (P : Program) :
  ∃ m' : Mem,(storeCells ⟨ri.b,ri.o + off * ri.sz + len * ri.sz,none⟩ vs).run P m.w = .ok () m'.w ∧ m.le m' ∧ m.keeps m' ∧
   SimH m' (set (del hp id) nx (.row sz ((es.drop off).take len ++ es2) own)) (nx + 1) ∧
   m'.ρ nx = some ⟨ri.b,ri.o + off * ri.sz,ri.cap - off,ri.sz,false⟩:=by
 obtain ⟨ri',hρ',hb⟩:=hH.blk id _ hg
 rw [hρ] at hρ'
 injection hρ' with hρ'
 subst hρ'
 rcases hb with ⟨h,_⟩ | ⟨_,hP,⟨hsz,hsz'⟩,hcap,⟨c,T,lo,hi,hbk,hfr,hcs⟩,hif⟩
 ·rw [hn] at h; cases h
 have hvl : vs.length = es2.length * ri.sz:=by rw [hl.length,flat_len hes2]
 have e1 : (ri.cap) * ri.sz = (off + len + es2.length) * ri.sz + (ri.cap - (off + len + es2.length)) * ri.sz:=by rw [← Nat.add_mul]; congr 1; omega
 have e2 : (off + len + es2.length) * ri.sz = off * ri.sz + len * ri.sz + es2.length * ri.sz:=by rw [Nat.add_mul,Nat.add_mul]
 have e3 : es.length * ri.sz = (off + len) * ri.sz + (es.length - (off + len)) * ri.sz:=by rw [← Nat.add_mul]; congr 1; omega
 have e4 : (off + len) * ri.sz = off * ri.sz + len * ri.sz:=by rw [Nat.add_mul]
 obtain ⟨c',hc1,hc2⟩:=run_storeCells (P:=P) vs (ri.o + off * ri.sz + len * ri.sz) 0 m.w c hbk (fun i h=>hfr i (Nat.lt_of_lt_of_le h (Nat.le_add_right _ _))) (by omega) hone
 rw [Nat.add_zero] at hc1
 -- nothing frozen is touched
 have hnf : ∀ i,ri.o + off * ri.sz + len * ri.sz ≤ i → ¬ m.F ri.b i:=by
  intro i hi
  cases own with
  | true=>rw [if_pos rfl] at hif; exact hif.2 i (by omega)
  | false =>
   rw [if_neg (by simp)] at hif
   have:=hfro rfl
   exact hif.2 i (by rw [← this]; omega)
 have hsame : ∀ i,i < ri.o + off * ri.sz + len * ri.sz → c'[i]? = c[i]?:=by
  intro i hi
  rw [← Array.getElem?_toList,← Array.getElem?_toList,hc1]
  unfold splice
  by_cases h : i < c.size
  ·rw [List.append_assoc,List.getElem?_append_left (by simp; omega),List.getElem?_take,if_pos hi]
  ·have h' : c.toList.length ≤ i:=by simpa using h
   omega
 let ri' : RI:=⟨ri.b,ri.o + off * ri.sz,ri.cap - off,ri.sz,false⟩
 let G : Nat → Nat → Prop:=fun b i=>own = false ∧ b = ri.b ∧ ri'.o ≤ i ∧ i < ri'.o + (len + es2.length) * ri.sz
 let w':=wset m.w ri.b (.cells c' T (lo,hi))
 let m' : Mem:=m.with w' nx ri' G
 have hU : Upd m m' ri.b:=by
  refine ⟨rfl,rfl,rfl,by simp [m',w',Mem.with,wset],fun b hb _=>wset_other hb,fun b o h=>.inl h,fun b o hb h=>h.elim (fun h=>h) (fun h=>(hb h.2.1).elim),?_,?_,rfl,hP,?_,rfl⟩
  ·intro b o h
   show b < w'.heap.size
   simp only [w',wset,Array.size_setIfInBounds]
   rcases h with h | h
   ·exact hH.Fold b o h
   ·rw [h.2.1]; exact lt_of_getElem? hbk
  ·intro o hF
   have hlt : o < ri.o + off * ri.sz + len * ri.sz:=by
    rcases Nat.lt_or_ge o (ri.o + off * ri.sz + len * ri.sz) with h | h
    ·exact h
    ·exact (hnf o h hF).elim
   show w'.cell? ⟨ri.b,o,none⟩ = m.w.cell? ⟨ri.b,o,none⟩
   simp only [World.cell?,w',wset_get hbk,hbk,Option.isSome_none,Bool.false_eq_true,if_false]
   exact hsame o hlt
  ·intro i r h
   show (if i = nx then some ri' else m.ρ i) = some r
   by_cases e : i = nx
   ·subst e; rw [hH.fresh i (Nat.le_refl _)] at h; cases h
   ·rw [if_neg e]; exact h
 have hk:=hU.keeps hH
 have hY : RepY m es ri.b ri.o ri.sz:=by
  split at hif
  ·exact hif.1
  ·exact hif.1.y
 have hYv:=(hY.drop off).take len
 have hlv : ((es.drop off).take len).length = len:=by simp; omega
 obtain ⟨hall,hX⟩:=RepY.flat.1 hYv
 have hLv:=RepX.list hbk hX
 rw [flat_len hall,hlv] at hLv
 have hsize : c'.size = c.size:=by
  have:=congrArg List.length hc1
  simp only [Array.length_toList,splice,List.length_append,List.length_take,List.length_drop] at this
  omega
 refine ⟨m',hc2,hU.le hH,hk,?_,by simp [m',Mem.with,ri']⟩
 refine hH.upd hU (k:=nx) (ri:=ri') (blk:=.row sz ((es.drop off).take len ++ es2) own) (by simp [m',Mem.with]) ?_ (fun _=>rfl) (by rw [get_set,if_pos rfl]) ?_ ?_
 ·have hes' : ∀ e ∈ (es.drop off).take len ++ es2,e.length = ri.sz:=by
   intro e he
   rcases List.mem_append.1 he with h | h
   ·exact hall e h
   ·exact hes2 e h
  have hlen' : ((es.drop off).take len ++ es2).length = len + es2.length:=by rw [List.length_append,hlv]
  have hY' : RepY m' ((es.drop off).take len ++ es2) ri.b ri'.o ri.sz:=by
   refine RepY.flat.2 ⟨hes',RepX.of_list (wset_get hbk) ?_⟩
   rw [flat_len hes',hlen',hc1]
   have:=splice_drop_take (l:=c.toList) (new:=vs) (o:=ri'.o) (k:=len * ri.sz) (by simp [ri']; omega)
   rw [hvl,← Nat.add_mul] at this
   show RepL m' 2 _ (List.take ((len + es2.length) * ri.sz) (List.drop ri'.o (splice c.toList (ri.o + off * ri.sz + len * ri.sz) vs)))
   rw [this,List.flatten_append]
   exact (RepL.mono hk 2 _ _ hLv).append (RepL.mono hk 2 _ _ hl)
  refine .inr ⟨rfl,hP,⟨hsz,hsz'⟩,by rw [hlen']; simp only [ri']; omega,⟨c',T,lo,hi,wset_get hbk,by rw [hsize]; exact hfr,?_⟩,?_⟩
  ·rw [hsize]
   have : off * ri.sz + (ri.cap - off) * ri.sz = ri.cap * ri.sz:=by rw [← Nat.add_mul]; congr 1; omega
   simp only [ri']
   omega
  ·cases own with
   | true =>
    rw [if_pos rfl]
    refine ⟨hY',?_⟩
    intro i hi h
    rw [if_pos rfl] at hif
    rcases h with h | h
    ·exact hif.2 i (by simp only [ri'] at hi; omega) h
    ·cases h.1
   | false =>
    rw [if_neg (by simp)]
    rw [hlen']
    refine ⟨RepE.of hY' fun i h1 h2=>.inr ⟨rfl,rfl,h1,by rw [hlen'] at h2; exact h2⟩,?_⟩
    intro i hi h
    rcases h with h | h
    ·refine hnf i ?_ h
     simp only [ri',Nat.add_mul] at hi
     omega
    ·have:=h.2.2.2
     simp only [ri'] at hi this
     omega
 ·intro i hi x hx
  rw [get_set,if_neg (Ne.symm hi),get_del] at hx
  split at hx
  ·cases hx
  ·rename_i hne
   exact ⟨hx,hH.sole hg hρ hn i (Ne.symm hne) x hx⟩
 ·intro i hi
  show (if i = nx then some ri' else m.ρ i) = none
  rw [if_neg (by omega)]
  exact hH.fresh i (by omega)

end Aw

namespace Aw
open Go

section
variable {P : Program} {m : Mem} {a : Act} {σ : St}

theorem zero_any {et : TypeId} {z : Value} {w : World} (h : (zeroValue et).run P w = .ok z w) : ∀ w',(zeroValue et).run P w' = .ok z w':=by
 intro w'
 simp only [zeroValue,typeInfo,program,bind,Sem.bind,Sem.run] at h ⊢
 cases hi : P.info? et with
 | none=>simp only [hi] at h; cases h
 | some i =>
  simp only [hi] at h ⊢
  simp only [pure,Sem.bind] at h ⊢
  cases hz : i.zero with
  | none=>simp only [hz] at h; cases h
  | some v =>
   simp only [hz,Sem.run,Result.ok.injEq,and_true] at h ⊢
   exact h

theorem grow_new {hp : List (Nat × ABlk)} {nx : Nat} (hH : SimH m hp nx) {w' : World} {olds news : List Value} {es1 es2 : List (List AV)} {z : Value} {et : TypeId} {sz cap : Nat} (own : Bool)
  (hsz : 1 ≤ sz) (hz : z.cells.size = sz) (h1 : ∀ e ∈ es1,e.length = sz) (h2 : ∀ e ∈ es2,e.length = sz) (ho : RepL m 2 es1.flatten olds) (hn : RepL m 2 es2.flatten news)
  (hcap : es1.length + es2.length ≤ cap)
  (hw : Alloc m.w w' (.cells (olds.toArray ++ news.toArray ++ Builtin.zeroCells z.cells (cap - (es1.length + es2.length))) et (0,0))) :
  ∃ m' : Mem,m'.w = w' ∧ m.le m' ∧ m.keeps m' ∧ SimH m' (set hp nx (.row sz (es1 ++ es2) own)) (nx + 1) ∧
   Rep m' 0 (.row nx 0 (es1.length + es2.length)) (.slice (some ⟨m.w.heap.size,0,none⟩) (es1.length + es2.length) cap):=by
 have hes : ∀ e ∈ es1 ++ es2,e.length = sz:=by
  intro e he
  rcases List.mem_append.1 he with h | h
  ·exact h1 e h
  ·exact h2 e h
 have l1 : olds.length = es1.length * sz:=by rw [ho.length,flat_len h1]
 have l2 : news.length = es2.length * sz:=by rw [hn.length,flat_len h2]
 obtain ⟨m1,g1,g2,g3,g4,g5⟩:=row_sound hH hw (es:=es1 ++ es2) (sz:=sz) (cap:=cap) hsz hes (by rw [List.length_append]; exact hcap)
  (by
   have : cap * sz = es1.length * sz + es2.length * sz + (cap - (es1.length + es2.length)) * sz:=by rw [← Nat.add_mul,← Nat.add_mul]; congr 1; omega
   simp only [Array.size_append,List.size_toArray,length_zeroCells,hz,l1,l2]; omega)
  (by intro j _ hj; omega)
  (by
   rw [flat_len hes,List.length_append,List.flatten_append]
   have : List.take ((es1.length + es2.length) * sz) (olds.toArray ++ news.toArray ++ Builtin.zeroCells z.cells (cap - (es1.length + es2.length))).toList = olds ++ news:=by
    rw [Array.toList_append,Array.toList_append]
    rw [List.take_append_of_le_length (by simp [l1,l2,Nat.add_mul]),List.take_of_length_le (by simp [l1,l2,Nat.add_mul])]
   rw [this]
   exact ho.append hn)
 rw [List.length_append] at g5
 cases own with
 | true=>exact ⟨m1,g1,g2,g3,g4,g5⟩
 | false =>
  obtain ⟨m2,k1,k2,k3,k4,k5⟩:=frz_sound g4 nx
  refine ⟨m2,k1.trans g1,g2.trans k3,g3.trans k4,SimH.congr ?_ k5,Rep.mono k4 0 _ _ g5⟩
  intro i
  have e : get (set hp nx (ABlk.row sz (es1 ++ es2) true)) nx = some (.row sz (es1 ++ es2) true):=by rw [get_set,if_pos rfl]
  simp only [frz,e,get_set]
  split <;> rfl

theorem eappend_sound (hS : Sim m a σ) {sT xT ty : TypeId} {s x : Operand} {e : Eff} (h : eappend P σ sT xT s x = some e) (hob : e.ob) :
  ∃ v m',(Builtin.append_ #[sT,xT] ty #[a.eval s,a.eval x]).run P m.w = .ok v m'.w ∧ m.le m' ∧ m.keeps m' ∧ SimH m' e.hp e.nx ∧ Rep m' 0 e.val v:=by
 unfold eappend at h
 split at h
 case h_2=>cases h
 rename_i ti xi p q hti hxi hp hq
 split at h
 case h_2=>cases h
 rename_i et hk
 split at h
 ·cases h
 rename_i ei hei
 split at h
 case isFalse=>cases h
 rename_i hc
 obtain ⟨hxk,hsz,hb1,hb2,hzl⟩:=hc
 split at h
 ·cases h
 rename_i r hr
 -- the zero value
 obtain ⟨ti',hti',_,_,hzz⟩:=run_typeInfo_ti (w:=m.w) hei
 have hzv : ∃ zv : Value,zv.cells.size = ei.sz ∧ ∀ w',(zeroValue et).run P w' = .ok zv w':=by
  rw [hzz] at hzl
  cases hz : ti'.zero with
  | none=>rw [hz] at hzl; cases hzl
  | some zv =>
   rw [hz] at hzl
   simp at hzl
   have : (zeroValue et).run P m.w = .ok zv m.w:=by unfold zeroValue; rw [run_bind hti']; simp only [hz] <;> rfl
   exact ⟨zv,hzl,zero_any this⟩
 obtain ⟨zv,hzs,hzr⟩:=hzv
 have hsrc : p.1 → q.1 → r.1 → (∀ e ∈ r.2,e.length = ei.sz) ∧ (∀ w,(Builtin.lenOf (a.eval x)).run P w = .ok r.2.length w) ∧
   ∃ vs : List Value,RepL m 2 r.2.flatten vs ∧ (∀ u ∈ vs,isOne u = true) ∧ ∀ w : World,w.heap = m.w.heap → (Builtin.firstCells ei.sz r.2.length (a.eval x)).run P w = .ok vs.toArray w :=
  fun _ h2 h3=>asrc_sound (P:=P) hS.h (x:=q.2) (es:=r.2) (ob:=r.1) hr h3 (evE_sound hS hq h2)
 -- growing from nothing
 have hnew : ∀ (hp : List (Nat × ABlk)) (own : Bool) (sv : Value) (base : Option Addr),SimH m hp σ.nx → p.1 → q.1 → r.1 → room r.2.length ei.bytes → sv = .slice base 0 0 →
   r.2 ≠ [] → ∃ v m',(Builtin.append_ #[sT,xT] ty #[sv,a.eval x]).run P m.w = .ok v m'.w ∧ m.le m' ∧ m.keeps m' ∧
    SimH m' (set hp σ.nx (.row ei.sz r.2 own)) (σ.nx + 1) ∧ Rep m' 0 (.row σ.nx 0 r.2.length) v:=by
  rintro hp own sv base hH h1 h2 h3 h4 rfl hne
  obtain ⟨g1,g2,vs,g3,g4,g5⟩:=hsrc h1 h2 h3
  have hpos : 0 < r.2.length:=List.length_pos_iff.2 hne
  obtain ⟨w',cap,c1,c2,c3⟩:=run_append_grow (w:=m.w) (ty:=ty) (base:=base) (sLen:=0) (sCap:=0) hti hk hxi hxk hei g2 (by omega) hb1 hb2 (by rw [Nat.zero_add]; exact h4) hzr
   (old:=#[]) (new:=vs.toArray) (fun w' _=>firstCells_zero) (fun w' hw=>g5 w' hw)
  rw [Nat.zero_add] at c1 c2 c3
  obtain ⟨m',k1,k2,k3,k4,k5⟩:=grow_new hH (es1:=[]) (es2:=r.2) (olds:=[]) (news:=vs) (z:=zv) (et:=et) (sz:=ei.sz) (cap:=cap) own hsz hzs (by intro e he; cases he) g1
   (by simp [RepL]) g3 (by simpa using c1) (by simpa using c2)
  simp only [List.nil_append,List.length_nil,Nat.zero_add] at k4 k5
  exact ⟨_,m',by rw [c3,k1],k2,k3,k4,k5⟩
 split at h
 case h_3=>cases h
 ·rename_i pv hpv
  split at h
  case h_2=>cases h
  simp only [Option.some.injEq] at h
  subst h
  obtain ⟨h1,h2,h3,h4⟩:=hob
  have hv:=evE_sound hS hp h1
  rw [hpv] at hv
  simp only [Rep] at hv
  by_cases hne : r.2 = []
  ·obtain ⟨g1,g2,vs,g3,g4,g5⟩:=hsrc h1 h2 h3
   rw [hne] at g2 g5
   obtain ⟨m',k1,k2,k3,k4,k5⟩:=nilrow_sound hS.h ei.sz true
   refine ⟨.slice none 0 0,m',?_,k2,k3,by rw [hne]; exact k4,by rw [hne]; exact k5⟩
   rw [hv,k1]
   exact run_append_nil hti hk hxi hxk hei g2 (g5 m.w rfl)
  ·exact hnew σ.hp true (a.eval s) none hS.h h1 h2 h3 h4 hv hne
 ·rename_i id off len hpv
  split at h
  case h_2=>cases h
  rename_i sz es own hg
  split at h
  case isFalse=>cases h
  rename_i hsz'
  subst hsz'
  simp only [Option.some.injEq] at h
  subst h
  obtain ⟨h1,h2,h3,h4,h5,h6⟩:=hob
  have hv:=evE_sound hS hp h1
  rw [hpv] at hv
  simp only [Rep] at hv
  obtain ⟨_,ri,hρ,hrow⟩:=hv
  obtain ⟨g1,g2,vs,g3,g4,g5⟩:=hsrc h1 h2 h3
  obtain ⟨ri',hρ',hb⟩:=hS.h.blk id _ hg
  rw [hρ] at hρ'
  injection hρ' with hρ'
  subst hρ'
  rcases hrow with ⟨hn,rfl,rfl,hsv⟩ | ⟨hn,hcap,hlt,hsv⟩ | ⟨hn,rfl,rfl,ad,hsv⟩
  ·-- a nil slice
   simp only [List.drop_zero,List.take_zero,List.nil_append,Nat.zero_add] at h4 ⊢
   by_cases hne : r.2 = []
   ·rw [hne] at g2 g5
    obtain ⟨m',k1,k2,k3,k4,k5⟩:=nilrow_sound (hS.h.del id) ei.sz own
    refine ⟨.slice none 0 0,m',?_,k2,k3,by rw [hne]; exact k4,by rw [hne]; exact k5⟩
    rw [hsv,k1]
    exact run_append_nil hti hk hxi hxk hei g2 (g5 m.w rfl)
   ·exact hnew (del σ.hp id) own (a.eval s) none (hS.h.del id) h1 h2 h3 h4 hsv hne
  ·have hsz1 : ri.sz = ei.sz:=by
    rcases hb with ⟨h,_⟩ | ⟨_,_,⟨_,h⟩,_⟩
    ·rw [hn] at h; cases h
    ·exact h
   by_cases hfit : off + len + r.2.length ≤ ri.cap
   ·obtain ⟨m',k1,k2,k3,k4,k5⟩:=grow_in hS.h hg hρ hn (off:=off) (len:=len) (es2:=r.2) h5 h6 (by rw [hsz1]; exact g1) hfit g3 g4 P
    refine ⟨.slice (some ⟨ri.b,ri.o + off * ri.sz,none⟩) (len + r.2.length) (ri.cap - off),m',?_,k2,k3,k4,?_⟩
    ·rw [hsv]
     refine run_append_in hti hk hxi hxk hei g2 (by omega) (g5 m.w rfl) ?_
     rw [addr_add,← hsz1]
     exact k1
    ·simp only [Rep,true_and]
     refine ⟨_,k5,.inr (.inl ⟨rfl,by simp only; omega,by simp only; omega,?_⟩)⟩
     simp only [Nat.zero_mul,Nat.add_zero,Nat.sub_zero]
   ·-- a new block
    have hY : RepY m es ri.b ri.o ri.sz:=by
     rcases hb with ⟨h,_⟩ | ⟨_,_,_,_,_,hif⟩
     ·rw [hn] at h; cases h
     ·split at hif
      ·exact hif.1
      ·exact hif.1.y
    have hYv:=(hY.drop off).take len
    have hlv : ((es.drop off).take len).length = len:=by simp; omega
    obtain ⟨vs0,q1,q2⟩:=firstCells_of (P:=P) (c:=ri.cap - off) hYv
    rw [hlv] at q2
    obtain ⟨w',cap,c1,c2,c3⟩:=run_append_grow (w:=m.w) (ty:=ty) (base:=some ⟨ri.b,ri.o + off * ri.sz,none⟩) (sLen:=len) (sCap:=ri.cap - off) hti hk hxi hxk hei g2 (by omega) hb1 hb2 h4 hzr
     (old:=vs0.toArray) (new:=vs.toArray) (fun w' hw=>by rw [← hsz1]; exact q2 w' hw len) (fun w' hw=>g5 w' hw)
    obtain ⟨m',k1,k2,k3,k4,k5⟩:=grow_new (hS.h.del id) (es1:=(es.drop off).take len) (es2:=r.2) (olds:=vs0) (news:=vs) (z:=zv) (et:=et) (sz:=ei.sz) (cap:=cap) own hsz hzs
     (by rw [← hsz1]; exact (RepY.flat.1 hYv).1) g1 q1 g3 (by rw [hlv]; exact c1) (by rw [hlv]; exact c2)
    rw [hlv] at k5
    exact ⟨_,m',by rw [hsv,c3,k1],k2,k3,k4,k5⟩
  ·-- nothing is left of the old one
   have hvw : (es.drop ri.cap).take 0 = []:=List.take_zero
   simp only [List.take_zero,List.nil_append,Nat.zero_add] at h4 ⊢
   by_cases hne : r.2 = []
   ·rw [hne] at g2 g5
    have hvs : vs = []:=by
     have:=g3.length
     rw [hne] at this
     simpa using this
    obtain ⟨m',k1,k2,k3,k4,k5⟩:=grow_in hS.h hg hρ hn (off:=ri.cap) (len:=0) (es2:=[]) (vs:=[]) h5 h6 (by intro e he; cases he) (by simp) (by simp [RepL]) (by intro u hu; cases hu) P
    have hw : m'.w = m.w:=by
     have : (storeCells ⟨ri.b,ri.o + ri.cap * ri.sz + 0 * ri.sz,none⟩ []).run P m.w = .ok () m.w:=rfl
     rw [this] at k1
     injection k1 with _ k1
     exact k1.symm
    refine ⟨.slice (some ad) 0 0,m',?_,k2,k3,?_,?_⟩
    ·rw [hsv,hw]
     have:=run_append_in (ty:=ty) (sLen:=0) (sCap:=0) (a:=ad) (w:=m.w) (w':=m.w) hti hk hxi hxk hei g2 (Nat.le_refl _) (g5 m.w rfl) (by rw [hvs]; rfl)
     simpa using this
    ·rw [hne]
     simpa using k4
    ·rw [hne]
     simp only [Rep,true_and,List.length_nil]
     exact ⟨_,k5,.inr (.inr ⟨rfl,by simp,rfl,ad,rfl⟩)⟩
   ·exact hnew (del σ.hp id) own (a.eval s) (some ad) (hS.h.del id) h1 h2 h3 h4 hsv hne
end
end Aw

namespace Aw
open Go

section
variable {P : Program} {m : Mem} {a : Act} {σ : St}

def bytesOf (es : List (List AV)) : List UInt8:=es.map fun e=>match e with
 | [.int _ n]=>UInt8.ofNat n.toNat
 | _=>0
theorem bytesOf_bytesAV (s : List UInt8) : bytesOf (bytesAV s) = s:=by
 unfold bytesOf bytesAV
 rw [List.map_map]
 have : ((fun e : List AV=>match e with | [.int _ n]=>UInt8.ofNat n.toNat | _=>0) ∘ fun b : UInt8=>[AV.int .u8 (b.toNat : Int)]) = id:=by
  funext b
  simp
 rw [this,List.map_id]

def econv (P : Program) (σ : St) (s d : TypeId) (x : Operand) : Option Eff :=
 match tinfo P s,tinfo P d,evE σ x with
 | some si,some di,some p=>match si.k,di.k with
  | .slice e,.str=>match tinfo P e with
   | some ei=>match ei.k,asrc σ.hp 1 p.2 with
    | .int .u8,some r=>some ⟨p.1 ∧ r.1 ∧ r.2 = bytesAV (bytesOf r.2),.str (bytesOf r.2),σ.hp,σ.nx⟩
    | _,_=>none
   | none=>none
  | _,_=>none
 | _,_,_=>none

theorem run_int_ti {t : TypeId} {i : TI} {k : IntKind} {w : World} (hi : tinfo P t = some i) (hk : i.k = .int k) : (underlying t).run P w = .ok (.int k) w ∧ P.underlying t = some (.int k):=by
 obtain ⟨ti,d,h1,h2,rfl⟩:=tinfo_parts hi
 simp only at hk
 cases d <;> simp only [tkOf,reduceCtorEq,TK.int.injEq] at hk
 subst hk
 exact ⟨by simp only [underlying,program,bind,Sem.bind,Sem.run,h2,pure],h2⟩
theorem und_slice {t e : TypeId} {i : TI} (hi : tinfo P t = some i) (hk : i.k = .slice e) : P.underlying t = some (.slice e):=by
 obtain ⟨ti,d,h1,h2,rfl⟩:=tinfo_parts hi
 simp only at hk
 cases d <;> simp only [tkOf,reduceCtorEq,TK.slice.injEq] at hk
 subst hk
 exact h2
theorem und_str {t : TypeId} {i : TI} (hi : tinfo P t = some i) (hk : i.k = .str) : P.underlying t = some .string:=by
 obtain ⟨ti,d,h1,h2,rfl⟩:=tinfo_parts hi
 simp only at hk
 cases d <;> simp only [tkOf,reduceCtorEq] at hk
 exact h2

theorem vals_of_bytes {m : Mem} {kk : Nat} : ∀ {s : List UInt8} {vs : List Value},RepL m kk (bytesAV s).flatten vs → vs = s.map fun b=>.int .u8 (b.toNat : Int)
 | [],vs,h=>by simpa [bytesAV,RepL] using h
 | b :: s,vs,h=>by
  simp only [bytesAV,List.map_cons,List.flatten_cons,List.singleton_append,RepL] at h
  obtain ⟨v,rest,rfl,hv,hr⟩:=h
  simp only [Rep] at hv
  rw [List.map_cons,← vals_of_bytes hr,hv]

theorem econv_sound (hS : Sim m a σ) {o : Oper} {s d : TypeId} {x : Operand} {e : Eff} (ho : o.op = .convert s d x) (h : econv P σ s d x = some e) (hob : e.ob) : EffOk P m a o e:=by
 unfold econv at h
 split at h
 case h_2=>cases h
 rename_i si di p hsi hdi hp
 split at h
 case h_2=>cases h
 ·rename_i e' hsk hdk
  split at h
  case h_2=>cases h
  rename_i ei hei
  split at h
  case h_2=>cases h
  rename_i r hek hr
  simp only [Option.some.injEq] at h
  subst h
  obtain ⟨h1,h2,h3⟩:=hob
  have hv:=evE_sound hS hp h1
  obtain ⟨g1,g2,vs,g3,g4,g5⟩:=asrc_sound (P:=P) hS.h (x:=p.2) (es:=r.2) (ob:=r.1) hr h2 hv
  refine ⟨.string ⟨(bytesOf r.2).toArray⟩,m,.inl ?_,.refl m,.refl m,hS.h,by simp only [Rep]⟩
  simp only [execOp,ho]
  refine run_value ?_
  have g5':=g5 m.w rfl
  have hun:=(run_int_ti (w:=m.w) hei hek).2
  rw [h3] at g3
  have hvs:=vals_of_bytes g3
  generalize a.eval x = v at *
  cases v <;> first | (have hx:=g2 m.w; simp only [Builtin.lenOf,stuck,Sem.run_halt,reduceCtorEq] at hx; done) | skip
  case string s' =>
   have g6:=g5 m.w rfl
   have hun':=und_slice hsi hsk
   have hud:=und_str hdi hdk
   have e1 : (convert s d (.string s')).run P m.w = .ok (.string s') m.w:=by
    simp only [convert,Sem.run_bind,run_slice_ti hsi hsk,run_str_ti hdi hdk,Result.andThen_ok]
    rfl
   rw [e1]
   have hl:=g2 m.w
   simp only [Builtin.lenOf,Sem.run_pure,Result.ok.injEq,and_true] at hl
   simp only [Builtin.firstCells,Sem.run_pure,Result.ok.injEq,and_true] at g6
   have h4:=congrArg Array.toList g6
   rw [Array.toList_map,Lib.extract_data,List.drop_zero,Nat.sub_zero,← hl,List.take_of_length_le (by rw [Array.length_toList]; exact Nat.le_refl _),hvs] at h4
   have h5 : s'.data.toList = bytesOf r.2:=by
    have inj : ∀ (l l' : List UInt8),(l.map fun b=>Value.int .u8 (b.toNat : Int)) = l'.map (fun b=>Value.int .u8 (b.toNat : Int)) → l = l':=by
     intro l
     induction l with
     | nil=>intro l' h; cases l' with
      | nil=>rfl
      | cons _ _=>cases h
     | cons b l ih =>
      intro l' h
      cases l' with
      | nil=>cases h
      | cons b' l' =>
       simp only [List.map_cons,List.cons.injEq,Value.int.injEq,true_and] at h
       have : b = b':=by
        apply UInt8.toNat_inj.1
        have:=h.1
        omega
       rw [this,ih l' h.2]
    exact inj _ _ (by simpa using h4)
   congr 2
   apply ByteArray.ext
   apply Array.ext'
   simpa using h5
  case slice base n c =>
   have hl:=g2 m.w
   simp only [Builtin.lenOf,Sem.run_pure,Result.ok.injEq,and_true] at hl
   subst hl
   rw [run_convert_bytes_string m.w s d e' base r.2.length c (und_slice hsi hsk) hun (und_str hdi hdk)]
   cases base with
   | none =>
    simp only [Builtin.firstCells,Sem.run_pure,Result.ok.injEq,and_true] at g5'
    have : vs = []:=by simpa using g5'.symm
    rw [this] at hvs
    have hb : bytesOf r.2 = []:=by simpa using hvs.symm
    rw [hb]
    rfl
   | some ad =>
    simp only [Builtin.firstCells,Nat.mul_one] at g5'
    have:=run_bytesToString (P:=P) m.w ad r.2.length c ((bytesOf r.2).map fun b=>(b.toNat : Int)) (by rw [g5',hvs,List.map_map]; rfl)
    rw [this,foldl_push_bytes]
    congr 2
    apply ByteArray.ext
    apply Array.ext'
    simp only [Array.toList_append,List.map_map]
    have e2 : ((fun n : Int=>UInt8.ofNat n.toNat) ∘ fun b : UInt8=>(b.toNat : Int)) = id:=by
     funext b
     simp
    rw [e2,List.map_id]
    simp
end
end Aw

namespace Aw
open Go
def estoreR (P : Program) (σ : St) (t : TypeId) (x y : Operand) : Option Eff :=
 match tinfo P t,evE σ x,evE σ y with
 | some i,some p,some q=>match acells q.2 with
  | none=>none
  | some l=>match clos σ.hp l with
   | none=>none
   | some r=>match p.2 with
    | .rptr id idx c=>match get σ.hp id with
     | some (.row sz es own)=>if own = true ∧ c = 0 ∧ sz = i.sz ∧ l.length = i.sz ∧ r.2.length = i.sz then
       some ⟨p.1 ∧ q.1 ∧ r.1 ∧ idx < es.length,.raw undef,set σ.hp id (.row sz (es.set idx r.2) true),σ.nx⟩
      else none
     | some (.mrow sz es)=>if c = 0 ∧ sz = i.sz ∧ l.length = i.sz ∧ r.2.length = i.sz then
       some ⟨p.1 ∧ q.1 ∧ r.1 ∧ idx < es.length,.raw undef,set σ.hp id (.mrow sz (es.set idx r.2)),σ.nx⟩
      else none
     | _=>none
    | _=>none
 | _,_,_=>none

theorem splice_window {α : Type} {l new : List α} {o k L : Nat} (h : o + k + new.length ≤ l.length) (hL : k + new.length ≤ L) (hL' : o + L ≤ l.length) :
  ((splice l (o + k) new).drop o).take L = splice ((l.drop o).take L) k new:=by
 apply List.ext_getElem?
 intro i
 unfold splice
 simp only [List.getElem?_take,List.getElem?_drop,List.getElem?_append,List.length_append,List.length_take,List.length_drop]
 grind

theorem estoreR_sound {P : Program} {m : Mem} {a : Act} {σ : St} (hS : Sim m a σ) {o : Oper} {t : TypeId} {x y : Operand} {e : Eff} (ho : o.op = .store t x y)
  (h : estoreR P σ t x y = some e) (hob : e.ob) : EffOk P m a o e:=by
 unfold estoreR at h
 split at h
 case h_2=>cases h
 rename_i i p q hi hx hy
 split at h
 case h_1=>cases h
 rename_i l hl
 split at h
 case h_1=>cases h
 rename_i r hcl
 split at h
 case h_2=>cases h
 rename_i id idx cc hp
 split at h
 case h_3=>cases h
 ·rename_i sz es own hg
  split at h
  case isFalse=>cases h
  rename_i hc
  obtain ⟨rfl,rfl,rfl,hlen,hlen'⟩:=hc
  simp only [Option.some.injEq] at h
  subst h
  obtain ⟨h1,h2,h3,hidx⟩:=hob
  have hr:=evE_sound hS hx h1
  have hr':=evE_sound hS hy h2
  rw [hp] at hr
  simp only [Rep] at hr
  obtain ⟨_,ri,hρ,hv⟩:=hr
  obtain ⟨ri',hρ',hb⟩:=hS.h.blk id _ hg
  rw [hρ] at hρ'
  injection hρ' with hρ'
  subst hρ'
  rcases hb with ⟨_,h⟩ | ⟨hn,hP,⟨hsz,hsz'⟩,hcap,⟨c,T,lo,hi2,hbk,hfr,hcs⟩,hif⟩
  ·subst h; simp at hidx
  rw [if_pos rfl] at hif
  obtain ⟨hY,hF⟩:=hif
  have hL':=acells_sound hr' hl
  obtain ⟨hL2,hone⟩:=clos_sound hS.h hcl h3 hL'
  have hvl : (a.eval y).cells.toList.length = i.sz:=by rw [hL'.length,hlen]
  have hvl' : (a.eval y).cells.size = i.sz:=by simpa using hvl
  obtain ⟨hall,hX⟩:=RepY.flat.1 hY
  have hLv:=RepX.list hbk hX
  rw [flat_len hall] at hLv
  have e0 : ri.cap * ri.sz = es.length * ri.sz + (ri.cap - es.length) * ri.sz:=by rw [← Nat.add_mul]; congr 1; omega
  have e1 : es.length * ri.sz = idx * ri.sz + (1 * ri.sz + (es.length - idx - 1) * ri.sz):=by rw [← Nat.add_mul,← Nat.add_mul]; congr 1; omega
  obtain ⟨c',hc1,hc2⟩:=run_storeCells (P:=P) (a.eval y).cells.toList (ri.o + idx * ri.sz) 0 m.w c hbk (fun i h=>hfr i (Nat.lt_of_lt_of_le h (Nat.le_add_right _ _))) (by omega) hone
  rw [Nat.add_zero] at hc1
  have hcsz : c'.size = c.size:=by
   rw [← Array.length_toList,hc1]
   simp only [splice,List.length_append,List.length_take,List.length_drop,Array.length_toList]
   omega
  have hsame : ∀ j,j < ri.o + idx * ri.sz → c'[j]? = c[j]?:=by
   intro j hj
   rw [← Array.getElem?_toList,← Array.getElem?_toList,hc1]
   unfold splice
   by_cases h : j < c.size
   ·rw [List.append_assoc,List.getElem?_append_left (by simp; omega),List.getElem?_take,if_pos hj]
   ·omega
  have hU : Upd m { m with w:=wset m.w ri.b (.cells c' T (lo,hi2)) } ri.b:=by
   refine Upd.set hS.h hP (fun o h=>?_)
   have hlt : o < ri.o:=by
    rcases Nat.lt_or_ge o ri.o with h' | h'
    ·exact h'
    ·exact (hF o h' h).elim
   simp only [World.cell?,wset_get hbk,hbk,Option.isSome_none,Bool.false_eq_true,if_false]
   exact hsame o (by omega)
  refine ⟨undef,{ m with w:=wset m.w ri.b (.cells c' T (lo,hi2)) },.inr ⟨?_,rfl⟩,hU.le hS.h,hU.keeps hS.h,?_,by simp only [Rep]⟩
  ·simp only [execOp,ho,Instr.storeAt,Instr.sureAddr,hv]
   rw [run_bind (a:=()) (w':=wset m.w ri.b (.cells c' T (lo,hi2)))]
   ·rfl
   ·rw [run_bind (yes_ok P m.w _)]
    unfold storeVar
    rw [run_bind (run_sizeOf_ti hi)]
    rw [if_neg (by simp at hvl; omega)]
    exact hc2
  ·refine hS.h.upd hU (k:=id) (ri:=ri) (blk:=.row i.sz (es.set idx r.2) true) hρ ?_ (fun _=>rfl) (by rw [get_set,if_pos rfl]) ?_ hS.h.fresh
   ·refine .inr ⟨hn,hP,⟨hsz,hsz'⟩,by simpa using hcap,⟨c',T,lo,hi2,wset_get hbk,by rw [hcsz]; exact hfr,by rw [hcsz]; exact hcs⟩,?_⟩
    rw [if_pos rfl]
    refine ⟨RepY.flat.2 ⟨set_lengths hall (by omega),RepX.of_list (c:=c') (wset_get hbk) ?_⟩,hF⟩
    rw [flat_len (set_lengths hall (by omega)),List.length_set,hc1,flatten_set es idx r.2 hall (by omega) hidx]
    rw [splice_window (by simp only [Array.length_toList]; omega) (by omega) (by simp only [Array.length_toList]; omega)]
    exact (RepL.mono (hU.keeps hS.h) 2 _ _ hLv).splice (RepL.mono (hU.keeps hS.h) 2 _ _ hL2) _
   ·intro j hj z hz
    rw [get_set,if_neg (Ne.symm hj)] at hz
    exact ⟨hz,hS.h.sole hg hρ hn j hj z hz⟩
 ·rename_i sz es hg
  split at h
  case isFalse=>cases h
  rename_i hc
  obtain ⟨rfl,rfl,hlen,hlen'⟩:=hc
  simp only [Option.some.injEq] at h
  subst h
  obtain ⟨h1,h2,h3,hidx⟩:=hob
  have hr:=evE_sound hS hx h1
  have hr':=evE_sound hS hy h2
  rw [hp] at hr
  simp only [Rep] at hr
  obtain ⟨_,ri,hρ,hv⟩:=hr
  obtain ⟨ri',hρ',hb⟩:=hS.h.blk id _ hg
  rw [hρ] at hρ'
  injection hρ' with hρ'
  subst hρ'
  rcases hb.2 with ⟨_,h⟩ | ⟨hn,hP,⟨hsz,hsz'⟩,hcap,⟨c,T,lo,hi2,hbk,hfr,hcs⟩,hif⟩
  ·subst h; simp at hidx
  rw [if_pos rfl] at hif
  obtain ⟨hY,hF⟩:=hif
  have hL':=acells_sound hr' hl
  obtain ⟨hL2,hone⟩:=clos_sound hS.h hcl h3 hL'
  have hvl : (a.eval y).cells.toList.length = i.sz:=by rw [hL'.length,hlen]
  have hvl' : (a.eval y).cells.size = i.sz:=by simpa using hvl
  obtain ⟨hall,hX⟩:=RepY.flat.1 hY
  have hLv:=RepX.list hbk hX
  rw [flat_len hall] at hLv
  have e0 : ri.cap * ri.sz = es.length * ri.sz + (ri.cap - es.length) * ri.sz:=by rw [← Nat.add_mul]; congr 1; omega
  have e1 : es.length * ri.sz = idx * ri.sz + (1 * ri.sz + (es.length - idx - 1) * ri.sz):=by rw [← Nat.add_mul,← Nat.add_mul]; congr 1; omega
  obtain ⟨c',hc1,hc2⟩:=run_storeCells (P:=P) (a.eval y).cells.toList (ri.o + idx * ri.sz) 0 m.w c hbk (fun i h=>hfr i (Nat.lt_of_lt_of_le h (Nat.le_add_right _ _))) (by omega) hone
  rw [Nat.add_zero] at hc1
  have hcsz : c'.size = c.size:=by
   rw [← Array.length_toList,hc1]
   simp only [splice,List.length_append,List.length_take,List.length_drop,Array.length_toList]
   omega
  have hsame : ∀ j,j < ri.o + idx * ri.sz → c'[j]? = c[j]?:=by
   intro j hj
   rw [← Array.getElem?_toList,← Array.getElem?_toList,hc1]
   unfold splice
   by_cases h : j < c.size
   ·rw [List.append_assoc,List.getElem?_append_left (by simp; omega),List.getElem?_take,if_pos hj]
   ·omega
  have hU : Upd m { m with w:=wset m.w ri.b (.cells c' T (lo,hi2)) } ri.b:=by
   refine Upd.set hS.h hP (fun o h=>?_)
   have hlt : o < ri.o:=by
    rcases Nat.lt_or_ge o ri.o with h' | h'
    ·exact h'
    ·exact (hF o h' h).elim
   simp only [World.cell?,wset_get hbk,hbk,Option.isSome_none,Bool.false_eq_true,if_false]
   exact hsame o (by omega)
  refine ⟨undef,{ m with w:=wset m.w ri.b (.cells c' T (lo,hi2)) },.inr ⟨?_,rfl⟩,hU.le hS.h,hU.keeps hS.h,?_,by simp only [Rep]⟩
  ·simp only [execOp,ho,Instr.storeAt,Instr.sureAddr,hv]
   rw [run_bind (a:=()) (w':=wset m.w ri.b (.cells c' T (lo,hi2)))]
   ·rfl
   ·rw [run_bind (yes_ok P m.w _)]
    unfold storeVar
    rw [run_bind (run_sizeOf_ti hi)]
    rw [if_neg (by simp at hvl; omega)]
    exact hc2
  ·refine hS.h.upd hU (k:=id) (ri:=ri) (blk:=.mrow i.sz (es.set idx r.2)) hρ ?_ (fun _=>rfl) (by rw [get_set,if_pos rfl]) ?_ hS.h.fresh
   ·refine ⟨hn,.inr ⟨hn,hP,⟨hsz,hsz'⟩,by simpa using hcap,⟨c',T,lo,hi2,wset_get hbk,by rw [hcsz]; exact hfr,by rw [hcsz]; exact hcs⟩,?_⟩⟩
    rw [if_pos rfl]
    refine ⟨RepY.flat.2 ⟨set_lengths hall (by omega),RepX.of_list (c:=c') (wset_get hbk) ?_⟩,hF⟩
    rw [flat_len (set_lengths hall (by omega)),List.length_set,hc1,flatten_set es idx r.2 hall (by omega) hidx]
    rw [splice_window (by simp only [Array.length_toList]; omega) (by omega) (by simp only [Array.length_toList]; omega)]
    exact (RepL.mono (hU.keeps hS.h) 2 _ _ hLv).splice (RepL.mono (hU.keeps hS.h) 2 _ _ hL2) _
   ·intro j hj z hz
    rw [get_set,if_neg (Ne.symm hj)] at hz
    exact ⟨hz,hS.h.sole hg hρ hn j hj z hz⟩
def estoreA (P : Program) (σ : St) (t : TypeId) (x y : Operand) : Option Eff :=
 match estore P σ t x y with
 | some e=>some e
 | none=>estoreR P σ t x y
theorem estoreA_sound {P : Program} {m : Mem} {a : Act} {σ : St} (hS : Sim m a σ) {o : Oper} {t : TypeId} {x y : Operand} {e : Eff} (ho : o.op = .store t x y)
  (h : estoreA P σ t x y = some e) (hob : e.ob) : EffOk P m a o e:=by
 unfold estoreA at h
 split at h
 ·rename_i e' he
  injection h with h
  subst h
  exact estore_sound hS ho he hob
 ·exact estoreR_sound hS ho h hob
end Aw

namespace Aw
open Go

def blist (P : Program) (t : TypeId) : Option (List (Nat × Nat)) :=
 match P.underlying t with
 | some (.array n e)=>(P.info? e).map fun ie=>(List.range n).map fun i=>(i * ie.size,ie.size)
 | some (.struct fields)=>fields.toList.mapM (fun f=>(P.info? f.type).map fun i=>(f.offset,i.size))
 | _=>none
def fillA (pl : List (Nat × Nat)) : List AV → List (Nat × List AV) → Option (List AV)
 | cs,[]=>some cs
 | cs,p :: ps=>match pl[p.1]? with
  | some q=>if p.2.length = q.2 ∧ q.1 + q.2 ≤ cs.length then fillA pl (splice cs q.1 p.2) ps else none
  | none=>none
def ebuild (P : Program) (σ : St) (t : TypeId) (ps : List (Nat × Operand)) : Option Eff :=
 match tinfo P t,blist P t,parts σ ps with
 | some i,some pl,some q=>match i.zero with
  | some z=>match fillA pl z q.2 with
   | some cs=>some ⟨q.1,.agg cs,σ.hp,σ.nx⟩
   | none=>none
  | none=>none
 | _,_,_=>none

section
variable {P : Program} {m : Mem} {a : Act} {σ : St}

theorem fillA_sound {m : Mem} {kk : Nat} {pl : List (Nat × Nat)} {place : Nat → Option (Nat × Nat)} (hpl : ∀ i q,pl[i]? = some q → place i = some q) {ps : List (Nat × List AV)} {vs : List (Nat × Value)}
  (h : PartsAre m kk ps vs) : ∀ {cs cs' : List AV} {c : Array Value},RepL m kk cs c.toList → fillA pl cs ps = some cs' → ∃ c',Instr.fill place c vs = some c' ∧ RepL m kk cs' c'.toList:=by
 induction h with
 | nil =>
  intro cs cs' c hl h
  simp only [fillA,Option.some.injEq] at h
  subst h
  exact ⟨c,rfl,hl⟩
 | @cons i l v ps vs h _ ih =>
  intro cs cs' c hl hf
  simp only [fillA] at hf
  split at hf
  case h_2=>cases hf
  rename_i q hq
  split at hf
  case isFalse=>cases hf
  rename_i hc
  have hv : v.cells.size = q.2:=by rw [← hc.1,← h.length]; simp
  have hsz : c.size = cs.length:=by rw [← hl.length]; simp
  have hsp:=fold_splice v.cells.toList q.1 0 c (by simp [hv,hsz]; exact hc.2)
  obtain ⟨c',g1,g2⟩:=ih (c:=(v.cells.zipIdx.foldl (fun cs (p : Value × Nat)=>cs.setIfInBounds (q.1 + p.2) p.1) c)) (by
   rw [← Array.foldl_toList,Array.toList_zipIdx,hsp,Nat.add_zero]
   exact hl.splice h q.1) hf
  refine ⟨c',?_,g2⟩
  simp only [Instr.fill,hpl i q hq]
  rw [if_neg (by simp [hv,hsz]; exact hc.2)]
  exact g1

theorem ebuild_sound (hS : Sim m a σ) {o : Oper} {t : TypeId} {ps : Array (Nat × Operand)} {e : Eff} (ho : o.op = .build t ps) (h : ebuild P σ t ps.toList = some e) (hob : e.ob) :
  EffOk P m a o e:=by
 unfold ebuild at h
 split at h
 case h_2=>cases h
 rename_i i pl q hi hpl hq
 split at h
 case h_2=>cases h
 rename_i z hz
 split at h
 case h_2=>cases h
 rename_i cs hcs
 simp only [Option.some.injEq] at h
 subst h
 have hP:=parts_sound hS hq hob
 obtain ⟨ti,d,h1,h2,rfl⟩:=tinfo_parts hi
 simp only at hz
 cases hzv : ti.zero with
 | none=>rw [hzv] at hz; cases hz
 | some zv =>
  rw [hzv] at hz
  simp only [Option.map_some,Option.some.injEq] at hz
  have hl : RepL m 0 z zv.cells.toList:=by rw [← hz]; exact RepL.const _
  have hmap : ((ps.map fun (i,x)=>(i,a.eval x)).toList) = ps.toList.map fun p=>(p.1,a.eval p.2):=by simp
  have hbuilt : ∃ c',P.built t ((ps.map fun (i,x)=>(i,a.eval x)).toList) = some c' ∧ RepL m 0 cs c'.toList:=by
   unfold blist at hpl
   rw [h2] at hpl
   rw [hmap]
   unfold Program.built
   rw [h1,h2]
   cases d with
   | array n e =>
    simp only at hpl ⊢
    cases hie : P.info? e with
    | none=>rw [hie] at hpl; cases hpl
    | some ie =>
     rw [hie] at hpl
     simp only [Option.map_some,Option.some.injEq] at hpl
     simp only [hzv]
     exact fillA_sound (pl:=pl) (by
      intro j r hj
      rw [← hpl,List.getElem?_map] at hj
      cases hr : (List.range n)[j]? with
      | none=>rw [hr] at hj; cases hj
      | some k =>
       rw [hr] at hj
       by_cases hjn : j < n
       ·rw [List.getElem?_range hjn] at hr
        injection hr with hr
        subst hr
        simpa using hj
       ·rw [List.getElem?_eq_none (by simpa using hjn)] at hr
        cases hr) hP hl hcs
   | struct fields =>
    simp only at hpl ⊢
    rw [hpl,hzv]
    simp only
    exact fillA_sound (pl:=pl) (by intro j r hj; simpa using hj) hP hl hcs
   | _=>cases hpl
  obtain ⟨c',hb,hr⟩:=hbuilt
  refine ⟨.agg c',m,.inl ?_,.refl m,.refl m,hS.h,by simp only [Rep]; exact ⟨_,rfl,hr⟩⟩
  simp only [execOp,ho]
  exact run_value (run_build _ _ _ _ hb)

/-! ### all of them -/
def effOp (P : Program) (σ : St) (o : Op) : Option Eff :=
 match o with
 | .alloc t=>ealloc P σ t
 | .box _ x=>ebox σ x
 | .store t x y=>estoreA P σ t x y
 | .buildSlice t n ps=>ebuildSl P σ t n ps.toList
 | .build t ps=>ebuild P σ t ps.toList
 | .makeSlice t l c=>emake P σ t l c
 | .convert s d x=>econv P σ s d x
 | .call c=>match c.callee with
  | .builtin b=>match b with
   | .append=>match c.args.toList,c.argTypes.toList with
    | [x,y],[t,u]=>eappend P σ t u x y
    | _,_=>none
   | _=>none
  | _=>none
 | _=>none

theorem effOp_sound (hS : Sim m a σ) {o : Oper} {e : Eff} (h : effOp P σ o.op = some e) (hob : e.ob) : EffOk P m a o e:=by
 unfold effOp at h
 split at h
 case h_9=>cases h
 ·exact ealloc_sound hS ‹_› h
 ·exact ebox_sound hS ‹_› h hob
 ·exact estoreA_sound hS ‹_› h hob
 ·exact ebuildSl_sound hS ‹_› h hob
 ·exact ebuild_sound hS ‹_› h hob
 ·exact emake_sound hS ‹_› h hob
 ·exact econv_sound hS ‹_› h hob
 ·rename_i c ho
  obtain ⟨callee,args,argTypes⟩:=c
  simp only at h
  split at h
  case h_2=>cases h
  rename_i b
  split at h
  case h_2=>cases h
  split at h
  case h_2=>cases h
  rename_i x y t u hx ht
  have e1 : args = #[x,y]:=by rw [← Array.toList_inj]; exact hx
  have e2 : argTypes = #[t,u]:=by rw [← Array.toList_inj]; exact ht
  subst e1 e2
  obtain ⟨v,m',g1,g2,g3,g4,g5⟩:=eappend_sound (ty:=o.type) hS h hob
  refine ⟨v,m',.inl ?_,g2,g3,g4,g5⟩
  simp only [execOp,ho]
  show (do pure (Next.value (← Builtin.append_ #[t,u] o.type ((#[x,y] : Array Operand).map a.eval))) : Sem Next).run P m.w = _
  have e3 : (#[x,y] : Array Operand).map a.eval = #[a.eval x,a.eval y]:=by simp
  rw [e3]
  exact run_value g1
end
end Aw

namespace Aw
open Go

inductive AX where
 | normal
 | exit (id : Nat)
 | ret
 | panic (x : AV)

def exOk (m : Mem) (x : AX) (e : Exit) : Prop :=
 match x with
 | .normal=>e = .normal
 | .exit id=>e = .exit id
 | .ret=>e = .ret
 | .panic x=>∃ v,e = .panic [{ v,recovered:=false }] ∧ Rep m 0 x v

def Post (m0 : Mem) (Q : AX → St → Prop) (e : Exit) (a : Act) (w : World) : Prop :=
 ∃ m σ x,m.w = w ∧ m0.le m ∧ Sim m a σ ∧ exOk m x e ∧ Q x σ

def AW (P : Program) (c : Code) (σ : St) (Q : AX → St → Prop) : Prop :=
 ∀ m a,Sim m a σ → c.wp P (Post m Q) a m.w

theorem Post.trans {m0 m : Mem} {Q : AX → St → Prop} {e : Exit} {a : Act} {w : World} (h : m0.le m) (hp : Post m Q e a w) : Post m0 Q e a w:=by
 obtain ⟨m',σ,x,h1,h2,h3,h4,h5⟩:=hp
 exact ⟨m',σ,x,h1,h.trans h2,h3,h4,h5⟩

def St.le (σ' σ : St) : Prop:=∀ m a,Sim m a σ → ∃ m',m'.w = m.w ∧ m.le m' ∧ Sim m' a σ'
theorem St.le.refl (σ : St) : St.le σ σ:=fun m _ h=>⟨m,rfl,.refl m,h⟩
theorem St.le.trans {σ σ' σ'' : St} (h : St.le σ'' σ') (h' : St.le σ' σ) : St.le σ'' σ:=fun m a hS=>by
 obtain ⟨m1,e1,l1,s1⟩:=h' m a hS
 obtain ⟨m2,e2,l2,s2⟩:=h m1 a s1
 exact ⟨m2,e2.trans e1,l1.trans l2,s2⟩

section
variable {P : Program} {σ : St} {Q : AX → St → Prop}

theorem AW.pre {c : Code} {σ' : St} (h : St.le σ' σ) (hw : AW P c σ' Q) : AW P c σ Q:=fun m a hS=>by
 obtain ⟨m1,e1,l1,s1⟩:=h m a hS
 rw [← e1]
 exact wp_mono (hw m1 a s1) fun _ _ _ hp=>hp.trans l1
theorem AW.mono {c : Code} {Q' : AX → St → Prop} (h : AW P c σ Q) (hq : ∀ x σ,Q x σ → Q' x σ) : AW P c σ Q':=fun m a hS =>
 wp_mono (h m a hS) fun _ _ _ ⟨m',σ,x,h1,h2,h3,h4,h5⟩=>⟨m',σ,x,h1,h2,h3,h4,hq _ _ h5⟩

def andThen (next : St → Prop) (Q : AX → St → Prop) (x : AX) (σ : St) : Prop :=
 match x with
 | .normal=>next σ
 | y=>Q y σ

theorem AW.seq {x y : Code} (h : AW P x σ (andThen (fun σ'=>AW P y σ' Q) Q)) : AW P (.seq x y) σ Q:=fun m a hS=>by
 refine wp_seq (wp_mono (h m a hS) ?_)
 rintro e a' w' ⟨m',σ',ax,rfl,hle,hS',hex,hq⟩
 cases ax with
 | normal =>
  simp only [exOk] at hex
  subst hex
  exact wp_mono (hq m' a' hS') fun _ _ _ hp=>hp.trans hle
 | exit id =>
  simp only [exOk] at hex
  subst hex
  exact ⟨m',σ',.exit id,rfl,hle,hS',rfl,hq⟩
 | ret =>
  simp only [exOk] at hex
  subst hex
  exact ⟨m',σ',.ret,rfl,hle,hS',rfl,hq⟩
 | panic z =>
  simp only [exOk] at hex
  obtain ⟨v,rfl,hv⟩:=hex
  exact ⟨m',σ',.panic z,rfl,hle,hS',⟨v,rfl,hv⟩,hq⟩

theorem AW.skip (h : Q .normal σ) : AW P .skip σ Q:=fun m _ hS=>wp_skip ⟨m,σ,.normal,rfl,.refl m,hS,rfl,h⟩
theorem AW.ret (h : Q .ret σ) : AW P .ret σ Q:=fun m _ hS=>wp_ret ⟨m,σ,.ret,rfl,.refl m,hS,rfl,h⟩
theorem AW.exit {id : Nat} (h : Q (.exit id) σ) : AW P (.exit id) σ Q:=fun m _ hS=>wp_exit ⟨m,σ,.exit id,rfl,.refl m,hS,rfl,h⟩

def testOf (σ : St) (c : Operand) : Option (Prop × Bool) :=
 match evE σ c with
 | some p=>match p.2 with
  | .bool b=>some (p.1,b)
  | _=>none
 | none=>none
theorem testOf_sound {m : Mem} {a : Act} (hS : Sim m a σ) {c : Operand} {p : Prop} {b : Bool} (h : testOf σ c = some (p,b)) (hp : p) : a.eval c = .bool b:=by
 unfold testOf at h
 split at h
 case h_2=>cases h
 rename_i q hq
 split at h
 case h_2=>cases h
 rename_i b' hb
 simp only [Option.some.injEq,Prod.mk.injEq] at h
 obtain ⟨rfl,rfl⟩:=h
 have:=evE_sound hS hq hp
 rw [hb] at this
 simpa only [Rep] using this

theorem AW.cond {c : Operand} {x y : Code} {p : Prop} {b : Bool} (hc : testOf σ c = some (p,b)) (hp : p) (h1 : b = true → AW P x σ Q) (h2 : b = false → AW P y σ Q) :
  AW P (.cond c x y) σ Q:=fun m a hS =>
 wp_cond_split (testOf_sound hS hc hp) (fun h=>h1 h m a hS) (fun h=>h2 h m a hS)

def unblock (id : Nat) (Q : AX → St → Prop) (x : AX) (σ : St) : Prop :=
 match x with
 | .exit id'=>if id' = id then Q .normal σ else Q (.exit id') σ
 | y=>Q y σ
theorem AW.block {id : Nat} {c : Code} (h : AW P c σ (unblock id Q)) : AW P (.block id c) σ Q:=fun m a hS=>by
 refine wp_block (wp_mono (h m a hS) ?_)
 rintro e a' w' ⟨m',σ',ax,rfl,hle,hS',hex,hq⟩
 cases ax with
 | normal =>
  simp only [exOk] at hex
  subst hex
  exact ⟨m',σ',.normal,rfl,hle,hS',rfl,hq⟩
 | exit id' =>
  simp only [exOk] at hex
  subst hex
  simp only [unblock] at hq
  simp only [Exit.inBlock]
  by_cases h : id' = id
  ·rw [if_pos h] at hq ⊢
   exact ⟨m',σ',.normal,rfl,hle,hS',rfl,hq⟩
  ·rw [if_neg h] at hq ⊢
   exact ⟨m',σ',.exit id',rfl,hle,hS',rfl,hq⟩
 | ret =>
  simp only [exOk] at hex
  subst hex
  exact ⟨m',σ',.ret,rfl,hle,hS',rfl,hq⟩
 | panic z =>
  simp only [exOk] at hex
  obtain ⟨v,rfl,hv⟩:=hex
  exact ⟨m',σ',.panic z,rfl,hle,hS',⟨v,rfl,hv⟩,hq⟩

theorem wp_loop_ghost {S : Type} {c : Code} {Q : Exit → Act → World → Prop} {a : Act} {w : World} (I : S → Act → World → Prop) (μ : S → Nat) (s : S) (h₀ : I s a w)
  (round : ∀ s a w,I s a w → c.wp P (Exit.then (fun a' w'=>∃ s',I s' a' w' ∧ μ s' < μ s) Q) a w) : (Code.loop c).wp P Q a w:=by
 intro b k cs
 have key : ∀ n s a w,μ s = n → I s a w →
   ∃ e a' w',Q e a' w' ∧ Arrives P (lone (b.at a (.code c :: .inLoop c :: k)) cs w) b k cs e a' w':=by
  intro n
  induction n using Nat.strongRecOn with
  | _ n ih =>
   intro s a w hn hI
   obtain ⟨e,a₁,w₁,hq,harr⟩:=round s a w hI b (.inLoop c :: k) cs
   cases e with
   | normal =>
    obtain ⟨s₁,hI₁,hlt⟩:=hq
    obtain ⟨e₂,a₂,w₂,hq₂,harr₂⟩:=ih (μ s₁) (hn ▸ hlt) s₁ a₁ w₁ rfl hI₁
    exact ⟨e₂,a₂,w₂,hq₂,.of_steps (Steps.trans harr (.one step_inLoop)) harr₂⟩
   | exit id=>exact ⟨_,a₁,w₁,hq,.pass (x:=.inLoop c) rfl (fun _ _=>.inl (by simp)) harr⟩
   | goto l=>exact ⟨_,a₁,w₁,hq,.pass (x:=.inLoop c) rfl (fun _ _=>.inl (by simp)) harr⟩
   | ret=>exact ⟨_,a₁,w₁,hq,.pass (x:=.inLoop c) rfl (fun _ _=>.inl (by simp)) harr⟩
   | panic ch=>exact ⟨_,a₁,w₁,hq,.pass (x:=.inLoop c) rfl (fun _ _=>.inl (by simp)) harr⟩
   | outgrown=>exact ⟨_,a₁,w₁,hq,.pass (x:=.inLoop c) rfl (fun _ _=>.inl (by simp)) harr⟩
 obtain ⟨e,a',w',hq,harr⟩:=key _ s a w rfl h₀
 exact ⟨e,a',w',hq,.of_steps (.one step_loop) harr⟩

theorem AW.loop {S : Type} {c : Code} (I : S → St) (μ : S → Nat) (s : S) (h₀ : St.le (I s) σ)
  (round : ∀ s,AW P c (I s) (andThen (fun σ'=>∃ s',St.le (I s') σ' ∧ μ s' < μ s) Q)) : AW P (.loop c) σ Q:=fun m a hS=>by
 obtain ⟨m0,e0,l0,s0⟩:=h₀ m a hS
 rw [← e0]
 refine wp_loop_ghost (fun s a w=>∃ m',m'.w = w ∧ m0.le m' ∧ Sim m' a (I s)) μ s ⟨m0,rfl,.refl m0,s0⟩ ?_
 rintro s a w ⟨m1,rfl,l1,s1⟩
 refine wp_mono (round s m1 a s1) ?_
 rintro e a' w' ⟨m',σ',ax,rfl,hle,hS',hex,hq⟩
 cases ax with
 | normal =>
  simp only [exOk] at hex
  subst hex
  obtain ⟨s',hle',hlt⟩:=hq
  obtain ⟨m2,e2,l2,s2⟩:=hle' m' a' hS'
  exact ⟨s',⟨m2,e2,(l1.trans hle).trans l2,s2⟩,hlt⟩
 | exit id' =>
  simp only [exOk] at hex
  subst hex
  exact ⟨m',σ',.exit id',rfl,l0.trans (l1.trans hle),hS',rfl,hq⟩
 | ret =>
  simp only [exOk] at hex
  subst hex
  exact ⟨m',σ',.ret,rfl,l0.trans (l1.trans hle),hS',rfl,hq⟩
 | panic z =>
  simp only [exOk] at hex
  obtain ⟨v,rfl,hv⟩:=hex
  exact ⟨m',σ',.panic z,rfl,l0.trans (l1.trans hle),hS',⟨v,rfl,hv⟩,hq⟩

/-! ### a region -/
def dstOk (n : Nat) (d : Option Tmp) : Bool :=
 match d with
 | none=>true
 | some d=>decide (d < n)
def St.put (σ : St) (d : Option Tmp) (x : AV) : St :=
 match d with
 | none=>σ
 | some d=>⟨σ.n,set σ.env d x,σ.hp,σ.nx,σ.gl,σ.np,σ.df⟩
theorem Sim.put {m m' : Mem} {a : Act} (hS : Sim m a σ) (hk : m.keeps m') {hp : List (Nat × ABlk)} {nx : Nat} (hH : SimH m' hp nx) {d : Option Tmp} (hd : dstOk σ.n d = true) {x : AV} {v : Value}
  (hv : Rep m' 0 x v) : Sim m' (a.put d v) (St.put ⟨σ.n,σ.env,hp,nx,σ.gl,σ.np,σ.df⟩ d x):=by
 have h0:=hS.of hk hH
 cases d with
 | none=>exact h0
 | some d =>
  simp only [dstOk,decide_eq_true_eq] at hd
  refine ⟨hH,?_,?_,?_,h0.gl,h0.np⟩
  ·simp only [Act.put,St.put,Array.size_setIfInBounds]; exact h0.n
  ·exact h0.defers
  ·intro t y hy
   simp only [St.put,get_set] at hy ⊢
   split at hy
   ·rename_i e
    subst e
    injection hy with hy
    subst hy
    refine ⟨hd,?_⟩
    have : (a.put (some d) v).tmps.getD d undef = v:=by
     have hlt : d < a.tmps.size:=by rw [hS.n]; exact hd
     simp [Act.put,hlt]
    rw [this]
    exact hv
   ·rename_i hne
    obtain ⟨h1,h2⟩:=h0.env t y hy
    refine ⟨h1,?_⟩
    have : (a.put (some d) v).tmps.getD t undef = a.tmps.getD t undef:=by
     simp [Act.put,Array.getElem?_setIfInBounds_ne hne]
    rw [this]
    exact h2

def isEff (o : Op) : Bool :=
 match o with
 | .move _=>false
 | .assign _=>false
 | .pick _ _ _=>false
 | .load _ _=>false
 | .nilCheck _=>false
 | .binOp _ _ _ _ _=>false
 | .unOp _ _ _=>false
 | .makeInterface _ _=>false
 | .makeFunc _ _ _=>false
 | .fieldAddr _ _ _=>false
 | .field _ _ _=>false
 | .indexAddr _ _ _=>false
 | .index _ _ _=>false
 | .slice _ _ _ _ _=>false
 | .extract _ _=>false
 | .typeAssert _ _ _ _=>false
 | .call c=>match c.callee with
  | .builtin b=>match b with
   | .len=>false
   | .min=>false
   | .max=>false
   | _=>true
  | _=>true
 | _=>true
theorem effOp_isEff {o : Op} {e : Eff} (h : effOp P σ o = some e) : isEff o = true:=by
 unfold effOp at h
 split at h <;> first | rfl | (cases h; done) | skip
 rename_i c
 split at h
 case h_2=>cases h
 rename_i b hb
 split at h
 case h_2=>cases h
 simp only [isEff,hb]

def isAlloc (o : Op) : Bool:=match o with
 | .alloc _=>true
 | .box _ _=>true
 | _=>false
def isLoad (o : Op) : Bool:=match o with
 | .load _ _=>true
 | _=>false
theorem effOp_ext {m : Mem} {o : Op} {e : Eff} (hH : SimH m σ.hp σ.nx) (hA : isAlloc o = true) (h : effOp P σ o = some e) : ∀ id b,get σ.hp id = some b → get e.hp id = some b:=by
 intro id b hb
 have hne : σ.nx ≠ id:=by
  rintro rfl
  obtain ⟨ri,h1,_⟩:=hH.blk _ _ hb
  rw [hH.fresh _ (Nat.le_refl _)] at h1
  cases h1
 cases o <;> first | (cases hA; done) | skip
 ·simp only [effOp,ealloc] at h
  split at h
  ·split at h
   ·injection h with h
    subst h
    simp only [get_set,if_neg hne]
    exact hb
   ·cases h
  ·cases h
 ·simp only [effOp,ebox] at h
  repeat' split at h
  all_goals first | (cases h; done) | (injection h with h; subst h; simp only [get_set,if_neg hne]; exact hb)
structure Keeps (o : Oper) (σ σ' : St) : Prop where
 n : σ'.n = σ.n
 gl : σ'.gl = σ.gl
 np : σ'.np = σ.np
 df : σ'.df = σ.df
 env : ∀ t,o.dst ≠ some t → get σ'.env t = get σ.env t
 hp : isEff o.op = false → σ'.hp = σ.hp ∧ σ'.nx = σ.nx
 hpA : isAlloc o.op = true → ∀ id b,get σ.hp id = some b → get σ'.hp id = some b

theorem get_put_ne {d : Option Tmp} {x : AV} {t : Nat} (h : d ≠ some t) : get (St.put σ d x).env t = get σ.env t:=by
 cases d with
 | none=>rfl
 | some d =>
  simp only [St.put,get_set]
  rw [if_neg (fun e=>h (by rw [e]))]
theorem Keeps.put {o : Oper} {x : AV} : Keeps o σ (σ.put o.dst x) :=
 ⟨by cases o.dst <;> rfl,by cases o.dst <;> rfl,by cases o.dst <;> rfl,by cases o.dst <;> rfl,fun _ h=>get_put_ne h,fun _=>by cases o.dst <;> exact ⟨rfl,rfl⟩,fun _ _ _ h=>by cases o.dst <;> exact h⟩
theorem Keeps.eff {o : Oper} {x : AV} {hp : List (Nat × ABlk)} {nx : Nat} (h : isEff o.op = true) (hA : isAlloc o.op = false) : Keeps o σ (St.put ⟨σ.n,σ.env,hp,nx,σ.gl,σ.np,σ.df⟩ o.dst x) :=
 ⟨by cases o.dst <;> rfl,by cases o.dst <;> rfl,by cases o.dst <;> rfl,by cases o.dst <;> rfl,fun _ h=>get_put_ne (σ:=⟨σ.n,σ.env,hp,nx,σ.gl,σ.np,σ.df⟩) h,fun h'=>(by rw [h] at h'; cases h'),fun h'=>(by rw [hA] at h'; cases h')⟩

theorem Keeps.effA {m : Mem} {o : Oper} {e : Eff} (hH : SimH m σ.hp σ.nx) (h : effOp P σ o.op = some e) : Keeps o σ (St.put ⟨σ.n,σ.env,e.hp,e.nx,σ.gl,σ.np,σ.df⟩ o.dst e.val):=by
 cases hA : isAlloc o.op with
 | false=>exact .eff (effOp_isEff h) hA
 | true =>
  have hE:=effOp_ext hH hA h
  exact ⟨by cases o.dst <;> rfl,by cases o.dst <;> rfl,by cases o.dst <;> rfl,by cases o.dst <;> rfl,fun _ h=>get_put_ne (σ:=⟨σ.n,σ.env,e.hp,e.nx,σ.gl,σ.np,σ.df⟩) h,fun h'=>(by rw [effOp_isEff h] at h'; cases h'),fun _ id b hb=>by cases o.dst <;> exact hE id b hb⟩

def Leaves (o : Oper) (a a' : Act) : Prop:=∀ t,o.dst ≠ some t → a'.tmps.getD t undef = a.tmps.getD t undef
theorem Leaves.put {o : Oper} {a : Act} {v : Value} : Leaves o a (a.put o.dst v):=by
 intro t h
 cases hd : o.dst with
 | none=>rfl
 | some d =>
  have hne : d ≠ t:=fun e=>h (by rw [hd,e])
  simp [Act.put,Array.getElem?_setIfInBounds_ne hne]

def SemStep (P : Program) (σ : St) (o : Oper) (K : St → Prop) (Kp : AV → St → Prop) : Prop :=
 ∀ (m : Mem) (a : Act) (N : Act → World → Prop) (Q : Exit → Act → World → Prop),Sim m a σ →
  (∀ m' a' σ',m.le m' → m.keeps m' → Sim m' a' σ' → Keeps o σ σ' → Leaves o a a' → K σ' → N a' m'.w) →
  (∀ m' σ' x v,m.le m' → m.keeps m' → Sim m' a σ' → Rep m' 0 x v → (∀ t,get σ'.env t = get σ.env t) → Kp x σ' → Q (.panic [{ v,recovered:=false }]) a m'.w) → o.wp P a m.w N Q

def awStep (P : Program) (o : Oper) (σ : St) (K : St → Prop) (Kp : AV → St → Prop) : Prop :=
 match pureOp P σ true o.op with
 | some r=>dstOk σ.n o.dst = true ∧ r.1 ∧ K (σ.put o.dst r.2)
 | none=>match effOp P σ o.op with
  | some e=>dstOk σ.n o.dst = true ∧ e.ob ∧ K (St.put ⟨σ.n,σ.env,e.hp,e.nx,σ.gl,σ.np,σ.df⟩ o.dst e.val)
  | none=>SemStep P σ o K Kp

theorem awStep_sound {o : Oper} {K : St → Prop} {Kp : AV → St → Prop} (h : awStep P o σ K Kp) : SemStep P σ o K Kp:=by
 unfold awStep at h
 split at h
 ·rename_i r hr
  obtain ⟨h1,h2,h3⟩:=h
  intro m a N Q hS hK _
  obtain ⟨v,hrun,hrep⟩:=pureOp_sound hS rfl hr h2
  unfold Oper.wp
  rw [hrun]
  exact hK m _ _ (.refl m) (.refl m) (hS.put (.refl m) hS.h h1 hrep) .put .put h3
 ·split at h
  ·rename_i e he
   obtain ⟨h1,h2,h3⟩:=h
   intro m a N Q hS hK _
   obtain ⟨v,m',hrun,hle,hk,hH,hrep⟩:=effOp_sound hS he h2
   unfold Oper.wp
   rcases hrun with hrun | ⟨hrun,rfl⟩
   ·rw [hrun]
    exact hK m' _ _ hle hk (hS.put hk hH h1 hrep) (.effA hS.h he) .put h3
   ·rw [hrun]
    exact hK m' _ _ hle hk (hS.put hk hH h1 hrep) (.effA hS.h he) .put h3
  ·exact h

def gOf (want : Bool) (x : AV) : Option Bool :=
 match x with
 | .bool b=>some (b == want)
 | .opt c y=>match y with
  | .bool b=>some (c && (b == want))
  | _=>none
 | .raw v=>match v with
  | .tuple _=>some false
  | _=>none
 | _=>none
def gAt (ds : List (Option Tmp)) (σ : St) (j : Nat) (want : Bool) : Option Bool :=
 match ds[j]? with
 | some (some d)=>match get σ.env d with
  | some x=>gOf want x
  | none=>none
 | _=>none

def awGuard (P : Program) (ds : List (Option Tmp)) (o : Oper) (σ : St) (K : St → Prop) (Kp : AV → St → Prop) : Prop :=
 match o.guard with
 | none=>awStep P o σ K Kp
 | some p=>match gAt ds σ p.1 p.2 with
  | none=>False
  | some g=>match pureOp P σ g o.op with
   | some r=>dstOk σ.n o.dst = true ∧ (g = true → r.1) ∧ K (σ.put o.dst (.opt g r.2))
   | none=>((g = true → awStep P o σ K Kp) ∧ (g = false → dstOk σ.n o.dst = true ∧ K (σ.put o.dst (.raw undef)))) ∨
    ∃ y,dstOk σ.n o.dst = true ∧ (g = true → SemStep P σ o (fun σ'=>σ' = σ.put o.dst y) Kp) ∧ K (σ.put o.dst (.opt g y))

def awOps (P : Program) (ds : List (Option Tmp)) : List Oper → St → (St → Prop) → (AV → St → Prop) → Prop
 | [],σ,K,_=>K σ
 | o :: rest,σ,K,Kp=>awGuard P ds o σ (fun σ'=>awOps P ds rest σ' K Kp) Kp

theorem Sim.opt {m : Mem} {a : Act} {d : Option Tmp} {g : Bool} {y : AV} (hg : g = true) (hS : Sim m a (σ.put d y)) : Sim m a (σ.put d (.opt g y)):=by
 cases d with
 | none=>exact hS
 | some d =>
  refine ⟨hS.h,hS.n,hS.defers,?_,hS.gl,hS.np⟩
  intro t x hx
  simp only [St.put,get_set] at hx
  split at hx
  ·rename_i e
   subst e
   injection hx with hx
   subst hx
   obtain ⟨h1,h2⟩:=hS.env d y (by simp [St.put,get_set])
   refine ⟨h1,?_⟩
   simp only [Rep]
   exact ⟨fun _=>h2,fun h=>(by rw [hg] at h; cases h)⟩
  ·rename_i e
   exact hS.env t x (by simp only [St.put,get_set,if_neg e]; exact hx)

def boolOf (v : Value) : Option Bool :=
 match v with
 | .bool b=>some b
 | _=>none
theorem yielded_eq {ops : Array Oper} {tmps : Array Value} {j d : Nat} {u : Value} (h1 : (ops[j]?).bind (·.dst) = some d) (h2 : tmps[d]? = some u) :
  yielded ops tmps j = boolOf u:=by
 unfold yielded
 rw [h1,Option.bind_some,h2]
 cases u <;> rfl

theorem gAt_sound {m : Mem} {a : Act} (hS : Sim m a σ) {ops : Array Oper} {j : Nat} {want g : Bool} (h : gAt (ops.toList.map (·.dst)) σ j want = some g) :
  (yielded ops a.tmps j == some want) = g:=by
 unfold gAt at h
 split at h
 case h_2=>cases h
 rename_i d hd
 split at h
 case h_2=>cases h
 rename_i x hx
 obtain ⟨hlt,hr⟩:=hS.env d x hx
 have hdst : (ops[j]?).bind (·.dst) = some d:=by
  rw [List.getElem?_map] at hd
  cases ho : ops.toList[j]? with
  | none=>rw [ho] at hd; cases hd
  | some o =>
   rw [ho] at hd
   have : ops[j]? = some o:=by rw [← ho]; simp
   rw [this]
   simpa using hd
 have hlt' : d < a.tmps.size:=by rw [hS.n]; exact hlt
 have hv : a.tmps[d]? = some (a.tmps.getD d undef):=by
  rw [Array.getElem?_eq_getElem hlt']
  simp [Array.getD,hlt']
 generalize hu : a.tmps.getD d undef = u at hr hv
 rw [yielded_eq hdst hv]
 clear hv hu
 unfold gOf at h
 split at h
 ·simp only [Rep] at hr
  subst hr
  simp only [Option.some.injEq] at h
  rw [← h]
  rfl
 ·rename_i c y
  split at h
  case h_2=>cases h
  rename_i b
  simp only [Option.some.injEq] at h
  simp only [Rep] at hr
  cases hc : c with
  | true =>
   have:=hr.1 hc
   subst this
   rw [← h,hc]
   rfl
  | false =>
   have:=hr.2 hc
   subst this
   rw [← h,hc]
   rfl
 ·rename_i v
  split at h
  case h_2=>cases h
  simp only [Option.some.injEq] at h
  simp only [Rep] at hr
  subst hr
  rw [← h]
  rfl
 ·cases h

theorem awOps_sound {ops : Array Oper} {Q : Exit → Act → World → Prop} {K : St → Prop} {Kp : AV → St → Prop} (m0 : Mem)
  (hK : ∀ m a σ,m0.le m → Sim m a σ → K σ → Q .normal a m.w) (hKp : ∀ m a σ x v,m0.le m → Sim m a σ → Rep m 0 x v → Kp x σ → Q (.panic [{ v,recovered:=false }]) a m.w) :
  ∀ (l : List Oper) (σ : St),awOps P (ops.toList.map (·.dst)) l σ K Kp → ∀ m a,m0.le m → Sim m a σ → wpList P ops Q l a m.w
 | [],σ,h,m,a,hle,hS=>hK m a σ hle hS h
 | o :: rest,σ,h,m,a,hle,hS=>by
  have ih:=awOps_sound (ops:=ops) (Q:=Q) (K:=K) (Kp:=Kp) m0 hK hKp rest
  have hstep : ∀ {σ : St},SemStep P σ o (fun σ'=>awOps P (ops.toList.map (·.dst)) rest σ' K Kp) Kp → Sim m a σ → o.wp P a m.w (wpList P ops Q rest) Q:=fun h hS =>
   h m a _ _ hS (fun m' a' σ' hle' _ hS' _ _ h'=>ih σ' h' m' a' (hle.trans hle') hS') (fun m' σ' x v hle' _ hS' hx _ h'=>hKp m' a σ' x v (hle.trans hle') hS' hx h')
  simp only [awOps] at h
  unfold awGuard at h
  unfold wpList
  cases hg : o.guard with
  | none =>
   rw [hg] at h
   simp only at h
   rw [if_pos (by simp [Region.wanted,hg])]
   exact .inl (hstep (awStep_sound h) hS)
  | some p =>
   rw [hg] at h
   simp only at h
   cases hgv : gAt (ops.toList.map (·.dst)) σ p.1 p.2 with
   | none=>rw [hgv] at h; exact h.elim
   | some g =>
    rw [hgv] at h
    simp only at h
    have hw : Region.wanted o (yielded ops a.tmps) = g:=by
     simp only [Region.wanted,hg]
     exact gAt_sound hS hgv
    cases hp : pureOp P σ g o.op with
    | some r =>
     rw [hp] at h
     simp only at h
     obtain ⟨h1,h2,h3⟩:=h
     cases hgb : g with
     | true =>
      rw [if_pos (by rw [hw,hgb])]
      left
      obtain ⟨v,hrun,hrep⟩:=pureOp_sound hS hgb hp (h2 hgb)
      unfold Oper.wp
      rw [hrun]
      refine ih _ h3 m _ hle (hS.put (.refl m) hS.h h1 ?_)
      simp only [Rep]
      exact ⟨fun _=>hrep,fun h=>(by rw [hgb] at h; cases h)⟩
     | false =>
      rw [if_neg (by rw [hw,hgb]; simp)]
      refine ih _ h3 m _ hle (hS.put (.refl m) hS.h h1 ?_)
      simp only [Rep]
      exact ⟨fun h=>(by rw [hgb] at h; cases h),fun _=>trivial⟩
    | none =>
     rw [hp] at h
     simp only at h
     rcases h with h | ⟨y,hd,h1,h2⟩
     ·cases hgb : g with
      | true =>
       rw [if_pos (by rw [hw,hgb])]
       exact .inl (hstep (awStep_sound (h.1 hgb)) hS)
      | false =>
       rw [if_neg (by rw [hw,hgb]; simp)]
       obtain ⟨h1,h2⟩:=h.2 hgb
       exact ih _ h2 m _ hle (hS.put (.refl m) hS.h h1 (by simp only [Rep]))
     ·cases hgb : g with
      | true =>
       rw [if_pos (by rw [hw,hgb])]
       rw [hgb] at h2
       exact .inl (h1 hgb m a _ _ hS (fun m' a' σ' hle' _ hS' _ _ h'=>ih _ h2 m' a' (hle.trans hle') (Sim.opt rfl (h' ▸ hS')))
        (fun m' σ' x v hle' _ hS' hx _ h'=>hKp m' a σ' x v (hle.trans hle') hS' hx h'))
      | false =>
       rw [if_neg (by rw [hw,hgb]; simp)]
       rw [hgb] at h2
       exact ih _ h2 m _ hle (hS.put (.refl m) hS.h hd (by simp only [Rep]; exact ⟨fun h=>(by cases h),fun _=>trivial⟩))

theorem AW.region {id : Nat} {ops : Array Oper} (h : awOps P (ops.toList.map (·.dst)) ops.toList σ (fun σ'=>Q .normal σ') (fun x σ'=>Q (.panic x) σ')) :
  AW P (.region id ops false) σ Q:=fun m a hS=>by
 refine wp_region_list (awOps_sound m ?_ ?_ ops.toList σ h m a (.refl m) hS)
 ·intro m' a' σ' hle hS' h'
  exact ⟨m',σ',.normal,rfl,hle,hS',rfl,h'⟩
 ·intro m' a' σ' x v hle hS' hx h'
  exact ⟨m',σ',.panic x,rfl,hle,hS',⟨v,rfl,hx⟩,h'⟩
end
end Aw
