/- Rules of a calculus of walks: no condition of its own. -/
import Derived.Test.YtboaclfnjdhcpaaDoorCore21
import Derived.RangeFuncLeaves
import Derived.RangeFuncIn
import Derived.RangeFuncRecord
import Derived.TacticsIn
import Derived.Sort.LoopGhostIn
import Derived.RangeFuncNested
namespace Aw
open Go

structure KD (m m' : Mem) : Prop where
 np : m'.np = m.np
 Pr : ∀ b,m.Pr b → m'.Pr b
 pcell : ∀ b o,m.Pr b → m'.w.cell? ⟨b,o,none⟩ = m.w.cell? ⟨b,o,none⟩
 pmap : ∀ b es cl,m.Pr b → m.w.heap[b]? = some (.map es cl) → m'.w.heap[b]? = some (.map es cl)
 F : ∀ b o,m.F b o → m'.F b o
 cell : ∀ b o,m.F b o → m'.w.cell? ⟨b,o,none⟩ = m.w.cell? ⟨b,o,none⟩
 ρ : ∀ id ri,m.ρ id = some ri → m'.ρ id = some ri
mutual
theorem Rep.monoD {m m' : Mem} (h : KD m m') : ∀ (k : Nat) (x : AV) (v : Value),Rep m k x v → Rep m' k x v
 | _,.bool _,_,hx=>by simpa only [Rep] using hx
 | _,.int _ _,_,hx=>by simpa only [Rep] using hx
 | _,.str _,_,hx=>by simpa only [Rep] using hx
 | k,.agg cs,v,hx=>by
  simp only [Rep] at hx ⊢
  obtain ⟨vs,rfl,hl⟩:=hx
  exact ⟨vs,rfl,RepL.monoD h k cs _ hl⟩
 | k,.tup cs,v,hx=>by
  simp only [Rep] at hx ⊢
  obtain ⟨vs,rfl,hl⟩:=hx
  exact ⟨vs,rfl,RepL.monoD h k cs _ hl⟩
 | _,.sl es,v,hx=>by
  simp only [Rep] at hx ⊢
  rcases hx with hx | ⟨b,o,c,sz,rfl,hc,he⟩
  ·exact .inl hx
  ·exact .inr ⟨b,o,c,sz,rfl,hc,RepE.monoD h es b o sz he⟩
 | k,.row id off len,v,hx=>by
  simp only [Rep] at hx ⊢
  obtain ⟨hk,ri,hr,hv⟩:=hx
  exact ⟨hk,ri,h.ρ id ri hr,hv⟩
 | k,.ptr id off,v,hx=>by
  simp only [Rep] at hx ⊢
  obtain ⟨hk,ri,hr,hv⟩:=hx
  exact ⟨hk,ri,h.ρ id ri hr,hv⟩
 | k,.rptr id idx c,v,hx=>by
  simp only [Rep] at hx ⊢
  obtain ⟨hk,ri,hr,hv⟩:=hx
  exact ⟨hk,ri,h.ρ id ri hr,hv⟩
 | _,.cptr cs,v,hx=>by
  simp only [Rep] at hx ⊢
  obtain ⟨b,o,rfl,hc⟩:=hx
  exact ⟨b,o,rfl,RepC.monoD h cs b o hc⟩
 | k,.tptr cs,v,hx=>by
  simp only [Rep] at hx ⊢
  obtain ⟨hk,b,o,rfl,hc⟩:=hx
  exact ⟨hk,b,o,rfl,RepP.monoD h cs b o hc⟩
 | k,.clos f caps,v,hx=>by
  simp only [Rep] at hx ⊢
  obtain ⟨vs,rfl,hl⟩:=hx
  exact ⟨vs,rfl,RepL.monoD h k caps _ hl⟩
 | k,.iface t x,v,hx=>by
  simp only [Rep] at hx ⊢
  obtain ⟨u,rfl,hu⟩:=hx
  exact ⟨u,rfl,Rep.monoD h k x u hu⟩
 | k,.ite c x y,v,hx=>by
  simp only [Rep] at hx ⊢
  exact ⟨fun hc=>Rep.monoD h k x v (hx.1 hc),fun hc=>Rep.monoD h k y v (hx.2 hc)⟩
 | k,.opt c x,v,hx=>by
  simp only [Rep] at hx ⊢
  exact ⟨fun hc=>Rep.monoD h k x v (hx.1 hc),hx.2⟩
 | k,.map id,v,hx=>by
  simp only [Rep] at hx ⊢
  obtain ⟨hk,ri,hr,hv⟩:=hx
  exact ⟨hk,ri,h.ρ id ri hr,hv⟩
 | k,.cmap ks vs,v,hx=>by
  simp only [Rep] at hx ⊢
  obtain ⟨hk1,b,kv,vv,es,clock,rfl,hb,hh,he,hk,hv⟩:=hx
  exact ⟨hk1,b,kv,vv,es,clock,rfl,h.Pr b hb,h.pmap b _ _ hb hh,he,RepL.monoD h 1 ks _ hk,RepL.monoD h 1 vs _ hv⟩
 | _,.raw _,_,hx=>by simpa only [Rep] using hx
 | _,.top,_,_=>by simp only [Rep]
theorem RepL.monoD {m m' : Mem} (h : KD m m') : ∀ (k : Nat) (xs : List AV) (vs : List Value),RepL m k xs vs → RepL m' k xs vs
 | _,[],_,hx=>by simpa only [RepL] using hx
 | k,x :: xs,vs,hx=>by
  simp only [RepL] at hx ⊢
  obtain ⟨v,rest,rfl,hv,hr⟩:=hx
  exact ⟨v,rest,rfl,Rep.monoD h k x v hv,RepL.monoD h k xs rest hr⟩
theorem RepC.monoD {m m' : Mem} (h : KD m m') : ∀ (xs : List AV) (b o : Nat),RepC m xs b o → RepC m' xs b o
 | [],_,_,_=>by simp only [RepC]
 | x :: xs,b,o,hx=>by
  simp only [RepC] at hx ⊢
  obtain ⟨hf,⟨v,hv,hr⟩,hrest⟩:=hx
  exact ⟨h.F b o hf,⟨v,(h.cell b o hf).trans hv,Rep.monoD h 2 x v hr⟩,RepC.monoD h xs b (o + 1) hrest⟩
theorem RepP.monoD {m m' : Mem} (h : KD m m') : ∀ (xs : List AV) (b o : Nat),RepP m xs b o → RepP m' xs b o
 | [],_,_,_=>by simp only [RepP]
 | x :: xs,b,o,hx=>by
  simp only [RepP] at hx ⊢
  obtain ⟨hf,⟨v,hv,hr⟩,hrest⟩:=hx
  exact ⟨h.Pr b hf,⟨v,(h.pcell b o hf).trans hv,Rep.monoD h 1 x v hr⟩,RepP.monoD h xs b (o + 1) hrest⟩
theorem RepE.monoD {m m' : Mem} (h : KD m m') : ∀ (es : List (List AV)) (b o sz : Nat),RepE m es b o sz → RepE m' es b o sz
 | [],_,_,_,_=>by simp only [RepE]
 | e :: es,b,o,sz,hx=>by
  simp only [RepE] at hx ⊢
  obtain ⟨hl,hc,hr⟩:=hx
  exact ⟨hl,RepC.monoD h e b o hc,RepE.monoD h es b (o + sz) sz hr⟩
end
theorem RepX.monoD {m m' : Mem} {b : Nat} (h : KD m m') (hw : ∀ o,m'.w.cell? ⟨b,o,none⟩ = m.w.cell? ⟨b,o,none⟩) (k : Nat) : ∀ (xs : List AV) (o : Nat),RepX m k xs b o → RepX m' k xs b o
 | [],_,_=>by simp only [RepX]
 | x :: xs,o,hx=>by
  simp only [RepX] at hx ⊢
  obtain ⟨⟨v,hv,hr⟩,hrest⟩:=hx
  exact ⟨⟨v,(hw o).trans hv,Rep.monoD h k x v hr⟩,RepX.monoD h hw k xs (o + 1) hrest⟩
theorem RepY.monoD {m m' : Mem} {b : Nat} (h : KD m m') (hw : ∀ o,m'.w.cell? ⟨b,o,none⟩ = m.w.cell? ⟨b,o,none⟩) : ∀ (es : List (List AV)) (o sz : Nat),RepY m es b o sz → RepY m' es b o sz
 | [],_,_,_=>by simp only [RepY]
 | e :: es,o,sz,hx=>by
  simp only [RepY] at hx ⊢
  obtain ⟨hl,hc,hr⟩:=hx
  exact ⟨hl,RepX.monoD h hw 2 e o hc,RepY.monoD h hw es (o + sz) sz hr⟩

def dull : Obj → Bool
 | .cells _ _ _=>false
 | .map _ _=>false
 | _=>true
theorem cell?_dull {w : World} {b : Nat} {o : Obj} (h : w.heap[b]? = some o) (hd : dull o = true) (i : Nat) : w.cell? ⟨b,i,none⟩ = none:=by
 simp only [World.cell?,h]
 cases o <;> simp_all [dull]
def Mem.turn (m : Mem) (D : Nat) (o' : Obj) : Mem:={ m with w:=m.w.putObj D o' }
section
variable {m : Mem} {D : Nat} {o o' : Obj}
theorem turn_cell (hD : m.w.heap[D]? = some o) (hd : dull o = true) (hd' : dull o' = true) (b i : Nat) : (m.turn D o').w.cell? ⟨b,i,none⟩ = m.w.cell? ⟨b,i,none⟩:=by
 by_cases e : b = D
 ·subst e
  rw [cell?_dull hD hd]
  exact cell?_dull (w:=m.w.putObj b o') (World.putObj_heap_same (Array.getElem?_eq_some_iff.1 hD).1) hd' i
 ·exact cell?_of_block (World.putObj_heap_other e)
theorem turn_kd (hD : m.w.heap[D]? = some o) (hd : dull o = true) (hd' : dull o' = true) : KD m (m.turn D o') where
 np:=rfl
 Pr _ h:=h
 pcell b i _:=turn_cell hD hd hd' b i
 pmap b es cl _ hb:=by
  have hne : b ≠ D:=by
   intro e
   subst e
   rw [hD] at hb
   cases hb
   cases hd
  exact (World.putObj_heap_other hne).trans hb
 F _ _ h:=h
 cell b i _:=turn_cell hD hd hd' b i
 ρ _ _ h:=h
theorem turn_heap {b : Nat} (h : b ≠ D) : (m.turn D o').w.heap[b]? = m.w.heap[b]?:=World.putObj_heap_other h
theorem ne_pr {b : Nat} (h : ¬ m.Pr b) (hP : m.Pr D) : b ≠ D:=fun e=>h (e ▸ hP)
theorem turn_size : (m.turn D o').w.heap.size = m.w.heap.size:=by simp [Mem.turn]
theorem RowRep.turn {ri : RI} {sz e : Nat} {es : List (List AV)} {own : Bool} (hP : m.Pr D) (hD : m.w.heap[D]? = some o) (hd : dull o = true) (hd' : dull o' = true) (h : RowRepG m ri sz es own e) : RowRepG (m.turn D o') ri sz es own e:=by
 have hk:=turn_kd (m:=m) hD hd hd'
 rcases h with h | ⟨h1,h2,h3,h4,⟨c,T,lo,hi,h5,h6,h7⟩,h8⟩
 ·exact .inl h
 ·have hne : ri.b ≠ D:=fun e=>h2 (e ▸ hP)
  refine .inr ⟨h1,h2,h3,h4,⟨c,T,lo,hi,(turn_heap hne).trans h5,h6,h7⟩,?_⟩
  by_cases ho : own = true
  ·rw [if_pos ho] at h8 ⊢
   exact ⟨RepY.monoD hk (fun i=>turn_cell hD hd hd' _ i) _ _ _ h8.1,h8.2⟩
  ·rw [if_neg ho] at h8 ⊢
   exact ⟨RepE.monoD hk _ _ _ _ h8.1,h8.2⟩
theorem BlkRep.turn {ri : RI} {x : ABlk} (hP : m.Pr D) (hD : m.w.heap[D]? = some o) (hd : dull o = true) (hd' : dull o' = true) (h : BlkRep m ri x) : BlkRep (m.turn D o') ri x:=by
 have hk:=turn_kd (m:=m) hD hd hd'
 cases x with
 | cells cs =>
  obtain ⟨h1,h2,h3,c,T,h4,h5⟩:=h
  exact ⟨h1,h2,h3,c,T,(turn_heap (ne_pr h2 hP)).trans h4,RepL.monoD hk _ _ _ h5⟩
 | tc T0 cs =>
  obtain ⟨h1,h2,h3,c,h4,h5⟩:=h
  exact ⟨h1,h2,h3,c,(turn_heap (ne_pr h2 hP)).trans h4,RepL.monoD hk _ _ _ h5.1,h5.2⟩
 | row sz es own=>exact RowRep.turn hP hD hd hd' h
 | amap ks vs =>
  obtain ⟨h1,h2,h3,kv,vv,es,cl,h4,h5,h6,h7⟩:=h
  exact ⟨h1,h2,h3,kv,vv,es,cl,(turn_heap (ne_pr h2 hP)).trans h4,h5,RepL.monoD hk _ _ _ h6,RepL.monoD hk _ _ _ h7⟩
 | lp l rc =>
  obtain ⟨h1,h2,h3,h4,h5⟩:=h
  exact ⟨h1,h2,h3,h4,(turn_heap (ne_pr h2 hP)).trans h5⟩
 | it left cur =>
  obtain ⟨h1,h2,h3,h4,bm,es,clock,seen,g1,g2,g3,g4,⟨el,e1,e2,e3⟩,g5⟩:=h
  exact ⟨h1,h2,h3,h4,bm,es,clock,seen,g1,hk.pmap bm es clock g1 g2,g3,(turn_heap (ne_pr h2 hP)).trans g4,⟨el,e1,RepL.monoD hk _ _ _ e2,RepL.monoD hk _ _ _ e3⟩,
   fun k v hc=>let ⟨e,q1,q2,q3,q4⟩:=g5 k v hc; ⟨e,q1,q2,Rep.monoD hk _ _ _ q3,Rep.monoD hk _ _ _ q4⟩⟩
 | full sz es=>exact ⟨RowRep.turn hP hD hd hd' h.1,h.2⟩
 | mrow sz es=>exact ⟨h.1,RowRep.turn hP hD hd hd' h.2⟩
 | brow e l =>
  refine ⟨RowRep.turn hP hD hd hd' h.1,fun hn=>⟨(h.2 hn).1,?_⟩⟩
  obtain ⟨c,hc⟩:=(h.2 hn).2
  rcases h.1 with g | g
  ·rw [hn] at g; cases g.1
  ·exact ⟨c,(turn_heap (ne_pr g.2.1 hP)).trans hc⟩
theorem SimH.turn {hp : List (Nat × ABlk)} {nx : Nat} (hP : m.Pr D) (hD : m.w.heap[D]? = some o) (hd : dull o = true) (hd' : dull o' = true) (h : SimH m hp nx) : SimH (m.turn D o') hp nx where
 blk id x hx:=by
  obtain ⟨ri,h1,h2⟩:=h.blk id x hx
  exact ⟨ri,h1,h2.turn hP hD hd hd'⟩
 apart:=h.apart
 fresh:=h.fresh
 Fold b i hf:=by rw [turn_size]; exact h.Fold b i hf
 Pold b hb:=by rw [turn_size]; exact h.Pold b hb
theorem DefR.monoD {m m' : Mem} (h : KD m m') : ∀ {l : List (FuncId × List AV)} {ds : List Deferred},DefR m l ds → DefR m' l ds
 | [],_,hd=>hd
 | _ :: _,_,hd=>by
  obtain ⟨d,rest,caps,h1,h2,h3,h4⟩:=hd
  exact ⟨d,rest,caps,h1,h2,RepL.monoD h 0 _ _ h3,h4.monoD h⟩
theorem Sim.turn {a : Act} {σ : St} (hP : m.Pr D) (hD : m.w.heap[D]? = some o) (hd : dull o = true) (hd' : dull o' = true) (h : Sim m a σ) : Sim (m.turn D o') a σ where
 h:=h.h.turn hP hD hd hd'
 n:=h.n
 defers:=h.defers.monoD (turn_kd hD hd hd')
 env t x hx:=⟨(h.env t x hx).1,Rep.monoD (turn_kd hD hd hd') 0 _ _ (h.env t x hx).2⟩
 gl g x hx:=Rep.monoD (turn_kd hD hd hd') 1 _ _ (h.gl g x hx)
 np:=h.np
end
end Aw

namespace Aw
open Go

def Fr (r : Option Nat) : Fence:={ Fence.wide with round:=r }
theorem callsIn_fr {r : Option Nat} {n : Nat} {P : Program} {f : FuncId} {args : Array Value} {w : World} {R : Ending → World → Prop} : CallsIn (Fr r) n P f args w R ↔ Calls P f args w R :=
 (show CallsIn (Fr r) n P f args w R ↔ CallsIn Fence.wide n P f args w R from Iff.rfl).trans callsIn_wide
theorem rowsIn_fr {r : Option Nat} {n : Nat} {P : Program} {row : String} {args : Array Value} {w : World} {R : Value → World → Prop} (h : Rows P row args w R) : RowsIn (Fr r) n P row args w R :=
 fun c cs _=>let ⟨v,w',q,s⟩:=h c cs; ⟨v,w',q,stepsIn_wide.2 s⟩

structure Mem.leT (m m' : Mem) : Prop where
 os : m'.w.os = m.w.os
 tape : m'.w.tape = m.w.tape
 output : m'.w.output = m.w.output
 size : m.w.heap.size ≤ m'.w.heap.size
 Pr : ∀ b,m.Pr b → m'.Pr b
 block : ∀ b,m.Pr b → m'.w.heap[b]? = m.w.heap[b]?
 F : ∀ b o,m.F b o → m'.F b o
 cell : ∀ b o,m.F b o → m'.w.cell? ⟨b,o,none⟩ = m.w.cell? ⟨b,o,none⟩
 new : ∀ b o,m.Pr b → m'.F b o → m.F b o
 np : m'.np = m.np
 pin : ∀ id ri,id < m.np → m.ρ id = some ri → m'.ρ id = some ri
theorem Mem.le.t {m m' : Mem} (h : m.le m') : m.leT m':=⟨h.os,h.tape,h.output,h.size,fun b hb=>by rw [h.Pr]; exact hb,h.block,h.F,h.cell,h.new,h.np,h.pin⟩
theorem Mem.leT.refl (m : Mem) : m.leT m:=(Mem.le.refl m).t
theorem Mem.leT.trans {m m' m'' : Mem} (h : m.leT m') (h' : m'.leT m'') : m.leT m'' where
 os:=h'.os.trans h.os
 tape:=h'.tape.trans h.tape
 output:=h'.output.trans h.output
 size:=Nat.le_trans h.size h'.size
 Pr b hb:=h'.Pr b (h.Pr b hb)
 block b hb:=(h'.block b (h.Pr b hb)).trans (h.block b hb)
 F b o hf:=h'.F b o (h.F b o hf)
 cell b o hf:=(h'.cell b o (h.F b o hf)).trans (h.cell b o hf)
 new b o hp hf:=h.new b o hp (h'.new b o (h.Pr b hp) hf)
 np:=h'.np.trans h.np
 pin id ri hi hr:=h'.pin id ri (by rw [h.np]; exact hi) (h.pin id ri hi hr)

structure Bs where
 n : Nat
 ds : List Deferred
 fn : Option FuncId
instance : OfNat Bs 0:=⟨⟨0,[],none⟩⟩
def MarksL (B : Nat) (m : Mem) (ds : List Deferred) : Prop :=
 (∀ d ∈ ds,∃ D,d.target = .collected D ∧ B ≤ D ∧ m.Pr D ∧ m.w.heap[D]? = some (.deferred (some []))) ∧ ds.Pairwise fun d e=>d.target ≠ e.target
theorem MarksL.le {B : Nat} {m m' : Mem} {ds : List Deferred} (h : MarksL B m ds) (hl : m.leT m') : MarksL B m' ds :=
 ⟨fun d hd=>let ⟨D,h1,h2,h3,h4⟩:=h.1 d hd; ⟨D,h1,h2,hl.Pr D h3,(hl.block D h3).trans h4⟩,h.2⟩
def Marks (B : Bs) (m : Mem) (ds : List Deferred) : Prop:=∃ ms,ds = ms ++ B.ds ∧ MarksL B.n m ms
theorem Marks.le {B : Bs} {m m' : Mem} {ds : List Deferred} (h : Marks B m ds) (hl : m.leT m') : Marks B m' ds:=let ⟨ms,h1,h2⟩:=h; ⟨ms,h1,h2.le hl⟩
theorem Marks.nil {B : Bs} {m : Mem} : Marks B m B.ds:=⟨[],rfl,fun _ h=>(by cases h),List.Pairwise.nil⟩
theorem Marks.turn {B : Bs} {m : Mem} {ds : List Deferred} {l : Nat} {o : Loop} {o' : Obj} (h : Marks B m ds) (hl : m.w.heap[l]? = some (.loop o)) : Marks B (m.turn l o') ds:=by
 obtain ⟨ms,h1,h2,h3⟩:=h
 refine ⟨ms,h1,fun d hd=>?_,h3⟩
 obtain ⟨D,g1,g2,g3,g4⟩:=h2 d hd
 refine ⟨D,g1,g2,g3,(turn_heap (fun e=>?_)).trans g4⟩
 rw [e,hl] at g4
 cases g4
theorem Marks.push {B : Bs} {m m' : Mem} {ds : List Deferred} {D : Nat} {args : Array Value} (h : Marks B m ds) (hl : m.leT m') (hD : m.w.heap[D]? = none) (hB : B.n ≤ D) (hP : m'.Pr D) (hm : m'.w.heap[D]? = some (.deferred (some []))) :
  Marks B m' ({ target:=.collected D,args:=args } :: ds):=by
 obtain ⟨ms,rfl,h2,h3⟩:=h
 refine ⟨{ target:=.collected D,args:=args } :: ms,rfl,fun d hd=>?_,List.pairwise_cons.2 ⟨fun e he=>?_,h3⟩⟩
 ·rcases List.mem_cons.1 hd with rfl | hd
  ·exact ⟨D,rfl,hB,hP,hm⟩
  ·obtain ⟨D',g1,g2,g3,g4⟩:=h2 d hd
   exact ⟨D',g1,g2,hl.Pr _ g3,(hl.block _ g3).trans g4⟩
 ·obtain ⟨D',g1,g2,g3,g4⟩:=h2 e he
  rw [g1]
  intro h
  injection h with h
  rw [← h,hD] at g4
  cases g4

structure SimT (B : Bs) (m : Mem) (a : Act) (σ : St) : Prop where
 s : Sim m { a with defers:=B.ds } σ
 marks : Marks B m a.defers
 base : B.n ≤ m.w.heap.size
theorem DefR.len {m : Mem} : ∀ {l : List (FuncId × List AV)} {ds : List Deferred},DefR m l ds → ds.length = l.length
 | [],_,h=>by rw [show _ = [] from h] <;> rfl
 | _ :: _,_,h=>by
  obtain ⟨d,rest,caps,rfl,_,_,h4⟩:=h
  simp [h4.len]
def wpB (fo : Option FuncId) (r : Option Nat) (P : Program) (c : Code) (Q : Exit → Act → World → Prop) (a : Act) (w : World) : Prop :=
 ∀ (b : Frame) (k : List Item) (cs : List Frame),b.roundOf = r → (∀ f,fo = some f → b.fn = f) →
  ∃ e a' w',Q e a' w' ∧ ArrivesIn (Machine.fenced P (Fr r)) P (lone (b.atR a (.code c :: k)) cs w) b k cs e a' w'
section
variable {fo : Option FuncId} {r : Option Nat} {P : Program} {c x y : Code} {Q Q' : Exit → Act → World → Prop} {a : Act} {w : World}
theorem room_fr {r : Option Nat} {n : Nat} : (Fr r).room n:=fun _ h=>by cases h
theorem wpB.of (h : c.wpIn (Fr r) 0 P Q a w) : wpB fo r P c Q a w:=fun b k cs hro _=>h b k cs hro trivial room_fr
theorem wpB.wide (h : wpB none r P c Q a w) : c.wpIn (Fr r) 0 P Q a w:=fun b k cs hro _ _=>h b k cs hro (fun _ h=>by cases h)
theorem wpB_mono (h : wpB fo r P c Q a w) (hq : ∀ e a w,Q e a w → Q' e a w) : wpB fo r P c Q' a w :=
 fun b k cs hro hb=>let ⟨e,a',w',q,r⟩:=h b k cs hro hb; ⟨e,a',w',hq _ _ _ q,r⟩
theorem wpB_seq (h : wpB fo r P x (Exit.then (wpB fo r P y Q) Q) a w) : wpB fo r P (.seq x y) Q a w:=by
 intro b k cs hro hb
 have h0 : (lone (b.atR a (.code (.seq x y) :: k)) cs w).fenced P (Fr r):=fenced_calm (n:=0) trivial room_fr rfl
 obtain ⟨e,a₁,w₁,hq,harr⟩:=h b (.code y :: k) cs hro hb
 cases e with
 | normal =>
  obtain ⟨e₂,a₂,w₂,hq₂,harr₂⟩:=hq b k cs hro hb
  exact ⟨e₂,a₂,w₂,hq₂,.of_steps (.head h0 stepR_seq harr) harr₂⟩
 | exit id=>exact ⟨_,a₁,w₁,hq,.of_steps (.one h0 stepR_seq) (.pass (x:=.code y) rfl (fun _ _=>.inl (by simp)) harr)⟩
 | goto l=>exact ⟨_,a₁,w₁,hq,.of_steps (.one h0 stepR_seq) (.pass (x:=.code y) rfl (fun _ _=>.inl (by simp)) harr)⟩
 | ret=>exact ⟨_,a₁,w₁,hq,.of_steps (.one h0 stepR_seq) (.pass (x:=.code y) rfl (fun _ _=>.inl (by simp)) harr)⟩
 | panic ch=>exact ⟨_,a₁,w₁,hq,.of_steps (.one h0 stepR_seq) (.pass (x:=.code y) rfl (fun _ _=>.inl (by simp)) harr)⟩
 | outgrown=>exact ⟨_,a₁,w₁,hq,.of_steps (.one h0 stepR_seq) (.pass (x:=.code y) rfl (fun _ _=>.inl (by simp)) harr)⟩
theorem wpB_cond {o : Operand} {t : Bool} (hc : a.eval o = .bool t) (h : wpB fo r P (if t then x else y) Q a w) : wpB fo r P (.cond o x y) Q a w :=
 fun b k cs hro hb=>let ⟨e,a',w',q,r⟩:=h b k cs hro hb; ⟨e,a',w',q,.of_steps (.one (fenced_calm (n:=0) trivial room_fr rfl) (stepR_cond hc)) r⟩
theorem wpB_cond_split {o : Operand} {t : Bool} (hc : a.eval o = .bool t) (ht : t = true → wpB fo r P x Q a w) (hf : t = false → wpB fo r P y Q a w) : wpB fo r P (.cond o x y) Q a w:=by
 cases t
 ·exact wpB_cond hc (hf rfl)
 ·exact wpB_cond hc (ht rfl)
theorem wpB_block {id : Nat} (h : wpB fo r P c (Exit.inBlock id Q) a w) : wpB fo r P (.block id c) Q a w:=by
 intro b k cs hro hb
 have h0 : (lone (b.atR a (.code (.block id c) :: k)) cs w).fenced P (Fr r):=fenced_calm (n:=0) trivial room_fr rfl
 obtain ⟨e,a₁,w₁,hq,harr⟩:=h b (.inBlock id :: k) cs hro hb
 cases e with
 | normal=>exact ⟨.normal,a₁,w₁,hq,.head h0 stepR_block (StepsIn.trans harr (.one (fenced_calm (n:=0) trivial room_fr rfl) stepR_inBlock))⟩
 | exit id' =>
  by_cases hid : id' = id
  ·simp only [Exit.inBlock,hid,if_true] at hq
   exact ⟨.normal,a₁,w₁,hq,.head h0 stepR_block (harr.1 k (by simp [exitTo,hid]))⟩
  ·simp only [Exit.inBlock,hid,if_false] at hq
   have this : (id == id') = false:=by simp; exact fun h=>hid h.symm
   have hx : exitTo id' (.inBlock id :: k) = exitTo id' k:=by simp [exitTo,this]
   exact ⟨.exit id',a₁,w₁,hq,fun k' hk=>.head h0 stepR_block (harr.1 k' (by rw [hx]; exact hk)),
    fun hr' hk=>let ⟨k₁,h1,h2⟩:=harr.2 hr' (by rw [hx]; exact hk); ⟨k₁,h1,.head h0 stepR_block h2⟩⟩
 | goto l =>
  have hx : gotoIn l (.inBlock id :: k) = gotoIn l k:=by simp [gotoIn]
  exact ⟨_,a₁,w₁,hq,fun k' hk=>.head h0 stepR_block (harr.1 k' (by rw [hx]; exact hk)),
   fun hr' hk=>let ⟨k₁,h1,h2⟩:=harr.2 hr' (by rw [hx]; exact hk); ⟨k₁,h1,.head h0 stepR_block h2⟩⟩
 | ret=>exact ⟨_,a₁,w₁,hq,.of_steps (.one h0 stepR_block) harr⟩
 | panic ch=>exact ⟨_,a₁,w₁,hq,.of_steps (.one h0 stepR_block) harr⟩
 | outgrown=>exact ⟨_,a₁,w₁,hq,.of_steps (.one h0 stepR_block) harr⟩
theorem wpB_loop_ghost (I : Nat → Act → World → Prop) (n : Nat) (h₀ : I n a w)
  (round : ∀ n a w,I n a w → wpB fo r P c (Exit.then (fun a' w'=>∃ n',n' < n ∧ I n' a' w') Q) a w) : wpB fo r P (.loop c) Q a w:=by
 intro b k cs hro hb
 have key : ∀ j a w,I j a w → ∃ e a' w',Q e a' w' ∧ ArrivesIn (Machine.fenced P (Fr r)) P (lone (b.atR a (.code c :: .inLoop c :: k)) cs w) b k cs e a' w':=by
  intro j
  induction j using Nat.strongRecOn with
  | _ j ih =>
   intro a w hI
   obtain ⟨e,a₁,w₁,hq,harr⟩:=round j a w hI b (.inLoop c :: k) cs hro hb
   cases e with
   | normal =>
    obtain ⟨n',hlt,hI₁⟩:=hq
    obtain ⟨e₂,a₂,w₂,hq₂,harr₂⟩:=ih n' hlt a₁ w₁ hI₁
    exact ⟨e₂,a₂,w₂,hq₂,.of_steps (StepsIn.trans harr (.one (fenced_calm (n:=0) trivial room_fr rfl) stepR_inLoop)) harr₂⟩
   | exit id=>exact ⟨_,a₁,w₁,hq,.pass (x:=.inLoop c) rfl (fun _ _=>.inl (by simp)) harr⟩
   | goto l=>exact ⟨_,a₁,w₁,hq,.pass (x:=.inLoop c) rfl (fun _ _=>.inl (by simp)) harr⟩
   | ret=>exact ⟨_,a₁,w₁,hq,.pass (x:=.inLoop c) rfl (fun _ _=>.inl (by simp)) harr⟩
   | panic ch=>exact ⟨_,a₁,w₁,hq,.pass (x:=.inLoop c) rfl (fun _ _=>.inl (by simp)) harr⟩
   | outgrown=>exact ⟨_,a₁,w₁,hq,.pass (x:=.inLoop c) rfl (fun _ _=>.inl (by simp)) harr⟩
 obtain ⟨e,a',w',hq,harr⟩:=key _ a w h₀
 exact ⟨e,a',w',hq,.of_steps (.one (fenced_calm (n:=0) trivial room_fr rfl) stepR_loop) harr⟩
def rangePostB (fo : Option FuncId) (r : Option Nat) (P : Program) (l : Nat) (Q : Exit → Act → World → Prop) (a' : Act) : Ending → World → Prop
 | .returned _,w₃=>∃ jump w₄,(Instr.endLoop l).run P w₃ = .ok jump w₄ ∧
   (match jump with
    | none=>Q .normal a' w₄
    | some c=>wpB fo r P c Q a' w₄)
 | .panicked chain,w₃=>Q (.panic chain) a' w₃
 | .outgrown,_=>LetsOut Q
theorem wpB_rangeFunc {g : Operand} {ps : Array Tmp} {assign body : Code}
  (h : ∀ fn,(∀ f,fo = some f → fn = f) → ∃ (l : Nat) (mark : List Deferred) (w₁ : World) (d : Deferred) (w₁' : World) (f : FuncId) (args : Array Value) (w₂ : World),
   (Instr.enterLoop fn a.tmps ps assign body r).run P w = .ok (l,mark) w₁ ∧
   (resolve a.eval (rangeCall g l) 0).run P w₁ = .ok d w₁' ∧
   (∀ f',Target.leads P w₁' d.target d.args = some f' → (Fr r).fn f') ∧
   (invoke d.target d.args).run P w₁' = .ok (.enter f args) w₂ ∧
   ((Fr r).depth.isSome = true → 1 ≤ 0) ∧
   CallsIn (Fr r) 0 P f args w₂ (rangePostB fo r P l Q { a with defers:=mark ++ a.defers })) :
  wpB fo r P (Code.rangeFunc g ps assign body) Q a w:=by
 intro b k cs hro hb
 obtain ⟨l,mark,w₁,d,w₁',f,args,w₂,he,hres,hlead,hinv,hn,hF,hcall⟩:=h b.fn hb
 rw [← hro] at he
 have h0 : (lone (b.atR a (.code (.rangeFunc g ps assign body) :: k)) cs w).fenced P (Fr r):=fenced_lone (.inl trivial) (fun f' _=>trivial) room_fr
 have henter:=stepR_rangeFunc (P:=P) (b:=b) (a:=a) (k:=k) (cs:=cs) (w:=w) he hres hinv
 obtain ⟨e,w₃,fr,hR,hsteps,hfn,hleave⟩:=hcall (b.atR { a with defers:=mark ++ a.defers } (.inRangeFunc l :: k) :: cs) room_fr
 cases e with
 | outgrown =>
  obtain ⟨a₀,w₀,hq⟩:=hR
  exact ⟨.outgrown,a₀,w₀,hq,.inr (Outgrown.of_steps (.one henter) hsteps)⟩
 | returned v =>
  have hl : (lone fr (b.atR { a with defers:=mark ++ a.defers } (.inRangeFunc l :: k) :: cs) w₃).fenced P (Fr r):=fenced_leaving (n:=0) trivial room_fr hleave
  obtain ⟨jump,w₄,hend,hj⟩:=hR
  have sback : StepsIn (Machine.fenced P (Fr r)) P (lone (b.atR a (.code (.rangeFunc g ps assign body) :: k)) cs w) (lone (b.atR { a with defers:=mark ++ a.defers } ((jump.map Item.code).toList ++ k)) cs w₄):=by
   refine .head h0 henter (StepsIn.trans hsteps (.head hl ?_ (.one (fenced_calm (n:=0) (fr:=b.atR { a with defers:=mark ++ a.defers } (.endRangeFunc l :: k)) trivial room_fr rfl) (stepR_endRangeFunc hend))))
   rw [← finish_atR_inRangeFunc l v]; exact step_leave_returned hleave
  cases jump with
  | none=>exact ⟨.normal,_,w₄,hj,sback⟩
  | some c =>
   obtain ⟨e',a'',w₅,hq,harr⟩:=hj b k cs hro hb
   exact ⟨e',a'',w₅,hq,.of_steps sback harr⟩
 | panicked chain =>
  have hl : (lone fr (b.atR { a with defers:=mark ++ a.defers } (.inRangeFunc l :: k) :: cs) w₃).fenced P (Fr r):=fenced_leaving (n:=0) trivial room_fr hleave
  refine ⟨.panic chain,_,w₃,hR,.inRangeFunc l :: k,.head h0 henter (StepsIn.trans hsteps (.one hl ?_))⟩
  rw [← Frame.raise_atR]; exact step_leave_panicked hleave
end

def PostT (B : Bs) (m0 : Mem) (Q : AX → St → Prop) (e : Exit) (a : Act) (w : World) : Prop :=
 ∃ m σ x,m.w = w ∧ m0.leT m ∧ SimT B m a σ ∧ exOk m x e ∧ Q x σ
theorem PostT.trans {B : Bs} {m0 m : Mem} {Q : AX → St → Prop} {e : Exit} {a : Act} {w : World} (hp : PostT B m Q e a w) (h : m0.leT m) : PostT B m0 Q e a w:=by
 obtain ⟨m',σ,x,h1,h2,h3,h4,h5⟩:=hp
 exact ⟨m',σ,x,h1,h.trans h2,h3,h4,h5⟩

class Lasts (Θ : Mem → Prop) : Prop where
 le : ∀ {m m' : Mem},m.leT m' → Θ m → Θ m'
instance : Lasts (fun _=>True):=⟨fun _ _=>trivial⟩

def AWT (B : Bs) (r : Option Nat) (Θ : Mem → Prop) (P : Program) (c : Code) (σ : St) (Q : AX → St → Prop) : Prop :=
 ∀ m a,SimT B m a σ → Θ m → wpB B.fn r P c (PostT B m Q) a m.w

section
variable {B : Bs} {r : Option Nat} {Θ : Mem → Prop} {P : Program} {σ : St} {Q : AX → St → Prop}

theorem AWT.mono {c : Code} {Q' : AX → St → Prop} (h : AWT B r Θ P c σ Q) (hq : ∀ x σ,Q x σ → Q' x σ) : AWT B r Θ P c σ Q':=fun m a hS ht =>
 wpB_mono (h m a hS ht) fun _ _ _ ⟨m',σ,x,h1,h2,h3,h4,h5⟩=>⟨m',σ,x,h1,h2,h3,h4,hq _ _ h5⟩

theorem AWT.seq [Lasts Θ] {x y : Code} (h : AWT B r Θ P x σ (andThen (fun σ'=>AWT B r Θ P y σ' Q) Q)) : AWT B r Θ P (.seq x y) σ Q:=fun m a hS ht=>by
 refine wpB_seq (wpB_mono (h m a hS ht) ?_)
 rintro e a' w' ⟨m',σ',ax,rfl,hle,hS',hex,hq⟩
 cases ax with
 | normal =>
  simp only [exOk] at hex
  subst hex
  exact wpB_mono (hq m' a' hS' (Lasts.le hle ht)) fun _ _ _ hp=>hp.trans hle
 | exit id =>
  simp only [exOk] at hex
  subst hex
  exact ⟨m',σ',.exit id,rfl,hle,hS',rfl,hq⟩
 | ret =>
  simp only [exOk] at hex
  subst hex
  exact ⟨m',σ',.ret,rfl,hle,hS',rfl,hq⟩
 | panic z =>
  simp only [exOk] at hex
  obtain ⟨v,rfl,hv⟩:=hex
  exact ⟨m',σ',.panic z,rfl,hle,hS',⟨v,rfl,hv⟩,hq⟩
theorem AWT.skip (h : Q .normal σ) : AWT B r Θ P .skip σ Q:=fun m _ hS _=>wpB.of (wpIn_skip ⟨m,σ,.normal,rfl,.refl m,hS,rfl,h⟩)
theorem AWT.ret (h : Q .ret σ) : AWT B r Θ P .ret σ Q:=fun m _ hS _=>wpB.of (wpIn_ret ⟨m,σ,.ret,rfl,.refl m,hS,rfl,h⟩)
theorem AWT.exit {id : Nat} (h : Q (.exit id) σ) : AWT B r Θ P (.exit id) σ Q:=fun m _ hS _=>wpB.of (wpIn_exit ⟨m,σ,.exit id,rfl,.refl m,hS,rfl,h⟩)
theorem AWT.cond {c : Operand} {x y : Code} {p : Prop} {b : Bool} (hc : testOf σ c = some (p,b)) (hp : p) (h1 : b = true → AWT B r Θ P x σ Q) (h2 : b = false → AWT B r Θ P y σ Q) :
  AWT B r Θ P (.cond c x y) σ Q:=fun m a hS ht =>
 wpB_cond_split (testOf_sound hS.s hc hp) (fun h=>h1 h m a hS ht) (fun h=>h2 h m a hS ht)
theorem AWT.block {id : Nat} {c : Code} (h : AWT B r Θ P c σ (unblock id Q)) : AWT B r Θ P (.block id c) σ Q:=fun m a hS ht=>by
 refine wpB_block (wpB_mono (h m a hS ht) ?_)
 rintro e a' w' ⟨m',σ',ax,rfl,hle,hS',hex,hq⟩
 cases ax with
 | normal =>
  simp only [exOk] at hex
  subst hex
  exact ⟨m',σ',.normal,rfl,hle,hS',rfl,hq⟩
 | exit id' =>
  simp only [exOk] at hex
  subst hex
  simp only [unblock] at hq
  simp only [Exit.inBlock]
  by_cases h : id' = id
  ·rw [if_pos h] at hq ⊢
   exact ⟨m',σ',.normal,rfl,hle,hS',rfl,hq⟩
  ·rw [if_neg h] at hq ⊢
   exact ⟨m',σ',.exit id',rfl,hle,hS',rfl,hq⟩
 | ret =>
  simp only [exOk] at hex
  subst hex
  exact ⟨m',σ',.ret,rfl,hle,hS',rfl,hq⟩
 | panic z =>
  simp only [exOk] at hex
  obtain ⟨v,rfl,hv⟩:=hex
  exact ⟨m',σ',.panic z,rfl,hle,hS',⟨v,rfl,hv⟩,hq⟩

theorem SimT.le {σ' : St} (h : St.le σ' σ) {m : Mem} {a : Act} (hS : SimT B m a σ) : ∃ m',m'.w = m.w ∧ m.leT m' ∧ SimT B m' a σ':=by
 obtain ⟨m',h1,h2,h3⟩:=h m _ hS.s
 exact ⟨m',h1,h2.t,h3,hS.marks.le h2.t,by rw [h1]; exact hS.base⟩

theorem AWT.loop [Lasts Θ] {S : Type} {c : Code} (I : S → St) (μ : S → Nat) (s : S) (h₀ : St.le (I s) σ)
  (round : ∀ s,AWT B r Θ P c (I s) (andThen (fun σ'=>∃ s',St.le (I s') σ' ∧ μ s' < μ s) Q)) : AWT B r Θ P (.loop c) σ Q:=fun m a hS ht=>by
 obtain ⟨m0,e0,l0,s0⟩:=hS.le h₀
 rw [← e0]
 refine wpB_loop_ghost (fun n a w=>∃ s m',μ s = n ∧ m'.w = w ∧ m0.leT m' ∧ SimT B m' a (I s)) (μ s) ⟨s,m0,rfl,rfl,.refl m0,s0⟩ ?_
 rintro n a w ⟨s,m1,rfl,rfl,l1,s1⟩
 refine wpB_mono (round s m1 a s1 (Lasts.le (l0.trans l1) ht)) ?_
 rintro e a' w' ⟨m',σ',ax,rfl,hle,hS',hex,hq⟩
 cases ax with
 | normal =>
  simp only [exOk] at hex
  subst hex
  obtain ⟨s',hle',hlt⟩:=hq
  obtain ⟨m2,e2,l2,s2⟩:=hS'.le hle'
  exact ⟨μ s',hlt,s',m2,rfl,e2,(l1.trans hle).trans l2,s2⟩
 | exit id' =>
  simp only [exOk] at hex
  subst hex
  exact ⟨m',σ',.exit id',rfl,l0.trans (l1.trans hle),hS',rfl,hq⟩
 | ret =>
  simp only [exOk] at hex
  subst hex
  exact ⟨m',σ',.ret,rfl,l0.trans (l1.trans hle),hS',rfl,hq⟩
 | panic z =>
  simp only [exOk] at hex
  obtain ⟨v,rfl,hv⟩:=hex
  exact ⟨m',σ',.panic z,rfl,l0.trans (l1.trans hle),hS',⟨v,rfl,hv⟩,hq⟩
theorem AWT.le [Lasts Θ] {σ' : St} {c : Code} (h : St.le σ' σ) (hk : AWT B r Θ P c σ' Q) : AWT B r Θ P c σ Q:=fun m a hS ht=>by
 obtain ⟨m',h1,h2,h3⟩:=hS.le h
 have:=hk m' a h3 (Lasts.le h2 ht)
 rw [h1] at this
 exact wpB_mono this fun _ _ _ hp=>hp.trans h2

/-! ### operations -/
def notDefer (o : Op) : Bool :=
 match o with
 | .defer _=>false
 | _=>true
theorem notDefer_ne {o : Op} (h : notDefer o = true) : ∀ c,o ≠ .defer c:=by
 rintro c rfl
 cases h
theorem wpIn_of_wp {ds : List Deferred} {o : Oper} {a : Act} {w : World} {N N' : Act → World → Prop} {X X' : Exit → Act → World → Prop} (hnd : notDefer o.op = true) (h : o.wp P { a with defers:=ds } w N X)
  (hN : ∀ a' w',N a' w' → a'.defers.length = ds.length ∧ (a'.defers = ds → N' { a' with defers:=a.defers } w')) (hQ : ∀ e w',X e { a with defers:=ds } w' → X' e a w') (hL : ¬ LetsOut X) : o.wpIn (Fr r) 0 P a w N' X':=by
 refine ⟨fun _ _=>trivial,?_⟩
 rw [Oper.semAt_eq _ _ _ (notDefer_ne hnd)]
 unfold Oper.wp at h
 have he : ({ a with defers:=ds } : Act).eval = a.eval:=rfl
 rw [he] at h
 have hput : ∀ v,{ ({ a with defers:=ds } : Act).put o.dst v with defers:=a.defers } = a.put o.dst v:=by
  intro v
  cases o.dst <;> rfl
 have hpd : ∀ v,(({ a with defers:=ds } : Act).put o.dst v).defers = ds:=by
  intro v
  cases o.dst <;> rfl
 generalize (execOp a.eval o).run P w = x at h
 cases x with
 | ok nx w' =>
  cases nx with
  | value v=>have:=(hN _ _ h).2 (hpd _); rw [hput] at this; exact this
  | skip=>have:=(hN _ _ h).2 (hpd _); rw [hput] at this; exact this
  | defer d =>
   have:=(hN _ _ h).1
   cases hd : o.dst <;> rw [hd] at this <;> simp [Act.put] at this
  | enter f args =>
   refine ⟨fun hh=>(by cases hh),callsIn_fr.2 (Calls.mono h ?_)⟩
   intro e w'' hq
   cases e with
   | returned v=>have:=(hN _ _ hq).2 (hpd _); rw [hput] at this; exact this
   | panicked ch=>exact hQ _ _ hq
   | outgrown=>exact absurd hq hL
  | row row args =>
   refine ⟨fun hh=>(by cases hh),rowsIn_fr (fun c cs=>?_)⟩
   obtain ⟨v,w'',hq,hs⟩:=h c cs
   have:=(hN _ _ hq).2 (hpd _)
   rw [hput] at this
   exact ⟨v,w'',this,hs⟩
  | _=>exact h.elim
 | halt s w' =>
  cases s with
  | panic v=>exact hQ _ _ h
  | _=>exact h.elim

def StepT (B : Bs) (r : Option Nat) (Θ : Mem → Prop) (P : Program) (σ : St) (o : Oper) (K : St → Prop) (Kp : AV → St → Prop) : Prop :=
 ∀ (m : Mem) (a : Act) (N : Act → World → Prop) (X : Exit → Act → World → Prop),SimT B m a σ → Θ m →
  (∀ m' a' σ',m.leT m' → SimT B m' a' σ' → K σ' → N a' m'.w) →
  (∀ m' σ' x v,m.leT m' → SimT B m' a σ' → Rep m' 0 x v → Kp x σ' → X (.panic [{ v,recovered:=false }]) a m'.w) → o.wpIn (Fr r) 0 P a m.w N X
theorem StepT.of {o : Oper} {K : St → Prop} {Kp : AV → St → Prop} (hnd : notDefer o.op = true) (h : SemStep P σ o K Kp) : StepT B r Θ P σ o K Kp:=by
 intro m a N X hS _ hN hX
 refine wpIn_of_wp hnd (h m { a with defers:=B.ds } (fun a' w'=>∃ m' σ',m'.w = w' ∧ m.le m' ∧ Sim m' a' σ' ∧ Keeps o σ σ' ∧ K σ')
  (fun e a' w'=>∃ m' σ' x v,m'.w = w' ∧ e = .panic [{ v,recovered:=false }] ∧ m.le m' ∧ Sim m' { a with defers:=B.ds } σ' ∧ Rep m' 0 x v ∧ Kp x σ') hS.s ?_ ?_) ?_ ?_ ?_
 ·intro m' a' σ' h1 _ h2 h3 _ h4
  exact ⟨m',σ',rfl,h1,h2,h3,h4⟩
 ·intro m' σ' x v h1 _ h2 h3 _ h4
  exact ⟨m',σ',x,v,rfl,rfl,h1,h2,h3,h4⟩
 ·rintro a' w' ⟨m',σ',rfl,h1,h2,h3,h4⟩
  refine ⟨by rw [h2.defers.len,hS.s.defers.len,h3.df],fun hd=>hN m' _ σ' h1.t ⟨?_,hS.marks.le h1.t,Nat.le_trans hS.base h1.size⟩ h4⟩
  have : ({ ({ a' with defers:=a.defers } : Act) with defers:=B.ds } : Act) = a':=by
   cases a'
   simp only at hd
   subst hd
   rfl
  rw [this]
  exact h2
 ·rintro e w' ⟨m',σ',x,v,rfl,rfl,h1,h2,h3,h4⟩
  exact hX m' σ' x v h1.t ⟨h2,hS.marks.le h1.t,Nat.le_trans hS.base h1.size⟩ h3 h4
 ·rintro ⟨a',w',_,_,_,_,_,h,_⟩
  cases h
end
end Aw

namespace Aw
open Go
section
variable {B : Bs} {r : Option Nat} {Θ : Mem → Prop} {P : Program} {σ : St} {Q : AX → St → Prop} {ops : Array Oper} {K : St → Prop} {Kp : AV → St → Prop} {o : Oper} {rest : List Oper}

def OpsT (B : Bs) (r : Option Nat) (Θ : Mem → Prop) (P : Program) (ops : Array Oper) (l : List Oper) (σ : St) (K : St → Prop) (Kp : AV → St → Prop) : Prop :=
 ∀ (m0 : Mem) (X : Exit → Act → World → Prop),(∀ m a σ',m0.leT m → SimT B m a σ' → K σ' → X .normal a m.w) →
  (∀ m a σ' x v,m0.leT m → SimT B m a σ' → Rep m 0 x v → Kp x σ' → X (.panic [{ v,recovered:=false }]) a m.w) →
  ∀ m a,m0.leT m → SimT B m a σ → Θ m → wpListIn (Fr r) 0 P ops X l a m.w
theorem OpsT.nil (h : K σ) : OpsT B r Θ P ops [] σ K Kp:=fun _ _ hK _ m a hle hS _=>hK m a σ hle hS h
theorem OpsT.step [Lasts Θ] (hg : o.guard = none) (h : StepT B r Θ P σ o (fun σ'=>OpsT B r Θ P ops rest σ' K Kp) Kp) : OpsT B r Θ P ops (o :: rest) σ K Kp:=by
 intro m0 X hK hKp m a hle hS ht
 unfold wpListIn
 rw [if_pos (by simp [Region.wanted,hg])]
 exact h m a _ _ hS ht (fun m' a' σ' hle' hS' hk=>hk m0 X hK hKp m' a' (hle.trans hle') hS' (Lasts.le hle' ht)) (fun m' σ' x v hle' hS' hx hk=>hKp m' a σ' x v (hle.trans hle') hS' hx hk)

theorem SimT.put {m : Mem} {a : Act} {d : Option Tmp} {x : AV} {v : Value} (hS : SimT B m a σ) (hd : dstOk σ.n d = true) (hv : Rep m 0 x v) : SimT B m (a.put d v) (σ.put d x):=by
 have h:=hS.s.put (.refl m) hS.s.h hd hv
 have hdf : (a.put d v).defers = a.defers:=by cases d <;> rfl
 refine ⟨?_,by rw [hdf]; exact hS.marks,hS.base⟩
 have : ({ a.put d v with defers:=B.ds } : Act) = ({ a with defers:=B.ds } : Act).put d v:=by cases d <;> rfl
 rw [this]
 exact h

theorem OpsT.cons [Lasts Θ] (hnd : notDefer o.op = true) (h : awGuard P (ops.toList.map (·.dst)) o σ (fun σ'=>OpsT B r Θ P ops rest σ' K Kp) Kp) : OpsT B r Θ P ops (o :: rest) σ K Kp:=by
 intro m0 X hK hKp m a hle hS ht
 have hstep : ∀ {σ : St},SemStep P σ o (fun σ'=>OpsT B r Θ P ops rest σ' K Kp) Kp → SimT B m a σ → o.wpIn (Fr r) 0 P a m.w (wpListIn (Fr r) 0 P ops X rest) X:=fun h hS =>
  StepT.of (B:=B) (r:=r) (Θ:=Θ) hnd h m a _ _ hS ht (fun m' a' σ' hle' hS' hk=>hk m0 X hK hKp m' a' (hle.trans hle') hS' (Lasts.le hle' ht)) (fun m' σ' x v hle' hS' hx hk=>hKp m' a σ' x v (hle.trans hle') hS' hx hk)
 unfold awGuard at h
 unfold wpListIn
 cases hg : o.guard with
 | none =>
  rw [hg] at h
  simp only at h
  rw [if_pos (by simp [Region.wanted,hg])]
  exact hstep (awStep_sound h) hS
 | some p =>
  rw [hg] at h
  simp only at h
  cases hgv : gAt (ops.toList.map (·.dst)) σ p.1 p.2 with
  | none=>rw [hgv] at h; exact h.elim
  | some g =>
   rw [hgv] at h
   simp only at h
   have hw : Region.wanted o (yielded ops a.tmps) = g:=by
    simp only [Region.wanted,hg]
    exact gAt_sound hS.s hgv
   cases hp : pureOp P σ g o.op with
   | some q =>
    rw [hp] at h
    simp only at h
    obtain ⟨h1,h2,h3⟩:=h
    cases hgb : g with
    | true =>
     rw [if_pos (by rw [hw,hgb])]
     obtain ⟨v,hrun,hrep⟩:=pureOp_sound hS.s hgb hp (h2 hgb)
     refine ⟨fun _ _=>trivial,?_⟩
     rw [Oper.semAt_eq _ _ _ (notDefer_ne hnd)]
     have he : ({ a with defers:=B.ds } : Act).eval = a.eval:=rfl
     rw [he] at hrun
     rw [hrun]
     refine h3 m0 X hK hKp m _ hle (hS.put h1 ?_) ht
     simp only [Rep]
     exact ⟨fun _=>hrep,fun h=>(by rw [hgb] at h; cases h)⟩
    | false =>
     rw [if_neg (by rw [hw,hgb]; simp)]
     refine ⟨fun _ _=>trivial,h3 m0 X hK hKp m _ hle (hS.put h1 ?_) ht⟩
     simp only [Rep]
     exact ⟨fun h=>(by rw [hgb] at h; cases h),fun _=>trivial⟩
   | none =>
    rw [hp] at h
    simp only at h
    rcases h with h | ⟨y,hd,h1,h2⟩
    ·cases hgb : g with
     | true =>
      rw [if_pos (by rw [hw,hgb])]
      exact hstep (awStep_sound (h.1 hgb)) hS
     | false =>
      rw [if_neg (by rw [hw,hgb]; simp)]
      obtain ⟨h1,h2⟩:=h.2 hgb
      exact ⟨fun _ _=>trivial,h2 m0 X hK hKp m _ hle (hS.put h1 (by simp only [Rep])) ht⟩
    ·cases hgb : g with
     | true =>
      rw [if_pos (by rw [hw,hgb])]
      rw [hgb] at h2
      exact StepT.of (B:=B) (r:=r) (Θ:=Θ) hnd (h1 hgb) m a _ _ hS ht
       (fun m' a' σ' hle' hS' hk=>by
        subst hk
        exact h2 m0 X hK hKp m' a' (hle.trans hle') ⟨Sim.opt rfl hS'.s,hS'.marks,hS'.base⟩ (Lasts.le hle' ht))
       (fun m' σ' x v hle' hS' hx hk=>hKp m' a σ' x v (hle.trans hle') hS' hx hk)
     | false =>
      rw [if_neg (by rw [hw,hgb]; simp)]
      rw [hgb] at h2
      exact ⟨fun _ _=>trivial,h2 m0 X hK hKp m _ hle (hS.put hd (by simp only [Rep]; exact ⟨fun h=>(by cases h),fun _=>trivial⟩)) ht⟩

def noDefers (l : List Oper) : Bool:=l.all fun o=>notDefer o.op
theorem OpsT.run [Lasts Θ] : ∀ {l l' : List Oper} {σ σ' : St} {ob : Prop},runOps P (ops.toList.map (·.dst)) l σ = (ob,l',σ') → noDefers l = true → ob → OpsT B r Θ P ops l' σ' K Kp → OpsT B r Θ P ops l σ K Kp
 | [],l',σ,σ',ob,h,_,_,hk=>by
  simp only [runOps,Prod.mk.injEq] at h
  obtain ⟨_,rfl,rfl⟩:=h
  exact hk
 | o :: rest,l',σ,σ',ob,h,hn,hob,hk=>by
  simp only [runOps] at h
  split at h
  ·simp only [Prod.mk.injEq] at h
   obtain ⟨_,rfl,rfl⟩:=h
   exact hk
  ·rename_i q hr
   generalize hq : runOps P (ops.toList.map (·.dst)) rest q.2 = z at h
   obtain ⟨z1,z2,z3⟩:=z
   simp only [Prod.mk.injEq] at h
   obtain ⟨rfl,rfl,rfl⟩:=h
   simp only [noDefers,List.all_cons,Bool.and_eq_true] at hn
   exact OpsT.cons hn.1 (stepOp_sound hr hob.1 (OpsT.run hq hn.2 hob.2 hk))
theorem AWT.region {id : Nat} (h : OpsT B r Θ P ops ops.toList σ (fun σ'=>Q .normal σ') (fun x σ'=>Q (.panic x) σ')) : AWT B r Θ P (.region id ops false) σ Q:=fun m a hS ht=>by
 refine wpB.of (wpIn_region_list (h m (PostT B m Q) ?_ ?_ m a (.refl m) hS ht))
 ·intro m' a' σ' hle hS' h'
  exact ⟨m',σ',.normal,rfl,hle,hS',rfl,h'⟩
 ·intro m' a' σ' x v hle hS' hx h'
  exact ⟨m',σ',.panic x,rfl,hle,hS',⟨v,rfl,hx⟩,h'⟩
end
end Aw

namespace Aw
open Go
section
variable {m m' : Mem} {π : Nat → Nat}
mutual
theorem Rep.mono1 (h : KF m m') : ∀ (x : AV) (v : Value),noT x = true → Rep m 1 x v → Rep m' 1 x v
 | .bool _,_,_,hx=>by simpa only [Rep] using hx
 | .int _ _,_,_,hx=>by simpa only [Rep] using hx
 | .str _,_,_,hx=>by simpa only [Rep] using hx
 | .agg cs,v,hn,hx=>by
  simp only [noT] at hn
  simp only [Rep] at hx ⊢
  obtain ⟨vs,rfl,hl⟩:=hx
  exact ⟨vs,rfl,RepL.mono1 h cs _ hn hl⟩
 | .tup cs,v,hn,hx=>by
  simp only [noT] at hn
  simp only [Rep] at hx ⊢
  obtain ⟨vs,rfl,hl⟩:=hx
  exact ⟨vs,rfl,RepL.mono1 h cs _ hn hl⟩
 | .clos f cs,v,hn,hx=>by
  simp only [noT] at hn
  simp only [Rep] at hx ⊢
  obtain ⟨vs,rfl,hl⟩:=hx
  exact ⟨vs,rfl,RepL.mono1 h cs _ hn hl⟩
 | .sl es,v,_,hx=>by
  simp only [Rep] at hx ⊢
  rcases hx with hx | ⟨b,o,c,sz,rfl,hc,he⟩
  ·exact .inl hx
  ·exact .inr ⟨b,o,c,sz,rfl,hc,RepE.monoK h es b o sz he⟩
 | .row id off len,v,_,hx=>by
  simp only [Rep] at hx
  omega
 | .ptr id off,v,_,hx=>by
  simp only [Rep] at hx
  omega
 | .rptr id idx c,v,_,hx=>by
  simp only [Rep] at hx
  omega
 | .map id,v,_,hx=>by
  simp only [Rep] at hx
  omega
 | .cptr cs,v,_,hx=>by
  simp only [Rep] at hx ⊢
  obtain ⟨b,o,rfl,hc⟩:=hx
  exact ⟨b,o,rfl,RepC.monoK h cs b o hc⟩
 | .tptr _,_,hn,_=>by simp [noT] at hn
 | .cmap _ _,_,hn,_=>by simp [noT] at hn
 | .iface t x,v,hn,hx=>by
  simp only [noT] at hn
  simp only [Rep] at hx ⊢
  obtain ⟨u,rfl,hu⟩:=hx
  exact ⟨u,rfl,Rep.mono1 h x u hn hu⟩
 | .ite c x y,v,hn,hx=>by
  simp only [noT,Bool.and_eq_true] at hn
  simp only [Rep] at hx ⊢
  exact ⟨fun hc=>Rep.mono1 h x v hn.1 (hx.1 hc),fun hc=>Rep.mono1 h y v hn.2 (hx.2 hc)⟩
 | .opt c x,v,hn,hx=>by
  simp only [noT] at hn
  simp only [Rep] at hx ⊢
  exact ⟨fun hc=>Rep.mono1 h x v hn (hx.1 hc),hx.2⟩
 | .raw _,_,_,hx=>by simpa only [Rep] using hx
 | .top,_,_,_=>by simp only [Rep]
theorem RepL.mono1 (h : KF m m') : ∀ (xs : List AV) (vs : List Value),noTL xs = true → RepL m 1 xs vs → RepL m' 1 xs vs
 | [],_,_,hx=>by simpa only [RepL] using hx
 | x :: xs,vs,hn,hx=>by
  simp only [noTL,Bool.and_eq_true] at hn
  simp only [RepL] at hx ⊢
  obtain ⟨v,rest,rfl,hv,hr⟩:=hx
  exact ⟨v,rest,rfl,Rep.mono1 h x v hn.1 hv,RepL.mono1 h xs rest hn.2 hr⟩
end
def noTBm : ABlk → Bool
 | .cells cs=>noTL cs
 | .tc _ cs=>noTL cs
 | .row _ _ _=>true
 | .amap ks vs=>noTL ks && noTL vs
 | .lp _ _=>true
 | .it _ _=>false
 | .full _ _=>true
 | .brow _ _=>true
 | .mrow _ _=>true
theorem BlkRep.mapTm (h : MapF m m' π) {ri : RI} {x : ABlk} (hb : ri.isNil = false → m'.w.heap[ri.b]? = m.w.heap[ri.b]?) (hP : ri.isNil = false → ¬ m'.Pr ri.b) (hF : ri.isNil = false → ∀ o,m'.F ri.b o → m.F ri.b o)
  (hn : noTBm x = true) (hx : BlkRep m ri x) : BlkRep m' ri (renB π x):=by
 cases x with
 | cells cs =>
  obtain ⟨h1,h2,h3,c,T,h4,h5⟩:=hx
  exact ⟨h1,hP h1,fun o ho=>h3 o (hF h1 o ho),c,T,(hb h1).trans h4,RepL.mapT h _ _ hn h5⟩
 | tc T0 cs =>
  obtain ⟨h1,h2,h3,c,h4,h5⟩:=hx
  exact ⟨h1,hP h1,fun o ho=>h3 o (hF h1 o ho),c,(hb h1).trans h4,RepL.mapT h _ _ hn h5.1,h5.2.1,h5.2.2.1,h5.2.2.2.trans (renL_len _ _).symm⟩
 | row sz es own=>exact RowRep.mapT h hb hP hF hx
 | full sz es=>exact ⟨RowRep.mapT h hb hP hF hx.1,hx.2⟩
 | mrow sz es=>exact ⟨hx.1,RowRep.mapT h hb hP hF hx.2⟩
 | brow e l=>exact ⟨RowRep.mapT h hb hP hF hx.1,fun hn1=>⟨(hx.2 hn1).1,let ⟨c,hc⟩:=(hx.2 hn1).2; ⟨c,(hb hn1).trans hc⟩⟩⟩
 | amap ks vs =>
  simp only [noTBm,Bool.and_eq_true] at hn
  obtain ⟨h1,h2,h3,kv,vv,es,cl,h4,h5,h6,h7⟩:=hx
  exact ⟨h1,hP h1,fun o ho=>h3 o (hF h1 o ho),kv,vv,es,cl,(hb h1).trans h4,h5,RepL.mono1 h.kf _ _ hn.1 h6,RepL.mono1 h.kf _ _ hn.2 h7⟩
 | lp l rc =>
  obtain ⟨h1,h2,h3,h4,h5⟩:=hx
  exact ⟨h1,hP h1,fun o ho=>h3 o (hF h1 o ho),h4,(hb h1).trans h5⟩
 | it left cur=>cases hn
end

def noTHm : List (Nat × ABlk) → Bool
 | []=>true
 | p :: r=>noTBm p.2 && noTHm r
theorem noTHm_mem : ∀ {hp : List (Nat × ABlk)} {i : Nat} {y : ABlk},noTHm hp = true → (i,y) ∈ hp → noTBm y = true
 | p :: r,i,y,h,hm=>by
  simp only [noTHm,Bool.and_eq_true] at h
  rcases List.mem_cons.1 hm with e | hm
  ·rw [show y = p.2 from by rw [← e]]; exact h.1
  ·exact noTHm_mem h.2 hm
section
variable {hp hp0 hp' : List (Nat × ABlk)} {nx nx' : Nat} {L : List Nat} {m m' : Mem}
theorem outerH_simHm (hH : SimH m hp nx) (hL : ∀ id ∈ L,(get hp id).isSome = true) (_ : L.Nodup) (h : (m.innerH L nx).le m') (hH' : SimH m' hp' nx') (hs : solo hp' = true) (hn : noTHm hp' = true) (hge : L.length ≤ nx') :
  SimH (m.outerH m' L nx) (appHp (dels hp L) (renHp (bk L nx) hp')) (nx + (nx' - L.length)):=by
 have hLn : ∀ id ∈ L,id < nx:=fun id hid=>by
  obtain ⟨x,hx⟩:=Option.isSome_iff_exists.1 (hL id hid)
  obtain ⟨ri,hr,_⟩:=hH.blk id x hx
  exact rho_lt hH hr
 have hPr : m'.Pr = (m.innerH L nx).Pr:=h.Pr
 have hold : ∀ id x ri,get (dels hp L) id = some x → m.ρ id = some ri → ri.isNil = false → (m.innerH L nx).Pr ri.b:=by
  intro id x ri hx hr hn
  obtain ⟨h1,h2⟩:=get_dels hx
  obtain ⟨ri',hr',hb⟩:=hH.blk id x h1
  obtain rfl : ri' = ri:=Option.some.inj (hr'.symm.trans hr)
  refine ⟨hb.lt hn,fun j hj rj hrj hnj=>?_⟩
  obtain ⟨y,hy⟩:=Option.isSome_iff_exists.1 (hL j hj)
  exact hH.apart j id y x rj ri' hy h1 hrj hr (fun e=>h2 (e ▸ hj)) hnj hn
 have hnew : ∀ id x,get (renHp (bk L nx) hp') id = some x → ∃ i y ri,get hp' i = some y ∧ bk L nx i = id ∧ x = renB (bk L nx) y ∧ m'.ρ i = some ri ∧ BlkRep m' ri y ∧ noTBm y = true:=by
  intro id x hx
  obtain ⟨i,y,h1,h2,h3⟩:=get_renHp hx
  have h4:=get_of_mem hs h1
  obtain ⟨ri,h5,h6⟩:=hH'.blk i y h4
  exact ⟨i,y,ri,h4,h2,h3,h5,h6,noTHm_mem hn h1⟩
 have hrho : ∀ id x,get (dels hp L) id = some x → (m.outerH m' L nx).ρ id = m.ρ id:=by
  intro id x hx
  obtain ⟨ri,hr,_⟩:=hH.blk id x (get_dels hx).1
  show (if id < nx then m.ρ id else _) = m.ρ id
  rw [if_pos (rho_lt hH hr)]
 refine ⟨?_,?_,?_,?_,?_⟩
 ·intro id x hx
  rcases get_appHp hx with hx | hx
  ·obtain ⟨h1,h2⟩:=get_dels hx
   obtain ⟨ri,hr,hb⟩:=hH.blk id x h1
   refine ⟨ri,(hrho id x hx).trans hr,?_⟩
   have hk:=outerH_keeps hH hL h
   have hm : MapOk m (m.outerH m' L nx) (fun i=>i):=⟨hk.Pr,hk.block,hk.F,hk.cell,hk.ρ⟩
   have:=BlkRep.map hm (fun hn=>h.block ri.b (hold id x ri hx hr hn)) (fun hn=>hb.noPr hn) (fun hn o hf=>h.new ri.b o (hold id x ri hx hr hn) hf) hb
   rw [renB_id] at this
   exact this
  ·obtain ⟨i,y,ri,h1,h2,h3,h4,h5,h6⟩:=hnew id x hx
   subst h2 h3
   refine ⟨ri,bk_map hH hL h h4,BlkRep.mapTm (bk_mapF hH hL h) (fun _=>rfl) (fun hn hp=>?_) (fun _ _ h=>h) h6 h5⟩
   exact h5.noPr hn (hPr ▸ (innerH_map hH hL).Pr _ hp)
 ·intro id id' x x' ri ri' hx hx' hr hr' hne hn1 hn2
  rcases get_appHp hx with hx | hx <;> rcases get_appHp hx' with hx' | hx'
  ·rw [hrho id x hx] at hr
   rw [hrho id' x' hx'] at hr'
   exact hH.apart id id' x x' ri ri' (get_dels hx).1 (get_dels hx').1 hr hr' hne hn1 hn2
  ·rw [hrho id x hx] at hr
   obtain ⟨i,y,rj,h1,h2,h3,h4,h5,h6⟩:=hnew id' x' hx'
   subst h2
   rw [bk_map hH hL h h4] at hr'
   injection hr' with hr'
   subst hr'
   intro e
   exact h5.noPr hn2 (hPr ▸ e ▸ hold id x ri hx hr hn1)
  ·rw [hrho id' x' hx'] at hr'
   obtain ⟨i,y,rj,h1,h2,h3,h4,h5,h6⟩:=hnew id x hx
   subst h2
   rw [bk_map hH hL h h4] at hr
   injection hr with hr
   subst hr
   intro e
   exact h5.noPr hn1 (hPr ▸ e ▸ hold id' x' ri' hx' hr' hn2)
  ·obtain ⟨i,y,rj,h1,h2,h3,h4,h5,h6⟩:=hnew id x hx
   obtain ⟨i',y',rj',g1,g2,g3,g4,g5,g6⟩:=hnew id' x' hx'
   subst h2 g2
   rw [bk_map hH hL h h4] at hr
   rw [bk_map hH hL h g4] at hr'
   injection hr with hr
   injection hr' with hr'
   subst hr hr'
   exact hH'.apart i i' y y' rj rj' h1 g1 h4 g4 (fun e=>hne (by rw [e])) hn1 hn2
 ·intro id hid
  show (if id < nx then m.ρ id else m'.ρ (L.length + (id - nx))) = none
  rw [if_neg (by omega)]
  exact hH'.fresh _ (by omega)
 ·exact hH'.Fold
 ·intro b hb
  exact hH'.Pold b (hPr ▸ (innerH_map hH hL).Pr b hb)end
def backOkm (L : List Nat) (hp' : List (Nat × ABlk)) (nx' : Nat) : Bool:=solo hp' && (noTHm hp' && decide (L.length ≤ nx'))
attribute [go_sem] noTBm noTHm backOkm
end Aw

namespace Aw
open Go

structure Kept (M0 m : Mem) : Prop where
 k : M0.keeps m
 fresh : ∀ id,M0.np ≤ id → M0.ρ id = none
instance {M0 : Mem} : Lasts (Kept M0):=⟨fun {m m'} hl h=>⟨⟨hl.np.trans h.k.np,fun b hb=>hl.Pr b (h.k.Pr b hb),fun b hb=>(hl.block b (h.k.Pr b hb)).trans (h.k.block b hb),fun b o hf=>hl.F b o (h.k.F b o hf),
 fun b o hf=>(hl.cell b o (h.k.F b o hf)).trans (h.k.cell b o hf),fun id ri hr=>hl.pin id ri (by
  rcases Nat.lt_or_ge id M0.np with h1 | h1
  ·rw [h.k.np]; exact h1
  ·rw [h.fresh id h1] at hr; cases hr) (h.k.ρ id ri hr)⟩,h.fresh⟩⟩
theorem pick_range {n nx i : Nat} (h : i < n) : pick (List.range n) nx i = i:=by
 unfold pick
 rw [nth_eq]
 simp [h]
theorem Kept.inner {M0 m : Mem} {hp : List (Nat × ABlk)} {nx n : Nat} (h : Kept M0 m) (hH : SimH m hp nx) (hL : ∀ id ∈ List.range n,(get hp id).isSome = true) (hn : m.np = n) : Kept M0 (m.innerH (List.range n) nx) where
 k:=⟨by rw [← h.k.np,hn]; simp [Mem.innerH],fun b hb=>(innerH_map hH hL).Pr b (h.k.Pr b hb),h.k.block,h.k.F,h.k.cell,fun id ri hr=>by
  have hlt : id < n:=by
   rcases Nat.lt_or_ge id M0.np with h1 | h1
   ·rw [← hn,h.k.np]; exact h1
   ·rw [h.fresh id h1] at hr; cases hr
  show m.ρ (pick (List.range n) nx id) = some ri
  rw [pick_range hlt]
  exact h.k.ρ id ri hr⟩
 fresh:=h.fresh

class LastsIn (Θ : Mem → Prop) : Prop extends Lasts Θ where
 inner : ∀ {m : Mem} {hp : List (Nat × ABlk)} {nx n : Nat},Θ m → SimH m hp nx → (∀ id ∈ List.range n,(get hp id).isSome = true) → m.np = n → Θ (m.innerH (List.range n) nx)
instance {M0 : Mem} : LastsIn (Kept M0):=⟨fun h hH hL hn=>h.inner hH hL hn⟩
theorem LastsIn.at {Θ : Mem → Prop} [LastsIn Θ] {σ : St} {L : List Nat} (hL : L.all (fun id=>(get σ.hp id).isSome) = true) (hn : L = List.range σ.np) : ∀ m a,Sim m a σ → Θ m → Θ (m.innerH L σ.nx):=by
 intro m a hS ht
 subst hn
 exact LastsIn.inner ht hS.h (fun id hid=>List.all_eq_true.1 hL id hid) hS.np

structure FnT (Θ : Mem → Prop) (P : Program) (gl : List (Nat × AV)) (f : FuncId) (xs : List AV) (hp : List (Nat × ABlk)) (nx : Nat) (R : AE → List (Nat × ABlk) → Nat → Prop) : Prop where
 enters : enters P f
 calls : ∀ m vs,StartH m gl hp nx → Θ m → RepL m 0 xs vs → Calls P f vs.toArray m.w fun e w'=>∃ m' r hp' nx',m'.w = w' ∧ m.le m' ∧ SimH m' hp' nx' ∧ endOkH m' r e ∧ R r hp' nx'
theorem FnT.mono {Θ : Mem → Prop} {P : Program} {gl : List (Nat × AV)} {f : FuncId} {xs : List AV} {hp : List (Nat × ABlk)} {nx : Nat} {R R' : AE → List (Nat × ABlk) → Nat → Prop} (h : FnT Θ P gl f xs hp nx R) (hr : ∀ r hp nx,R r hp nx → R' r hp nx) : FnT Θ P gl f xs hp nx R' :=
 ⟨h.enters,fun m vs hm ht hv=>(h.calls m vs hm ht hv).mono fun _ _ ⟨m',r,hp',nx',h1,h2,h3,h4,h5⟩=>⟨m',r,hp',nx',h1,h2,h3,h4,hr r _ _ h5⟩⟩
def RoundT (Θ : Mem → Prop) (P : Program) (gl : List (Nat × AV)) (l : Nat) (xs : List AV) (hp : List (Nat × ABlk)) (nx : Nat) (R : AE → List (Nat × ABlk) → Nat → Prop) : Prop :=
 ∀ m vs,StartH m gl hp nx → Θ m → RepL m 0 xs vs → ∃ rc : Loop,m.w.heap[l]? = some (.loop rc) ∧ vs.toArray.size = rc.params.size ∧
  RoundIn (Fr none) 0 P l rc.fn ((rc.params.zip vs.toArray).foldl (fun tmps (t,a)=>tmps.setIfInBounds t a) rc.tmps) rc.assign rc.body m.w fun e w'=>∃ m' r hp' nx',m'.w = w' ∧ m.le m' ∧ SimH m' hp' nx' ∧ endOkH m' r e ∧ R r hp' nx'
def ayield (σ : St) (o : Op) : Option (Prop × Nat × List AV) :=
 match o with
 | .call c=>match c.callee with
  | .value g=>match evE σ g with
   | some p=>match p.2 with
    | .raw v=>match v with
     | .func fn first _=>match fn with
      | .yield l=>match evEs σ c.args.toList with
       | some q=>some ((p.1 ∧ first = #[]) ∧ q.1,l,q.2)
       | none=>none
      | _=>none
     | _=>none
    | _=>none
   | none=>none
  | _=>none
 | _=>none
theorem ayield_sound {m : Mem} {a : Act} {σ : St} (hS : Sim m a σ) {o : Oper} {ob : Prop} {l : Nat} {ys : List AV} (h : ayield σ o.op = some (ob,l,ys)) (hob : ob) :
  ∃ vs : List Value,execOp a.eval o = Instr.yield l vs.toArray ∧ RepL m 0 ys vs:=by
 unfold ayield at h
 split at h
 case h_2=>cases h
 rename_i c hc
 split at h
 case h_2=>cases h
 rename_i g hg
 split at h
 case h_2=>cases h
 rename_i p hp
 split at h
 case h_2=>cases h
 rename_i v hv
 split at h
 case h_2=>cases h
 rename_i fn first caps
 split at h
 case h_2=>cases h
 rename_i l'
 split at h
 case h_2=>cases h
 rename_i q hq
 simp only [Option.some.injEq,Prod.mk.injEq] at h
 obtain ⟨rfl,rfl,rfl⟩:=h
 have h1:=evE_sound hS hp hob.1.1
 rw [hv] at h1
 simp only [Rep] at h1
 have h2:=evEs_sound hS hq hob.2
 refine ⟨c.args.toList.map a.eval,?_,h2⟩
 unfold execOp
 rw [hc]
 simp only [resolve,hg,h1,Deferred.ofValue,pure_bind,invoke,hob.1.2]
 have e : (List.map a.eval c.args.toList).toArray = Array.map a.eval c.args:=by rw [← Array.toList_map]
 rw [e]
 congr 1
 simp

section
variable {B : Bs} {r : Option Nat} {Θ : Mem → Prop} {P : Program} {σ : St} {o : Oper} {K : St → Prop} {Kp : AV → St → Prop} {ob ob' : Prop} {f : FuncId} {ys zs xs : List AV} {hp0 : List (Nat × ABlk)} {R : AE → List (Nat × ABlk) → Nat → Prop} {L : List Nat}
theorem innerStart {m : Mem} {a : Act} {vs : List Value} (hS : Sim m a σ) (hvs : RepL m 0 ys vs)
  (hz : mapO (fz σ.hp 9) ys = some (ob',zs)) (hob' : ob') (hL' : ∀ id ∈ L,(get σ.hp id).isSome = true) (hnd : L.Nodup)
  (hhp : viewHp (Aw.pick L σ.nx) L.length σ.hp hp0) (hxs : renL (Aw.pick L σ.nx) xs = zs) : StartH (m.innerH L σ.nx) σ.gl hp0 L.length ∧ RepL (m.innerH L σ.nx) 0 xs vs:=by
 have hzs:=mapO_sound (m:=m) (m':=m) (k:=0) (f:=fz σ.hp 9) (fun x y v ob h hob hv=>fz_sound hS.h 9 x y v ob h hob hv) hz hob' hvs
 rw [← hxs] at hzs
 have hM:=innerH_map hS.h hL'
 have hargs : RepL (m.innerH L σ.nx) 0 xs vs:=by
  have:=RepL.map hM xs vs (RepL.ren xs vs hzs)
  rw [renL_id] at this
  exact this
 have hP : KP m (m.innerH L σ.nx):=⟨fun b hb=>hM.Pr b hb,fun _ _=>rfl⟩
 have hF : KF m (m.innerH L σ.nx):=⟨fun _ _ h=>h,fun _ _ _=>rfl⟩
 exact ⟨⟨innerH_simH hS.h hL' hnd hhp,fun g x hg=>Rep.monoK hF 1 (fun _=>hP) (Nat.le_refl 1) _ _ (hS.gl g x hg),rfl⟩,hargs⟩
theorem backRet {m m' : Mem} {a : Act} {y : AV} {v : Value} {hp' : List (Nat × ABlk)} {nx' : Nat} (hS : SimT B m a σ) (hL' : ∀ id ∈ L,(get σ.hp id).isSome = true) (hnd : L.Nodup) (hle : (m.innerH L σ.nx).le m') (hH' : SimH m' hp' nx')
  (hb : (backOkm L hp' nx' && noT y) = true) (hd : dstOk σ.n o.dst = true) (hv : Rep m' 0 y v) :
  m.leT (m.outerH m' L σ.nx) ∧ SimT B (m.outerH m' L σ.nx) (a.put o.dst v) (St.put (backSt σ L hp' nx') o.dst (ren (bk L σ.nx) y)):=by
 have hk2:=outerH_keeps hS.s.h hL' hle
 have hl2:=(outerH_le hS.s.h hL' hle).t
 simp only [backOkm,Bool.and_eq_true,decide_eq_true_eq] at hb
 have hH2:=outerH_simHm hS.s.h hL' hnd hle hH' hb.1.1 hb.1.2.1 hb.1.2.2
 have h:=hS.s.put hk2 hH2 hd (Rep.mapT (bk_mapF hS.s.h hL' hle) y v hb.2 hv)
 have hdf : (a.put o.dst v).defers = a.defers:=by cases o.dst <;> rfl
 refine ⟨hl2,?_,by rw [hdf]; exact hS.marks.le hl2,Nat.le_trans hS.base hl2.size⟩
 have : ({ a.put o.dst v with defers:=B.ds } : Act) = ({ a with defers:=B.ds } : Act).put o.dst v:=by cases o.dst <;> rfl
 rw [this]
 exact h
theorem backPan {m m' : Mem} {a : Act} {y : AV} {v : Value} {hp' : List (Nat × ABlk)} {nx' : Nat} (hS : SimT B m a σ) (hL' : ∀ id ∈ L,(get σ.hp id).isSome = true) (hnd : L.Nodup) (hle : (m.innerH L σ.nx).le m') (hH' : SimH m' hp' nx')
  (hb : backOkm L hp' nx' = true) (hv : Rep m' 2 y v) : m.leT (m.outerH m' L σ.nx) ∧ SimT B (m.outerH m' L σ.nx) a (backSt σ L hp' nx') ∧ Rep (m.outerH m' L σ.nx) 0 y v:=by
 have hk2:=outerH_keeps hS.s.h hL' hle
 have hl2:=(outerH_le hS.s.h hL' hle).t
 simp only [backOkm,Bool.and_eq_true,decide_eq_true_eq] at hb
 have hH2:=outerH_simHm hS.s.h hL' hnd hle hH' hb.1 hb.2.1 hb.2.2
 have hKF2 : KF m' (m.outerH m' L σ.nx):=⟨fun _ _ h=>h,fun _ _ _=>rfl⟩
 have hv2:=Rep.monoK hKF2 2 (fun h=>absurd h (by omega)) (by omega) _ _ hv
 exact ⟨hl2,⟨hS.s.of hk2 hH2,hS.marks.le hl2,Nat.le_trans hS.base hl2.size⟩,Rep.down (Nat.zero_le 2) _ _ hv2⟩

theorem acall_notDefer (h : acall σ o.op = some (ob,f,ys)) : notDefer o.op = true:=by
 unfold acall at h
 split at h
 case h_2=>cases h
 rename_i c hc
 rw [hc]
 rfl
theorem ayield_notDefer {l : Nat} (h : ayield σ o.op = some (ob,l,ys)) : notDefer o.op = true:=by
 unfold ayield at h
 split at h
 case h_2=>cases h
 rename_i c hc
 rw [hc]
 rfl
theorem StepT.call (hΘ : ∀ m a,Sim m a σ → Θ m → Θ (m.innerH L σ.nx)) (h : acall σ o.op = some (ob,f,ys)) (hob : ob) (hd : dstOk σ.n o.dst = true)
  (hz : mapO (fz σ.hp 9) ys = some (ob',zs)) (hob' : ob') (hL : L.all (fun id=>(get σ.hp id).isSome) = true) (hnd : L.Nodup)
  (hhp : viewHp (Aw.pick L σ.nx) L.length σ.hp hp0) (hxs : renL (Aw.pick L σ.nx) xs = zs) (hc : FnT Θ P σ.gl f xs hp0 L.length R)
  (hK : ∀ y hp' nx',R (.ret y) hp' nx' → (backOkm L hp' nx' && noT y) = true ∧ K (St.put (backSt σ L hp' nx') o.dst (ren (bk L σ.nx) y)))
  (hKp : ∀ y hp' nx',R (.panic y) hp' nx' → backOkm L hp' nx' = true ∧ Kp y (backSt σ L hp' nx')) : StepT B r Θ P σ o K Kp:=by
 intro m a N X hS ht hN hX
 obtain ⟨vs,hexec,hvs⟩:=acall_sound hS.s h hob
 have he : ({ a with defers:=B.ds } : Act).eval = a.eval:=rfl
 rw [he] at hexec
 refine ⟨fun _ _=>trivial,?_⟩
 rw [Oper.semAt_eq _ _ _ (notDefer_ne (acall_notDefer h)),hexec,hc.enters]
 have hL' : ∀ id ∈ L,(get σ.hp id).isSome = true:=fun id hid=>List.all_eq_true.1 hL id hid
 obtain ⟨hstart,hargs⟩:=innerStart hS.s hvs hz hob' hL' hnd hhp hxs
 have hcall:=hc.calls (m.innerH L σ.nx) vs hstart (hΘ m _ hS.s ht) hargs
 have e2 : (m.innerH L σ.nx).w = m.w:=rfl
 rw [e2] at hcall
 refine ⟨fun hh=>(by cases hh),callsIn_fr.2 (hcall.mono ?_)⟩
 rintro e w' ⟨m',q,hp',nx',rfl,hle,hH',hend,hR⟩
 cases q with
 | ret y =>
  obtain ⟨v,rfl,hv⟩:=hend
  obtain ⟨hb,hk⟩:=hK y hp' nx' hR
  obtain ⟨h1,h2⟩:=backRet (o:=o) hS hL' hnd hle hH' hb hd hv
  exact hN (m.outerH m' L σ.nx) _ _ h1 h2 hk
 | panic y =>
  obtain ⟨v,rfl,hv⟩:=hend
  obtain ⟨hb,hk⟩:=hKp y hp' nx' hR
  obtain ⟨h1,h2,h3⟩:=backPan hS hL' hnd hle hH' hb hv
  exact hX (m.outerH m' L σ.nx) _ y v h1 h2 h3 hk
theorem StepT.yield {l : Nat} (hΘ : ∀ m a,Sim m a σ → Θ m → Θ (m.innerH L σ.nx)) (h : ayield σ o.op = some (ob,l,ys)) (hob : ob) (hd : dstOk σ.n o.dst = true)
  (hz : mapO (fz σ.hp 9) ys = some (ob',zs)) (hob' : ob') (hL : L.all (fun id=>(get σ.hp id).isSome) = true) (hnd : L.Nodup)
  (hhp : viewHp (Aw.pick L σ.nx) L.length σ.hp hp0) (hxs : renL (Aw.pick L σ.nx) xs = zs) (hc : RoundT Θ P σ.gl l xs hp0 L.length R)
  (hK : ∀ y hp' nx',R (.ret y) hp' nx' → (backOkm L hp' nx' && noT y) = true ∧ K (St.put (backSt σ L hp' nx') o.dst (ren (bk L σ.nx) y)))
  (hKp : ∀ y hp' nx',R (.panic y) hp' nx' → backOkm L hp' nx' = true ∧ Kp y (backSt σ L hp' nx')) : StepT B r Θ P σ o K Kp:=by
 intro m a N X hS ht hN hX
 obtain ⟨vs,hexec,hvs⟩:=ayield_sound hS.s h hob
 have he : ({ a with defers:=B.ds } : Act).eval = a.eval:=rfl
 rw [he] at hexec
 refine ⟨fun _ _=>trivial,?_⟩
 have hL' : ∀ id ∈ L,(get σ.hp id).isSome = true:=fun id hid=>List.all_eq_true.1 hL id hid
 obtain ⟨hstart,hargs⟩:=innerStart hS.s hvs hz hob' hL' hnd hhp hxs
 obtain ⟨rc,hrc,hsz,hcall⟩:=hc (m.innerH L σ.nx) vs hstart (hΘ m _ hS.s ht) hargs
 have e2 : (m.innerH L σ.nx).w = m.w:=rfl
 rw [e2] at hcall hrc
 rw [Oper.semAt_eq _ _ _ (notDefer_ne (ayield_notDefer h)),hexec,run_yield hrc hsz]
 refine ⟨fun hh=>(by cases hh),(show RoundIn (Fr none) 0 P _ _ _ _ _ _ _ from RoundIn.mono hcall ?_)⟩
 rintro e w' ⟨m',q,hp',nx',rfl,hle,hH',hend,hR⟩
 cases q with
 | ret y =>
  obtain ⟨v,rfl,hv⟩:=hend
  obtain ⟨hb,hk⟩:=hK y hp' nx' hR
  obtain ⟨h1,h2⟩:=backRet (o:=o) hS hL' hnd hle hH' hb hd hv
  exact hN (m.outerH m' L σ.nx) _ _ h1 h2 hk
 | panic y =>
  obtain ⟨v,rfl,hv⟩:=hend
  obtain ⟨hb,hk⟩:=hKp y hp' nx' hR
  obtain ⟨h1,h2,h3⟩:=backPan hS hL' hnd hle hH' hb hv
  exact hX (m.outerH m' L σ.nx) _ y v h1 h2 h3 hk
end
end Aw

namespace Aw
open Go

theorem mem_of_get {α : Type} : ∀ {l : List (Nat × α)} {i : Nat} {x : α},get l i = some x → (i,x) ∈ l
 | [],_,_,h=>by simp [get] at h
 | p :: r,i,x,h=>by
  simp only [get] at h
  split at h
  ·rename_i e
   injection h with h
   rw [show p = (i,x) from by rw [← e,← h]]
   exact List.mem_cons_self
  ·exact List.mem_cons_of_mem _ (mem_of_get h)

def Mem.shrink (m' m : Mem) : Mem:={ m' with Pr:=m.Pr }
section
variable {m m' : Mem} {hp : List (Nat × ABlk)} {nx : Nat}
theorem shrink_le (h : m.leT m') : m.le (m'.shrink m):=⟨h.os,h.tape,h.output,h.size,rfl,h.block,h.F,h.cell,h.new,h.np,h.pin⟩
theorem shrink_mapF : MapF m' (m'.shrink m) (fun i=>i):=⟨fun _ _ h=>h,fun _ _ _=>rfl,fun _ _ h=>h⟩
theorem shrink_simH (h : m.leT m') (hH : SimH m' hp nx) (hn : noTHm hp = true) : SimH (m'.shrink m) hp nx where
 blk id x hx:=by
  obtain ⟨ri,h1,h2⟩:=hH.blk id x hx
  refine ⟨ri,h1,?_⟩
  have:=BlkRep.mapTm (π:=fun i=>i) (shrink_mapF (m:=m) (m':=m')) (fun _=>rfl) (fun hn hp=>h2.noPr hn (h.Pr _ hp)) (fun _ _ h=>h) (noTHm_mem hn (mem_of_get hx)) h2
  rw [renB_id] at this
  exact this
 apart:=hH.apart
 fresh:=hH.fresh
 Fold:=hH.Fold
 Pold b hb:=hH.Pold b (h.Pr b hb)
theorem shrink_rep {x : AV} {v : Value} (hn : noT x = true) (h : Rep m' 0 x v) : Rep (m'.shrink m) 0 x v:=by
 have:=Rep.mapT (π:=fun i=>i) (shrink_mapF (m:=m) (m':=m')) x v hn h
 rw [ren_id] at this
 exact this
theorem shrink_rep2 {x : AV} {v : Value} (h : Rep m' 2 x v) : Rep (m'.shrink m) 2 x v :=
 Rep.monoK (m:=m') (m':=m'.shrink m) ⟨fun _ _ h=>h,fun _ _ _=>rfl⟩ 2 (fun h=>absurd h (by omega)) (by omega) x v h
theorem Mem.leT.turn {D : Nat} {o o' : Obj} (h : m.leT m') (hD : ¬ m.Pr D) (hD' : m'.w.heap[D]? = some o) (hd : dull o = true) (hd' : dull o' = true) : m.leT (m'.turn D o') where
 os:=h.os
 tape:=h.tape
 output:=h.output
 size:=by rw [turn_size]; exact h.size
 Pr:=h.Pr
 block b hb:=(turn_heap (ne_pr hD hb).symm).trans (h.block b hb)
 F:=h.F
 cell b i hf:=(turn_cell hD' hd hd' b i).trans (h.cell b i hf)
 new:=h.new
 np:=h.np
 pin:=h.pin
end

theorem leavesMs {B : Nat} {P : Program} {fn : Func} {tmps : Array Value} {R : Ending → World → Prop} {u : FrameMode} (Φ : Mem → Prop) (ds0 : List Deferred)
  (hΦ : ∀ m D,Φ m → m.Pr D → B ≤ D → m.w.heap[D]? = some (.deferred (some [])) → Φ (m.turn D (.deferred none))) (hend : ∀ m,Φ m → LeavesInM Fence.wide 0 P fn tmps R ds0 u m.w) (hu : u ≠ .run) :
  ∀ (ds : List Deferred) (m : Mem),MarksL B m ds → Φ m → LeavesInM Fence.wide 0 P fn tmps R (ds ++ ds0) u m.w
 | [],m,_,h=>hend m h
 | d :: ds,m,hM,h=>by
  obtain ⟨D,h1,h2,h3,h4⟩:=hM.1 d List.mem_cons_self
  refine ⟨hu,.inl ⟨D,_,h1,run_takeDeferred h4,?_⟩⟩
  refine leavesMs Φ ds0 hΦ hend hu ds (m.turn D (.deferred none)) ⟨fun e he=>?_,(List.pairwise_cons.1 hM.2).2⟩ (hΦ m D h h3 h2 h4)
  obtain ⟨D',g1,g2,g3,g4⟩:=hM.1 e (List.mem_cons_of_mem _ he)
  have hne : D' ≠ D:=by
   intro e'
   have:=(List.pairwise_cons.1 hM.2).1 e he
   rw [h1,g1,e'] at this
   exact this rfl
  exact ⟨D',g1,g2,g3,(turn_heap hne).trans g4⟩
theorem leavesM {B : Nat} {fo : Option FuncId} {P : Program} {fn : Func} {tmps : Array Value} {R : Ending → World → Prop} {u : FrameMode} (Φ : Mem → Prop)
  (hΦ : ∀ m D,Φ m → m.Pr D → B ≤ D → m.w.heap[D]? = some (.deferred (some [])) → Φ (m.turn D (.deferred none))) (hend : ∀ m,Φ m → LeavesIn Fence.wide 0 P fn tmps R [] u m.w) (hu : u ≠ .run)
  (ds : List Deferred) (m : Mem) (hM : Marks ⟨B,[],fo⟩ m ds) (h : Φ m) : LeavesInM Fence.wide 0 P fn tmps R ds u m.w:=by
 obtain ⟨ms,rfl,h2⟩:=hM
 exact leavesMs Φ [] hΦ hend hu ms m h2 h

section
variable {P : Program} {gl : List (Nat × AV)} {f : FuncId} {fn : Func} {c : Code} {xs : List AV} {hp : List (Nat × ABlk)} {nx : Nat} {Θ : Mem → Prop}
theorem simArgs {m : Mem} {vs : List Value} (hm : StartH m gl hp nx) (hv : RepL m 0 xs vs) (hn : xs.length ≤ fn.ntmps) : Sim m { tmps:=vs.toArray ++ Array.replicate (fn.ntmps - vs.toArray.size) undef,defers:=[] } ⟨fn.ntmps,argEnv 0 xs,hp,nx,gl,nx,[]⟩:=by
 have hlen:=hv.length
 refine ⟨hm.h,?_,rfl,?_,hm.gl,hm.np⟩
 ·simp only [Array.size_append,List.size_toArray,Array.size_replicate]
  omega
 ·intro t x ht
  obtain ⟨_,hx⟩:=get_argEnv ht
  have hlt : t < xs.length:=by
   rcases Nat.lt_or_ge t xs.length with h | h
   ·exact h
   ·rw [List.getElem?_eq_none (by omega)] at hx; cases hx
  refine ⟨Nat.lt_of_lt_of_le hlt hn,?_⟩
  obtain ⟨v,hv1,hv2⟩:=hv.at t hlt
  have hx' : xs[t] = x:=by
   rw [Nat.sub_zero,List.getElem?_eq_getElem hlt] at hx
   exact Option.some.inj hx
  have : (vs.toArray ++ Array.replicate (fn.ntmps - vs.toArray.size) undef).getD t undef = v:=by
   rw [Array.getD_eq_getD_getElem?,Array.getElem?_append_left (by simp; omega)]
   simp [hv1]
  rw [this,← hx']
  exact hv2
theorem SimT.start {m : Mem} {a : Act} {σ : St} (h : Sim m a σ) (hd : a.defers = []) : SimT ⟨m.w.heap.size,[],none⟩ m a σ:=by
 refine ⟨?_,?_,Nat.le_refl _⟩
 ·have : ({ a with defers:=[] } : Act) = a:=by cases a; simp only at hd; subst hd; rfl
  rw [this]
  exact h
 ·rw [hd]
  exact Marks.nil (B:=⟨m.w.heap.size,[],none⟩)
theorem FnT.intro {R : AE → List (Nat × ABlk) → Nat → Prop} (hf : P.funcs[f]? = some fn) (hname : (fn.name == "runtime.NumGoroutine") = false) (hb : fn.body = some c) (hn : xs.length ≤ fn.ntmps)
  (hT : ∀ q hp' nx',R q hp' nx' → noTHm hp' = true ∧ ∃ x,q = .ret x ∧ noT x = true)
  (h : ∀ B,AWT B none Θ P c ⟨fn.ntmps,argEnv 0 xs,hp,nx,gl,nx,[]⟩ (finH P fn.results.toList R)) : FnT Θ P gl f xs hp nx R:=by
 refine ⟨enters_of hf hname hb,fun m vs hm ht hv=>?_⟩
 refine callsIn_wide.1 (callsIn_of_wp_marks (F:=Fence.wide) (n:=0) hf hb trivial ?_)
 have hS:=SimT.start (simArgs (fn:=fn) hm hv hn) rfl
 refine wpB.wide (wpB_mono (h ⟨m.w.heap.size,[],none⟩ m _ hS ht) ?_)
 rintro e a' w' ⟨m',σ',ax,rfl,hle,hS',hex,hq⟩
 have key : ∀ u,u ≠ .run → (∀ m2 : Mem,m.leT m2 → Sim m2 { a' with defers:=[] } σ' → LeavesIn Fence.wide 0 P fn a'.tmps (fun e w'=>∃ m' r hp' nx',m'.w = w' ∧ m.le m' ∧ SimH m' hp' nx' ∧ endOkH m' r e ∧ R r hp' nx') [] u m2.w) →
   LeavesInM Fence.wide 0 P fn a'.tmps (fun e w'=>∃ m' r hp' nx',m'.w = w' ∧ m.le m' ∧ SimH m' hp' nx' ∧ endOkH m' r e ∧ R r hp' nx') a'.defers u m'.w:=by
  intro u hu hend
  refine leavesM (B:=m.w.heap.size) (fun m2=>m.leT m2 ∧ Sim m2 { a' with defers:=[] } σ') ?_ (fun m2 h2=>hend m2 h2.1 h2.2) hu a'.defers m' hS'.marks ⟨hle,hS'.s⟩
  rintro m2 D ⟨h1,h2⟩ hD hB hh
  refine ⟨h1.turn (fun hP=>?_) hh rfl rfl,h2.turn hD hh rfl rfl⟩
  have:=hm.h.Pold D hP
  omega
 have ret : finHRet P fn.results.toList R σ' → LeavesInM Fence.wide 0 P fn a'.tmps (fun e w'=>∃ m' r hp' nx',m'.w = w' ∧ m.le m' ∧ SimH m' hp' nx' ∧ endOkH m' r e ∧ R r hp' nx') a'.defers .returning m'.w:=by
  intro hq
  refine key .returning (by simp) fun m2 h1 h2=>?_
  obtain ⟨_,v,hrun,m3,q,hp',nx',e3,l3,s3,en3,r3⟩:=finHRet_sound h2 (.refl m2) hq
  refine ⟨v,hrun,m3.shrink m,q,hp',nx',e3,shrink_le (h1.trans l3.t),shrink_simH (h1.trans l3.t) s3 (hT _ _ _ r3).1,?_,r3⟩
  obtain ⟨_,x,rfl,hx⟩:=hT _ _ _ r3
  obtain ⟨v',h1,h2⟩:=en3
  exact ⟨v',h1,shrink_rep hx h2⟩
 cases ax with
 | normal =>
  simp only [exOk] at hex
  subst hex
  exact ret hq
 | ret =>
  simp only [exOk] at hex
  subst hex
  exact ret hq
 | exit id=>exact hq.elim
 | panic x =>
  exfalso
  have hq' : finHPanic R x σ':=hq
  unfold finHPanic at hq'
  split at hq'
  ·exact hq'
  ·obtain ⟨_,_,h,_⟩:=hT _ _ _ hq'.2
   cases h
theorem FnP.introM {R : AE → Prop} (hf : P.funcs[f]? = some fn) (hname : (fn.name == "runtime.NumGoroutine") = false) (hb : fn.body = some c) (hn : xs.length ≤ fn.ntmps) (hT : ∀ q, R q → ∃ x, q = .ret x)
  (h : ∀ B,AWT B none (fun _=>True) P c ⟨fn.ntmps,argEnv 0 xs,[],0,gl,0,[]⟩ (fin P fn.results.toList R)) : FnP P gl f xs R:=by
 refine ⟨enters_of hf hname hb,fun m vs hm hv=>?_⟩
 refine callsIn_wide.1 (callsIn_of_wp_marks (F:=Fence.wide) (n:=0) hf hb trivial ?_)
 have hm' : StartH m gl [] 0:=⟨⟨fun id x h=>by simp [Aw.get] at h,fun id id' x x' _ _ h=>by simp [Aw.get] at h,fun id _=>hm.ρ id,hm.Fold,hm.Pold⟩,hm.gl,hm.np⟩
 have hS:=SimT.start (simArgs (fn:=fn) hm' (hv.down (Nat.zero_le 1)) hn) rfl
 refine wpB.wide (wpB_mono (h ⟨m.w.heap.size,[],none⟩ m _ hS trivial) ?_)
 rintro e a' w' ⟨m',σ',ax,rfl,hle,hS',hex,hq⟩
 have ret : finRet P fn.results.toList R σ' → LeavesInM Fence.wide 0 P fn a'.tmps (fun e w'=>∃ m' r,m'.w = w' ∧ m.le m' ∧ (∀ b o,m'.F b o → b < m'.w.heap.size) ∧ endOk m' r e ∧ R r) a'.defers .returning m'.w:=by
  intro hq
  refine leavesM (B:=m.w.heap.size) (fun m2=>m.leT m2 ∧ Sim m2 { a' with defers:=[] } σ') ?_ ?_ (by simp) a'.defers m' hS'.marks ⟨hle,hS'.s⟩
  ·rintro m2 D ⟨h1,h2⟩ hD hB hh
   refine ⟨h1.turn (fun hP=>?_) hh rfl rfl,h2.turn hD hh rfl rfl⟩
   have:=hm.Pold D hP
   omega
  ·rintro m2 ⟨h1,h2⟩
   obtain ⟨_,v,hrun,m3,q,e3,l3,f3,en3,r3⟩:=finRet_sound h2 (.refl m2) hq
   refine ⟨v,hrun,m3.shrink m,q,e3,shrink_le (h1.trans l3.t),f3,?_,r3⟩
   obtain ⟨x,rfl⟩:=hT _ r3
   obtain ⟨v',h1,h2⟩:=en3
   exact ⟨v',h1,shrink_rep2 h2⟩
 cases ax with
 | normal =>
  simp only [exOk] at hex
  subst hex
  exact ret hq
 | ret =>
  simp only [exOk] at hex
  subst hex
  exact ret hq
 | exit id=>exact hq.elim
 | panic x =>
  exfalso
  have hq' : finPanic R x σ':=hq
  unfold finPanic at hq'
  split at hq'
  ·exact hq'
  ·obtain ⟨_,h⟩:=hT _ hq'.2
   cases h
end

theorem RoundT.of {P : Program} {gl : List (Nat × AV)} {hp : List (Nat × ABlk)} {nx : Nat} {M0 : Mem} {l : Nat} {rc : Loop} {p : Tmp} {E : List (Nat × AV)} {x : AV} {R : AE → List (Nat × ABlk) → Nat → Prop} (hl : M0.Pr l) (hrc : M0.w.heap[l]? = some (.loop rc))
  (hst : rc.state = .ready) (hpe : rc.pending = none) (hps : rc.params = #[p]) (hE : ∀ t y,get E t = some y → t < rc.tmps.size ∧ Rep M0 0 y (rc.tmps.getD t undef)) (hp' : p < rc.tmps.size)
  (h : AWT 0 (some l) (fun _=>True) P rc.assign ⟨rc.tmps.size,set E p x,hp,nx,gl,nx,[]⟩
   (fun ax σ'=>ax = .normal ∧ AWT 0 (some l) (fun _=>True) P rc.body σ' (fun ax σ''=>ax = .normal ∧ ∃ σ3,St.le σ3 σ'' ∧ noTHm σ3.hp = true ∧ R (.ret (.bool true)) σ3.hp σ3.nx))) : RoundT (Kept M0) P gl l [x] hp nx R:=by
 intro m vs hm hk hv
 have hml : m.w.heap[l]? = some (.loop rc):=(hk.k.block l hl).trans hrc
 have hmP : m.Pr l:=hk.k.Pr l hl
 simp only [RepL] at hv
 obtain ⟨v,rest,rfl,hv,rfl⟩:=hv
 refine ⟨rc,hml,by rw [hps]; rfl,?_⟩
 refine roundIn_of_wpIn (F:=Fr none) (n:=0) trivial ?_
 have htm : (rc.params.zip [v].toArray).foldl (fun tmps (t,a)=>tmps.setIfInBounds t a) rc.tmps = rc.tmps.setIfInBounds p v:=by
  rw [hps]
  simp
 rw [htm]
 have hS : Sim m { tmps:=rc.tmps.setIfInBounds p v,defers:=[] } ⟨rc.tmps.size,set E p x,hp,nx,gl,nx,[]⟩:=by
  refine ⟨hm.h,by simp,rfl,?_,hm.gl,hm.np⟩
  intro t y hy
  simp only [get_set] at hy
  split at hy
  ·rename_i e
   subst e
   injection hy with hy
   subst hy
   refine ⟨hp',?_⟩
   have : (rc.tmps.setIfInBounds p v).getD p undef = v:=by simp [hp']
   rw [this]
   exact hv
  ·rename_i hne
   obtain ⟨h1,h2⟩:=hE t y hy
   refine ⟨h1,?_⟩
   have : (rc.tmps.setIfInBounds p v).getD t undef = rc.tmps.getD t undef:=by simp [Array.getElem?_setIfInBounds_ne hne]
   rw [this]
   exact Rep.mono hk.k 0 _ _ h2
 have hS0 : SimT 0 m { tmps:=rc.tmps.setIfInBounds p v,defers:=[] } ⟨rc.tmps.size,set E p x,hp,nx,gl,nx,[]⟩:=⟨hS,Marks.nil (B:=0),Nat.zero_le _⟩
 refine wpB.wide (wpB_mono (h m _ hS0 trivial) ?_)
 rintro e a1 w1 ⟨m1,σ1,ax,rfl,l1,s1,hex,rfl,hbody⟩
 simp only [exOk] at hex
 subst hex
 have h1l : m1.w.heap[l]? = some (.loop rc):=(l1.block l hmP).trans hml
 have h1P : m1.Pr l:=l1.Pr l hmP
 refine ⟨_,run_beginRound h1l hst,?_⟩
 have s2 : SimT 0 (m1.turn l (.loop { rc with state:=.busy })) a1 σ1:=⟨s1.s.turn h1P h1l rfl rfl,s1.marks.turn h1l,Nat.zero_le _⟩
 refine wpB.wide (wpB_mono (hbody (m1.turn l (.loop { rc with state:=.busy })) a1 s2 trivial) ?_)
 rintro e a3 w3 ⟨m3',σ3',ax,rfl,l3',s3',hex,rfl,σ3,hle3,hnT,hR⟩
 simp only [exOk] at hex
 subst hex
 obtain ⟨m3,e3,l3'',s3⟩:=s3'.le hle3
 have l3:=l3'.trans l3''
 rw [← e3]
 have h3l : m3.w.heap[l]? = some (.loop { rc with state:=.busy }):=(l3.block l h1P).trans (World.putObj_heap_same (Array.getElem?_eq_some_iff.1 h1l).1)
 have h3P : m3.Pr l:=l3.Pr l h1P
 refine ⟨_,_,run_endRound none h3l,?_⟩
 have hrc' : ({ ({ rc with state:=.busy } : Loop) with state:=if (none : Option Code).isNone then .ready else .done,pending:=none } : Loop) = rc:=by
  cases rc
  simp only at hst hpe
  subst hst hpe
  rfl
 rw [hrc']
 have hle : m.leT (m3.turn l (.loop rc)):=by
  refine ⟨l3.os.trans l1.os,l3.tape.trans l1.tape,l3.output.trans l1.output,?_,fun b hb=>l3.Pr b (l1.Pr b hb),?_,fun b o hf=>l3.F b o (l1.F b o hf),?_,fun b o hb hf=>l1.new b o hb (l3.new b o (l1.Pr b hb) hf),l3.np.trans l1.np,fun id ri hi hr=>l3.pin id ri (by rw [show (m1.turn l (.loop { rc with state:=.busy })).np = m1.np from rfl,l1.np]; exact hi) (l1.pin id ri hi hr)⟩
  ·rw [turn_size]
   have:=l3.size
   rw [turn_size] at this
   exact Nat.le_trans l1.size this
  ·intro b hb
   by_cases e : b = l
   ·subst e
    exact (World.putObj_heap_same (Array.getElem?_eq_some_iff.1 h3l).1).trans hml.symm
   ·exact (turn_heap e).trans ((l3.block b (l1.Pr b hb)).trans ((turn_heap e).trans (l1.block b hb)))
  ·intro b o hf
   exact (turn_cell h3l rfl rfl b o).trans ((l3.cell b o (l1.F b o hf)).trans ((turn_cell h1l rfl rfl b o).trans (l1.cell b o hf)))
 exact ⟨(m3.turn l (.loop rc)).shrink m,.ret (.bool true),_,_,rfl,shrink_le hle,shrink_simH hle (s3.s.h.turn h3P h3l rfl rfl) hnT,⟨_,rfl,by simp only [Rep]; rfl⟩,hR⟩
end Aw

namespace Aw
open Go
section
variable {m : Mem} {D l : Nat} {rc : Loop}
theorem alloc_old {w : World} {o : Obj} {b : Nat} (h : b < w.heap.size) : (w.alloc o).heap[b]? = w.heap[b]?:=by
 show (w.heap.push o)[b]? = w.heap[b]?
 rw [Array.getElem?_push]
 rw [if_neg (by omega)]
def Mem.entered (m : Mem) (rc : Loop) : Mem :=
 { m with w:=(m.w.alloc (.deferred (some []))).alloc (.loop rc),Pr:=fun b=>m.Pr b ∨ b = m.w.heap.size ∨ b = m.w.heap.size + 1 }
theorem entered_heap {b : Nat} (h : b < m.w.heap.size) : (m.entered rc).w.heap[b]? = m.w.heap[b]? :=
 (alloc_old (by simp; omega)).trans (alloc_old h)
theorem entered_D : (m.entered rc).w.heap[m.w.heap.size]? = some (.deferred (some [])) :=
 (alloc_old (by simp)).trans (World.alloc_heap_new m.w _)
theorem entered_l : (m.entered rc).w.heap[m.w.heap.size + 1]? = some (.loop rc):=by
 have:=World.alloc_heap_new (m.w.alloc (.deferred (some []))) (.loop rc)
 rwa [World.size_alloc] at this
theorem entered_size : (m.entered rc).w.heap.size = m.w.heap.size + 2:=by simp [Mem.entered]
variable {hp : List (Nat × ABlk)} {nx : Nat}
theorem entered_leT (hH : SimH m hp nx) : m.leT (m.entered rc) where
 os:=rfl
 tape:=rfl
 output:=rfl
 size:=by rw [entered_size]; omega
 Pr _ h:=.inl h
 block b hb:=entered_heap (hH.Pold b hb)
 F _ _ h:=h
 cell b o hf:=cell?_of_block (entered_heap (hH.Fold b o hf))
 new _ _ _ h:=h
 np:=rfl
 pin _ _ _ h:=h
theorem entered_keeps (hH : SimH m hp nx) : m.keeps (m.entered rc) where
 np:=rfl
 Pr _ h:=.inl h
 block b hb:=entered_heap (hH.Pold b hb)
 F _ _ h:=h
 cell b o hf:=cell?_of_block (entered_heap (hH.Fold b o hf))
 ρ _ _ h:=h
theorem entered_simH (hH : SimH m hp nx) : SimH (m.entered rc) hp nx where
 blk id x hx:=by
  obtain ⟨ri,h1,h2⟩:=hH.blk id x hx
  refine ⟨ri,h1,?_⟩
  have hk:=entered_keeps (rc:=rc) hH
  have hm : MapOk m (m.entered rc) (fun i=>i):=⟨hk.Pr,hk.block,hk.F,hk.cell,hk.ρ⟩
  have:=BlkRep.map hm (fun hn=>entered_heap (h2.lt hn)) (fun hn hP=>(by
   have hlt:=h2.lt hn
   rcases hP with hP | hP | hP
   ·exact h2.noPr hn hP
   ·omega
   ·omega)) (fun _ _ h=>h) h2
  rw [renB_id] at this
  exact this
 apart:=hH.apart
 fresh:=hH.fresh
 Fold b o hf:=by have:=hH.Fold b o hf; rw [entered_size]; omega
 Pold b hb:=by
  rw [entered_size]
  rcases hb with hb | hb | hb
  ·have:=hH.Pold b hb; omega
  ·omega
  ·omega
end

theorem AWT.range {B : Bs} {Θ : Mem → Prop} {P : Program} {σ : St} {Q : AX → St → Prop} {g : Operand} {p : Tmp} {assign body : Code} {it : FuncId} {caps zs xs : List AV} {ob' : Prop} {L : List Nat} {hp0 : List (Nat × ABlk)}
  {E : List (Nat × AV)} {R : List (Nat × ABlk) → Nat → Prop}
  (hit : ∀ (Ω : Mem → Prop) (_ : LastsIn Ω) (l : Nat),
   (∀ x hp nx Rr,AWT 0 (some l) (fun _=>True) P assign ⟨σ.n,set E p x,hp,nx,σ.gl,nx,[]⟩
    (fun ax σ'=>ax = .normal ∧ AWT 0 (some l) (fun _=>True) P body σ' (fun ax σ''=>ax = .normal ∧ ∃ σ3,St.le σ3 σ'' ∧ noTHm σ3.hp = true ∧ Rr (AE.ret (.bool true)) σ3.hp σ3.nx)) → RoundT Ω P σ.gl l [x] hp nx Rr) →
   FnT Ω P σ.gl it (.raw (.func (.yield l) #[] #[]) :: xs) hp0 L.length fun q hp' nx'=>(∃ x,q = .ret x) ∧ R hp' nx')
  (hK : ∀ hp' nx',R hp' nx' → backOkm L hp' nx' = true ∧ Q .normal (backSt σ L hp' nx'))
  (hg : ev σ g = some (.clos it caps)) (hz : mapO (fz σ.hp 9) caps = some (ob',zs)) (hob' : ob') (hL : L.all (fun id=>(get σ.hp id).isSome) = true) (hnd : L.Nodup)
  (hhp : viewHp (Aw.pick L σ.nx) L.length σ.hp hp0) (hxs : renL (Aw.pick L σ.nx) xs = zs) (hE : ∀ t x,get E t = some x → get σ.env t = some (ren (Aw.pick L σ.nx) x)) (hp : p < σ.n) :
  AWT B none Θ P (.rangeFunc g #[p] assign body) σ Q:=by
 intro m a hS ht
 have hL' : ∀ id ∈ L,(get σ.hp id).isSome = true:=fun id hid=>List.all_eq_true.1 hL id hid
 refine wpB_rangeFunc ?_
 intro fn _
 obtain ⟨rc,hrcd⟩ : ∃ rc : Loop,rc = { state:=.ready,pending:=none,fn,tmps:=a.tmps,params:=#[p],assign,body,defers:=m.w.heap.size }:=⟨_,rfl⟩
 have hcl:=hS.s.ev hg
 simp only [Rep] at hcl
 obtain ⟨cv,hgv,hcv⟩:=hcl
 have hgv' : a.eval g = .func (.func it) #[] cv:=hgv
 -- the memory at the entry
 have hH1:=entered_simH (rc:=rc) hS.s.h
 have hk1:=entered_keeps (rc:=rc) hS.s.h
 have hl1:=entered_leT (rc:=rc) hS.s.h
 have hS1 : SimT B (m.entered rc) a σ:=⟨hS.s.of hk1 hH1,hS.marks.le hl1,Nat.le_trans hS.base hl1.size⟩
 obtain ⟨hstart,hargs⟩:=innerStart (L:=L) hS1.s (RepL.mono hk1 0 _ _ hcv) hz hob' hL' hnd hhp hxs
 have hM:=innerH_map hS1.s.h hL'
 have hlP : ((m.entered rc).innerH L σ.nx).Pr (m.w.heap.size + 1):=hM.Pr _ (.inr (.inr rfl))
 have hDP : ((m.entered rc).innerH L σ.nx).Pr m.w.heap.size:=hM.Pr _ (.inr (.inl rfl))
 have hfr : ∀ id,((m.entered rc).innerH L σ.nx).np ≤ id → ((m.entered rc).innerH L σ.nx).ρ id = none:=fun id hid=>hstart.h.fresh id hid
 have hE0 : ∀ t y,get E t = some y → t < rc.tmps.size ∧ Rep ((m.entered rc).innerH L σ.nx) 0 y (rc.tmps.getD t undef):=by
  intro t y hy
  obtain ⟨h1,h2⟩:=hS1.s.env t _ (hE t y hy)
  rw [show rc.tmps = a.tmps by rw [hrcd]]
  refine ⟨by rw [show a.tmps.size = σ.n from hS.s.n]; exact h1,?_⟩
  have:=Rep.map hM y _ (Rep.ren y _ h2)
  rw [ren_id] at this
  exact this
 have hsz : rc.tmps.size = σ.n:=by rw [hrcd]; exact hS.s.n
 have hc:=hit (Kept ((m.entered rc).innerH L σ.nx)) inferInstance (m.w.heap.size + 1) (fun x hp' nx' Rr h=>by
  have hr:=RoundT.of (P:=P) (gl:=σ.gl) (hp:=hp') (nx:=nx') (M0:=(m.entered rc).innerH L σ.nx) (l:=m.w.heap.size + 1) (rc:=rc) (p:=p) (E:=E) (x:=x) (R:=Rr) hlP entered_l (by rw [hrcd]) (by rw [hrcd]) (by rw [hrcd]) hE0 (by rw [hsz]; exact hp)
  rw [hsz,show rc.assign = assign by rw [hrcd],show rc.body = body by rw [hrcd]] at hr
  exact hr h)
 refine ⟨m.w.heap.size + 1,[{ target:=.collected m.w.heap.size,args:=#[] }],(m.entered rc).w,{ target:=.fn (.func it) cv,args:=#[.func (.yield (m.w.heap.size + 1)) #[] #[]] },(m.entered rc).w,it,
  #[.func (.yield (m.w.heap.size + 1)) #[] #[]] ++ cv,(m.entered rc).w,?_,?_,?_,?_,fun hh=>(by cases hh),?_⟩
 ·rw [hrcd]; exact run_enterLoop_outer _ _ _ _ _
 ·simp only [resolve,hgv']
  simp [go_sem]
 ·intro _ _; trivial
 ·simp only [invoke]
  exact hc.enters _ _
 ·have hcall:=hc.calls ((m.entered rc).innerH L σ.nx) (.func (.yield (m.w.heap.size + 1)) #[] #[] :: cv.toList) hstart ⟨.refl _,hfr⟩ (by
   simp only [RepL]
   exact ⟨_,_,rfl,by simp only [Rep],hargs⟩)
  have e2 : ((m.entered rc).innerH L σ.nx).w = (m.entered rc).w:=rfl
  have e3 : (Value.func (.yield (m.w.heap.size + 1)) #[] #[] :: cv.toList).toArray = #[.func (.yield (m.w.heap.size + 1)) #[] #[]] ++ cv:=by
   apply Array.ext'
   simp
  rw [e2,e3] at hcall
  refine callsIn_fr.2 (hcall.mono ?_)
  rintro e w' ⟨m',q,hp',nx',rfl,hle,hH',hend,⟨x,rfl⟩,hR⟩
  obtain ⟨v,rfl,hv⟩:=hend
  obtain ⟨hb,hq⟩:=hK hp' nx' hR
  obtain ⟨l2,s2,_⟩:=backPan (y:=.top) (v:=v) hS1 hL' hnd hle hH' hb (by simp only [Rep])
  have hl : m'.w.heap[m.w.heap.size + 1]? = some (.loop rc):=(hle.block _ hlP).trans entered_l
  have hD : m'.w.heap[m.w.heap.size]? = some (.deferred (some [])):=(hle.block _ hDP).trans entered_D
  refine ⟨none,_,(by have:=run_endLoop (P:=P) hl (by rw [hrcd]; simp); rw [this,hrcd]),?_⟩
  have hnl : ¬ m.Pr (m.w.heap.size + 1):=fun h=>by have:=hS.s.h.Pold _ h; omega
  have l3 : m.leT (((m.entered rc).outerH m' L σ.nx).turn (m.w.heap.size + 1) (.loop { rc with state:=.exhausted })):=(hl1.trans l2).turn hnl hl rfl rfl
  refine ⟨((m.entered rc).outerH m' L σ.nx).turn (m.w.heap.size + 1) (.loop { rc with state:=.exhausted }),_,.normal,by rw [hrcd]; rfl,l3,⟨s2.s.turn (.inr (.inr rfl)) hl rfl rfl,?_,?_⟩,rfl,hq⟩
  ·exact hS.marks.push l3 (by simp) hS.base (.inr (.inl rfl)) ((turn_heap (by omega)).trans hD)
  ·rw [turn_size]
   exact s2.base
end Aw

namespace Aw
open Go

def jumpOf : AX → Option (Option Code)
 | .normal=>some none
 | .ret=>some (some .ret)
 | .exit id=>some (some (.exit id))
 | .panic _=>none

def setAll : List (Nat × AV) → List Nat → List AV → List (Nat × AV)
 | E,p :: ps,x :: xs=>setAll (set E p x) ps xs
 | E,_,_=>E
def setTmps : Array Value → List Nat → List Value → Array Value
 | t,p :: ps,v :: vs=>setTmps (t.setIfInBounds p v) ps vs
 | t,_,_=>t
theorem foldl_zip : ∀ (ps : List Nat) (vs : List Value) (t : Array Value),(ps.zip vs).foldl (fun tmps x=>tmps.setIfInBounds x.1 x.2) t = setTmps t ps vs
 | [],_,_=>by simp [setTmps]
 | _ :: _,[],_=>by simp [setTmps]
 | p :: ps,v :: vs,t=>by
  simp only [List.zip_cons_cons,List.foldl_cons,setTmps]
  exact foldl_zip ps vs _
theorem setTmps_eq (ps : List Nat) (vs : List Value) (t : Array Value) :
  (ps.toArray.zip vs.toArray).foldl (fun tmps (x : Tmp × Value)=>tmps.setIfInBounds x.1 x.2) t = setTmps t ps vs:=by
 rw [← foldl_zip,← Array.foldl_toList]
 simp
theorem setTmps_size : ∀ (ps : List Nat) (vs : List Value) (t : Array Value),(setTmps t ps vs).size = t.size
 | [],_,_=>by simp [setTmps]
 | _ :: _,[],_=>by simp [setTmps]
 | p :: ps,v :: vs,t=>by
  rw [setTmps,setTmps_size ps vs]
  simp
theorem setTmps_env {m : Mem} {n : Nat} : ∀ {ps : List Nat} {xs : List AV} {vs : List Value} {t : Array Value} {E : List (Nat × AV)},t.size = n → (∀ p ∈ ps,p < n) → RepL m 0 xs vs →
  (∀ i y,get E i = some y → i < n ∧ Rep m 0 y (t.getD i undef)) → ∀ i y,get (setAll E ps xs) i = some y → i < n ∧ Rep m 0 y ((setTmps t ps vs).getD i undef)
 | [],xs,vs,t,E,_,_,_,h=>by simpa [setAll,setTmps] using h
 | p :: ps,[],vs,t,E,_,_,hx,h=>by
  simp only [RepL] at hx
  subst hx
  simpa [setAll,setTmps] using h
 | p :: ps,x :: xs,vs,t,E,hn,hp,hx,h=>by
  simp only [RepL] at hx
  obtain ⟨v,rest,rfl,hv,hr⟩:=hx
  simp only [setAll,setTmps]
  refine setTmps_env (by simpa using hn) (fun q hq=>hp q (List.mem_cons_of_mem _ hq)) hr ?_
  intro i y hy
  rw [get_set] at hy
  split at hy
  ·rename_i e
   subst e
   injection hy with hy
   subst hy
   have hlt:=hp p List.mem_cons_self
   refine ⟨hlt,?_⟩
   have : (t.setIfInBounds p v).getD p undef = v:=by simp [show p < t.size by omega]
   rw [this]
   exact hv
  ·rename_i hne
   obtain ⟨h1,h2⟩:=h i y hy
   refine ⟨h1,?_⟩
   have : (t.setIfInBounds p v).getD i undef = t.getD i undef:=by simp [Array.getElem?_setIfInBounds_ne hne]
   rw [this]
   exact h2

section
variable {m : Mem} {hp : List (Nat × ABlk)} {nx l k : Nat} {rc rc' : Loop}
theorem SimH.lp (hH : SimH m hp nx) (hg : get hp k = some (.lp l rc)) :
  m.w.heap[l]? = some (.loop rc) ∧ ¬ m.Pr l ∧ ∃ ri,m.ρ k = some ri ∧ ri.isNil = false ∧ ri.b = l ∧ ∀ rc',m.le (m.turn l (.loop rc')) ∧ m.keeps (m.turn l (.loop rc')) ∧ SimH (m.turn l (.loop rc')) (set hp k (.lp l rc')) nx:=by
 obtain ⟨ri,hr,h1,h2,h3,h4,h5⟩:=hH.blk k _ hg
 subst h4
 refine ⟨h5,h2,ri,hr,h1,rfl,fun rc'=>?_⟩
 have hU : Upd m (m.turn ri.b (.loop rc')) ri.b:=Upd.set hH h2 (fun o h=>(h3 o h).elim)
 refine ⟨hU.le hH,hU.keeps hH,?_⟩
 refine hH.upd hU (k:=k) (ri:=ri) (blk:=.lp ri.b rc') hr ⟨h1,h2,h3,rfl,World.putObj_heap_same (Array.getElem?_eq_some_iff.1 h5).1⟩ (fun _=>rfl) (by rw [get_set,if_pos rfl]) ?_ hH.fresh
 intro j hj z hz
 rw [get_set,if_neg (Ne.symm hj)] at hz
 exact ⟨hz,hH.sole hg hr h1 j hj z hz⟩
end

end Aw

namespace Aw
open Go

theorem get_appHp_eq {b : List (Nat × ABlk)} : ∀ (a : List (Nat × ABlk)) (i : Nat),get (appHp a b) i = (match get a i with | some x=>some x | none=>get b i)
 | [],i=>rfl
 | (j,y) :: a,i=>by
  simp only [appHp,get]
  split
  ·rfl
  ·exact get_appHp_eq a i
theorem get_dels_eq : ∀ (L : List Nat) (hp : List (Nat × ABlk)) (i : Nat),get (dels hp L) i = if i ∈ L then none else get hp i
 | [],hp,i=>by simp [dels]
 | j :: L,hp,i=>by
  rw [dels,get_dels_eq L,get_del]
  by_cases h1 : i ∈ L <;> by_cases h2 : j = i <;> simp [h1,h2,eq_comm]
theorem get_renHp_inj {π : Nat → Nat} (hinj : ∀ i j,π i = π j → i = j) : ∀ (hp : List (Nat × ABlk)) (i : Nat),get (renHp π hp) (π i) = (get hp i).map (renB π)
 | [],i=>rfl
 | (j,y) :: hp,i=>by
  simp only [renHp,get]
  by_cases h : j = i
  ·subst h
   simp
  ·rw [if_neg h,if_neg (fun e=>h (hinj _ _ e))]
   exact get_renHp_inj hinj hp i
theorem SimH.sub {m : Mem} {hp hp' : List (Nat × ABlk)} {nx : Nat} (h : SimH m hp nx) (hs : ∀ id x,get hp' id = some x → get hp id = some x) : SimH m hp' nx :=
 ⟨fun id x hx=>h.blk id x (hs id x hx),fun id id' x x' ri ri' hx hx'=>h.apart id id' x x' ri ri' (hs _ _ hx) (hs _ _ hx'),h.fresh,h.Fold,h.Pold⟩
def Mem.prot (m : Mem) (l : Nat) : Mem:={ m with Pr:=fun b=>m.Pr b ∨ b = l }
section
variable {m : Mem} {hp : List (Nat × ABlk)} {nx l k : Nat} {rc : Loop}
theorem prot_leT : m.leT (m.prot l):=⟨rfl,rfl,rfl,Nat.le_refl _,fun _ h=>.inl h,fun _ _=>rfl,fun _ _ h=>h,fun _ _ _=>rfl,fun _ _ _ h=>h,rfl,fun _ _ _ h=>h⟩
theorem prot_keeps : m.keeps (m.prot l):=⟨rfl,fun _ h=>.inl h,fun _ _=>rfl,fun _ _ h=>h,fun _ _ _=>rfl,fun _ _ h=>h⟩
theorem prot_simH (hH : SimH m hp nx) (hg : get hp k = some (.lp l rc)) : SimH (m.prot l) (del hp k) nx:=by
 obtain ⟨h1,_,ri,hr,hn,rfl,_⟩:=hH.lp hg
 have hlt : ri.b < m.w.heap.size:=(Array.getElem?_eq_some_iff.1 h1).1
 refine ⟨fun id x hx=>?_,fun id id' x x' r r' hx hx'=>?_,hH.fresh,hH.Fold,fun b hb=>?_⟩
 ·rw [get_del] at hx
  split at hx
  ·cases hx
  rename_i hne
  obtain ⟨r,hr',hb⟩:=hH.blk id x hx
  refine ⟨r,hr',?_⟩
  have hm : MapOk m (m.prot ri.b) (fun i=>i):=⟨fun _ h=>.inl h,fun _ _=>rfl,fun _ _ h=>h,fun _ _ _=>rfl,fun _ _ h=>h⟩
  have:=BlkRep.map hm (fun _=>rfl) (fun hn' hP=>by
   rcases hP with hP | hP
   ·exact hb.noPr hn' hP
   ·exact hH.apart id k x _ r ri hx hg hr' hr (fun e=>hne e.symm) hn' hn hP) (fun _ _ h=>h) hb
  rw [renB_id] at this
  exact this
 ·rw [get_del] at hx hx'
  split at hx
  ·cases hx
  split at hx'
  ·cases hx'
  exact hH.apart id id' x x' r r' hx hx'
 ·rcases hb with hb | rfl
  ·exact hH.Pold b hb
  ·exact hlt
end
theorem viewHp_snoc {π : Nat → Nat} {n : Nat} {hp : List (Nat × ABlk)} {nx : Nat} {b : ABlk} (hnx : get hp nx = none) {k : Nat} {c : ABlk} (hk : k < n) (hπ : π k = nx) (hb : b = renB π c) :
  ∀ {hp0 : List (Nat × ABlk)},viewHp π n hp hp0 → viewHp π n (set hp nx b) (hp0 ++ [(k,c)])
 | [],_=>⟨⟨hk,by rw [get_set,hπ,if_pos rfl,hb]⟩,trivial⟩
 | (i,x) :: r,h=>by
  obtain ⟨⟨h1,h2⟩,h3⟩:=h
  refine ⟨⟨h1,?_⟩,viewHp_snoc hnx hk hπ hb h3⟩
  rw [get_set]
  split
  ·rename_i e
   rw [← e,hnx] at h2
   cases h2
  ·exact h2
def backB (σ : St) (L : List Nat) (hp' : List (Nat × ABlk)) (nx' : Nat) : St :=
 ⟨σ.n,σ.env,del (appHp (dels σ.hp L) (renHp (bk (L ++ [σ.nx]) (σ.nx + 1)) hp')) σ.nx,σ.nx + 1 + (nx' - (L.length + 1)),σ.gl,σ.np,σ.df⟩
def recOf (tmps : Array Value) (ps : Array Tmp) (assign body : Code) (dd : Nat) (fn : FuncId) (st : LoopState) (j : Option Code) : Loop :=
 { state:=st,pending:=j,fn,tmps,params:=ps,assign,body,defers:=dd }

end Aw

namespace Aw
open Go
def Mem.enteredD (m : Mem) : Mem:={ m with w:=m.w.alloc (.deferred (some [])),Pr:=fun b=>m.Pr b ∨ b = m.w.heap.size }
section
variable {m : Mem} {hp : List (Nat × ABlk)} {nx : Nat}
theorem enteredD_leT (hH : SimH m hp nx) : m.leT m.enteredD where
 os:=rfl
 tape:=rfl
 output:=rfl
 size:=by simp [Mem.enteredD]
 Pr _ h:=.inl h
 block b hb:=alloc_old (hH.Pold b hb)
 F _ _ h:=h
 cell b o hf:=cell?_of_block (alloc_old (hH.Fold b o hf))
 new _ _ _ h:=h
 np:=rfl
 pin _ _ _ h:=h
theorem enteredD_keeps (hH : SimH m hp nx) : m.keeps m.enteredD where
 np:=rfl
 Pr _ h:=.inl h
 block b hb:=alloc_old (hH.Pold b hb)
 F _ _ h:=h
 cell b o hf:=cell?_of_block (alloc_old (hH.Fold b o hf))
 ρ _ _ h:=h
theorem enteredD_simH (hH : SimH m hp nx) : SimH m.enteredD hp nx where
 blk id x hx:=by
  obtain ⟨ri,h1,h2⟩:=hH.blk id x hx
  refine ⟨ri,h1,?_⟩
  have hk:=enteredD_keeps hH
  have hm : MapOk m m.enteredD (fun i=>i):=⟨hk.Pr,hk.block,hk.F,hk.cell,hk.ρ⟩
  have:=BlkRep.map hm (fun hn=>alloc_old (h2.lt hn)) (fun hn hP=>(by
   have hlt:=h2.lt hn
   rcases hP with hP | hP
   ·exact h2.noPr hn hP
   ·omega)) (fun _ _ h=>h) h2
  rw [renB_id] at this
  exact this
 apart:=hH.apart
 fresh:=hH.fresh
 Fold b o hf:=by have:=hH.Fold b o hf; simp only [Mem.enteredD,World.size_alloc]; omega
 Pold b hb:=by
  simp only [Mem.enteredD,World.size_alloc]
  rcases hb with hb | hb
  ·have:=hH.Pold b hb; omega
  ·omega
end
section
variable {B : Bs} {r : Option Nat} {Θ : Mem → Prop} [Lasts Θ] {P : Program} {σ : St} {Q : AX → St → Prop} {g : Operand} {ps : List Tmp} {assign body : Code} {it : FuncId} {caps zs xs : List AV} {ob' : Prop} {L : List Nat}
 {hp0 : List (Nat × ABlk)} {E : List (Nat × AV)} {R : Option Code → List (Nat × ABlk) → Nat → Prop}
end
end Aw
