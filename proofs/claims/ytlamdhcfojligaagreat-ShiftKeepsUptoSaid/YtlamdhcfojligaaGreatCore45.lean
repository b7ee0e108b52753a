/- Rules of a calculus of walks: no condition of its own. -/
import Derived.Test.YtlamdhcfojligaaGreatCore44
namespace Aw
open Go
def acellsC (x : AV) : Option (List AV) :=
 match x with
 | .raw (.agg cs)=>some (cs.toList.map constAV)
 | y=>acells y
theorem acellsC_sound {m : Mem} {k : Nat} {x : AV} {v : Value} {l : List AV} (hv : Rep m k x v) (h : acellsC x = some l) : RepL m k l v.cells.toList:=by
 unfold acellsC at h
 split at h
 ·simp only [Option.some.injEq] at h
  subst h
  simp only [Rep] at hv
  subst hv
  exact RepL.const _
 ·exact acells_sound hv h
def partsC (σ : St) : List (Nat × Operand) → Option (Prop × List (Nat × List AV))
 | []=>some (True,[])
 | p :: ps=>match evE σ p.2 with
  | none=>none
  | some x=>match acellsC x.2,partsC σ ps with
   | some l,some q=>some (x.1 ∧ q.1,(p.1,l) :: q.2)
   | _,_=>none
theorem partsC_sound {m : Mem} {a : Act} {σ : St} (hS : Sim m a σ) : ∀ {ps : List (Nat × Operand)} {ob : Prop} {q : List (Nat × List AV)},partsC σ ps = some (ob,q) → ob →
  PartsAre m 0 q (ps.map fun p=>(p.1,a.eval p.2))
 | [],ob,q,h,_=>by
  simp only [partsC,Option.some.injEq,Prod.mk.injEq] at h
  obtain ⟨_,rfl⟩:=h
  exact .nil
 | (i,x) :: ps,ob,q,h,hob=>by
  simp only [partsC] at h
  split at h
  case h_1=>cases h
  rename_i y hy
  split at h
  case h_2=>cases h
  rename_i l q' hl hq
  simp only [Option.some.injEq,Prod.mk.injEq] at h
  obtain ⟨rfl,rfl⟩:=h
  exact .cons (acellsC_sound (evE_sound hS hy hob.1) hl) (partsC_sound hS hq hob.2)
section
variable {P : Program} {σ σ' : St} {o : Oper} {ob : Prop}
def ebuildC (P : Program) (σ : St) (t : TypeId) (n : Nat) (ps : List (Nat × Operand)) : Option (Prop × AV) :=
 match tinfo P t with
 | none=>none
 | some ti=>match ti.k with
  | .slice e=>match tinfo P e,partsC σ ps with
   | some ei,some q=>match ei.zero,closeParts σ.hp q.2 with
    | some z,some r=>if 1 ≤ ei.sz ∧ z.length = ei.sz ∧ n * ei.sz ≤ 65536 ∧ partsOk n ei.sz r.2 = true ∧ 0 < n then
      some (q.1 ∧ r.1,.sl (putAll (rep n z) r.2))
     else none
    | _,_=>none
   | _,_=>none
  | _=>none
theorem ebuildC_sound {m : Mem} {a : Act} (hS : Sim m a σ) {t : TypeId} {n : Nat} {ps : Array (Nat × Operand)} {X : AV} (ho : o.op = .buildSlice t n ps)
  (h : ebuildC P σ t n ps.toList = some (ob,X)) (hob : ob) : ∃ v m',(execOp a.eval o).run P m.w = .ok (.value v) m'.w ∧ m.le m' ∧ m.keeps m' ∧ SimH m' σ.hp σ.nx ∧ Rep m' 0 X v:=by
 unfold ebuildC at h
 split at h
 ·cases h
 rename_i ti hti
 split at h
 case h_2=>cases h
 rename_i et hk
 split at h
 case h_2=>cases h
 rename_i ei q hei hq
 split at h
 case h_2=>cases h
 rename_i z r hz hr
 split at h
 case isFalse=>cases h
 rename_i hc
 obtain ⟨hsz,hzl,hsm,hok,hn⟩:=hc
 simp only [Option.some.injEq,Prod.mk.injEq] at h
 obtain ⟨rfl,rfl⟩:=h
 obtain ⟨h1,h2⟩:=hob
 have hP0:=partsC_sound hS hq h1
 have hP2:=closeParts_sound hS.h hP0 hr h2
 obtain ⟨ti',hti',hts,htb,hzz⟩:=run_typeInfo_ti (w:=m.w) hei
 rw [hz] at hzz
 cases hzv : ti'.zero with
 | none=>rw [hzv] at hzz; cases hzz
 | some zv =>
  rw [hzv] at hzz
  simp only [Option.map_some,Option.some.injEq] at hzz
  have hzr : (zeroValue et).run P m.w = .ok zv m.w:=by unfold zeroValue; rw [run_bind hti']; simp only [hzv] <;> rfl
  have hzs : zv.cells.size = ei.sz:=by rw [← hzl,hzz]; simp
  have hcell : ((Array.range (n * ei.sz)).map fun i=>zv.cells[i % zv.cells.size]!).toList = (rep n zv.cells.toList).flatten:=by
   rw [← map_range_mod,Array.toList_map,Array.toList_range,hzs]
  obtain ⟨cs',f1,f2,f3,f4⟩:=fill_sound (m:=m) (n:=n) (sz:=ei.sz) hP2 (es:=rep n z) (cs:=(Array.range (n * ei.sz)).map fun i=>zv.cells[i % zv.cells.size]!) hok
   (by intro e he; simp only [rep,List.mem_replicate] at he; rw [he.2,hzl]) (by simp [rep]) (by rw [hcell,hzz]; exact (RepL.const _).rep _)
  let w' : World:={ m.w with heap:=m.w.heap.push (.cells cs' et) }
  have hw : Alloc m.w w' (.cells cs' et (0,0)):=⟨rfl,rfl,rfl,rfl⟩
  let m' : Mem:={ w:=w',F:=fun b o=>m.F b o ∨ b = m.w.heap.size,Pr:=m.Pr,ρ:=m.ρ,np:=m.np }
  have hblk : ∀ b,b < m.w.heap.size → m'.w.heap[b]? = m.w.heap[b]?:=fun b hb=>hw.old hb
  have hcell' : ∀ b o,b < m.w.heap.size → m'.w.cell? ⟨b,o,none⟩ = m.w.cell? ⟨b,o,none⟩:=fun b o hb=>cell?_of_block (hblk b hb)
  have hkeep : m.keeps m':=⟨rfl,fun _ h=>h,fun b hb=>hblk b (hS.h.Pold b hb),fun _ _ h=>.inl h,fun b o hf=>hcell' b o (hS.h.Fold b o hf),fun _ _ h=>h⟩
  have hle : m.le m':=⟨rfl,rfl,rfl,by show m.w.heap.size ≤ w'.heap.size; rw [hw.size]; omega,rfl,fun b hb=>hblk b (hS.h.Pold b hb),fun _ _ h=>.inl h,fun b o hf=>hcell' b o (hS.h.Fold b o hf),
   fun b o hp hf=>hf.elim id (fun h=>by have:=hS.h.Pold b hp; omega),rfl,fun _ _ _ h=>h⟩
  have hH : SimH m' σ.hp σ.nx:=by
   refine ⟨fun id x hx=>?_,hS.h.apart,hS.h.fresh,fun b o hf=>?_,fun b hb=>?_⟩
   ·obtain ⟨ri,hr1,hr2⟩:=hS.h.blk id x hx
    refine ⟨ri,hr1,?_⟩
    cases hn' : ri.isNil with
    | false =>
     have hlt:=hr2.lt hn'
     exact hr2.mono hkeep (fun h=>h) (fun o hf=>hf.elim (fun h=>h) (fun h=>by omega)) (fun _=>hblk _ hlt)
    | true =>
     cases x with
     | cells cs=>obtain ⟨g1,_⟩:=hr2; rw [hn'] at g1; cases g1
     | amap ks vs=>obtain ⟨g1,_⟩:=hr2; rw [hn'] at g1; cases g1
     | lp l rc=>obtain ⟨g1,_⟩:=hr2; rw [hn'] at g1; cases g1
     | it left cur=>obtain ⟨g1,_⟩:=hr2; rw [hn'] at g1; cases g1
     | row sz es own =>
      rcases hr2 with ⟨_,g⟩ | ⟨g,_⟩
      ·exact .inl ⟨hn',g⟩
      ·rw [hn'] at g; cases g
     | full sz es =>
      obtain ⟨g1,g2⟩:=hr2
      refine ⟨?_,g2⟩
      rcases g1 with ⟨_,g⟩ | ⟨g,_⟩
      ·exact .inl ⟨hn',g⟩
      ·rw [hn'] at g; cases g
   ·show b < w'.heap.size
    rw [hw.size]
    rcases hf with hf | hf
    ·have:=hS.h.Fold b o hf; omega
    ·omega
   ·show b < w'.heap.size
    rw [hw.size]
    have:=hS.h.Pold b hb; omega
  have hcs : cs'.size = n * ei.sz:=by
   have:=f2.length
   rw [Array.length_toList] at this
   rw [this,flat_len f3,f4]
  have hx : RepX m' 2 (putAll (rep n z) r.2).flatten m.w.heap.size 0:=by
   refine RepX.of_list hw.new ?_
   rw [List.drop_zero,List.take_of_length_le (by rw [f2.length]; exact Nat.le_refl _)]
   exact RepL.mono hkeep 2 _ _ f2
  refine ⟨.slice (some ⟨m.w.heap.size,0,none⟩) n n,m',?_,hle,hkeep,hH,?_⟩
  ·simp only [execOp,ho]
   refine run_value ?_
   have hmap : ((ps.map fun (i,x)=>(i,a.eval x)).toList) = ps.toList.map fun p=>(p.1,a.eval p.2):=by simp
   have hlim : ¬ (n * ei.sz > 2 ^ 24):=by omega
   simp only [Instr.buildSlice,Sem.run_bind,run_slice_ti hti hk,Result.andThen_ok,run_sizeOf_ti hei,if_neg hlim]
   have hn0 : ¬ n * ei.sz = 0:=by
    intro h0
    rcases Nat.mul_eq_zero.1 h0 with h | h <;> omega
   simp only [if_neg hn0,Sem.run_bind,hzr,Result.andThen_ok,Sem.run_pure]
   rw [hmap,f1]
   simp only [Sem.run_bind,run_newRow,Result.andThen_ok,Sem.run_pure]
   rfl
  ·simp only [Rep]
   refine .inr ⟨m.w.heap.size,0,n,ei.sz,by rw [f4],by rw [f4]; exact Nat.le_refl _,?_⟩
   exact RepE.of (RepY.flat.2 ⟨f3,hx⟩) (fun i _ _=>.inr rfl)
attribute [local go_sem] ebuildC acellsC partsC
end
section
variable {P : Program} {ds : List (Option Tmp)} {σ : St} {o : Oper} {K : St → Prop} {Kp : AV → St → Prop} {ob : Prop} {ops : Array Oper} {i : Nat} {t r : PT}
theorem awGuard.bsC {X : AV} {ty : TypeId} {n : Nat} {ps : Array (Nat × Operand)} (hg : o.guard = none) (ho : o.op = .buildSlice ty n ps) (h : ebuildC P σ ty n ps.toList = some (ob,X)) (hd : dstOk σ.n o.dst = true) (hob : ob) (he : effOp P σ o.op = none) (hK : K (σ.put o.dst X)) : awGuard P ds o σ K Kp:=by
 unfold awGuard
 rw [hg]
 simp only
 unfold awStep
 rw [show pureOp P σ true o.op = none by rw [ho]; rfl,he]
 intro m a N Q hS hN _
 obtain ⟨v,m',hrun,hle,hk,hH,hrep⟩:=ebuildC_sound hS ho h hob
 unfold Oper.wp
 rw [hrun]
 exact hN m' _ _ hle hk (hS.put hk hH hd hrep) .put .put hK
theorem awTree.fK {X : AV} {ty : TypeId} {n : Nat} {ps : Array (Nat × Operand)} (hk : awTree P ops K Kp t (σ.put o.dst X)) (hr : awTree P ops K Kp r σ) (ho : nth ops.toList i = some o:=by exact rfl) (hg : o.guard = none:=by exact rfl) (hop : o.op = .buildSlice ty n ps:=by exact rfl)
  (h : ebuildC P σ ty n ps.toList = some (ob,X):=by (simp only [go_sem,seval]; iterate 2 try (simp (disch:=omega) only [zq]; try simp only [go_sem,seval])); exact rfl) (hd : dstOk σ.n o.dst = true:=by (simp only [go_sem,seval]; iterate 2 try (simp (disch:=omega) only [zq]; try simp only [go_sem,seval]))) (hob : ob:=by ((try (simp only [go_sem,seval]; iterate 2 try (simp (disch:=omega) only [zq]; try simp only [go_sem,seval]))); try (first | exact True.intro | omega | (simp only [zb]; omega) | (simp; done) | (simp; omega) | (and_intros <;> first | assumption | omega | (simp; done) | (simp; omega))))) (he : effOp P σ o.op = none:=by (try (simp only [go_sem,seval]; iterate 2 try (simp (disch:=omega) only [zq]; try simp only [go_sem,seval]))) <;> (try exact rfl)) : awTree P ops K Kp (.fork i t r) σ :=
 ⟨⟨o,nth_ops ho,awGuard.bsC hg hop h hd hob he hk⟩,hr⟩
end
end Aw
