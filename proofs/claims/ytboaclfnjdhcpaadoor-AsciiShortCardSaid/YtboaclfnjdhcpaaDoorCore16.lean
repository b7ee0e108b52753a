/- Rules of a calculus of walks: no condition of its own. -/
import Derived.Test.YtboaclfnjdhcpaaDoorCore15
namespace Aw
open Go
theorem get_keepE_mem {L : List Nat} {env : List (Nat × AV)} {t : Nat} (h : t ∈ L) : get (keepE L env) t = get env t:=by
 induction L with
 | nil=>cases h
 | cons u r ih =>
  simp only [keepE]
  by_cases e : u = t
  ·subst e
   cases hu : get env u with
   | some x=>simp [get]
   | none =>
    simp only
    by_cases hr : u ∈ r
    ·rw [ih hr,hu]
    ·cases hk : get (keepE r env) u with
     | none=>rfl
     | some x=>exact absurd (get_keepE r env u x hk).1 hr
  ·have hr : t ∈ r:=by
    rcases List.mem_cons.1 h with h | h
    ·exact absurd h.symm e
    ·exact h
   split
   ·simp only [get,if_neg e]
    exact ih hr
   ·exact ih hr
section
variable {P : Program} {ops : Array Oper} {K : St → Prop} {σ σ' : St} {i : Nat} {o : Oper} {rest rest' : List Nat} {ob ob' : Prop} {f : FuncId} {ys xs : List AV}
theorem FnAt.take {X : AV} (ho : ops[i]? = some o) (hT : TakeAt P (ops.toList.map (·.dst)) o false σ X) : FnAt P ops i o σ X :=
 ⟨⟨σ.n,keepE (o.looksAt ops) σ.env,σ.hp,σ.nx,σ.gl,σ.np,σ.df⟩,⟨rfl,rfl,rfl,rfl,rfl,rfl⟩,fun t x h=>get_keepE _ _ t x h,
  awGuard_sound ho (TakeAt.guard (hT.congr (σ':=⟨σ.n,keepE (o.looksAt ops) σ.env,σ.hp,σ.nx,σ.gl,σ.np,σ.df⟩) rfl rfl (fun _=>.inl rfl) (fun t ht=>get_keepE_mem ht))
   (K:=fun σ'=>σ'.hp = σ.hp ∧ σ'.nx = σ.nx ∧ ∀ d,o.dst = some d → get σ'.env d = some X) ⟨by cases o.dst <;> rfl,by cases o.dst <;> rfl,fun d hd=>by rw [hd]; simp [St.put,get_set]⟩)⟩
def runFun (P : Program) (l : List Oper) (ds : List (Option Tmp)) : List Nat → St → Prop × List Nat × St
 | [],σ=>(True,[],σ)
 | i :: r,σ=>match nth l i with
  | none=>(True,i :: r,σ)
  | some o=>match stepTake P ds σ o false with
   | none=>(True,i :: r,σ)
   | some q=>match runFun P l ds r q.2 with
    | z=>(q.1 ∧ z.1,z.2)
theorem awFun.run : ∀ {S S' : List Nat} {σ σ' : St} {ob : Prop},runFun P ops.toList (ops.toList.map (·.dst)) S σ = (ob,S',σ') → ob → awFun P ops K S' σ' → awFun P ops K S σ
 | [],S',σ,σ',ob,h,_,hk=>by
  simp only [runFun,Prod.mk.injEq] at h
  obtain ⟨_,rfl,rfl⟩:=h
  exact hk
 | i :: r,S',σ,σ',ob,h,hob,hk=>by
  simp only [runFun] at h
  split at h
  ·simp only [Prod.mk.injEq] at h
   obtain ⟨_,rfl,rfl⟩:=h
   exact hk
  rename_i o ho
  split at h
  ·simp only [Prod.mk.injEq] at h
   obtain ⟨_,rfl,rfl⟩:=h
   exact hk
  rename_i q hq
  generalize hz : runFun P ops.toList (ops.toList.map (·.dst)) r q.2 = z at h
  obtain ⟨z1,z2,z3⟩:=z
  simp only [Prod.mk.injEq] at h
  obtain ⟨rfl,rfl,rfl⟩:=h
  have hrest:=awFun.run hz hob.2 hk
  obtain ⟨x,hT,hx⟩:=stepTake_sound (ob:=q.1) (σ':=q.2) hq hob.1
  exact ⟨o,x,nth_ops ho,FnAt.take (nth_ops ho) hT,by rw [← hx]; exact hrest⟩
theorem awFun.rn (hk : awFun P ops K rest' σ') (h : runFun P ops.toList (ops.toList.map (·.dst)) rest σ = (ob,rest',σ'):=by (simp only [go_sem,seval]; iterate 2 try (simp (disch:=omega) only [zq]; try simp only [go_sem,seval])); exact rfl) (hob : ob:=by ((try (simp only [go_sem,seval]; iterate 2 try (simp (disch:=omega) only [zq]; try simp only [go_sem,seval]))); try (first | exact True.intro | omega | (simp only [zb]; omega) | (simp; done) | (simp; omega) | (and_intros <;> first | assumption | omega | (simp; done) | (simp; omega))))) : awFun P ops K rest σ:=awFun.run h hob hk
theorem awFun.c1 {y : AV} (L : List Nat) (hc : FnP P σ.gl f xs fun r=>r = .ret y) (hK : awFun P ops K rest (σ.put o.dst y)) (ho : nth ops.toList i = some o:=by exact rfl) (hg : o.guard = none:=by exact rfl) (hL : L.all (fun t=>(o.looksAt ops).contains t) = true:=by kernel_rfl)
  (h : acall ⟨σ.n,keepE L σ.env,σ.hp,σ.nx,σ.gl,σ.np,σ.df⟩ o.op = some (ob,f,ys):=by (simp only [go_sem,seval]; iterate 2 try (simp (disch:=omega) only [zq]; try simp only [go_sem,seval])); exact rfl) (hx : mapO (shr true (frzs σ.hp (ys.flatMap (rids σ.hp 9))) 9) ys = some (ob',xs):=by (simp only [go_sem,seval]; iterate 2 try (simp (disch:=omega) only [zq]; try simp only [go_sem,seval])); exact rfl)
  (hd : dstOk σ.n o.dst = true:=by (simp only [go_sem,seval]; iterate 2 try (simp (disch:=omega) only [zq]; try simp only [go_sem,seval]))) (hfr : frzs σ.hp (ys.flatMap (rids σ.hp 9)) = σ.hp:=by (simp only [go_sem,seval]; iterate 2 try (simp (disch:=omega) only [zq]; try simp only [go_sem,seval]))) (hob : ob:=by ((try (simp only [go_sem,seval]; iterate 2 try (simp (disch:=omega) only [zq]; try simp only [go_sem,seval]))); try (first | exact True.intro | omega | (simp only [zb]; omega) | (simp; done) | (simp; omega) | (and_intros <;> first | assumption | omega | (simp; done) | (simp; omega))))) (hob' : ob':=by ((try (simp only [go_sem,seval]; iterate 2 try (simp (disch:=omega) only [zq]; try simp only [go_sem,seval]))); try (first | exact True.intro | omega | (simp only [zb]; omega) | (simp; done) | (simp; omega) | (and_intros <;> first | assumption | omega | (simp; done) | (simp; omega))))) : awFun P ops K (i :: rest) σ:=by
 refine ⟨o,y,nth_ops ho,⟨⟨σ.n,keepE L σ.env,σ.hp,σ.nx,σ.gl,σ.np,σ.df⟩,⟨rfl,rfl,rfl,rfl,rfl,rfl⟩,?_,?_⟩,hK⟩
 ·intro t x ht
  obtain ⟨h1,h2⟩:=get_keepE _ _ t x ht
  have:=List.all_eq_true.1 hL t h1
  exact ⟨by simpa using this,h2⟩
 ·refine awGuard_sound (nth_ops ho) (awGuard.call1 (σ:=⟨σ.n,keepE L σ.env,σ.hp,σ.nx,σ.gl,σ.np,σ.df⟩) hg h hx hd hob hob' hc ?_)
  exact ⟨by cases o.dst <;> exact hfr,by cases o.dst <;> rfl,fun d hd=>by rw [hd]; simp [St.put,get_set]⟩
def ebuildF (P : Program) (σ : St) (t : TypeId) (n : Nat) (ps : List (Nat × Operand)) : Option (Prop × AV) :=
 match tinfo P t with
 | none=>none
 | some ti=>match ti.k with
  | .slice e=>match tinfo P e,parts σ ps with
   | some ei,some q=>match ei.zero,closeParts σ.hp q.2 with
    | some z,some r=>if 1 ≤ ei.sz ∧ z.length = ei.sz ∧ n * ei.sz ≤ 65536 ∧ partsOk n ei.sz r.2 = true ∧ 0 < n then
      some (q.1 ∧ r.1,.sl (putAll (rep n z) r.2))
     else none
    | _,_=>none
   | _,_=>none
  | _=>none
theorem ebuildF_sound {m : Mem} {a : Act} (hS : Sim m a σ) {t : TypeId} {n : Nat} {ps : Array (Nat × Operand)} {X : AV} (ho : o.op = .buildSlice t n ps)
  (h : ebuildF P σ t n ps.toList = some (ob,X)) (hob : ob) : ∃ v m',(execOp a.eval o).run P m.w = .ok (.value v) m'.w ∧ m.le m' ∧ m.keeps m' ∧ SimH m' σ.hp σ.nx ∧ Rep m' 0 X v:=by
 unfold ebuildF at h
 split at h
 ·cases h
 rename_i ti hti
 split at h
 case h_2=>cases h
 rename_i et hk
 split at h
 case h_2=>cases h
 rename_i ei q hei hq
 split at h
 case h_2=>cases h
 rename_i z r hz hr
 split at h
 case isFalse=>cases h
 rename_i hc
 obtain ⟨hsz,hzl,hsm,hok,hn⟩:=hc
 simp only [Option.some.injEq,Prod.mk.injEq] at h
 obtain ⟨rfl,rfl⟩:=h
 obtain ⟨h1,h2⟩:=hob
 have hP0:=parts_sound hS hq h1
 have hP2:=closeParts_sound hS.h hP0 hr h2
 obtain ⟨ti',hti',hts,htb,hzz⟩:=run_typeInfo_ti (w:=m.w) hei
 rw [hz] at hzz
 cases hzv : ti'.zero with
 | none=>rw [hzv] at hzz; cases hzz
 | some zv =>
  rw [hzv] at hzz
  simp only [Option.map_some,Option.some.injEq] at hzz
  have hzr : (zeroValue et).run P m.w = .ok zv m.w:=by unfold zeroValue; rw [run_bind hti']; simp only [hzv] <;> rfl
  have hzs : zv.cells.size = ei.sz:=by rw [← hzl,hzz]; simp
  have hcell : ((Array.range (n * ei.sz)).map fun i=>zv.cells[i % zv.cells.size]!).toList = (rep n zv.cells.toList).flatten:=by
   rw [← map_range_mod,Array.toList_map,Array.toList_range,hzs]
  obtain ⟨cs',f1,f2,f3,f4⟩:=fill_sound (m:=m) (n:=n) (sz:=ei.sz) hP2 (es:=rep n z) (cs:=(Array.range (n * ei.sz)).map fun i=>zv.cells[i % zv.cells.size]!) hok
   (by intro e he; simp only [rep,List.mem_replicate] at he; rw [he.2,hzl]) (by simp [rep]) (by rw [hcell,hzz]; exact (RepL.const _).rep _)
  let w' : World:={ m.w with heap:=m.w.heap.push (.cells cs' et) }
  have hw : Alloc m.w w' (.cells cs' et (0,0)):=⟨rfl,rfl,rfl,rfl⟩
  let m' : Mem:={ w:=w',F:=fun b o=>m.F b o ∨ b = m.w.heap.size,Pr:=m.Pr,ρ:=m.ρ,np:=m.np }
  have hblk : ∀ b,b < m.w.heap.size → m'.w.heap[b]? = m.w.heap[b]?:=fun b hb=>hw.old hb
  have hcell' : ∀ b o,b < m.w.heap.size → m'.w.cell? ⟨b,o,none⟩ = m.w.cell? ⟨b,o,none⟩:=fun b o hb=>cell?_of_block (hblk b hb)
  have hkeep : m.keeps m':=⟨rfl,fun _ h=>h,fun b hb=>hblk b (hS.h.Pold b hb),fun _ _ h=>.inl h,fun b o hf=>hcell' b o (hS.h.Fold b o hf),fun _ _ h=>h⟩
  have hle : m.le m':=⟨rfl,rfl,rfl,by show m.w.heap.size ≤ w'.heap.size; rw [hw.size]; omega,rfl,fun b hb=>hblk b (hS.h.Pold b hb),fun _ _ h=>.inl h,fun b o hf=>hcell' b o (hS.h.Fold b o hf),
   fun b o hp hf=>hf.elim id (fun h=>by have:=hS.h.Pold b hp; omega),rfl,fun _ _ _ h=>h⟩
  have hH : SimH m' σ.hp σ.nx:=by
   refine ⟨fun id x hx=>?_,hS.h.apart,hS.h.fresh,fun b o hf=>?_,fun b hb=>?_⟩
   ·obtain ⟨ri,hr1,hr2⟩:=hS.h.blk id x hx
    refine ⟨ri,hr1,?_⟩
    cases hn' : ri.isNil with
    | false =>
     have hlt:=hr2.lt hn'
     exact hr2.mono hkeep (fun h=>h) (fun o hf=>hf.elim (fun h=>h) (fun h=>by omega)) (fun _=>hblk _ hlt)
    | true =>
     cases x with
     | cells cs=>obtain ⟨g1,_⟩:=hr2; rw [hn'] at g1; cases g1
     | tc T0 cs=>obtain ⟨g1,_⟩:=hr2; rw [hn'] at g1; cases g1
     | amap ks vs=>obtain ⟨g1,_⟩:=hr2; rw [hn'] at g1; cases g1
     | lp l rc=>obtain ⟨g1,_⟩:=hr2; rw [hn'] at g1; cases g1
     | it left cur=>obtain ⟨g1,_⟩:=hr2; rw [hn'] at g1; cases g1
     | row sz es own =>
      rcases hr2 with ⟨_,g⟩ | ⟨g,_⟩
      ·exact .inl ⟨hn',g⟩
      ·rw [hn'] at g; cases g
     | full sz es =>
      obtain ⟨g1,g2⟩:=hr2
      refine ⟨?_,g2⟩
      rcases g1 with ⟨_,g⟩ | ⟨g,_⟩
      ·exact .inl ⟨hn',g⟩
      ·rw [hn'] at g; cases g
     | brow e0 l0 =>
      obtain ⟨g1,g2⟩:=hr2
      refine ⟨?_,fun q=>by rw [hn'] at q; cases q⟩
      rcases g1 with ⟨_,g⟩ | ⟨g,_⟩
      ·exact .inl ⟨hn',g⟩
      ·rw [hn'] at g; cases g
   ·show b < w'.heap.size
    rw [hw.size]
    rcases hf with hf | hf
    ·have:=hS.h.Fold b o hf; omega
    ·omega
   ·show b < w'.heap.size
    rw [hw.size]
    have:=hS.h.Pold b hb; omega
  have hcs : cs'.size = n * ei.sz:=by
   have:=f2.length
   rw [Array.length_toList] at this
   rw [this,flat_len f3,f4]
  have hx : RepX m' 2 (putAll (rep n z) r.2).flatten m.w.heap.size 0:=by
   refine RepX.of_list hw.new ?_
   rw [List.drop_zero,List.take_of_length_le (by rw [f2.length]; exact Nat.le_refl _)]
   exact RepL.mono hkeep 2 _ _ f2
  refine ⟨.slice (some ⟨m.w.heap.size,0,none⟩) n n,m',?_,hle,hkeep,hH,?_⟩
  ·simp only [execOp,ho]
   refine run_value ?_
   have hmap : ((ps.map fun (i,x)=>(i,a.eval x)).toList) = ps.toList.map fun p=>(p.1,a.eval p.2):=by simp
   have hlim : ¬ (n * ei.sz > 2 ^ 24):=by omega
   simp only [Instr.buildSlice,Sem.run_bind,run_slice_ti hti hk,Result.andThen_ok,run_sizeOf_ti hei,if_neg hlim]
   have hn0 : ¬ n * ei.sz = 0:=by
    intro h0
    rcases Nat.mul_eq_zero.1 h0 with h | h <;> omega
   simp only [if_neg hn0,Sem.run_bind,hzr,Result.andThen_ok,Sem.run_pure]
   rw [hmap,f1]
   simp only [Sem.run_bind,run_newRow,Result.andThen_ok,Sem.run_pure]
   rfl
  ·simp only [Rep]
   refine .inr ⟨m.w.heap.size,0,n,ei.sz,by rw [f4],by rw [f4]; exact Nat.le_refl _,?_⟩
   exact RepE.of (RepY.flat.2 ⟨f3,hx⟩) (fun i _ _=>.inr rfl)
theorem awFun.bs {X : AV} {t : TypeId} {n : Nat} {ps : Array (Nat × Operand)} (L : List Nat) (hK : awFun P ops K rest (σ.put o.dst X)) (ho : nth ops.toList i = some o:=by exact rfl) (hg : o.guard = none:=by exact rfl) (hop : o.op = .buildSlice t n ps:=by exact rfl)
  (hL : L.all (fun t=>(o.looksAt ops).contains t) = true:=by kernel_rfl) (h : ebuildF P ⟨σ.n,keepE L σ.env,σ.hp,σ.nx,σ.gl,σ.np,σ.df⟩ t n ps.toList = some (ob,X):=by (simp only [go_sem,seval]; iterate 2 try (simp (disch:=omega) only [zq]; try simp only [go_sem,seval])); exact rfl) (hd : dstOk σ.n o.dst = true:=by (simp only [go_sem,seval]; iterate 2 try (simp (disch:=omega) only [zq]; try simp only [go_sem,seval]))) (hob : ob:=by ((try (simp only [go_sem,seval]; iterate 2 try (simp (disch:=omega) only [zq]; try simp only [go_sem,seval]))); try (first | exact True.intro | omega | (simp only [zb]; omega) | (simp; done) | (simp; omega) | (and_intros <;> first | assumption | omega | (simp; done) | (simp; omega))))) : awFun P ops K (i :: rest) σ:=by
 refine ⟨o,X,nth_ops ho,⟨⟨σ.n,keepE L σ.env,σ.hp,σ.nx,σ.gl,σ.np,σ.df⟩,⟨rfl,rfl,rfl,rfl,rfl,rfl⟩,?_,?_⟩,hK⟩
 ·intro t x ht
  obtain ⟨h1,h2⟩:=get_keepE _ _ t x ht
  have:=List.all_eq_true.1 hL t h1
  exact ⟨by simpa using this,h2⟩
 ·unfold GStep
  rw [nth_ops ho]
  intro m a N Q hS hN hQ
  rw [if_pos (by simp [Region.wanted,hg])]
  obtain ⟨v,m',hrun,hle,hk,hH,hrep⟩:=ebuildF_sound hS hop h hob
  unfold Oper.wp
  rw [hrun]
  refine hN m' _ _ hle hk (hS.put hk hH hd hrep) ?_ .put ?_
  ·exact Keeps.put
  ·exact ⟨by cases o.dst <;> rfl,by cases o.dst <;> rfl,fun d hd=>by rw [hd]; simp [St.put,get_set]⟩
variable {Q : AX → St → Prop} {id : Nat} {y : Code}
theorem AW.fS (S : List Nat) (pl : List (Nat × Nat)) (h : awFun P ops (awPlan P ops (fun σ'=>AW P y σ' Q) (fun x σ'=>Q (.panic x) σ') pl) S σ) (hm : P.follows .mixedOrders = true:=by kernel_rfl) (hsel : Region.noSelect ops = true:=by kernel_rfl) (hok : funOk ops [] S = true:=by kernel_rfl)
  (hp : (planOk ops pl (listAll (Array.replicate ops.size false) S) && pl.length + S.length == ops.size) = true:=by kernel_rfl) (hQ : PI Q:=by repeat (first | exact Aw.PI.fin | exact Aw.PI.finH | refine Aw.PI.unblock ?_ | refine Aw.PI.andThen ?_)) : AW P (.seq (.region id ops true) y) σ Q :=
 AW.seq (AW.fun S pl hm hsel hok hp (PI.andThen hQ) h)
theorem AW.fL (S : List Nat) (pl : List (Nat × Nat)) (h : awFun P ops (awPlan P ops (fun σ'=>Q .normal σ') (fun x σ'=>Q (.panic x) σ') pl) S σ) (hm : P.follows .mixedOrders = true:=by kernel_rfl) (hsel : Region.noSelect ops = true:=by kernel_rfl) (hok : funOk ops [] S = true:=by kernel_rfl)
  (hp : (planOk ops pl (listAll (Array.replicate ops.size false) S) && pl.length + S.length == ops.size) = true:=by kernel_rfl) (hQ : PI Q:=by repeat (first | exact Aw.PI.fin | exact Aw.PI.finH | refine Aw.PI.unblock ?_ | refine Aw.PI.andThen ?_)) : AW P (.region id ops true) σ Q :=
 AW.fun S pl hm hsel hok hp hQ h
theorem awFun_nil : awFun P ops K [] σ = K σ:=rfl
end
attribute [go_sem] runFun ebuildF awFun_nil
end Aw
