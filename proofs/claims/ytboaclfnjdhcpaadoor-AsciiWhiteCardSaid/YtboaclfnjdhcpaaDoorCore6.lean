/- Rules of a calculus of walks: no condition of its own. -/
import Derived.Test.YtboaclfnjdhcpaaDoorCore5
namespace Aw
open Go

def nth {α : Type} : List α → Nat → Option α
 | [],_=>none
 | x :: _,0=>some x
 | _ :: l,n + 1=>nth l n
theorem nth_eq {α : Type} : ∀ (l : List α) (i : Nat),nth l i = l[i]?
 | [],_=>by simp [nth]
 | _ :: _,0=>by simp [nth]
 | _ :: l,n + 1=>by simp [nth,nth_eq l n]
theorem nth_ops {ops : Array Oper} {i : Nat} {o : Oper} (h : nth ops.toList i = some o) : ops[i]? = some o:=by
 rw [nth_eq] at h
 rw [← h]
 simp

/- A plan: a number and how it is met: 0: taken first, 1: taken first, reading memory, 2: the only one ready. -/
def freeOk (ops : Array Oper) (l : Array Bool) (i : Nat) (oi : Oper) (bare : Bool) : Bool :=
 (List.range ops.size).all fun j=>j == i || l.getD j true || match ops[j]? with
  | some oj=>oj.after.any (fun e=>Region.binds .any e && e.on == i) || (oi.apart ops oj && (bare || !isEff oj.op || (isAlloc oj.op && isLoad oi.op)))
  | none=>true
def planOk (ops : Array Oper) : List (Nat × Nat) → Array Bool → Bool
 | [],l=>(Region.ready .any ops l).isEmpty
 | p :: rest,l=>(match ops[p.1]? with
   | none=>false
   | some oi=>if p.2 = 2 then Region.ready .any ops l == [p.1]
    else (Region.ready .any ops l).contains p.1 && freeOk ops l p.1 oi (p.2 == 0) && match oi.dst with
     | some d=>!(oi.looksAt ops).contains d
     | none=>false) && planOk ops rest (l.setIfInBounds p.1 true)

section
variable {P : Program} {ops : Array Oper} {K : St → Prop} {Kp : AV → St → Prop}

theorem freeOk_spec {l : Array Bool} {i : Nat} {oi : Oper} {bare : Bool} (h : freeOk ops l i oi bare = true) (j : Nat) (oj : Oper) (hj : ops[j]? = some oj) (hne : j ≠ i) (hun : l.getD j true = false)
  (hno : ∀ e ∈ oj.after,Region.binds .any e = true → e.on ≠ i) : oi.apart ops oj = true ∧ (bare = false → isEff oj.op = false ∨ (isAlloc oj.op = true ∧ isLoad oi.op = true)):=by
 simp only [freeOk,List.all_eq_true,List.mem_range] at h
 have h1:=h j (Array.getElem?_eq_some_iff.1 hj).1
 simp only [hj,Bool.or_eq_true,beq_iff_eq,hne,false_or,hun,Bool.false_eq_true] at h1
 rcases h1 with h1 | h1
 ·obtain ⟨e,he,hb⟩:=Array.any_eq_true'.1 h1
  simp only [Bool.and_eq_true,beq_iff_eq] at hb
  exact absurd hb.2 (hno e he hb.1)
 ·simp only [Bool.and_eq_true,Bool.or_eq_true,Bool.not_eq_true'] at h1
  refine ⟨h1.1,fun hb=>?_⟩
  rcases h1.2 with (h2 | h2) | h2
  ·rw [hb] at h2; cases h2
  ·exact .inl h2
  ·exact .inr h2

def awPlan (P : Program) (ops : Array Oper) (K : St → Prop) (Kp : AV → St → Prop) : List (Nat × Nat) → St → Prop
 | [],σ=>K σ
 | p :: rest,σ=>∃ o,ops[p.1]? = some o ∧
   if p.2 = 2 then awGuard P (ops.toList.map (·.dst)) o σ (awPlan P ops K Kp rest) Kp
   else ∃ x,TakeAt P (ops.toList.map (·.dst)) o (p.2 == 0) σ x ∧ awPlan P ops K Kp rest (σ.put o.dst x)

theorem awPlan_sound (hsel : Region.noSelect ops = true) (hKp : insens Kp) : ∀ (pl : List (Nat × Nat)) (l : Array Bool) (σ : St),planOk ops pl l = true → awPlan P ops K Kp pl σ →
  GAny P ops (fun σ=>∃ σ2,Eqv σ σ2 ∧ K σ2) Kp pl.length l σ
 | [],l,σ,hp,h=>⟨by simpa [planOk] using hp,σ,.refl σ,h⟩
 | p :: rest,l,σ,hp,h=>by
  simp only [planOk,Bool.and_eq_true] at hp
  obtain ⟨hp1,hp2⟩:=hp
  have ih:=fun σ' h'=>awPlan_sound hsel hKp rest (l.setIfInBounds p.1 true) σ' hp2 h'
  obtain ⟨o,ho,h⟩:=h
  simp only [ho] at hp1
  split at h
  ·rename_i hk
   rw [if_pos hk] at hp1
   have hr : Region.ready .any ops l = [p.1]:=by simpa using hp1
   refine ⟨fun h0=>(by rw [hr] at h0; cases h0),fun i hi=>?_⟩
   rw [hr] at hi
   obtain rfl : i = p.1:=by simpa using hi
   exact (awGuard_sound ho h).mono ih
  ·rename_i hk
   rw [if_neg hk] at hp1
   simp only [Bool.and_eq_true] at hp1
   obtain ⟨⟨hr,hf⟩,hd⟩:=hp1
   obtain ⟨x,hT,hrest⟩:=h
   cases hdst : o.dst with
   | none=>rw [hdst] at hd; cases hd
   | some d =>
    rw [hdst] at hd
    refine GAny.take ho hdst (by simpa using hd) hsel (fun σ σ' he ⟨σ2,h1,h2⟩=>⟨σ2,he.symm.trans h1,h2⟩) hKp rest.length l σ (freeOk_spec hf) (by simpa using hr) hT ?_
    exact ih _ hrest

/-! ### reckoned -/
def stepTake (P : Program) (ds : List (Option Tmp)) (σ : St) (o : Oper) (bare : Bool) : Option (Prop × St) :=
 match o.guard with
 | none=>match pureOp P (if bare = true then σ.bare else σ) true o.op with
  | some r=>if dstOk σ.n o.dst = true then some (r.1,σ.put o.dst r.2) else none
  | none=>none
 | some p=>match gAt ds σ p.1 p.2 with
  | none=>none
  | some g=>match pureOp P (if bare = true then σ.bare else σ) g o.op with
   | some r=>if dstOk σ.n o.dst = true then some ((g = true → r.1),σ.put o.dst (.opt g r.2)) else none
   | none=>none
theorem stepTake_sound {ds : List (Option Tmp)} {σ σ' : St} {o : Oper} {bare : Bool} {ob : Prop} (h : stepTake P ds σ o bare = some (ob,σ')) (hob : ob) : ∃ x,TakeAt P ds o bare σ x ∧ σ' = σ.put o.dst x:=by
 unfold stepTake at h
 unfold TakeAt
 split at h
 ·rename_i hg
  split at h
  ·rename_i r hr
   split at h
   ·rename_i hd
    simp only [Option.some.injEq,Prod.mk.injEq] at h
    obtain ⟨rfl,rfl⟩:=h
    exact ⟨r.2,⟨hd,by rw [hg]; exact ⟨r,hr,hob,rfl⟩⟩,rfl⟩
   ·cases h
  ·cases h
 ·rename_i p hg
  split at h
  ·cases h
  rename_i g hgv
  split at h
  ·rename_i r hr
   split at h
   ·rename_i hd
    simp only [Option.some.injEq,Prod.mk.injEq] at h
    obtain ⟨rfl,rfl⟩:=h
    exact ⟨.opt g r.2,⟨hd,by rw [hg]; exact ⟨g,hgv,r,hr,hob,rfl⟩⟩,rfl⟩
   ·cases h
  ·cases h

def runPlan (P : Program) (l : List Oper) (ds : List (Option Tmp)) : List (Nat × Nat) → St → Prop × List (Nat × Nat) × St
 | [],σ=>(True,[],σ)
 | p :: rest,σ=>match nth l p.1 with
  | none=>(True,p :: rest,σ)
  | some o=>match (if p.2 = 2 then stepOp P ds σ o else stepTake P ds σ o (p.2 == 0)) with
   | none=>(True,p :: rest,σ)
   | some r=>match runPlan P l ds rest r.2 with
    | q=>(r.1 ∧ q.1,q.2)
theorem awPlan.run : ∀ {pl pl' : List (Nat × Nat)} {σ σ' : St} {ob : Prop},runPlan P ops.toList (ops.toList.map (·.dst)) pl σ = (ob,pl',σ') → ob → awPlan P ops K Kp pl' σ' → awPlan P ops K Kp pl σ
 | [],pl',σ,σ',ob,h,_,hk=>by
  simp only [runPlan,Prod.mk.injEq] at h
  obtain ⟨_,rfl,rfl⟩:=h
  exact hk
 | p :: rest,pl',σ,σ',ob,h,hob,hk=>by
  simp only [runPlan] at h
  split at h
  ·simp only [Prod.mk.injEq] at h
   obtain ⟨_,rfl,rfl⟩:=h
   exact hk
  rename_i o ho
  split at h
  ·simp only [Prod.mk.injEq] at h
   obtain ⟨_,rfl,rfl⟩:=h
   exact hk
  rename_i r hr
  generalize hq : runPlan P ops.toList (ops.toList.map (·.dst)) rest r.2 = q at h
  obtain ⟨q1,q2,q3⟩:=q
  simp only [Prod.mk.injEq] at h
  obtain ⟨rfl,rfl,rfl⟩:=h
  have hrest:=awPlan.run hq hob.2 hk
  refine ⟨o,nth_ops ho,?_⟩
  split at hr
  ·rename_i hk2
   rw [if_pos hk2]
   exact stepOp_sound hr hob.1 hrest
  ·rename_i hk2
   rw [if_neg hk2]
   obtain ⟨x,hT,hx⟩:=stepTake_sound (ob:=r.1) (σ':=r.2) hr hob.1
   exact ⟨x,hT,by rw [← hx]; exact hrest⟩

def AWG (P : Program) (ops : Array Oper) (σ : St) (Q : AX → St → Prop) : Prop :=
 GAny P ops (fun σ=>∃ σ2,Eqv σ σ2 ∧ Q .normal σ2) (fun x σ'=>Q (.panic x) σ') ops.size (Array.replicate ops.size false) σ
theorem AW.ofG {σ : St} {Q : AX → St → Prop} {id : Nat} (hm : P.follows .mixedOrders = true) (h : AWG P ops σ Q) : AW P (.region id ops true) σ Q:=fun m a hS=>by
 refine wp_region_any hm ?_
 let md : Mem:={ m with w:={ m.w with drawn:=m.w.drawn + 1 } }
 have hk : m.keeps md:=⟨rfl,fun _ h=>h,fun _ _=>rfl,fun _ _ h=>h,fun _ _ _=>rfl,fun _ _ h=>h⟩
 have hl : m.le md:=⟨rfl,rfl,rfl,Nat.le_refl _,rfl,fun _ _=>rfl,fun _ _ h=>h,fun _ _ _=>rfl,fun _ _ _ h=>h,rfl,fun _ _ _ h=>h⟩
 have hH : SimH md σ.hp σ.nx:=by
  refine ⟨fun i x hx=>?_,hS.h.apart,hS.h.fresh,hS.h.Fold,hS.h.Pold⟩
  obtain ⟨ri,h1,h2⟩:=hS.h.blk i x hx
  exact ⟨ri,h1,h2.mono hk (fun h=>h) (fun _ h=>h) (fun _=>rfl)⟩
 have hS' : Sim md a σ:=hS.of hk hH
 refine GAny_sound (K:=fun σ=>∃ σ2,Eqv σ σ2 ∧ Q .normal σ2) (Kp:=fun x σ'=>Q (.panic x) σ') md ?_ ?_ ops.size _ σ h md a (.refl md) hS'
 ·rintro m' a' σ' hle hS' ⟨σ2,he,hq⟩
  exact ⟨m',σ2,.normal,rfl,hl.trans hle,hS'.eqv he,rfl,hq⟩
 ·intro m' a' σ' x v hle hS' hx h'
  exact ⟨m',σ',.panic x,rfl,hl.trans hle,hS',⟨v,rfl,hx⟩,h'⟩
theorem AWG.draw {σ : St} {Q : AX → St → Prop} {pl : List (Nat × Nat)} (hsel : Region.noSelect ops = true)
  (hp : (planOk ops pl (Array.replicate ops.size false) && pl.length == ops.size) = true) (hQ : PI Q)
  (h : awPlan P ops (fun σ'=>Q .normal σ') (fun x σ'=>Q (.panic x) σ') pl σ) : AWG P ops σ Q:=by
 simp only [Bool.and_eq_true,beq_iff_eq] at hp
 unfold AWG
 rw [← hp.2]
 exact awPlan_sound hsel hQ pl _ σ (by rw [hp.2]; exact hp.1) h
theorem AW.draw {σ : St} {Q : AX → St → Prop} {id : Nat} {pl : List (Nat × Nat)} (hm : P.follows .mixedOrders = true) (hsel : Region.noSelect ops = true)
  (hp : (planOk ops pl (Array.replicate ops.size false) && pl.length == ops.size) = true) (hQ : PI Q)
  (h : awPlan P ops (fun σ'=>Q .normal σ') (fun x σ'=>Q (.panic x) σ') pl σ) : AW P (.region id ops true) σ Q:=AW.ofG hm (AWG.draw hsel hp hQ h)

theorem AW.drawAll {σ : St} {Q : AX → St → Prop} {id : Nat} (pl : List (Nat × Nat)) {ob : Prop} {σ' : St} (hm : P.follows .mixedOrders = true) (hsel : Region.noSelect ops = true)
  (hp : (planOk ops pl (Array.replicate ops.size false) && pl.length == ops.size) = true) (hQ : PI Q)
  (h : runPlan P ops.toList (ops.toList.map (·.dst)) pl σ = (ob,[],σ')) (hob : ob) (hk : Q .normal σ') : AW P (.region id ops true) σ Q :=
 AW.draw hm hsel hp hQ (awPlan.run h hob hk)
end
attribute [go_sem] nth stepTake runPlan St.bare
end Aw
