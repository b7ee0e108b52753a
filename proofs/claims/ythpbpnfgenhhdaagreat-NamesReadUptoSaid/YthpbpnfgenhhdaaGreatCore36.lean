/- Rules of a calculus of walks: no condition of its own. -/
import Derived.Test.YthpbpnfgenhhdaaGreatCore35
namespace Aw
open Go
def noGuards (ops : Array Oper) : Bool:=ops.toList.all fun o=>o.guard.isNone
def rowOk (ops : Array Oper) (n : Nat) : Bool :=
 decide (n ≤ ops.size) && (noGuards ops && (noDefers ops.toList && ((List.range ops.size).all fun j=>(bindsAt ops j).all (fun k=>decide (k < j)) && (decide (j < n) || (List.range j).all fun k=>(reach ops 6 j).contains k))))
section
variable {B : Bs} {r : Option Nat} {Θ : Mem → Prop} {P : Program} {ops : Array Oper} {K : St → Prop} {Kp : AV → St → Prop}
def chainT (B : Bs) (r : Option Nat) (Θ : Mem → Prop) (P : Program) (ops : Array Oper) (K : St → Prop) (Kp : AV → St → Prop) : Nat → Nat → St → Prop
 | 0,_,σ=>K σ
 | c + 1,i,σ=>∃ o,ops[i]? = some o ∧ StepT B r Θ P σ o (chainT B r Θ P ops K Kp c (i + 1)) Kp
theorem no_guard {o : Oper} {i : Nat} (h : noGuards ops = true) (ho : ops[i]? = some o) (tm : Array Value) (Y : Array Oper) : Region.wanted o (yielded Y tm) = true:=by
 have : o ∈ ops.toList:=by rw [← Array.getElem?_toList] at ho; exact List.mem_of_getElem? ho
 have:=List.all_eq_true.1 h o this
 simp only [Option.isNone_iff_eq_none] at this
 simp [Region.wanted,this]
structure RowF (ops : Array Oper) (n : Nat) : Prop where
 le : n ≤ ops.size
 ng : noGuards ops = true
 nd : noDefers ops.toList = true
 up : ∀ j,∀ k ∈ bindsAt ops j,k < j
 row : ∀ j,n ≤ j → j < ops.size → ∀ k,k < j → k ∈ reach ops 6 j
theorem rowOk_spec {n : Nat} (h : rowOk ops n = true) : RowF ops n:=by
 simp only [rowOk,Bool.and_eq_true,decide_eq_true_eq] at h
 obtain ⟨h1,h2,h3,h4⟩:=h
 have h5:=List.all_eq_true.1 h4
 refine ⟨h1,h2,h3,fun j k hk=>?_,fun j hn hj k hk=>?_⟩
 ·rcases Nat.lt_or_ge j ops.size with hj | hj
  ·have:=h5 j (List.mem_range.2 hj)
   simp only [Bool.and_eq_true] at this
   exact of_decide_eq_true (List.all_eq_true.1 this.1 k hk)
  ·have : ops[j]? = none:=Array.getElem?_eq_none hj
   simp [bindsAt,this] at hk
 ·have:=h5 j (List.mem_range.2 hj)
  simp only [Bool.and_eq_true,Bool.or_eq_true,decide_eq_true_eq] at this
  rcases this.2 with h | h
  ·omega
  ·have:=List.all_eq_true.1 h k (List.mem_range.2 hk)
   simpa using this
theorem down_of {n : Nat} (F : RowF ops n) {l : Array Bool} {i : Nat} (h1 : ∀ j,j < i → l.getD j false = true) (h2 : ∀ j,i ≤ j → l.getD j false = false) : ∀ j,l.getD j false = true → ∀ k ∈ bindsAt ops j,l.getD k false = true:=by
 intro j hj k hk
 have : j < i:=by
  rcases Nat.lt_or_ge j i with h | h
  ·exact h
  ·rw [h2 j h] at hj; cases hj
 exact h1 k (Nat.lt_trans (F.up j k hk) this)
theorem chain_sound [Lasts Θ] {n : Nat} (F : RowF ops n) {X : Exit → Act → World → Prop} (m0 : Mem)
  (hK : ∀ m a σ,m0.leT m → SimT B m a σ → K σ → X .normal a m.w) (hKp : ∀ m a σ x v,m0.leT m → SimT B m a σ → Rep m 0 x v → Kp x σ → X (.panic [{ v,recovered:=false }]) a m.w) :
  ∀ (c i f : Nat) (l : Array Bool) (σ : St),n ≤ i → i + c = ops.size → c ≤ f → l.size = ops.size → (∀ j,j < i → l.getD j false = true) → (∀ j,i ≤ j → l.getD j false = false) → chainT B r Θ P ops K Kp c i σ →
   ∀ m a,m0.leT m → SimT B m a σ → Θ m → wpAnyIn (Fr r) 0 P .any ops X f l a m.w
 | 0,i,f,l,σ,hn,hc,hf,hl,h1,h2,h,m,a,hle,hS,ht=>by
  have hr : Region.ready .any ops l = []:=by
   rw [List.eq_nil_iff_forall_not_mem]
   intro j hj
   obtain ⟨e,_⟩:=ready_iff.1 hj
   obtain ⟨e1,e2⟩:=getD_tf e
   rw [h1 j (by omega)] at e2
   cases e2
  cases f with
  | zero=>exact ⟨hr,hK m a σ hle hS h⟩
  | succ f=>exact ⟨fun _=>hK m a σ hle hS h,fun j hj=>by rw [hr] at hj; cases hj⟩
 | c + 1,i,f,l,σ,hn,hc,hf,hl,h1,h2,h,m,a,hle,hS,ht=>by
  obtain ⟨o,ho,hst⟩:=h
  obtain ⟨f,rfl⟩ : ∃ f',f = f' + 1:=⟨f - 1,by omega⟩
  have hd:=down_of F h1 h2
  have hir : i ∈ Region.ready .any ops l:=by
   refine ready_iff.2 ⟨getD_ft (by omega) (h2 i (Nat.le_refl _)),o,ho,fun k hk=>h1 k ?_⟩
   exact F.up i k (by rw [bindsAt_of ho]; exact hk)
  refine ⟨fun h0=>(by rw [h0] at hir; cases hir),fun j hj=>?_⟩
  have hji : j = i:=by
   obtain ⟨e,oj,hoj,hbj⟩:=ready_iff.1 hj
   obtain ⟨e1,e2⟩:=getD_tf e
   rcases Nat.lt_trichotomy j i with hlt | he | hgt
   ·rw [h1 j hlt] at e2; cases e2
   ·exact he
   ·have hm:=reach_listed hd 6 j (by rw [bindsAt_of hoj]; exact hbj) i (F.row j (by omega) (by omega) i hgt)
    rw [h2 i (Nat.le_refl _)] at hm
    cases hm
  subst hji
  unfold wpOpIn
  rw [ho]
  simp only
  rw [if_pos (no_guard F.ng ho _ _)]
  refine hst m a _ _ hS ht (fun m' a' σ' hle' hS' hk=>?_) (fun m' σ' x v hle' hS' hx hk=>hKp m' a σ' x v (hle.trans hle') hS' hx hk)
  refine chain_sound F m0 hK hKp c (j + 1) f _ σ' (by omega) (by omega) (by omega) (by simpa using hl) (fun k hk=>?_) (fun k hk=>?_) hk m' a' (hle.trans hle') hS' (Lasts.le hle' ht)
  ·rw [getD_setB (by omega)]
   split
   ·rfl
   ·exact h1 k (by omega)
  ·rw [getD_setB (by omega),if_neg (by omega)]
   exact h2 k (by omega)
theorem least_not {n : Nat} {p : Nat → Prop} (h : ∃ j,j < n ∧ ¬ p j) : ∃ j,j < n ∧ ¬ p j ∧ ∀ k,k < j → p k:=by
 obtain ⟨j,hj,hp⟩:=h
 induction j using Nat.strongRecOn with
 | _ j ih =>
  by_cases hc : ∀ k,k < j → p k
  ·exact ⟨j,hj,hp,hc⟩
  ·obtain ⟨k,hk⟩ : ∃ k,¬ (k < j → p k):=Classical.byContradiction fun hn=>hc fun k=>Classical.byContradiction fun h=>hn ⟨k,h⟩
   have hkj : k < j:=Classical.byContradiction fun h=>hk fun h'=>absurd h' h
   exact ih k hkj (by omega) fun h=>hk fun _=>h
theorem pre_ready {n : Nat} (F : RowF ops n) {l l' : Array Bool} (hl' : l'.size = n) (he : ∀ j,j < n → l.getD j false = l'.getD j false) {j0 : Nat} (h0 : j0 < n) (h1 : ¬ l.getD j0 false = true) (h2 : ∀ k,k < j0 → l.getD k false = true) : j0 ∈ Region.ready .any (ops.extract 0 n) l':=by
 have hle:=F.le
 have hlt : j0 < ops.size:=by omega
 have hpo : (ops.extract 0 n)[j0]? = some ops[j0]:=by
  rw [Array.getElem?_extract,if_pos (by omega),Nat.zero_add]
  exact Array.getElem?_eq_getElem hlt
 refine ready_iff.2 ⟨getD_ft (by omega) (by rw [← he j0 h0]; simpa using h1),_,hpo,fun k hk=>?_⟩
 have hk':=F.up j0 k (by rw [bindsAt_of (Array.getElem?_eq_getElem hlt)]; exact hk)
 rw [← he k (by omega)]
 exact h2 k hk'
theorem pre_sound [Lasts Θ] {n : Nat} (F : RowF ops n) {X : Exit → Act → World → Prop} (m0 : Mem)
  (hK : ∀ m a σ,m0.leT m → SimT B m a σ → K σ → X .normal a m.w) (hKp : ∀ m a σ x v,m0.leT m → SimT B m a σ → Rep m 0 x v → Kp x σ → X (.panic [{ v,recovered:=false }]) a m.w) :
  ∀ (f : Nat) (l' : Array Bool) (σ : St),GAny P (ops.extract 0 n) (fun σ=>∃ σ2,Eqv σ σ2 ∧ chainT B r Θ P ops K Kp (ops.size - n) n σ2) Kp f l' σ → ∀ l : Array Bool,l'.size = n → l.size = ops.size → (∀ j,j < n → l.getD j false = l'.getD j false) → (∀ j,n ≤ j → l.getD j false = false) →
   (∀ j,l.getD j false = true → ∀ k ∈ bindsAt ops j,l.getD k false = true) → ∀ m a,m0.leT m → SimT B m a σ → Θ m → wpAnyIn (Fr r) 0 P .any ops X (f + (ops.size - n)) l a m.w:=by
 intro f
 induction f with
 | zero =>
  intro l' σ h l hl' hl he hn hd m a hle hS ht
  have hall : ∀ j,j < n → l.getD j false = true:=fun j hj=>Classical.byContradiction fun hc=>by
   obtain ⟨j0,h0,h1,h2⟩:=least_not (p:=fun j=>l.getD j false = true) ⟨j,hj,hc⟩
   have:=pre_ready F hl' he h0 h1 h2
   rw [h.1] at this
   cases this
  obtain ⟨σ2,hq,hch⟩:=h.2
  exact chain_sound F m0 hK hKp (ops.size - n) n _ l σ2 (Nat.le_refl _) (by have:=F.le; omega) (by omega) hl hall hn hch m a hle ⟨hS.s.eqv hq,hS.marks,hS.base⟩ ht
 | succ f ih =>
  intro l' σ h l hl' hl he hn hd m a hle hS ht
  by_cases hall : ∀ j,j < n → l.getD j false = true
  ·have hr : Region.ready .any (ops.extract 0 n) l' = []:=by
    rw [List.eq_nil_iff_forall_not_mem]
    intro j hj
    obtain ⟨e,_⟩:=ready_iff.1 hj
    obtain ⟨e1,e2⟩:=getD_tf e
    rw [← he j (by omega),hall j (by omega)] at e2
    cases e2
   obtain ⟨σ2,hq,hch⟩:=h.1 hr
   exact chain_sound F m0 hK hKp (ops.size - n) n _ l σ2 (Nat.le_refl _) (by have:=F.le; omega) (by omega) hl hall hn hch m a hle ⟨hS.s.eqv hq,hS.marks,hS.base⟩ ht
  ·obtain ⟨j0,h0,h1,h2⟩ : ∃ j0,j0 < n ∧ ¬ l.getD j0 false = true ∧ ∀ k,k < j0 → l.getD k false = true:=by
    refine least_not (p:=fun j=>l.getD j false = true) ?_
    exact Classical.byContradiction fun hc=>hall fun j hj=>Classical.byContradiction fun hj2=>hc ⟨j,hj,hj2⟩
   have hr0 : j0 ∈ Region.ready .any ops l:=by
    have hlt : j0 < ops.size:=by have:=F.le; omega
    refine ready_iff.2 ⟨getD_ft (by omega) (by simpa using h1),ops[j0],Array.getElem?_eq_getElem hlt,fun k hk=>h2 k ?_⟩
    exact F.up j0 k (by rw [bindsAt_of (Array.getElem?_eq_getElem hlt)]; exact hk)
   rw [show f + 1 + (ops.size - n) = f + (ops.size - n) + 1 from by omega]
   refine ⟨fun hz=>(by rw [hz] at hr0; cases hr0),fun i hi=>?_⟩
   obtain ⟨e,o,ho,hbi⟩:=ready_iff.1 hi
   obtain ⟨e1,e2⟩:=getD_tf e
   have hin : i < n:=by
    refine Classical.byContradiction fun hc=>?_
    have:=reach_listed hd 6 i (by rw [bindsAt_of ho]; exact hbi) j0 (F.row i (by omega) (by omega) j0 (by omega))
    exact h1 this
   have hpo : (ops.extract 0 n)[i]? = some o:=by
    rw [Array.getElem?_extract]
    have:=F.le
    rw [if_pos (by omega),Nat.zero_add]
    exact ho
   have hir : i ∈ Region.ready .any (ops.extract 0 n) l':=by
    refine ready_iff.2 ⟨getD_ft (by omega) (by rw [← he i hin]; exact e2),o,hpo,fun k hk=>?_⟩
    have hk':=F.up i k (by rw [bindsAt_of ho]; exact hk)
    rw [← he k (by omega)]
    exact hbi k hk
   have hst:=h.2 i hir
   unfold GStep at hst
   rw [hpo] at hst
   simp only at hst
   unfold wpOpIn
   rw [ho]
   simp only
   rw [if_pos (no_guard F.ng ho _ _)]
   have hnd:=noDefers_at F.nd ho
   have hh:=hst m { a with defers:=B.ds } (fun a' w'=>∃ m' σ',m'.w = w' ∧ m.le m' ∧ Sim m' a' σ' ∧ Keeps o σ σ' ∧ GAny P (ops.extract 0 n) (fun σ=>∃ σ2,Eqv σ σ2 ∧ chainT B r Θ P ops K Kp (ops.size - n) n σ2) Kp f (l'.setIfInBounds i true) σ')
    (fun e a' w'=>∃ m' σ' x v,m'.w = w' ∧ e = .panic [{ v,recovered:=false }] ∧ m.le m' ∧ Sim m' { a with defers:=B.ds } σ' ∧ Rep m' 0 x v ∧ Kp x σ') hS.s
    (fun m' a' σ' h1 _ h2 h3 _ h4=>⟨m',σ',rfl,h1,h2,h3,h4⟩) (fun m' σ' x v h1 _ h2 h3 _ h4=>⟨m',σ',x,v,rfl,rfl,h1,h2,h3,h4⟩)
   rw [if_pos (no_guard F.ng ho _ _)] at hh
   refine wpIn_of_wp hnd hh ?_ ?_ ?_
   ·rintro a' w' ⟨m',σ',rfl,g1,g2,g3,g4⟩
    refine ⟨by rw [g2.defers.len,hS.s.defers.len,g3.df],fun hdd=>?_⟩
    refine ih (l'.setIfInBounds i true) σ' g4 (l.setIfInBounds i true) (by simpa using hl') (by simpa using hl) (fun j hj=>?_) (fun j hj=>?_) (fun j hj k hk=>?_) m' _ (hle.trans g1.t) ⟨?_,hS.marks.le g1.t,Nat.le_trans hS.base g1.size⟩ (Lasts.le g1.t ht)
    ·rw [getD_setB (by omega),getD_setB (by omega),he j hj]
    ·rw [getD_setB (by omega),if_neg (by omega)]
     exact hn j hj
    ·rw [getD_setB (by omega)] at hj ⊢
     split
     ·rfl
     ·split at hj
      ·rename_i hij
       subst hij
       exact hbi k (by rw [bindsAt_of ho] at hk; exact hk)
      ·exact hd j hj k hk
    ·have : ({ ({ a' with defers:=a.defers } : Act) with defers:=B.ds } : Act) = a':=by
      cases a'
      simp only at hdd
      subst hdd
      rfl
     rw [this]
     exact g2
   ·rintro e w' ⟨m',σ',x,v,rfl,rfl,g1,g2,g3,g4⟩
    exact hKp m' a σ' x v (hle.trans g1.t) ⟨g2,hS.marks.le g1.t,Nat.le_trans hS.base g1.size⟩ g3 g4
   ·rintro ⟨a',w',_,_,_,_,_,h,_⟩
    cases h
end
end Aw
