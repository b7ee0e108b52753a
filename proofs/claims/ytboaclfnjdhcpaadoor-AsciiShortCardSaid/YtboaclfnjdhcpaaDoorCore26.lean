/- Rules of a calculus of walks: no condition of its own. -/
import Derived.Test.YtboaclfnjdhcpaaDoorCore25
namespace Aw
open Go
section
variable {P : Program} {ops : Array Oper}
def funSteps (ops : Array Oper) : List Nat → List Nat → Bool
 | _,[]=>true
 | done,i :: r=>funStep ops done i r && funSteps ops (done ++ [i]) r
def earlyOk (ops : Array Oper) (e : Nat) (S : List Nat) : Bool :=
 !(S.contains e) && (bindsAt ops e).isEmpty && (S.all fun k=>dstAt ops k != dstAt ops e && (match ops[k]?,dstAt ops e with
  | some o,some t=>!(o.looksAt ops).contains t
  | _,_=>false)) && (List.range ops.size).all fun j=>S.contains j || j == e || (S.all ((reach ops 9 j).contains ·) && (reach ops 9 j).contains e)
def awFunE (P : Program) (ops : Array Oper) (K : St → Prop) : List Nat → St → St → Prop
 | [],_,σ1=>K σ1
 | i :: r,σ0,σ1=>∃ o X,ops[i]? = some o ∧ FnAt P ops i o σ0 X ∧ FnAt P ops i o σ1 X ∧ awFunE P ops K r (σ0.put o.dst X) (σ1.put o.dst X)
structure DoneE (ops : Array Oper) (S : List Nat) (e : Nat) (X : Nat → AV) (σ0 : St) (be : Bool) (l : Array Bool) (σ : St) : Prop where
 size : l.size = ops.size
 sub : ∀ i,l.getD i false = true → i ∈ S ∨ (i = e ∧ be = true)
 isE : l.getD e false = be
 down : ∀ i,l.getD i false = true → ∀ k ∈ bindsAt ops i,l.getD k false = true
 base : Base σ0 σ
 env : ∀ t,(∃ i ∈ S,l.getD i false = true ∧ dstAt ops i = some t ∧ get σ.env t = some (X i)) ∨ ((∀ i ∈ S,l.getD i false = true → dstAt ops i ≠ some t) ∧ get σ.env t = get σ0.env t)
structure FactsE (P : Program) (ops : Array Oper) (S : List Nat) (e : Nat) (X : Nat → AV) (σ0 : St) : Prop where
 nodup : S.Nodup
 dist : ∀ i ∈ S,∀ j ∈ S,dstAt ops i = dstAt ops j → i = j
 isop : ∀ i ∈ S,∃ o d,ops[i]? = some o ∧ o.dst = some d
 early : ∀ (A : List Nat) (i : Nat) (B : List Nat),S = A ++ i :: B → ∀ k ∈ bindsAt ops i,k ∈ A
 tail : ∀ j,j < ops.size → j ∉ S → j ≠ e → (∀ i ∈ S,i ∈ reach ops 9 j) ∧ e ∈ reach ops 9 j
 step : ∀ i ∈ S,∃ o σi,ops[i]? = some o ∧ Base σ0 σi ∧ FnAt P ops i o σi (X i) ∧ ∀ t ∈ o.looksAt ops,∀ x,get σi.env t = some x →
  (∃ k ∈ S,dstAt ops k = some t ∧ k ∈ binds o ∧ X k = x) ∨ ((∀ k ∈ S,dstAt ops k ≠ some t) ∧ get σ0.env t = some x)
theorem game_late {K : St → Prop} {Kp : AV → St → Prop} {S : List Nat} {e : Nat} {X : Nat → AV} {σ0 : St} (F : FactsE P ops S e X σ0) {f' : Nat}
  (hend : ∀ l σ,DoneE ops S e X σ0 true l σ → unl l S = 0 → GAny P ops K Kp f' l σ) : ∀ (c : Nat) (l : Array Bool) (σ : St),unl l S = c → DoneE ops S e X σ0 true l σ → GAny P ops K Kp (c + f') l σ
 | 0,l,σ,hc,hD=>by rw [Nat.zero_add]; exact hend l σ hD hc
 | c + 1,l,σ,hc,hD=>by
  rw [show c + 1 + f' = (c + f') + 1 from by omega]
  refine ⟨fun h0=>?_,fun j hj=>?_⟩
  ·exfalso
   obtain ⟨A,i,B,hS,h1,h2⟩:=first_unl (l:=l) (S:=S) (by omega)
   obtain ⟨o,d,ho,_⟩:=F.isop i (by rw [hS]; simp)
   have hil : i < l.size:=by
    rw [hD.size]
    exact (Array.getElem?_eq_some_iff.1 ho).1
   have : i ∈ Region.ready .any ops l:=ready_iff.2 ⟨getD_ft hil h1,o,ho,fun k hk=>h2 k (F.early A i B hS k (by unfold bindsAt; rw [ho]; exact hk))⟩
   rw [h0] at this
   cases this
  ·obtain ⟨hu,o',ho',hk'⟩:=ready_iff.1 hj
   obtain ⟨hjl,hjf⟩:=getD_tf hu
   have hjS : j ∈ S:=by
    by_cases hm : j ∈ S
    ·exact hm
    ·exfalso
     have hje : j ≠ e:=by rintro rfl; rw [hD.isE] at hjf; cases hjf
     have hall : ∀ i ∈ S,l.getD i false = true:=fun i hi=>reach_listed hD.down 9 j (by unfold bindsAt; rw [ho']; exact hk') i ((F.tail j (by rw [← hD.size]; exact hjl) hm hje).1 i hi)
     obtain ⟨A,i,B,hS,h1,_⟩:=first_unl (l:=l) (S:=S) (by omega)
     rw [hall i (by rw [hS]; simp)] at h1
     cases h1
   obtain ⟨o,σi,ho,hbi,hF,hlook⟩:=F.step j hjS
   rw [ho] at ho'
   injection ho' with ho'
   subst ho'
   have hbase : Base σi σ:=⟨hD.base.n.trans hbi.n.symm,hD.base.hp.trans hbi.hp.symm,hD.base.nx.trans hbi.nx.symm,hD.base.gl.trans hbi.gl.symm,hD.base.np.trans hbi.np.symm,hD.base.df.trans hbi.df.symm⟩
   refine hF.step ho hbase ?_ ?_
   ·intro t ht x hx
    rcases hlook t ht x hx with ⟨k,hkS,hkd,hkb,rfl⟩ | ⟨hno,hx0⟩
    ·rcases hD.env t with ⟨i,hiS,_,hid,hiv⟩ | ⟨hn,_⟩
     ·rw [F.dist k hkS i hiS (by rw [hkd,hid])]
      exact hiv
     ·exact absurd hkd (hn k hkS (hk' k hkb))
    ·rcases hD.env t with ⟨i,hiS,_,hid,_⟩ | ⟨_,hv⟩
     ·exact absurd hid (hno i hiS)
     ·rw [hv]; exact hx0
   ·have hdj : dstAt ops j = o.dst:=by unfold dstAt; rw [ho] <;> rfl
    obtain ⟨_,d,ho2,hod⟩:=F.isop j hjS
    rw [ho] at ho2
    injection ho2 with ho2
    subst ho2
    refine game_late F hend c _ _ (by have:=unl_set hjl F.nodup hjS hjf; omega) ⟨by simpa using hD.size,?_,?_,?_,hD.base.trans (Base.put _ _ _),?_⟩
    ·intro i hi
     rw [getD_setB hjl] at hi
     split at hi
     ·rename_i e'; subst e'; exact .inl hjS
     ·exact hD.sub i hi
    ·rw [getD_setB hjl]
     split
     ·rfl
     ·exact hD.isE
    ·intro i hi k hk
     rw [getD_setB hjl] at hi ⊢
     split
     ·rfl
     ·split at hi
      ·rename_i e; subst e
       unfold bindsAt at hk
       rw [ho] at hk
       exact hk' k hk
      ·exact hD.down i hi k hk
    ·intro t
     by_cases hdt : d = t
     ·subst hdt
      left
      refine ⟨j,hjS,by rw [getD_setB hjl,if_pos rfl],by rw [hdj,hod],?_⟩
      rw [hod]
      simp only [St.put,get_set,if_true]
     ·have hput : get (σ.put o.dst (X j)).env t = get σ.env t:=by
       rw [hod]
       simp only [St.put,get_set,if_neg hdt]
      rw [hput]
      rcases hD.env t with ⟨i,hiS,hil,hid,hiv⟩ | ⟨hn,hv⟩
      ·left
       refine ⟨i,hiS,?_,hid,hiv⟩
       rw [getD_setB hjl]
       split
       ·rfl
       ·exact hil
      ·right
       refine ⟨fun i hiS hi=>?_,hv⟩
       rw [getD_setB hjl] at hi
       split at hi
       ·rename_i e; subst e
        rw [hdj,hod]
        intro h; injection h with h; exact hdt h
       ·exact hn i hiS hi
theorem Pre.snoc {done : List Nat} {X : Nat → AV} {σ0 σ : St} {i : Nat} {r : List Nat} {o : Oper} {Y : AV} (hst : funStep ops done i r = true) (hcl : Clear ops done (i :: r)) (hP : Pre P ops done X σ0 σ) (ho : ops[i]? = some o) (hF : FnAt P ops i o σ Y) :
  Clear ops (done ++ [i]) r ∧ Pre P ops (done ++ [i]) (fun k=>if k = i then Y else X k) σ0 (σ.put o.dst Y):=by
 unfold funStep at hst
 rw [ho] at hst
 simp only at hst
 split at hst
 ·cases hst
 rename_i d hd
 simp only [Bool.and_eq_true,List.all_eq_true,List.contains_iff_mem,Bool.not_eq_true',bne_iff_ne,ne_eq,Bool.or_eq_true] at hst
 obtain ⟨⟨⟨hb,hni⟩,hdd⟩,hlk⟩:=hst
 have hni : i ∉ done:=by
  intro hm
  have : done.contains i = true:=by simpa using hm
  rw [this] at hni
  cases hni
 have hdi : dstAt ops i = some d:=by rw [dstAt_of ho,hd]
 have hne : ∀ k ∈ done,k ≠ i:=fun k hk e=>hni (e ▸ hk)
 let X' : Nat → AV:=fun k=>if k = i then Y else X k
 have hXd : ∀ k ∈ done,X' k = X k:=fun k hk=>if_neg (hne k hk)
 have hXi : X' i = Y:=if_pos rfl
 refine ⟨?_,?_⟩
 ·intro k hk o' ho' t ht q hq
  rcases List.mem_append.1 hk with hk | hk
  ·exact hcl k hk o' ho' t ht q (by simp [hq])
  ·obtain rfl : k = i:=by simpa using hk
   rw [ho] at ho'
   injection ho' with ho'
   subst ho'
   exact (hlk t ht).1 q (by simp [hq])
 ·show Pre P ops (done ++ [i]) X' σ0 _
  refine ⟨?_,?_,?_,?_,hP.base.trans (Base.put _ _ _),?_,?_⟩
  ·rw [List.nodup_append]
   exact ⟨hP.nodup,by simp,by intro a ha b hb' e; simp only [List.mem_singleton] at hb'; subst hb' e; exact hni ha⟩
  ·intro a ha b hb' e
   rcases List.mem_append.1 ha with ha1 | ha1 <;> rcases List.mem_append.1 hb' with hb1 | hb1
   ·exact hP.dist a ha1 b hb1 e
   ·obtain rfl : b = i:=by simpa using hb1
    exact absurd (e.trans hdi) (hdd a ha1)
   ·obtain rfl : a = i:=by simpa using ha1
    exact absurd (e.symm.trans hdi) (hdd b hb1)
   ·obtain rfl : a = i:=by simpa using ha1
    obtain rfl : b = a:=by simpa using hb1
    rfl
  ·intro a ha
   rcases List.mem_append.1 ha with ha | ha
   ·exact hP.isop a ha
   ·obtain rfl : a = i:=by simpa using ha
    exact ⟨o,d,ho,hd⟩
  ·intro A a B e k hk
   rcases List.append_eq_append_iff.1 e with ⟨C,hA,hC⟩ | ⟨C,hA,hC⟩
   ·-- A = done ++ C,[i] = C ++ a :: B
    cases C with
    | nil =>
     simp only [List.nil_append,List.cons.injEq] at hC
     obtain ⟨rfl,_⟩:=hC
     rw [bindsAt_of ho] at hk
     rw [hA]
     simpa using hb k hk
    | cons c C =>
     simp only [List.cons_append,List.cons.injEq] at hC
     have:=hC.2
     simp at this
   ·cases C with
    | nil =>
     simp only [List.nil_append,List.cons.injEq] at hC
     obtain ⟨rfl,_⟩:=hC
     rw [bindsAt_of ho] at hk
     have:=hb k hk
     rw [hA] at this
     simpa using this
    | cons c C =>
     simp only [List.cons_append,List.cons.injEq] at hC
     obtain ⟨rfl,hC⟩:=hC
     exact hP.early A a C hA k hk
  ·intro t
   rw [hd]
   simp only [St.put,get_set]
   by_cases e : d = t
   ·subst e
    left
    exact ⟨i,by simp,hdi,by rw [if_pos rfl,hXi]⟩
   ·rw [if_neg e]
    rcases hP.env t with ⟨k,hk,hkd,hkv⟩ | ⟨hn,hv⟩
    ·left
     exact ⟨k,by simp [hk],hkd,by rw [hkv,hXd k hk]⟩
    ·right
     refine ⟨fun k hk=>?_,hv⟩
     rcases List.mem_append.1 hk with hk | hk
     ·exact hn k hk
     ·obtain rfl : k = i:=by simpa using hk
      rw [hdi]
      intro h; injection h with h; exact e h
  ·intro a ha
   rcases List.mem_append.1 ha with ha1 | ha1
   ·obtain ⟨o',σi,h1,h2,h3,h4⟩:=hP.step a ha1
    refine ⟨o',σi,h1,h2,by rw [hXd a ha1]; exact h3,fun t ht x hx=>?_⟩
    rcases h4 t ht x hx with ⟨k,hk,hkd,hkb,hkx⟩ | ⟨hn,hx0⟩
    ·left
     exact ⟨k,by simp [hk],hkd,hkb,by rw [hXd k hk]; exact hkx⟩
    ·right
     refine ⟨fun k hk=>?_,hx0⟩
     rcases List.mem_append.1 hk with hk | hk
     ·exact hn k hk
     ·obtain rfl : k = i:=by simpa using hk
      exact hcl a ha1 o' h1 t ht k (by simp)
   ·obtain rfl : a = i:=by simpa using ha1
    refine ⟨o,σ,ho,hP.base,by rw [hXi]; exact hF,fun t ht x hx=>?_⟩
    have hown : dstAt ops a ≠ some t:=(hlk t ht).1 a (by simp)
    rcases hP.env t with ⟨k,hk,hkd,hkv⟩ | ⟨hn,hv⟩
    ·left
     refine ⟨k,by simp [hk],hkd,?_,?_⟩
     ·rcases (hlk t ht).2 k hk with h | h
      ·exact absurd hkd h
      ·exact h
     ·rw [hXd k hk]
      rw [hkv] at hx
      injection hx
    ·right
     refine ⟨fun k hk=>?_,by rw [← hv]; exact hx⟩
     rcases List.mem_append.1 hk with hk | hk
     ·exact hn k hk
     ·obtain rfl : k = a:=by simpa using hk
      exact hown

def allocAt (σ : St) (d : Option Tmp) (ef : Eff) : St:=St.put ⟨σ.n,σ.env,ef.hp,ef.nx,σ.gl,σ.np,σ.df⟩ d ef.val
theorem unl_other {l : Array Bool} {e : Nat} {S : List Nat} (he : e < l.size) (h : e ∉ S) : unl (l.setIfInBounds e true) S = unl l S:=by
 unfold unl
 congr 1
 apply List.filter_congr
 intro k hk
 rw [getD_setB he,if_neg (fun h'=>h (by rw [h']; exact hk))]
theorem game_early_step {K : St → Prop} {Kp : AV → St → Prop} {S : List Nat} {e : Nat} {X : Nat → AV} {σ0 : St} {oe : Oper} {te : Tmp} {ef : Eff} (F : FactsE P ops S e X σ0) (F1 : FactsE P ops S e X (allocAt σ0 oe.dst ef)) {f' : Nat}
  (hoe : ops[e]? = some oe) (hte : oe.dst = some te) (heS : e ∉ S) (hbe : bindsAt ops e = []) (hdS : ∀ i ∈ S,dstAt ops i ≠ some te)
  (hE : ∀ σ,Base σ0 σ → ∀ K',K' (allocAt σ oe.dst ef) → GStep P ops e σ K' Kp)
  (hend : ∀ l σ,DoneE ops S e X (allocAt σ0 oe.dst ef) true l σ → unl l S = 0 → GAny P ops K Kp f' l σ) (c : Nat) (l : Array Bool) (σ : St) (hc : unl l S = c) (hD : DoneE ops S e X σ0 false l σ)
  (ih : ∀ c',c = c' + 1 → ∀ l' σ',unl l' S = c' → DoneE ops S e X σ0 false l' σ' → GAny P ops K Kp (c' + 1 + f') l' σ') : GAny P ops K Kp (c + f' + 1) l σ:=by
 have hel : e < l.size:=by rw [hD.size]; exact (Array.getElem?_eq_some_iff.1 hoe).1
 have hbe' : binds oe = []:=by rw [← bindsAt_of hoe]; exact hbe
 refine ⟨fun h0=>?_,fun j hj=>?_⟩
 ·exfalso
  have : e ∈ Region.ready .any ops l:=ready_iff.2 ⟨getD_ft hel hD.isE,oe,hoe,fun k hk=>by rw [hbe'] at hk; cases hk⟩
  rw [h0] at this
  cases this
 ·obtain ⟨hu,o',ho',hk'⟩:=ready_iff.1 hj
  obtain ⟨hjl,hjf⟩:=getD_tf hu
  by_cases hje : j = e
  ·subst hje
   refine hE σ hD.base _ ?_
   refine game_late F1 hend c _ _ (by rw [unl_other hel heS]; exact hc) ⟨by simpa using hD.size,?_,?_,?_,?_,?_⟩
   ·intro i hi
    rw [getD_setB hjl] at hi
    split at hi
    ·rename_i e'; exact .inr ⟨e'.symm,rfl⟩
    ·rcases hD.sub i hi with h | h
     ·exact .inl h
     ·exact absurd h.2 (by decide)
   ·rw [getD_setB hjl,if_pos rfl]
   ·intro i hi k hk
    rw [getD_setB hjl] at hi ⊢
    split
    ·rfl
    ·split at hi
     ·rename_i e'; subst e'
      rw [hbe] at hk
      cases hk
     ·exact hD.down i hi k hk
   ·have hb:=hD.base
    unfold allocAt
    rw [hte]
    exact ⟨hb.n,rfl,rfl,hb.gl,hb.np,hb.df⟩
   ·intro t
    unfold allocAt
    rw [hte]
    simp only [St.put,get_set]
    by_cases ht : te = t
    ·right
     subst ht
     refine ⟨fun i hi _=>hdS i hi,by rw [if_pos rfl,if_pos rfl]⟩
    ·rw [if_neg ht,if_neg ht]
     rcases hD.env t with ⟨i,hiS,hil,hid,hiv⟩ | ⟨hn,hv⟩
     ·left
      refine ⟨i,hiS,?_,hid,hiv⟩
      rw [getD_setB hjl]
      split
      ·rfl
      ·exact hil
     ·right
      refine ⟨fun i hiS hi=>?_,hv⟩
      rw [getD_setB hjl] at hi
      split at hi
      ·rename_i e'; subst e'; exact absurd hiS heS
      ·exact hn i hiS hi
  ·have hjS : j ∈ S:=by
    by_cases hm : j ∈ S
    ·exact hm
    ·exfalso
     have:=reach_listed hD.down 9 j (by unfold bindsAt; rw [ho']; exact hk') e (F.tail j (by rw [← hD.size]; exact hjl) hm hje).2
     rw [hD.isE] at this
     cases this
   have hcu:=unl_set hjl F.nodup hjS hjf
   obtain ⟨c',rfl⟩ : ∃ c',c = c' + 1:=⟨unl (l.setIfInBounds j true) S,by omega⟩
   obtain ⟨o,σi,ho,hbi,hF,hlook⟩:=F.step j hjS
   rw [ho] at ho'
   injection ho' with ho'
   subst ho'
   have hbase : Base σi σ:=⟨hD.base.n.trans hbi.n.symm,hD.base.hp.trans hbi.hp.symm,hD.base.nx.trans hbi.nx.symm,hD.base.gl.trans hbi.gl.symm,hD.base.np.trans hbi.np.symm,hD.base.df.trans hbi.df.symm⟩
   refine hF.step ho hbase ?_ ?_
   ·intro t ht x hx
    rcases hlook t ht x hx with ⟨k,hkS,hkd,hkb,rfl⟩ | ⟨hno,hx0⟩
    ·rcases hD.env t with ⟨i,hiS,_,hid,hiv⟩ | ⟨hn,_⟩
     ·rw [F.dist k hkS i hiS (by rw [hkd,hid])]
      exact hiv
     ·exact absurd hkd (hn k hkS (hk' k hkb))
    ·rcases hD.env t with ⟨i,hiS,_,hid,_⟩ | ⟨_,hv⟩
     ·exact absurd hid (hno i hiS)
     ·rw [hv]; exact hx0
   ·have hdj : dstAt ops j = o.dst:=by unfold dstAt; rw [ho] <;> rfl
    obtain ⟨_,d,ho2,hod⟩:=F.isop j hjS
    rw [ho] at ho2
    injection ho2 with ho2
    subst ho2
    rw [show c' + 1 + f' = c' + 1 + f' from rfl]
    refine ih c' rfl _ _ (by omega) ⟨by simpa using hD.size,?_,?_,?_,hD.base.trans (Base.put _ _ _),?_⟩
    ·intro i hi
     rw [getD_setB hjl] at hi
     split at hi
     ·rename_i e'; subst e'; exact .inl hjS
     ·exact hD.sub i hi
    ·rw [getD_setB hjl,if_neg hje]
     exact hD.isE
    ·intro i hi k hk
     rw [getD_setB hjl] at hi ⊢
     split
     ·rfl
     ·split at hi
      ·rename_i e'; subst e'
       unfold bindsAt at hk
       rw [ho] at hk
       exact hk' k hk
      ·exact hD.down i hi k hk
    ·intro t
     by_cases hdt : d = t
     ·subst hdt
      left
      refine ⟨j,hjS,by rw [getD_setB hjl,if_pos rfl],by rw [hdj,hod],?_⟩
      rw [hod]
      simp only [St.put,get_set,if_true]
     ·have hput : get (σ.put o.dst (X j)).env t = get σ.env t:=by
       rw [hod]
       simp only [St.put,get_set,if_neg hdt]
      rw [hput]
      rcases hD.env t with ⟨i,hiS,hil,hid,hiv⟩ | ⟨hn,hv⟩
      ·left
       refine ⟨i,hiS,?_,hid,hiv⟩
       rw [getD_setB hjl]
       split
       ·rfl
       ·exact hil
      ·right
       refine ⟨fun i hiS hi=>?_,hv⟩
       rw [getD_setB hjl] at hi
       split at hi
       ·rename_i e'; subst e'
        rw [hdj,hod]
        intro h; injection h with h; exact hdt h
       ·exact hn i hiS hi

theorem game_early {K : St → Prop} {Kp : AV → St → Prop} {S : List Nat} {e : Nat} {X : Nat → AV} {σ0 : St} {oe : Oper} {te : Tmp} {ef : Eff} (F : FactsE P ops S e X σ0) (F1 : FactsE P ops S e X (allocAt σ0 oe.dst ef)) {f' : Nat}
  (hoe : ops[e]? = some oe) (hte : oe.dst = some te) (heS : e ∉ S) (hbe : bindsAt ops e = []) (hdS : ∀ i ∈ S,dstAt ops i ≠ some te)
  (hE : ∀ σ,Base σ0 σ → ∀ K',K' (allocAt σ oe.dst ef) → GStep P ops e σ K' Kp)
  (hend : ∀ l σ,DoneE ops S e X (allocAt σ0 oe.dst ef) true l σ → unl l S = 0 → GAny P ops K Kp f' l σ) : ∀ (c : Nat) (l : Array Bool) (σ : St),unl l S = c → DoneE ops S e X σ0 false l σ → GAny P ops K Kp (c + 1 + f') l σ:=by
 intro c
 induction c with
 | zero =>
  intro l σ hc hD
  rw [show 0 + 1 + f' = (0 + f') + 1 from by omega]
  exact game_early_step F F1 hoe hte heS hbe hdS hE hend 0 l σ hc hD (fun c' h=>absurd h (by omega))
 | succ c ih =>
  intro l σ hc hD
  rw [show c + 1 + 1 + f' = (c + 1 + f') + 1 from by omega]
  exact game_early_step F F1 hoe hte heS hbe hdS hE hend (c + 1) l σ hc hD (fun c' h l' σ' h1 h2=>(show c = c' from by omega) ▸ ih l' σ' (by omega) h2)
theorem awFunE_pre {K : St → Prop} {σ0 σ1 : St} : ∀ (rest done : List Nat) (X : Nat → AV) (σ σ' : St),funSteps ops done rest = true → Clear ops done rest → Pre P ops done X σ0 σ → Pre P ops done X σ1 σ' → awFunE P ops K rest σ σ' →
  ∃ X' τ τ',Pre P ops (done ++ rest) X' σ0 τ ∧ Pre P ops (done ++ rest) X' σ1 τ' ∧ K τ'
 | [],done,X,σ,σ',_,_,hP,hP',h=>⟨X,σ,σ',by rw [List.append_nil]; exact hP,by rw [List.append_nil]; exact hP',h⟩
 | i :: r,done,X,σ,σ',hok,hcl,hP,hP',⟨o,Y,ho,hF,hF',h⟩=>by
  simp only [funSteps,Bool.and_eq_true] at hok
  obtain ⟨hc,h1⟩:=Pre.snoc hok.1 hcl hP ho hF
  obtain ⟨_,h2⟩:=Pre.snoc hok.1 hcl hP' ho hF'
  rw [show done ++ i :: r = (done ++ [i]) ++ r by simp]
  exact awFunE_pre r (done ++ [i]) _ _ _ hok.2 hc h1 h2 h
theorem alloc_effs {σ0 : St} {t : TypeId} {ef : Eff} (h : effOp P σ0 (.alloc t) = some ef) (σ : St) (hb : Base σ0 σ) : pureOp P σ true (.alloc t) = none ∧ effOp P σ (.alloc t) = some ef:=by
 refine ⟨rfl,?_⟩
 rw [← h]
 simp only [effOp,ealloc,hb.hp,hb.nx]
theorem AWG.funE {σ : St} {Q : AX → St → Prop} (S : List Nat) (e : Nat) (pl : List (Nat × Nat)) {oe : Oper} {t : TypeId} {te : Tmp} {ef : Eff} (hsel : Region.noSelect ops = true) (hst : funSteps ops [] S = true) (hok : earlyOk ops e S = true)
  (hp : (planOk ops pl (listAll (Array.replicate ops.size false) (e :: S)) && pl.length + S.length + 1 == ops.size) = true) (hQ : PI Q)
  (hoe : ops[e]? = some oe) (hop : oe.op = .alloc t) (hg : oe.guard = none) (hte : oe.dst = some te) (hd : dstOk σ.n oe.dst = true) (hef : effOp P σ (.alloc t) = some ef) (hob : ef.ob)
  (h : awFunE P ops (awPlan P ops (fun σ'=>Q .normal σ') (fun x σ'=>Q (.panic x) σ') pl) S σ (allocAt σ oe.dst ef)) : AWG P ops σ Q:=by
 simp only [Bool.and_eq_true,beq_iff_eq] at hp
 unfold AWG
 have hnil : ∀ σ : St,Pre P ops [] (fun _=>.top) σ σ:=fun σ=>⟨List.nodup_nil,by simp,by simp,by intro A i B e; simp at e,Base.refl σ,fun t=>.inr ⟨by simp,rfl⟩,by simp⟩
 obtain ⟨X,σ0',σS,hP0,hP,hK⟩:=awFunE_pre (σ0:=σ) (σ1:=allocAt σ oe.dst ef) S [] (fun _=>.top) σ (allocAt σ oe.dst ef) hst (by intro i hi; cases hi) (hnil _) (hnil _) h
 rw [List.nil_append] at hP hP0
 simp only [earlyOk,Bool.and_eq_true,List.all_eq_true,List.mem_range,Bool.or_eq_true,List.contains_iff_mem,Bool.not_eq_true',beq_iff_eq,bne_iff_ne,ne_eq,List.isEmpty_iff] at hok
 obtain ⟨⟨⟨heS0,hbe⟩,hlk⟩,htl⟩:=hok
 have heS : e ∉ S:=by
  intro hm
  have : S.contains e = true:=by simpa using hm
  rw [this] at heS0
  cases heS0
 have hdS : ∀ i ∈ S,dstAt ops i ≠ some te:=fun i hi h'=>(hlk i hi).1 (by rw [h',dstAt_of hoe,hte])
 have htail : ∀ j,j < ops.size → j ∉ S → j ≠ e → (∀ i ∈ S,i ∈ reach ops 9 j) ∧ e ∈ reach ops 9 j:=by
  intro j hj hm hje
  rcases htl j hj with (h' | h') | h'
  ·exact absurd h' hm
  ·exact absurd h' hje
  ·exact h'
 have F0 : FactsE P ops S e X σ:=⟨hP0.nodup,hP0.dist,hP0.isop,hP0.early,htail,hP0.step⟩
 have F : FactsE P ops S e X (allocAt σ oe.dst ef):=⟨hP.nodup,hP.dist,hP.isop,hP.early,htail,hP.step⟩
 have hE : ∀ σ',Base σ σ' → ∀ K',K' (allocAt σ' oe.dst ef) → GStep P ops e σ' K' (fun x σ'=>Q (.panic x) σ'):=by
  intro σ' hb K' hK'
  refine awGuard_sound hoe ?_
  unfold awGuard
  rw [hg]
  simp only
  unfold awStep
  rw [hop,(alloc_effs hef σ' hb).1,(alloc_effs hef σ' hb).2]
  exact ⟨by rw [hb.n]; exact hd,hob,hK'⟩
 have hSlt : ∀ i ∈ S,i < (Array.replicate ops.size false).size:=by
  intro i hi
  obtain ⟨o,d,ho,_⟩:=hP.isop i hi
  simpa using (Array.getElem?_eq_some_iff.1 ho).1
 have hcnt : unl (Array.replicate ops.size false) S = S.length:=by
  unfold unl
  congr 1
  rw [List.filter_eq_self]
  intro i hi
  have:=hSlt i hi
  simp at this
  simp [this]
 have hgame:=game_early (K:=fun σ=>∃ σ2,Eqv σ σ2 ∧ Q .normal σ2) (Kp:=fun x σ'=>Q (.panic x) σ') (f':=pl.length) F0 F hoe hte heS hbe hdS hE (by
  intro l σl hD hz
  have hall:=unl_zero hz
  have hSlt' : ∀ i ∈ e :: S,i < (Array.replicate ops.size false).size:=by
   intro i hi
   rcases List.mem_cons.1 hi with rfl | hi
   ·simpa using (Array.getElem?_eq_some_iff.1 hoe).1
   ·exact hSlt i hi
  have hleq : listAll (Array.replicate ops.size false) (e :: S) = l:=by
   apply Array.ext
   ·rw [listAll_size,hD.size]; simp
   ·intro j hj1 hj2
    have h1:=listAll_get (e :: S) _ hSlt' j
    have h2 : (Array.replicate ops.size false).getD j false = false:=by simp [Array.getD]
    rw [h2,Bool.false_or] at h1
    have e1 : (listAll (Array.replicate ops.size false) (e :: S)).getD j false = (listAll (Array.replicate ops.size false) (e :: S))[j]:=by simp [Array.getD,hj1]
    have e2 : l.getD j false = l[j]:=by simp [Array.getD,hj2]
    rw [← e1,← e2,h1]
    by_cases hm : j ∈ S
    ·rw [hall j hm]; simp [hm]
    ·by_cases hje : j = e
     ·rw [hje,hD.isE]; simp
     ·have : (e :: S).contains j = false:=by simp [hm,hje]
      rw [this]
      cases hv : l.getD j false with
      | false=>rfl
      | true =>
       rcases hD.sub j hv with h' | h'
       ·exact absurd h' hm
       ·exact absurd h'.1 hje
  have hs:=awPlan_sound hsel hQ pl _ σS hp.1 hK
  rw [hleq] at hs
  refine GAny.eqv (fun σ σ' he ⟨σ2,h1,h2⟩=>⟨σ2,he.symm.trans h1,h2⟩) ?_ hs
  have hb : Base σS σl:=⟨hD.base.n.trans hP.base.n.symm,hD.base.hp.trans hP.base.hp.symm,hD.base.nx.trans hP.base.nx.symm,hD.base.gl.trans hP.base.gl.symm,hD.base.np.trans hP.base.np.symm,hD.base.df.trans hP.base.df.symm⟩
  refine ⟨hb.n,hb.gl,hb.np,hb.hp,hb.nx,hb.df,fun t=>?_⟩
  rcases hD.env t with ⟨i,hi,_,hid,hiv⟩ | ⟨hn,hv⟩
  ·rcases hP.env t with ⟨k,hk',hkd,hkv⟩ | ⟨hn,_⟩
   ·rw [hiv,hkv,hP.dist i hi k hk' (by rw [hid,hkd])]
   ·exact absurd hid (hn i hi)
  ·rcases hP.env t with ⟨k,hk',hkd,_⟩ | ⟨_,hv'⟩
   ·exact absurd hkd (hn k hk' (hall k hk'))
   ·rw [hv,hv']) S.length _ σ hcnt ⟨by simp,by
    intro i hi; simp [Array.getD] at hi,by simp [Array.getD],by
    intro i hi; simp [Array.getD] at hi,Base.refl σ,fun t=>.inr ⟨by
    intro i _ hi; simp [Array.getD] at hi,rfl⟩⟩
 rw [show ops.size = S.length + 1 + pl.length from by omega]
 rw [show ops.size = S.length + 1 + pl.length from by omega] at hgame
 exact hgame
theorem AW.funE {σ : St} {Q : AX → St → Prop} {id : Nat} (S : List Nat) (e : Nat) (pl : List (Nat × Nat)) {oe : Oper} {t : TypeId} {te : Tmp} {ef : Eff} (hm : P.follows .mixedOrders = true) (hsel : Region.noSelect ops = true) (hst : funSteps ops [] S = true) (hok : earlyOk ops e S = true)
  (hp : (planOk ops pl (listAll (Array.replicate ops.size false) (e :: S)) && pl.length + S.length + 1 == ops.size) = true) (hQ : PI Q)
  (hoe : ops[e]? = some oe) (hop : oe.op = .alloc t) (hg : oe.guard = none) (hte : oe.dst = some te) (hd : dstOk σ.n oe.dst = true) (hef : effOp P σ (.alloc t) = some ef) (hob : ef.ob)
  (h : awFunE P ops (awPlan P ops (fun σ'=>Q .normal σ') (fun x σ'=>Q (.panic x) σ') pl) S σ (allocAt σ oe.dst ef)) : AW P (.region id ops true) σ Q:=AW.ofG hm (AWG.funE S e pl hsel hst hok hp hQ hoe hop hg hte hd hef hob h)
end
end Aw
