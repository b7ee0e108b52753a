/- Rules of a calculus of walks: no condition of its own. -/
import Derived.Test.YtlamdhcfojligaaGreatCore23
namespace Aw
open Go
section
variable {P : Program} {ops : Array Oper}
def funSteps (ops : Array Oper) : List Nat → List Nat → Bool
 | _,[]=>true
 | done,i :: r=>funStep ops done i r && funSteps ops (done ++ [i]) r
def awFunE (P : Program) (ops : Array Oper) (K : St → Prop) : List Nat → St → St → Prop
 | [],_,σ1=>K σ1
 | i :: r,σ0,σ1=>∃ o X,ops[i]? = some o ∧ FnAt P ops i o σ0 X ∧ FnAt P ops i o σ1 X ∧ awFunE P ops K r (σ0.put o.dst X) (σ1.put o.dst X)
structure DoneE (ops : Array Oper) (S : List Nat) (e : Nat) (X : Nat → AV) (σ0 : St) (be : Bool) (l : Array Bool) (σ : St) : Prop where
 size : l.size = ops.size
 sub : ∀ i,l.getD i false = true → i ∈ S ∨ (i = e ∧ be = true)
 isE : l.getD e false = be
 down : ∀ i,l.getD i false = true → ∀ k ∈ bindsAt ops i,l.getD k false = true
 base : Base σ0 σ
 env : ∀ t,(∃ i ∈ S,l.getD i false = true ∧ dstAt ops i = some t ∧ get σ.env t = some (X i)) ∨ ((∀ i ∈ S,l.getD i false = true → dstAt ops i ≠ some t) ∧ get σ.env t = get σ0.env t)
structure FactsE (P : Program) (ops : Array Oper) (S : List Nat) (e : Nat) (X : Nat → AV) (σ0 : St) : Prop where
 nodup : S.Nodup
 dist : ∀ i ∈ S,∀ j ∈ S,dstAt ops i = dstAt ops j → i = j
 isop : ∀ i ∈ S,∃ o d,ops[i]? = some o ∧ o.dst = some d
 early : ∀ (A : List Nat) (i : Nat) (B : List Nat),S = A ++ i :: B → ∀ k ∈ bindsAt ops i,k ∈ A
 tail : ∀ j,j < ops.size → j ∉ S → j ≠ e → (∀ i ∈ S,i ∈ reach ops 9 j) ∧ e ∈ reach ops 9 j
 step : ∀ i ∈ S,∃ o σi,ops[i]? = some o ∧ Base σ0 σi ∧ FnAt P ops i o σi (X i) ∧ ∀ t ∈ o.looksAt ops,∀ x,get σi.env t = some x →
  (∃ k ∈ S,dstAt ops k = some t ∧ k ∈ binds o ∧ X k = x) ∨ ((∀ k ∈ S,dstAt ops k ≠ some t) ∧ get σ0.env t = some x)
theorem game_late {K : St → Prop} {Kp : AV → St → Prop} {S : List Nat} {e : Nat} {X : Nat → AV} {σ0 : St} (F : FactsE P ops S e X σ0) {f' : Nat}
  (hend : ∀ l σ,DoneE ops S e X σ0 true l σ → unl l S = 0 → GAny P ops K Kp f' l σ) : ∀ (c : Nat) (l : Array Bool) (σ : St),unl l S = c → DoneE ops S e X σ0 true l σ → GAny P ops K Kp (c + f') l σ
 | 0,l,σ,hc,hD=>by rw [Nat.zero_add]; exact hend l σ hD hc
 | c + 1,l,σ,hc,hD=>by
  rw [show c + 1 + f' = (c + f') + 1 from by omega]
  refine ⟨fun h0=>?_,fun j hj=>?_⟩
  ·exfalso
   obtain ⟨A,i,B,hS,h1,h2⟩:=first_unl (l:=l) (S:=S) (by omega)
   obtain ⟨o,d,ho,_⟩:=F.isop i (by rw [hS]; simp)
   have hil : i < l.size:=by
    rw [hD.size]
    exact (Array.getElem?_eq_some_iff.1 ho).1
   have : i ∈ Region.ready .any ops l:=ready_iff.2 ⟨getD_ft hil h1,o,ho,fun k hk=>h2 k (F.early A i B hS k (by unfold bindsAt; rw [ho]; exact hk))⟩
   rw [h0] at this
   cases this
  ·obtain ⟨hu,o',ho',hk'⟩:=ready_iff.1 hj
   obtain ⟨hjl,hjf⟩:=getD_tf hu
   have hjS : j ∈ S:=by
    by_cases hm : j ∈ S
    ·exact hm
    ·exfalso
     have hje : j ≠ e:=by rintro rfl; rw [hD.isE] at hjf; cases hjf
     have hall : ∀ i ∈ S,l.getD i false = true:=fun i hi=>reach_listed hD.down 9 j (by unfold bindsAt; rw [ho']; exact hk') i ((F.tail j (by rw [← hD.size]; exact hjl) hm hje).1 i hi)
     obtain ⟨A,i,B,hS,h1,_⟩:=first_unl (l:=l) (S:=S) (by omega)
     rw [hall i (by rw [hS]; simp)] at h1
     cases h1
   obtain ⟨o,σi,ho,hbi,hF,hlook⟩:=F.step j hjS
   rw [ho] at ho'
   injection ho' with ho'
   subst ho'
   have hbase : Base σi σ:=⟨hD.base.n.trans hbi.n.symm,hD.base.hp.trans hbi.hp.symm,hD.base.nx.trans hbi.nx.symm,hD.base.gl.trans hbi.gl.symm,hD.base.np.trans hbi.np.symm,hD.base.df.trans hbi.df.symm⟩
   refine hF.step ho hbase ?_ ?_
   ·intro t ht x hx
    rcases hlook t ht x hx with ⟨k,hkS,hkd,hkb,rfl⟩ | ⟨hno,hx0⟩
    ·rcases hD.env t with ⟨i,hiS,_,hid,hiv⟩ | ⟨hn,_⟩
     ·rw [F.dist k hkS i hiS (by rw [hkd,hid])]
      exact hiv
     ·exact absurd hkd (hn k hkS (hk' k hkb))
    ·rcases hD.env t with ⟨i,hiS,_,hid,_⟩ | ⟨_,hv⟩
     ·exact absurd hid (hno i hiS)
     ·rw [hv]; exact hx0
   ·have hdj : dstAt ops j = o.dst:=by unfold dstAt; rw [ho] <;> rfl
    obtain ⟨_,d,ho2,hod⟩:=F.isop j hjS
    rw [ho] at ho2
    injection ho2 with ho2
    subst ho2
    refine game_late F hend c _ _ (by have:=unl_set hjl F.nodup hjS hjf; omega) ⟨by simpa using hD.size,?_,?_,?_,hD.base.trans (Base.put _ _ _),?_⟩
    ·intro i hi
     rw [getD_setB hjl] at hi
     split at hi
     ·rename_i e'; subst e'; exact .inl hjS
     ·exact hD.sub i hi
    ·rw [getD_setB hjl]
     split
     ·rfl
     ·exact hD.isE
    ·intro i hi k hk
     rw [getD_setB hjl] at hi ⊢
     split
     ·rfl
     ·split at hi
      ·rename_i e; subst e
       unfold bindsAt at hk
       rw [ho] at hk
       exact hk' k hk
      ·exact hD.down i hi k hk
    ·intro t
     by_cases hdt : d = t
     ·subst hdt
      left
      refine ⟨j,hjS,by rw [getD_setB hjl,if_pos rfl],by rw [hdj,hod],?_⟩
      rw [hod]
      simp only [St.put,get_set,if_true]
     ·have hput : get (σ.put o.dst (X j)).env t = get σ.env t:=by
       rw [hod]
       simp only [St.put,get_set,if_neg hdt]
      rw [hput]
      rcases hD.env t with ⟨i,hiS,hil,hid,hiv⟩ | ⟨hn,hv⟩
      ·left
       refine ⟨i,hiS,?_,hid,hiv⟩
       rw [getD_setB hjl]
       split
       ·rfl
       ·exact hil
      ·right
       refine ⟨fun i hiS hi=>?_,hv⟩
       rw [getD_setB hjl] at hi
       split at hi
       ·rename_i e; subst e
        rw [hdj,hod]
        intro h; injection h with h; exact hdt h
       ·exact hn i hiS hi
theorem Pre.snoc {done : List Nat} {X : Nat → AV} {σ0 σ : St} {i : Nat} {r : List Nat} {o : Oper} {Y : AV} (hst : funStep ops done i r = true) (hcl : Clear ops done (i :: r)) (hP : Pre P ops done X σ0 σ) (ho : ops[i]? = some o) (hF : FnAt P ops i o σ Y) :
  Clear ops (done ++ [i]) r ∧ Pre P ops (done ++ [i]) (fun k=>if k = i then Y else X k) σ0 (σ.put o.dst Y):=by
 unfold funStep at hst
 rw [ho] at hst
 simp only at hst
 split at hst
 ·cases hst
 rename_i d hd
 simp only [Bool.and_eq_true,List.all_eq_true,List.contains_iff_mem,Bool.not_eq_true',bne_iff_ne,ne_eq,Bool.or_eq_true] at hst
 obtain ⟨⟨⟨hb,hni⟩,hdd⟩,hlk⟩:=hst
 have hni : i ∉ done:=by
  intro hm
  have : done.contains i = true:=by simpa using hm
  rw [this] at hni
  cases hni
 have hdi : dstAt ops i = some d:=by rw [dstAt_of ho,hd]
 have hne : ∀ k ∈ done,k ≠ i:=fun k hk e=>hni (e ▸ hk)
 let X' : Nat → AV:=fun k=>if k = i then Y else X k
 have hXd : ∀ k ∈ done,X' k = X k:=fun k hk=>if_neg (hne k hk)
 have hXi : X' i = Y:=if_pos rfl
 refine ⟨?_,?_⟩
 ·intro k hk o' ho' t ht q hq
  rcases List.mem_append.1 hk with hk | hk
  ·exact hcl k hk o' ho' t ht q (by simp [hq])
  ·obtain rfl : k = i:=by simpa using hk
   rw [ho] at ho'
   injection ho' with ho'
   subst ho'
   exact (hlk t ht).1 q (by simp [hq])
 ·show Pre P ops (done ++ [i]) X' σ0 _
  refine ⟨?_,?_,?_,?_,hP.base.trans (Base.put _ _ _),?_,?_⟩
  ·rw [List.nodup_append]
   exact ⟨hP.nodup,by simp,by intro a ha b hb' e; simp only [List.mem_singleton] at hb'; subst hb' e; exact hni ha⟩
  ·intro a ha b hb' e
   rcases List.mem_append.1 ha with ha1 | ha1 <;> rcases List.mem_append.1 hb' with hb1 | hb1
   ·exact hP.dist a ha1 b hb1 e
   ·obtain rfl : b = i:=by simpa using hb1
    exact absurd (e.trans hdi) (hdd a ha1)
   ·obtain rfl : a = i:=by simpa using ha1
    exact absurd (e.symm.trans hdi) (hdd b hb1)
   ·obtain rfl : a = i:=by simpa using ha1
    obtain rfl : b = a:=by simpa using hb1
    rfl
  ·intro a ha
   rcases List.mem_append.1 ha with ha | ha
   ·exact hP.isop a ha
   ·obtain rfl : a = i:=by simpa using ha
    exact ⟨o,d,ho,hd⟩
  ·intro A a B e k hk
   rcases List.append_eq_append_iff.1 e with ⟨C,hA,hC⟩ | ⟨C,hA,hC⟩
   ·-- A = done ++ C,[i] = C ++ a :: B
    cases C with
    | nil =>
     simp only [List.nil_append,List.cons.injEq] at hC
     obtain ⟨rfl,_⟩:=hC
     rw [bindsAt_of ho] at hk
     rw [hA]
     simpa using hb k hk
    | cons c C =>
     simp only [List.cons_append,List.cons.injEq] at hC
     have:=hC.2
     simp at this
   ·cases C with
    | nil =>
     simp only [List.nil_append,List.cons.injEq] at hC
     obtain ⟨rfl,_⟩:=hC
     rw [bindsAt_of ho] at hk
     have:=hb k hk
     rw [hA] at this
     simpa using this
    | cons c C =>
     simp only [List.cons_append,List.cons.injEq] at hC
     obtain ⟨rfl,hC⟩:=hC
     exact hP.early A a C hA k hk
  ·intro t
   rw [hd]
   simp only [St.put,get_set]
   by_cases e : d = t
   ·subst e
    left
    exact ⟨i,by simp,hdi,by rw [if_pos rfl,hXi]⟩
   ·rw [if_neg e]
    rcases hP.env t with ⟨k,hk,hkd,hkv⟩ | ⟨hn,hv⟩
    ·left
     exact ⟨k,by simp [hk],hkd,by rw [hkv,hXd k hk]⟩
    ·right
     refine ⟨fun k hk=>?_,hv⟩
     rcases List.mem_append.1 hk with hk | hk
     ·exact hn k hk
     ·obtain rfl : k = i:=by simpa using hk
      rw [hdi]
      intro h; injection h with h; exact e h
  ·intro a ha
   rcases List.mem_append.1 ha with ha1 | ha1
   ·obtain ⟨o',σi,h1,h2,h3,h4⟩:=hP.step a ha1
    refine ⟨o',σi,h1,h2,by rw [hXd a ha1]; exact h3,fun t ht x hx=>?_⟩
    rcases h4 t ht x hx with ⟨k,hk,hkd,hkb,hkx⟩ | ⟨hn,hx0⟩
    ·left
     exact ⟨k,by simp [hk],hkd,hkb,by rw [hXd k hk]; exact hkx⟩
    ·right
     refine ⟨fun k hk=>?_,hx0⟩
     rcases List.mem_append.1 hk with hk | hk
     ·exact hn k hk
     ·obtain rfl : k = i:=by simpa using hk
      exact hcl a ha1 o' h1 t ht k (by simp)
   ·obtain rfl : a = i:=by simpa using ha1
    refine ⟨o,σ,ho,hP.base,by rw [hXi]; exact hF,fun t ht x hx=>?_⟩
    have hown : dstAt ops a ≠ some t:=(hlk t ht).1 a (by simp)
    rcases hP.env t with ⟨k,hk,hkd,hkv⟩ | ⟨hn,hv⟩
    ·left
     refine ⟨k,by simp [hk],hkd,?_,?_⟩
     ·rcases (hlk t ht).2 k hk with h | h
      ·exact absurd hkd h
      ·exact h
     ·rw [hXd k hk]
      rw [hkv] at hx
      injection hx
    ·right
     refine ⟨fun k hk=>?_,by rw [← hv]; exact hx⟩
     rcases List.mem_append.1 hk with hk | hk
     ·exact hn k hk
     ·obtain rfl : k = a:=by simpa using hk
      exact hown

theorem unl_other {l : Array Bool} {e : Nat} {S : List Nat} (he : e < l.size) (h : e ∉ S) : unl (l.setIfInBounds e true) S = unl l S:=by
 unfold unl
 congr 1
 apply List.filter_congr
 intro k hk
 rw [getD_setB he,if_neg (fun h'=>h (by rw [h']; exact hk))]
theorem awFunE_pre {K : St → Prop} {σ0 σ1 : St} : ∀ (rest done : List Nat) (X : Nat → AV) (σ σ' : St),funSteps ops done rest = true → Clear ops done rest → Pre P ops done X σ0 σ → Pre P ops done X σ1 σ' → awFunE P ops K rest σ σ' →
  ∃ X' τ τ',Pre P ops (done ++ rest) X' σ0 τ ∧ Pre P ops (done ++ rest) X' σ1 τ' ∧ K τ'
 | [],done,X,σ,σ',_,_,hP,hP',h=>⟨X,σ,σ',by rw [List.append_nil]; exact hP,by rw [List.append_nil]; exact hP',h⟩
 | i :: r,done,X,σ,σ',hok,hcl,hP,hP',⟨o,Y,ho,hF,hF',h⟩=>by
  simp only [funSteps,Bool.and_eq_true] at hok
  obtain ⟨hc,h1⟩:=Pre.snoc hok.1 hcl hP ho hF
  obtain ⟨_,h2⟩:=Pre.snoc hok.1 hcl hP' ho hF'
  rw [show done ++ i :: r = (done ++ [i]) ++ r by simp]
  exact awFunE_pre r (done ++ [i]) _ _ _ hok.2 hc h1 h2 h
end
end Aw
