/- Rules of a calculus of walks: no condition of its own. -/
import Derived.Test.YtldekaaiippfkaaCore49
namespace Aw
open Go
variable {P : Program} {ops : Array Oper} {y : Code} {id : Nat} {σ : St} {Q : AX → St → Prop}
theorem awTree.dnC {C : Prop} {Kp : AV → St → Prop} {σf : St} (hc : C) (h : σ.norm = σf := by first | ((simp only [go_sem, seval]; try (simp (disch := omega) only [zq]; try (simp only [go_sem, seval]; try (simp (disch := omega) only [zq]; try simp only [go_sem, seval])))); done) | ((simp only [go_sem, seval]; try (simp (disch := omega) only [zq]; try (simp only [go_sem, seval]; try (simp (disch := omega) only [zq]; try simp only [go_sem, seval])))); exact rfl)) : awTree P ops (fun σ => C ∧ σ.norm = σf) Kp .done σ := ⟨hc, h⟩
end Aw

namespace Aw
open Go
namespace Fq
def funStep (z : List Nat) (ops : Array Oper) (done : List Nat) (i : Nat) (rest : List Nat) : Bool :=
 match ops[i]? with
 | none => false
 | some o => match o.dst with
  | none => false
  | some d => (binds o).all (fun k => done.contains k || z.contains k) && !(done.contains i) && !(z.contains i) && done.all (fun k => dstAt ops k != some d) &&
    (o.looksAt ops).all fun t => (i :: rest).all (fun k => dstAt ops k != some t) && done.all fun k => dstAt ops k != some t || (binds o).contains k
def funOk (z : List Nat) (ops : Array Oper) : List Nat → List Nat → Bool
 | done, [] => (List.range ops.size).all fun j => done.contains j || z.contains j || done.all ((reach ops 6 j).contains ·)
 | done, i :: r => funStep z ops done i r && funOk z ops (done ++ [i]) r
section
variable {P : Program} {ops : Array Oper} {z : List Nat}
structure Done (z : List Nat) (ops : Array Oper) (S : List Nat) (X : Nat → AV) (σ0 : St) (l : Array Bool) (σ : St) : Prop where
 size : l.size = ops.size
 sub : ∀ i, l.getD i false = true → i ∈ S ∨ i ∈ z
 down : ∀ i, l.getD i false = true → ∀ k ∈ bindsAt ops i, l.getD k false = true
 base : Base σ0 σ
 env : ∀ t, (∃ i ∈ S, l.getD i false = true ∧ dstAt ops i = some t ∧ get σ.env t = some (X i)) ∨ ((∀ i ∈ S, l.getD i false = true → dstAt ops i ≠ some t) ∧ get σ.env t = get σ0.env t)
 pre : ∀ i ∈ z, l.getD i false = true
structure FunFacts (z : List Nat) (P : Program) (ops : Array Oper) (S : List Nat) (X : Nat → AV) (σ0 : St) : Prop where
 nodup : S.Nodup
 dist : ∀ i ∈ S, ∀ j ∈ S, dstAt ops i = dstAt ops j → i = j
 isop : ∀ i ∈ S, ∃ o d, ops[i]? = some o ∧ o.dst = some d
 early : ∀ (A : List Nat) (i : Nat) (B : List Nat), S = A ++ i :: B → ∀ k ∈ bindsAt ops i, k ∈ A ∨ k ∈ z
 tail : ∀ j, j < ops.size → j ∉ S → j ∉ z → ∀ i ∈ S, i ∈ reach ops 6 j
 step : ∀ i ∈ S, ∃ o σi, ops[i]? = some o ∧ Base σ0 σi ∧ FnAt P ops i o σi (X i) ∧ ∀ t ∈ o.looksAt ops, ∀ x, get σi.env t = some x →
  (∃ k ∈ S, dstAt ops k = some t ∧ k ∈ binds o ∧ X k = x) ∨ ((∀ k ∈ S, dstAt ops k ≠ some t) ∧ get σ0.env t = some x)

theorem fun_game {K : St → Prop} {Kp : AV → St → Prop} {S : List Nat} {X : Nat → AV} {σ0 : St} (F : FunFacts z P ops S X σ0) {f' : Nat}
  (hend : ∀ l σ, Done z ops S X σ0 l σ → unl l S = 0 → GAny P ops K Kp f' l σ) : ∀ (c : Nat) (l : Array Bool) (σ : St), unl l S = c → Done z ops S X σ0 l σ → GAny P ops K Kp (c + f') l σ
 | 0, l, σ, hc, hD => by rw [Nat.zero_add]; exact hend l σ hD hc
 | c + 1, l, σ, hc, hD => by
  rw [show c + 1 + f' = (c + f') + 1 from by omega]
  refine ⟨fun h0 => ?_, fun j hj => ?_⟩
  ·exfalso
   obtain ⟨A, i, B, hS, h1, h2⟩ := first_unl (l := l) (S := S) (by omega)
   obtain ⟨o, d, ho, _⟩ := F.isop i (by rw [hS]; simp)
   have hil : i < l.size := by
    rw [hD.size]
    exact (Array.getElem?_eq_some_iff.1 ho).1
   have : i ∈ Region.ready .any ops l := ready_iff.2 ⟨getD_ft hil h1, o, ho, fun k hk => (F.early A i B hS k (by unfold bindsAt; rw [ho]; exact hk)).elim (h2 k) (hD.pre k)⟩
   rw [h0] at this
   cases this
  ·obtain ⟨hu, o', ho', hk'⟩ := ready_iff.1 hj
   obtain ⟨hjl, hjf⟩ := getD_tf hu
   have hjS : j ∈ S := by
    by_cases hm : j ∈ S
    ·exact hm
    ·exfalso
     have hall : ∀ i ∈ S, l.getD i false = true := fun i hi => reach_listed hD.down 6 j (by unfold bindsAt; rw [ho']; exact hk') i (F.tail j (by rw [← hD.size]; exact hjl) hm (fun hz => by have := hD.pre j hz; rw [hjf] at this; cases this) i hi)
     obtain ⟨A, i, B, hS, h1, _⟩ := first_unl (l := l) (S := S) (by omega)
     rw [hall i (by rw [hS]; simp)] at h1
     cases h1
   obtain ⟨o, σi, ho, hbi, hF, hlook⟩ := F.step j hjS
   rw [ho] at ho'
   injection ho' with ho'
   subst ho'
   have hbase : Base σi σ := ⟨hD.base.n.trans hbi.n.symm, hD.base.hp.trans hbi.hp.symm, hD.base.nx.trans hbi.nx.symm, hD.base.gl.trans hbi.gl.symm, hD.base.np.trans hbi.np.symm, hD.base.df.trans hbi.df.symm⟩
   refine hF.step ho hbase ?_ ?_
   ·intro t ht x hx
    rcases hlook t ht x hx with ⟨k, hkS, hkd, hkb, rfl⟩ | ⟨hno, hx0⟩
    ·rcases hD.env t with ⟨i, hiS, _, hid, hiv⟩ | ⟨hn, _⟩
     ·rw [F.dist k hkS i hiS (by rw [hkd, hid])]
      exact hiv
     ·exact absurd hkd (hn k hkS (hk' k hkb))
    ·rcases hD.env t with ⟨i, hiS, _, hid, _⟩ | ⟨_, hv⟩
     ·exact absurd hid (hno i hiS)
     ·rw [hv]; exact hx0
   ·have hdj : dstAt ops j = o.dst := by unfold dstAt; rw [ho] <;> rfl
    obtain ⟨_, d, ho2, hod⟩ := F.isop j hjS
    rw [ho] at ho2
    injection ho2 with ho2
    subst ho2
    refine fun_game F hend c _ _ (by have := unl_set hjl F.nodup hjS hjf; omega) ⟨by simpa using hD.size, ?_, ?_, hD.base.trans (Base.put _ _ _), ?_, ?_⟩
    ·intro i hi
     rw [getD_setB hjl] at hi
     split at hi
     ·rename_i e; subst e; exact .inl hjS
     ·exact hD.sub i hi
    ·intro i hi k hk
     rw [getD_setB hjl] at hi ⊢
     split
     ·rfl
     ·split at hi
      ·rename_i e; subst e
       unfold bindsAt at hk
       rw [ho] at hk
       exact hk' k hk
      ·exact hD.down i hi k hk
    ·intro t
     by_cases hdt : d = t
     ·subst hdt
      left
      refine ⟨j, hjS, by rw [getD_setB hjl, if_pos rfl], by rw [hdj, hod], ?_⟩
      rw [hod]
      simp only [St.put, get_set, if_true]
     ·have hput : get (σ.put o.dst (X j)).env t = get σ.env t := by
       rw [hod]
       simp only [St.put, get_set, if_neg hdt]
      rw [hput]
      rcases hD.env t with ⟨i, hiS, hil, hid, hiv⟩ | ⟨hn, hv⟩
      ·left
       refine ⟨i, hiS, ?_, hid, hiv⟩
       rw [getD_setB hjl]
       split
       ·rfl
       ·exact hil
      ·right
       refine ⟨fun i hiS hi => ?_, hv⟩
       rw [getD_setB hjl] at hi
       split at hi
       ·rename_i e; subst e
        rw [hdj, hod]
        intro h; injection h with h; exact hdt h
       ·exact hn i hiS hi
    ·intro i hi
     rw [getD_setB hjl]
     split
     ·rfl
     ·exact hD.pre i hi
structure Pre (z : List Nat) (P : Program) (ops : Array Oper) (done : List Nat) (X : Nat → AV) (σ0 σ : St) : Prop where
 nodup : done.Nodup
 dist : ∀ i ∈ done, ∀ j ∈ done, dstAt ops i = dstAt ops j → i = j
 isop : ∀ i ∈ done, ∃ o d, ops[i]? = some o ∧ o.dst = some d
 early : ∀ (A : List Nat) (i : Nat) (B : List Nat), done = A ++ i :: B → ∀ k ∈ bindsAt ops i, k ∈ A ∨ k ∈ z
 base : Base σ0 σ
 env : ∀ t, (∃ i ∈ done, dstAt ops i = some t ∧ get σ.env t = some (X i)) ∨ ((∀ i ∈ done, dstAt ops i ≠ some t) ∧ get σ.env t = get σ0.env t)
 step : ∀ i ∈ done, ∃ o σi, ops[i]? = some o ∧ Base σ0 σi ∧ FnAt P ops i o σi (X i) ∧ ∀ t ∈ o.looksAt ops, ∀ x, get σi.env t = some x →
  (∃ k ∈ done, dstAt ops k = some t ∧ k ∈ binds o ∧ X k = x) ∨ ((∀ k ∈ done, dstAt ops k ≠ some t) ∧ get σ0.env t = some x)
 disj : ∀ i ∈ done, i ∉ z
theorem awFun_pre {K : St → Prop} {σ0 : St} : ∀ (rest done : List Nat) (X : Nat → AV) (σ : St), funOk z ops done rest = true → Clear ops done rest → Pre z P ops done X σ0 σ → awFun P ops K rest σ →
  ∃ X' σ', Pre z P ops (done ++ rest) X' σ0 σ' ∧ K σ'
 | [], done, X, σ, _, _, hP, h => ⟨X, σ, by rw [List.append_nil]; exact hP, h⟩
 | i :: r, done, X, σ, hok, hcl, hP, ⟨o, Y, ho, hF, h⟩ => by
  simp only [funOk, Bool.and_eq_true] at hok
  obtain ⟨hst, hok⟩ := hok
  unfold funStep at hst
  rw [ho] at hst
  simp only at hst
  split at hst
  ·cases hst
  rename_i d hd
  simp only [Bool.and_eq_true, List.all_eq_true, List.contains_iff_mem, Bool.not_eq_true', bne_iff_ne, ne_eq, Bool.or_eq_true] at hst
  obtain ⟨⟨⟨⟨hb, hni⟩, hnz⟩, hdd⟩, hlk⟩ := hst
  have hni : i ∉ done := by
   intro hm
   have : done.contains i = true := by simpa using hm
   rw [this] at hni
   cases hni
  have hdi : dstAt ops i = some d := by rw [dstAt_of ho, hd]
  have hne : ∀ k ∈ done, k ≠ i := fun k hk e => hni (e ▸ hk)
  let X' : Nat → AV := fun k => if k = i then Y else X k
  have hXd : ∀ k ∈ done, X' k = X k := fun k hk => if_neg (hne k hk)
  have hXi : X' i = Y := if_pos rfl
  rw [show done ++ i :: r = (done ++ [i]) ++ r by simp]
  refine awFun_pre r (done ++ [i]) X' (σ.put o.dst Y) hok ?_ ?_ h
  ·intro k hk o' ho' t ht q hq
   rcases List.mem_append.1 hk with hk | hk
   ·exact hcl k hk o' ho' t ht q (by simp [hq])
   ·obtain rfl : k = i := by simpa using hk
    rw [ho] at ho'
    injection ho' with ho'
    subst ho'
    exact (hlk t ht).1 q (by simp [hq])
  ·refine ⟨?_, ?_, ?_, ?_, hP.base.trans (Base.put _ _ _), ?_, ?_, ?_⟩
   ·rw [List.nodup_append]
    exact ⟨hP.nodup, by simp, by intro a ha b hb' e; simp only [List.mem_singleton] at hb'; subst hb' e; exact hni ha⟩
   ·intro a ha b hb' e
    rcases List.mem_append.1 ha with ha1 | ha1 <;> rcases List.mem_append.1 hb' with hb1 | hb1
    ·exact hP.dist a ha1 b hb1 e
    ·obtain rfl : b = i := by simpa using hb1
     exact absurd (e.trans hdi) (hdd a ha1)
    ·obtain rfl : a = i := by simpa using ha1
     exact absurd (e.symm.trans hdi) (hdd b hb1)
    ·obtain rfl : a = i := by simpa using ha1
     obtain rfl : b = a := by simpa using hb1
     rfl
   ·intro a ha
    rcases List.mem_append.1 ha with ha | ha
    ·exact hP.isop a ha
    ·obtain rfl : a = i := by simpa using ha
     exact ⟨o, d, ho, hd⟩
   ·intro A a B e k hk
    rcases List.append_eq_append_iff.1 e with ⟨C, hA, hC⟩ | ⟨C, hA, hC⟩
    ·-- A = done ++ C, [i] = C ++ a :: B
     cases C with
     | nil =>
      simp only [List.nil_append, List.cons.injEq] at hC
      obtain ⟨rfl, _⟩ := hC
      rw [bindsAt_of ho] at hk
      rw [hA]
      simpa using hb k hk
     | cons c C =>
      simp only [List.cons_append, List.cons.injEq] at hC
      have := hC.2
      simp at this
    ·cases C with
     | nil =>
      simp only [List.nil_append, List.cons.injEq] at hC
      obtain ⟨rfl, _⟩ := hC
      rw [bindsAt_of ho] at hk
      have := hb k hk
      rw [hA] at this
      simpa using this
     | cons c C =>
      simp only [List.cons_append, List.cons.injEq] at hC
      obtain ⟨rfl, hC⟩ := hC
      exact hP.early A a C hA k hk
   ·intro t
    rw [hd]
    simp only [St.put, get_set]
    by_cases e : d = t
    ·subst e
     left
     exact ⟨i, by simp, hdi, by rw [if_pos rfl, hXi]⟩
    ·rw [if_neg e]
     rcases hP.env t with ⟨k, hk, hkd, hkv⟩ | ⟨hn, hv⟩
     ·left
      exact ⟨k, by simp [hk], hkd, by rw [hkv, hXd k hk]⟩
     ·right
      refine ⟨fun k hk => ?_, hv⟩
      rcases List.mem_append.1 hk with hk | hk
      ·exact hn k hk
      ·obtain rfl : k = i := by simpa using hk
       rw [hdi]
       intro h; injection h with h; exact e h
   ·intro a ha
    rcases List.mem_append.1 ha with ha1 | ha1
    ·obtain ⟨o', σi, h1, h2, h3, h4⟩ := hP.step a ha1
     refine ⟨o', σi, h1, h2, by rw [hXd a ha1]; exact h3, fun t ht x hx => ?_⟩
     rcases h4 t ht x hx with ⟨k, hk, hkd, hkb, hkx⟩ | ⟨hn, hx0⟩
     ·left
      exact ⟨k, by simp [hk], hkd, hkb, by rw [hXd k hk]; exact hkx⟩
     ·right
      refine ⟨fun k hk => ?_, hx0⟩
      rcases List.mem_append.1 hk with hk | hk
      ·exact hn k hk
      ·obtain rfl : k = i := by simpa using hk
       exact hcl a ha1 o' h1 t ht k (by simp)
    ·obtain rfl : a = i := by simpa using ha1
     refine ⟨o, σ, ho, hP.base, by rw [hXi]; exact hF, fun t ht x hx => ?_⟩
     have hown : dstAt ops a ≠ some t := (hlk t ht).1 a (by simp)
     rcases hP.env t with ⟨k, hk, hkd, hkv⟩ | ⟨hn, hv⟩
     ·left
      refine ⟨k, by simp [hk], hkd, ?_, ?_⟩
      ·rcases (hlk t ht).2 k hk with h | h
       ·exact absurd hkd h
       ·exact h
      ·rw [hXd k hk]
       rw [hkv] at hx
       injection hx
     ·right
      refine ⟨fun k hk => ?_, by rw [← hv]; exact hx⟩
      rcases List.mem_append.1 hk with hk | hk
      ·exact hn k hk
      ·obtain rfl : k = a := by simpa using hk
       exact hown
   ·intro a ha hz
    rcases List.mem_append.1 ha with ha | ha
    ·exact hP.disj a ha hz
    ·obtain rfl : a = i := by simpa using ha
     have : z.contains a = true := by simpa using hz
     rw [this] at hnz
     cases hnz
theorem funOk_tail : ∀ (rest done : List Nat), funOk z ops done rest = true → ∀ j, j < ops.size → j ∉ done ++ rest → j ∉ z → ∀ i ∈ done ++ rest, i ∈ reach ops 6 j
 | [], done, h, j, hj, hn, hz, i, hi => by
  rw [List.append_nil] at hn hi
  simp only [funOk, List.all_eq_true, List.mem_range, Bool.or_eq_true, List.contains_iff_mem] at h
  rcases h j hj with (h | h) | h
  ·exact absurd h hn
  ·exact absurd h hz
  ·exact h i hi
 | q :: r, done, h, j, hj, hn, hz, i, hi => by
  simp only [funOk, Bool.and_eq_true] at h
  rw [show done ++ q :: r = (done ++ [q]) ++ r by simp] at hn hi
  exact funOk_tail r (done ++ [q]) h.2 j hj hn hz i hi
def preOk (ops : Array Oper) : List Nat → Array Bool → Bool
 | [], _ => true
 | i :: r, l => (match ops[i]? with
   | none => false
   | some oi => (Region.ready .any ops l).contains i && freeOk ops l i oi true && match oi.dst with
     | some d => !(oi.looksAt ops).contains d
     | none => false) && preOk ops r (l.setIfInBounds i true)
theorem pre_sound {K : St → Prop} {K2 : St → Prop} {Kp : AV → St → Prop} {n : Nat} (hsel : Region.noSelect ops = true) (hKp : insens Kp) (hK : ∀ σ σ', Eqv σ σ' → K2 σ → K2 σ') : ∀ (z : List Nat) (l : Array Bool) (σ : St), preOk ops z l = true → awPlan P ops K Kp (z.map fun i => (i, 0)) σ → (∀ σ', K σ' → GAny P ops K2 Kp n (listAll l z) σ') → GAny P ops K2 Kp (z.length + n) l σ
 | [], l, σ, _, h, hk => by rw [List.length_nil, Nat.zero_add]; exact hk σ h
 | i :: r, l, σ, hp, h, hk => by
  simp only [preOk, Bool.and_eq_true] at hp
  obtain ⟨hp1, hp2⟩ := hp
  obtain ⟨o, ho, h⟩ := h
  simp only at ho h
  simp only [ho, Bool.and_eq_true] at hp1
  rw [if_neg (by decide)] at h
  obtain ⟨⟨hr, hf⟩, hd⟩ := hp1
  obtain ⟨x, hT, hrest⟩ := h
  cases hdst : o.dst with
  | none => rw [hdst] at hd; cases hd
  | some d =>
   rw [hdst] at hd
   rw [List.length_cons, Nat.add_right_comm]
   exact GAny.take ho hdst (by simpa using hd) hsel hK hKp (r.length + n) l σ (freeOk_spec hf) (by simpa using hr) hT (pre_sound hsel hKp hK r _ _ hp2 hrest hk)
theorem AWG.fun {σ σf : St} {Q : AX → St → Prop} (C : Prop) (z S : List Nat) (T : PT) (f : Nat) (hsel : Region.noSelect ops = true) (hz : preOk ops z (Array.replicate ops.size false) = true) (hzd : (z.all fun i => decide (i < ops.size) && (bindsAt ops i).all (z.contains ·)) = true) (hok : funOk z ops [] S = true)
  (hp : (treeOk ops false f T (listAll (listAll (Array.replicate ops.size false) z) S) && f + S.length + z.length == ops.size) = true) (hQ : PI Q)
  (h : awPlan P ops (awFun P ops (awTree P ops (fun σ => C ∧ σ.norm = σf) (fun x σ' => Q (.panic x) σ') T) S) (fun x σ' => Q (.panic x) σ') (z.map fun i => (i, 0)) σ) (hk : C → Q .normal σf) : AWG P ops σ Q := by
 simp only [Bool.and_eq_true, beq_iff_eq] at hp
 have hzlt : ∀ i ∈ z, i < (Array.replicate ops.size false).size := fun i hi => by
  have := List.all_eq_true.1 hzd i hi
  simp only [Bool.and_eq_true, decide_eq_true_eq] at this
  simpa using this.1
 have hzb : ∀ i ∈ z, ∀ k ∈ bindsAt ops i, k ∈ z := fun i hi k hk => by
  have := List.all_eq_true.1 hzd i hi
  simp only [Bool.and_eq_true, List.all_eq_true] at this
  simpa using this.2 k hk
 have hl0 : ∀ j, (listAll (Array.replicate ops.size false) z).getD j false = z.contains j := fun j => by
  have h1 := listAll_get z (Array.replicate ops.size false) hzlt j
  have h2 : (Array.replicate ops.size false).getD j false = false := by simp [Array.getD]
  rw [h2, Bool.false_or] at h1
  exact h1
 have hl0s : (listAll (Array.replicate ops.size false) z).size = ops.size := by rw [listAll_size]; simp
 have hK2 : ∀ σ σ' : St, Eqv σ σ' → (∃ σ2, Eqv σ σ2 ∧ Q .normal σ2) → ∃ σ2, Eqv σ' σ2 ∧ Q .normal σ2 := fun σ σ' he ⟨σ2, h1, h2⟩ => ⟨σ2, he.symm.trans h1, h2⟩
 unfold AWG
 rw [show ops.size = z.length + (S.length + f) from by omega]
 rw [show ops.size = z.length + (S.length + f) from by omega] at hz
 refine pre_sound (K2 := fun σ => ∃ σ2, Eqv σ σ2 ∧ Q .normal σ2) hsel hQ hK2 z _ σ hz h fun σ0 h => ?_
 rw [show z.length + (S.length + f) = ops.size from by omega]
 obtain ⟨X, σS, hP, hK⟩ := awFun_pre (z := z) (σ0 := σ0) S [] (fun _ => .top) σ0 hok (by intro i hi; cases hi) ⟨List.nodup_nil, by simp, by simp, by intro A i B e; simp at e, Base.refl σ0, fun t => .inr ⟨by simp, rfl⟩, by simp, by simp⟩ h
 rw [List.nil_append] at hP
 have F : FunFacts z P ops S X σ0 := ⟨hP.nodup, hP.dist, hP.isop, hP.early, by have := funOk_tail S [] hok; simpa using this, hP.step⟩
 have hSlt : ∀ i ∈ S, i < (listAll (Array.replicate ops.size false) z).size := by
  intro i hi
  obtain ⟨o, d, ho, _⟩ := hP.isop i hi
  rw [hl0s]
  exact (Array.getElem?_eq_some_iff.1 ho).1
 have hcnt : unl (listAll (Array.replicate ops.size false) z) S = S.length := by
  unfold unl
  congr 1
  rw [List.filter_eq_self]
  intro i hi
  rw [hl0]
  have := hP.disj i hi
  simpa using this
 refine fun_game (z := z) (K := fun σ => ∃ σ2, Eqv σ σ2 ∧ Q .normal σ2) (Kp := fun x σ' => Q (.panic x) σ') (f' := f) F (fun l σl hD hz' => ?_) S.length _ σ0 hcnt ⟨hl0s, ?_, ?_, Base.refl σ0, fun t => .inr ⟨?_, rfl⟩, ?_⟩
 ·have hall := unl_zero hz'
  have hleq : listAll (listAll (Array.replicate ops.size false) z) S = l := by
   apply Array.ext
   ·rw [listAll_size, hl0s, hD.size]
   ·intro j hj1 hj2
    have h1 := listAll_get S _ hSlt j
    rw [hl0] at h1
    have e1 : (listAll (listAll (Array.replicate ops.size false) z) S).getD j false = (listAll (listAll (Array.replicate ops.size false) z) S)[j] := by simp [Array.getD, hj1]
    have e2 : l.getD j false = l[j] := by simp [Array.getD, hj2]
    rw [← e1, ← e2, h1]
    by_cases hm : j ∈ S
    ·rw [hall j hm]; simp [hm]
    ·by_cases hm2 : j ∈ z
     ·rw [hD.pre j hm2]; simp [hm2]
     ·have h3 : (z.contains j || S.contains j) = false := by simp [hm, hm2]
      rw [h3]
      cases hv : l.getD j false with
      | false => rfl
      | true => exact absurd (hD.sub j hv) (by simp [hm, hm2])
  have hs := (awTree_sound hsel hQ T false f _ σS hp.1 hK).1 rfl
  rw [hleq] at hs
  have hs2 := GAny.mono (K' := fun σ => ∃ σ2, Eqv σ σ2 ∧ Q .normal σ2) (fun σ' ⟨σ2, he, hc, hq⟩ => ⟨σ2.norm, he.trans σ2.norm_eqv, by rw [hq]; exact hk hc⟩) hs
  refine GAny.eqv hK2 ?_ hs2
  have hb : Base σS σl := ⟨hD.base.n.trans hP.base.n.symm, hD.base.hp.trans hP.base.hp.symm, hD.base.nx.trans hP.base.nx.symm, hD.base.gl.trans hP.base.gl.symm, hD.base.np.trans hP.base.np.symm, hD.base.df.trans hP.base.df.symm⟩
  refine ⟨hb.n, hb.gl, hb.np, hb.hp, hb.nx, hb.df, fun t => ?_⟩
  rcases hD.env t with ⟨i, hi, _, hid, hiv⟩ | ⟨hn, hv⟩
  ·rcases hP.env t with ⟨k, hk', hkd, hkv⟩ | ⟨hn, _⟩
   ·rw [hiv, hkv, hP.dist i hi k hk' (by rw [hid, hkd])]
   ·exact absurd hid (hn i hi)
  ·rcases hP.env t with ⟨k, hk', hkd, _⟩ | ⟨_, hv'⟩
   ·exact absurd hkd (hn k hk' (hall k hk'))
   ·rw [hv, hv']
 ·intro i hi
  rw [hl0] at hi
  exact .inr (by simpa using hi)
 ·intro i hi k hk
  rw [hl0] at hi ⊢
  have := hzb i (by simpa using hi) k hk
  simpa using this
 ·intro i hi hl
  rw [hl0] at hl
  exact absurd (by simpa using hl) (hP.disj i hi)
 ·intro i hi
  rw [hl0]
  simpa using hi
end
end Fq
variable {P : Program} {ops : Array Oper} {y : Code} {id : Nat} {σ : St} {Q : AX → St → Prop}
/-- z: bare operations taken first; S: the functional ones; T: the orders of the others; C: what is known behind -/
theorem AW.zL {σf : St} (C : Prop) (z S : List Nat) (T : PT) (f : Nat) (h : awPlan P ops (awFun P ops (awTree P ops (fun σ => C ∧ σ.norm = σf) (fun x σ' => Q (.panic x) σ') T) S) (fun x σ' => Q (.panic x) σ') (z.map fun i => (i, 0)) σ) (hk : C → Q .normal σf) (hm : P.follows .mixedOrders = true := by kernel_rfl) (hsel : Region.noSelect ops = true := by kernel_rfl)
  (hz : Fq.preOk ops z (Array.replicate ops.size false) = true := by kernel_rfl) (hzd : (z.all fun i => decide (i < ops.size) && (bindsAt ops i).all (z.contains ·)) = true := by kernel_rfl) (hok : Fq.funOk z ops [] S = true := by kernel_rfl)
  (hp : (treeOk ops false f T (listAll (listAll (Array.replicate ops.size false) z) S) && f + S.length + z.length == ops.size) = true := by kernel_rfl) (hQ : PI Q := by repeat (first | exact Aw.PI.fin | exact Aw.PI.finH | refine Aw.PI.unblock ?_ | refine Aw.PI.andThen ?_)) : AW P (.region id ops true) σ Q :=
 AW.ofG hm (Fq.AWG.fun C z S T f hsel hz hzd hok hp hQ h hk)
end Aw

namespace Aw
open Go
namespace Fr
def funStep (z : List Nat) (ops : Array Oper) (done : List Nat) (i : Nat) (rest : List Nat) : Bool :=
 match ops[i]? with
 | none => false
 | some o => match o.dst with
  | none => false
  | some d => (binds o).all (fun k => done.contains k || z.contains k) && !(done.contains i) && !(z.contains i) && done.all (fun k => dstAt ops k != some d) &&
    (o.looksAt ops).all fun t => (i :: rest).all (fun k => dstAt ops k != some t) && done.all fun k => dstAt ops k != some t || (binds o).contains k
def funSt (z : List Nat) (ops : Array Oper) : List Nat → List Nat → Bool
 | _, [] => true
 | done, i :: r => funStep z ops done i r && funSt z ops (done ++ [i]) r
def tailOk (z y : List Nat) (ops : Array Oper) (S : List Nat) : Bool := (List.range ops.size).all fun j => S.contains j || y.contains j || z.contains j || S.all ((reach ops 6 j).contains ·)
def clearOk (ops : Array Oper) (S : List Nat) (q : Nat) : Bool := S.all fun i => match ops[i]? with
 | some o => (o.looksAt ops).all fun t => dstAt ops q != some t
 | none => true
section
variable {P : Program} {ops : Array Oper} {z y : List Nat}
structure Done (z : List Nat) (ops : Array Oper) (S : List Nat) (X : Nat → AV) (σ0 : St) (l : Array Bool) (σ : St) : Prop where
 size : l.size = ops.size
 sub : ∀ i, l.getD i false = true → i ∈ S ∨ i ∈ z
 down : ∀ i, l.getD i false = true → ∀ k ∈ bindsAt ops i, l.getD k false = true
 base : Base σ0 σ
 env : ∀ t, (∃ i ∈ S, l.getD i false = true ∧ dstAt ops i = some t ∧ get σ.env t = some (X i)) ∨ ((∀ i ∈ S, l.getD i false = true → dstAt ops i ≠ some t) ∧ get σ.env t = get σ0.env t)
 pre : ∀ i ∈ z, l.getD i false = true
structure FunFacts (z Sm : List Nat) (P : Program) (ops : Array Oper) (S : List Nat) (X : Nat → AV) (σ0 : St) : Prop where
 nodup : S.Nodup
 dist : ∀ i ∈ S, ∀ j ∈ S, dstAt ops i = dstAt ops j → i = j
 isop : ∀ i ∈ S, ∃ o d, ops[i]? = some o ∧ o.dst = some d
 early : ∀ (A : List Nat) (i : Nat) (B : List Nat), S = A ++ i :: B → ∀ k ∈ bindsAt ops i, k ∈ A ∨ k ∈ z
 tail : ∀ j, j < ops.size → j ∉ S → j ∉ z → ∀ i ∈ Sm, i ∈ reach ops 6 j
 step : ∀ i ∈ S, ∃ o σi, ops[i]? = some o ∧ Base σ0 σi ∧ FnAt P ops i o σi (X i) ∧ ∀ t ∈ o.looksAt ops, ∀ x, get σi.env t = some x →
  (∃ k ∈ S, dstAt ops k = some t ∧ k ∈ binds o ∧ X k = x) ∨ ((∀ k ∈ S, dstAt ops k ≠ some t) ∧ get σ0.env t = some x)

theorem fun_game {Sm : List Nat} {K : St → Prop} {Kp : AV → St → Prop} {S : List Nat} {X : Nat → AV} {σ0 : St} (F : FunFacts z Sm P ops S X σ0) (hsub : ∀ i ∈ Sm, i ∈ S) {f' : Nat}
  (hend : ∀ l σ, Done z ops S X σ0 l σ → unl l Sm = 0 → GAny P ops K Kp (unl l S + f') l σ) : ∀ (c : Nat) (l : Array Bool) (σ : St), unl l S = c → Done z ops S X σ0 l σ → GAny P ops K Kp (c + f') l σ
 | 0, l, σ, hc, hD => by
  rw [← hc]
  refine hend l σ hD ?_
  by_cases h : unl l Sm = 0
  ·exact h
  ·exfalso
   obtain ⟨A, i, B, hS, h1, _⟩ := first_unl (l := l) (S := Sm) h
   rw [unl_zero hc i (hsub i (by rw [hS]; simp))] at h1
   cases h1
 | c + 1, l, σ, hc, hD => by
  by_cases hse : unl l Sm = 0
  ·rw [← hc]
   exact hend l σ hD hse
  rw [show c + 1 + f' = (c + f') + 1 from by omega]
  refine ⟨fun h0 => ?_, fun j hj => ?_⟩
  ·exfalso
   obtain ⟨A, i, B, hS, h1, h2⟩ := first_unl (l := l) (S := S) (by omega)
   obtain ⟨o, d, ho, _⟩ := F.isop i (by rw [hS]; simp)
   have hil : i < l.size := by
    rw [hD.size]
    exact (Array.getElem?_eq_some_iff.1 ho).1
   have : i ∈ Region.ready .any ops l := ready_iff.2 ⟨getD_ft hil h1, o, ho, fun k hk => (F.early A i B hS k (by unfold bindsAt; rw [ho]; exact hk)).elim (h2 k) (hD.pre k)⟩
   rw [h0] at this
   cases this
  ·obtain ⟨hu, o', ho', hk'⟩ := ready_iff.1 hj
   obtain ⟨hjl, hjf⟩ := getD_tf hu
   have hjS : j ∈ S := by
    by_cases hm : j ∈ S
    ·exact hm
    ·exfalso
     have hall : ∀ i ∈ Sm, l.getD i false = true := fun i hi => reach_listed hD.down 6 j (by unfold bindsAt; rw [ho']; exact hk') i (F.tail j (by rw [← hD.size]; exact hjl) hm (fun hz => by have := hD.pre j hz; rw [hjf] at this; cases this) i hi)
     obtain ⟨A, i, B, hS, h1, _⟩ := first_unl (l := l) (S := Sm) hse
     rw [hall i (by rw [hS]; simp)] at h1
     cases h1
   obtain ⟨o, σi, ho, hbi, hF, hlook⟩ := F.step j hjS
   rw [ho] at ho'
   injection ho' with ho'
   subst ho'
   have hbase : Base σi σ := ⟨hD.base.n.trans hbi.n.symm, hD.base.hp.trans hbi.hp.symm, hD.base.nx.trans hbi.nx.symm, hD.base.gl.trans hbi.gl.symm, hD.base.np.trans hbi.np.symm, hD.base.df.trans hbi.df.symm⟩
   refine hF.step ho hbase ?_ ?_
   ·intro t ht x hx
    rcases hlook t ht x hx with ⟨k, hkS, hkd, hkb, rfl⟩ | ⟨hno, hx0⟩
    ·rcases hD.env t with ⟨i, hiS, _, hid, hiv⟩ | ⟨hn, _⟩
     ·rw [F.dist k hkS i hiS (by rw [hkd, hid])]
      exact hiv
     ·exact absurd hkd (hn k hkS (hk' k hkb))
    ·rcases hD.env t with ⟨i, hiS, _, hid, _⟩ | ⟨_, hv⟩
     ·exact absurd hid (hno i hiS)
     ·rw [hv]; exact hx0
   ·have hdj : dstAt ops j = o.dst := by unfold dstAt; rw [ho] <;> rfl
    obtain ⟨_, d, ho2, hod⟩ := F.isop j hjS
    rw [ho] at ho2
    injection ho2 with ho2
    subst ho2
    refine fun_game F hsub hend c _ _ (by have := unl_set hjl F.nodup hjS hjf; omega) ⟨by simpa using hD.size, ?_, ?_, hD.base.trans (Base.put _ _ _), ?_, ?_⟩
    ·intro i hi
     rw [getD_setB hjl] at hi
     split at hi
     ·rename_i e; subst e; exact .inl hjS
     ·exact hD.sub i hi
    ·intro i hi k hk
     rw [getD_setB hjl] at hi ⊢
     split
     ·rfl
     ·split at hi
      ·rename_i e; subst e
       unfold bindsAt at hk
       rw [ho] at hk
       exact hk' k hk
      ·exact hD.down i hi k hk
    ·intro t
     by_cases hdt : d = t
     ·subst hdt
      left
      refine ⟨j, hjS, by rw [getD_setB hjl, if_pos rfl], by rw [hdj, hod], ?_⟩
      rw [hod]
      simp only [St.put, get_set, if_true]
     ·have hput : get (σ.put o.dst (X j)).env t = get σ.env t := by
       rw [hod]
       simp only [St.put, get_set, if_neg hdt]
      rw [hput]
      rcases hD.env t with ⟨i, hiS, hil, hid, hiv⟩ | ⟨hn, hv⟩
      ·left
       refine ⟨i, hiS, ?_, hid, hiv⟩
       rw [getD_setB hjl]
       split
       ·rfl
       ·exact hil
      ·right
       refine ⟨fun i hiS hi => ?_, hv⟩
       rw [getD_setB hjl] at hi
       split at hi
       ·rename_i e; subst e
        rw [hdj, hod]
        intro h; injection h with h; exact hdt h
       ·exact hn i hiS hi
    ·intro i hi
     rw [getD_setB hjl]
     split
     ·rfl
     ·exact hD.pre i hi
structure Pre (z : List Nat) (P : Program) (ops : Array Oper) (done : List Nat) (X : Nat → AV) (σ0 σ : St) : Prop where
 nodup : done.Nodup
 dist : ∀ i ∈ done, ∀ j ∈ done, dstAt ops i = dstAt ops j → i = j
 isop : ∀ i ∈ done, ∃ o d, ops[i]? = some o ∧ o.dst = some d
 early : ∀ (A : List Nat) (i : Nat) (B : List Nat), done = A ++ i :: B → ∀ k ∈ bindsAt ops i, k ∈ A ∨ k ∈ z
 base : Base σ0 σ
 env : ∀ t, (∃ i ∈ done, dstAt ops i = some t ∧ get σ.env t = some (X i)) ∨ ((∀ i ∈ done, dstAt ops i ≠ some t) ∧ get σ.env t = get σ0.env t)
 step : ∀ i ∈ done, ∃ o σi, ops[i]? = some o ∧ Base σ0 σi ∧ FnAt P ops i o σi (X i) ∧ ∀ t ∈ o.looksAt ops, ∀ x, get σi.env t = some x →
  (∃ k ∈ done, dstAt ops k = some t ∧ k ∈ binds o ∧ X k = x) ∨ ((∀ k ∈ done, dstAt ops k ≠ some t) ∧ get σ0.env t = some x)
 disj : ∀ i ∈ done, i ∉ z
theorem awFun_pre {K : St → Prop} {σ0 : St} : ∀ (rest done : List Nat) (X : Nat → AV) (σ : St), funSt z ops done rest = true → Clear ops done rest → Pre z P ops done X σ0 σ → awFun P ops K rest σ →
  ∃ X' σ', Pre z P ops (done ++ rest) X' σ0 σ' ∧ K σ' ∧ ∀ t, (∀ k ∈ rest, dstAt ops k ≠ some t) → get σ'.env t = get σ.env t
 | [], done, X, σ, _, _, hP, h => ⟨X, σ, by rw [List.append_nil]; exact hP, h, fun _ _ => rfl⟩
 | i :: r, done, X, σ, hok, hcl, hP, ⟨o, Y, ho, hF, h⟩ => by
  simp only [funSt, Bool.and_eq_true] at hok
  obtain ⟨hst, hok⟩ := hok
  unfold funStep at hst
  rw [ho] at hst
  simp only at hst
  split at hst
  ·cases hst
  rename_i d hd
  simp only [Bool.and_eq_true, List.all_eq_true, List.contains_iff_mem, Bool.not_eq_true', bne_iff_ne, ne_eq, Bool.or_eq_true] at hst
  obtain ⟨⟨⟨⟨hb, hni⟩, hnz⟩, hdd⟩, hlk⟩ := hst
  have hni : i ∉ done := by
   intro hm
   have : done.contains i = true := by simpa using hm
   rw [this] at hni
   cases hni
  have hdi : dstAt ops i = some d := by rw [dstAt_of ho, hd]
  have hne : ∀ k ∈ done, k ≠ i := fun k hk e => hni (e ▸ hk)
  let X' : Nat → AV := fun k => if k = i then Y else X k
  have hXd : ∀ k ∈ done, X' k = X k := fun k hk => if_neg (hne k hk)
  have hXi : X' i = Y := if_pos rfl
  rw [show done ++ i :: r = (done ++ [i]) ++ r by simp]
  refine (fun ⟨X2, σ2, h1, h2, h3⟩ => ⟨X2, σ2, h1, h2, fun t ht => ?_⟩ : (∃ X2 σ2, Pre z P ops ((done ++ [i]) ++ r) X2 σ0 σ2 ∧ K σ2 ∧ ∀ t, (∀ k ∈ r, dstAt ops k ≠ some t) → get σ2.env t = get (σ.put o.dst Y).env t) → _) (awFun_pre r (done ++ [i]) X' (σ.put o.dst Y) hok ?_ ?_ h)
  ·rw [h3 t fun k hk => ht k (by simp [hk]), hd]
   simp only [St.put, get_set]
   rw [if_neg fun e => ht i (by simp) (by rw [hdi, e])]
  ·intro k hk o' ho' t ht q hq
   rcases List.mem_append.1 hk with hk | hk
   ·exact hcl k hk o' ho' t ht q (by simp [hq])
   ·obtain rfl : k = i := by simpa using hk
    rw [ho] at ho'
    injection ho' with ho'
    subst ho'
    exact (hlk t ht).1 q (by simp [hq])
  ·refine ⟨?_, ?_, ?_, ?_, hP.base.trans (Base.put _ _ _), ?_, ?_, ?_⟩
   ·rw [List.nodup_append]
    exact ⟨hP.nodup, by simp, by intro a ha b hb' e; simp only [List.mem_singleton] at hb'; subst hb' e; exact hni ha⟩
   ·intro a ha b hb' e
    rcases List.mem_append.1 ha with ha1 | ha1 <;> rcases List.mem_append.1 hb' with hb1 | hb1
    ·exact hP.dist a ha1 b hb1 e
    ·obtain rfl : b = i := by simpa using hb1
     exact absurd (e.trans hdi) (hdd a ha1)
    ·obtain rfl : a = i := by simpa using ha1
     exact absurd (e.symm.trans hdi) (hdd b hb1)
    ·obtain rfl : a = i := by simpa using ha1
     obtain rfl : b = a := by simpa using hb1
     rfl
   ·intro a ha
    rcases List.mem_append.1 ha with ha | ha
    ·exact hP.isop a ha
    ·obtain rfl : a = i := by simpa using ha
     exact ⟨o, d, ho, hd⟩
   ·intro A a B e k hk
    rcases List.append_eq_append_iff.1 e with ⟨C, hA, hC⟩ | ⟨C, hA, hC⟩
    ·-- A = done ++ C, [i] = C ++ a :: B
     cases C with
     | nil =>
      simp only [List.nil_append, List.cons.injEq] at hC
      obtain ⟨rfl, _⟩ := hC
      rw [bindsAt_of ho] at hk
      rw [hA]
      simpa using hb k hk
     | cons c C =>
      simp only [List.cons_append, List.cons.injEq] at hC
      have := hC.2
      simp at this
    ·cases C with
     | nil =>
      simp only [List.nil_append, List.cons.injEq] at hC
      obtain ⟨rfl, _⟩ := hC
      rw [bindsAt_of ho] at hk
      have := hb k hk
      rw [hA] at this
      simpa using this
     | cons c C =>
      simp only [List.cons_append, List.cons.injEq] at hC
      obtain ⟨rfl, hC⟩ := hC
      exact hP.early A a C hA k hk
   ·intro t
    rw [hd]
    simp only [St.put, get_set]
    by_cases e : d = t
    ·subst e
     left
     exact ⟨i, by simp, hdi, by rw [if_pos rfl, hXi]⟩
    ·rw [if_neg e]
     rcases hP.env t with ⟨k, hk, hkd, hkv⟩ | ⟨hn, hv⟩
     ·left
      exact ⟨k, by simp [hk], hkd, by rw [hkv, hXd k hk]⟩
     ·right
      refine ⟨fun k hk => ?_, hv⟩
      rcases List.mem_append.1 hk with hk | hk
      ·exact hn k hk
      ·obtain rfl : k = i := by simpa using hk
       rw [hdi]
       intro h; injection h with h; exact e h
   ·intro a ha
    rcases List.mem_append.1 ha with ha1 | ha1
    ·obtain ⟨o', σi, h1, h2, h3, h4⟩ := hP.step a ha1
     refine ⟨o', σi, h1, h2, by rw [hXd a ha1]; exact h3, fun t ht x hx => ?_⟩
     rcases h4 t ht x hx with ⟨k, hk, hkd, hkb, hkx⟩ | ⟨hn, hx0⟩
     ·left
      exact ⟨k, by simp [hk], hkd, hkb, by rw [hXd k hk]; exact hkx⟩
     ·right
      refine ⟨fun k hk => ?_, hx0⟩
      rcases List.mem_append.1 hk with hk | hk
      ·exact hn k hk
      ·obtain rfl : k = i := by simpa using hk
       exact hcl a ha1 o' h1 t ht k (by simp)
    ·obtain rfl : a = i := by simpa using ha1
     refine ⟨o, σ, ho, hP.base, by rw [hXi]; exact hF, fun t ht x hx => ?_⟩
     have hown : dstAt ops a ≠ some t := (hlk t ht).1 a (by simp)
     rcases hP.env t with ⟨k, hk, hkd, hkv⟩ | ⟨hn, hv⟩
     ·left
      refine ⟨k, by simp [hk], hkd, ?_, ?_⟩
      ·rcases (hlk t ht).2 k hk with h | h
       ·exact absurd hkd h
       ·exact h
      ·rw [hXd k hk]
       rw [hkv] at hx
       injection hx
     ·right
      refine ⟨fun k hk => ?_, by rw [← hv]; exact hx⟩
      rcases List.mem_append.1 hk with hk | hk
      ·exact hn k hk
      ·obtain rfl : k = a := by simpa using hk
       exact hown
   ·intro a ha hz
    rcases List.mem_append.1 ha with ha | ha
    ·exact hP.disj a ha hz
    ·obtain rfl : a = i := by simpa using ha
     have : z.contains a = true := by simpa using hz
     rw [this] at hnz
     cases hnz

theorem unl_app (l : Array Bool) (A B : List Nat) : unl l (A ++ B) = unl l A + unl l B := by simp [unl]
theorem AWG.fun {σ σf : St} {Q : AX → St → Prop} (C : Prop) (z S : List Nat) (q : Nat) (T1 T2 : PT) (f : Nat) (hsel : Region.noSelect ops = true) (hz : Fq.preOk ops z (Array.replicate ops.size false) = true) (hzd : (z.all fun i => decide (i < ops.size) && (bindsAt ops i).all (z.contains ·)) = true) (hok : (funSt z ops [] S && funSt z ops S [q] && clearOk ops S q && tailOk z [q] ops S) = true)
  (hp : (treeOk ops false f T1 (listAll (listAll (Array.replicate ops.size false) z) (S ++ [q])) && treeOk ops false (f + 1) T2 (listAll (listAll (Array.replicate ops.size false) z) S) && f + (S.length + 1) + z.length == ops.size) = true) (hQ : PI Q)
  (h : awPlan P ops (awFun P ops (fun σS => awTree P ops (fun σ => C ∧ σ.norm = σf) (fun x σ' => Q (.panic x) σ') T2 σS ∧ awFun P ops (awTree P ops (fun σ => C ∧ σ.norm = σf) (fun x σ' => Q (.panic x) σ') T1) [q] σS) S) (fun x σ' => Q (.panic x) σ') (z.map fun i => (i, 0)) σ) (hk : C → Q .normal σf) : AWG P ops σ Q := by
 simp only [Bool.and_eq_true, beq_iff_eq] at hp
 have hzlt : ∀ i ∈ z, i < (Array.replicate ops.size false).size := fun i hi => by
  have := List.all_eq_true.1 hzd i hi
  simp only [Bool.and_eq_true, decide_eq_true_eq] at this
  simpa using this.1
 have hzb : ∀ i ∈ z, ∀ k ∈ bindsAt ops i, k ∈ z := fun i hi k hk => by
  have := List.all_eq_true.1 hzd i hi
  simp only [Bool.and_eq_true, List.all_eq_true] at this
  simpa using this.2 k hk
 have hl0 : ∀ j, (listAll (Array.replicate ops.size false) z).getD j false = z.contains j := fun j => by
  have h1 := listAll_get z (Array.replicate ops.size false) hzlt j
  have h2 : (Array.replicate ops.size false).getD j false = false := by simp [Array.getD]
  rw [h2, Bool.false_or] at h1
  exact h1
 have hl0s : (listAll (Array.replicate ops.size false) z).size = ops.size := by rw [listAll_size]; simp
 have hK2 : ∀ σ σ' : St, Eqv σ σ' → (∃ σ2, Eqv σ σ2 ∧ Q .normal σ2) → ∃ σ2, Eqv σ' σ2 ∧ Q .normal σ2 := fun σ σ' he ⟨σ2, h1, h2⟩ => ⟨σ2, he.symm.trans h1, h2⟩
 unfold AWG
 rw [show ops.size = z.length + ((S ++ [q]).length + f) from by simp only [List.length_append, List.length_cons, List.length_nil]; omega]
 rw [show ops.size = z.length + ((S ++ [q]).length + f) from by simp only [List.length_append, List.length_cons, List.length_nil]; omega] at hz
 refine Fq.pre_sound (K2 := fun σ => ∃ σ2, Eqv σ σ2 ∧ Q .normal σ2) hsel hQ hK2 z _ σ hz h fun σ0 h => ?_
 rw [show z.length + ((S ++ [q]).length + f) = ops.size from by simp only [List.length_append, List.length_cons, List.length_nil]; omega]
 simp only [Bool.and_eq_true] at hok
 obtain ⟨⟨⟨hokS, hokq⟩, hcl⟩, htl⟩ := hok
 obtain ⟨X0, σS, hP, ⟨hT2, hq⟩, _⟩ := awFun_pre (z := z) (σ0 := σ0) S [] (fun _ => .top) σ0 hokS (by intro i hi; cases hi) ⟨List.nodup_nil, by simp, by simp, by intro A i B e; simp at e, Base.refl σ0, fun t => .inr ⟨by simp, rfl⟩, by simp, by simp⟩ h
 rw [List.nil_append] at hP
 obtain ⟨X, σq, hPq, hT1, hkeep⟩ := awFun_pre (z := z) (σ0 := σ0) [q] S X0 σS hokq (by
  intro i hi o ho t ht k hk
  obtain rfl : k = q := by simpa using hk
  have := List.all_eq_true.1 hcl i hi
  rw [ho] at this
  simpa using List.all_eq_true.1 this t ht) hP hq
 have F : FunFacts z S P ops (S ++ [q]) X σ0 := ⟨hPq.nodup, hPq.dist, hPq.isop, hPq.early, by
  intro j hj hn hnz i hi
  have := List.all_eq_true.1 htl j (List.mem_range.2 hj)
  simp only [List.mem_append, List.mem_singleton, not_or] at hn
  simp only [Bool.or_eq_true, List.contains_iff_mem, List.mem_singleton, List.all_eq_true] at this
  rcases this with ((h | h) | h) | h
  ·exact absurd h hn.1
  ·exact absurd h hn.2
  ·exact absurd h hnz
  ·exact h i hi, hPq.step⟩
 have hlt : ∀ i ∈ S ++ [q], i < (listAll (Array.replicate ops.size false) z).size := by
  intro i hi
  obtain ⟨o, d, ho, _⟩ := hPq.isop i hi
  rw [hl0s]
  exact (Array.getElem?_eq_some_iff.1 ho).1
 have hnodup := hPq.nodup
 have hqS : q ∉ S := fun h => by
  rw [List.nodup_append] at hnodup
  exact hnodup.2.2 q h q (by simp) rfl
 have hcnt : unl (listAll (Array.replicate ops.size false) z) (S ++ [q]) = (S ++ [q]).length := by
  unfold unl
  congr 1
  rw [List.filter_eq_self]
  intro i hi
  rw [hl0]
  have := hPq.disj i hi
  simpa using this
 refine fun_game (z := z) (Sm := S) (K := fun σ => ∃ σ2, Eqv σ σ2 ∧ Q .normal σ2) (Kp := fun x σ' => Q (.panic x) σ') (f' := f) F (fun i hi => by simp [hi]) (fun l σl hD hz' => ?_) (S ++ [q]).length _ σ0 hcnt ⟨hl0s, ?_, ?_, Base.refl σ0, fun t => .inr ⟨?_, rfl⟩, ?_⟩
 ·have hall := unl_zero hz'
  have hjl : ∀ (B : List Nat), (∀ i ∈ B, i < (listAll (Array.replicate ops.size false) z).size) → (∀ j, l.getD j false = (z.contains j || B.contains j)) → listAll (listAll (Array.replicate ops.size false) z) B = l := by
   intro B hB hj
   apply Array.ext
   ·rw [listAll_size, hl0s, hD.size]
   ·intro j hj1 hj2
    have h1 := listAll_get B _ hB j
    rw [hl0, ← hj j] at h1
    have e1 : (listAll (listAll (Array.replicate ops.size false) z) B).getD j false = (listAll (listAll (Array.replicate ops.size false) z) B)[j] := by simp [Array.getD, hj1]
    have e2 : l.getD j false = l[j] := by simp [Array.getD, hj2]
    rw [← e1, ← e2, h1]
  have hval : ∀ j, j ≠ q → l.getD j false = (z.contains j || S.contains j) := by
   intro j hjq
   by_cases hm : j ∈ S
   ·rw [hall j hm]; simp [hm]
   ·by_cases hm2 : j ∈ z
    ·rw [hD.pre j hm2]; simp [hm2]
    ·have h3 : (z.contains j || S.contains j) = false := by simp [hm, hm2]
     rw [h3]
     cases hv : l.getD j false with
     | false => rfl
     | true => exact absurd (hD.sub j hv) (by simp [hm, hm2, hjq])
  have hqz : q ∉ z := hPq.disj q (by simp)
  rw [unl_app, hz', Nat.zero_add]
  have hfin : ∀ (σe : St) (T : PT) (g : Nat), treeOk ops false g T l = true → awTree P ops (fun σ => C ∧ σ.norm = σf) (fun x σ' => Q (.panic x) σ') T σe → Eqv σe σl → GAny P ops (fun σ => ∃ σ2, Eqv σ σ2 ∧ Q .normal σ2) (fun x σ' => Q (.panic x) σ') g l σl := by
   intro σe T g hT hK he
   have hs := (awTree_sound hsel hQ T false g l σe hT hK).1 rfl
   exact GAny.eqv hK2 he (GAny.mono (K' := fun σ => ∃ σ2, Eqv σ σ2 ∧ Q .normal σ2) (fun σ' ⟨σ2, he, hc, hq⟩ => ⟨σ2.norm, he.trans σ2.norm_eqv, by rw [hq]; exact hk hc⟩) hs)
  cases hlq : l.getD q false with
  | true =>
   have hu : unl l [q] = 0 := by unfold unl; rw [List.filter_cons_of_neg (by rw [hlq]; decide)] <;> rfl
   rw [hu, Nat.zero_add]
   have hleq := hjl (S ++ [q]) hlt (fun j => by
    by_cases e : j = q
    ·subst e; rw [hlq]; simp
    ·rw [hval j e]; simp [e])
   refine hfin σq T1 f (hleq ▸ hp.1.1) hT1 ?_
   have hb : Base σq σl := ⟨hD.base.n.trans hPq.base.n.symm, hD.base.hp.trans hPq.base.hp.symm, hD.base.nx.trans hPq.base.nx.symm, hD.base.gl.trans hPq.base.gl.symm, hD.base.np.trans hPq.base.np.symm, hD.base.df.trans hPq.base.df.symm⟩
   refine ⟨hb.n, hb.gl, hb.np, hb.hp, hb.nx, hb.df, fun t => ?_⟩
   rcases hD.env t with ⟨i, hi, _, hid, hiv⟩ | ⟨hn, hv⟩
   ·rcases hPq.env t with ⟨k, hk', hkd, hkv⟩ | ⟨hn, _⟩
    ·rw [hiv, hkv, hPq.dist i hi k hk' (by rw [hid, hkd])]
    ·exact absurd hid (hn i hi)
   ·rcases hPq.env t with ⟨k, hk', hkd, _⟩ | ⟨_, hv'⟩
    ·refine absurd hkd (hn k hk' ?_)
     rcases List.mem_append.1 hk' with h | h
     ·exact hall k h
     ·obtain rfl : k = q := by simpa using h
      exact hlq
    ·rw [hv, hv']
  | false =>
   have hu : unl l [q] = 1 := by unfold unl; rw [List.filter_cons_of_pos (by rw [hlq]; rfl)] <;> rfl
   rw [hu, Nat.add_comm]
   have hleq := hjl S (fun i hi => hlt i (by simp [hi])) (fun j => by
    by_cases e : j = q
    ·subst e; rw [hlq]; simp [hqS, hqz]
    ·exact hval j e)
   refine hfin σS T2 (f + 1) (hleq ▸ hp.1.2) hT2 ?_
   have hb : Base σS σl := ⟨hD.base.n.trans hP.base.n.symm, hD.base.hp.trans hP.base.hp.symm, hD.base.nx.trans hP.base.nx.symm, hD.base.gl.trans hP.base.gl.symm, hD.base.np.trans hP.base.np.symm, hD.base.df.trans hP.base.df.symm⟩
   refine ⟨hb.n, hb.gl, hb.np, hb.hp, hb.nx, hb.df, fun t => ?_⟩
   rcases hD.env t with ⟨i, hi, hil, hid, hiv⟩ | ⟨hn, hv⟩
   ·have hiq : i ≠ q := fun e => by rw [e, hlq] at hil; cases hil
    have hne : ∀ k ∈ [q], dstAt ops k ≠ some t := fun k hk' e => by
     obtain rfl : k = q := by simpa using hk'
     exact hiq (hPq.dist i hi k (by simp) (by rw [hid, e]))
    rw [hiv, ← hkeep t hne]
    rcases hPq.env t with ⟨k, hk', hkd, hkv⟩ | ⟨hn, _⟩
    ·rw [hkv, hPq.dist i hi k hk' (by rw [hid, hkd])]
    ·exact absurd hid (hn i hi)
   ·rcases hP.env t with ⟨k, hk', hkd, _⟩ | ⟨_, hv'⟩
    ·exact absurd hkd (hn k (by simp [hk']) (hall k hk'))
    ·rw [hv, hv']
 ·intro i hi
  rw [hl0] at hi
  exact .inr (by simpa using hi)
 ·intro i hi k hk
  rw [hl0] at hi ⊢
  have := hzb i (by simpa using hi) k hk
  simpa using this
 ·intro i hi hl
  rw [hl0] at hl
  exact absurd (by simpa using hl) (hPq.disj i hi)
 ·intro i hi
  rw [hl0]
  simpa using hi
end
end Fr
variable {P : Program} {ops : Array Oper} {y : Code} {id : Nat} {σ : St} {Q : AX → St → Prop}
/-- z: bare operations taken first; S: the functional ones; q: one that may come before or behind the first of the others; T1: the orders of the others behind q, T2: with q -/
theorem AW.qL {σf : St} (C : Prop) (z S : List Nat) (q : Nat) (T1 T2 : PT) (f : Nat) (h : awPlan P ops (awFun P ops (fun σS => awTree P ops (fun σ => C ∧ σ.norm = σf) (fun x σ' => Q (.panic x) σ') T2 σS ∧ awFun P ops (awTree P ops (fun σ => C ∧ σ.norm = σf) (fun x σ' => Q (.panic x) σ') T1) [q] σS) S) (fun x σ' => Q (.panic x) σ') (z.map fun i => (i, 0)) σ) (hk : C → Q .normal σf) (hm : P.follows .mixedOrders = true := by kernel_rfl) (hsel : Region.noSelect ops = true := by kernel_rfl)
  (hz : Fq.preOk ops z (Array.replicate ops.size false) = true := by kernel_rfl) (hzd : (z.all fun i => decide (i < ops.size) && (bindsAt ops i).all (z.contains ·)) = true := by kernel_rfl) (hok : (Fr.funSt z ops [] S && Fr.funSt z ops S [q] && Fr.clearOk ops S q && Fr.tailOk z [q] ops S) = true := by kernel_rfl)
  (hp : (treeOk ops false f T1 (listAll (listAll (Array.replicate ops.size false) z) (S ++ [q])) && treeOk ops false (f + 1) T2 (listAll (listAll (Array.replicate ops.size false) z) S) && f + (S.length + 1) + z.length == ops.size) = true := by kernel_rfl) (hQ : PI Q := by repeat (first | exact Aw.PI.fin | exact Aw.PI.finH | refine Aw.PI.unblock ?_ | refine Aw.PI.andThen ?_)) : AW P (.region id ops true) σ Q :=
 AW.ofG hm (Fr.AWG.fun C z S q T1 T2 f hsel hz hzd hok hp hQ h hk)
end Aw
