/- A part of the proof of a law of the seat: no condition of its own. -/
import Derived.Test.YtokikpiffafajaaGreatPart9
namespace Aw
open Go
def refB (o : Pob) : Bool := decide (o.kind = 8) && (decide (1 ≤ o.num) && decide (o.num ≤ 8191))
def refStp (s : List Int) (o : Pob) : List Int := if refB o = true then setAdd s o.num else s
def sortI (s : List Int) : List Int := s.mergeSort fun x y => decide (x ≤ y)
/-- value.Refs -/
def refsO (o : Pob) : List Int := sortI (o.pre.foldl refStp [])
theorem refStp_wf (l : List Pob) : ∀ (s : List Int), (∀ x ∈ s, 1 ≤ x ∧ x ≤ 8191) → ∀ x ∈ l.foldl refStp s, 1 ≤ x ∧ x ≤ 8191 := by
  induction l with
  | nil => exact fun s h => h
  | cons o l ih =>
    intro s h
    refine ih _ fun x hx => ?_
    simp only [refStp] at hx
    split at hx
    · rename_i hr
      simp only [setAdd] at hx
      split at hx
      · exact h x hx
      · rcases List.mem_append.1 hx with hx | hx
        · exact h x hx
        · simp only [List.mem_singleton] at hx
          subst hx
          simp only [refB, Bool.and_eq_true, decide_eq_true_eq] at hr
          exact hr.2
    · exact h x hx
theorem refStp_len (l : List Pob) : ∀ (s : List Int), (l.foldl refStp s).length ≤ s.length + l.length := by
  induction l with
  | nil => intro s; simp
  | cons o l ih =>
    intro s
    have h1 := ih (refStp s o)
    have h2 : (refStp s o).length ≤ s.length + 1 := by
      simp only [refStp, setAdd]
      split
      · split <;> simp
      · omega
    simp only [List.foldl_cons, List.length_cons]
    omega
theorem refStp_mem (l : List Pob) : ∀ (s : List Int) (n : Int), n ∈ l.foldl refStp s ↔ n ∈ s ∨ ∃ p ∈ l, refB p = true ∧ p.num = n := by
  induction l with
  | nil => intro s n; simp
  | cons o l ih =>
    intro s n
    rw [List.foldl_cons, ih]
    have h1 : n ∈ refStp s o ↔ n ∈ s ∨ (refB o = true ∧ o.num = n) := by
      simp only [refStp, setAdd]
      split
      · rename_i h
        split
        · rename_i h2
          constructor
          · exact .inl
          · rintro (g | ⟨_, rfl⟩)
            · exact g
            · exact h2
        · simp only [List.mem_append, List.mem_singleton]
          constructor
          · rintro (g | rfl)
            · exact .inl g
            · exact .inr ⟨h, rfl⟩
          · rintro (g | ⟨_, rfl⟩)
            · exact .inl g
            · exact .inr rfl
      · rename_i h
        simp [h]
    rw [h1]
    simp only [List.mem_cons, exists_eq_or_imp]
    grind
theorem refStp_nodup (l : List Pob) : ∀ (s : List Int), s.Nodup → (l.foldl refStp s).Nodup := by
  induction l with
  | nil => exact fun s h => h
  | cons o l ih =>
    intro s h
    refine ih _ ?_
    simp only [refStp, setAdd]
    split
    · split
      · exact h
      · rename_i h2
        rw [List.nodup_append]
        refine ⟨h, by simp, ?_⟩
        intro a ha b hb e
        simp only [List.mem_singleton] at hb
        subst hb
        subst e
        exact h2 ha
    · exact h
theorem refs_mem {o : Pob} {n : Int} : n ∈ refsO o ↔ ∃ p ∈ o.pre, refB p = true ∧ p.num = n := by
  unfold refsO sortI
  rw [(List.mergeSort_perm _ _).mem_iff, refStp_mem]
  simp
theorem refs_rng {o : Pob} {n : Int} (h : n ∈ refsO o) : 1 ≤ n ∧ n ≤ 8191 := by
  obtain ⟨p, _, hp, rfl⟩ := refs_mem.1 h
  simp only [refB, Bool.and_eq_true, decide_eq_true_eq] at hp
  exact hp.2
theorem refs_len (o : Pob) : (refsO o).length ≤ o.bulk := by
  unfold refsO sortI
  rw [(List.mergeSort_perm _ _).length_eq]
  have h1 := refStp_len o.pre []
  have h2 := Pob.pre_le o
  simp only [List.length_nil] at h1
  omega
theorem sortI_pairwise (s : List Int) : (sortI s).Pairwise (· ≤ ·) := by
  have := List.pairwise_mergeSort (le := fun x y : Int => decide (x ≤ y)) (fun a b c h1 h2 => by simp only [decide_eq_true_eq] at h1 h2 ⊢; omega) (fun a b => by simp only [Bool.or_eq_true, decide_eq_true_eq]; omega) s
  exact this.imp fun h => by simpa using h
theorem refs_lt (o : Pob) : (refsO o).Pairwise (· < ·) := by
  have h1 := sortI_pairwise (o.pre.foldl refStp [])
  have h2 : (refsO o).Nodup := by
    unfold refsO sortI
    exact (List.mergeSort_perm _ _).nodup_iff.2 (refStp_nodup _ _ List.nodup_nil)
  have h3 := List.Pairwise.and h1 h2
  exact h3.imp fun ⟨a, b⟩ => by omega
/-- lists that increase and have the same members are the same -/
theorem lt_ext : ∀ {a b : List Int}, a.Pairwise (· < ·) → b.Pairwise (· < ·) → (∀ n, n ∈ a ↔ n ∈ b) → a = b
  | [], [], _, _, _ => rfl
  | [], y :: b, _, _, h => by have := (h y).2 (by simp); simp at this
  | x :: a, [], _, _, h => by have := (h x).1 (by simp); simp at this
  | x :: a, y :: b, ha, hb, h => by
    rw [List.pairwise_cons] at ha hb
    have hxy : x = y := by
      have h1 := (h x).1 (by simp)
      have h2 := (h y).2 (by simp)
      rcases List.mem_cons.1 h1 with g | g
      · exact g
      · rcases List.mem_cons.1 h2 with g' | g'
        · exact g'.symm
        · have := hb.1 x g; have := ha.1 y g'; omega
    subst hxy
    congr 1
    refine lt_ext ha.2 hb.2 fun n => ?_
    have h1 := h n
    simp only [List.mem_cons] at h1
    constructor
    · intro g
      rcases h1.1 (.inr g) with rfl | g'
      · have := ha.1 n g; omega
      · exact g'
    · intro g
      rcases h1.2 (.inr g) with rfl | g'
      · have := hb.1 n g; omega
      · exact g'
mutual
theorem Pob.swap_pre (fr to : List Int) : ∀ o : Pob, (o.swap fr to).pre = o.pre.map (Pob.swap fr to)
  | .mk k n g s ks l => by
    rw [Pob.swap_eq, Pob.pre_eq, Pob.pre_eq (.mk k n g s ks l)]
    simp only [Pob.kids_mk, List.map_cons, Pob.swap_eq, Pob.kind_mk, Pob.num_mk, Pob.gen_mk, Pob.str_mk, Pob.keys_mk]
    rw [swaps_pres fr to l]
theorem swaps_pres (fr to : List Int) : ∀ l : List Pob, pres (swaps fr to l) = (pres l).map (Pob.swap fr to)
  | [] => by simp [swaps_map, pres_nil]
  | o :: l => by
    have h1 := Pob.swap_pre fr to o
    have h2 := swaps_pres fr to l
    rw [swaps_map] at h2 ⊢
    rw [List.map_cons, pres, pres, h1, h2, List.map_append]
end
theorem nidxI_cases (l : List Int) (n : Int) : (∃ i : Nat, i < l.length ∧ nidxI l n = i ∧ l.getD i 0 = n) ∨ (nidxI l n = -1 ∧ n ∉ l) := by
  unfold nidxI
  by_cases h : nidx l n < l.length
  · left
    refine ⟨nidx l n, h, by simp [h], ?_⟩
    have h2 : decide (l[nidx l n] = n) = true := List.findIdx_getElem (p := fun x => decide (x = n)) (w := h)
    simpa [List.getD, h] using h2
  · right
    refine ⟨by simp [h], fun hm => h ?_⟩
    unfold nidx
    rw [List.findIdx_lt_length]
    exact ⟨n, hm, by simp⟩
theorem sw_map {fr : List Int} {g : Int → Int} {n x : Int} (h : n ∈ fr) : swN fr (fr.map g) 8 n = g n ∧ swG fr (fr.map g) 8 n x = 0 := by
  rcases nidxI_cases fr n with ⟨i, hi, e, e2⟩ | ⟨_, h2⟩
  · have hb : swB fr (fr.map g) 8 n = true := by simp [swB, e, hi]
    obtain ⟨h1, h2⟩ := sw_yes (g := x) hb
    refine ⟨?_, h2⟩
    rw [h1, e]
    simp only [Int.toNat_natCast]
    rw [List.getD, List.getElem?_map, List.getElem?_eq_getElem hi]
    simp only [Option.map_some, Option.getD_some]
    simp only [List.getD, List.getElem?_eq_getElem hi, Option.getD_some] at e2
    rw [e2]
  · exact absurd h h2
theorem sw_kind {fr to : List Int} {k n x : Int} (h : k ≠ 8) : swN fr to k n = n ∧ swG fr to k n x = x := sw_no (by simp [swB, h])
theorem swap_kind (fr to : List Int) (o : Pob) : (o.swap fr to).kind = o.kind := by rw [Pob.swap_eq]; rfl
theorem swap_num (fr to : List Int) (o : Pob) : (o.swap fr to).num = swN fr to o.kind o.num := by rw [Pob.swap_eq]; rfl
/-- the references of a renumbered object -/
theorem refs_swap {o : Pob} {g : Int → Int} (hv : ∀ p ∈ o.pre, p.kind = 8 → refB p = true) (hg : ∀ n ∈ refsO o, 1 ≤ g n ∧ g n ≤ 8191) (hm : ∀ a ∈ refsO o, ∀ b ∈ refsO o, a < b → g a < g b) :
    refsO (o.swap (refsO o) ((refsO o).map g)) = (refsO o).map g := by
  refine lt_ext (refs_lt _) ?_ fun n => ?_
  · rw [List.pairwise_map]
    have := refs_lt o
    exact (List.Pairwise.and_mem.1 this).imp fun ⟨h1, h2, h3⟩ => hm _ h1 _ h2 h3
  · rw [refs_mem, Pob.swap_pre]
    simp only [List.mem_map]
    constructor
    · rintro ⟨q, ⟨p, hp, rfl⟩, hr, rfl⟩
      have hk : p.kind = 8 := by
        simp only [refB, swap_kind, Bool.and_eq_true, decide_eq_true_eq] at hr
        exact hr.1
      have hin : p.num ∈ refsO o := refs_mem.2 ⟨p, hp, hv p hp hk, rfl⟩
      refine ⟨p.num, hin, ?_⟩
      rw [swap_num, hk, (sw_map (x := 0) hin).1]
    · rintro ⟨m, hm', rfl⟩
      obtain ⟨p, hp, hr, rfl⟩ := refs_mem.1 hm'
      have hk : p.kind = 8 := by
        simp only [refB, Bool.and_eq_true, decide_eq_true_eq] at hr
        exact hr.1
      have hn : (p.swap (refsO o) ((refsO o).map g)).num = g p.num := by rw [swap_num, hk, (sw_map (x := 0) hm').1]
      refine ⟨_, ⟨p, hp, rfl⟩, ?_, hn⟩
      simp only [refB, swap_kind, hk, hn, Bool.and_eq_true, decide_eq_true_eq]
      exact ⟨trivial, hg _ hm'⟩
mutual
theorem chk_pre : ∀ (o : Pob) (d : Int), chk o d = 0 → ∀ p ∈ o.pre, p.kind = 8 → refB p = true
  | .mk k n g s ks l, d, h, p, hp, h8 => by
    rw [Pob.pre_eq] at hp
    rcases List.mem_cons.1 hp with rfl | hp
    · have := (ownE_iff.1 (chk_iff.1 h).1).2.2.1
      simp only [Pob.kind_mk] at h8
      simp only [fitsB, Pob.kind_mk, h8, Pob.num_mk, Pob.gen_mk] at this
      simp only [refB, Pob.kind_mk, Pob.num_mk, h8]
      simp at this ⊢
      exact this.1
    · exact chks_pre l (d + 1) (fun x hx => (chk_iff.1 h).2 x hx) p hp h8
theorem chks_pre : ∀ (l : List Pob) (d : Int), (∀ x ∈ l, chk x d = 0) → ∀ p ∈ pres l, p.kind = 8 → refB p = true
  | [], _, _, p, hp, _ => by rw [pres_nil] at hp; cases hp
  | o :: l, d, h, p, hp, h8 => by
    rw [pres, List.mem_append] at hp
    rcases hp with hp | hp
    · exact chk_pre o d (h o (List.mem_cons_self)) p hp h8
    · exact chks_pre l d (fun x hx => h x (List.mem_cons_of_mem _ hx)) p hp h8
end
mutual
theorem Pob.swap_depth (fr to : List Int) : ∀ o : Pob, (o.swap fr to).depth = o.depth
  | .mk k n g s ks l => by
    rw [Pob.swap_eq, Pob.depth_eq, Pob.depth_eq (.mk k n g s ks l)]
    simp only [Pob.kids_mk]
    rw [swaps_depth fr to l]
theorem swaps_depth (fr to : List Int) : ∀ l : List Pob, depths (swaps fr to l) = depths l
  | [] => by simp [swaps_map]
  | o :: l => by
    have h1 := Pob.swap_depth fr to o
    have h2 := swaps_depth fr to l
    rw [swaps_map] at h2 ⊢
    rw [List.map_cons, depths, depths, h1, h2]
end
mutual
theorem Pob.swap_none : ∀ o : Pob, o.swap [] [] = o
  | .mk k n g s ks l => by
    have h := swaps_none l
    rw [Pob.swap_eq]
    simp only [Pob.kids_mk, Pob.kind_mk, Pob.num_mk, Pob.gen_mk, Pob.str_mk, Pob.keys_mk, h]
    have hb : swB [] [] k n = false := by simp [swB]
    rw [(sw_no (g := g) hb).1, (sw_no hb).2]
theorem swaps_none : ∀ l : List Pob, swaps [] [] l = l
  | [] => by simp [swaps_map]
  | o :: l => by
    have h1 := Pob.swap_none o
    have h2 := swaps_none l
    rw [swaps_map] at h2 ⊢
    rw [List.map_cons, h1, h2]
end
mutual
theorem Pob.swap_again (fr : List Int) (g f : Int → Int) (hf : ∀ n ∈ fr, f (g n) = n) : ∀ o : Pob, (∀ p ∈ o.pre, p.kind = 8 → p.num ∈ fr) →
    ((o.swap fr (fr.map g)).swap (fr.map g) ((fr.map g).map f)).swap fr (fr.map g) = o.swap fr (fr.map g)
  | .mk k n x s ks l, h => by
    have hl := swaps_again fr g f hf l fun p hp => h p (by rw [Pob.pre_eq]; exact List.mem_cons_of_mem _ hp)
    have h0 := h (.mk k n x s ks l) (by rw [Pob.pre_eq]; exact List.mem_cons_self)
    simp only [Pob.swap_eq, Pob.kids_mk, Pob.kind_mk, Pob.num_mk, Pob.gen_mk, Pob.str_mk, Pob.keys_mk] at h0 ⊢
    rw [hl]
    by_cases hk : k = 8
    · subst hk
      have h1 := h0 rfl
      have h2 : g n ∈ fr.map g := List.mem_map_of_mem h1
      rw [(sw_map (x := x) h1).1, (sw_map (x := x) h1).2, (sw_map (x := 0) h2).1, (sw_map (x := 0) h2).2, hf n h1, (sw_map (x := 0) h1).1, (sw_map (x := 0) h1).2]
    · have e : ∀ a b m y, swN a b k m = m ∧ swG a b k m y = y := fun a b m y => sw_kind hk
      simp only [(e _ _ _ 0).1, (e _ _ _ _).2]
theorem swaps_again (fr : List Int) (g f : Int → Int) (hf : ∀ n ∈ fr, f (g n) = n) : ∀ l : List Pob, (∀ p ∈ pres l, p.kind = 8 → p.num ∈ fr) →
    swaps fr (fr.map g) (swaps (fr.map g) ((fr.map g).map f) (swaps fr (fr.map g) l)) = swaps fr (fr.map g) l
  | [], _ => by simp [swaps_map]
  | o :: l, h => by
    have h1 := Pob.swap_again fr g f hf o fun p hp => h p (by rw [pres]; exact List.mem_append_left _ hp)
    have h2 := swaps_again fr g f hf l fun p hp => h p (by rw [pres]; exact List.mem_append_right _ hp)
    simp only [swaps_map] at h2 ⊢
    simp only [List.map_cons, h1, h2]
end
theorem own_swap {k n x n' x' d : Int} {s : List UInt8} {ks : List (List UInt8)} {l l' : List Pob} (h : ownE (.mk k n x s ks l) d = 0) (hl : l'.length = l.length) (hd : ∀ i, (l'.getD i Pob.null).kind = (l.getD i Pob.null).kind)
    (hn : (n' = n ∧ x' = x) ∨ (k = 8 ∧ 1 ≤ n' ∧ n' ≤ 8191 ∧ x' = 0)) : ownE (.mk k n' x' s ks l') d = 0 := by
  rw [ownE_iff] at h ⊢
  obtain ⟨h1, h2, h3, h4, h5, h6⟩ := h
  have hr : risingP (.mk k n x s ks l) → risingP (.mk k n' x' s ks l') := by
    rintro ⟨g1, g2⟩
    refine ⟨by simpa only [Pob.keys_mk, Pob.kids_mk, hl] using g1, fun i hi => ?_⟩
    have := g2 i hi
    simp only [okKey, Pob.keys_mk, Pob.kids_mk, Pob.kind_mk, hd] at this ⊢
    exact this
  refine ⟨h1, ?_, ?_, ?_, by simpa only [Pob.kids_mk, hl] using h5, ?_⟩
  · rcases hn with ⟨rfl, rfl⟩ | ⟨rfl, _⟩
    · simp only [useB, Pob.kind_mk, Pob.num_mk, Pob.gen_mk, Pob.str_mk, Pob.keys_mk, Pob.kids_mk, hl] at h2 ⊢; exact h2
    · simp [useB, Pob.kind_mk, Pob.num_mk, Pob.gen_mk, Pob.str_mk, Pob.keys_mk, Pob.kids_mk, hl, uN, uG] at h2 ⊢; exact h2
  · rcases hn with ⟨rfl, rfl⟩ | ⟨rfl, g1, g2, rfl⟩
    · exact h3
    · simp [fitsB, Pob.kind_mk, Pob.num_mk, Pob.gen_mk, g1, g2]
  · exact h4
  · simp only [formB, Pob.kind_mk, Pob.str_mk] at h6 ⊢
    cases hb : risingB (.mk k n x s ks l) with
    | true =>
      have : risingB (.mk k n' x' s ks l') = true := by
        simp only [risingB, decide_eq_true_eq] at hb ⊢
        exact hr hb
      rw [hb] at h6
      rw [this]
      exact h6
    | false =>
      rw [hb] at h6
      revert h6
      cases hu : uKeys k
      · simp only [Bool.not_false, cond_true]; exact fun h => h
      · cases (bif !decide (k = 5) then true else nameB s) <;> simp
mutual
theorem Pob.swap_chk (fr : List Int) (g : Int → Int) (hg : ∀ n ∈ fr, 1 ≤ g n ∧ g n ≤ 8191) : ∀ (o : Pob) (d : Int), chk o d = 0 → (∀ p ∈ o.pre, p.kind = 8 → p.num ∈ fr) → chk (o.swap fr (fr.map g)) d = 0
  | .mk k n x s ks l, d, h, hp => by
    have h0 := hp (.mk k n x s ks l) (by rw [Pob.pre_eq]; exact List.mem_cons_self)
    obtain ⟨h1, h2⟩ := chk_iff.1 h
    simp only [Pob.kids_mk] at h2
    have hl := swaps_chk fr g hg l (d + 1) h2 fun p hp' => hp p (by rw [Pob.pre_eq]; exact List.mem_cons_of_mem _ hp')
    rw [chk_iff, Pob.swap_eq]
    simp only [Pob.kids_mk, Pob.kind_mk, Pob.num_mk, Pob.gen_mk, Pob.str_mk, Pob.keys_mk] at h0 ⊢
    refine ⟨own_swap h1 (swaps_length _ _ _) (fun i => ?_) ?_, hl⟩
    · by_cases hi : i < l.length
      · rw [swaps_getD hi, swap_kind]
      · rw [List.getD, List.getD, List.getElem?_eq_none (by rw [swaps_length]; omega), List.getElem?_eq_none (by omega)]
    · by_cases hk : k = 8
      · subst hk
        right
        have hin := h0 rfl
        rw [(sw_map (x := x) hin).1, (sw_map (x := x) hin).2]
        exact ⟨rfl, (hg n hin).1, (hg n hin).2, rfl⟩
      · left
        exact sw_kind hk
theorem swaps_chk (fr : List Int) (g : Int → Int) (hg : ∀ n ∈ fr, 1 ≤ g n ∧ g n ≤ 8191) : ∀ (l : List Pob) (d : Int), (∀ x ∈ l, chk x d = 0) → (∀ p ∈ pres l, p.kind = 8 → p.num ∈ fr) → ∀ x ∈ swaps fr (fr.map g) l, chk x d = 0
  | [], _, _, _, x, hx => by simp [swaps_map] at hx
  | o :: l, d, h, hp, x, hx => by
    rw [swaps_map, List.map_cons] at hx
    rcases List.mem_cons.1 hx with rfl | hx
    · exact Pob.swap_chk fr g hg o d (h o List.mem_cons_self) fun p hp' => hp p (by rw [pres]; exact List.mem_append_left _ hp')
    · refine swaps_chk fr g hg l d (fun x hx => h x (List.mem_cons_of_mem _ hx)) (fun p hp' => hp p (by rw [pres]; exact List.mem_append_right _ hp')) x ?_
      rw [swaps_map]; exact hx
end
/-- every number of the list, greater by `q` -/
def upI (q : Int) (l : List Int) : List Int := l.map (· + q)
theorem upI_length (q : Int) (l : List Int) : (upI q l).length = l.length := by simp [upI]
theorem upI_succ {q : Int} {l : List Int} {i : Nat} (h : i < l.length) : upI q (l.take (i + 1)) = upI q (l.take i) ++ [l.getD i 0 + q] := by
  unfold upI
  rw [List.take_add_one, List.map_append]
  simp [List.getD, List.getElem?_eq_getElem h]
/-- the law of Swap -/
theorem swap_law {o : Pob} {by' : Int} (h : chk o 1 = 0) (h1 : 1 ≤ by') (h2 : by' ≤ 4000) (h3 : ∀ n ∈ refsO o, n ≤ 4000) {to : List Int} (ht : to = upI by' (refsO o)) :
    refsO (o.swap (refsO o) to) = to ∧ refsO ((o.swap (refsO o) to).swap to (refsO o)) = refsO o ∧ chk (o.swap (refsO o) to) 1 = 0 ∧ (o.swap (refsO o) to).depth = o.depth ∧
      ((o.swap (refsO o) to).swap to (refsO o)).swap (refsO o) to = o.swap (refsO o) to := by
  unfold upI at ht
  subst ht
  have hv := chk_pre o 1 h
  have hr : ∀ n ∈ refsO o, 1 ≤ n ∧ n ≤ 8191 := by
    intro n hn
    obtain ⟨p, _, hp, rfl⟩ := refs_mem.1 hn
    simp only [refB, Bool.and_eq_true, decide_eq_true_eq] at hp
    exact hp.2
  have hin : ∀ p ∈ o.pre, p.kind = 8 → p.num ∈ refsO o := fun p hp h8 => refs_mem.2 ⟨p, hp, hv p hp h8, rfl⟩
  have hg : ∀ n ∈ refsO o, 1 ≤ n + by' ∧ n + by' ≤ 8191 := fun n hn => by have := hr n hn; have := h3 n hn; omega
  have e1 := refs_swap (g := (· + by')) hv hg (fun a _ b _ hab => by show a + by' < b + by'; omega)
  have hc := Pob.swap_chk (refsO o) (· + by') hg o 1 h hin
  have hback : ((refsO o).map (· + by')).map (· - by') = refsO o := by
    rw [List.map_map]
    have : ((· - by') ∘ (· + by') : Int → Int) = id := by funext n; simp only [Function.comp, id]; omega
    rw [this, List.map_id]
  have e2 := refs_swap (o := o.swap (refsO o) ((refsO o).map (· + by'))) (g := (· - by')) (chk_pre _ 1 hc)
    (by
      rw [e1]
      intro n hn
      obtain ⟨m, hm, rfl⟩ := List.mem_map.1 hn
      have := hr m hm
      show 1 ≤ m + by' - by' ∧ m + by' - by' ≤ 8191
      omega)
    (fun a _ b _ hab => by show a - by' < b - by'; omega)
  rw [e1, hback] at e2
  have e3 := Pob.swap_again (refsO o) (· + by') (· - by') (fun n _ => by show n + by' - by' = n; omega) o hin
  rw [hback] at e3
  exact ⟨e1, e2, hc, Pob.swap_depth _ _ o, e3⟩
end Aw

set_option linter.unusedVariables false
set_option linter.unusedSimpArgs false
namespace Aw
open Go
theorem idxb_neg : ∀ {s : List UInt8} {c : UInt8}, Lib.indexByte s c < 0 ↔ ∀ i, i < s.length → s.getD i 0 ≠ c
  | [], c => by simp [Lib.indexByte]
  | b :: l, c => by
    have ih := idxb_neg (s := l) (c := c)
    have hg := Lib.indexByte_ge l c
    rw [Lib.indexByte]
    by_cases hb : b = c
    · rw [if_pos (by simpa using hb)]
      refine ⟨fun h => absurd h (by omega), fun h => absurd (h 0 (by simp)) (by simpa using hb)⟩
    · rw [if_neg (by simpa using hb)]
      constructor
      · intro h i hi
        cases i with
        | zero => simpa using hb
        | succ i =>
          have h' : Lib.indexByte l c < 0 := by
            split at h <;> rename_i h1
            · have h1 : Lib.indexByte l c = -1 := by simpa using h1
              omega
            · omega
          simpa using ih.1 h' i (by simpa using hi)
      · intro h
        have h' := ih.2 fun i hi => by simpa using h (i + 1) (by simpa using hi)
        have h2 : Lib.indexByte l c = -1 := by omega
        simp [h2]
theorem nameB_no {s : List UInt8} {i : Nat} (hi : i < s.length) (h : s.getD i 0 = 0) : nameB s = false := by
  have : ¬ Lib.indexByte s 0 < 0 := fun h' => idxb_neg.1 h' i hi h
  simp [nameB, this]
theorem nameB_all {s : List UInt8} (h : ∀ i, i < s.length → s.getD i 0 ≠ 0) : nameB s = decide ((s.length : Int) ≤ 127) := by
  have : Lib.indexByte s 0 < 0 := idxb_neg.2 h
  simp [nameB, this]
/-- the least check: a list of objects from the i-th on -/
theorem chk_step {o : Pob} {d : Int} {i : Nat} (h : ownE o d = 0) (hi : i ≤ o.kids.length) (hs : chkL o.kids (d + 1) = chkL (o.kids.drop i) (d + 1)) (h' : ¬ i < o.kids.length) : chk o d = 0 := by
  rw [chk_eq, if_pos h, hs, List.drop_of_length_le (by omega)]
  with_unfolding_all rfl
/-! a key less -/
def woK {α : Type} (ks : List (List UInt8)) (key : List UInt8) (l : List α) (i : Nat) : List α := if kthere ks key = true ∧ kplace ks key < i then l.take (kplace ks key) ++ (l.drop (kplace ks key + 1)).take (i - (kplace ks key + 1)) else l.take i
theorem woK_zero {α : Type} (ks : List (List UInt8)) (key : List UInt8) (l : List α) : woK ks key l 0 = [] := by simp [woK]
theorem woK_len {α : Type} (ks : List (List UInt8)) (key : List UInt8) (l : List α) (i : Nat) : (woK ks key l i).length ≤ l.length := by
  unfold woK
  split
  · simp only [List.length_append, List.length_take, List.length_drop]; omega
  · simp only [List.length_take]; omega
theorem woK_skip {α : Type} {ks : List (List UInt8)} {key : List UInt8} {l : List α} {i : Nat} (hs : incr ks) (hi : i < ks.length) (hk : ks.getD i [] = key) : woK ks key l (i + 1) = woK ks key l i := by
  have ht : kthere ks key = true := (kthere_iff hs).2 ⟨i, hi, hk⟩
  have hp : kplace ks key = i := incr_inj hs (kthere_lt ht) hi (by rw [kthere_at ht, hk])
  unfold woK
  rw [if_pos ⟨ht, by omega⟩, if_neg (by omega), hp]
  simp
theorem woK_keep {α : Type} {ks : List (List UInt8)} {key : List UInt8} {l : List α} {i : Nat} {x : α} (hs : incr ks) (hi : i < ks.length) (hl : i < l.length) (hk : ks.getD i [] ≠ key) : woK ks key l (i + 1) = woK ks key l i ++ [l.getD i x] := by
  have hg : l.getD i x = l[i] := by simp [List.getD, hl]
  unfold woK
  by_cases ht : kthere ks key = true
  · have hne : kplace ks key ≠ i := fun e => hk (by rw [← e]; exact kthere_at ht)
    by_cases hp : kplace ks key < i
    · rw [if_pos ⟨ht, by omega⟩, if_pos ⟨ht, hp⟩, hg, show i + 1 - (kplace ks key + 1) = i - (kplace ks key + 1) + 1 from by omega, List.take_add_one, List.append_assoc]
      congr 1
      congr 1
      rw [List.getElem?_drop, show kplace ks key + 1 + (i - (kplace ks key + 1)) = i from by omega, List.getElem?_eq_getElem hl]
      rfl
    · rw [if_neg (fun h => hp (by omega)), if_neg (fun h => hp h.2), hg, List.take_add_one, List.getElem?_eq_getElem hl]
      rfl
  · rw [if_neg (fun h => ht h.1), if_neg (fun h => ht h.1), hg, List.take_add_one, List.getElem?_eq_getElem hl]
    rfl
theorem woK_all {o : Pob} {key : List UInt8} (hs : o.kvOk) (hd : dropB o key = kthere o.keys key) : (Pob.mk o.kind o.num o.gen o.str (woK o.keys key o.keys o.keys.length) (woK o.keys key o.kids o.keys.length)) = dropO o key := by
  have hl := hs.2
  cases ht : kthere o.keys key with
  | false =>
    rw [dropO_no (by rw [hd, ht])]
    unfold woK
    rw [if_neg (by simp [ht]), if_neg (by simp [ht]), List.take_of_length_le (Nat.le_refl _), List.take_of_length_le (by omega)]
    cases o; rfl
  | true =>
    have hlt := kthere_lt ht
    rw [dropO_yes (by rw [hd, ht]), Pob.lessK]
    unfold woK delAt
    rw [if_pos ⟨ht, hlt⟩, if_pos ⟨ht, hlt⟩, List.take_of_length_le (l := o.keys.drop _) (by rw [List.length_drop]; omega), List.take_of_length_le (l := o.kids.drop _) (by rw [List.length_drop]; omega)]
/-! a key put -/
theorem put_there {o : Pob} {key : List UInt8} {v : Pob} (hl : o.keys.length = o.kids.length) (ht : kthere o.keys key = true) : o.withK key v = .mk o.kind o.num o.gen o.str (o.keys.take (kplace o.keys key) ++ [key] ++ o.keys.drop (kplace o.keys key + 1)) (o.kids.take (kplace o.keys key) ++ [v] ++ o.kids.drop (kplace o.keys key + 1)) := by
  have hlt := kthere_lt ht
  have hk := kthere_at ht
  rw [withK_there ht]
  congr 1
  · have : [key] ++ o.keys.drop (kplace o.keys key + 1) = o.keys.drop (kplace o.keys key) := by
      rw [List.drop_eq_getElem_cons hlt]
      rw [List.getD, List.getElem?_eq_getElem hlt] at hk
      simp only [Option.getD_some] at hk
      rw [hk]; rfl
    rw [List.append_assoc, this, List.take_append_drop]
  · rw [List.set_eq_take_append_cons_drop, if_pos (by omega)]
    simp
theorem put_new {o : Pob} {key : List UInt8} {v : Pob} (ht : kthere o.keys key = false) : o.withK key v = .mk o.kind o.num o.gen o.str (o.keys.take (kplace o.keys key) ++ [key] ++ o.keys.drop (kplace o.keys key)) (o.kids.take (kplace o.keys key) ++ [v] ++ o.kids.drop (kplace o.keys key)) := by
  rw [withK_new ht]
  simp [insAt]
/-! numbers in order -/
def nplace (l : List Int) (n : Int) : Nat := l.findIdx (fun x => !decide (x < n))
theorem nplace_eq {l : List Int} {n : Int} {i : Nat} (hi : i ≤ l.length) (h1 : ∀ a, a < i → l.getD a 0 < n) (h2 : i < l.length → ¬ l.getD i 0 < n) : nplace l n = i := by
  unfold nplace
  by_cases h : i < l.length
  · rw [List.findIdx_eq h]
    have h3 := h2 h
    simp only [List.getD, List.getElem?_eq_getElem h, Option.getD_some] at h3
    refine ⟨by simpa using h3, fun j hj => ?_⟩
    have := h1 j hj
    simp only [List.getD, List.getElem?_eq_getElem (Nat.lt_trans hj h), Option.getD_some] at this
    simp [this]
  · obtain rfl : i = l.length := by omega
    refine List.findIdx_eq_length.2 ?_
    intro x hx
    obtain ⟨j, hj, rfl⟩ := List.getElem_of_mem hx
    have := h1 j hj
    simp only [List.getD, List.getElem?_eq_getElem hj, Option.getD_some] at this
    simp [this]
def numIns (l : List Int) (n : Int) : List Int := if nplace l n < l.length ∧ l.getD (nplace l n) 0 = n then l else l.take (nplace l n) ++ [n] ++ l.drop (nplace l n)
theorem numIns_spec : ∀ {l : List Int} {n : Int}, l.Pairwise (· < ·) → (numIns l n).Pairwise (· < ·) ∧ ∀ x, x ∈ numIns l n ↔ x ∈ l ∨ x = n
  | [], n, _ => by simp [numIns, nplace]
  | a :: l, n, h => by
    rw [List.pairwise_cons] at h
    by_cases h1 : a < n
    · have hp : nplace (a :: l) n = nplace l n + 1 := by simp [nplace, List.findIdx_cons, h1]
      have ih := numIns_spec (n := n) h.2
      have he : numIns (a :: l) n = a :: numIns l n := by
        unfold numIns
        rw [hp]
        simp only [List.length_cons, Nat.add_lt_add_iff_right, List.getD_cons_succ, List.take_succ_cons, List.drop_succ_cons, List.cons_append]
        split <;> rfl
      rw [he, List.pairwise_cons]
      refine ⟨⟨fun x hx => ?_, ih.1⟩, fun x => ?_⟩
      · rcases (ih.2 x).1 hx with h' | rfl
        · exact h.1 x h'
        · exact h1
      · rw [List.mem_cons, ih.2, List.mem_cons, or_assoc]
    · have hp : nplace (a :: l) n = 0 := by simp [nplace, List.findIdx_cons, h1]
      by_cases h2 : a = n
      · have he : numIns (a :: l) n = a :: l := by
          unfold numIns
          rw [hp, if_pos ⟨by simp, by simpa using h2⟩]
        rw [he, List.pairwise_cons]
        refine ⟨h, fun x => ⟨fun h' => .inl h', fun h' => h'.elim id fun e => ?_⟩⟩
        rw [e, ← h2]; exact List.mem_cons_self
      · have he : numIns (a :: l) n = n :: a :: l := by
          unfold numIns
          rw [hp, if_neg (fun h' => h2 (by simpa using h'.2))]
          rfl
        rw [he, List.pairwise_cons, List.pairwise_cons]
        refine ⟨⟨fun x hx => ?_, h⟩, fun x => ?_⟩
        · rcases List.mem_cons.1 hx with rfl | hx
          · omega
          · have := h.1 x hx; omega
        · rw [List.mem_cons]
          constructor
          · rintro (rfl | h'); exact .inr rfl; exact .inl h'
          · rintro (h' | rfl); exact .inr h'; exact .inl rfl
theorem numIns_len (l : List Int) (n : Int) : (numIns l n).length ≤ l.length + 1 := by
  unfold numIns
  split
  · omega
  · simp; omega
theorem numIns_fold : ∀ (m l : List Int), l.Pairwise (· < ·) → (m.foldl numIns l).Pairwise (· < ·) ∧ ∀ x, x ∈ m.foldl numIns l ↔ x ∈ l ∨ x ∈ m
  | [], l, h => ⟨h, fun x => by simp⟩
  | n :: m, l, h => by
    obtain ⟨h1, h2⟩ := numIns_spec (n := n) h
    obtain ⟨h3, h4⟩ := numIns_fold m (numIns l n) h1
    refine ⟨h3, fun x => ?_⟩
    rw [List.foldl_cons, h4, h2, List.mem_cons, or_assoc]
/-- the references as the reference gathers them: its own, then those of each kid -/
def ownR (o : Pob) : List Int := if refB o = true then [o.num] else []
def kidR (ks : List Pob) (s : List Int) : List Int := ks.foldl (fun s k => (refsO k).foldl numIns s) s
theorem kidR_spec : ∀ (ks : List Pob) (s : List Int), s.Pairwise (· < ·) → (kidR ks s).Pairwise (· < ·) ∧ ∀ x, x ∈ kidR ks s ↔ x ∈ s ∨ ∃ k ∈ ks, x ∈ refsO k
  | [], s, h => ⟨h, fun x => by simp [kidR]⟩
  | k :: ks, s, h => by
    obtain ⟨h1, h2⟩ := numIns_fold (refsO k) s h
    obtain ⟨h3, h4⟩ := kidR_spec ks _ h1
    refine ⟨h3, fun x => ?_⟩
    show x ∈ kidR ks _ ↔ _
    rw [h4, h2]
    simp only [List.mem_cons, exists_eq_or_imp, or_assoc]
theorem pres_mem {l : List Pob} {p : Pob} : p ∈ pres l ↔ ∃ k ∈ l, p ∈ k.pre := by
  induction l with
  | nil => simp [pres]
  | cons o l ih => rw [pres, List.mem_append, ih]; simp
theorem kidR_all (o : Pob) : kidR o.kids (ownR o) = refsO o := by
  have h0 : (ownR o).Pairwise (· < ·) := by unfold ownR; split <;> simp
  obtain ⟨h1, h2⟩ := kidR_spec o.kids _ h0
  refine lt_ext h1 (refs_lt o) fun n => ?_
  rw [h2, refs_mem]
  rw [Pob.pre_eq]
  constructor
  · rintro (h | ⟨k, hk, h⟩)
    · unfold ownR at h
      split at h
      · rename_i hb
        rw [List.mem_singleton] at h
        exact ⟨o, List.mem_cons_self, hb, h.symm⟩
      · cases h
    · obtain ⟨p, hp, hb, hn⟩ := refs_mem.1 h
      exact ⟨p, List.mem_cons_of_mem _ (pres_mem.2 ⟨k, hk, hp⟩), hb, hn⟩
  · rintro ⟨p, hp, hb, hn⟩
    rcases List.mem_cons.1 hp with rfl | hp
    · left
      unfold ownR
      rw [if_pos hb, List.mem_singleton, hn]
    · obtain ⟨k, hk, hp⟩ := pres_mem.1 hp
      exact .inr ⟨k, hk, refs_mem.2 ⟨p, hp, hb, hn⟩⟩
theorem kidR_succ {l : List Pob} {i : Nat} (h : i < l.length) (s : List Int) : kidR (l.take (i + 1)) s = (refsO (l.getD i Pob.null)).foldl numIns (kidR (l.take i) s) := by
  unfold kidR
  rw [List.take_add_one, List.foldl_append, List.getElem?_eq_getElem h]
  simp [List.getD, List.getElem?_eq_getElem h]
theorem foldN_succ {l : List Int} {i : Nat} (h : i < l.length) (s : List Int) : (l.take (i + 1)).foldl numIns s = numIns ((l.take i).foldl numIns s) (l.getD i 0) := by
  rw [List.take_add_one, List.foldl_append, List.getElem?_eq_getElem h]
  simp [List.getD, List.getElem?_eq_getElem h]
theorem foldN_len : ∀ (m l : List Int), (m.foldl numIns l).length ≤ l.length + m.length
  | [], l => by simp
  | n :: m, l => by
    have h1 := numIns_len l n
    have h2 := foldN_len m (numIns l n)
    rw [List.foldl_cons, List.length_cons]
    omega
theorem bulks_takele (l : List Pob) (i : Nat) : bulks (l.take i) ≤ bulks l := by
  have := bulks_append (l.take i) (l.drop i)
  rw [List.take_append_drop] at this
  omega
theorem kidR_len : ∀ (ks : List Pob) (s : List Int), (kidR ks s).length ≤ s.length + bulks ks
  | [], s => by simp [kidR, bulks]
  | k :: ks, s => by
    have h1 := foldN_len (refsO k) s
    have h2 := kidR_len ks ((refsO k).foldl numIns s)
    have h3 := refs_len k
    have e : kidR (k :: ks) s = kidR ks ((refsO k).foldl numIns s) := rfl
    rw [e, bulks]
    omega
end Aw

set_option linter.unusedVariables false
set_option linter.unusedSimpArgs false
namespace Aw
open Go
theorem use_split (o : Pob) (d : Int) : useB o d = (useB o 1 && (decide (d = 1) || !decide (o.kind = 9))) := by
  unfold useB
  cases (bif bif bif bif bif uOk o.kind then bif uN o.kind then true else decide (o.num = 0) else false then bif uG o.kind then true else decide (o.gen = 0) else false then bif uS o.kind then true else decide (o.str = []) else false
    then bif uKeys o.kind then true else decide ((o.keys.length : Int) = 0) else false then bif uKids o.kind then true else decide ((o.kids.length : Int) = 0) else false) <;> simp
theorem own_deep {o : Pob} {d : Int} (h : 24 < d) : chk o d = 7 := chk_bad (by unfold ownE; rw [if_pos (by omega)]) (by decide)
theorem own_use {o : Pob} {d : Int} (h : ¬ 24 < d) (h' : useB o d = false) : chk o d = 10 := chk_bad (by unfold ownE; rw [if_neg (by omega), if_pos h']) (by decide)
theorem own_fits {o : Pob} {d : Int} (h : ¬ 24 < d) (h1 : useB o d = true) (h' : fitsB o = false) : chk o d = 2 := chk_bad (by unfold ownE; rw [if_neg (by omega), if_neg (by simp [h1]), if_pos h']) (by decide)
theorem own_long {o : Pob} {d : Int} (h : ¬ 24 < d) (h1 : useB o d = true) (h2 : fitsB o = true) (h' : shortB o = false) : chk o d = 5 := chk_bad (by unfold ownE; rw [if_neg (by omega), if_neg (by simp [h1]), if_neg (by simp [h2]), if_pos h']) (by decide)
theorem own_many {o : Pob} {d : Int} (h : ¬ 24 < d) (h1 : useB o d = true) (h2 : fitsB o = true) (h3 : shortB o = true) (h' : 8191 < (o.kids.length : Int)) : chk o d = 6 := chk_bad (by unfold ownE; rw [if_neg (by omega), if_neg (by simp [h1]), if_neg (by simp [h2]), if_neg (by simp [h3]), if_pos (by omega)]) (by decide)
theorem own_form {o : Pob} {d : Int} (h : ¬ 24 < d) (h1 : useB o d = true) (h2 : fitsB o = true) (h3 : shortB o = true) (h4 : ¬ 8191 < (o.kids.length : Int)) (h' : formB o = false) : chk o d = 3 := chk_bad (by unfold ownE; rw [if_neg (by omega), if_neg (by simp [h1]), if_neg (by simp [h2]), if_neg (by simp [h3]), if_neg (by omega), if_pos h']) (by decide)
theorem own_ok {o : Pob} {d : Int} (h : ¬ 24 < d) (h1 : useB o d = true) (h2 : fitsB o = true) (h3 : shortB o = true) (h4 : ¬ 8191 < (o.kids.length : Int)) (h' : formB o = true) : chk o d = chkL o.kids (d + 1) := by
  rw [chk_eq, if_pos]
  unfold ownE
  rw [if_neg (by omega), if_neg (by simp [h1]), if_neg (by simp [h2]), if_neg (by simp [h3]), if_neg (by omega), if_neg (by simp [h'])]
def longN (k : Int) : Int := if k = 5 then 127 else if k = 9 then 1048576 else 32767
theorem short_ref {o : Pob} (hu : useB o 1 = true) : shortB o = decide ((o.str.length : Int) ≤ longN o.kind) := by
  by_cases h4 : o.kind = 4
  · simp [shortB, longN, h4]
  by_cases h5 : o.kind = 5
  · simp [shortB, longN, h5]
  by_cases h9 : o.kind = 9
  · simp [shortB, longN, h9]
  have hs : o.str = [] := by
    have hb : uS o.kind = false := by simp [uS, h4, h5, h9]
    unfold useB at hu
    rw [hb] at hu
    cases hc : decide (o.str = []) with
    | true => simpa using hc
    | false => rw [hc] at hu; revert hu; cases (bif bif bif uOk o.kind then bif uN o.kind then true else decide (o.num = 0) else false then bif uG o.kind then true else decide (o.gen = 0) else false then true else false) <;> simp
  simp only [shortB, longN, if_neg h4, if_neg h5, if_neg h9, hs]
  simp
theorem form_name {o : Pob} (h : o.kind = 5) : formB o = nameB o.str := by
  have : uKeys 5 = false := rfl
  simp [formB, h, this]
theorem form_none {o : Pob} (h : ¬ o.kind = 5) (h7 : ¬ o.kind = 7) (h9 : ¬ o.kind = 9) : formB o = true := by
  have : uKeys o.kind = false := by simp [uKeys, h7, h9]
  simp [formB, h, this]
theorem form_keys {o : Pob} (h7 : o.kind = 7 ∨ o.kind = 9) : formB o = risingB o := by
  have : uKeys o.kind = true := by simpa [uKeys] using h7
  have h5 : ¬ o.kind = 5 := by omega
  simp [formB, h5, this]
/-! sizes -/
theorem Pob.tot_eq (o : Pob) : o.tot = o.str.length + (o.keys.map fun k => k.length + 1).sum + tots o.kids + 7 := by cases o; simp only [Pob.tot, Pob.str, Pob.keys, Pob.kids]
theorem tots_get : ∀ {l : List Pob} {i : Nat}, i < l.length → (l.getD i Pob.null).tot ≤ tots l
  | o :: l, 0, _ => by simp [tots]
  | o :: l, i + 1, h => by
    have := tots_get (l := l) (i := i) (by simpa using h)
    simp only [List.getD_cons_succ, tots]
    omega
theorem Pob.tot_kid {o : Pob} {i : Nat} (h : i < o.kids.length) : (o.kids.getD i Pob.null).tot + 7 ≤ o.tot := by
  have := Pob.tot_eq o
  have := tots_get h
  omega
theorem ktot_get : ∀ {l : List (List UInt8)} {i : Nat}, i < l.length → (l.getD i []).length + 1 ≤ (l.map fun k => k.length + 1).sum
  | k :: l, 0, _ => by simp
  | k :: l, i + 1, h => by
    have := ktot_get (l := l) (i := i) (by simpa using h)
    simp only [List.getD_cons_succ, List.map_cons, List.sum_cons]
    omega
theorem Pob.tot_key {o : Pob} {i : Nat} (h : i < o.keys.length) : (o.keys.getD i []).length + 8 ≤ o.tot := by
  have := Pob.tot_eq o
  have := ktot_get h
  omega
theorem Pob.tot_str (o : Pob) : o.str.length + 7 ≤ o.tot := by
  have := Pob.tot_eq o
  omega
theorem tots_append (a b : List Pob) : tots (a ++ b) = tots a + tots b := by
  induction a with
  | nil => simp [tots]
  | cons o l ih => simp only [List.cons_append, tots, ih]; omega
theorem ksum_append (a b : List (List UInt8)) : ((a ++ b).map fun k => k.length + 1).sum = (a.map fun k => k.length + 1).sum + (b.map fun k => k.length + 1).sum := by simp
theorem tots_set {l : List Pob} {i : Nat} {v : Pob} : tots (l.set i v) ≤ tots l + v.tot := by
  induction l generalizing i with
  | nil => simp [tots]
  | cons o l ih =>
    cases i with
    | zero => simp only [List.set_cons_zero, tots]; omega
    | succ i => simp only [List.set_cons_succ, tots]; have := ih (i := i); omega
theorem withK_tot (o : Pob) (key : List UInt8) (v : Pob) : (o.withK key v).tot ≤ o.tot + v.tot + key.length + 1 := by
  have h0 := Pob.tot_eq o
  unfold Pob.withK
  split
  · simp only [Pob.tot]
    have := tots_set (l := o.kids) (i := kplace o.keys key) (v := v)
    omega
  · simp only [Pob.tot, insAt]
    have e1 := tots_append (o.kids.take (kplace o.keys key)) (o.kids.drop (kplace o.keys key))
    have e2 := ksum_append (o.keys.take (kplace o.keys key)) (o.keys.drop (kplace o.keys key))
    rw [List.take_append_drop] at e1 e2
    rw [tots_append, tots, List.map_append, List.sum_append, List.map_cons, List.sum_cons]
    omega
theorem dropO_tot (o : Pob) (key : List UInt8) : (dropO o key).tot ≤ o.tot := by
  unfold dropO
  split
  · have h0 := Pob.tot_eq o
    unfold Pob.lessK delAt
    simp only [Pob.tot]
    have e1 := tots_append (o.kids.take (kplace o.keys key)) (o.kids.drop (kplace o.keys key))
    have e2 := ksum_append (o.keys.take (kplace o.keys key)) (o.keys.drop (kplace o.keys key))
    rw [List.take_append_drop] at e1 e2
    have e3 := tots_append ((o.kids.drop (kplace o.keys key)).take 1) ((o.kids.drop (kplace o.keys key)).drop 1)
    have e4 := ksum_append ((o.keys.drop (kplace o.keys key)).take 1) ((o.keys.drop (kplace o.keys key)).drop 1)
    rw [List.take_append_drop, List.drop_drop] at e3 e4
    rw [tots_append, ksum_append]
    omega
  · exact Nat.le_refl _
theorem strm_tot (o : Pob) (s : List UInt8) : ((dropO o lengthK).strm s).tot ≤ o.tot + s.length := by
  have h1 := dropO_tot o lengthK
  have h2 := Pob.tot_eq (dropO o lengthK)
  unfold Pob.strm
  simp only [Pob.tot]
  omega
theorem tots_take2 {ps : List Pob} {i : Nat} (h : i + 1 < ps.length) : tots (ps.take (i + 2)) = tots (ps.take i) + (ps.getD i Pob.null).tot + (ps.getD (i + 1) Pob.null).tot := by
  rw [List.take_succ_eq_append_getElem (show i + 1 < ps.length from h), List.take_succ_eq_append_getElem (Nat.lt_of_succ_lt h), tots_append, tots_append]
  simp only [tots, List.getD, List.getElem?_eq_getElem h, List.getElem?_eq_getElem (Nat.lt_of_succ_lt h), Option.getD_some]
  omega
theorem tots_takele (l : List Pob) (i : Nat) : tots (l.take i) ≤ tots l := by
  have := tots_append (l.take i) (l.drop i)
  rw [List.take_append_drop] at this
  omega
theorem withK_len {o : Pob} {key : List UInt8} {v : Pob} (h : o.keys.length = o.kids.length) : (o.withK key v).keys.length = (o.withK key v).kids.length := by
  unfold Pob.withK
  split
  · simp only [Pob.keys_mk, Pob.kids_mk, List.length_set]; exact h
  · have h1 := kplace_le o.keys key
    simp only [Pob.keys_mk, Pob.kids_mk]
    rw [insAt_length, insAt_length]
    omega
end Aw

namespace Aw
open Go
theorem ibulk_filter (l : List Itm) (p : Itm → Bool) : ibulk (l.filter p) ≤ ibulk l := by
  induction l with
  | nil => simp [ibulk]
  | cons x l ih =>
    rw [List.filter_cons]
    split
    · rw [ibulk_cons, ibulk_cons]; omega
    · rw [ibulk_cons]; omega
theorem diffL_bulk (d e : Dc) : ibulk (diffL d e) ≤ ibulk e.items := by
  unfold diffL
  split
  · simp [ibulk]
  · exact ibulk_filter _ _
theorem diffG_len (d e : Dc) : (diffG d e).length ≤ d.items.length := by
  unfold diffG
  split
  · simp
  · rw [List.length_map]; exact List.length_filter_le _ _
theorem len_sum_zero {α β : Type} (l : List α) (m : List β) : decide (((l.length : Int) + (m.length : Int)) = 0) = decide (l = [] ∧ m = []) := by
  cases l <;> cases m <;> simp <;> omega
end Aw

namespace Aw
open Go
theorem zero_bulk : Dc.zero.bulk = 1 := by simp [Dc.zero, Dc.bulk, ibulk, Pob.null, Pob.bulk, bulks]
theorem putO_bulk (d : Dc) (i : Itm) : (putO d i).bulk ≤ d.bulk + i.obj.bulk + 1 := by
  unfold putO
  split
  · rw [zero_bulk]; omega
  · have := layI_bulk d.items i
    simp only [Dc.bulk]
    omega
theorem dropD_bulk (d : Dc) (n : Int) : (dropD d n).bulk ≤ d.bulk + 1 := by
  unfold dropD
  split
  · rw [zero_bulk]; omega
  · have := takeI_bulk d.items n
    simp only [Dc.bulk]
    omega
theorem addO_bulk (d : Dc) (o : Pob) : (addO d o).bulk ≤ d.bulk + o.bulk + 1 := by
  unfold addO
  split
  · rw [zero_bulk]; omega
  · exact putO_bulk d ⟨freeN d, 0, o⟩
theorem look_bulk (l : List Itm) (n : Int) : ((lookI l n).getD Itm.zero).obj.bulk ≤ ibulk l + 1 := by
  have hz : Itm.zero.obj.bulk = 1 := by simp [Itm.zero, Pob.null, Pob.bulk, bulks]
  unfold lookI
  split
  · rw [Option.getD_none, hz]; omega
  · rw [Option.getD_some]
    by_cases h : (iidxI l n).toNat < l.length
    · have := ibulk_get h; omega
    · have : l.getD (iidxI l n).toNat Itm.zero = Itm.zero := by simp [List.getD, h]
      rw [this, hz]; omega
theorem freeN_range (d : Dc) : 0 ≤ freeN d ∧ freeN d ≤ 8191 := by
  by_cases h : freeE d = 0
  · have hp := free_parts h
    have := last_pos (docE_items hp.1)
    rw [hp.2.2]; omega
  · unfold freeN; rw [if_pos h]; omega
theorem addN_range (d : Dc) (o : Pob) : 0 ≤ addN d o ∧ addN d o ≤ 8191 := by
  unfold addN
  split
  · omega
  · exact freeN_range d
end Aw
