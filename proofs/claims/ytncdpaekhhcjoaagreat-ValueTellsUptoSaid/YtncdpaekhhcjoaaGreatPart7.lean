/- A part of the proof of a law of the seat: no condition of its own. -/
import Derived.Test.YtncdpaekhhcjoaaGreatPart6
import Derived.Shelf.SlIterI.Sorted
import Derived.Shelf.Sort.Plain
import Derived.Shelf.Slices.In.SortNone
import Derived.Test.YtncdpaekhhcjoaaGreatProg
namespace Aw
open Go
def refB (o : Pob) : Bool := decide (o.kind = 8) && (decide (1 ≤ o.num) && decide (o.num ≤ 8191))
def refStp (s : List Int) (o : Pob) : List Int := if refB o = true then setAdd s o.num else s
def sortI (s : List Int) : List Int := s.mergeSort fun x y => decide (x ≤ y)
/-- value.Refs -/
def refsO (o : Pob) : List Int := sortI (o.pre.foldl refStp [])
theorem refStp_wf (l : List Pob) : ∀ (s : List Int), (∀ x ∈ s, 1 ≤ x ∧ x ≤ 8191) → ∀ x ∈ l.foldl refStp s, 1 ≤ x ∧ x ≤ 8191 := by
  induction l with
  | nil => exact fun s h => h
  | cons o l ih =>
    intro s h
    refine ih _ fun x hx => ?_
    simp only [refStp] at hx
    split at hx
    · rename_i hr
      simp only [setAdd] at hx
      split at hx
      · exact h x hx
      · rcases List.mem_append.1 hx with hx | hx
        · exact h x hx
        · simp only [List.mem_singleton] at hx
          subst hx
          simp only [refB, Bool.and_eq_true, decide_eq_true_eq] at hr
          exact hr.2
    · exact h x hx
theorem refStp_len (l : List Pob) : ∀ (s : List Int), (l.foldl refStp s).length ≤ s.length + l.length := by
  induction l with
  | nil => intro s; simp
  | cons o l ih =>
    intro s
    have h1 := ih (refStp s o)
    have h2 : (refStp s o).length ≤ s.length + 1 := by
      simp only [refStp, setAdd]
      split
      · split <;> simp
      · omega
    simp only [List.foldl_cons, List.length_cons]
    omega
theorem refStp_mem (l : List Pob) : ∀ (s : List Int) (n : Int), n ∈ l.foldl refStp s ↔ n ∈ s ∨ ∃ p ∈ l, refB p = true ∧ p.num = n := by
  induction l with
  | nil => intro s n; simp
  | cons o l ih =>
    intro s n
    rw [List.foldl_cons, ih]
    have h1 : n ∈ refStp s o ↔ n ∈ s ∨ (refB o = true ∧ o.num = n) := by
      simp only [refStp, setAdd]
      split
      · rename_i h
        split
        · rename_i h2
          constructor
          · exact .inl
          · rintro (g | ⟨_, rfl⟩)
            · exact g
            · exact h2
        · simp only [List.mem_append, List.mem_singleton]
          constructor
          · rintro (g | rfl)
            · exact .inl g
            · exact .inr ⟨h, rfl⟩
          · rintro (g | ⟨_, rfl⟩)
            · exact .inl g
            · exact .inr rfl
      · rename_i h
        simp [h]
    rw [h1]
    simp only [List.mem_cons, exists_eq_or_imp]
    grind
theorem refStp_nodup (l : List Pob) : ∀ (s : List Int), s.Nodup → (l.foldl refStp s).Nodup := by
  induction l with
  | nil => exact fun s h => h
  | cons o l ih =>
    intro s h
    refine ih _ ?_
    simp only [refStp, setAdd]
    split
    · split
      · exact h
      · rename_i h2
        rw [List.nodup_append]
        refine ⟨h, by simp, ?_⟩
        intro a ha b hb e
        simp only [List.mem_singleton] at hb
        subst hb
        subst e
        exact h2 ha
    · exact h
theorem refs_mem {o : Pob} {n : Int} : n ∈ refsO o ↔ ∃ p ∈ o.pre, refB p = true ∧ p.num = n := by
  unfold refsO sortI
  rw [(List.mergeSort_perm _ _).mem_iff, refStp_mem]
  simp
theorem refs_rng {o : Pob} {n : Int} (h : n ∈ refsO o) : 1 ≤ n ∧ n ≤ 8191 := by
  obtain ⟨p, _, hp, rfl⟩ := refs_mem.1 h
  simp only [refB, Bool.and_eq_true, decide_eq_true_eq] at hp
  exact hp.2
theorem refs_len (o : Pob) : (refsO o).length ≤ o.bulk := by
  unfold refsO sortI
  rw [(List.mergeSort_perm _ _).length_eq]
  have h1 := refStp_len o.pre []
  have h2 := Pob.pre_le o
  simp only [List.length_nil] at h1
  omega
theorem sortI_pairwise (s : List Int) : (sortI s).Pairwise (· ≤ ·) := by
  have := List.pairwise_mergeSort (le := fun x y : Int => decide (x ≤ y)) (fun a b c h1 h2 => by simp only [decide_eq_true_eq] at h1 h2 ⊢; omega) (fun a b => by simp only [Bool.or_eq_true, decide_eq_true_eq]; omega) s
  exact this.imp fun h => by simpa using h
theorem refs_lt (o : Pob) : (refsO o).Pairwise (· < ·) := by
  have h1 := sortI_pairwise (o.pre.foldl refStp [])
  have h2 : (refsO o).Nodup := by
    unfold refsO sortI
    exact (List.mergeSort_perm _ _).nodup_iff.2 (refStp_nodup _ _ List.nodup_nil)
  have h3 := List.Pairwise.and h1 h2
  exact h3.imp fun ⟨a, b⟩ => by omega
/-- lists that increase and have the same members are the same -/
theorem lt_ext : ∀ {a b : List Int}, a.Pairwise (· < ·) → b.Pairwise (· < ·) → (∀ n, n ∈ a ↔ n ∈ b) → a = b
  | [], [], _, _, _ => rfl
  | [], y :: b, _, _, h => by have := (h y).2 (by simp); simp at this
  | x :: a, [], _, _, h => by have := (h x).1 (by simp); simp at this
  | x :: a, y :: b, ha, hb, h => by
    rw [List.pairwise_cons] at ha hb
    have hxy : x = y := by
      have h1 := (h x).1 (by simp)
      have h2 := (h y).2 (by simp)
      rcases List.mem_cons.1 h1 with g | g
      · exact g
      · rcases List.mem_cons.1 h2 with g' | g'
        · exact g'.symm
        · have := hb.1 x g; have := ha.1 y g'; omega
    subst hxy
    congr 1
    refine lt_ext ha.2 hb.2 fun n => ?_
    have h1 := h n
    simp only [List.mem_cons] at h1
    constructor
    · intro g
      rcases h1.1 (.inr g) with rfl | g'
      · have := ha.1 n g; omega
      · exact g'
    · intro g
      rcases h1.2 (.inr g) with rfl | g'
      · have := hb.1 n g; omega
      · exact g'
mutual
theorem Pob.swap_pre (fr to : List Int) : ∀ o : Pob, (o.swap fr to).pre = o.pre.map (Pob.swap fr to)
  | .mk k n g s ks l => by
    rw [Pob.swap_eq, Pob.pre_eq, Pob.pre_eq (.mk k n g s ks l)]
    simp only [Pob.kids_mk, List.map_cons, Pob.swap_eq, Pob.kind_mk, Pob.num_mk, Pob.gen_mk, Pob.str_mk, Pob.keys_mk]
    rw [swaps_pres fr to l]
theorem swaps_pres (fr to : List Int) : ∀ l : List Pob, pres (swaps fr to l) = (pres l).map (Pob.swap fr to)
  | [] => by simp [swaps_map, pres_nil]
  | o :: l => by
    have h1 := Pob.swap_pre fr to o
    have h2 := swaps_pres fr to l
    rw [swaps_map] at h2 ⊢
    rw [List.map_cons, pres, pres, h1, h2, List.map_append]
end
theorem nidxI_cases (l : List Int) (n : Int) : (∃ i : Nat, i < l.length ∧ nidxI l n = i ∧ l.getD i 0 = n) ∨ (nidxI l n = -1 ∧ n ∉ l) := by
  unfold nidxI
  by_cases h : nidx l n < l.length
  · left
    refine ⟨nidx l n, h, by simp [h], ?_⟩
    have h2 : decide (l[nidx l n] = n) = true := List.findIdx_getElem (p := fun x => decide (x = n)) (w := h)
    simpa [List.getD, h] using h2
  · right
    refine ⟨by simp [h], fun hm => h ?_⟩
    unfold nidx
    rw [List.findIdx_lt_length]
    exact ⟨n, hm, by simp⟩
theorem sw_map {fr : List Int} {g : Int → Int} {n x : Int} (h : n ∈ fr) : swN fr (fr.map g) 8 n = g n ∧ swG fr (fr.map g) 8 n x = 0 := by
  rcases nidxI_cases fr n with ⟨i, hi, e, e2⟩ | ⟨_, h2⟩
  · have hb : swB fr (fr.map g) 8 n = true := by simp [swB, e, hi]
    obtain ⟨h1, h2⟩ := sw_yes (g := x) hb
    refine ⟨?_, h2⟩
    rw [h1, e]
    simp only [Int.toNat_natCast]
    rw [List.getD, List.getElem?_map, List.getElem?_eq_getElem hi]
    simp only [Option.map_some, Option.getD_some]
    simp only [List.getD, List.getElem?_eq_getElem hi, Option.getD_some] at e2
    rw [e2]
  · exact absurd h h2
theorem sw_kind {fr to : List Int} {k n x : Int} (h : k ≠ 8) : swN fr to k n = n ∧ swG fr to k n x = x := sw_no (by simp [swB, h])
theorem swap_kind (fr to : List Int) (o : Pob) : (o.swap fr to).kind = o.kind := by rw [Pob.swap_eq]; rfl
theorem swap_num (fr to : List Int) (o : Pob) : (o.swap fr to).num = swN fr to o.kind o.num := by rw [Pob.swap_eq]; rfl
/-- the references of a renumbered object -/
theorem refs_swap {o : Pob} {g : Int → Int} (hv : ∀ p ∈ o.pre, p.kind = 8 → refB p = true) (hg : ∀ n ∈ refsO o, 1 ≤ g n ∧ g n ≤ 8191) (hm : ∀ a ∈ refsO o, ∀ b ∈ refsO o, a < b → g a < g b) :
    refsO (o.swap (refsO o) ((refsO o).map g)) = (refsO o).map g := by
  refine lt_ext (refs_lt _) ?_ fun n => ?_
  · rw [List.pairwise_map]
    have := refs_lt o
    exact (List.Pairwise.and_mem.1 this).imp fun ⟨h1, h2, h3⟩ => hm _ h1 _ h2 h3
  · rw [refs_mem, Pob.swap_pre]
    simp only [List.mem_map]
    constructor
    · rintro ⟨q, ⟨p, hp, rfl⟩, hr, rfl⟩
      have hk : p.kind = 8 := by
        simp only [refB, swap_kind, Bool.and_eq_true, decide_eq_true_eq] at hr
        exact hr.1
      have hin : p.num ∈ refsO o := refs_mem.2 ⟨p, hp, hv p hp hk, rfl⟩
      refine ⟨p.num, hin, ?_⟩
      rw [swap_num, hk, (sw_map (x := 0) hin).1]
    · rintro ⟨m, hm', rfl⟩
      obtain ⟨p, hp, hr, rfl⟩ := refs_mem.1 hm'
      have hk : p.kind = 8 := by
        simp only [refB, Bool.and_eq_true, decide_eq_true_eq] at hr
        exact hr.1
      have hn : (p.swap (refsO o) ((refsO o).map g)).num = g p.num := by rw [swap_num, hk, (sw_map (x := 0) hm').1]
      refine ⟨_, ⟨p, hp, rfl⟩, ?_, hn⟩
      simp only [refB, swap_kind, hk, hn, Bool.and_eq_true, decide_eq_true_eq]
      exact ⟨trivial, hg _ hm'⟩
mutual
theorem chk_pre : ∀ (o : Pob) (d : Int), chk o d = 0 → ∀ p ∈ o.pre, p.kind = 8 → refB p = true
  | .mk k n g s ks l, d, h, p, hp, h8 => by
    rw [Pob.pre_eq] at hp
    rcases List.mem_cons.1 hp with rfl | hp
    · have := (ownE_iff.1 (chk_iff.1 h).1).2.2.1
      simp only [Pob.kind_mk] at h8
      simp only [fitsB, Pob.kind_mk, h8, Pob.num_mk, Pob.gen_mk] at this
      simp only [refB, Pob.kind_mk, Pob.num_mk, h8]
      simp at this ⊢
      exact this.1
    · exact chks_pre l (d + 1) (fun x hx => (chk_iff.1 h).2 x hx) p hp h8
theorem chks_pre : ∀ (l : List Pob) (d : Int), (∀ x ∈ l, chk x d = 0) → ∀ p ∈ pres l, p.kind = 8 → refB p = true
  | [], _, _, p, hp, _ => by rw [pres_nil] at hp; cases hp
  | o :: l, d, h, p, hp, h8 => by
    rw [pres, List.mem_append] at hp
    rcases hp with hp | hp
    · exact chk_pre o d (h o (List.mem_cons_self)) p hp h8
    · exact chks_pre l d (fun x hx => h x (List.mem_cons_of_mem _ hx)) p hp h8
end
mutual
theorem Pob.swap_depth (fr to : List Int) : ∀ o : Pob, (o.swap fr to).depth = o.depth
  | .mk k n g s ks l => by
    rw [Pob.swap_eq, Pob.depth_eq, Pob.depth_eq (.mk k n g s ks l)]
    simp only [Pob.kids_mk]
    rw [swaps_depth fr to l]
theorem swaps_depth (fr to : List Int) : ∀ l : List Pob, depths (swaps fr to l) = depths l
  | [] => by simp [swaps_map]
  | o :: l => by
    have h1 := Pob.swap_depth fr to o
    have h2 := swaps_depth fr to l
    rw [swaps_map] at h2 ⊢
    rw [List.map_cons, depths, depths, h1, h2]
end
mutual
theorem Pob.swap_none : ∀ o : Pob, o.swap [] [] = o
  | .mk k n g s ks l => by
    have h := swaps_none l
    rw [Pob.swap_eq]
    simp only [Pob.kids_mk, Pob.kind_mk, Pob.num_mk, Pob.gen_mk, Pob.str_mk, Pob.keys_mk, h]
    have hb : swB [] [] k n = false := by simp [swB]
    rw [(sw_no (g := g) hb).1, (sw_no hb).2]
theorem swaps_none : ∀ l : List Pob, swaps [] [] l = l
  | [] => by simp [swaps_map]
  | o :: l => by
    have h1 := Pob.swap_none o
    have h2 := swaps_none l
    rw [swaps_map] at h2 ⊢
    rw [List.map_cons, h1, h2]
end
mutual
theorem Pob.swap_again (fr : List Int) (g f : Int → Int) (hf : ∀ n ∈ fr, f (g n) = n) : ∀ o : Pob, (∀ p ∈ o.pre, p.kind = 8 → p.num ∈ fr) →
    ((o.swap fr (fr.map g)).swap (fr.map g) ((fr.map g).map f)).swap fr (fr.map g) = o.swap fr (fr.map g)
  | .mk k n x s ks l, h => by
    have hl := swaps_again fr g f hf l fun p hp => h p (by rw [Pob.pre_eq]; exact List.mem_cons_of_mem _ hp)
    have h0 := h (.mk k n x s ks l) (by rw [Pob.pre_eq]; exact List.mem_cons_self)
    simp only [Pob.swap_eq, Pob.kids_mk, Pob.kind_mk, Pob.num_mk, Pob.gen_mk, Pob.str_mk, Pob.keys_mk] at h0 ⊢
    rw [hl]
    by_cases hk : k = 8
    · subst hk
      have h1 := h0 rfl
      have h2 : g n ∈ fr.map g := List.mem_map_of_mem h1
      rw [(sw_map (x := x) h1).1, (sw_map (x := x) h1).2, (sw_map (x := 0) h2).1, (sw_map (x := 0) h2).2, hf n h1, (sw_map (x := 0) h1).1, (sw_map (x := 0) h1).2]
    · have e : ∀ a b m y, swN a b k m = m ∧ swG a b k m y = y := fun a b m y => sw_kind hk
      simp only [(e _ _ _ 0).1, (e _ _ _ _).2]
theorem swaps_again (fr : List Int) (g f : Int → Int) (hf : ∀ n ∈ fr, f (g n) = n) : ∀ l : List Pob, (∀ p ∈ pres l, p.kind = 8 → p.num ∈ fr) →
    swaps fr (fr.map g) (swaps (fr.map g) ((fr.map g).map f) (swaps fr (fr.map g) l)) = swaps fr (fr.map g) l
  | [], _ => by simp [swaps_map]
  | o :: l, h => by
    have h1 := Pob.swap_again fr g f hf o fun p hp => h p (by rw [pres]; exact List.mem_append_left _ hp)
    have h2 := swaps_again fr g f hf l fun p hp => h p (by rw [pres]; exact List.mem_append_right _ hp)
    simp only [swaps_map] at h2 ⊢
    simp only [List.map_cons, h1, h2]
end
theorem own_swap {k n x n' x' d : Int} {s : List UInt8} {ks : List (List UInt8)} {l l' : List Pob} (h : ownE (.mk k n x s ks l) d = 0) (hl : l'.length = l.length) (hd : ∀ i, (l'.getD i Pob.null).kind = (l.getD i Pob.null).kind)
    (hn : (n' = n ∧ x' = x) ∨ (k = 8 ∧ 1 ≤ n' ∧ n' ≤ 8191 ∧ x' = 0)) : ownE (.mk k n' x' s ks l') d = 0 := by
  rw [ownE_iff] at h ⊢
  obtain ⟨h1, h2, h3, h4, h5, h6⟩ := h
  have hr : risingP (.mk k n x s ks l) → risingP (.mk k n' x' s ks l') := by
    rintro ⟨g1, g2⟩
    refine ⟨by simpa only [Pob.keys_mk, Pob.kids_mk, hl] using g1, fun i hi => ?_⟩
    have := g2 i hi
    simp only [okKey, Pob.keys_mk, Pob.kids_mk, Pob.kind_mk, hd] at this ⊢
    exact this
  refine ⟨h1, ?_, ?_, ?_, by simpa only [Pob.kids_mk, hl] using h5, ?_⟩
  · rcases hn with ⟨rfl, rfl⟩ | ⟨rfl, _⟩
    · simp only [useB, Pob.kind_mk, Pob.num_mk, Pob.gen_mk, Pob.str_mk, Pob.keys_mk, Pob.kids_mk, hl] at h2 ⊢; exact h2
    · simp [useB, Pob.kind_mk, Pob.num_mk, Pob.gen_mk, Pob.str_mk, Pob.keys_mk, Pob.kids_mk, hl, uN, uG] at h2 ⊢; exact h2
  · rcases hn with ⟨rfl, rfl⟩ | ⟨rfl, g1, g2, rfl⟩
    · exact h3
    · simp [fitsB, Pob.kind_mk, Pob.num_mk, Pob.gen_mk, g1, g2]
  · exact h4
  · simp only [formB, Pob.kind_mk, Pob.str_mk] at h6 ⊢
    cases hb : risingB (.mk k n x s ks l) with
    | true =>
      have : risingB (.mk k n' x' s ks l') = true := by
        simp only [risingB, decide_eq_true_eq] at hb ⊢
        exact hr hb
      rw [hb] at h6
      rw [this]
      exact h6
    | false =>
      rw [hb] at h6
      revert h6
      cases hu : uKeys k
      · simp only [Bool.not_false, cond_true]; exact fun h => h
      · cases (bif !decide (k = 5) then true else nameB s) <;> simp
mutual
theorem Pob.swap_chk (fr : List Int) (g : Int → Int) (hg : ∀ n ∈ fr, 1 ≤ g n ∧ g n ≤ 8191) : ∀ (o : Pob) (d : Int), chk o d = 0 → (∀ p ∈ o.pre, p.kind = 8 → p.num ∈ fr) → chk (o.swap fr (fr.map g)) d = 0
  | .mk k n x s ks l, d, h, hp => by
    have h0 := hp (.mk k n x s ks l) (by rw [Pob.pre_eq]; exact List.mem_cons_self)
    obtain ⟨h1, h2⟩ := chk_iff.1 h
    simp only [Pob.kids_mk] at h2
    have hl := swaps_chk fr g hg l (d + 1) h2 fun p hp' => hp p (by rw [Pob.pre_eq]; exact List.mem_cons_of_mem _ hp')
    rw [chk_iff, Pob.swap_eq]
    simp only [Pob.kids_mk, Pob.kind_mk, Pob.num_mk, Pob.gen_mk, Pob.str_mk, Pob.keys_mk] at h0 ⊢
    refine ⟨own_swap h1 (swaps_length _ _ _) (fun i => ?_) ?_, hl⟩
    · by_cases hi : i < l.length
      · rw [swaps_getD hi, swap_kind]
      · rw [List.getD, List.getD, List.getElem?_eq_none (by rw [swaps_length]; omega), List.getElem?_eq_none (by omega)]
    · by_cases hk : k = 8
      · subst hk
        right
        have hin := h0 rfl
        rw [(sw_map (x := x) hin).1, (sw_map (x := x) hin).2]
        exact ⟨rfl, (hg n hin).1, (hg n hin).2, rfl⟩
      · left
        exact sw_kind hk
theorem swaps_chk (fr : List Int) (g : Int → Int) (hg : ∀ n ∈ fr, 1 ≤ g n ∧ g n ≤ 8191) : ∀ (l : List Pob) (d : Int), (∀ x ∈ l, chk x d = 0) → (∀ p ∈ pres l, p.kind = 8 → p.num ∈ fr) → ∀ x ∈ swaps fr (fr.map g) l, chk x d = 0
  | [], _, _, _, x, hx => by simp [swaps_map] at hx
  | o :: l, d, h, hp, x, hx => by
    rw [swaps_map, List.map_cons] at hx
    rcases List.mem_cons.1 hx with rfl | hx
    · exact Pob.swap_chk fr g hg o d (h o List.mem_cons_self) fun p hp' => hp p (by rw [pres]; exact List.mem_append_left _ hp')
    · refine swaps_chk fr g hg l d (fun x hx => h x (List.mem_cons_of_mem _ hx)) (fun p hp' => hp p (by rw [pres]; exact List.mem_append_right _ hp')) x ?_
      rw [swaps_map]; exact hx
end
/-- every number of the list, greater by `q` -/
def upI (q : Int) (l : List Int) : List Int := l.map (· + q)
theorem upI_length (q : Int) (l : List Int) : (upI q l).length = l.length := by simp [upI]
theorem upI_succ {q : Int} {l : List Int} {i : Nat} (h : i < l.length) : upI q (l.take (i + 1)) = upI q (l.take i) ++ [l.getD i 0 + q] := by
  unfold upI
  rw [List.take_add_one, List.map_append]
  simp [List.getD, List.getElem?_eq_getElem h]
/-- the law of Swap -/
theorem swap_law {o : Pob} {by' : Int} (h : chk o 1 = 0) (h1 : 1 ≤ by') (h2 : by' ≤ 4000) (h3 : ∀ n ∈ refsO o, n ≤ 4000) {to : List Int} (ht : to = upI by' (refsO o)) :
    refsO (o.swap (refsO o) to) = to ∧ refsO ((o.swap (refsO o) to).swap to (refsO o)) = refsO o ∧ chk (o.swap (refsO o) to) 1 = 0 ∧ (o.swap (refsO o) to).depth = o.depth ∧
      ((o.swap (refsO o) to).swap to (refsO o)).swap (refsO o) to = o.swap (refsO o) to := by
  unfold upI at ht
  subst ht
  have hv := chk_pre o 1 h
  have hr : ∀ n ∈ refsO o, 1 ≤ n ∧ n ≤ 8191 := by
    intro n hn
    obtain ⟨p, _, hp, rfl⟩ := refs_mem.1 hn
    simp only [refB, Bool.and_eq_true, decide_eq_true_eq] at hp
    exact hp.2
  have hin : ∀ p ∈ o.pre, p.kind = 8 → p.num ∈ refsO o := fun p hp h8 => refs_mem.2 ⟨p, hp, hv p hp h8, rfl⟩
  have hg : ∀ n ∈ refsO o, 1 ≤ n + by' ∧ n + by' ≤ 8191 := fun n hn => by have := hr n hn; have := h3 n hn; omega
  have e1 := refs_swap (g := (· + by')) hv hg (fun a _ b _ hab => by show a + by' < b + by'; omega)
  have hc := Pob.swap_chk (refsO o) (· + by') hg o 1 h hin
  have hback : ((refsO o).map (· + by')).map (· - by') = refsO o := by
    rw [List.map_map]
    have : ((· - by') ∘ (· + by') : Int → Int) = id := by funext n; simp only [Function.comp, id]; omega
    rw [this, List.map_id]
  have e2 := refs_swap (o := o.swap (refsO o) ((refsO o).map (· + by'))) (g := (· - by')) (chk_pre _ 1 hc)
    (by
      rw [e1]
      intro n hn
      obtain ⟨m, hm, rfl⟩ := List.mem_map.1 hn
      have := hr m hm
      show 1 ≤ m + by' - by' ∧ m + by' - by' ≤ 8191
      omega)
    (fun a _ b _ hab => by show a - by' < b - by'; omega)
  rw [e1, hback] at e2
  have e3 := Pob.swap_again (refsO o) (· + by') (· - by') (fun n _ => by show n + by' - by' = n; omega) o hin
  rw [hback] at e3
  exact ⟨e1, e2, hc, Pob.swap_depth _ _ o, e3⟩
end Aw

namespace Go.Proofs
open Go Aw
set_option linter.unusedSimpArgs false
set_option linter.unusedVariables false
set_option maxRecDepth 100000
set_option maxHeartbeats 4000000

theorem noTL_cells (z : Pob) : noTL z.cells = true := by cases z; rfl
theorem walk_step (gl : List (Nat × AV)) (stp : List Int → Pob → List Int) (z : Pob) (l : Nat) {Ω : Mem → Prop} [LastsIn Ω]
    (hY : ∀ s o, RoundT Ω Tryz.prog gl l [.agg (Pob.cells o)] [(0, .cells [.map 1]), (1, setOf (fun n => AV.int .i64 n) s), (2, .cells z.cells)] 3 fun r h n => r = .ret (.bool true) ∧ h = [(0, .cells [.map 1]), (1, setOf (fun n => AV.int .i64 n) (stp s o)), (2, .cells z.cells)] ∧ n = 3) (N : Nat)
    (ih : ∀ s (o' : Pob), o'.bulk < N → FnT Ω Tryz.prog gl 173 [.agg o'.cells, .raw (.func (.yield l) #[] #[])] [(0, .cells [.map 1]), (1, setOf (fun n => AV.int .i64 n) s), (2, .cells z.cells)] 3 fun r h n => r = .ret (.bool true) ∧ h = [(0, .cells [.map 1]), (1, setOf (fun n => AV.int .i64 n) (o'.pre.foldl stp s)), (2, .cells z.cells)] ∧ n = 3)
    (s : List Int) (o : Pob) (hl : o.kids.length ≤ 16777216) (hb : ∀ i, i < o.kids.length → (o.kids.getD i Pob.null).bulk < N) :
    FnT Ω Tryz.prog gl 173 [.agg o.cells, .raw (.func (.yield l) #[] #[])] [(0, .cells [.map 1]), (1, setOf (fun n => AV.int .i64 n) s), (2, .cells z.cells)] 3 fun r h n => r = .ret (.bool true) ∧ h = [(0, .cells [.map 1]), (1, setOf (fun n => AV.int .i64 n) (o.pre.foldl stp s)), (2, .cells z.cells)] ∧ n = 3 := by
  have hpre := Pob.pre_eq o
  refine FnT.intro Tryz.func173 rfl rfl (by simp [Tryz.ntmps173]) ?_ ?_
  · rintro q hp' nx' ⟨rfl, rfl, rfl⟩
    exact ⟨by simp only [↓noTHm_cons, noTHm, ↓noTBm_ints, noTBm, noTL, noT, noTL_cells, Bool.and_self], _, rfl, rfl⟩
  intro B_
  simp only [argEnv, Tryz.ntmps173, Tryz.results173]
  refine AWT.rS ?_
  refine AWT.seq ?_
  refine AWT.rSC ?_
  refine OpsT.cY [0, 1, 2] (hY s o) ?_
  refine OpsT.rn ?_
  refine OpsT.nil ?_
  refine AWT.c2 ?_ ?_
  · intro h
    simp at h
  · intro _
    refine AWT.skip ?_
    refine AWT.seq ?_
    refine AWT.rS ?_
    refine AWT.block ?_
    refine AWT.lk (S := { i : Nat // i ≤ o.kids.length }) [1, 12, 13] (fun s_ => [(14, .int .i64 s_.1)]) (fun s_ => [(0, .cells [.map 1]), (1, setOf (fun n => AV.int .i64 n) ((pres (o.kids.take s_.1)).foldl stp (stp s o))), (2, .cells z.cells)]) 3 (fun s_ => o.kids.length - s_.1) ⟨0, Nat.zero_le _⟩ ?_ ?_
    · refine St.le.vx [0, 1, 2] (hpre := lt3) ?_
      simp [pres_nil]
    rintro ⟨i, hi⟩
    try dsimp only at hi
    refine AWT.rS ?_
    refine AWT.seq ?_
    refine AWT.c2 ?_ ?_
    · intro h17
      refine AWT.skip ?_
      refine AWT.seq ?_
      refine AWT.block ?_
      refine AWT.rS ?_
      refine AWT.rSC ?_
      refine OpsT.cT [0, 1, 2] (ih _ (o.kids.getD i Pob.null) (hb i (by omega))) ?_
      refine OpsT.rn ?_
      refine OpsT.nil ?_
      refine AWT.c2 ?_ ?_
      · intro h
        simp at h
      · intro _
        refine AWT.skip ?_
        refine AWT.rL ?_
        refine ⟨⟨i + 1, by omega⟩, ?_, ?_⟩
        · refine St.le.vx [0, 1, 2] (hpre := lt3) ?_
          simp [pres_take (show i < o.kids.length by omega), List.foldl_append]
        · simp only []; omega
    · intro h17
      refine AWT.exit ?_
      refine AWT.rS ?_
      refine AWT.rt ?_
      rw [hpre, List.foldl_cons, List.take_of_length_le (by omega)]
theorem walk_all (gl : List (Nat × AV)) (stp : List Int → Pob → List Int) (z : Pob) (l : Nat) {Ω : Mem → Prop} [LastsIn Ω]
    (hY : ∀ s o, RoundT Ω Tryz.prog gl l [.agg (Pob.cells o)] [(0, .cells [.map 1]), (1, setOf (fun n => AV.int .i64 n) s), (2, .cells z.cells)] 3 fun r h n => r = .ret (.bool true) ∧ h = [(0, .cells [.map 1]), (1, setOf (fun n => AV.int .i64 n) (stp s o)), (2, .cells z.cells)] ∧ n = 3) (N : Nat) :
    N ≤ 16777216 → ∀ s (o : Pob), o.bulk ≤ N → FnT Ω Tryz.prog gl 173 [.agg o.cells, .raw (.func (.yield l) #[] #[])] [(0, .cells [.map 1]), (1, setOf (fun n => AV.int .i64 n) s), (2, .cells z.cells)] 3 fun r h n => r = .ret (.bool true) ∧ h = [(0, .cells [.map 1]), (1, setOf (fun n => AV.int .i64 n) (o.pre.foldl stp s)), (2, .cells z.cells)] ∧ n = 3 := by
  induction N using Nat.strongRecOn with
  | ind N IH =>
    intro hN s o ho
    have hb := Pob.bulk_eq o
    exact walk_step gl stp z l hY N (fun s o' h => IH o'.bulk h (by omega) s o' (Nat.le_refl _)) s o (by omega) (fun i hi => Nat.lt_of_lt_of_le (Pob.bulk_kid hi) ho)
theorem each_walk (gl : List (Nat × AV)) (stp : List Int → Pob → List Int) (o : Pob) (l : Nat) {Ω : Mem → Prop} [LastsIn Ω]
    (hY : ∀ s o', RoundT Ω Tryz.prog gl l [.agg (Pob.cells o')] [(0, .cells [.map 1]), (1, setOf (fun n => AV.int .i64 n) s), (2, .cells o.cells)] 3 fun r h n => r = .ret (.bool true) ∧ h = [(0, .cells [.map 1]), (1, setOf (fun n => AV.int .i64 n) (stp s o')), (2, .cells o.cells)] ∧ n = 3)
    (s : List Int) (h : o.bulk ≤ 16777216) : FnT Ω Tryz.prog gl 172 [.raw (.func (.yield l) #[] #[]), .ptr 2 0] [(0, .cells [.map 1]), (1, setOf (fun n => AV.int .i64 n) s), (2, .cells o.cells)] 3 fun r h n => r = .ret (.tup []) ∧ h = [(0, .cells [.map 1]), (1, setOf (fun n => AV.int .i64 n) (o.pre.foldl stp s)), (2, .cells o.cells)] ∧ n = 3 := by
  refine FnT.intro Tryz.func172 rfl rfl (by simp [Tryz.ntmps172]) ?_ ?_
  · rintro q hp' nx' ⟨rfl, rfl, rfl⟩
    exact ⟨by simp only [↓noTHm_cons, noTHm, ↓noTBm_ints, noTBm, noTL, noT, noTL_cells, Bool.and_self], _, rfl, rfl⟩
  intro B_
  simp only [argEnv, Tryz.ntmps172, Tryz.results172]
  refine AWT.rLC ?_
  refine OpsT.cT [0, 1, 2] (walk_all gl stp o l hY 16777216 (Nat.le_refl _) s o h) ?_
  refine OpsT.rn ?_
  refine OpsT.nil ?_
  refine wk ?_
  all_goals first | contradiction | rfl | (simp; done) | (simp; omega)
theorem h_value_each (gl : List (Nat × AV)) (o : Pob) : FnH Tryz.prog (gl) 133 [.agg o.cells] ([]) 0 (fun r h n => r = .ret (.clos 172 [.ptr 0 0]) ∧ h = [(0, .cells o.cells)] ∧ n = 1) := by
  refine FnH.intro Tryz.func133 rfl rfl (by simp [Tryz.ntmps133]) ?_
  simp only [argEnv, Tryz.ntmps133, Tryz.results133]
  refine AW.rS ?_
  refine AW.rS ?_
  refine AW.rt ?_
  all_goals first | contradiction | rfl | (simp; done) | (simp; omega)
theorem h_maps_Keys (gl : List (Nat × AV)) (s : List Int) : FnH Tryz.prog (gl) 135 [.map 0] ([(0, setOf (fun n => AV.int .i64 n) s)]) 1 (fun r h n => r = .ret (.clos 176 [.ptr 1 0]) ∧ h = [(0, setOf (fun n => AV.int .i64 n) s), (1, .cells [.map 0])] ∧ n = 2) := by
  refine FnH.intro Tryz.func135 rfl rfl (by simp [Tryz.ntmps135]) ?_
  simp only [argEnv, Tryz.ntmps135, Tryz.results135]
  refine AW.rS ?_
  refine AW.rS ?_
  refine AW.rt ?_
  all_goals first | contradiction | rfl | (simp; done) | (simp; omega)
theorem c_value_Refs_of (gl : List (Nat × AV)) (o : Pob) (h : o.bulk ≤ 16777216)
    (hsort : FnT (fun _ => True) Tryz.prog gl 134 [.clos 176 [.ptr 1 0]] [(0, setOf (fun n => AV.int .i64 n) (o.pre.foldl refStp [])), (1, .cells [.map 0])] 2 fun r h n => r = .ret (.sl (intsAV (sortI (o.pre.foldl refStp [])))) ∧ h = [(0, setOf (fun n => AV.int .i64 n) (o.pre.foldl refStp [])), (1, .cells [.map 0])] ∧ n = 2) :
    FnP Tryz.prog gl 66 [.agg o.cells] fun r => r = .ret (.sl (intsAV (sortI (o.pre.foldl refStp [])))) := by
  refine FnP.introM Tryz.func66 rfl rfl (by simp [Tryz.ntmps66]) (by rintro q rfl; exact ⟨_, rfl⟩) ?_
  intro B_
  simp only [argEnv, Tryz.ntmps66, Tryz.results66]
  refine AWT.rS ?_
  refine AWT.rSC ?_
  refine OpsT.cs (awGuard.mkS (keyOk_int .i64) ?_)
  refine OpsT.rn ?_
  refine OpsT.nil ?_
  refine AWT.seq ?_
  refine AWT.rSC ?_
  refine OpsT.cN [] (FnT.ofH (h_value_each _ o)) ?_
  refine OpsT.rn ?_
  refine OpsT.nil ?_
  refine AWT.block ?_
  refine AWT.rg [2, 1, 3] [(3, .ptr 0 0)] [(0, .cells [.map 1]), (1, setOf (fun n => AV.int .i64 n) (o.pre.foldl refStp [])), (2, .cells o.cells)] (xs := [.ptr 2 0]) (hp0 := [(0, .cells [.map 1]), (1, setOf (fun n => AV.int .i64 n) []), (2, .cells o.cells)]) (n1 := 3) ?_ ?_
  · intro Ω _ l hr
    refine (each_walk _ refStp o l (fun s o' => ?_) [] h).mono (fun q hp nx hh => ⟨⟨_, hh.1⟩, hh.2⟩)
    refine hr (.agg o'.cells) _ 3 _ ?_
    refine AWT.rL ?_
    refine ⟨rfl, ?_⟩
    refine AWT.block ?_
    refine AWT.rSC ?_
    refine OpsT.cs (awGuard.cG (fun _ => c_value_within_int64 _ o'.num 1 8191) ?_)
    refine OpsT.rn ?_
    refine OpsT.nil ?_
    refine AWT.c2 ?_ ?_
    · intro h4
      refine AWT.rLC ?_
      refine OpsT.cs (awGuard.upS (keyOk_int .i64) ?_)
      refine OpsT.rn ?_
      refine OpsT.nil ?_
      refine ⟨rfl, ⟨23, [], [(0, .cells [.map 1]), (1, setOf (fun n => AV.int .i64 n) (refStp s o')), (2, .cells o.cells)], 3, gl, 3, []⟩, ?_, ?_, rfl, rfl, rfl⟩
      · refine St.le.vx [0, 1, 2] (hpre := lt3) ?_
        rw [show refStp s o' = setAdd s o'.num from by simp [refStp, refB, h4]]
      · simp only [↓noTHm_cons, noTHm, ↓noTBm_ints, noTBm, noTL, noT, noTL_cells, Bool.and_self]
    · intro h4
      refine AWT.skip ?_
      refine ⟨rfl, ⟨23, [], [(0, .cells [.map 1]), (1, setOf (fun n => AV.int .i64 n) (refStp s o')), (2, .cells o.cells)], 3, gl, 3, []⟩, ?_, ?_, rfl, rfl, rfl⟩
      · refine St.le.vx [0, 1, 2] (hpre := lt3) ?_
        rw [show refStp s o' = s from by
          have hn : refB o' = false := by
            simp only [refB, Bool.and_eq_false_iff, decide_eq_false_iff_not]
            omega
          simp [refStp, hn]]
      · simp only [↓noTHm_cons, noTHm, ↓noTBm_ints, noTBm, noTL, noT, noTL_cells, Bool.and_self]
  · refine AWT.rSC ?_
    refine OpsT.cN [1] (FnT.ofH (h_maps_Keys _ _)) ?_
    refine OpsT.rn ?_
    refine OpsT.cN [1, 4] hsort ?_
    refine OpsT.rn ?_
    refine OpsT.nil ?_
    refine AWT.rt ?_
    trivial
end Go.Proofs

namespace Go.Proofs
open Go.RowKit Go.Maps Go.Sort Go.Shelf
def Tryz.lays189_ren : Go.Shelf.Ren := ⟨fun | 189 => 175 | 125 => 193 | 257 => 192 | 128 => 208 | 129 => 209 | 294 => 199 | 295 => 200 | 296 => 201 | 297 => 202 | 298 => 203 | 299 => 204 | 216 => 205 | 300 => 206 | 301 => 207 | 328 => 214 | 329 => 215 | 330 => 216 | 331 => 217 | 332 => 218 | 215 => 181 | 343 => 219 | n => n, fun | 28 => 31 | 3 => 3 | 46 => 141 | 0 => 0 | 51 => 182 | 53 => 184 | 4 => 4 | 183 => 175 | 182 => 174 | 131 => 83 | 5 => 5 | 9 => 9 | 218 => 188 | 222 => 192 | 228 => 194 | 229 => 195 | n => n, fun | n => n⟩
theorem Tryz.lays189 : Go.Proofs.Lays.n189 Tryz.prog Tryz.lays189_ren := {
  mixed := by kernel_rfl
  f125 := Tryz.func193.trans (congrArg some (by kernel_rfl))
  f128 := Tryz.func208.trans (congrArg some (by kernel_rfl))
  f129 := Tryz.func209.trans (congrArg some (by kernel_rfl))
  f189 := Tryz.func175.trans (congrArg some (by kernel_rfl))
  f215 := Tryz.func181.trans (congrArg some (by kernel_rfl))
  f216 := Tryz.func205.trans (congrArg some (by kernel_rfl))
  f257 := Tryz.func192.trans (congrArg some (by kernel_rfl))
  f294 := Tryz.func199.trans (congrArg some (by kernel_rfl))
  f295 := Tryz.func200.trans (congrArg some (by kernel_rfl))
  f296 := Tryz.func201.trans (congrArg some (by kernel_rfl))
  f297 := Tryz.func202.trans (congrArg some (by kernel_rfl))
  f298 := Tryz.func203.trans (congrArg some (by kernel_rfl))
  f299 := Tryz.func204.trans (congrArg some (by kernel_rfl))
  f300 := Tryz.func206.trans (congrArg some (by kernel_rfl))
  f301 := Tryz.func207.trans (congrArg some (by kernel_rfl))
  f328 := Tryz.func214.trans (congrArg some (by kernel_rfl))
  f329 := Tryz.func215.trans (congrArg some (by kernel_rfl))
  f330 := Tryz.func216.trans (congrArg some (by kernel_rfl))
  f331 := Tryz.func217.trans (congrArg some (by kernel_rfl))
  f332 := Tryz.func218.trans (congrArg some (by kernel_rfl))
  f343 := Tryz.func219.trans (congrArg some (by kernel_rfl))
  t0 := Tryz.underlying0
  a0 := Tryz.isAgg0
  z0 := Tryz.sizeOf0
  v0 := Tryz.zeroValue0
  t3 := Tryz.underlying3
  a3 := Tryz.isAgg3
  z3 := Tryz.sizeOf3
  v3 := Tryz.zeroValue3
  t4 := Tryz.underlying4
  a4 := Tryz.isAgg4
  z4 := Tryz.sizeOf4
  v4 := Tryz.zeroValue4
  t5 := Tryz.underlying5
  a5 := Tryz.isAgg5
  z5 := Tryz.sizeOf5
  v5 := Tryz.zeroValue5
  t9 := Tryz.underlying9
  a9 := Tryz.isAgg9
  z9 := Tryz.sizeOf9
  v9 := Tryz.zeroValue9
  t28 := Tryz.underlying31
  a28 := Tryz.isAgg31
  z28 := Tryz.sizeOf31
  v28 := Tryz.zeroValue31
  t46 := Tryz.underlying141
  a46 := Tryz.isAgg141
  z46 := Tryz.sizeOf141
  v46 := Tryz.zeroValue141
  t51 := Tryz.underlying182
  a51 := Tryz.isAgg182
  z51 := Tryz.sizeOf182
  v51 := Tryz.zeroValue182
  t53 := Tryz.underlying184
  a53 := Tryz.isAgg184
  z53 := Tryz.sizeOf184
  v53 := Tryz.zeroValue184
  t131 := Tryz.underlying83
  a131 := Tryz.isAgg83
  z131 := Tryz.sizeOf83
  v131 := Tryz.zeroValue83
  t182 := Tryz.underlying174
  a182 := Tryz.isAgg174
  z182 := Tryz.sizeOf174
  v182 := Tryz.zeroValue174
  t183 := Tryz.underlying175
  a183 := Tryz.isAgg175
  z183 := Tryz.sizeOf175
  v183 := Tryz.zeroValue175
  t218 := Tryz.underlying188
  a218 := Tryz.isAgg188
  z218 := Tryz.sizeOf188
  v218 := Tryz.zeroValue188
  t222 := Tryz.underlying192
  a222 := Tryz.isAgg192
  z222 := Tryz.sizeOf192
  v222 := Tryz.zeroValue192
  t228 := Tryz.underlying194
  a228 := Tryz.isAgg194
  z228 := Tryz.sizeOf194
  v228 := Tryz.zeroValue194
  t229 := Tryz.underlying195
  a229 := Tryz.isAgg195
  z229 := Tryz.sizeOf195
  v229 := Tryz.zeroValue195 }
open Go.Sort Go.RowKit in
theorem Tryz.slices_Sort_int (blk off cap : Nat) (zs : List Int) (w : World) (hH : Holds (Value.int .i64) w blk off zs.toArray) (hblk : blk < w.heap.size) (hsz : zs.length < 4611686018427387904) :
    Calls Tryz.prog 175 #[.slice (some ⟨blk, off, none⟩) zs.length cap] w fun e w' =>
      e = .returned (.tuple #[]) ∧ ∃ n os, w' = grow (putRow (Value.int .i64) (Sort.ahead w n) blk off (zs.mergeSort fun x y => decide (x ≤ y)).toArray) os := Any.slices_Sort_int Tryz.lays189 blk off cap zs w hH hblk hsz
theorem Tryz.slices_Sort_int_none (p : Option Addr) (cap : Nat) (w : World) :
    Calls Tryz.prog 175 #[.slice p 0 cap] w fun e w' => e = .returned (.tuple #[]) ∧ w' = w := Any.slices_Sort_int_none Tryz.lays189 p cap w
def Tryz.keysA_ren : Go.Shelf.Ren := ⟨fun | 7 => 135 | 10 => 176 | n => n, fun | 23 => 99 | 26 => 3 | 3 => 4 | 28 => 133 | 0 => 0 | 27 => 132 | 33 => 138 | 4 => 4 | n => n, fun n => n⟩
def Tryz.sortedA_ren : Go.Shelf.Ren := ⟨fun | 6 => 134 | 8 => 174 | 9 => 175 | 11 => 191 | 13 => 193 | 12 => 192 | 23 => 208 | 24 => 209 | 14 => 199 | 15 => 200 | 16 => 201 | 17 => 202 | 18 => 203 | 19 => 204 | 20 => 205 | 21 => 206 | 22 => 207 | 25 => 214 | 26 => 215 | 27 => 216 | 28 => 217 | 29 => 218 | 30 => 181 | 31 => 219 | n => n, fun | 26 => 3 | 28 => 133 | 24 => 31 | 0 => 0 | 3 => 3 | 37 => 141 | 48 => 182 | 50 => 184 | 4 => 4 | 40 => 175 | 39 => 174 | 45 => 83 | 5 => 5 | 9 => 9 | 51 => 188 | 55 => 192 | 57 => 194 | 58 => 195 | 33 => 138 | n => n, fun n => n⟩
theorem Tryz.keysA : SlLaysZI.n7 Tryz.prog Tryz.keysA_ren := {
  mixed := by kernel_rfl
  f7 := ⟨"maps.Keys[map[int]bool,int,bool]", by decide, Tryz.func135.trans (congrArg some (by kernel_rfl))⟩
  f10 := ⟨"maps.Keys[map[int]bool,int,bool]$1", by decide, Tryz.func176.trans (congrArg some (by kernel_rfl))⟩
  t0 := Tryz.underlying0
  a0 := Tryz.isAgg0
  z0 := Tryz.sizeOf0
  v0 := Tryz.zeroValue0
  t4 := Tryz.underlying4
  a4 := Tryz.isAgg4
  z4 := Tryz.sizeOf4
  v4 := Tryz.zeroValue4
  t23 := Tryz.underlying99
  a23 := Tryz.isAgg99
  z23 := Tryz.sizeOf99
  v23 := Tryz.zeroValue99
  t26 := Tryz.underlying3
  a26 := Tryz.isAgg3
  z26 := Tryz.sizeOf3
  v26 := Tryz.zeroValue3
  t27 := Tryz.underlying132
  a27 := Tryz.isAgg132
  z27 := Tryz.sizeOf132
  v27 := Tryz.zeroValue132
  t28 := Tryz.underlying133
  a28 := Tryz.isAgg133
  z28 := Tryz.sizeOf133
  v28 := Tryz.zeroValue133
  t33 := Tryz.underlying138
  a33 := Tryz.isAgg138
  z33 := Tryz.sizeOf138
  v33 := Tryz.zeroValue138 }
theorem Tryz.sortedA : SlLaysZI.n6 Tryz.prog Tryz.sortedA_ren := {
  mixed := by kernel_rfl
  f6 := ⟨"slices.Sorted[int]", by decide, Tryz.func134.trans (congrArg some (by kernel_rfl))⟩
  f8 := ⟨"slices.Collect[int]", by decide, Tryz.func174.trans (congrArg some (by kernel_rfl))⟩
  f11 := ⟨"slices.AppendSeq[[]int,int]", by decide, Tryz.func191.trans (congrArg some (by kernel_rfl))⟩
  t0 := Tryz.underlying0
  a0 := Tryz.isAgg0
  z0 := Tryz.sizeOf0
  v0 := Tryz.zeroValue0
  t24 := Tryz.underlying31
  a24 := Tryz.isAgg31
  z24 := Tryz.sizeOf31
  v24 := Tryz.zeroValue31
  t26 := Tryz.underlying3
  a26 := Tryz.isAgg3
  z26 := Tryz.sizeOf3
  v26 := Tryz.zeroValue3
  t28 := Tryz.underlying133
  a28 := Tryz.isAgg133
  z28 := Tryz.sizeOf133
  v28 := Tryz.zeroValue133
  i26 := by kernel_rfl }

/-- slices.Sort at int: what slices.Sorted asks for -/
theorem Tryz.sortsA (m : Nat) : AnyZI.SortsIn Tryz.prog Tryz.sortedA_ren Fence.wide m :=
  ⟨fun blk off cap ss W hH hblk hsz => callsIn_wide.2 (Tryz.slices_Sort_int blk off cap ss W hH hblk hsz),
   fun p cap W => callsIn_wide.2 (Tryz.slices_Sort_int_none p cap W)⟩
/-- slices.Sorted(maps.Keys(m)): the second call -/
theorem Tryz.sortedKeys {H : Type} (bm b nn : Nat) (D0 : DataW H) (R : Value → Option (DataW H × List MemPlace)) (w : World) (hbm : bm < w.heap.size) (hm : w.cell? ⟨bm, 0, none⟩ = some (.map (some b))) (hown : w.ownsMap Tryz.prog 3 R b nn D0) (hmax : Maps.size D0 ≤ maxLen) (hbytes : Maps.size D0 * 8 ≤ 140737488355328) :
    Calls Tryz.prog 134 #[.func (.func 176) #[] #[.pointer (some ⟨bm, 0, none⟩)]] w fun e w' => ∃ (v : Value) (ss : List Int), e = .returned v ∧ ss.Perm (intKeys D0) ∧
      w'.ownsRow w.heap.size 3 1 v ss.length ((ss.mergeSort (fun x y => decide (x ≤ y))).map encZ) ∧ (v = .slice none 0 0 ↔ ss = []) ∧ Below w.heap.size w w' := by
  have hseq : SeqGives Fence.wide 2 Tryz.prog 176 #[.pointer (some ⟨bm, 0, none⟩)] encZ (fun ss => ss.Perm (intKeys D0)) (Maps.size D0) w :=
    AnyZI.keys_gives (ρ := Tryz.keysA_ren) { Tryz.keysA with } Fence.wide _ trivial rfl (by omega) bm b nn D0 _ hbm hm hown
  have cS := AnyZI.sorted_in Tryz.sortedA Fence.wide 5 trivial trivial trivial trivial rfl (by omega) (Tryz.sortsA _) (enters_of Tryz.func175 (by kernel_rfl) rfl) 176 #[.pointer (some ⟨bm, 0, none⟩)] trivial (enters_of Tryz.func176 (by kernel_rfl) rfl) _ _ hmax hbytes _ hseq
  exact callsIn_wide.1 cS
end Go.Proofs
