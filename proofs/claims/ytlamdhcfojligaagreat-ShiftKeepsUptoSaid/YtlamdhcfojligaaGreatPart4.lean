/- A part of the proof: no condition of its own. -/
import Derived.Test.YtlamdhcfojligaaGreatPart3
namespace Aw
open Go
def usesB (l : List Itm) (num : Int) (r : Pob) : Bool:=leadB l r && decide ((leadI l r).num = num)
def usesStp (l : List Itm) (num user : Int) (s : List Int) (r : Pob) : List Int × Bool:=if usesB l num r then (setAdd s user,true) else (s,false)
def usersAll (d : Dc) (num : Int) (s : List Int) (user : Int) (o : Pob) : List Int:=(walkR (usesStp d.items num user) s o.pre).1
def usersS (d : Dc) (num : Int) : List Int:=foldI (usersAll d num) (usersAll d num [] 0 d.trailer) d.items
def thereB (d : Dc) (num : Int) : Bool:=(mfind (netL d.items) num).isSome
def usersP (d : Dc) (num : Int) : List Int:=if docE d = 0 then (if thereB d num then sortI (usersS d num) else []) else []
theorem usesW_res (l : List Itm) (num user : Int) (L : List Pob) (s : List Int) : (walkR (usesStp l num user) s L).1 = if L.any (fun p=>decide (p.kind = 8) && usesB l num p) then setAdd s user else s:=by
 induction L generalizing s with
 | nil=>simp [walkR_nil]
 | cons o L ih =>
  rw [walkR_cons]
  by_cases hk : o.kind = 8
  ·rw [if_pos hk]
   cases hu : usesB l num o
   ·simp [usesStp,hu,ih,hk]
   ·simp [usesStp,hu,hk]
  ·rw [if_neg hk,ih]
   simp [hk]
theorem usersW_mem (d : Dc) (num : Int) (s : List Int) (n : Int) (o : Pob) (x : Int) : x ∈ usersAll d num s n o ↔ x ∈ s ∨ (o.pre.any (fun p=>decide (p.kind = 8) && usesB d.items num p) = true ∧ x = n):=by
 unfold usersAll
 rw [usesW_res]
 cases h : o.pre.any (fun p=>decide (p.kind = 8) && usesB d.items num p)
 ·simp
 ·simp [mem_setAdd]
theorem usersS_mem (d : Dc) (num x : Int) : x ∈ usersS d num ↔ ∃ q ∈ allL d,q.2.pre.any (fun p=>decide (p.kind = 8) && usesB d.items num p) = true ∧ x = q.1:=by
 have h:=foldI_mem (g:=usersAll d num) (M:=fun s x=>x ∈ s) (A:=fun n o x=>o.pre.any (fun p=>decide (p.kind = 8) && usesB d.items num p) = true ∧ x = n) (fun s n o x=>usersW_mem d num s n o x) d.items (usersAll d num [] 0 d.trailer) x
 unfold usersS
 rw [h,usersW_mem]
 simp only [List.not_mem_nil,false_or,allL,List.mem_cons,List.mem_map]
 constructor
 ·rintro (h | ⟨i,hi,h⟩)
  ·exact ⟨_,.inl rfl,h⟩
  ·exact ⟨_,.inr ⟨i,hi,rfl⟩,h⟩
 ·rintro ⟨q,rfl | ⟨i,hi,rfl⟩,h⟩
  ·exact .inl h
  ·exact .inr ⟨i,hi,h⟩
theorem items_num {d : Dc} (h : docE d = 0) : ∀ i ∈ d.items,1 ≤ i.num ∧ i.num ≤ 8191:=by
 intro i hi
 obtain ⟨j,hj,rfl⟩:=List.mem_iff_getElem.1 hi
 have h1:=(items_ok.1 (docE_items h) j hj).1
 rw [List.getD_eq_getElem?_getD,List.getElem?_eq_getElem hj] at h1
 simp only [Option.getD_some,numsB,Bool.and_eq_true,decide_eq_true_eq] at h1
 omega
def grchB (l : List Itm) (m : List Int) (r : Pob) : Bool:=leadB l r && !decide ((leadI l r).num ∈ m)
def reachStp (l : List Itm) (s : List Int × List Pob) (r : Pob) : (List Int × List Pob) × Bool :=
 (if grchB l s.1 r then (setAdd s.1 (leadI l r).num,s.2 ++ [(leadI l r).obj]) else s,false)
theorem reach_last (l : List Itm) (s : List Int × List Pob) (o : Pob) : (reachStp l s o).2 = false:=rfl
def reachI (l : List Itm) (s : List Int × List Pob) : Prop:=s.1.Nodup ∧ (∀ n ∈ s.1,n ∈ l.map (·.num)) ∧ s.2.length ≤ 1 + s.1.length
theorem nodup_le {α : Type} [DecidableEq α] : ∀ {a b : List α},a.Nodup → (∀ x ∈ a,x ∈ b) → a.length ≤ b.length
 | [],b,_,_=>by simp
 | x :: a,b,hn,hs=>by
  have hx:=hs x List.mem_cons_self
  obtain ⟨b1,b2,rfl⟩:=List.append_of_mem hx
  rw [List.nodup_cons] at hn
  have:=nodup_le (a:=a) (b:=b1 ++ b2) hn.2 (fun y hy=>by
   have:=hs y (List.mem_cons_of_mem _ hy)
   simp only [List.mem_append,List.mem_cons] at this ⊢
   rcases this with h | rfl | h
   ·exact .inl h
   ·exact absurd hy hn.1
   ·exact .inr h)
  simp only [List.length_append,List.length_cons] at this ⊢
  omega
theorem mfind_mem {κ ν : Type} [DecidableEq κ] {l : List (κ × ν)} {k : κ} {v : ν} (h : mfind l k = some v) : (k,v) ∈ l:=by
 induction l with
 | nil=>simp [mfind] at h
 | cons p l ih =>
  simp only [mfind] at h
  split at h
  ·rename_i e
   injection h with h
   rw [← e,← h]
   exact List.mem_cons_self
  ·exact List.mem_cons_of_mem _ (ih h)
theorem lead_mem {l : List Itm} {r : Pob} (h : leadB l r = true) : leadI l r ∈ l ∧ (leadI l r).num = r.num ∧ (leadI l r).gen = r.gen:=by
 unfold leadB at h
 simp only [Bool.and_eq_true,decide_eq_true_eq] at h
 obtain ⟨v,hv⟩:=Option.isSome_iff_exists.1 h.1
 have hi : leadI l r = v:=by unfold leadI; rw [hv] <;> rfl
 have hm:=mfind_mem hv
 simp only [netL,List.mem_map,Prod.mk.injEq] at hm
 obtain ⟨i,hi1,e1,rfl⟩:=hm
 rw [hi]
 exact ⟨hi1,e1,by rw [← hi]; exact h.2⟩
theorem reachI_stp {l : List Itm} (s : List Int × List Pob) (o : Pob) (h : reachI l s) : reachI l (reachStp l s o).1:=by
 simp only [reachStp]
 split
 ·rename_i hb
  simp only [grchB,Bool.and_eq_true,Bool.not_eq_true',decide_eq_false_iff_not] at hb
  obtain ⟨h1,h2,h3⟩:=h
  have e : setAdd s.1 (leadI l o).num = s.1 ++ [(leadI l o).num]:=by rw [setAdd,if_neg hb.2]
  rw [e]
  refine ⟨?_,?_,?_⟩
  ·rw [List.nodup_append]
   refine ⟨h1,by simp,fun x hx y hy=>?_⟩
   simp only [List.mem_singleton] at hy
   subst hy
   intro e
   subst e
   exact hb.2 hx
  ·intro n hn
   rcases List.mem_append.1 hn with hn | hn
   ·exact h2 n hn
   ·simp only [List.mem_singleton] at hn
    subst hn
    exact List.mem_map.2 ⟨_,(lead_mem hb.1).1,rfl⟩
  ·simp only [List.length_append,List.length_cons,List.length_nil]
   omega
 ·exact h
theorem reachI_len {l : List Itm} {s : List Int × List Pob} (h : reachI l s) : s.1.length ≤ l.length ∧ s.2.length ≤ 1 + l.length:=by
 have:=nodup_le h.1 h.2.1
 simp only [List.length_map] at this
 have:=h.2.2
 omega
def reachM (l : List Itm) (s : List Int × List Pob) : Nat:=2 * (l.length - s.1.length) + s.2.length
def popS (l : List Itm) (s : List Int × List Pob) : List Int × List Pob:=(walkR (reachStp l) (s.1,s.2.take (s.2.length - 1)) (s.2.getD (s.2.length - 1) Pob.null).pre).1
theorem pop_inv {l : List Itm} {s : List Int × List Pob} (h : reachI l s) : reachI l (s.1,s.2.take (s.2.length - 1)) :=
 ⟨h.1,h.2.1,by have:=h.2.2; simp only [List.length_take]; omega⟩
theorem popS_inv {l : List Itm} {s : List Int × List Pob} (h : reachI l s) : reachI l (popS l s):=walkR_inv (fun s o=>reachI_stp s o) _ _ (pop_inv h)
theorem walk_M {l : List Itm} (L : List Pob) (s : List Int × List Pob) (h : reachI l s) : reachM l (walkR (reachStp l) s L).1 ≤ reachM l s:=by
 induction L generalizing s with
 | nil=>simp [walkR_nil]
 | cons o L ih =>
  rw [walkR_cons]
  split
  ·rw [if_neg (by rw [reach_last]; simp)]
   refine Nat.le_trans (ih _ (reachI_stp s o h)) ?_
   have hl:=reachI_len (reachI_stp s o h)
   simp only [reachStp] at hl ⊢
   split
   ·rename_i hb
    rw [if_pos hb] at hl
    simp only [grchB,Bool.and_eq_true,Bool.not_eq_true',decide_eq_false_iff_not] at hb
    have e : setAdd s.1 (leadI l o).num = s.1 ++ [(leadI l o).num]:=by rw [setAdd,if_neg hb.2]
    rw [e] at hl ⊢
    simp only [reachM,List.length_append,List.length_cons,List.length_nil] at hl ⊢
    omega
   ·exact Nat.le_refl _
  ·exact ih s h
theorem popS_M {l : List Itm} {s : List Int × List Pob} (h : reachI l s) (hn : 0 < s.2.length) : reachM l (popS l s) < reachM l s:=by
 have:=walk_M (s.2.getD (s.2.length - 1) Pob.null).pre _ (pop_inv h)
 unfold popS
 refine Nat.lt_of_le_of_lt this ?_
 simp only [reachM,List.length_take]
 omega
def reachF (l : List Itm) : Nat → List Int × List Pob → List Int
 | 0,s=>s.1
 | f + 1,s=>if 0 < s.2.length then reachF l f (popS l s) else s.1
theorem reachF_more {l : List Itm} : ∀ (f g : Nat) (s : List Int × List Pob),reachI l s → reachM l s ≤ f → reachM l s ≤ g → reachF l f s = reachF l g s
 | f,g,s,hi,hf,hg=>by
  by_cases hn : 0 < s.2.length
  ·have hm:=popS_M hi hn
   obtain ⟨f',rfl⟩ : ∃ f',f = f' + 1:=⟨f - 1,by omega⟩
   obtain ⟨g',rfl⟩ : ∃ g',g = g' + 1:=⟨g - 1,by omega⟩
   simp only [reachF,if_pos hn]
   exact reachF_more f' g' _ (popS_inv hi) (by omega) (by omega)
  ·have e : ∀ h,reachF l h s = s.1:=fun h=>by cases h <;> simp [reachF,hn]
   rw [e,e]
def reachS (l : List Itm) (o : Pob) : List Int:=reachF l (2 * l.length + 1) ([],[o])
theorem reachI_top (l : List Itm) (o : Pob) : reachI l ([],[o]):=⟨List.nodup_nil,by simp,by simp⟩
def reachJ (l : List Itm) (o : Pob) (s : List Int × List Pob) : Prop:=reachI l s ∧ reachF l (reachM l s) s = reachS l o
theorem reachJ_top (l : List Itm) (o : Pob) : reachJ l o ([],[o]):=⟨reachI_top l o,by
 unfold reachS
 exact reachF_more _ _ _ (reachI_top l o) (Nat.le_refl _) (by simp [reachM])⟩
theorem reachJ_pop {l : List Itm} {o : Pob} {s : List Int × List Pob} (h : reachJ l o s) (hn : 0 < s.2.length) : reachJ l o (popS l s):=by
 refine ⟨popS_inv h.1,?_⟩
 rw [← h.2]
 have hm:=popS_M h.1 hn
 obtain ⟨f,hf⟩ : ∃ f,reachM l s = f + 1:=⟨reachM l s - 1,by omega⟩
 rw [hf]
 simp only [reachF,if_pos hn]
 exact reachF_more _ _ _ (popS_inv h.1) (Nat.le_refl _) (by omega)
theorem reachJ_end {l : List Itm} {o : Pob} {s : List Int × List Pob} (h : reachJ l o s) (hn : ¬ 0 < s.2.length) : s.1 = reachS l o:=by
 rw [← h.2]
 cases reachM l s <;> simp [reachF,hn]
def reachK (k : Nat) (s : List Int × List Pob) : Prop:=∀ p ∈ s.2,p.bulk ≤ k
theorem reachK_stp {l : List Itm} {k : Nat} (hb : ∀ i ∈ l,i.obj.bulk ≤ k) (s : List Int × List Pob) (o : Pob) (h : reachK k s) : reachK k (reachStp l s o).1:=by
 simp only [reachStp]
 split
 ·rename_i hr
  simp only [grchB,Bool.and_eq_true] at hr
  intro p hp
  rcases List.mem_append.1 hp with hp | hp
  ·exact h p hp
  ·simp only [List.mem_singleton] at hp
   subst hp
   exact hb _ (lead_mem hr.1).1
 ·exact h
theorem popK {k : Nat} {s : List Int × List Pob} (h : reachK k s) : reachK k (s.1,s.2.take (s.2.length - 1)):=fun p hp=>h p (List.mem_of_mem_take hp)
theorem popS_K {l : List Itm} {k : Nat} (hb : ∀ i ∈ l,i.obj.bulk ≤ k) {s : List Int × List Pob} (h : reachK k s) : reachK k (popS l s):=walkR_inv (fun s o=>reachK_stp hb s o) _ _ (popK h)
theorem reachK_at {k : Nat} {s : List Int × List Pob} (h : reachK k s) (hn : 0 < s.2.length) : (s.2.getD (s.2.length - 1) Pob.null).bulk ≤ k:=by
 rw [List.getD_eq_getElem?_getD,List.getElem?_eq_getElem (by omega)]
 exact h _ (List.getElem_mem _)
theorem nums_nodup {l : List Itm} (h : incrN l) : (l.map (·.num)).Nodup:=by
 rw [incrN_iff] at h
 unfold List.Nodup
 rw [List.pairwise_map]
 exact h.imp fun h=>Int.ne_of_lt h
theorem items_len {d : Dc} (h : docE d = 0) : d.items.length ≤ 8192:=by
 have h1:=nodup_le (nums_nodup (items_incr (docE_items h))) (b:=(List.range 8192).map Int.ofNat) (fun x hx=>by
  obtain ⟨i,hi,rfl⟩:=List.mem_map.1 hx
  have:=items_num h i hi
  exact List.mem_map.2 ⟨i.num.toNat,by rw [List.mem_range]; omega,by show (i.num.toNat : Int) = i.num; omega⟩)
 simpa using h1
theorem items_bulk {d : Dc} {k : Nat} (h : d.bulk ≤ k) : ∀ i ∈ d.items,i.obj.bulk ≤ k:=fun i hi =>
 allL_bulk (n:=i.num) (List.mem_cons_of_mem _ (List.mem_map.2 ⟨i,hi,rfl⟩)) h
theorem reachF_inv {l : List Itm} : ∀ (f : Nat) (s : List Int × List Pob),reachI l s → (reachF l f s).Nodup ∧ ∀ n ∈ reachF l f s,n ∈ l.map (·.num)
 | 0,s,h=>⟨h.1,h.2.1⟩
 | f + 1,s,h=>by
  simp only [reachF]
  split
  ·exact reachF_inv f _ (popS_inv h)
  ·exact ⟨h.1,h.2.1⟩
theorem reachS_inv (l : List Itm) (o : Pob) : (reachS l o).Nodup ∧ ∀ n ∈ reachS l o,n ∈ l.map (·.num):=reachF_inv _ _ (reachI_top l o)
theorem reachS_len (l : List Itm) (o : Pob) : (reachS l o).length ≤ l.length:=by
 have:=nodup_le (reachS_inv l o).1 (reachS_inv l o).2
 simpa using this
theorem nums_wf {d : Dc} (h : docE d = 0) : ∀ x ∈ d.items.map (·.num),1 ≤ x ∧ x ≤ 8191:=by
 intro x hx
 obtain ⟨i,hi,rfl⟩:=List.mem_map.1 hx
 exact items_num h i hi
theorem reachS_wf {d : Dc} (h : docE d = 0) (o : Pob) : ∀ x ∈ reachS d.items o,1 ≤ x ∧ x ≤ 8191:=fun x hx=>nums_wf h x ((reachS_inv d.items o).2 x hx)
def fromP (d : Dc) (o : Pob) : List Int:=if docE d = 0 ∧ chk o 1 = 0 then sortI (reachS d.items o) else []
mutual
def Pob.rr : Pob → List Pob
 | .mk k n g s ks l=>if k = 8 then [.mk k n g s ks l] else rrs l
def rrs : List Pob → List Pob
 | []=>[]
 | o :: l=>o.rr ++ rrs l
end
theorem rr_eq (o : Pob) : o.rr = if o.kind = 8 then [o] else rrs o.kids:=by cases o; simp only [Pob.rr,Pob.kind,Pob.kids]; rfl
theorem rrs_append (a b : List Pob) : rrs (a ++ b) = rrs a ++ rrs b:=by
 induction a with
 | nil=>simp [rrs]
 | cons o a ih=>simp [rrs,ih]
theorem rrs_take {l : List Pob} {i : Nat} (h : i < l.length) : rrs (l.take (i + 1)) = rrs (l.take i) ++ (l.getD i Pob.null).rr:=by
 rw [List.take_add_one,rrs_append,List.getElem?_eq_getElem h]
 simp [rrs,List.getD,List.getElem?_eq_getElem h]
mutual
theorem rr_len : ∀ o : Pob,o.rr.length ≤ o.bulk
 | .mk k n g s ks l=>by
  have:=rrs_len l
  simp only [Pob.rr,Pob.bulk]
  split <;> simp <;> omega
theorem rrs_len : ∀ l : List Pob,(rrs l).length ≤ bulks l
 | []=>by simp [rrs]
 | o :: l=>by
  have h1:=rr_len o
  have h2:=rrs_len l
  simp only [rrs,List.length_append,bulks]
  omega
end
def leadR (l : List Itm) (r : Pob) : Option Itm:=l.find? fun i=>decide (i.num = r.num) && decide (i.gen = r.gen)
def usesR (d : Dc) (num : Int) (o : Pob) : Bool:=o.rr.any fun x=>(leadR d.items x).isSome && decide (((leadR d.items x).getD Itm.zero).num = num)
def inS (l : List Itm) (s : List Int) (r : Pob) : Prop:=∀ i,leadR l r = some i → i.num ∈ s
def closedR (l : List Itm) (start : List Pob) (s : List Int) : Prop:=(∀ r ∈ start,inS l s r) ∧ ∀ i ∈ l,i.num ∈ s → ∀ r ∈ i.obj.rr,inS l s r
def leastR (l : List Itm) (start : List Pob) (s : List Int) : Prop:=closedR l start s ∧ ∀ s',closedR l start s' → ∀ n ∈ s,n ∈ s'
def restR (l : List Itm) (met : List Int) : Nat:=((l.filter fun i=>!decide (i.num ∈ met)).map fun i=>i.obj.rr.length).sum
theorem restR_cons (x : Itm) (l : List Itm) (met : List Int) : restR (x :: l) met = (if x.num ∈ met then 0 else x.obj.rr.length) + restR l met:=by
 unfold restR
 rw [List.filter_cons]
 by_cases h : x.num ∈ met <;> simp [h]
theorem restR_more (l : List Itm) (met : List Int) (n : Int) : restR l (met ++ [n]) ≤ restR l met:=by
 induction l with
 | nil=>simp [restR]
 | cons x l ih =>
  rw [restR_cons,restR_cons]
  by_cases h : x.num ∈ met
  ·rw [if_pos (List.mem_append_left _ h),if_pos h]
   omega
  ·rw [if_neg h]
   split <;> omega
theorem restR_add {l : List Itm} {met : List Int} {i : Itm} (hi : i ∈ l) (hn : ¬ i.num ∈ met) : restR l (met ++ [i.num]) + i.obj.rr.length ≤ restR l met:=by
 induction l with
 | nil=>cases hi
 | cons x l ih =>
  rw [restR_cons,restR_cons]
  rcases List.mem_cons.1 hi with rfl | hi
  ·have:=restR_more l met i.num
   rw [if_pos (by simp),if_neg hn]
   omega
  ·have:=ih hi
   by_cases h : x.num ∈ met
   ·rw [if_pos (List.mem_append_left _ h),if_pos h]
    omega
   ·rw [if_neg h]
    split <;> omega
theorem restR_le (l : List Itm) (met : List Int) : restR l met ≤ ibulk l:=by
 induction l with
 | nil=>simp [restR]
 | cons x l ih =>
  have:=rr_len x.obj
  rw [restR_cons,ibulk_cons]
  split <;> omega
structure FromJ (l : List Itm) (start : List Pob) (met : List Int) (todo : List Pob) : Prop where
 nd : met.Nodup
 sub : ∀ n ∈ met,n ∈ l.map (·.num)
 st : ∀ r ∈ start,inS l met r ∨ r ∈ todo
 it : ∀ i ∈ l,i.num ∈ met → ∀ r ∈ i.obj.rr,inS l met r ∨ r ∈ todo
 least : ∀ s',closedR l start s' → (∀ n ∈ met,n ∈ s') ∧ ∀ r ∈ todo,inS l s' r
 small : todo.length + restR l met ≤ 33554432
theorem leadR_mem {l : List Itm} {r : Pob} {i : Itm} (h : leadR l r = some i) : i ∈ l ∧ i.num = r.num ∧ i.gen = r.gen:=by
 have h1:=List.mem_of_find?_eq_some h
 have h2:=List.find?_some h
 simp only [Bool.and_eq_true,decide_eq_true_eq] at h2
 exact ⟨h1,h2⟩
theorem FromJ.top (l : List Itm) (o : Pob) (h : o.rr.length + ibulk l ≤ 33554432) : FromJ l o.rr [] o.rr :=
 ⟨List.nodup_nil,fun _ h=>absurd h List.not_mem_nil,fun _ h=>.inr h,fun _ _ h=>absurd h List.not_mem_nil,fun _ hs=>⟨fun _ h=>absurd h List.not_mem_nil,hs.1⟩,by
  have:=restR_le l []
  omega⟩
theorem FromJ.skip {l : List Itm} {start : List Pob} {met : List Int} {x : Pob} {todo : List Pob} (h : FromJ l start met (x :: todo)) (hx : inS l met x) : FromJ l start met todo:=by
 refine ⟨h.nd,h.sub,fun r hr=>?_,fun i hi hm r hr=>?_,fun s' hs=>⟨(h.least s' hs).1,fun r hr=>(h.least s' hs).2 r (List.mem_cons_of_mem _ hr)⟩,by have:=h.small; simp only [List.length_cons] at this; omega⟩
 ·rcases h.st r hr with g | g
  ·exact .inl g
  ·rcases List.mem_cons.1 g with rfl | g
   ·exact .inl hx
   ·exact .inr g
 ·rcases h.it i hi hm r hr with g | g
  ·exact .inl g
  ·rcases List.mem_cons.1 g with rfl | g
   ·exact .inl hx
   ·exact .inr g
theorem inS_more {l : List Itm} {s : List Int} {r : Pob} (h : inS l s r) (n : Int) : inS l (s ++ [n]) r:=fun i hi=>List.mem_append_left _ (h i hi)
theorem FromJ.add {l : List Itm} {start : List Pob} {met : List Int} {x : Pob} {todo : List Pob} {i : Itm} (hl : incrN l) (h : FromJ l start met (x :: todo)) (hx : leadR l x = some i) (hn : ¬ i.num ∈ met) : FromJ l start (met ++ [i.num]) (todo ++ i.obj.rr):=by
 have hm:=(leadR_mem hx).1
 have hin : inS l (met ++ [i.num]) x:=fun j hj=>by
  rw [hx] at hj
  injection hj with hj
  subst hj
  simp
 refine ⟨?_,fun n hn'=>?_,fun r hr=>?_,fun j hj hm' r hr=>?_,fun s' hs=>?_,?_⟩
 ·rw [List.nodup_append]
  refine ⟨h.nd,by simp,fun a ha b hb=>?_⟩
  simp only [List.mem_singleton] at hb
  subst hb
  intro e
  subst e
  exact hn ha
 ·rcases List.mem_append.1 hn' with g | g
  ·exact h.sub n g
  ·simp only [List.mem_singleton] at g
   subst g
   exact List.mem_map.2 ⟨i,hm,rfl⟩
 ·rcases h.st r hr with g | g
  ·exact .inl (inS_more g _)
  ·rcases List.mem_cons.1 g with rfl | g
   ·exact .inl hin
   ·exact .inr (List.mem_append_left _ g)
 ·rcases List.mem_append.1 hm' with g | g
  ·rcases h.it j hj g r hr with g | g
   ·exact .inl (inS_more g _)
   ·rcases List.mem_cons.1 g with rfl | g
    ·exact .inl hin
    ·exact .inr (List.mem_append_left _ g)
  ·simp only [List.mem_singleton] at g
   have e : j = i:=incr_one hl hj hm g
   subst e
   exact .inr (List.mem_append_right _ hr)
 ·obtain ⟨h1,h2⟩:=h.least s' hs
  have hi : i.num ∈ s':=h2 x List.mem_cons_self i hx
  refine ⟨fun n hn'=>?_,fun r hr=>?_⟩
  ·rcases List.mem_append.1 hn' with g | g
   ·exact h1 n g
   ·simp only [List.mem_singleton] at g
    subst g
    exact hi
  ·rcases List.mem_append.1 hr with g | g
   ·exact h2 r (List.mem_cons_of_mem _ g)
   ·exact hs.2 i hm hi r g
 ·have h1:=h.small
  have h2:=restR_add hm hn
  simp only [List.length_cons,List.length_append] at h1 ⊢
  omega
theorem FromJ.end {l : List Itm} {start : List Pob} {met : List Int} (h : FromJ l start met []) : leastR l start met :=
 ⟨⟨fun r hr=>(h.st r hr).elim id (fun g=>absurd g List.not_mem_nil),fun i hi hm r hr=>(h.it i hi hm r hr).elim id (fun g=>absurd g List.not_mem_nil)⟩,fun s' hs=>(h.least s' hs).1⟩
theorem FromJ.len {l : List Itm} {start : List Pob} {met : List Int} {todo : List Pob} (h : FromJ l start met todo) : met.length ≤ l.length:=by
 have:=nodup_le h.nd h.sub
 simpa using this
theorem chk_ref {o : Pob} {k : Int} (h : chk o k = 0) (h8 : o.kind = 8) : o.kids = []:=by
 have hu:=(ownE_iff.1 (chk_iff.1 h).1).2.1
 have h2 : uKids o.kind = false:=by rw [h8]; decide
 rcases hl : o.kids with _ | ⟨x,l⟩
 ·rfl
 ·exfalso
  simp [useB,h2,hl] at hu
  omega
mutual
theorem chk_rr : ∀ (o : Pob) (d : Int),chk o d = 0 → o.rr = o.pre.filter fun p=>decide (p.kind = 8)
 | .mk k n g s ks l,d,h=>by
  rw [Pob.pre_eq,rr_eq]
  by_cases h8 : (Pob.mk k n g s ks l).kind = 8
  ·have hk:=chk_ref h h8
   rw [if_pos h8,List.filter_cons,if_pos (by rw [h8]; decide),hk,pres_nil]
   rfl
  ·rw [if_neg h8,List.filter_cons,if_neg (by simpa using h8)]
   exact chks_rr l (d + 1) (fun x hx=>(chk_iff.1 h).2 x hx)
theorem chks_rr : ∀ (l : List Pob) (d : Int),(∀ x ∈ l,chk x d = 0) → rrs l = (pres l).filter fun p=>decide (p.kind = 8)
 | [],_,_=>by simp [rrs,pres_nil]
 | o :: l,d,h=>by
  rw [rrs,pres,List.filter_append,← chk_rr o d (h o List.mem_cons_self),← chks_rr l d (fun x hx=>h x (List.mem_cons_of_mem _ hx))]
end
theorem leadR_yes {l : List Itm} (hl : incrN l) {r : Pob} (h : leadB l r = true) : leadR l r = some (leadI l r):=by
 obtain ⟨h1,h2,h3⟩:=lead_mem h
 cases e : leadR l r with
 | none =>
  unfold leadR at e
  rw [List.find?_eq_none] at e
  have:=e _ h1
  simp [h2,h3] at this
 | some x =>
  obtain ⟨g1,g2,_⟩:=leadR_mem e
  rw [incr_one hl g1 h1 (by rw [g2,h2])]
theorem leadR_no {l : List Itm} (hl : incrN l) {r : Pob} (h : leadB l r = false) : leadR l r = none:=by
 cases e : leadR l r with
 | none=>rfl
 | some x =>
  exfalso
  obtain ⟨g1,g2,g3⟩:=leadR_mem e
  cases hm : mfind (netL l) r.num with
  | none =>
   rw [mfind_none] at hm
   refine hm ?_
   rw [← g2]
   simp only [netL,List.map_map,List.mem_map]
   exact ⟨x,g1,rfl⟩
  | some v =>
   have hv:=mfind_mem hm
   simp only [netL,List.mem_map,Prod.mk.injEq] at hv
   obtain ⟨y,hy,e1,rfl⟩:=hv
   have : y = x:=incr_one hl hy g1 (by rw [e1,g2])
   subst this
   simp [leadB,leadI,hm,g3] at h
theorem sortI_mem {s : List Int} {n : Int} : n ∈ sortI s ↔ n ∈ s:=(List.mergeSort_perm s _).mem_iff
theorem FromJ.perm {l : List Itm} {start : List Pob} {met : List Int} {a b : List Pob} (h : FromJ l start met a) (hp : a.Perm b) : FromJ l start met b :=
 ⟨h.nd,h.sub,fun r hr=>(h.st r hr).imp id (fun g=>hp.mem_iff.1 g),fun i hi hm r hr=>(h.it i hi hm r hr).imp id (fun g=>hp.mem_iff.1 g),fun s' hs=>⟨(h.least s' hs).1,fun r hr=>(h.least s' hs).2 r (hp.mem_iff.2 hr)⟩,by rw [← hp.length_eq]; exact h.small⟩
theorem walk_fold (l : List Itm) : ∀ (L : List Pob) (s : List Int × List Pob),(walkR (reachStp l) s L).1 = (L.filter fun p=>decide (p.kind = 8)).foldl (fun s r=>(reachStp l s r).1) s
 | [],s=>rfl
 | o :: L,s=>by
  rw [walkR_cons,List.filter_cons]
  by_cases hk : o.kind = 8
  ·rw [if_pos hk,if_neg (by rw [reach_last]; simp),if_pos (by simpa using hk),List.foldl_cons]
   exact walk_fold l L _
  ·rw [if_neg hk,if_neg (by simpa using hk)]
   exact walk_fold l L s
theorem rrs_one (o : Pob) : rrs [o] = o.rr:=by simp [rrs]
theorem fold_J {l : List Itm} {start : List Pob} (hl : incrN l) : ∀ (L : List Pob) (s : List Int × List Pob),FromJ l start s.1 (L ++ rrs s.2) →
  FromJ l start (L.foldl (fun s r=>(reachStp l s r).1) s).1 (rrs (L.foldl (fun s r=>(reachStp l s r).1) s).2)
 | [],s,h=>h
 | r :: L,s,h=>by
  rw [List.foldl_cons]
  refine fold_J hl L _ ?_
  simp only [reachStp]
  cases hb : grchB l s.1 r
  ·simp only [Bool.false_eq_true,if_false]
   refine h.skip (fun i hi=>?_)
   simp only [grchB,Bool.and_eq_false_iff,Bool.not_eq_false',decide_eq_true_eq] at hb
   rcases hb with hb | hb
   ·rw [leadR_no hl hb] at hi
    cases hi
   ·cases hlb : leadB l r
    ·rw [leadR_no hl hlb] at hi
     cases hi
    ·rw [leadR_yes hl hlb] at hi
     injection hi with hi
     rw [← hi]
     exact hb
  ·simp only [if_true]
   simp only [grchB,Bool.and_eq_true,Bool.not_eq_true',decide_eq_false_iff_not] at hb
   have:=h.add hl (leadR_yes hl hb.1) hb.2
   rw [setAdd,if_neg hb.2,rrs_append,rrs_one,← List.append_assoc]
   exact this
theorem pop_J {l : List Itm} {start : List Pob} (hl : incrN l) {s : List Int × List Pob} (h : FromJ l start s.1 (rrs s.2)) (hn : 0 < s.2.length) (hv : ∀ p ∈ s.2,∃ k,chk p k = 0) :
  FromJ l start (popS l s).1 (rrs (popS l s).2):=by
 unfold popS
 rw [walk_fold]
 have hm : s.2.getD (s.2.length - 1) Pob.null ∈ s.2:=by
  rw [List.getD_eq_getElem?_getD,List.getElem?_eq_getElem (by omega)]
  exact List.getElem_mem _
 obtain ⟨k,hk⟩:=hv _ hm
 rw [← chk_rr _ k hk]
 refine fold_J hl _ _ ?_
 have e : rrs s.2 = rrs (s.2.take (s.2.length - 1)) ++ (s.2.getD (s.2.length - 1) Pob.null).rr:=by
  rw [← rrs_take (l:=s.2) (i:=s.2.length - 1) (by omega),List.take_of_length_le (by omega)]
 rw [e] at h
 exact h.perm List.perm_append_comm
theorem fold_V {l : List Itm} (hv : ∀ i ∈ l,∃ k,chk i.obj k = 0) : ∀ (L : List Pob) (s : List Int × List Pob),(∀ p ∈ s.2,∃ k,chk p k = 0) → ∀ p ∈ (L.foldl (fun s r=>(reachStp l s r).1) s).2,∃ k,chk p k = 0
 | [],s,h=>h
 | r :: L,s,h=>by
  rw [List.foldl_cons]
  refine fold_V hv L _ ?_
  simp only [reachStp]
  split
  ·rename_i hb
   simp only [grchB,Bool.and_eq_true] at hb
   intro p hp
   rcases List.mem_append.1 hp with hp | hp
   ·exact h p hp
   ·simp only [List.mem_singleton] at hp
    subst hp
    exact hv _ (lead_mem hb.1).1
  ·exact h
theorem reachF_least {l : List Itm} {start : List Pob} (hl : incrN l) (hv : ∀ i ∈ l,∃ k,chk i.obj k = 0) : ∀ (f : Nat) (s : List Int × List Pob),reachI l s → reachM l s ≤ f → FromJ l start s.1 (rrs s.2) → (∀ p ∈ s.2,∃ k,chk p k = 0) → leastR l start (reachF l f s)
 | 0,s,hi,hf,h,_=>by
  have h0 : s.2 = []:=by
   simp only [reachM] at hf
   exact List.eq_nil_of_length_eq_zero (by omega)
  rw [h0] at h
  exact FromJ.end h
 | f + 1,s,hi,hf,h,hs=>by
  simp only [reachF]
  by_cases hn : 0 < s.2.length
  ·rw [if_pos hn]
   refine reachF_least hl hv f _ (popS_inv hi) (by have:=popS_M hi hn; omega) (pop_J hl h hn hs) ?_
   unfold popS
   rw [walk_fold]
   exact fold_V hv _ _ (fun p hp=>hs p (List.mem_of_mem_take hp))
  ·rw [if_neg hn]
   have h0 : s.2 = []:=List.eq_nil_of_length_eq_zero (by omega)
   rw [h0] at h
   exact FromJ.end h
theorem items_chk {d : Dc} (h : docE d = 0) : ∀ i ∈ d.items,∃ k,chk i.obj k = 0:=fun i hi=>doc_chk h (i.num,i.obj) (List.mem_cons_of_mem _ (List.mem_map.2 ⟨i,hi,rfl⟩))
theorem reachS_least {d : Dc} {o : Pob} (h : docE d = 0) {k : Int} (hc : chk o k = 0) (hs : o.rr.length + ibulk d.items ≤ 33554432) : leastR d.items o.rr (reachS d.items o):=by
 unfold reachS
 refine reachF_least (items_incr (docE_items h)) (items_chk h) _ _ (reachI_top _ _) (by simp [reachM]) ?_ (fun p hp=>⟨k,by simp only [List.mem_singleton] at hp; rw [hp]; exact hc⟩)
 rw [rrs_one]
 exact FromJ.top _ _ hs
theorem rrs_mem {l : List Pob} {x : Pob} : x ∈ rrs l ↔ ∃ o ∈ l,x ∈ o.rr:=by
 induction l with
 | nil=>simp [rrs]
 | cons o l ih=>simp [rrs,ih]
theorem usesR_eq {d : Dc} (h : docE d = 0) (num : Int) {o : Pob} {k : Int} (hk : chk o k = 0) : usesR d num o = o.pre.any fun p=>decide (p.kind = 8) && usesB d.items num p:=by
 have hl:=items_incr (docE_items h)
 unfold usesR
 rw [chk_rr _ k hk,List.any_filter]
 congr 1
 funext p
 cases hb : leadB d.items p
 ·rw [leadR_no hl hb]
  simp [usesB,hb]
 ·rw [leadR_yes hl hb]
  simp [usesB,hb]
end Aw
namespace Aw
open Go
theorem sortI_len (s : List Int) : (sortI s).length = s.length:=(List.mergeSort_perm s _).length_eq
theorem fromP_len (d : Dc) (o : Pob) : (fromP d o).length ≤ 8192:=by
 unfold fromP
 split
 ·rename_i h
  rw [sortI_len]
  exact Nat.le_trans (reachS_len _ _) (items_len h.1)
 ·simp
theorem chk_top {d : Dc} (h : docE d = 0) : chk d.trailer 1 = 0:=by
 have h1:=docE_trail h
 by_cases hc : chk d.trailer 1 = 0
 ·exact hc
 ·rw [trail_bad hc] at h1
  exact absurd h1 hc
theorem fromP_top {d : Dc} (h : docE d = 0) : fromP d d.trailer = sortI (reachS d.items d.trailer):=by rw [fromP,if_pos ⟨h,chk_top h⟩]
theorem use_iff {d : Dc} (h : docE d = 0) {num : Int} {o : Pob} {k : Int} (hk : chk o k = 0) : (o.pre.any fun p=>decide (p.kind = 8) && usesB d.items num p) = true ↔ ∃ r ∈ o.rr,∃ i,leadR d.items r = some i ∧ i.num = num:=by
 have hl:=items_incr (docE_items h)
 rw [← usesR_eq h num hk,usesR,List.any_eq_true]
 constructor
 ·rintro ⟨r,hr,hu⟩
  simp only [Bool.and_eq_true,decide_eq_true_eq] at hu
  obtain ⟨i,hi⟩:=Option.isSome_iff_exists.1 hu.1
  rw [hi] at hu
  exact ⟨r,hr,i,hi,hu.2⟩
 ·rintro ⟨r,hr,i,hi,hn⟩
  exact ⟨r,hr,by simp [hi,hn]⟩
theorem leadR_some {l : List Itm} (h : incrN l) {r : Pob} {i : Itm} (hi : i ∈ l) (hn : i.num = r.num) (hg : i.gen = r.gen) : leadR l r = some i:=by
 cases e : leadR l r with
 | none =>
  exfalso
  unfold leadR at e
  rw [List.find?_eq_none] at e
  have:=e i hi
  simp [hn,hg] at this
 | some x =>
  obtain ⟨g1,g2,_⟩:=leadR_mem e
  rw [incr_one h g1 hi (by rw [g2,hn])]
structure AddF (d x : Dc) (o : Pob) (n : Int) : Prop where
 d0 : docE d = 0
 x0 : docE x = 0
 tr : x.trailer = d.trailer
 mem : ∀ i,i ∈ x.items ↔ i = ⟨n,0,o⟩ ∨ i ∈ d.items
 lt : ∀ i ∈ d.items,i.num < n
 pos : 0 < n
variable {d x : Dc} {o : Pob} {n : Int}
structure AddN (d x : Dc) (o : Pob) (n : Int) : Prop extends AddF d x o n where
 hd : ∀ q ∈ allL d,∀ r ∈ q.2.rr,r.num ≠ n
 ho : ∀ r ∈ o.rr,r.num ≠ n
theorem AddN.all (h : AddN d x o n) : ∀ q ∈ allL x,∀ r ∈ q.2.rr,r.num ≠ n:=by
 intro q hq r hr
 rcases List.mem_cons.1 hq with rfl | hq
 ·rw [h.tr] at hr
  exact h.hd _ List.mem_cons_self r hr
 ·obtain ⟨i,hi,rfl⟩:=List.mem_map.1 hq
  rcases (h.mem i).1 hi with rfl | hi
  ·exact h.ho r hr
  ·exact h.hd _ (List.mem_cons_of_mem _ (List.mem_map.2 ⟨i,hi,rfl⟩)) r hr
theorem users_iff {d : Dc} (h : docE d = 0) {num u : Int} : u ∈ usersS d num ↔ ∃ q ∈ allL d,(∃ r ∈ q.2.rr,∃ i,leadR d.items r = some i ∧ i.num = num) ∧ u = q.1:=by
 rw [usersS_mem]
 constructor
 ·rintro ⟨q,hq,ha,e⟩
  obtain ⟨k,hk⟩:=doc_chk h q hq
  exact ⟨q,hq,(use_iff h hk).1 ha,e⟩
 ·rintro ⟨q,hq,ha,e⟩
  obtain ⟨k,hk⟩:=doc_chk h q hq
  exact ⟨q,hq,(use_iff h hk).2 ha,e⟩
theorem there_item {d : Dc} {i : Itm} (hi : i ∈ d.items) : thereB d i.num = true:=by
 unfold thereB
 cases hmf : mfind (netL d.items) i.num with
 | some v=>rfl
 | none =>
  exfalso
  rw [mfind_none] at hmf
  refine hmf ?_
  simp only [netL,List.map_map,List.mem_map]
  exact ⟨i,hi,rfl⟩
theorem usersP_mem {d : Dc} (h : docE d = 0) {i : Itm} (hi : i ∈ d.items) {u : Int} : u ∈ usersP d i.num ↔ u ∈ usersS d i.num:=by rw [usersP,if_pos h,if_pos (there_item hi),sortI_mem]
theorem AddN.none (h : AddN d x o n) : usersP x n = []:=by
 refine List.eq_nil_iff_forall_not_mem.2 fun u hu=>?_
 have hu':=(usersP_mem (i:=⟨n,0,o⟩) h.x0 ((h.mem _).2 (.inl rfl))).1 hu
 obtain ⟨q,hq,⟨r,hr,i,hi,e⟩,_⟩:=(users_iff h.x0).1 hu'
 exact h.all q hq r hr ((leadR_mem hi).2.1.symm.trans e)
end Aw

set_option linter.unusedVariables false
set_option linter.unusedSimpArgs false
namespace Aw
open Go
theorem incr_iff {ks : List (List UInt8)} : incr ks ↔ ks.Pairwise fun a b=>Op.bytesLess a b = true:=by
 rw [List.pairwise_iff_getElem]
 constructor
 ·intro h i j hi hj hij
  have:=h i j hij hj
  simpa [List.getD,hi,hj] using this
 ·intro h a b hab hb
  have:=h a b (by omega) hb hab
  simpa [List.getD,hb,show a < ks.length by omega] using this
end Aw

namespace Aw
open Go
def keepK (u ks : List (List UInt8)) : List (List UInt8):=ks.filter fun k=>!decide (k ∈ u)
def keep1 (u ks : List (List UInt8)) : Bool:=match ks with
 | []=>true
 | k :: _=>!decide (k ∈ u)
mutual
def stripO (u : List (List UInt8)) : Pob → Pob
 | .mk k n g s ks l=>.mk k n g s (keepK u (ks.take l.length)) (stripL u l ks)
def stripL (u : List (List UInt8)) : List Pob → List (List UInt8) → List Pob
 | [],_=>[]
 | o :: l,ks=>if keep1 u ks = true then stripO u o :: stripL u l ks.tail else stripL u l ks.tail
end
variable {u : List (List UInt8)}
theorem has_zip {o : Pob} (h : o.keys.length = o.kids.length) {k : List UInt8} {v : Pob} : o.has k v ↔ (k,v) ∈ o.keys.zip o.kids:=by
 unfold Pob.has
 rw [List.mem_iff_getElem]
 constructor
 ·rintro ⟨i,hi,rfl,rfl⟩
  refine ⟨i,by simp; omega,?_⟩
  simp [List.getD,hi,show i < o.kids.length by omega]
 ·rintro ⟨i,hi,e⟩
  simp only [List.length_zip] at hi
  rw [List.getElem_zip] at e
  injection e with e1 e2
  exact ⟨i,by omega,by simp [List.getD,show i < o.keys.length by omega,e1],by simp [List.getD,show i < o.kids.length by omega,e2]⟩
theorem ownE_plain {a b : Pob} {d : Int} (h1 : a.kind = b.kind) (h2 : a.num = b.num) (h3 : a.gen = b.gen) (h4 : a.str = b.str) (h5 : a.keys = b.keys) (h6 : a.kids.length = b.kids.length) (hk : keyedB a.kind = false) : ownE a d = ownE b d:=by
 have hu : uKeys b.kind = false:=by rw [← h1]; exact hk
 have e1 : useB a d = useB b d:=by unfold useB; rw [h1,h2,h3,h4,h5,h6]
 have e2 : fitsB a = fitsB b:=by unfold fitsB; rw [h1,h2,h3]
 have e3 : shortB a = shortB b:=by unfold shortB; rw [h1,h4]
 have e4 : formB a = formB b:=by unfold formB; rw [h1,h4,hu] <;> rfl
 unfold ownE
 rw [e1,e2,e3,e4,h6]
theorem unkeyed_keys {o : Pob} {d : Int} (h : chk o d = 0) (hk : keyedB o.kind = false) : o.keys = []:=by
 have h1:=(ownE_spec (chk_own h)).2.1
 have hu : uKeys o.kind = false:=hk
 unfold useB at h1
 rw [hu] at h1
 by_cases e : o.keys = []
 ·exact e
 ·exfalso
  have : decide ((o.keys.length : Int) = 0) = false:=by
   have : o.keys.length ≠ 0:=fun h=>e (List.eq_nil_of_length_eq_zero h)
   simp
   exact e
  simp only [this,cond_false,Bool.cond_false_right,Bool.and_false] at h1
  cases h1
theorem kid_bulk {o x : Pob} (h : x ∈ o.kids) : x.bulk < o.bulk:=by
 obtain ⟨i,hi,rfl⟩:=List.getElem_of_mem h
 have h1:=bulks_get hi
 rw [show o.kids.getD i Pob.null = o.kids[i] from by simp [List.getD,hi]] at h1
 rw [Pob.bulk_eq o]
 omega
attribute [irreducible] stripO stripL
end Aw

namespace Aw
open Go
set_option linter.unusedVariables false
def cInfoK : List UInt8:=[73,110,102,111]
def cIdK : List UInt8:=[73,68]
def cut1 (u : List (List UInt8)) (t : Pob) (k : List UInt8) : Pob:=if k ∈ u then dropO t k else t
def cleanT (u : List (List UInt8)) (t : Pob) : Pob:=cut1 u (cut1 u t cInfoK) cIdK
def stripI (u : List (List UInt8)) (i : Itm) : Itm:=⟨i.num,i.gen,stripO u i.obj⟩
def cleanX (u : List (List UInt8)) (d : Dc) : Dc:=⟨d.items.map (stripI u),cleanT u d.trailer⟩
def cleanR (u : List (List UInt8)) (d : Dc) : List Int:=fromP (cleanX u d) (cleanX u d).trailer
def cleanC (u : List (List UInt8)) (d : Dc) : Dc:=⟨(cleanX u d).items.filter fun i=>decide (i.num ∈ cleanR u d),(cleanX u d).trailer⟩
def cleanD (u : List (List UInt8)) (d : Dc) : Dc:=if docE d ≠ 0 then Dc.zero else cleanC u d
variable {u : List (List UInt8)} {d : Dc}
structure TrOk (t : Pob) : Prop where
 c : chk t 1 = 0
 k : t.kind = 7
theorem TrOk.key {t : Pob} (h : TrOk t) : keyedB t.kind = true:=by simp [keyedB,h.k]
theorem TrOk.kv {t : Pob} (h : TrOk t) : t.kvOk:=kvOk_of_chk h.c h.key
theorem doc_tr (h : docE d = 0) : TrOk d.trailer:=⟨(trail_parts (docE_trail h)).1,(trail_parts (docE_trail h)).2.1⟩
theorem lead_look {l : List Itm} (h : incrN l) {r : Pob} {i : Itm} : leadR l r = some i ↔ lookI l r.num = some i ∧ i.gen = r.gen:=by
 constructor
 ·intro e
  obtain ⟨g1,g2,g3⟩:=leadR_mem e
  exact ⟨(look_some h).2 ⟨g1,g2⟩,g3⟩
 ·rintro ⟨e,g⟩
  obtain ⟨g1,g2⟩:=(look_some h).1 e
  exact leadR_some h g1 g2 g
theorem content_parts {i : Itm} (h : contentE i = 0) : chk i.obj 1 = 0 ∧ ¬ (i.obj.kind = 8 ∨ holdsB i.obj = true):=by
 by_cases h1 : chk i.obj 1 = 0
 ·refine ⟨h1,fun h2=>?_⟩
  rw [content_knd h1 h2] at h
  cases h
 ·rw [content_bad h1] at h
  exact absurd h h1
theorem trailOk_iff {ks : List (List UInt8)} : trailOk ks ↔ ∀ k ∈ ks,0 ≤ kidxI trailK k:=by
 unfold trailOk
 constructor
 ·intro h k hk
  obtain ⟨i,hi,rfl⟩:=List.getElem_of_mem hk
  have:=h i hi
  simpa [List.getD,hi] using this
 ·intro h i hi
  have:=h ks[i] (List.getElem_mem hi)
  simpa [List.getD,hi] using this
theorem key_has {o : Pob} (hs : o.kvOk) {k : List UInt8} : k ∈ o.keys ↔ ∃ v,o.has k v:=by
 constructor
 ·intro h
  obtain ⟨i,hi,rfl⟩:=List.getElem_of_mem h
  exact ⟨_,i,hi,by simp [List.getD,hi],rfl⟩
 ·rintro ⟨v,i,hi,rfl,_⟩
  simp only [List.getD,List.getElem?_eq_getElem hi,Option.getD_some]
  exact List.getElem_mem hi
theorem trail_of {x : Dc} (h : TrOk x.trailer) (hk : ∀ k ∈ x.trailer.keys,0 ≤ kidxI trailK k) (h8 : (getO x.trailer rootK).kind = 8) (h7 : (followO x (getO x.trailer rootK)).kind = 7) : trailE x = 0:=by
 rw [trail_root h.c h.k (trailOk_iff.2 hk),if_neg]
 rintro (g | g)
 ·exact g h8
 ·exact g h7
theorem doc_of {x : Dc} (h : itemsE x.items = 0) (ht : trailE x = 0) : docE x = 0:=by rw [doc_trail h]; exact ht
theorem lead_filter {l : List Itm} (h : incrN l) {R : List Int} {r : Pob} {i : Itm} : leadR (l.filter fun i=>decide (i.num ∈ R)) r = some i ↔ leadR l r = some i ∧ i.num ∈ R:=by
 have hf : incrN (l.filter fun i=>decide (i.num ∈ R)):=incrN_iff.2 ((incrN_iff.1 h).sublist List.filter_sublist)
 constructor
 ·intro e
  obtain ⟨g1,g2,g3⟩:=leadR_mem e
  obtain ⟨g4,g5⟩:=List.mem_filter.1 g1
  exact ⟨leadR_some h g4 g2 g3,by simpa using g5⟩
 ·rintro ⟨e,hm⟩
  obtain ⟨g1,g2,g3⟩:=leadR_mem e
  exact leadR_some hf (List.mem_filter.2 ⟨g1,by simpa using hm⟩) g2 g3
theorem least_filter {l : List Itm} (h : incrN l) {start : List Pob} {R : List Int} (hR : leastR l start R) : leastR (l.filter fun i=>decide (i.num ∈ R)) start R:=by
 refine ⟨⟨fun r hr i hi=>hR.1.1 r hr i ((lead_filter h).1 hi).1,fun i hi hm r hr x hx=>hR.1.2 i (List.mem_filter.1 hi).1 hm r hr x ((lead_filter h).1 hx).1⟩,fun s' hs k hk=>?_⟩
 have hT : closedR l start (R.filter fun k=>decide (k ∈ s')):=by
  refine ⟨fun r hr i hi=>?_,fun i hi hm r hr x hx=>?_⟩
  ·have h1:=hR.1.1 r hr i hi
   exact List.mem_filter.2 ⟨h1,by simpa using hs.1 r hr i ((lead_filter h).2 ⟨hi,h1⟩)⟩
  ·obtain ⟨h2,h3⟩:=List.mem_filter.1 hm
   have h1:=hR.1.2 i hi h2 r hr x hx
   refine List.mem_filter.2 ⟨h1,?_⟩
   have:=hs.2 i (List.mem_filter.2 ⟨hi,by simpa using h2⟩) (by simpa using h3) r hr x ((lead_filter h).2 ⟨hx,h1⟩)
   simpa using this
 simpa using (List.mem_filter.1 (hR.2 _ hT k hk)).2
structure CleanF (u : List (List UInt8)) (d : Dc) : Prop where
 x0 : docE (cleanX u d) = 0
 R : leastR (cleanX u d).items (cleanX u d).trailer.rr (cleanR u d)
 c0 : docE (cleanC u d) = 0
 e : cleanD u d = cleanC u d
theorem least_sort {l : List Itm} {start : List Pob} {a : List Int} (h : leastR l start a) : leastR l start (sortI a) :=
 ⟨⟨fun r hr i hi=>sortI_mem.2 (h.1.1 r hr i hi),fun i hi hm r hr x hx=>sortI_mem.2 (h.1.2 i hi (sortI_mem.1 hm) r hr x hx)⟩,fun s hs n hn=>h.2 s hs n (sortI_mem.1 hn)⟩
theorem fromP_least {x : Dc} (h : docE x = 0) (hs : x.trailer.rr.length + ibulk x.items ≤ 33554432) : leastR x.items x.trailer.rr (fromP x x.trailer):=by
 rw [fromP_top h]
 exact least_sort (reachS_least (o:=x.trailer) h (chk_top h) hs)
theorem CleanF.least (h : CleanF u d) (hd : docE d = 0) : leastR (cleanC u d).items (cleanC u d).trailer.rr (cleanR u d):=least_filter (items_incr (docE_items h.x0)) h.R
mutual
def keyedIn (u : List (List UInt8)) : Pob → Bool
 | .mk _ _ _ _ ks l=>(ks.any fun k=>decide (k ∈ u)) || keyedInL u l
def keyedInL (u : List (List UInt8)) : List Pob → Bool
 | []=>false
 | o :: l=>keyedIn u o || keyedInL u l
end
attribute [irreducible] keyedIn keyedInL
end Aw

namespace Aw
open Go
def ledI (l : List Itm) (r : Pob) : Itm:=(lookI l r.num).getD Itm.zero
def ledB (l : List Itm) (r : Pob) : Bool:=(lookI l r.num).isSome && decide ((ledI l r).gen = r.gen)
def visR (l : List Itm) : Nat → List Pob → List Int → List Int
 | 0,_,s=>s
 | k + 1,rs,s=>rs.foldl (fun s r=>if ledB l r = true ∧ r.num ∉ s then visR l k (ledI l r).obj.rr (s ++ [r.num]) else s) s
def visS (l : List Itm) (k : Nat) (s : List Int) (r : Pob) : List Int:=if ledB l r = true ∧ r.num ∉ s then visR l k (ledI l r).obj.rr (s ++ [r.num]) else s
theorem visR_succ (l : List Itm) (k : Nat) (rs : List Pob) (s : List Int) : visR l (k + 1) rs s = rs.foldl (visS l k) s:=rfl
def unmet (l : List Itm) (s : List Int) : Nat:=(l.filter fun i=>!decide (i.num ∈ s)).length
theorem unmet_le (l : List Itm) (s : List Int) : unmet l s ≤ l.length:=List.length_filter_le _ _
theorem unmet_cons (i : Itm) (l : List Itm) (s : List Int) : unmet (i :: l) s = (if i.num ∈ s then 0 else 1) + unmet l s:=by
 unfold unmet
 rw [List.filter_cons]
 by_cases h : i.num ∈ s
 ·simp [h]
 ·simp [h]; omega
theorem unmet_mono {l : List Itm} {s t : List Int} (h : ∀ n ∈ s,n ∈ t) : unmet l t ≤ unmet l s:=by
 induction l with
 | nil=>exact Nat.le_refl _
 | cons i l ih =>
  rw [unmet_cons,unmet_cons]
  by_cases h1 : i.num ∈ s
  ·rw [if_pos h1,if_pos (h _ h1)]; omega
  ·rw [if_neg h1]
   split <;> omega
theorem unmet_lt {l : List Itm} {s : List Int} {n : Int} (h : ∃ i ∈ l,i.num = n) (hn : n ∉ s) : unmet l (s ++ [n]) < unmet l s:=by
 induction l with
 | nil=>obtain ⟨i,hi,_⟩:=h; cases hi
 | cons i l ih =>
  rw [unmet_cons,unmet_cons]
  have hm : unmet l (s ++ [n]) ≤ unmet l s:=unmet_mono fun x hx=>List.mem_append_left _ hx
  by_cases h1 : i.num = n
  ·rw [h1,if_neg hn,if_pos (by simp)]; omega
  ·have h' : ∃ j ∈ l,j.num = n:=by
    obtain ⟨j,hj,e⟩:=h
    rcases List.mem_cons.1 hj with rfl | hj
    ·exact absurd e h1
    ·exact ⟨j,hj,e⟩
   have:=ih h'
   by_cases h2 : i.num ∈ s
   ·rw [if_pos h2,if_pos (by simp [h2])]; omega
   ·rw [if_neg h2,if_neg (by simp [h2,h1])]; omega
theorem led_mem {l : List Itm} {r : Pob} (h : ledB l r = true) : ledI l r ∈ l ∧ (ledI l r).num = r.num ∧ (ledI l r).gen = r.gen:=by
 unfold ledB at h
 simp only [Bool.and_eq_true,decide_eq_true_eq] at h
 refine ⟨?_,?_,h.2⟩
 ·unfold ledI
  rcases iidxI_cases l r.num with ⟨i,hi,e,hn⟩ | ⟨e,_⟩
  ·rw [look_hit (by omega),e]
   simp only [Option.getD_some,Int.toNat_natCast]
   rw [show l.getD i Itm.zero = l[i] from by simp [List.getD,hi]]
   exact List.getElem_mem hi
  ·rw [look_miss (by omega)] at h
   simp at h
 ·unfold ledI
  rcases iidxI_cases l r.num with ⟨i,hi,e,hn⟩ | ⟨e,_⟩
  ·rw [look_hit (by omega),e]
   exact hn
  ·rw [look_miss (by omega)] at h
   simp at h
theorem foldl_pre {α β : Type} (p : List α → Prop) {f : List α → β → List α} (hf : ∀ s b,p s → p (f s b)) : ∀ (rs : List β) (s : List α),p s → p (rs.foldl f s)
 | [],_,h=>h
 | r :: rs,s,h=>foldl_pre p hf rs _ (hf s r h)
theorem vis_pre (l : List Itm) : ∀ (k : Nat) (rs : List Pob) (s : List Int),∃ t,visR l k rs s = s ++ t
 | 0,_,s=>⟨[],by simp [visR]⟩
 | k + 1,rs,s=>by
  rw [visR_succ]
  refine foldl_pre (fun x=>∃ t,x = s ++ t) ?_ rs s ⟨[],by simp⟩
  rintro x r ⟨t,rfl⟩
  unfold visS
  split
  ·obtain ⟨u,hu⟩:=vis_pre l k (ledI l r).obj.rr (s ++ t ++ [r.num])
   exact ⟨t ++ [r.num] ++ u,by rw [hu]; simp⟩
  ·exact ⟨t,rfl⟩
theorem vis_sub {l : List Itm} {k : Nat} {rs : List Pob} {s : List Int} {n : Int} (h : n ∈ s) : n ∈ visR l k rs s:=by
 obtain ⟨t,ht⟩:=vis_pre l k rs s
 rw [ht]
 exact List.mem_append_left _ h
theorem visS_sub {l : List Itm} {k : Nat} {r : Pob} {s : List Int} {n : Int} (h : n ∈ s) : n ∈ visS l k s r:=by
 unfold visS
 split
 ·exact vis_sub (List.mem_append_left _ h)
 ·exact h
theorem visF_sub {l : List Itm} {k : Nat} (rs : List Pob) {s : List Int} {n : Int} (h : n ∈ s) : n ∈ rs.foldl (visS l k) s:=by
 have : n ∈ visR l (k + 1) rs s:=vis_sub h
 exact this
theorem vis_nodup (l : List Itm) : ∀ (k : Nat) (rs : List Pob) (s : List Int),s.Nodup → (visR l k rs s).Nodup
 | 0,_,s,h=>by simpa [visR] using h
 | k + 1,rs,s,h=>by
  rw [visR_succ]
  refine foldl_pre (fun x=>x.Nodup) ?_ rs s h
  intro x r hx
  unfold visS
  split
  ·rename_i hh
   refine vis_nodup l k _ _ ?_
   rw [List.nodup_append]
   refine ⟨hx,by simp,?_⟩
   intro a ha b hb
   simp only [List.mem_singleton] at hb
   subst hb
   exact fun e=>hh.2 (e ▸ ha)
  ·exact hx
theorem vis_in (l : List Itm) : ∀ (k : Nat) (rs : List Pob) (s : List Int),(∀ n ∈ s,∃ i ∈ l,i.num = n) → ∀ n ∈ visR l k rs s,∃ i ∈ l,i.num = n
 | 0,_,s,h=>by simpa [visR] using h
 | k + 1,rs,s,h=>by
  rw [visR_succ]
  refine foldl_pre (fun x=>∀ n ∈ x,∃ i ∈ l,i.num = n) ?_ rs s h
  intro x r hx
  unfold visS
  split
  ·rename_i hh
   refine vis_in l k _ _ ?_
   intro n hn
   rcases List.mem_append.1 hn with hn | hn
   ·exact hx n hn
   ·simp only [List.mem_singleton] at hn
    subst hn
    exact ⟨_,(led_mem hh.1).1,(led_mem hh.1).2.1⟩
  ·exact hx
theorem vis_fuel {l : List Itm} : ∀ (k k' : Nat) (rs : List Pob) (s : List Int),unmet l s < k → unmet l s < k' → visR l k rs s = visR l k' rs s
 | 0,_,_,_,h,_=>absurd h (Nat.not_lt_zero _)
 | _ + 1,0,_,_,_,h=>absurd h (Nat.not_lt_zero _)
 | k + 1,k' + 1,rs,s,h,h'=>by
  rw [visR_succ,visR_succ]
  induction rs generalizing s with
  | nil=>rfl
  | cons r rs ih =>
   rw [List.foldl_cons,List.foldl_cons]
   have e : visS l k s r = visS l k' s r:=by
    unfold visS
    split
    ·rename_i hh
     have hlt : unmet l (s ++ [r.num]) < unmet l s:=unmet_lt ⟨_,(led_mem hh.1).1,(led_mem hh.1).2.1⟩ hh.2
     exact vis_fuel (l:=l) k k' _ _ (by omega) (by omega)
    ·rfl
   rw [← e]
   have hm : unmet l (visS l k s r) ≤ unmet l s:=unmet_mono fun n hn=>visS_sub hn
   exact ih _ (by omega) (by omega)
theorem vis_closed {l : List Itm} : ∀ (k : Nat) (rs : List Pob) (s : List Int),unmet l s < k →
  (∀ r ∈ rs,ledB l r = true → r.num ∈ visR l k rs s) ∧ ∀ n ∈ visR l k rs s,n ∉ s → ∀ i,lookI l n = some i → ∀ r ∈ i.obj.rr,ledB l r = true → r.num ∈ visR l k rs s
 | 0,_,_,h=>absurd h (Nat.not_lt_zero _)
 | k + 1,rs,s,h=>by
  rw [visR_succ]
  induction rs generalizing s with
  | nil=>exact ⟨fun r hr=>(by cases hr),fun n hn hs=>absurd hn hs⟩
  | cons r rs ih =>
   rw [List.foldl_cons]
   have hm : unmet l (visS l k s r) ≤ unmet l s:=unmet_mono fun n hn=>visS_sub hn
   have hi:=ih (visS l k s r) (by omega)
   have hr : (ledB l r = true → r.num ∈ visS l k s r) ∧ ∀ n ∈ visS l k s r,n ∉ s → ∀ i,lookI l n = some i → ∀ q ∈ i.obj.rr,ledB l q = true → q.num ∈ visS l k s r:=by
    unfold visS
    split
    ·rename_i hh
     have hlt : unmet l (s ++ [r.num]) < unmet l s:=unmet_lt ⟨_,(led_mem hh.1).1,(led_mem hh.1).2.1⟩ hh.2
     have hlk : unmet l (s ++ [r.num]) < k:=by omega
     obtain ⟨h1,h2⟩:=vis_closed k (ledI l r).obj.rr (s ++ [r.num]) hlk
     refine ⟨fun _=>vis_sub (by simp),fun n hn hs i hl q hq hb=>?_⟩
     by_cases e : n = r.num
     ·subst e
      have : ledI l r = i:=by unfold ledI; rw [hl] <;> rfl
      exact h1 q (this ▸ hq) hb
     ·exact h2 n hn (fun hx=>(List.mem_append.1 hx).elim hs fun hx=>e (List.mem_singleton.1 hx)) i hl q hq hb
    ·rename_i hh
     exact ⟨fun hb=>Classical.byContradiction fun hc=>hh ⟨hb,hc⟩,fun n hn hs=>absurd hn hs⟩
   refine ⟨fun q hq hb=>?_,fun n hn hs i hl q hq hb=>?_⟩
   ·rcases List.mem_cons.1 hq with rfl | hq
    ·exact visF_sub rs (hr.1 hb)
    ·exact hi.1 q hq hb
   ·by_cases hx : n ∈ visS l k s r
    ·exact visF_sub rs (hr.2 n hx hs i hl q hq hb)
    ·exact hi.2 n hn hx i hl q hq hb
theorem vis_least {l : List Itm} {S : List Int} (hc : ∀ n ∈ S,∀ i,lookI l n = some i → ∀ r ∈ i.obj.rr,ledB l r = true → r.num ∈ S) : ∀ (k : Nat) (rs : List Pob) (s : List Int),(∀ r ∈ rs,ledB l r = true → r.num ∈ S) → (∀ n ∈ s,n ∈ S) → ∀ n ∈ visR l k rs s,n ∈ S
 | 0,_,s,_,h=>by simpa [visR] using h
 | k + 1,rs,s,hr,h=>by
  rw [visR_succ]
  induction rs generalizing s with
  | nil=>exact h
  | cons r rs ih =>
   rw [List.foldl_cons]
   refine ih _ (fun q hq=>hr q (List.mem_cons_of_mem _ hq)) ?_
   unfold visS
   split
   ·rename_i hh
    have hrS:=hr r List.mem_cons_self hh.1
    have hl : lookI l r.num = some (ledI l r):=by
     have:=hh.1
     unfold ledB at this
     simp only [Bool.and_eq_true] at this
     obtain ⟨i,hi⟩:=Option.isSome_iff_exists.1 this.1
     unfold ledI
     rw [hi] <;> rfl
    refine vis_least hc k _ _ (fun q hq hb=>hc _ hrS _ hl q hq hb) ?_
    intro n hn
    rcases List.mem_append.1 hn with hn | hn
    ·exact h n hn
    ·rw [List.mem_singleton.1 hn]; exact hrS
   ·exact h
def liveP (ks : List (List UInt8)) (l : List Pob) : List (List UInt8 × Pob):=(ks.zip l).filter fun p=>!decide (p.2.kind = 0)
mutual
def Pob.turn (f : Pob → Pob) : Pob → Pob
 | .mk k n g s ks l=>if k = 8 then f (.mk k n g s ks l) else if k = 6 then .mk k n g s [] (turnL f l) else .mk k n g s ((liveP ks (turnL f l)).map Prod.fst) ((liveP ks (turnL f l)).map Prod.snd)
def turnL (f : Pob → Pob) : List Pob → List Pob
 | []=>[]
 | o :: l=>o.turn f :: turnL f l
end
variable {f g : Pob → Pob}
theorem turnL_map (l : List Pob) : turnL f l = l.map (Pob.turn f):=by
 induction l with
 | nil=>simp [turnL]
 | cons o l ih=>simp [turnL,ih]
theorem turn_ref {o : Pob} (h : o.kind = 8) : o.turn f = f o:=by
 cases o
 simp only [Pob.kind] at h
 subst h
 simp [Pob.turn]
theorem turn_arr {o : Pob} (h : o.kind = 6) : o.turn f = .mk o.kind o.num o.gen o.str [] (o.kids.map (Pob.turn f)):=by
 cases o
 simp only [Pob.kind] at h
 subst h
 simp [Pob.turn,turnL_map,Pob.kind,Pob.num,Pob.gen,Pob.str,Pob.kids]
theorem turn_other {o : Pob} (h8 : o.kind ≠ 8) (h6 : o.kind ≠ 6) : o.turn f = .mk o.kind o.num o.gen o.str ((liveP o.keys (o.kids.map (Pob.turn f))).map Prod.fst) ((liveP o.keys (o.kids.map (Pob.turn f))).map Prod.snd):=by
 cases o
 simp only [Pob.kind] at h8 h6
 simp [Pob.turn,turnL_map,Pob.kind,Pob.num,Pob.gen,Pob.str,Pob.kids,Pob.keys,h8,h6]
theorem turn_kind {o : Pob} (h8 : o.kind ≠ 8) : (o.turn f).kind = o.kind ∧ (o.turn f).num = o.num ∧ (o.turn f).gen = o.gen ∧ (o.turn f).str = o.str:=by
 by_cases h6 : o.kind = 6
 ·rw [turn_arr h6] <;> exact ⟨rfl,rfl,rfl,rfl⟩
 ·rw [turn_other h8 h6] <;> exact ⟨rfl,rfl,rfl,rfl⟩
theorem turn_plain {o : Pob} {d : Int} (h : chk o d = 0) (h8 : o.kind ≠ 8) (h6 : o.kind ≠ 6) (hk : keyedB o.kind = false) : o.turn f = o:=by
 have hks:=unkeyed_keys h hk
 have hl : o.kids = []:=by
  have h1:=(ownE_spec (chk_own h)).2.1
  have hu : uKeys o.kind = false:=hk
  have hd : uKids o.kind = false:=by
   unfold uKids
   unfold uKeys at hu
   simp only [Bool.or_eq_false_iff,decide_eq_false_iff_not] at hu ⊢
   exact ⟨⟨h6,hu.1⟩,hu.2⟩
  unfold useB at h1
  rw [hd] at h1
  by_cases e : o.kids = []
  ·exact e
  ·exfalso
   have : decide ((o.kids.length : Int) = 0) = false:=by simp; exact e
   simp only [this,cond_false,Bool.cond_false_right,Bool.and_false] at h1
   cases h1
 rw [turn_other h8 h6,hks,hl]
 cases o
 simp only [Pob.keys,Pob.kids] at hks hl
 subst hks hl
 rfl
theorem turn_kv {o : Pob} (hk : keyedB o.kind = true) (hs : o.kvOk) : (o.turn f).kvOk ∧ ∀ k v,(o.turn f).has k v ↔ ∃ w,o.has k w ∧ v = w.turn f ∧ v.kind ≠ 0:=by
 have h86 : o.kind ≠ 8 ∧ o.kind ≠ 6:=by
  unfold keyedB at hk
  simp only [Bool.or_eq_true,decide_eq_true_eq] at hk
  omega
 rw [turn_other h86.1 h86.2]
 have hl : (Pob.mk o.kind o.num o.gen o.str ((liveP o.keys (o.kids.map (Pob.turn f))).map Prod.fst) ((liveP o.keys (o.kids.map (Pob.turn f))).map Prod.snd)).keys.length = (Pob.mk o.kind o.num o.gen o.str ((liveP o.keys (o.kids.map (Pob.turn f))).map Prod.fst) ((liveP o.keys (o.kids.map (Pob.turn f))).map Prod.snd)).kids.length:=by simp [Pob.keys,Pob.kids]
 refine ⟨⟨?_,hl⟩,fun k v=>?_⟩
 ·refine incr_iff.2 ((incr_iff.1 hs.1).sublist ?_)
  show List.Sublist ((liveP o.keys (o.kids.map (Pob.turn f))).map Prod.fst) o.keys
  have e : o.keys = (o.keys.zip (o.kids.map (Pob.turn f))).map Prod.fst:=by
   rw [List.map_fst_zip]
   simp [hs.2]
  conv=>rhs; rw [e]
  exact List.Sublist.map _ List.filter_sublist
 ·rw [has_zip hl]
  have e : ((liveP o.keys (o.kids.map (Pob.turn f))).map Prod.fst).zip ((liveP o.keys (o.kids.map (Pob.turn f))).map Prod.snd) = liveP o.keys (o.kids.map (Pob.turn f)):=by
   rw [List.zip_map]
   induction liveP o.keys (o.kids.map (Pob.turn f)) with
   | nil=>rfl
   | cons p l ih=>simp [ih]
  show (k,v) ∈ ((liveP o.keys (o.kids.map (Pob.turn f))).map Prod.fst).zip ((liveP o.keys (o.kids.map (Pob.turn f))).map Prod.snd) ↔ _
  rw [e,liveP,List.mem_filter,List.zip_map_right,List.mem_map]
  constructor
  ·rintro ⟨⟨p,hp,e2⟩,hn⟩
   injection e2 with e3 e4
   refine ⟨p.2,(has_zip hs.2).2 ?_,e4.symm,by simpa using hn⟩
   rw [← e3]
   exact hp
  ·rintro ⟨w,hw,rfl,hn⟩
   exact ⟨⟨(k,w),(has_zip hs.2).1 hw,rfl⟩,by simpa using hn⟩
theorem turn_congr : ∀ (N : Nat) (o : Pob),o.bulk < N → (∀ r ∈ o.rr,f r = g r) → o.turn f = o.turn g
 | 0,o,h,_=>by omega
 | N + 1,o,hN,h=>by
  by_cases h8 : o.kind = 8
  ·rw [turn_ref h8,turn_ref h8]
   refine h o ?_
   rw [rr_eq,if_pos h8]
   simp
  ·have hm : o.kids.map (Pob.turn f) = o.kids.map (Pob.turn g):=by
    refine List.map_congr_left fun x hx=>turn_congr N x (by have:=kid_bulk hx; omega) fun r hr=>h r ?_
    rw [rr_eq,if_neg h8]
    exact rrs_mem.2 ⟨x,hx,hr⟩
   by_cases h6 : o.kind = 6
   ·rw [turn_arr h6,turn_arr h6,hm]
   ·rw [turn_other h8 h6,turn_other h8 h6,hm]
end Aw

namespace Aw
open Go
variable {f g : Pob → Pob}
def goesTo (f : Pob → Pob) (o : Pob) : Prop:=∀ r ∈ o.rr,(f r).kind = 8 ∨ f r = Pob.null
theorem goes_kid {o x : Pob} (h8 : o.kind ≠ 8) (hx : x ∈ o.kids) (h : goesTo f o) : goesTo f x:=fun r hr=>h r (by rw [rr_eq,if_neg h8]; exact rrs_mem.2 ⟨x,hx,hr⟩)
theorem null_rr : Pob.null.rr = []:=by rw [rr_eq] <;> rfl
theorem null_turn : Pob.null.turn f = Pob.null:=by rw [turn_other (by decide) (by decide)] <;> rfl
theorem keyed_kind {k : Int} (hk : keyedB k = true) : k ≠ 8 ∧ k ≠ 6:=by
 unfold keyedB at hk
 simp only [Bool.or_eq_true,decide_eq_true_eq] at hk
 omega
theorem turn_null {w : Pob} (h : (w.turn f).kind = 0) (hw : w.kind ≠ 0) (hg : goesTo f w) : w.turn f = Pob.null:=by
 by_cases h8 : w.kind = 8
 ·rw [turn_ref h8] at h ⊢
  rcases hg w (by rw [rr_eq,if_pos h8]; simp) with h1 | h1
  ·omega
  ·exact h1
 ·rw [(turn_kind h8).1] at h
  exact absurd h hw
theorem rrs_map {l : List Pob} (h : ∀ x ∈ l,(x.turn f).rr = (x.rr.map f).filter fun r=>decide (r.kind = 8)) : rrs (l.map (Pob.turn f)) = ((rrs l).map f).filter fun r=>decide (r.kind = 8):=by
 induction l with
 | nil=>simp [rrs]
 | cons x l ih =>
  simp only [List.map_cons,rrs,List.map_append,List.filter_append]
  rw [h x List.mem_cons_self,ih fun y hy=>h y (List.mem_cons_of_mem _ hy)]
theorem live_rrs : ∀ (ks : List (List UInt8)) (l : List Pob),ks.length = l.length → (∀ x ∈ l,x.kind = 0 → x.rr = []) → rrs ((liveP ks l).map Prod.snd) = rrs l
 | [],[],_,_=>by simp [liveP,rrs]
 | [],_ :: _,h,_=>by simp at h
 | _ :: _,[],h,_=>by simp at h
 | k :: ks,x :: l,h,hx=>by
  have ih:=live_rrs ks l (by simpa using h) fun y hy=>hx y (List.mem_cons_of_mem _ hy)
  unfold liveP at ih ⊢
  rw [List.zip_cons_cons,List.filter_cons]
  by_cases hk : x.kind = 0
  ·simp only [hk,decide_true,Bool.not_true,Bool.false_eq_true,if_false,rrs]
   rw [ih,hx x List.mem_cons_self hk]
   rfl
  ·simp only [hk,decide_false,Bool.not_false,if_true,List.map_cons,rrs]
   rw [ih]
theorem turn_rr : ∀ (N : Nat) (o : Pob) (d : Int),o.bulk < N → chk o d = 0 → goesTo f o → (o.turn f).rr = (o.rr.map f).filter fun r=>decide (r.kind = 8)
 | 0,o,_,h,_,_=>by omega
 | N + 1,o,d,hN,hc,hg=>by
  have hkc:=(chk_iff.1 hc).2
  by_cases h8 : o.kind = 8
  ·rw [turn_ref h8,rr_eq o,if_pos h8]
   rcases hg o (by rw [rr_eq,if_pos h8]; simp) with h1 | h1
   ·rw [rr_eq,if_pos h1]
    simp [h1]
   ·rw [h1,null_rr,List.map_cons,h1]
    rfl
  ·have ih : ∀ x ∈ o.kids,(x.turn f).rr = (x.rr.map f).filter fun r=>decide (r.kind = 8):=fun x hx=>turn_rr N x (d + 1) (by have:=kid_bulk hx; omega) (hkc x hx) (goes_kid h8 hx hg)
   have hm:=rrs_map ih
   rw [rr_eq o,if_neg h8]
   by_cases h6 : o.kind = 6
   ·rw [turn_arr h6,rr_eq,if_neg (show ¬ (Pob.mk o.kind o.num o.gen o.str [] (o.kids.map (Pob.turn f))).kind = 8 from h8)]
    exact hm
   ·cases hk : keyedB o.kind with
    | true =>
     have hs:=kvOk_of_chk hc hk
     have h0:=((chk_keyed hk).1 hc).2.2
     rw [rr_eq,if_neg (by rw [(turn_kind h8).1]; exact h8),turn_other h8 h6]
     show rrs ((liveP o.keys (o.kids.map (Pob.turn f))).map Prod.snd) = _
     rw [live_rrs _ _ (by rw [List.length_map]; exact hs.2) ?_,hm]
     intro y hy hz
     obtain ⟨w,hw,rfl⟩:=List.mem_map.1 hy
     obtain ⟨k,hkw⟩:=(has_kid hs).1 hw
     rw [turn_null hz (h0 k w hkw).2.2.1 (goes_kid h8 hw hg),null_rr]
    | false =>
     rw [turn_plain hc h8 h6 hk,rr_eq,if_neg h8]
     have e : o.kids = []:=by
      have:=turn_plain (f:=f) hc h8 h6 hk
      rw [turn_other h8 h6,unkeyed_keys hc hk] at this
      have:=congrArg Pob.kids this
      simpa [liveP,Pob.kids] using this.symm
     rw [e]
     simp [rrs]
end Aw

namespace Aw
open Go
variable {f g : Pob → Pob}
def thenR (g f : Pob → Pob) (r : Pob) : Pob:=if (f r).kind = 8 then g (f r) else f r
theorem turn_turn : ∀ (N : Nat) (o : Pob) (d : Int),o.bulk < N → chk o d = 0 → goesTo f o → (o.turn f).turn g = o.turn (thenR g f)
 | 0,o,_,h,_,_=>by omega
 | N + 1,o,d,hN,hc,hg=>by
  have hkc:=(chk_iff.1 hc).2
  by_cases h8 : o.kind = 8
  ·rw [turn_ref h8,turn_ref h8,thenR]
   rcases hg o (by rw [rr_eq,if_pos h8]; simp) with h1 | h1
   ·rw [if_pos h1,turn_ref h1]
   ·rw [h1,if_neg (by decide),null_turn]
  ·have ih : ∀ x ∈ o.kids,(x.turn f).turn g = x.turn (thenR g f):=fun x hx=>turn_turn N x (d + 1) (by have:=kid_bulk hx; omega) (hkc x hx) (goes_kid h8 hx hg)
   by_cases h6 : o.kind = 6
   ·rw [turn_arr h6,turn_arr h6,turn_arr (o:=Pob.mk o.kind o.num o.gen o.str [] (o.kids.map (Pob.turn f))) h6]
    show Pob.mk o.kind o.num o.gen o.str [] ((o.kids.map (Pob.turn f)).map (Pob.turn g)) = _
    rw [List.map_map]
    congr 1
    exact List.map_congr_left ih
   ·cases hk : keyedB o.kind with
    | true =>
     have hs:=kvOk_of_chk hc hk
     have h0:=((chk_keyed hk).1 hc).2.2
     obtain ⟨a1,a2⟩:=turn_kv (f:=f) hk hs
     have hk1 : keyedB (o.turn f).kind = true:=by rw [(turn_kind h8).1]; exact hk
     have h81 : (o.turn f).kind ≠ 8:=by rw [(turn_kind h8).1]; exact h8
     obtain ⟨b1,b2⟩:=turn_kv (f:=g) hk1 a1
     obtain ⟨c1,c2⟩:=turn_kv (f:=thenR g f) hk hs
     obtain ⟨q1,q2,q3,q4⟩:=turn_kind (f:=f) h8
     obtain ⟨r1,r2,r3,r4⟩:=turn_kind (f:=g) h81
     obtain ⟨s1,s2,s3,s4⟩:=turn_kind (f:=thenR g f) h8
     refine kv_ext b1 c1 (by rw [r1,q1,s1]) (by rw [r2,q2,s2]) (by rw [r3,q3,s3]) (by rw [r4,q4,s4]) fun k v=>?_
     rw [b2,c2]
     constructor
     ·rintro ⟨w,hw,rfl,hn⟩
      obtain ⟨x,hx,rfl,_⟩:=(a2 k w).1 hw
      exact ⟨x,hx,ih x ((has_kid hs).2 ⟨k,hx⟩),hn⟩
     ·rintro ⟨x,hx,rfl,hn⟩
      have hxk:=(has_kid hs).2 ⟨k,hx⟩
      refine ⟨x.turn f,(a2 k _).2 ⟨x,hx,rfl,fun hz=>hn ?_⟩,(ih x hxk).symm,hn⟩
      rw [← ih x hxk,turn_null hz (h0 k x hx).2.2.1 (goes_kid h8 hxk hg),null_turn]
      rfl
    | false =>
     rw [turn_plain hc h8 h6 hk,turn_plain hc h8 h6 hk,turn_plain hc h8 h6 hk]
theorem turn_id : ∀ (N : Nat) (o : Pob) (d : Int),o.bulk < N → chk o d = 0 → (∀ r ∈ o.rr,f r = r) → o.turn f = o
 | 0,o,_,h,_,_=>by omega
 | N + 1,o,d,hN,hc,hg=>by
  have hkc:=(chk_iff.1 hc).2
  by_cases h8 : o.kind = 8
  ·rw [turn_ref h8]
   exact hg o (by rw [rr_eq,if_pos h8]; simp)
  ·have ih : ∀ x ∈ o.kids,x.turn f = x:=fun x hx=>turn_id N x (d + 1) (by have:=kid_bulk hx; omega) (hkc x hx) fun r hr=>hg r (by rw [rr_eq,if_neg h8]; exact rrs_mem.2 ⟨x,hx,hr⟩)
   by_cases h6 : o.kind = 6
   ·have hks : o.keys = []:=unkeyed_keys hc (by rw [h6]; rfl)
    rw [turn_arr h6,Pob_eq]
    refine ⟨rfl,rfl,rfl,rfl,hks.symm,?_⟩
    show o.kids.map (Pob.turn f) = o.kids
    conv=>rhs; rw [← List.map_id o.kids]
    exact List.map_congr_left ih
   ·cases hk : keyedB o.kind with
    | true =>
     have hs:=kvOk_of_chk hc hk
     have h0:=((chk_keyed hk).1 hc).2.2
     obtain ⟨a1,a2⟩:=turn_kv (f:=f) hk hs
     obtain ⟨q1,q2,q3,q4⟩:=turn_kind (f:=f) h8
     refine kv_ext a1 hs q1 q2 q3 q4 fun k v=>?_
     rw [a2]
     constructor
     ·rintro ⟨w,hw,rfl,_⟩
      rw [ih w ((has_kid hs).2 ⟨k,hw⟩)]
      exact hw
     ·intro hv
      exact ⟨v,hv,(ih v ((has_kid hs).2 ⟨k,hv⟩)).symm,(h0 k v hv).2.2.1⟩
    | false=>exact turn_plain hc h8 h6 hk
theorem live_len (ks : List (List UInt8)) (l : List Pob) : (liveP ks l).length ≤ ks.length ∧ (liveP ks l).length ≤ l.length:=by
 have h:=List.length_filter_le (fun p : List UInt8 × Pob=>!decide (p.2.kind = 0)) (ks.zip l)
 rw [List.length_zip] at h
 unfold liveP
 omega
theorem chk_turn : ∀ (N : Nat) (o : Pob) (d : Int),o.bulk < N → chk o d = 0 → (∀ r ∈ o.rr,∀ d,chk r d = 0 → chk (f r) d = 0) → chk (o.turn f) d = 0
 | 0,o,_,h,_,_=>by omega
 | N + 1,o,d,hN,hc,hg=>by
  have hkc:=(chk_iff.1 hc).2
  by_cases h8 : o.kind = 8
  ·rw [turn_ref h8]
   exact hg o (by rw [rr_eq,if_pos h8]; simp) d hc
  ·have ih : ∀ x ∈ o.kids,∀ d,chk x d = 0 → chk (x.turn f) d = 0:=fun x hx d hd=>chk_turn N x d (by have:=kid_bulk hx; omega) hd fun r hr=>hg r (by rw [rr_eq,if_neg h8]; exact rrs_mem.2 ⟨x,hx,hr⟩)
   by_cases h6 : o.kind = 6
   ·have hks : o.keys = []:=unkeyed_keys hc (by rw [h6]; rfl)
    rw [turn_arr h6]
    rw [chk_iff] at hc ⊢
    refine ⟨?_,?_⟩
    ·rw [ownE_plain (a:=Pob.mk o.kind o.num o.gen o.str [] (o.kids.map (Pob.turn f))) (b:=o) rfl rfl rfl rfl (show [] = o.keys from hks.symm) (by simp [Pob.kids]) (by show keyedB o.kind = false; rw [h6]; rfl)]
     exact hc.1
    ·intro x hx
     obtain ⟨y,hy,rfl⟩:=List.mem_map.1 (show x ∈ o.kids.map (Pob.turn f) from hx)
     exact ih y hy _ (hc.2 y hy)
   ·cases hk : keyedB o.kind with
    | true =>
     have hs:=kvOk_of_chk hc hk
     obtain ⟨⟨h1,h2,h3,h4,h5,h7,h9⟩,_,h0⟩:=(chk_keyed hk).1 hc
     obtain ⟨a1,a2⟩:=turn_kv (f:=f) hk hs
     obtain ⟨q1,q2,q3,q4⟩:=turn_kind (f:=f) h8
     rw [chk_keyed (by rw [q1]; exact hk),q1,q2,q3,q4]
     refine ⟨⟨h1,h2,h3,h4,h5,h7,?_⟩,a1,fun k v hv=>?_⟩
     ·rw [turn_other h8 h6]
      show ((((liveP o.keys (o.kids.map (Pob.turn f))).map Prod.snd).length : Nat) : Int) ≤ 8191
      have:=(live_len o.keys (o.kids.map (Pob.turn f))).2
      rw [List.length_map] at this ⊢
      omega
     ·obtain ⟨w,hw,rfl,hn⟩:=(a2 k v).1 hv
      obtain ⟨g1,g2,g3,g4⟩:=h0 k w hw
      exact ⟨g1,g2,hn,ih w ((has_kid hs).2 ⟨k,hw⟩) _ g4⟩
    | false=>rw [turn_plain hc h8 h6 hk]; exact hc
theorem live_bulks : ∀ (ks : List (List UInt8)) (l : List Pob),bulks ((liveP ks l).map Prod.snd) ≤ bulks l
 | [],l=>by simp [liveP,bulks]
 | _ :: _,[]=>by simp [liveP,bulks]
 | k :: ks,x :: l=>by
  have ih:=live_bulks ks l
  unfold liveP at ih ⊢
  rw [List.zip_cons_cons,List.filter_cons]
  split
  ·simp only [List.map_cons,bulks]; omega
  ·simp only [bulks]; omega
mutual
theorem turn_bulk (hf : ∀ r : Pob,r.kind = 8 → (f r).bulk ≤ r.bulk) : ∀ o : Pob,(o.turn f).bulk ≤ o.bulk
 | .mk k n g s ks l=>by
  have h1:=turnL_bulk hf l
  have h2:=live_len ks (turnL f l)
  have h3:=live_bulks ks (turnL f l)
  have h4 : (turnL f l).length = l.length:=by rw [turnL_map]; simp
  simp only [Pob.turn]
  split
  ·rename_i h
   exact hf _ h
  ·split
   ·simp only [Pob.bulk,List.length_nil]; omega
   ·simp only [Pob.bulk,List.length_map]; omega
theorem turnL_bulk (hf : ∀ r : Pob,r.kind = 8 → (f r).bulk ≤ r.bulk) : ∀ l : List Pob,bulks (turnL f l) ≤ bulks l
 | []=>by simp [turnL]
 | o :: l=>by
  have h1:=turn_bulk hf o
  have h2:=turnL_bulk hf l
  simp only [turnL,bulks]
  omega
end
theorem live_tots : ∀ (ks : List (List UInt8)) (l : List Pob),tots ((liveP ks l).map Prod.snd) ≤ tots l ∧ (((liveP ks l).map Prod.fst).map fun k=>k.length + 1).sum ≤ (ks.map fun k=>k.length + 1).sum
 | [],l=>by simp [liveP,tots]
 | _ :: _,[]=>by simp [liveP,tots]
 | k :: ks,x :: l=>by
  obtain ⟨h1,h2⟩:=live_tots ks l
  unfold liveP at h1 h2 ⊢
  rw [List.zip_cons_cons,List.filter_cons]
  split
  ·simp only [List.map_cons,tots,List.sum_cons]; omega
  ·simp only [tots,List.map_cons,List.sum_cons]; omega
mutual
theorem turn_tot (hf : ∀ r : Pob,r.kind = 8 → (f r).tot ≤ r.tot) : ∀ o : Pob,(o.turn f).tot ≤ o.tot
 | .mk k n g s ks l=>by
  have h1:=turnL_tot hf l
  have h3:=live_tots ks (turnL f l)
  simp only [Pob.turn]
  split
  ·rename_i h
   exact hf _ h
  ·split
   ·simp only [Pob.tot,List.map_nil,List.sum_nil]; omega
   ·simp only [Pob.tot]; omega
theorem turnL_tot (hf : ∀ r : Pob,r.kind = 8 → (f r).tot ≤ r.tot) : ∀ l : List Pob,tots (turnL f l) ≤ tots l
 | []=>by simp [turnL]
 | o :: l=>by
  have h1:=turn_tot hf o
  have h2:=turnL_tot hf l
  simp only [turnL,tots]
  omega
end
end Aw

namespace Aw
open Go
def newN (fr to : List Int) (n : Int) : Int:=if n ∈ fr then to.getD (nidx fr n) 0 else n
def newG (fr : List Int) (n g : Int) : Int:=if n ∈ fr then 0 else g
def turnF (l : List Itm) (fr to : List Int) (r : Pob) : Pob:=if ledB l r = true then refO (newN fr to r.num) (newG fr r.num r.gen) else Pob.null
def badL (l : List Int) : Prop:=¬ (l.Nodup ∧ ∀ n ∈ l,1 ≤ n ∧ n ≤ 8191)
instance (l : List Int) : Decidable (badL l):=inferInstanceAs (Decidable (¬ _))
def hasI (l : List Itm) (n : Int) : Bool:=(lookI l n).isSome
def mapE (d : Dc) (fr to : List Int) : Int :=
 if docE d ≠ 0 then docE d else if fr.length ≠ to.length ∨ badL fr ∨ badL to then 1
 else if ¬ ∀ n ∈ fr,hasI d.items n = true then 8 else if ¬ ∀ n ∈ to,hasI d.items n = true → n ∈ fr then 9 else 0
def layN : List Itm → Itm → List Itm
 | [],x=>[x]
 | y :: l,x=>if x.num < y.num then x :: y :: l else y :: layN l x
def sortN (l : List Itm) : List Itm:=l.foldl layN []
def turnI (l : List Itm) (fr to : List Int) (i : Itm) : Itm:=⟨newN fr to i.num,newG fr i.num i.gen,i.obj.turn (turnF l fr to)⟩
def mapDc (d : Dc) (fr to : List Int) : Dc:=⟨sortN (d.items.map (turnI d.items fr to)),d.trailer.turn (turnF d.items fr to)⟩
def mapD (d : Dc) (fr to : List Int) : Dc:=if mapE d fr to ≠ 0 then Dc.zero else mapDc d fr to
def metO (l : List Itm) (o : Pob) : List Int:=visR l (l.length + 1) o.rr []
def restL (l : List Itm) (s : List Int) : List Int:=(l.map (·.num)).filter fun n=>!decide (n ∈ s)
def compF (d : Dc) : List Int:=metO d.items d.trailer ++ restL d.items (metO d.items d.trailer)
def upTo (a : Int) (n : Nat) : List Int:=(List.range n).map fun (k : Nat)=>a + (k : Int)
def compD (d : Dc) : Dc:=if docE d ≠ 0 then Dc.zero else mapD d (compF d) (upTo 1 (compF d).length)
def impE (d x : Dc) (o : Pob) : Int :=
 if docE d ≠ 0 then docE d else if docE x ≠ 0 then docE x else if chk o 1 ≠ 0 then chk o 1 else if 8191 < lastN d.items - 1 + ((metO x.items o).length : Int) then 30 else 0
def impT (d x : Dc) (o : Pob) : List Int:=upTo (lastN d.items) (metO x.items o).length
def impL (d x : Dc) (o : Pob) : List Itm:=(metO x.items o).map fun n=>turnI x.items (metO x.items o) (impT d x o) ((lookI x.items n).getD Itm.zero)
def impD (d x : Dc) (o : Pob) : Dc:=if impE d x o ≠ 0 then Dc.zero else ⟨d.items ++ impL d x o,d.trailer⟩
def impO (d x : Dc) (o : Pob) : Pob:=if impE d x o ≠ 0 then Pob.null else o.turn (turnF x.items (metO x.items o) (impT d x o))
def reachedD (d : Dc) : Dc:=⟨d.items.filter fun i=>decide (i.num ∈ metO d.items d.trailer),d.trailer⟩
def alikeB (a b : Dc) : Bool:=decide (docE a = 0) && decide (docE b = 0) && decide (reachedD (compD a) = reachedD (compD b))
theorem metO_nodup (l : List Itm) (o : Pob) : (metO l o).Nodup:=vis_nodup _ _ _ _ List.nodup_nil
theorem metO_in {l : List Itm} {o : Pob} : ∀ n ∈ metO l o,∃ i ∈ l,i.num = n:=vis_in _ _ _ _ fun n hn=>by cases hn
theorem metO_closed (l : List Itm) (o : Pob) : (∀ r ∈ o.rr,ledB l r = true → r.num ∈ metO l o) ∧ ∀ n ∈ metO l o,∀ i,lookI l n = some i → ∀ r ∈ i.obj.rr,ledB l r = true → r.num ∈ metO l o:=by
 obtain ⟨h1,h2⟩:=vis_closed (l:=l) (l.length + 1) o.rr [] (Nat.lt_succ_of_le (unmet_le l []))
 exact ⟨h1,fun n hn=>h2 n hn (by simp)⟩
theorem refO_bulk (n g : Int) (r : Pob) : (refO n g).bulk ≤ r.bulk:=by rw [Pob.bulk_eq r]; show 1 ≤ _; omega
theorem turnF_bulk (l : List Itm) (fr to : List Int) (r : Pob) : (turnF l fr to r).bulk ≤ r.bulk:=by
 unfold turnF
 split
 ·exact refO_bulk _ _ _
 ·rw [Pob.bulk_eq r]; show 1 ≤ _; omega
theorem turnF_tot (l : List Itm) (fr to : List Int) (r : Pob) : (turnF l fr to r).tot ≤ r.tot:=by
 have h : 7 ≤ r.tot:=by cases r; simp only [Pob.tot]; omega
 unfold turnF
 split
 ·exact h
 ·exact h
theorem turnF_goes (l : List Itm) (fr to : List Int) (o : Pob) : goesTo (turnF l fr to) o:=by
 intro r _
 unfold turnF
 split
 ·exact .inl rfl
 ·exact .inr rfl
theorem turn_le (l : List Itm) (fr to : List Int) (o : Pob) : (o.turn (turnF l fr to)).bulk ≤ o.bulk:=turn_bulk (fun r _=>turnF_bulk l fr to r) o
theorem turn_let (l : List Itm) (fr to : List Int) (o : Pob) : (o.turn (turnF l fr to)).tot ≤ o.tot:=turn_tot (fun r _=>turnF_tot l fr to r) o
theorem layN_perm : ∀ (l : List Itm) (x : Itm),(layN l x).Perm (x :: l)
 | [],x=>.refl _
 | y :: l,x=>by
  rw [layN]
  split
  ·exact .refl _
  ·exact (List.Perm.cons y (layN_perm l x)).trans (List.Perm.swap x y l)
theorem foldN_perm : ∀ (l s : List Itm),(l.foldl layN s).Perm (s ++ l)
 | [],s=>by simp
 | x :: l,s=>by
  rw [List.foldl_cons]
  refine (foldN_perm l _).trans ?_
  refine (List.Perm.append_right l (layN_perm s x)).trans ?_
  exact List.perm_middle.symm
theorem sortN_perm (l : List Itm) : (sortN l).Perm l:=foldN_perm l []
theorem layN_mem {l : List Itm} {x y : Itm} : y ∈ layN l x ↔ y = x ∨ y ∈ l:=by rw [(layN_perm l x).mem_iff]; simp
theorem layN_sorted : ∀ {l : List Itm} {x : Itm},l.Pairwise (fun a b=>a.num ≤ b.num) → (layN l x).Pairwise fun a b=>a.num ≤ b.num
 | [],x,_=>by simp [layN]
 | y :: l,x,h=>by
  rw [layN]
  rw [List.pairwise_cons] at h
  split
  ·rename_i hlt
   rw [List.pairwise_cons,List.pairwise_cons]
   refine ⟨fun z hz=>?_,h⟩
   rcases List.mem_cons.1 hz with rfl | hz
   ·omega
   ·have:=h.1 z hz; omega
  ·rename_i hlt
   rw [List.pairwise_cons]
   refine ⟨fun z hz=>?_,layN_sorted h.2⟩
   rcases layN_mem.1 hz with rfl | hz
   ·omega
   ·exact h.1 z hz
theorem foldN_sorted : ∀ (l s : List Itm),s.Pairwise (fun a b=>a.num ≤ b.num) → (l.foldl layN s).Pairwise fun a b=>a.num ≤ b.num
 | [],_,h=>h
 | _ :: l,_,h=>foldN_sorted l _ (layN_sorted h)
theorem sortN_sorted (l : List Itm) : (sortN l).Pairwise fun a b=>a.num ≤ b.num:=foldN_sorted l [] List.Pairwise.nil
theorem sorted_eq : ∀ {a b : List Itm},a.Perm b → a.Pairwise (fun x y=>x.num ≤ y.num) → b.Pairwise (fun x y=>x.num ≤ y.num) → (a.map (·.num)).Nodup → a = b
 | [],b,hp,_,_,_=>(List.nil_perm.1 hp).symm
 | _ :: _,[],hp,_,_,_=>by have:=hp.length_eq; simp at this
 | x :: a,y :: b,hp,ha,hb,hn=>by
  rw [List.pairwise_cons] at ha hb
  rw [List.map_cons,List.nodup_cons] at hn
  have hxy : x = y:=by
   have h1 : x ∈ y :: b:=hp.mem_iff.1 List.mem_cons_self
   have h2 : y ∈ x :: a:=hp.mem_iff.2 List.mem_cons_self
   rcases List.mem_cons.1 h1 with h | h1
   ·exact h
   ·rcases List.mem_cons.1 h2 with h | h2
    ·exact h.symm
    ·have e : x.num = y.num:=by have:=hb.1 x h1; have:=ha.1 y h2; omega
     exact absurd (e ▸ List.mem_map_of_mem h2 : x.num ∈ a.map (·.num)) hn.1
  subst hxy
  rw [sorted_eq (List.Perm.cons_inv hp) ha.2 hb.2 hn.2]
theorem nidx_at {l : List Int} {n : Int} (h : n ∈ l) : nidx l n < l.length ∧ l.getD (nidx l n) 0 = n:=by
 have hlt : nidx l n < l.length:=by
  unfold nidx
  rw [List.findIdx_lt_length]
  exact ⟨n,h,by simp⟩
 refine ⟨hlt,?_⟩
 have h2 : decide (l[nidx l n] = n) = true:=List.findIdx_getElem (p:=fun x=>decide (x = n)) (w:=hlt)
 rw [show l.getD (nidx l n) 0 = l[nidx l n] from by simp [List.getD,hlt]]
 exact of_decide_eq_true h2
theorem nodup_inj {l : List Int} (h : l.Nodup) {a b : Nat} (ha : a < l.length) (hb : b < l.length) (e : l.getD a 0 = l.getD b 0) : a = b:=by
 rw [show l.getD a 0 = l[a] from by simp [List.getD,ha],show l.getD b 0 = l[b] from by simp [List.getD,hb]] at e
 rcases Nat.lt_trichotomy a b with hlt | rfl | hlt
 ·exact absurd e ((List.pairwise_iff_getElem.1 h) a b ha hb hlt)
 ·rfl
 ·exact absurd e.symm ((List.pairwise_iff_getElem.1 h) b a hb ha hlt)
structure ShMap (d : Dc) (fr to : List Int) : Prop where
 ok : docE d = 0
 len : fr.length = to.length
 fr1 : fr.Nodup
 to1 : to.Nodup
 to2 : ∀ n ∈ to,1 ≤ n ∧ n ≤ 8191
 here : ∀ n ∈ fr,hasI d.items n = true
 free : ∀ n ∈ to,hasI d.items n = true → n ∈ fr
theorem mapE_facts {d : Dc} {fr to : List Int} (h : mapE d fr to = 0) : ShMap d fr to:=by
 unfold mapE at h
 split at h
 ·rename_i h1; exact absurd h h1
 ·rename_i h1
  split at h
  ·cases h
  ·rename_i h2
   split at h
   ·cases h
   ·rename_i h3
    split at h
    ·cases h
    ·rename_i h4
     have h2a:=fun x=>h2 (.inl x)
     have h2b:=fun x=>h2 (.inr (.inl x))
     have h2c:=fun x=>h2 (.inr (.inr x))
     have b1:=Classical.not_not.1 h2b
     have b2:=Classical.not_not.1 h2c
     exact ⟨Classical.not_not.1 h1,Classical.not_not.1 h2a,b1.1,b2.1,b2.2,Classical.not_not.1 h3,Classical.not_not.1 h4⟩
theorem newN_in {fr to : List Int} {n : Int} (hl : fr.length = to.length) (h : n ∈ fr) : newN fr to n ∈ to ∧ newN fr to n = to.getD (nidx fr n) 0:=by
 have e : newN fr to n = to.getD (nidx fr n) 0:=if_pos h
 refine ⟨?_,e⟩
 have hi : nidx fr n < to.length:=by have:=(nidx_at h).1; omega
 rw [e,show to.getD (nidx fr n) 0 = to[nidx fr n] from by simp [List.getD,hi]]
 exact List.getElem_mem hi
theorem newN_out {fr to : List Int} {n : Int} (h : n ∉ fr) : newN fr to n = n:=if_neg h
theorem has_mem {l : List Itm} {n : Int} : hasI l n = true ↔ ∃ i ∈ l,i.num = n:=by
 unfold hasI
 cases h : lookI l n with
 | none =>
  have:=look_none.1 h
  simp only [Option.isSome_none,Bool.false_eq_true,false_iff,not_exists,not_and]
  exact this
 | some i =>
  simp only [Option.isSome_some,true_iff]
  exact Classical.byContradiction fun hc=>by
   have : lookI l n = none:=look_none.2 fun x hx e=>hc ⟨x,hx,e⟩
   rw [h] at this
   cases this
theorem newN_inj {d : Dc} {fr to : List Int} (F : ShMap d fr to) {m n : Int} (hm : hasI d.items m = true) (hn : hasI d.items n = true) (e : newN fr to m = newN fr to n) : m = n:=by
 by_cases h1 : m ∈ fr
 ·have a1:=newN_in F.len h1
  by_cases h2 : n ∈ fr
  ·have a2:=newN_in F.len h2
   rw [a1.2,a2.2] at e
   have:=nodup_inj F.to1 (by have:=(nidx_at h1).1; have:=F.len; omega) (by have:=(nidx_at h2).1; have:=F.len; omega) e
   rw [← (nidx_at h1).2,← (nidx_at h2).2,this]
  ·rw [newN_out h2] at e
   exact absurd (F.free n (e ▸ a1.1) hn) h2
 ·by_cases h2 : n ∈ fr
  ·have a2:=newN_in F.len h2
   rw [newN_out h1] at e
   exact absurd (F.free m (e ▸ a2.1) hm) h1
  ·rw [newN_out h1,newN_out h2] at e
   exact e
theorem doc_nums {d : Dc} (h : docE d = 0) : (d.items.map (·.num)).Nodup:=by
 have:=(incrN_iff.1 (doc_incr h))
 rw [List.nodup_iff_pairwise_ne,List.pairwise_map]
 exact this.imp fun h=>by omega
theorem new_nodup {d : Dc} {fr to : List Int} (F : ShMap d fr to) : ((d.items.map (turnI d.items fr to)).map (·.num)).Nodup:=by
 rw [List.map_map,List.nodup_iff_pairwise_ne,List.pairwise_map]
 have:=doc_nums F.ok
 rw [List.nodup_iff_pairwise_ne,List.pairwise_map] at this
 refine this.imp_of_mem fun {a b} ha hb hne e=>hne ?_
 exact newN_inj F (has_mem.2 ⟨a,ha,rfl⟩) (has_mem.2 ⟨b,hb,rfl⟩) e
theorem sort_incr {l : List Itm} (h : (l.map (·.num)).Nodup) : incrN (sortN l):=by
 rw [incrN_iff]
 have hs:=sortN_sorted l
 have hn : ((sortN l).map (·.num)).Nodup:=((sortN_perm l).map _).nodup_iff.2 h
 rw [List.nodup_iff_pairwise_ne,List.pairwise_map] at hn
 exact List.Pairwise.imp₂ (fun a b h1 h2=>by omega) hs hn
theorem map_look {d : Dc} {fr to : List Int} (F : ShMap d fr to) {i : Itm} (hi : i ∈ d.items) : lookI (mapDc d fr to).items (newN fr to i.num) = some (turnI d.items fr to i):=by
 show lookI (sortN (d.items.map (turnI d.items fr to))) _ = _
 rw [look_some (sort_incr (new_nodup F))]
 exact ⟨(sortN_perm _).mem_iff.2 (List.mem_map_of_mem hi),rfl⟩
theorem led_some {l : List Itm} {r : Pob} : ledB l r = true ↔ ∃ i,lookI l r.num = some i ∧ i.gen = r.gen:=by
 unfold ledB ledI
 cases h : lookI l r.num <;> simp
theorem map_led {d : Dc} {fr to : List Int} (F : ShMap d fr to) {r : Pob} (hr : ledB d.items r = true) : turnF d.items fr to r = refO (newN fr to r.num) (newG fr r.num r.gen) ∧ ledB (mapDc d fr to).items (turnF d.items fr to r) = true ∧ ledI (mapDc d fr to).items (turnF d.items fr to r) = turnI d.items fr to (ledI d.items r):=by
 obtain ⟨h1,h2,h3⟩:=led_mem hr
 have e : turnF d.items fr to r = refO (newN fr to r.num) (newG fr r.num r.gen):=if_pos hr
 have hl:=map_look F h1
 rw [h2] at hl
 refine ⟨e,?_,?_⟩
 ·rw [e,led_some]
  refine ⟨_,hl,?_⟩
  show newG fr (ledI d.items r).num (ledI d.items r).gen = newG fr r.num r.gen
  rw [h2,h3]
 ·rw [e,ledI]
  show (lookI _ (newN fr to r.num)).getD Itm.zero = _
  rw [hl]
  rfl
variable {f : Pob → Pob}
theorem chk_refO {n g d : Int} (hd : d ≤ 24) (hn : 1 ≤ n ∧ n ≤ 8191) (hg : 0 ≤ g ∧ g ≤ 65535) : chk (refO n g) d = 0:=by
 rw [chk_iff,ownE_iff]
 refine ⟨⟨hd,?_,?_,?_,?_,?_⟩,fun x hx=>by cases hx⟩
 ·by_cases h1 : d = 1 <;> simp [useB,refO,uOk,uN,uG,uS,uKeys,uKids,Pob.kind,Pob.num,Pob.gen,Pob.str,Pob.keys,Pob.kids,h1]
 ·simp [fitsB,refO,Pob.kind,Pob.num,Pob.gen,hn,hg]
 ·simp [shortB,refO,Pob.kind,Pob.str]
 ·simp [refO,Pob.kids]
 ·simp [formB,refO,Pob.kind,uKeys]
theorem chk_null {d : Int} (hd : d ≤ 24) : chk Pob.null d = 0:=by
 rw [chk_iff,ownE_iff]
 refine ⟨⟨hd,?_,?_,?_,?_,?_⟩,fun x hx=>by cases hx⟩
 ·by_cases h1 : d = 1 <;> simp [useB,Pob.null,uOk,uN,uG,uS,uKeys,uKids,Pob.kind,Pob.num,Pob.gen,Pob.str,Pob.keys,Pob.kids,h1]
 ·simp [fitsB,Pob.null,Pob.kind]
 ·simp [shortB,Pob.null,Pob.kind,Pob.str]
 ·simp [Pob.null,Pob.kids]
 ·simp [formB,Pob.null,Pob.kind,uKeys]
theorem ref_parts {r : Pob} {d : Int} (h : chk r d = 0) (h8 : r.kind = 8) : d ≤ 24 ∧ (1 ≤ r.num ∧ r.num ≤ 8191) ∧ (0 ≤ r.gen ∧ r.gen ≤ 65535) ∧ r = refO r.num r.gen:=by
 obtain ⟨h1,h2,h3,_,_,_⟩:=ownE_spec (chk_own h)
 have hf : (1 ≤ r.num ∧ r.num ≤ 8191) ∧ (0 ≤ r.gen ∧ r.gen ≤ 65535):=by
  unfold fitsB at h3
  rw [h8] at h3
  simpa using h3
 refine ⟨h1,hf.1,hf.2,?_⟩
 have hk:=unkeyed_keys h (by rw [h8]; rfl)
 have hl:=chk_ref h h8
 have hs : r.str = []:=by
  unfold useB at h2
  rw [h8] at h2
  by_cases e : r.str = []
  ·exact e
  ·exfalso
   simp [uOk,uN,uG,uS,uKeys,uKids,e] at h2
 rw [Pob_eq]
 exact ⟨h8,rfl,rfl,hs,hk,hl⟩
theorem rr_kind : ∀ (N : Nat) (o : Pob),o.bulk < N → ∀ r ∈ o.rr,r.kind = 8
 | 0,o,h,_,_=>by omega
 | N + 1,o,h,r,hr=>by
  rw [rr_eq] at hr
  split at hr
  ·rw [List.mem_singleton.1 hr]; assumption
  ·obtain ⟨x,hx,hr⟩:=rrs_mem.1 hr
   exact rr_kind N x (by have:=kid_bulk hx; omega) r hr
theorem rr_8 {o r : Pob} (h : r ∈ o.rr) : r.kind = 8:=rr_kind (o.bulk + 1) o (by omega) r h
theorem rr_chk : ∀ (N : Nat) (o : Pob) (d : Int),o.bulk < N → chk o d = 0 → ∀ r ∈ o.rr,∃ k,chk r k = 0
 | 0,o,_,h,_,_,_=>by omega
 | N + 1,o,d,h,hc,r,hr=>by
  rw [rr_eq] at hr
  split at hr
  ·rw [List.mem_singleton.1 hr]; exact ⟨d,hc⟩
  ·obtain ⟨x,hx,hr⟩:=rrs_mem.1 hr
   exact rr_chk N x (d + 1) (by have:=kid_bulk hx; omega) ((chk_iff.1 hc).2 x hx) r hr
theorem turnF_chk {dc : Dc} {fr to : List Int} (F : ShMap dc fr to) {r : Pob} (h8 : r.kind = 8) {d : Int} (h : chk r d = 0) : chk (turnF dc.items fr to r) d = 0:=by
 obtain ⟨h1,h2,h3,_⟩:=ref_parts h h8
 unfold turnF
 split
 ·refine chk_refO h1 ?_ ?_
  ·by_cases hm : r.num ∈ fr
   ·exact F.to2 _ (newN_in F.len hm).1
   ·rw [newN_out hm]; exact h2
  ·unfold newG
   split
   ·omega
   ·exact h3
 ·exact chk_null h1
theorem turn_get {o : Pob} {d : Int} (hc : chk o d = 0) (hk : keyedB o.kind = true) (hg : goesTo f o) (k : List UInt8) : getO (o.turn f) k = (getO o k).turn f:=by
 have hs:=kvOk_of_chk hc hk
 obtain ⟨k1,k2⟩:=turn_kv (f:=f) hk hs
 have h8:=(keyed_kind hk).1
 have hk' : keyedB (o.turn f).kind = true:=by rw [(turn_kind h8).1]; exact hk
 have h0:=((chk_keyed hk).1 hc).2.2
 by_cases hb : getB o k = true
 ·have hh:=(get_has hs hk).1 ⟨hb,rfl⟩
  by_cases hz : ((getO o k).turn f).kind = 0
  ·have hkid:=(has_kid hs).2 ⟨k,hh⟩
   rw [turn_null hz (h0 k _ hh).2.2.1 (goes_kid h8 hkid hg)]
   refine (get_no k1 hk' fun v hv=>?_).2
   obtain ⟨w,hw,rfl,hn⟩:=(k2 k v).1 hv
   have:=((get_has hs hk).2 hw).2
   rw [this] at hz
   exact hn hz
  ·exact ((get_has k1 hk').2 ((k2 k _).2 ⟨_,hh,rfl,hz⟩)).2
 ·have hb' : getB o k = false:=by simpa using hb
  have hn : getO o k = Pob.null:=by simp [getO,hb']
  rw [hn,null_turn]
  refine (get_no k1 hk' fun v hv=>?_).2
  obtain ⟨w,hw,_,_⟩:=(k2 k v).1 hv
  exact hb ((get_has hs hk).2 hw).1
theorem get_goes {o : Pob} {d : Int} (hc : chk o d = 0) (hk : keyedB o.kind = true) (hg : goesTo f o) (k : List UInt8) : goesTo f (getO o k):=by
 have hs:=kvOk_of_chk hc hk
 by_cases hb : getB o k = true
 ·exact goes_kid (keyed_kind hk).1 ((has_kid hs).2 ⟨k,(get_has hs hk).1 ⟨hb,rfl⟩⟩) hg
 ·have hn : getO o k = Pob.null:=by simp [getO,show getB o k = false by simpa using hb]
  rw [hn]
  intro r hr
  rw [null_rr] at hr
  cases hr
theorem turn_holds {o : Pob} {d : Int} (hc : chk o d = 0) (hg : goesTo f o) (h8 : o.kind ≠ 8) (hh : holdsB (o.turn f) = true) : holdsB o = true:=by
 rw [hold_ref] at hh ⊢
 simp only [Bool.and_eq_true,decide_eq_true_eq,Bool.or_eq_true,(turn_kind h8).1] at hh ⊢
 obtain ⟨h9,h5,hs⟩:=hh
 have hk : keyedB o.kind = true:=by simp [keyedB,h9]
 have e:=turn_get hc hk hg typeK
 have hg':=get_goes hc hk hg typeK
 rw [e] at h5 hs
 by_cases hw : (getO o typeK).kind = 8
 ·rw [turn_ref hw] at h5
  rcases hg' (getO o typeK) (by rw [rr_eq,if_pos hw]; simp) with h1 | h1
  ·omega
  ·rw [h1] at h5; cases h5
 ·rw [(turn_kind hw).1] at h5
  rw [(turn_kind hw).2.2.2] at hs
  exact ⟨h9,h5,hs⟩
theorem map_items {d : Dc} {fr to : List Int} (F : ShMap d fr to) : itemsE (mapDc d fr to).items = 0:=by
 have hi:=items_iff.1 (docE_items F.ok)
 rw [items_iff]
 refine ⟨sort_incr (new_nodup F),fun x hx=>?_⟩
 obtain ⟨i,him,rfl⟩:=List.mem_map.1 ((sortN_perm _).mem_iff.1 hx)
 obtain ⟨h1,h2⟩:=hi.2 i him
 obtain ⟨c1,c2⟩:=content_parts h2
 have h8 : i.obj.kind ≠ 8:=fun h=>c2 (.inl h)
 refine ⟨?_,content_fine ?_ ?_⟩
 ·unfold numsB at h1 ⊢
  simp only [Bool.and_eq_true,decide_eq_true_eq] at h1 ⊢
  have hn : 1 ≤ newN fr to i.num ∧ newN fr to i.num ≤ 8191:=by
   by_cases hm : i.num ∈ fr
   ·exact F.to2 _ (newN_in F.len hm).1
   ·rw [newN_out hm]; omega
  have hgn : 0 ≤ newG fr i.num i.gen ∧ newG fr i.num i.gen ≤ 65535:=by
   unfold newG
   split <;> omega
  exact ⟨⟨⟨hn.1,hn.2⟩,hgn.1⟩,hgn.2⟩
 ·exact chk_turn (i.obj.bulk + 1) i.obj 1 (by omega) c1 fun r hr d hd=>turnF_chk F (rr_8 hr) hd
 ·rintro (g | g)
  ·rw [show (turnI d.items fr to i).obj = i.obj.turn (turnF d.items fr to) from rfl,(turn_kind h8).1] at g
   exact h8 g
  ·exact c2 (.inr (turn_holds c1 (turnF_goes _ _ _ _) h8 g))
end Aw

namespace Aw
open Go
theorem follow_led {d : Dc} {r : Pob} (h8 : r.kind = 8) : followO d r = if ledB d.items r = true then (ledI d.items r).obj else Pob.null:=by
 rw [follow_look,if_neg (by simpa using h8)]
 cases e : lookI d.items r.num with
 | none=>rw [if_neg (by rw [led_some]; rintro ⟨i,hi,_⟩; rw [e] at hi; cases hi)]
 | some i =>
  have hI : ledI d.items r = i:=by unfold ledI; rw [e] <;> rfl
  simp only []
  by_cases hg : i.gen = r.gen
  ·rw [if_neg (by simpa using hg),if_pos (led_some.2 ⟨i,e,hg⟩),hI]
  ·rw [if_pos (by simpa using hg),if_neg]
   rw [led_some]
   rintro ⟨j,hj,hgj⟩
   rw [e] at hj
   injection hj with hj
   exact hg (hj ▸ hgj)
theorem root_led {d : Dc} (h : docE d = 0) : (getO d.trailer rootK).kind = 8 ∧ ledB d.items (getO d.trailer rootK) = true ∧ (ledI d.items (getO d.trailer rootK)).obj.kind = 7:=by
 obtain ⟨_,_,_,h4,h5⟩:=trail_parts (docE_trail h)
 rw [follow_led h4] at h5
 by_cases hb : ledB d.items (getO d.trailer rootK) = true
 ·rw [if_pos hb] at h5
  exact ⟨h4,hb,h5⟩
 ·rw [if_neg hb] at h5
  cases h5
theorem map_doc {d : Dc} {fr to : List Int} (F : ShMap d fr to) : docE (mapDc d fr to) = 0:=by
 have ht:=doc_tr F.ok
 obtain ⟨_,_,h3,_,_⟩:=trail_parts (docE_trail F.ok)
 obtain ⟨r1,r2,r3⟩:=root_led F.ok
 have hkey : keyedB d.trailer.kind = true:=ht.key
 have h8:=(keyed_kind hkey).1
 have hg:=turnF_goes d.items fr to d.trailer
 obtain ⟨k1,k2⟩:=turn_kv (f:=turnF d.items fr to) hkey ht.kv
 obtain ⟨m1,m2,m3⟩:=map_led F r2
 have hroot : getO (mapDc d fr to).trailer rootK = turnF d.items fr to (getO d.trailer rootK):=by
  show getO (d.trailer.turn (turnF d.items fr to)) rootK = _
  rw [turn_get ht.c hkey hg,turn_ref r1]
 refine doc_of (map_items F) (trail_of ⟨?_,?_⟩ ?_ ?_ ?_)
 ·exact chk_turn (d.trailer.bulk + 1) d.trailer 1 (by omega) ht.c fun r hr d hd=>turnF_chk F (rr_8 hr) hd
 ·show (d.trailer.turn _).kind = 7
  rw [(turn_kind h8).1]
  exact ht.k
 ·intro k hk
  obtain ⟨v,hv⟩:=(key_has k1).1 hk
  obtain ⟨w,hw,_⟩:=(k2 k v).1 hv
  exact trailOk_iff.1 h3 k ((key_has ht.kv).2 ⟨w,hw⟩)
 ·rw [hroot,m1] <;> rfl
 ·have h8' : (turnF d.items fr to (getO d.trailer rootK)).kind = 8:=by rw [m1] <;> rfl
  rw [hroot,follow_led h8',if_pos m2,m3]
  show ((ledI d.items (getO d.trailer rootK)).obj.turn _).kind = 7
  have hne : (ledI d.items (getO d.trailer rootK)).obj.kind ≠ 8:=by rw [r3]; decide
  rw [(turn_kind hne).1]
  exact r3
theorem map_refs {d : Dc} {fr to : List Int} (F : ShMap d fr to) {o : Pob} {k : Int} (hc : chk o k = 0) {r : Pob} (hr : r ∈ (o.turn (turnF d.items fr to)).rr) : ∃ q ∈ o.rr,ledB d.items q = true ∧ r = turnF d.items fr to q ∧ ledB (mapDc d fr to).items r = true:=by
 rw [turn_rr (o.bulk + 1) o k (by omega) hc (turnF_goes _ _ _ _)] at hr
 obtain ⟨h1,h2⟩:=List.mem_filter.1 hr
 obtain ⟨q,hq,rfl⟩:=List.mem_map.1 h1
 simp only [decide_eq_true_eq] at h2
 have hb : ledB d.items q = true:=Classical.byContradiction fun hn=>by
  have : turnF d.items fr to q = Pob.null:=if_neg hn
  rw [this] at h2
  cases h2
 exact ⟨q,hq,hb,rfl,(map_led F hb).2.1⟩
theorem map_vis {d : Dc} {fr to : List Int} (F : ShMap d fr to) : ∀ (k : Nat) (rs : List Pob) (s : List Int),(∀ n ∈ s,hasI d.items n = true) →
  visR (mapDc d fr to).items k ((rs.map (turnF d.items fr to)).filter fun r=>decide (r.kind = 8)) (s.map (newN fr to)) = (visR d.items k rs s).map (newN fr to)
 | 0,_,s,_=>rfl
 | k + 1,rs,s,hs=>by
  rw [visR_succ,visR_succ]
  induction rs generalizing s with
  | nil=>rfl
  | cons r rs ih =>
   rw [List.map_cons,List.filter_cons,List.foldl_cons]
   by_cases hb : ledB d.items r = true
   ·obtain ⟨m1,m2,m3⟩:=map_led F hb
    obtain ⟨q1,q2,q3⟩:=led_mem hb
    have hhas : hasI d.items r.num = true:=has_mem.2 ⟨_,q1,q2⟩
    have h8 : (turnF d.items fr to r).kind = 8:=by rw [m1] <;> rfl
    have hnum : (turnF d.items fr to r).num = newN fr to r.num:=by rw [m1] <;> rfl
    have hmem : newN fr to r.num ∈ s.map (newN fr to) ↔ r.num ∈ s:=by
     rw [List.mem_map]
     exact ⟨fun ⟨m,hm,e⟩=>newN_inj F (hs m hm) hhas e ▸ hm,fun hm=>⟨_,hm,rfl⟩⟩
    rw [if_pos (by simpa using h8),List.foldl_cons]
    have hc1:=(content_parts ((items_iff.1 (docE_items F.ok)).2 _ q1).2).1
    have estep : visS (mapDc d fr to).items k (s.map (newN fr to)) (turnF d.items fr to r) = (visS d.items k s r).map (newN fr to):=by
     unfold visS
     rw [hnum,m2,hb]
     by_cases hin : r.num ∈ s
     ·rw [if_neg (fun h=>h.2 (hmem.2 hin)),if_neg (fun h=>h.2 hin)]
     ·rw [if_pos ⟨rfl,fun h=>hin (hmem.1 h)⟩,if_pos ⟨rfl,hin⟩,m3]
      show visR _ k ((ledI d.items r).obj.turn (turnF d.items fr to)).rr _ = _
      rw [turn_rr ((ledI d.items r).obj.bulk + 1) _ 1 (by omega) hc1 (turnF_goes _ _ _ _)]
      have:=map_vis F k (ledI d.items r).obj.rr (s ++ [r.num]) (fun n hn=>by
       rcases List.mem_append.1 hn with h | h
       ·exact hs n h
       ·rw [List.mem_singleton.1 h]; exact hhas)
      rw [List.map_append] at this
      exact this
    rw [estep]
    refine ih _ fun n hn=>?_
    unfold visS at hn
    split at hn
    ·refine has_mem.2 (vis_in d.items k _ _ (fun m hm=>?_) n hn)
     rcases List.mem_append.1 hm with h | h
     ·exact has_mem.1 (hs m h)
     ·rw [List.mem_singleton.1 h]; exact has_mem.1 hhas
    ·exact hs n hn
   ·have hz : turnF d.items fr to r = Pob.null:=if_neg hb
    have es : visS d.items k s r = s:=by unfold visS; rw [if_neg fun h=>hb h.1]
    rw [hz,if_neg (by decide),es]
    exact ih s hs
theorem upTo_len (a : Int) (n : Nat) : (upTo a n).length = n:=by simp [upTo]
theorem upTo_get {a : Int} {n k : Nat} (h : k < n) : (upTo a n).getD k 0 = a + (k : Int):=by simp [upTo,List.getD,h]
theorem mem_upTo {a x : Int} {n : Nat} : x ∈ upTo a n ↔ a ≤ x ∧ x < a + (n : Int):=by
 unfold upTo
 rw [List.mem_map]
 constructor
 ·rintro ⟨k,hk,rfl⟩
  rw [List.mem_range] at hk
  omega
 ·rintro ⟨h1,h2⟩
  exact ⟨(x - a).toNat,List.mem_range.2 (by omega),by omega⟩
theorem upTo_incr (a : Int) (n : Nat) : (upTo a n).Pairwise (· < ·):=by
 unfold upTo
 rw [List.pairwise_map]
 exact List.pairwise_lt_range.imp fun h=>by omega
theorem upTo_nodup (a : Int) (n : Nat) : (upTo a n).Nodup:=by
 rw [List.nodup_iff_pairwise_ne]
 exact (upTo_incr a n).imp fun h=>by omega
theorem upTo_append (a : Int) (m n : Nat) : upTo a m ++ upTo (a + (m : Int)) n = upTo a (m + n):=by
 unfold upTo
 rw [List.range_add,List.map_append,List.map_map]
 congr 1
 refine List.map_congr_left fun k _=>?_
 simp only [Function.comp]
 omega
theorem nidx_get {l : List Int} (h : l.Nodup) {k : Nat} (hk : k < l.length) : nidx l (l.getD k 0) = k:=by
 have hm : l.getD k 0 ∈ l:=by
  rw [show l.getD k 0 = l[k] from by simp [List.getD,hk]]
  exact List.getElem_mem hk
 obtain ⟨h1,h2⟩:=nidx_at hm
 exact nodup_inj h h1 hk h2
theorem rest_mem {l : List Itm} {s : List Int} {n : Int} : n ∈ restL l s ↔ hasI l n = true ∧ n ∉ s:=by
 unfold restL
 rw [List.mem_filter,has_mem,List.mem_map]
 simp
theorem compF_mem {d : Dc} {n : Int} : n ∈ compF d ↔ hasI d.items n = true:=by
 unfold compF
 rw [List.mem_append,rest_mem]
 constructor
 ·rintro (h | h)
  ·exact has_mem.2 (metO_in n h)
  ·exact h.1
 ·intro h
  by_cases hm : n ∈ metO d.items d.trailer
  ·exact .inl hm
  ·exact .inr ⟨h,hm⟩
theorem compF_nodup {d : Dc} (h : docE d = 0) : (compF d).Nodup:=by
 unfold compF
 rw [List.nodup_append]
 refine ⟨metO_nodup _ _,?_,?_⟩
 ·exact List.Sublist.nodup List.filter_sublist (doc_nums h)
 ·intro a ha b hb e
  exact (rest_mem.1 hb).2 (e ▸ ha)
theorem compF_len {d : Dc} (h : docE d = 0) : (compF d).length = d.items.length:=by
 have hp : (compF d).Perm (d.items.map (·.num)):=by
  rw [List.perm_ext_iff_of_nodup (compF_nodup h) (doc_nums h)]
  intro n
  rw [compF_mem,has_mem,List.mem_map]
 rw [hp.length_eq,List.length_map]
theorem num_range {d : Dc} (h : docE d = 0) {n : Int} (hn : hasI d.items n = true) : 1 ≤ n ∧ n ≤ 8191:=by
 obtain ⟨i,hi,rfl⟩:=has_mem.1 hn
 have h1:=((items_iff.1 (docE_items h)).2 i hi).1
 unfold numsB at h1
 simp only [Bool.and_eq_true,decide_eq_true_eq] at h1
 omega
theorem incr_top : ∀ (l : List Itm) (a : Int),l.Pairwise (fun x y=>x.num < y.num) → (∀ x ∈ l,a < x.num ∧ x.num ≤ 8191) → a + (l.length : Int) ≤ 8191 ∨ l = []
 | [],_,_,_=>.inr rfl
 | x :: l,a,h,hr=>by
  rw [List.pairwise_cons] at h
  have h1:=hr x List.mem_cons_self
  left
  rcases incr_top l x.num h.2 (fun y hy=>⟨h.1 y hy,(hr y (List.mem_cons_of_mem _ hy)).2⟩) with h2 | h2
  ·simp only [List.length_cons]; omega
  ·subst h2
   simp only [List.length_cons,List.length_nil]; omega
theorem doc_count {d : Dc} (h : docE d = 0) : d.items.length ≤ 8191:=by
 rcases incr_top d.items 0 (incrN_iff.1 (doc_incr h)) (fun x hx=>by have:=num_range h (has_mem.2 ⟨x,hx,rfl⟩); omega) with h1 | h1
 ·omega
 ·rw [h1]; simp
theorem comp_map {d : Dc} (h : docE d = 0) : ShMap d (compF d) (upTo 1 (compF d).length):=by
 refine ⟨h,(upTo_len _ _).symm,compF_nodup h,upTo_nodup _ _,fun n hn=>?_,fun n hn=>compF_mem.1 hn,fun n _ hn=>compF_mem.2 hn⟩
 have:=mem_upTo.1 hn
 have h1:=doc_count h
 rw [compF_len h] at this
 omega
theorem not_bad {l : List Int} (h1 : l.Nodup) (h2 : ∀ n ∈ l,1 ≤ n ∧ n ≤ 8191) : ¬ badL l:=fun h=>h ⟨h1,h2⟩
theorem mapE_ok {d : Dc} {fr to : List Int} (F : ShMap d fr to) : mapE d fr to = 0:=by
 unfold mapE
 rw [if_neg (by simpa using F.ok),if_neg,if_neg (fun h=>h F.here),if_neg (fun h=>h F.free)]
 rintro (h | h | h)
 ·exact h F.len
 ·exact not_bad F.fr1 (fun n hn=>num_range F.ok (F.here n hn)) h
 ·exact not_bad F.to1 F.to2 h
theorem compD_eq {d : Dc} (h : docE d = 0) : compD d = mapDc d (compF d) (upTo 1 (compF d).length):=by
 unfold compD mapD
 rw [if_neg (by simpa using h),if_neg (by simpa using mapE_ok (comp_map h))]
theorem compD_bad {d : Dc} (h : docE d ≠ 0) : compD d = Dc.zero:=if_pos h
theorem comp_doc {d : Dc} (h : docE d = 0) : docE (compD d) = 0:=by rw [compD_eq h]; exact map_doc (comp_map h)
theorem sortN_len (l : List Itm) : (sortN l).length = l.length:=(sortN_perm l).length_eq
theorem comp_len {d : Dc} (h : docE d = 0) : (compD d).items.length = d.items.length:=by
 rw [compD_eq h]
 show (sortN _).length = _
 rw [sortN_len,List.length_map]
theorem comp_new {d : Dc} (h : docE d = 0) {k : Nat} (hk : k < (compF d).length) : newN (compF d) (upTo 1 (compF d).length) ((compF d).getD k 0) = 1 + (k : Int):=by
 have hm : (compF d).getD k 0 ∈ compF d:=by
  rw [show (compF d).getD k 0 = (compF d)[k] from by simp [List.getD,hk]]
  exact List.getElem_mem hk
 rw [(newN_in (upTo_len _ _).symm hm).2,nidx_get (compF_nodup h) hk,upTo_get hk]
theorem comp_gen {d : Dc} {n g : Int} (hn : hasI d.items n = true) : newG (compF d) n g = 0:=if_pos (compF_mem.2 hn)
theorem incr_eq : ∀ {a b : List Int},a.Pairwise (· < ·) → b.Pairwise (· < ·) → (∀ x,x ∈ a ↔ x ∈ b) → a = b
 | [],[],_,_,_=>rfl
 | [],y :: b,_,_,h=>absurd ((h y).2 List.mem_cons_self) (by simp)
 | x :: a,[],_,_,h=>absurd ((h x).1 List.mem_cons_self) (by simp)
 | x :: a,y :: b,ha,hb,h=>by
  rw [List.pairwise_cons] at ha hb
  have e : x = y:=by
   have h1:=(h x).1 List.mem_cons_self
   have h2:=(h y).2 List.mem_cons_self
   rcases List.mem_cons.1 h1 with h1 | h1
   ·exact h1
   ·rcases List.mem_cons.1 h2 with h2 | h2
    ·exact h2.symm
    ·have:=hb.1 x h1; have:=ha.1 y h2; omega
  subst e
  rw [incr_eq ha.2 hb.2 fun z=>?_]
  have hz:=h z
  simp only [List.mem_cons] at hz
  constructor
  ·intro hm
   have:=ha.1 z hm
   exact (hz.1 (.inr hm)).resolve_left fun e=>by omega
  ·intro hm
   have:=hb.1 z hm
   exact (hz.2 (.inr hm)).resolve_left fun e=>by omega
theorem comp_nums {d : Dc} (h : docE d = 0) : (compD d).items.map (·.num) = upTo 1 d.items.length:=by
 refine incr_eq ?_ (upTo_incr _ _) fun x=>?_
 ·rw [List.pairwise_map]
  exact incrN_iff.1 (doc_incr (comp_doc h))
 ·rw [compD_eq h,mem_upTo]
  have hl:=compF_len h
  constructor
  ·intro hx
   obtain ⟨j,hj,rfl⟩:=List.mem_map.1 hx
   obtain ⟨i,hi,rfl⟩:=List.mem_map.1 ((sortN_perm _).mem_iff.1 hj)
   have hm:=(newN_in (to:=upTo 1 (compF d).length) (upTo_len _ _).symm (compF_mem.2 (has_mem.2 ⟨i,hi,rfl⟩))).1
   have:=mem_upTo.1 hm
   show 1 ≤ newN (compF d) (upTo 1 (compF d).length) i.num ∧ newN (compF d) (upTo 1 (compF d).length) i.num < 1 + (d.items.length : Int)
   omega
  ·intro hx
   obtain ⟨k,hk,rfl⟩ : ∃ k : Nat,k < (compF d).length ∧ x = 1 + (k : Int):=⟨(x - 1).toNat,by omega,by omega⟩
   have hm : (compF d).getD k 0 ∈ compF d:=by
    rw [show (compF d).getD k 0 = (compF d)[k] from by simp [List.getD,hk]]
    exact List.getElem_mem hk
   obtain ⟨i,hi,e⟩:=has_mem.1 (compF_mem.1 hm)
   refine List.mem_map.2 ⟨turnI d.items (compF d) (upTo 1 (compF d).length) i,(sortN_perm _).mem_iff.2 (List.mem_map_of_mem hi),?_⟩
   show newN _ _ i.num = _
   rw [e,comp_new h hk]
theorem comp_gens {d : Dc} (h : docE d = 0) : ∀ i ∈ (compD d).items,i.gen = 0:=by
 rw [compD_eq h]
 intro j hj
 obtain ⟨i,hi,rfl⟩:=List.mem_map.1 ((sortN_perm _).mem_iff.1 hj)
 exact comp_gen (has_mem.2 ⟨i,hi,rfl⟩)
theorem map_len {d : Dc} {fr to : List Int} : (mapDc d fr to).items.length = d.items.length:=by
 show (sortN _).length = _
 rw [sortN_len,List.length_map]
theorem doc_top {d : Dc} (h : docE d = 0) : chk d.trailer 1 = 0:=(doc_tr h).c
theorem doc_obj {d : Dc} (h : docE d = 0) {i : Itm} (hi : i ∈ d.items) : chk i.obj 1 = 0 ∧ i.obj.kind ≠ 8:=by
 have:=content_parts ((items_iff.1 (docE_items h)).2 i hi).2
 exact ⟨this.1,fun e=>this.2 (.inl e)⟩
theorem map_met {d : Dc} {fr to : List Int} (F : ShMap d fr to) : metO (mapDc d fr to).items (mapDc d fr to).trailer = (metO d.items d.trailer).map (newN fr to):=by
 unfold metO
 rw [map_len]
 show visR _ _ (d.trailer.turn (turnF d.items fr to)).rr [] = _
 rw [turn_rr (d.trailer.bulk + 1) d.trailer 1 (by omega) (doc_top F.ok) (turnF_goes _ _ _ _)]
 exact map_vis F _ _ [] fun n hn=>by cases hn
theorem getD_app {a b : List Int} {k : Nat} (h : k < a.length) : (a ++ b).getD k 0 = a.getD k 0:=by
 simp [List.getD,List.getElem?_append_left h]
theorem comp_met {d : Dc} (h : docE d = 0) : metO (compD d).items (compD d).trailer = upTo 1 (metO d.items d.trailer).length:=by
 rw [compD_eq h,map_met (comp_map h)]
 refine List.ext_getElem (by simp [upTo_len]) fun k h1 h2=>?_
 rw [List.getElem_map]
 have hk : k < (metO d.items d.trailer).length:=by simpa using h1
 have hkc : k < (compF d).length:=by unfold compF; rw [List.length_append]; omega
 have e1 : (metO d.items d.trailer)[k] = (compF d).getD k 0:=by
  unfold compF
  rw [getD_app hk]
  simp [List.getD,hk]
 rw [e1,comp_new h hkc]
 simp [upTo]
theorem met_le {d : Dc} (h : docE d = 0) : (metO d.items d.trailer).length ≤ d.items.length:=by
 rw [← compF_len h]
 unfold compF
 rw [List.length_append]
 omega
theorem comp_compF {d : Dc} (h : docE d = 0) : compF (compD d) = upTo 1 d.items.length:=by
 have hm:=met_le h
 unfold compF restL
 rw [comp_met h,comp_nums h]
 have e : (upTo 1 d.items.length).filter (fun n=>!decide (n ∈ upTo 1 (metO d.items d.trailer).length)) = upTo (1 + ((metO d.items d.trailer).length : Int)) (d.items.length - (metO d.items d.trailer).length):=by
  refine incr_eq ((upTo_incr _ _).sublist List.filter_sublist) (upTo_incr _ _) fun x=>?_
  rw [List.mem_filter]
  simp only [Bool.not_eq_true',decide_eq_false_iff_not,mem_upTo]
  omega
 rw [e,upTo_append]
 congr 1
 omega
theorem newN_same {l : List Int} {n : Int} : newN l l n = n:=by
 by_cases h : n ∈ l
 ·rw [(newN_in rfl h).2]
  exact (nidx_at h).2
 ·exact newN_out h
theorem newG_zero {l : List Int} {n : Int} : newG l n 0 = 0:=by unfold newG; split <;> rfl
theorem sorted_sortN {l : List Itm} (h : incrN l) : sortN l = l:=by
 refine sorted_eq (sortN_perm l) (sortN_sorted l) ((incrN_iff.1 h).imp fun h=>by omega) ?_
 refine ((sortN_perm l).map _).nodup_iff.2 ?_
 rw [List.nodup_iff_pairwise_ne,List.pairwise_map]
 exact (incrN_iff.1 h).imp fun h=>by omega
theorem map_same {d : Dc} {l : List Int} (F : ShMap d l l) (hg : ∀ i ∈ d.items,i.gen = 0) (hl : ∀ o,(o = d.trailer ∨ ∃ i ∈ d.items,o = i.obj) → ∀ r ∈ o.rr,ledB d.items r = true) : mapDc d l l = d:=by
 have hf : ∀ o,(o = d.trailer ∨ ∃ i ∈ d.items,o = i.obj) → ∀ r ∈ o.rr,turnF d.items l l r = r:=by
  intro o ho r hr
  have hb:=hl o ho r hr
  obtain ⟨q1,q2,q3⟩:=led_mem hb
  have hc : chk o 1 = 0:=by
   rcases ho with rfl | ⟨i,hi,rfl⟩
   ·exact doc_top F.ok
   ·exact (doc_obj F.ok hi).1
  have e : turnF d.items l l r = refO (newN l l r.num) (newG l r.num r.gen):=if_pos hb
  rw [e,newN_same,← q3,hg _ q1,newG_zero]
  have h8:=rr_8 hr
  have hcr : ∃ k,chk r k = 0:=rr_chk (o.bulk + 1) o 1 (by omega) hc r hr
  obtain ⟨k,hk⟩:=hcr
  have:=(ref_parts hk h8).2.2.2
  rw [this]
  show refO r.num 0 = refO r.num r.gen
  rw [← q3,hg _ q1]
 have hi : d.items.map (turnI d.items l l) = d.items:=by
  conv=>rhs; rw [← List.map_id d.items]
  refine List.map_congr_left fun i hi=>?_
  have h1:=(doc_obj F.ok hi).1
  unfold turnI
  rw [newN_same,hg i hi,newG_zero,turn_id (i.obj.bulk + 1) i.obj 1 (by omega) h1 (hf i.obj (.inr ⟨i,hi,rfl⟩)),← hg i hi]
  rfl
 unfold mapDc
 rw [hi,sorted_sortN (doc_incr F.ok),turn_id (d.trailer.bulk + 1) d.trailer 1 (by omega) (doc_top F.ok) (hf _ (.inl rfl))]
theorem map_objs {d : Dc} {fr to : List Int} {o : Pob} (h : o = (mapDc d fr to).trailer ∨ ∃ i ∈ (mapDc d fr to).items,o = i.obj) : ∃ q,(q = d.trailer ∨ ∃ i ∈ d.items,q = i.obj) ∧ o = q.turn (turnF d.items fr to):=by
 rcases h with rfl | ⟨j,hj,rfl⟩
 ·exact ⟨_,.inl rfl,rfl⟩
 ·obtain ⟨i,hi,rfl⟩:=List.mem_map.1 ((sortN_perm _).mem_iff.1 hj)
  exact ⟨_,.inr ⟨i,hi,rfl⟩,rfl⟩
theorem obj_chk {d : Dc} (h : docE d = 0) {o : Pob} (ho : o = d.trailer ∨ ∃ i ∈ d.items,o = i.obj) : chk o 1 = 0:=by
 rcases ho with rfl | ⟨i,hi,rfl⟩
 ·exact doc_top h
 ·exact (doc_obj h hi).1
theorem map_leads {d : Dc} {fr to : List Int} (F : ShMap d fr to) : ∀ o,(o = (mapDc d fr to).trailer ∨ ∃ i ∈ (mapDc d fr to).items,o = i.obj) → ∀ r ∈ o.rr,ledB (mapDc d fr to).items r = true:=by
 intro o ho r hr
 obtain ⟨q,hq,rfl⟩:=map_objs ho
 obtain ⟨_,_,_,_,h⟩:=map_refs F (obj_chk F.ok hq) hr
 exact h
theorem comp_leads {d : Dc} (h : docE d = 0) : ∀ o,(o = (compD d).trailer ∨ ∃ i ∈ (compD d).items,o = i.obj) → ∀ r ∈ o.rr,ledB (compD d).items r = true:=by
 rw [compD_eq h]
 exact map_leads (comp_map h)
theorem comp_again {d : Dc} (h : docE d = 0) : compD (compD d) = compD d:=by
 have hc:=comp_doc h
 rw [compD_eq hc]
 have e : upTo 1 (compF (compD d)).length = compF (compD d):=by rw [comp_compF h,upTo_len]
 have F:=comp_map hc
 rw [e] at F ⊢
 exact map_same F (comp_gens h) (comp_leads h)
theorem comp_refs {d : Dc} (h : docE d = 0) {o : Pob} (ho : o = (compD d).trailer ∨ ∃ i ∈ (compD d).items,o = i.obj) {r : Pob} (hr : r ∈ o.rr) : 1 ≤ r.num ∧ r.num ≤ (compD d).items.length:=by
 obtain ⟨q1,q2,_⟩:=led_mem (comp_leads h o ho r hr)
 have hm : r.num ∈ (compD d).items.map (·.num):=q2 ▸ List.mem_map_of_mem q1
 rw [comp_nums h,mem_upTo] at hm
 rw [comp_len h]
 omega
theorem alike_self {d : Dc} (h : docE d = 0) : alikeB (compD d) d = true:=by
 unfold alikeB
 rw [comp_again h]
 simp [h,comp_doc h]
structure Onto (d : Dc) (a b c e p q : List Int) : Prop where
 n : ∀ m,hasI d.items m = true → newN c e (newN a b m) = newN p q m
 g : ∀ m k,hasI d.items m = true → newG c (newN a b m) (newG a m k) = newG p m k
theorem map_has {d : Dc} {a b : List Int} (F : ShMap d a b) {m : Int} (h : hasI d.items m = true) : hasI (mapDc d a b).items (newN a b m) = true:=by
 obtain ⟨i,hi,rfl⟩:=has_mem.1 h
 unfold hasI
 rw [map_look F hi]
 rfl
theorem onto_ref {d : Dc} {a b c e p q : List Int} (F : ShMap d a b) (O : Onto d a b c e p q) (r : Pob) : thenR (turnF (mapDc d a b).items c e) (turnF d.items a b) r = turnF d.items p q r:=by
 unfold thenR
 by_cases hb : ledB d.items r = true
 ·obtain ⟨m1,m2,_⟩:=map_led F hb
  obtain ⟨q1,q2,_⟩:=led_mem hb
  have hh : hasI d.items r.num = true:=has_mem.2 ⟨_,q1,q2⟩
  have hp : turnF d.items p q r = refO (newN p q r.num) (newG p r.num r.gen):=if_pos hb
  rw [if_pos (by rw [m1]; rfl),hp]
  unfold turnF at m2 ⊢
  rw [if_pos m2,if_pos hb]
  show refO (newN c e (newN a b r.num)) (newG c (newN a b r.num) (newG a r.num r.gen)) = _
  rw [O.n _ hh,O.g _ _ hh]
 ·have hz : turnF d.items a b r = Pob.null:=if_neg hb
  rw [hz,if_neg (by decide)]
  exact (if_neg hb).symm
theorem onto_obj {d : Dc} {a b c e p q : List Int} (F : ShMap d a b) (O : Onto d a b c e p q) {o : Pob} {k : Int} (h : chk o k = 0) : (o.turn (turnF d.items a b)).turn (turnF (mapDc d a b).items c e) = o.turn (turnF d.items p q):=by
 rw [turn_turn (o.bulk + 1) o k (by omega) h (turnF_goes _ _ _ _)]
 exact turn_congr (o.bulk + 1) o (by omega) fun r _=>onto_ref F O r
theorem map_map {d : Dc} {a b c e p q : List Int} (F : ShMap d a b) (G : ShMap d p q) (O : Onto d a b c e p q) : mapDc (mapDc d a b) c e = mapDc d p q:=by
 have ht : ((mapDc d a b).trailer.turn (turnF (mapDc d a b).items c e)) = d.trailer.turn (turnF d.items p q):=onto_obj F O (doc_top F.ok)
 have hi : ∀ i ∈ d.items,turnI (mapDc d a b).items c e (turnI d.items a b i) = turnI d.items p q i:=by
  intro i him
  have hh : hasI d.items i.num = true:=has_mem.2 ⟨i,him,rfl⟩
  show (⟨newN c e (newN a b i.num),newG c (newN a b i.num) (newG a i.num i.gen),(i.obj.turn (turnF d.items a b)).turn (turnF (mapDc d a b).items c e)⟩ : Itm) = ⟨newN p q i.num,newG p i.num i.gen,i.obj.turn (turnF d.items p q)⟩
  rw [O.n _ hh,O.g _ _ hh,onto_obj F O (doc_obj F.ok him).1]
 have hl : sortN ((mapDc d a b).items.map (turnI (mapDc d a b).items c e)) = sortN (d.items.map (turnI d.items p q)):=by
  refine sorted_eq ?_ (sortN_sorted _) (sortN_sorted _) ?_
  ·refine (sortN_perm _).trans (List.Perm.trans ?_ (sortN_perm _).symm)
   have h1 : ((mapDc d a b).items.map (turnI (mapDc d a b).items c e)).Perm ((d.items.map (turnI d.items a b)).map (turnI (mapDc d a b).items c e)):=(sortN_perm _).map _
   rw [List.map_map] at h1
   have h2 : d.items.map (turnI (mapDc d a b).items c e ∘ turnI d.items a b) = d.items.map (turnI d.items p q):=List.map_congr_left hi
   rw [h2] at h1
   exact h1
  ·refine ((sortN_perm _).map _).nodup_iff.2 ?_
   have h1 : ((mapDc d a b).items.map (turnI (mapDc d a b).items c e)).Perm (d.items.map (turnI d.items p q)):=by
    have h1 : ((mapDc d a b).items.map (turnI (mapDc d a b).items c e)).Perm ((d.items.map (turnI d.items a b)).map (turnI (mapDc d a b).items c e)):=(sortN_perm _).map _
    rw [List.map_map] at h1
    have h2 : d.items.map (turnI (mapDc d a b).items c e ∘ turnI d.items a b) = d.items.map (turnI d.items p q):=List.map_congr_left hi
    rw [h2] at h1
    exact h1
   exact (h1.map _).nodup_iff.2 (new_nodup G)
 show (⟨sortN ((mapDc d a b).items.map (turnI (mapDc d a b).items c e)),(mapDc d a b).trailer.turn (turnF (mapDc d a b).items c e)⟩ : Dc) = _
 rw [hl,ht]
 rfl
theorem map_nums {d : Dc} {l : List Int} (F : ShMap d l l) : (mapDc d l l).items.map (·.num) = d.items.map (·.num):=by
 refine incr_eq ?_ ?_ fun x=>?_
 ·rw [List.pairwise_map]; exact incrN_iff.1 (doc_incr (map_doc F))
 ·rw [List.pairwise_map]; exact incrN_iff.1 (doc_incr F.ok)
 ·constructor
  ·intro h
   obtain ⟨j,hj,rfl⟩:=List.mem_map.1 h
   obtain ⟨i,hi,rfl⟩:=List.mem_map.1 ((sortN_perm _).mem_iff.1 hj)
   show newN l l i.num ∈ _
   rw [newN_same]
   exact List.mem_map_of_mem hi
  ·intro h
   obtain ⟨i,hi,rfl⟩:=List.mem_map.1 h
   refine List.mem_map.2 ⟨turnI d.items l l i,(sortN_perm _).mem_iff.2 (List.mem_map_of_mem hi),?_⟩
   exact newN_same
theorem comp_same {d : Dc} {l : List Int} (F : ShMap d l l) : compD (mapDc d l l) = compD d:=by
 have hx:=map_doc F
 have hm : metO (mapDc d l l).items (mapDc d l l).trailer = metO d.items d.trailer:=by
  rw [map_met F]
  conv=>rhs; rw [← List.map_id (metO d.items d.trailer)]
  exact List.map_congr_left fun n _=>newN_same
 have hF : compF (mapDc d l l) = compF d:=by
  unfold compF restL
  rw [hm,map_nums F]
 rw [compD_eq hx,compD_eq F.ok,hF]
 exact map_map F (comp_map F.ok) ⟨fun m _=>by rw [newN_same],fun m k hh=>by rw [newN_same,comp_gen hh,comp_gen hh]⟩
theorem map_back {d : Dc} {fr to : List Int} (F : ShMap d fr to) (hall : ∀ n,hasI d.items n = true → n ∈ fr) : ShMap d fr fr ∧ mapDc (mapDc d fr to) to fr = mapDc d fr fr:=by
 have G : ShMap d fr fr:=⟨F.ok,rfl,F.fr1,F.fr1,fun n hn=>num_range F.ok (F.here n hn),F.here,fun n hn _=>hn⟩
 refine ⟨G,map_map F G ⟨fun m hm=>?_,fun m k hm=>?_⟩⟩
 ·have h1:=newN_in F.len (hall m hm)
  obtain ⟨h2,h3⟩:=nidx_at (hall m hm)
  have hlt : nidx fr m < to.length:=by have:=F.len; omega
  rw [(newN_in F.len.symm h1.1).2,h1.2,nidx_get F.to1 hlt,newN_same,h3]
 ·have h1:=newN_in F.len (hall m hm)
  rw [show newG to (newN fr to m) (newG fr m k) = 0 from if_pos h1.1,show newG fr m k = 0 from if_pos (hall m hm)]
theorem back_map {d : Dc} {fr to : List Int} (F : ShMap d fr to) (hall : ∀ n,hasI d.items n = true → n ∈ fr) : ShMap (mapDc d fr to) to fr:=by
 refine ⟨map_doc F,F.len.symm,F.to1,F.fr1,fun n hn=>num_range F.ok (F.here n hn),fun n hn=>?_,fun n hn hh=>?_⟩
 ·obtain ⟨k,hk,rfl⟩ : ∃ k,k < to.length ∧ n = to.getD k 0:=by
   obtain ⟨h1,h2⟩:=nidx_at hn
   exact ⟨_,h1,h2.symm⟩
  have hkf : k < fr.length:=by have:=F.len; omega
  have hm : fr.getD k 0 ∈ fr:=by
   rw [show fr.getD k 0 = fr[k] from by simp [List.getD,hkf]]
   exact List.getElem_mem hkf
  have:=map_has F (F.here _ hm)
  rw [(newN_in F.len hm).2,nidx_get F.fr1 hkf] at this
  exact this
 ·obtain ⟨j,hj,rfl⟩:=has_mem.1 hh
  obtain ⟨i,hi,rfl⟩:=List.mem_map.1 ((sortN_perm _).mem_iff.1 hj)
  exact (newN_in F.len (hall _ (has_mem.2 ⟨i,hi,rfl⟩))).1
theorem items_eq {a b : List Itm} (ha : a.Pairwise fun x y=>x.num < y.num) (hb : b.Pairwise fun x y=>x.num < y.num) (h : ∀ z,z ∈ a ↔ z ∈ b) : a = b:=by
 have nd : ∀ {l : List Itm},l.Pairwise (fun x y=>x.num < y.num) → l.Nodup:=fun hl=>by
  rw [List.nodup_iff_pairwise_ne]
  exact hl.imp fun hlt e=>by rw [e] at hlt; exact absurd hlt (Int.lt_irrefl _)
 refine sorted_eq ((List.perm_ext_iff_of_nodup (nd ha) (nd hb)).2 h) (ha.imp fun h=>by omega) (hb.imp fun h=>by omega) ?_
 rw [List.nodup_iff_pairwise_ne,List.pairwise_map]
 exact ha.imp fun h=>by omega
theorem met_new {d : Dc} (h : docE d = 0) {k : Nat} (hk : k < (metO d.items d.trailer).length) : newN (compF d) (upTo 1 (compF d).length) ((metO d.items d.trailer).getD k 0) = 1 + (k : Int):=by
 have hkc : k < (compF d).length:=by unfold compF; rw [List.length_append]; omega
 have:=comp_new h hkc
 have e : (compF d).getD k 0 = (metO d.items d.trailer).getD k 0:=by unfold compF; exact getD_app hk
 rw [e] at this
 exact this
theorem mem_at {l : List Int} {n : Int} (h : n ∈ l) : ∃ k,k < l.length ∧ l.getD k 0 = n:=⟨_,nidx_at h⟩
theorem at_mem {l : List Int} {k : Nat} (h : k < l.length) : l.getD k 0 ∈ l:=by
 rw [show l.getD k 0 = l[k] from by simp [List.getD,h]]
 exact List.getElem_mem h
theorem met_first {d : Dc} (h : docE d = 0) {n : Int} (hn : hasI d.items n = true) : newN (compF d) (upTo 1 (compF d).length) n ∈ upTo 1 (metO d.items d.trailer).length ↔ n ∈ metO d.items d.trailer:=by
 constructor
 ·intro hm
  obtain ⟨k,hk,rfl⟩:=mem_at (compF_mem.2 hn)
  rw [comp_new h hk,mem_upTo] at hm
  have hkm : k < (metO d.items d.trailer).length:=by omega
  have e : (compF d).getD k 0 = (metO d.items d.trailer).getD k 0:=by unfold compF; exact getD_app hkm
  rw [e]
  exact at_mem hkm
 ·intro hm
  obtain ⟨k,hk,rfl⟩:=mem_at hm
  rw [met_new h hk,mem_upTo]
  omega
theorem map_getD {f : Int → Int} {l : List Int} {k : Nat} (h : k < l.length) : (l.map f).getD k 0 = f (l.getD k 0):=by simp [List.getD,h]
theorem met_two {d : Dc} {fr to : List Int} (F : ShMap d fr to) {n : Int} (hn : n ∈ metO d.items d.trailer) :
  newN (compF (mapDc d fr to)) (upTo 1 (compF (mapDc d fr to)).length) (newN fr to n) = newN (compF d) (upTo 1 (compF d).length) n:=by
 obtain ⟨k,hk,rfl⟩:=mem_at hn
 have hm:=map_met F
 have hk2 : k < (metO (mapDc d fr to).items (mapDc d fr to).trailer).length:=by rw [hm,List.length_map]; exact hk
 have h2:=met_new (map_doc F) hk2
 rw [hm,map_getD hk] at h2
 rw [h2,met_new F.ok hk]
theorem met_ref {d : Dc} {fr to : List Int} (F : ShMap d fr to) {r : Pob} (hr : ledB d.items r = true → r.num ∈ metO d.items d.trailer) :
  thenR (turnF (mapDc d fr to).items (compF (mapDc d fr to)) (upTo 1 (compF (mapDc d fr to)).length)) (turnF d.items fr to) r = turnF d.items (compF d) (upTo 1 (compF d).length) r:=by
 unfold thenR
 by_cases hb : ledB d.items r = true
 ·obtain ⟨m1,m2,_⟩:=map_led F hb
  obtain ⟨q1,q2,_⟩:=led_mem hb
  have hh : hasI d.items r.num = true:=has_mem.2 ⟨_,q1,q2⟩
  have hp : turnF d.items (compF d) (upTo 1 (compF d).length) r = refO (newN (compF d) (upTo 1 (compF d).length) r.num) (newG (compF d) r.num r.gen):=if_pos hb
  rw [if_pos (by rw [m1]; rfl),hp,comp_gen hh]
  have hh2:=map_has F hh
  unfold turnF at m2 ⊢
  rw [if_pos m2,if_pos hb]
  show refO (newN _ _ (newN fr to r.num)) (newG _ (newN fr to r.num) (newG fr r.num r.gen)) = _
  rw [met_two F (hr hb),comp_gen hh2]
 ·have hz : turnF d.items fr to r = Pob.null:=if_neg hb
  rw [hz,if_neg (by decide)]
  exact (if_neg hb).symm
theorem met_obj {d : Dc} {fr to : List Int} (F : ShMap d fr to) {o : Pob} {k : Int} (h : chk o k = 0) (hr : ∀ r ∈ o.rr,ledB d.items r = true → r.num ∈ metO d.items d.trailer) :
  (o.turn (turnF d.items fr to)).turn (turnF (mapDc d fr to).items (compF (mapDc d fr to)) (upTo 1 (compF (mapDc d fr to)).length)) = o.turn (turnF d.items (compF d) (upTo 1 (compF d).length)):=by
 rw [turn_turn (o.bulk + 1) o k (by omega) h (turnF_goes _ _ _ _)]
 exact turn_congr (o.bulk + 1) o (by omega) fun r hm=>met_ref F (hr r hm)
theorem met_item {d : Dc} {fr to : List Int} (F : ShMap d fr to) {i : Itm} (hi : i ∈ d.items) (hm : i.num ∈ metO d.items d.trailer) :
  turnI (mapDc d fr to).items (compF (mapDc d fr to)) (upTo 1 (compF (mapDc d fr to)).length) (turnI d.items fr to i) = turnI d.items (compF d) (upTo 1 (compF d).length) i:=by
 have hh : hasI d.items i.num = true:=has_mem.2 ⟨i,hi,rfl⟩
 have hl : lookI d.items i.num = some i:=(look_some (doc_incr F.ok)).2 ⟨hi,rfl⟩
 show (⟨newN _ _ (newN fr to i.num),newG _ (newN fr to i.num) (newG fr i.num i.gen),(i.obj.turn (turnF d.items fr to)).turn _⟩ : Itm) = ⟨newN _ _ i.num,newG _ i.num i.gen,i.obj.turn _⟩
 rw [met_two F hm,comp_gen (map_has F hh),comp_gen hh,met_obj F (doc_obj F.ok hi).1 ((metO_closed d.items d.trailer).2 _ hm i hl)]
theorem comp_mem {d : Dc} (h : docE d = 0) {z : Itm} : z ∈ (compD d).items ↔ ∃ i ∈ d.items,z = turnI d.items (compF d) (upTo 1 (compF d).length) i:=by
 rw [compD_eq h]
 show z ∈ sortN _ ↔ _
 rw [(sortN_perm _).mem_iff,List.mem_map]
 exact ⟨fun ⟨i,hi,e⟩=>⟨i,hi,e.symm⟩,fun ⟨i,hi,e⟩=>⟨i,hi,e.symm⟩⟩
theorem reached_map {d : Dc} {fr to : List Int} (F : ShMap d fr to) : reachedD (compD (mapDc d fr to)) = reachedD (compD d):=by
 have hx:=map_doc F
 have hml : (metO (mapDc d fr to).items (mapDc d fr to).trailer).length = (metO d.items d.trailer).length:=by rw [map_met F,List.length_map]
 unfold reachedD
 rw [comp_met hx,comp_met F.ok,hml]
 have ht : (compD (mapDc d fr to)).trailer = (compD d).trailer:=by
  rw [compD_eq hx,compD_eq F.ok]
  exact met_obj F (doc_top F.ok) (metO_closed d.items d.trailer).1
 rw [ht]
 congr 1
 refine items_eq ((incrN_iff.1 (doc_incr (comp_doc hx))).sublist List.filter_sublist) ((incrN_iff.1 (doc_incr (comp_doc F.ok))).sublist List.filter_sublist) fun z=>?_
 rw [List.mem_filter,List.mem_filter,comp_mem hx,comp_mem F.ok]
 simp only [decide_eq_true_eq]
 constructor
 ·rintro ⟨⟨j,hj,rfl⟩,hz⟩
  have hj2:=hj
  obtain ⟨i,hi,rfl⟩:=List.mem_map.1 ((sortN_perm _).mem_iff.1 hj)
  have hh : hasI d.items i.num = true:=has_mem.2 ⟨i,hi,rfl⟩
  have hm : (newN fr to i.num) ∈ metO (mapDc d fr to).items (mapDc d fr to).trailer:=by
   refine (met_first hx (map_has F hh)).1 ?_
   rw [hml]
   exact hz
  rw [map_met F,List.mem_map] at hm
  obtain ⟨n,hn,e⟩:=hm
  obtain ⟨i2,hi2,e2⟩:=metO_in n hn
  have hin : i.num ∈ metO d.items d.trailer:=by
   have:=newN_inj F (has_mem.2 ⟨i2,hi2,e2⟩) hh e
   exact this ▸ hn
  refine ⟨⟨i,hi,met_item F hi hin⟩,hz⟩
 ·rintro ⟨⟨i,hi,rfl⟩,hz⟩
  have hh : hasI d.items i.num = true:=has_mem.2 ⟨i,hi,rfl⟩
  have hin : i.num ∈ metO d.items d.trailer:=(met_first F.ok hh).1 hz
  exact ⟨⟨turnI d.items fr to i,(sortN_perm _).mem_iff.2 (List.mem_map_of_mem hi),(met_item F hi hin).symm⟩,hz⟩
theorem alike_map {d : Dc} {fr to : List Int} (F : ShMap d fr to) : alikeB (mapDc d fr to) d = true:=by
 unfold alikeB
 rw [reached_map F]
 simp [F.ok,map_doc F]
end Aw
