/- What the references of layer 5 compute, in plain terms. -/
import Derived.Test.YtlamdhcfojligaaGreatPart1
set_option linter.unusedVariables false
set_option linter.unusedSimpArgs false
namespace Aw
open Go
theorem idxb_neg : ∀ {s : List UInt8} {c : UInt8},Lib.indexByte s c < 0 ↔ ∀ i,i < s.length → s.getD i 0 ≠ c
 | [],c=>by simp [Lib.indexByte]
 | b :: l,c=>by
  have ih:=idxb_neg (s:=l) (c:=c)
  have hg:=Lib.indexByte_ge l c
  rw [Lib.indexByte]
  by_cases hb : b = c
  ·rw [if_pos (by simpa using hb)]
   refine ⟨fun h=>absurd h (by omega),fun h=>absurd (h 0 (by simp)) (by simpa using hb)⟩
  ·rw [if_neg (by simpa using hb)]
   constructor
   ·intro h i hi
    cases i with
    | zero=>simpa using hb
    | succ i =>
     have h' : Lib.indexByte l c < 0:=by
      split at h <;> rename_i h1
      ·have h1 : Lib.indexByte l c = -1:=by simpa using h1
       omega
      ·omega
     simpa using ih.1 h' i (by simpa using hi)
   ·intro h
    have h':=ih.2 fun i hi=>by simpa using h (i + 1) (by simpa using hi)
    have h2 : Lib.indexByte l c = -1:=by omega
    simp [h2]
theorem nameB_no {s : List UInt8} {i : Nat} (hi : i < s.length) (h : s.getD i 0 = 0) : nameB s = false:=by
 have : ¬ Lib.indexByte s 0 < 0:=fun h'=>idxb_neg.1 h' i hi h
 simp [nameB,this]
theorem nameB_all {s : List UInt8} (h : ∀ i,i < s.length → s.getD i 0 ≠ 0) : nameB s = decide ((s.length : Int) ≤ 127):=by
 have : Lib.indexByte s 0 < 0:=idxb_neg.2 h
 simp [nameB,this]
/-! a key less -/
/-! a key put -/
/-! numbers in order -/
def nplace (l : List Int) (n : Int) : Nat:=l.findIdx (fun x=>!decide (x < n))
theorem nplace_eq {l : List Int} {n : Int} {i : Nat} (hi : i ≤ l.length) (h1 : ∀ a,a < i → l.getD a 0 < n) (h2 : i < l.length → ¬ l.getD i 0 < n) : nplace l n = i:=by
 unfold nplace
 by_cases h : i < l.length
 ·rw [List.findIdx_eq h]
  have h3:=h2 h
  simp only [List.getD,List.getElem?_eq_getElem h,Option.getD_some] at h3
  refine ⟨by simpa using h3,fun j hj=>?_⟩
  have:=h1 j hj
  simp only [List.getD,List.getElem?_eq_getElem (Nat.lt_trans hj h),Option.getD_some] at this
  simp [this]
 ·obtain rfl : i = l.length:=by omega
  refine List.findIdx_eq_length.2 ?_
  intro x hx
  obtain ⟨j,hj,rfl⟩:=List.getElem_of_mem hx
  have:=h1 j hj
  simp only [List.getD,List.getElem?_eq_getElem hj,Option.getD_some] at this
  simp [this]
def numIns (l : List Int) (n : Int) : List Int:=if nplace l n < l.length ∧ l.getD (nplace l n) 0 = n then l else l.take (nplace l n) ++ [n] ++ l.drop (nplace l n)
theorem numIns_spec : ∀ {l : List Int} {n : Int},l.Pairwise (· < ·) → (numIns l n).Pairwise (· < ·) ∧ ∀ x,x ∈ numIns l n ↔ x ∈ l ∨ x = n
 | [],n,_=>by simp [numIns,nplace]
 | a :: l,n,h=>by
  rw [List.pairwise_cons] at h
  by_cases h1 : a < n
  ·have hp : nplace (a :: l) n = nplace l n + 1:=by simp [nplace,List.findIdx_cons,h1]
   have ih:=numIns_spec (n:=n) h.2
   have he : numIns (a :: l) n = a :: numIns l n:=by
    unfold numIns
    rw [hp]
    simp only [List.length_cons,Nat.add_lt_add_iff_right,List.getD_cons_succ,List.take_succ_cons,List.drop_succ_cons,List.cons_append]
    split <;> rfl
   rw [he,List.pairwise_cons]
   refine ⟨⟨fun x hx=>?_,ih.1⟩,fun x=>?_⟩
   ·rcases (ih.2 x).1 hx with h' | rfl
    ·exact h.1 x h'
    ·exact h1
   ·rw [List.mem_cons,ih.2,List.mem_cons,or_assoc]
  ·have hp : nplace (a :: l) n = 0:=by simp [nplace,List.findIdx_cons,h1]
   by_cases h2 : a = n
   ·have he : numIns (a :: l) n = a :: l:=by
     unfold numIns
     rw [hp,if_pos ⟨by simp,by simpa using h2⟩]
    rw [he,List.pairwise_cons]
    refine ⟨h,fun x=>⟨fun h'=>.inl h',fun h'=>h'.elim id fun e=>?_⟩⟩
    rw [e,← h2]; exact List.mem_cons_self
   ·have he : numIns (a :: l) n = n :: a :: l:=by
     unfold numIns
     rw [hp,if_neg (fun h'=>h2 (by simpa using h'.2))]
     rfl
    rw [he,List.pairwise_cons,List.pairwise_cons]
    refine ⟨⟨fun x hx=>?_,h⟩,fun x=>?_⟩
    ·rcases List.mem_cons.1 hx with rfl | hx
     ·omega
     ·have:=h.1 x hx; omega
    ·rw [List.mem_cons]
     constructor
     ·rintro (rfl | h'); exact .inr rfl; exact .inl h'
     ·rintro (h' | rfl); exact .inr h'; exact .inl rfl
theorem numIns_len (l : List Int) (n : Int) : (numIns l n).length ≤ l.length + 1:=by
 unfold numIns
 split
 ·omega
 ·simp; omega
theorem numIns_fold : ∀ (m l : List Int),l.Pairwise (· < ·) → (m.foldl numIns l).Pairwise (· < ·) ∧ ∀ x,x ∈ m.foldl numIns l ↔ x ∈ l ∨ x ∈ m
 | [],l,h=>⟨h,fun x=>by simp⟩
 | n :: m,l,h=>by
  obtain ⟨h1,h2⟩:=numIns_spec (n:=n) h
  obtain ⟨h3,h4⟩:=numIns_fold m (numIns l n) h1
  refine ⟨h3,fun x=>?_⟩
  rw [List.foldl_cons,h4,h2,List.mem_cons,or_assoc]
def ownR (o : Pob) : List Int:=if refB o = true then [o.num] else []
def kidR (ks : List Pob) (s : List Int) : List Int:=ks.foldl (fun s k=>(refsO k).foldl numIns s) s
theorem kidR_spec : ∀ (ks : List Pob) (s : List Int),s.Pairwise (· < ·) → (kidR ks s).Pairwise (· < ·) ∧ ∀ x,x ∈ kidR ks s ↔ x ∈ s ∨ ∃ k ∈ ks,x ∈ refsO k
 | [],s,h=>⟨h,fun x=>by simp [kidR]⟩
 | k :: ks,s,h=>by
  obtain ⟨h1,h2⟩:=numIns_fold (refsO k) s h
  obtain ⟨h3,h4⟩:=kidR_spec ks _ h1
  refine ⟨h3,fun x=>?_⟩
  show x ∈ kidR ks _ ↔ _
  rw [h4,h2]
  simp only [List.mem_cons,exists_eq_or_imp,or_assoc]
theorem pres_mem {l : List Pob} {p : Pob} : p ∈ pres l ↔ ∃ k ∈ l,p ∈ k.pre:=by
 induction l with
 | nil=>simp [pres]
 | cons o l ih=>rw [pres,List.mem_append,ih]; simp
theorem kidR_all (o : Pob) : kidR o.kids (ownR o) = refsO o:=by
 have h0 : (ownR o).Pairwise (· < ·):=by unfold ownR; split <;> simp
 obtain ⟨h1,h2⟩:=kidR_spec o.kids _ h0
 refine lt_ext h1 (refs_lt o) fun n=>?_
 rw [h2,refs_mem]
 rw [Pob.pre_eq]
 constructor
 ·rintro (h | ⟨k,hk,h⟩)
  ·unfold ownR at h
   split at h
   ·rename_i hb
    rw [List.mem_singleton] at h
    exact ⟨o,List.mem_cons_self,hb,h.symm⟩
   ·cases h
  ·obtain ⟨p,hp,hb,hn⟩:=refs_mem.1 h
   exact ⟨p,List.mem_cons_of_mem _ (pres_mem.2 ⟨k,hk,hp⟩),hb,hn⟩
 ·rintro ⟨p,hp,hb,hn⟩
  rcases List.mem_cons.1 hp with rfl | hp
  ·left
   unfold ownR
   rw [if_pos hb,List.mem_singleton,hn]
  ·obtain ⟨k,hk,hp⟩:=pres_mem.1 hp
   exact .inr ⟨k,hk,refs_mem.2 ⟨p,hp,hb,hn⟩⟩
theorem kidR_succ {l : List Pob} {i : Nat} (h : i < l.length) (s : List Int) : kidR (l.take (i + 1)) s = (refsO (l.getD i Pob.null)).foldl numIns (kidR (l.take i) s):=by
 unfold kidR
 rw [List.take_add_one,List.foldl_append,List.getElem?_eq_getElem h]
 simp [List.getD,List.getElem?_eq_getElem h]
theorem foldN_succ {l : List Int} {i : Nat} (h : i < l.length) (s : List Int) : (l.take (i + 1)).foldl numIns s = numIns ((l.take i).foldl numIns s) (l.getD i 0):=by
 rw [List.take_add_one,List.foldl_append,List.getElem?_eq_getElem h]
 simp [List.getD,List.getElem?_eq_getElem h]
theorem foldN_len : ∀ (m l : List Int),(m.foldl numIns l).length ≤ l.length + m.length
 | [],l=>by simp
 | n :: m,l=>by
  have h1:=numIns_len l n
  have h2:=foldN_len m (numIns l n)
  rw [List.foldl_cons,List.length_cons]
  omega
theorem bulks_takele (l : List Pob) (i : Nat) : bulks (l.take i) ≤ bulks l:=by
 have:=bulks_append (l.take i) (l.drop i)
 rw [List.take_append_drop] at this
 omega
theorem kidR_len : ∀ (ks : List Pob) (s : List Int),(kidR ks s).length ≤ s.length + bulks ks
 | [],s=>by simp [kidR,bulks]
 | k :: ks,s=>by
  have h1:=foldN_len (refsO k) s
  have h2:=kidR_len ks ((refsO k).foldl numIns s)
  have h3:=refs_len k
  have e : kidR (k :: ks) s = kidR ks ((refsO k).foldl numIns s):=rfl
  rw [e,bulks]
  omega
end Aw
