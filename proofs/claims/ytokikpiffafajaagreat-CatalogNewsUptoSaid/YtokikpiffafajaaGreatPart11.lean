/- A part of the proof of a law of the seat: no condition of its own. -/
import Derived.Test.YtokikpiffafajaaGreatPart10
import Derived.Shelf.Strings.Search1
set_option linter.unusedVariables false
set_option linter.unusedSimpArgs false
namespace Aw
open Go
theorem hold_ref (o : Pob) : holdsB o = (decide (o.kind = 9) && (decide ((getO o typeK).kind = 5) && (decide ((getO o typeK).str = [79, 98, 106, 83, 116, 109]) || decide ((getO o typeK).str = [88, 82, 101, 102])))) := by
  unfold holdsB docKind
  by_cases h5 : (getO o typeK).kind = 5
  · have hb : ∀ a b c : Bool, (bif a then (bif b then true else c) else false) = (a && (true && (b || c))) := by decide
    simp only [if_pos h5, h5, decide_true]
    exact hb _ _ _
  · simp [h5]
theorem content_knd {i : Itm} (h : chk i.obj 1 = 0) (h' : i.obj.kind = 8 ∨ holdsB i.obj = true) : contentE i = 10 := by unfold contentE; rw [if_neg (by simpa using h), if_pos h']
theorem content_fine {i : Itm} (h : chk i.obj 1 = 0) (h' : ¬ (i.obj.kind = 8 ∨ holdsB i.obj = true)) : contentE i = 0 := by unfold contentE; rw [if_neg (by simpa using h), if_neg h']
theorem trail_idx (k : List UInt8) : 0 ≤ kidxI trailK k ↔ k = [73, 68] ∨ k = [73, 110, 102, 111] ∨ k = [82, 111, 111, 116] := by
  rcases kidxI_cases trailK k with ⟨i, hi, he, hk⟩ | ⟨he, hn⟩
  · have hi3 : i < 3 := hi
    rw [he]
    refine ⟨fun _ => ?_, fun _ => by omega⟩
    obtain rfl | rfl | rfl : i = 0 ∨ i = 1 ∨ i = 2 := by omega
    · exact .inl hk.symm
    · exact .inr (.inl hk.symm)
    · exact .inr (.inr hk.symm)
  · rw [he]
    refine ⟨fun h => absurd h (by omega), fun h => ?_⟩
    rcases h with rfl | rfl | rfl
    · exact absurd rfl (hn 0 (by decide))
    · exact absurd rfl (hn 1 (by decide))
    · exact absurd rfl (hn 2 (by decide))
theorem itots_get {l : List Itm} {i : Nat} (h : i < l.length) : (l.getD i Itm.zero).obj.tot + 3 ≤ itots l := by
  induction l generalizing i with
  | nil => simp at h
  | cons x l ih =>
    simp only [itots, List.map_cons, List.sum_cons, Itm.tot]
    cases i with
    | zero => simp only [List.getD_cons_zero]; omega
    | succ i =>
      have := ih (i := i) (by simpa using h)
      simp only [List.getD_cons_succ, itots, Itm.tot] at this ⊢
      omega
theorem itots_len (l : List Itm) : 3 * l.length ≤ itots l := by
  induction l with
  | nil => simp [itots]
  | cons x l ih => simp only [itots, List.map_cons, List.sum_cons, List.length_cons, Itm.tot] at ih ⊢; omega
theorem itots_append (a b : List Itm) : itots (a ++ b) = itots a + itots b := by simp [itots]
theorem itots_takele (l : List Itm) (i : Nat) : itots (l.take i) ≤ itots l := by
  have := itots_append (l.take i) (l.drop i)
  rw [List.take_append_drop] at this
  omega
theorem itots_set (l : List Itm) (k : Nat) (i : Itm) : itots (l.set k i) ≤ itots l + i.tot := by
  induction l generalizing k with
  | nil => simp [itots]
  | cons x l ih =>
    cases k with
    | zero => simp only [List.set_cons_zero, itots, List.map_cons, List.sum_cons]; omega
    | succ k => have := ih k; simp only [List.set_cons_succ, itots, List.map_cons, List.sum_cons] at this ⊢; omega
theorem itots_lay (l : List Itm) (i : Itm) : itots (layI l i) ≤ itots l + i.tot := by
  unfold layI
  split
  · exact itots_set _ _ _
  · have h := itots_append (l.take (iplace l i.num)) (l.drop (iplace l i.num))
    rw [List.take_append_drop] at h
    unfold insAt
    rw [itots_append]
    simp only [itots, List.map_cons, List.sum_cons] at h ⊢
    omega
theorem itots_take (l : List Itm) (n : Int) : itots (takeI l n) ≤ itots l := by
  unfold takeI
  split
  · have h := itots_append (l.take (iplace l n)) (l.drop (iplace l n))
    rw [List.take_append_drop] at h
    have h2 := itots_append ((l.drop (iplace l n)).take 1) ((l.drop (iplace l n)).drop 1)
    rw [List.take_append_drop, List.drop_drop] at h2
    unfold delAt
    rw [itots_append]
    omega
  · exact Nat.le_refl _
/-- the items but those with a number -/
theorem take_filter {l : List Itm} (hs : incrN l) (n : Int) : l.filter (fun i => decide (i.num ≠ n)) = takeI l n := by
  have key : ∀ a, a < l.length → ((l.getD a Itm.zero).num = n ↔ ithere l n = true ∧ a = iplace l n) := by
    intro a ha
    constructor
    · intro e
      have hp : iplace l n = a := iplace_eq (by omega) (fun b hb => by have := hs b a hb ha; omega) (fun _ => by omega)
      exact ⟨by rw [ithere_eq hp]; simp only [Bool.and_eq_true, decide_eq_true_eq]; exact ⟨ha, e⟩, hp.symm⟩
    · rintro ⟨h1, rfl⟩
      exact ithere_num h1
  unfold takeI
  split
  · rename_i ht
    have hlt := ithere_lt ht
    have e : l = l.take (iplace l n) ++ l[iplace l n] :: l.drop (iplace l n + 1) := by rw [← List.drop_eq_getElem_cons hlt, List.take_append_drop]
    have hg : (l.getD (iplace l n) Itm.zero).num = n := ithere_num ht
    have hge : l.getD (iplace l n) Itm.zero = l[iplace l n] := by simp [List.getD, hlt]
    rw [hge] at hg
    unfold delAt
    conv => lhs; rw [e]
    rw [List.filter_append, List.filter_cons, if_neg (by simp [hg])]
    congr 1
    · refine List.filter_eq_self.2 fun x hx => ?_
      obtain ⟨a, ha, rfl⟩ := List.getElem_of_mem hx
      rw [List.length_take] at ha
      have := fun hh => (show ¬ (ithere l n = true ∧ a = iplace l n) from fun h => by have := h.2; omega) ((key a (by omega)).1 hh)
      rw [List.getElem_take]
      simp only [List.getD, List.getElem?_eq_getElem (show a < l.length by omega), Option.getD_some] at this
      simpa using this
    · refine List.filter_eq_self.2 fun x hx => ?_
      obtain ⟨a, ha, rfl⟩ := List.getElem_of_mem hx
      rw [List.length_drop] at ha
      have := fun hh => (show ¬ (ithere l n = true ∧ iplace l n + 1 + a = iplace l n) from fun h => by have := h.2; omega) ((key (iplace l n + 1 + a) (by omega)).1 hh)
      rw [List.getElem_drop]
      simp only [List.getD, List.getElem?_eq_getElem (show iplace l n + 1 + a < l.length by omega), Option.getD_some] at this
      simpa using this
  · rename_i ht
    refine List.filter_eq_self.2 fun x hx => ?_
    obtain ⟨a, ha, rfl⟩ := List.getElem_of_mem hx
    have := fun hh => ht ((key a ha).1 hh).1
    simp only [List.getD, List.getElem?_eq_getElem ha, Option.getD_some] at this
    simpa using this
theorem look_there {l : List Itm} (hs : incrN l) (n : Int) : (lookI l n).isSome = ithere l n ∧ (lookI l n).getD Itm.zero = if ithere l n = true then l.getD (iplace l n) Itm.zero else Itm.zero := by
  by_cases ht : ithere l n = true
  · have hlt := ithere_lt ht
    have hi := iidx_hit (l := l) (n := n) hlt (fun j hj => by have := hs j (iplace l n) hj hlt; have := ithere_num ht; omega) (ithere_num ht)
    rw [look_hit (by omega), hi, ht]
    simp
  · have hm : iidxI l n = -1 := iidx_miss fun j hj e => ht (by
      have hp : iplace l n = j := iplace_eq (by omega) (fun b hb => by have := hs b j hb hj; omega) (fun _ => by omega)
      rw [ithere_eq hp]; simp only [Bool.and_eq_true, decide_eq_true_eq]; exact ⟨hj, e⟩)
    rw [look_miss (by omega)]
    simp [ht]
theorem lay_there {l : List Itm} {i : Itm} (ht : ithere l i.num = true) : layI l i = l.take (iplace l i.num) ++ [i] ++ l.drop (iplace l i.num + 1) := by
  have hlt := ithere_lt ht
  unfold layI
  rw [if_pos ht, List.set_eq_take_append_cons_drop, if_pos hlt]
  simp
theorem lay_new {l : List Itm} {i : Itm} (ht : ithere l i.num = false) : layI l i = l.take (iplace l i.num) ++ [i] ++ l.drop (iplace l i.num) := by
  unfold layI
  rw [if_neg (by simp [ht])]
  simp [insAt]
theorem itots_takeS {l : List Itm} {i : Nat} (h : i < l.length) : itots (l.take (i + 1)) = itots (l.take i) + (l.getD i Itm.zero).tot := by
  rw [List.take_succ_eq_append_getElem h, itots_append]
  simp [itots, List.getD, h]
end Aw

set_option linter.unusedVariables false
set_option linter.unusedSimpArgs false
namespace Aw
open Go
def infoK : List UInt8 := [73, 110, 102, 111]
def keyE (k : List UInt8) : Int := if k = [] ∨ 0 ≤ Lib.indexByte k 0 then 3 else if 127 < (k.length : Int) then 5 else 0
theorem key_form {k : List UInt8} (h : k = [] ∨ 0 ≤ Lib.indexByte k 0) : keyE k = 3 := by unfold keyE; rw [if_pos h]
theorem key_long {k : List UInt8} (h : ¬ (k = [] ∨ 0 ≤ Lib.indexByte k 0)) (h' : 127 < (k.length : Int)) : keyE k = 5 := by unfold keyE; rw [if_neg h, if_pos h']
theorem key_fine {k : List UInt8} (h : ¬ (k = [] ∨ 0 ≤ Lib.indexByte k 0)) (h' : ¬ 127 < (k.length : Int)) : keyE k = 0 := by unfold keyE; rw [if_neg h, if_neg h']
/-- the catalog's item -/
def rootI (d : Dc) : Itm := (lookI d.items (getO d.trailer rootK).num).getD Itm.zero
def rootO (d : Dc) : Itm := if docE d = 0 then rootI d else Itm.zero
/-- an item with a key more, put -/
def withE (d : Dc) (i : Itm) (k : List UInt8) (o : Pob) : Int := if setE i.obj k o ≠ 0 then setE i.obj k o else putE d ⟨i.num, i.gen, setO i.obj k o⟩
def withD (d : Dc) (i : Itm) (k : List UInt8) (o : Pob) : Dc := if setE i.obj k o ≠ 0 then Dc.zero else putO d ⟨i.num, i.gen, setO i.obj k o⟩
theorem with_bad {d : Dc} {i : Itm} {k : List UInt8} {o : Pob} (h : ¬ setE i.obj k o = 0) : withE d i k o = setE i.obj k o ∧ withD d i k o = Dc.zero := by
  unfold withE withD; rw [if_pos h, if_pos h]; exact ⟨rfl, rfl⟩
theorem with_ok {d : Dc} {i : Itm} {k : List UInt8} {o : Pob} (h : setE i.obj k o = 0) : withE d i k o = putE d ⟨i.num, i.gen, setO i.obj k o⟩ ∧ withD d i k o = putO d ⟨i.num, i.gen, setO i.obj k o⟩ := by
  unfold withE withD; rw [if_neg (by simpa using h), if_neg (by simpa using h)]; exact ⟨rfl, rfl⟩
def setRootE (d : Dc) (k : List UInt8) (o : Pob) : Int := if docE d ≠ 0 then docE d else if keyE k ≠ 0 then keyE k else if chk o 1 ≠ 0 then chk o 1 else withE d (rootI d) k o
def setRootD (d : Dc) (k : List UInt8) (o : Pob) : Dc := if docE d ≠ 0 ∨ keyE k ≠ 0 ∨ chk o 1 ≠ 0 then Dc.zero else withD d (rootI d) k o
theorem setRoot_doc {d : Dc} {k : List UInt8} {o : Pob} (h : ¬ docE d = 0) : setRootE d k o = docE d ∧ setRootD d k o = Dc.zero := by
  unfold setRootE setRootD; rw [if_pos h, if_pos (.inl h)]; exact ⟨rfl, rfl⟩
theorem setRoot_key {d : Dc} {k : List UInt8} {o : Pob} (h : docE d = 0) (h' : ¬ keyE k = 0) : setRootE d k o = keyE k ∧ setRootD d k o = Dc.zero := by
  unfold setRootE setRootD; rw [if_neg (by simpa using h), if_pos h', if_pos (.inr (.inl h'))]; exact ⟨rfl, rfl⟩
theorem setRoot_obj {d : Dc} {k : List UInt8} {o : Pob} (h : docE d = 0) (h1 : keyE k = 0) (h' : ¬ chk o 1 = 0) : setRootE d k o = chk o 1 ∧ setRootD d k o = Dc.zero := by
  unfold setRootE setRootD; rw [if_neg (by simpa using h), if_neg (by simpa using h1), if_pos h', if_pos (.inr (.inr h'))]; exact ⟨rfl, rfl⟩
theorem setRoot_ok {d : Dc} {k : List UInt8} {o : Pob} (h : docE d = 0) (h1 : keyE k = 0) (h' : chk o 1 = 0) : setRootE d k o = withE d (rootI d) k o ∧ setRootD d k o = withD d (rootI d) k o := by
  unfold setRootE setRootD; rw [if_neg (by simpa using h), if_neg (by simpa using h1), if_neg (by simpa using h'), if_neg (by simp [h, h1, h'])]; exact ⟨rfl, rfl⟩
def infoR (d : Dc) : Pob := getO d.trailer infoK
def infoO (d : Dc) : Pob := followO d (infoR d)
def infoS (d : Dc) (k : List UInt8) : List UInt8 := if docE d ≠ 0 then [] else if (infoO d).kind ≠ 7 ∨ (followO d (getO (infoO d) k)).kind ≠ 4 then [] else (followO d (getO (infoO d) k)).str
def trailedE (d : Dc) (o : Pob) : Int := setE d.trailer infoK o
def trailedD (d : Dc) (o : Pob) : Dc := if setE d.trailer infoK o ≠ 0 then Dc.zero else ⟨d.items, setO d.trailer infoK o⟩
def textO (t : List UInt8) : Pob := if t = [] then Pob.null else strO t
/-- what SetInfo does with a valid document, key and text -/
def putInfoE (d : Dc) (k t : List UInt8) : Int :=
  if (infoO d).kind = 7 ∧ (infoR d).kind = 8 then withE d ((lookI d.items (infoR d).num).getD Itm.zero) k (textO t)
  else if (infoO d).kind = 7 then (if setE (infoO d) k (textO t) ≠ 0 then setE (infoO d) k (textO t) else trailedE d (setO (infoO d) k (textO t)))
  else if t = [] then 0
  else if addE d (dictO [nameO k, textO t]) ≠ 0 then addE d (dictO [nameO k, textO t])
  else trailedE (addO d (dictO [nameO k, textO t])) (refO (addN d (dictO [nameO k, textO t])) 0)
def putInfoD (d : Dc) (k t : List UInt8) : Dc :=
  if (infoO d).kind = 7 ∧ (infoR d).kind = 8 then withD d ((lookI d.items (infoR d).num).getD Itm.zero) k (textO t)
  else if (infoO d).kind = 7 then (if setE (infoO d) k (textO t) ≠ 0 then Dc.zero else trailedD d (setO (infoO d) k (textO t)))
  else if t = [] then d
  else if addE d (dictO [nameO k, textO t]) ≠ 0 then Dc.zero
  else trailedD (addO d (dictO [nameO k, textO t])) (refO (addN d (dictO [nameO k, textO t])) 0)
def setInfoE (d : Dc) (k t : List UInt8) : Int := if docE d ≠ 0 then docE d else if keyE k ≠ 0 then keyE k else if 4096 < (t.length : Int) then 5 else putInfoE d k t
def setInfoD (d : Dc) (k t : List UInt8) : Dc := if docE d ≠ 0 ∨ keyE k ≠ 0 ∨ 4096 < (t.length : Int) then Dc.zero else putInfoD d k t
theorem setInfo_doc {d : Dc} {k t : List UInt8} (h : ¬ docE d = 0) : setInfoE d k t = docE d ∧ setInfoD d k t = Dc.zero := by
  unfold setInfoE setInfoD; rw [if_pos h, if_pos (.inl h)]; exact ⟨rfl, rfl⟩
theorem setInfo_key {d : Dc} {k t : List UInt8} (h : docE d = 0) (h' : ¬ keyE k = 0) : setInfoE d k t = keyE k ∧ setInfoD d k t = Dc.zero := by
  unfold setInfoE setInfoD; rw [if_neg (by simpa using h), if_pos h', if_pos (.inr (.inl h'))]; exact ⟨rfl, rfl⟩
theorem setInfo_long {d : Dc} {k t : List UInt8} (h : docE d = 0) (h1 : keyE k = 0) (h' : 4096 < (t.length : Int)) : setInfoE d k t = 5 ∧ setInfoD d k t = Dc.zero := by
  unfold setInfoE setInfoD; rw [if_neg (by simpa using h), if_neg (by simpa using h1), if_pos h', if_pos (.inr (.inr h'))]; exact ⟨rfl, rfl⟩
theorem setInfo_ok {d : Dc} {k t : List UInt8} (h : docE d = 0) (h1 : keyE k = 0) (h' : ¬ 4096 < (t.length : Int)) : setInfoE d k t = putInfoE d k t ∧ setInfoD d k t = putInfoD d k t := by
  unfold setInfoE setInfoD; rw [if_neg (by simpa using h), if_neg (by simpa using h1), if_neg h', if_neg (by rintro (h2 | h2 | h2); exact h2 h; exact h2 h1; exact h' h2)]; exact ⟨rfl, rfl⟩
theorem apply_nil {d : Dc} (h : docE d = 0) : applyD d [] [] = d := by
  have h1 := (apply_ok (l := []) (ns := []) (x := d.items) h (by rw [applyT]) (by rw [aloneL])).2
  rw [h1]
  have : (⟨List.foldl layI d.items [], d.trailer⟩ : Dc) = d := rfl
  rw [this, if_pos h]
end Aw

namespace Go.Proofs
open Go.Shelf
def Tryz.lays217_ren : Go.Shelf.Ren := ⟨fun | 217 => 148 | 266 => 157 | n => n, fun | 9 => 9 | 5 => 5 | 3 => 3 | n => n, fun | n => n⟩
theorem Tryz.lays217 : Go.Proofs.Lays.n217 Tryz.prog Tryz.lays217_ren := {
  mixed := by kernel_rfl
  f217 := Tryz.func148.trans (congrArg some (by kernel_rfl))
  f266 := Tryz.func157.trans (congrArg some (by kernel_rfl))
  t3 := Tryz.underlying3
  a3 := Tryz.isAgg3
  z3 := Tryz.sizeOf3
  v3 := Tryz.zeroValue3
  t5 := Tryz.underlying5
  a5 := Tryz.isAgg5
  z5 := Tryz.sizeOf5
  v5 := Tryz.zeroValue5
  t9 := Tryz.underlying9
  a9 := Tryz.isAgg9
  z9 := Tryz.sizeOf9
  v9 := Tryz.zeroValue9 }
open Go.RowKit Go.Lib in
theorem Tryz.stringslite_IndexByte (s : ByteArray) (c : Int) (w : World) :
    Calls Tryz.prog 148 #[.string s, .int .u8 c] w fun e w' => e = .returned (.int .i64 (Lib.indexByte s.data.toList c.toNat.toUInt8)) ∧ w' = w := Any.stringslite_IndexByte Tryz.lays217 s c w
open Aw
set_option linter.unusedSimpArgs false
set_option linter.unusedVariables false
set_option maxRecDepth 100000
set_option maxHeartbeats 2000000
theorem c_stringslite_IndexByte (gl : List (Nat × AV)) (s : List UInt8) (c : Int) : FnP Tryz.prog gl 148 [.str s, .int .u8 c] fun r => r = .ret (.int .i64 (Lib.indexByte s c.toNat.toUInt8)) := by
  refine FnP.same (enters_of Tryz.func148 rfl rfl) ?_
  intro m vs _ hv
  simp only [RepL, Rep] at hv
  obtain ⟨_, _, rfl, rfl, _, _, rfl, rfl, rfl⟩ := hv
  refine (Tryz.stringslite_IndexByte ⟨s.toArray⟩ c m.w).mono ?_
  rintro e w' ⟨rfl, rfl⟩
  exact ⟨⟨_, rfl, fun m => by simp only [Rep]⟩, rfl⟩
theorem c_stringslite_Index (gl : List (Nat × AV)) (s : List UInt8) : FnP Tryz.prog (gl) 130 [.str s, .str [0]] fun r => r = .ret (.int .i64 (Lib.indexByte s 0)) := by
  refine FnP.intro Tryz.func130 rfl rfl (by simp [Tryz.ntmps130]) ?_
  simp only [argEnv, Tryz.ntmps130, Tryz.results130]
  refine AW.rS ?_
  refine AW.rS ?_
  refine AW.seq ?_
  refine AW.block ?_
  refine AW.rS ?_
  refine AW.c2 ?_ ?_
  · intro h6
    refine AW.rS ?_
    refine AW.rt ?_
    rcases h6 with h | h
    · cases h
    · rw [← h]; rfl
  · intro h6
    refine AW.rS ?_
    refine AW.c2 ?_ ?_
    · intro h11
      refine AW.rSC ?_
      refine awOps.cons (awGuard.c1 (c_stringslite_IndexByte _ s 0) ?_)
      refine awOps.rn ?_
      refine AW.rt ?_
      all_goals first | contradiction | rfl | (simp; done) | (simp; omega)
    · intro h11
      cases h11
theorem c_strings_Index (gl : List (Nat × AV)) (s : List UInt8) : FnP Tryz.prog (gl) 107 [.str s, .str [0]] fun r => r = .ret (.int .i64 (Lib.indexByte s 0)) := by
  refine FnP.intro Tryz.func107 rfl rfl (by simp [Tryz.ntmps107]) ?_
  simp only [argEnv, Tryz.ntmps107, Tryz.results107]
  refine AW.rS ?_
  refine AW.rSC ?_
  refine awOps.cons (awGuard.c1 (c_stringslite_Index _ s) ?_)
  refine awOps.rn ?_
  refine AW.rt ?_
  all_goals first | contradiction | rfl | (simp; done) | (simp; omega)
theorem c_strings_Contains (gl : List (Nat × AV)) (s : List UInt8) : FnP Tryz.prog (gl) 78 [.str s, .str [0]] fun r => r = .ret (.bool (decide (0 ≤ Lib.indexByte s 0))) := by
  refine FnP.intro Tryz.func78 rfl rfl (by simp [Tryz.ntmps78]) ?_
  simp only [argEnv, Tryz.ntmps78, Tryz.results78]
  refine AW.rS ?_
  refine AW.rSC ?_
  refine awOps.cons (awGuard.c1 (c_strings_Index _ s) ?_)
  refine awOps.rn ?_
  refine AW.rt ?_
  all_goals first | contradiction | rfl | (simp; done) | (simp; omega)
theorem c_catalog_keyed (gl : List (Nat × AV)) (k : List UInt8) : FnP Tryz.prog (gl) 45 [.str k] fun r => r = .ret (.int .i64 (keyE k)) := by
  refine FnP.intro Tryz.func45 rfl rfl (by simp [Tryz.ntmps45]) ?_
  simp only [argEnv, Tryz.ntmps45, Tryz.results45]
  refine AW.rS ?_
  refine AW.seq ?_
  refine AW.block ?_
  refine AW.rSC ?_
  refine awOps.cons (awGuard.cG (fun hg => c_strings_Contains _ k) ?_)
  refine awOps.rn ?_
  refine AW.c2 ?_ ?_
  · intro h7
    refine AW.rS ?_
    refine AW.rt ?_
    rw [key_form h7]
  · intro h7
    refine AW.rS ?_
    refine AW.c2 ?_ ?_
    · intro h12
      refine AW.rS ?_
      refine AW.rt ?_
      rw [key_long (by rintro (h | h); exact h7.1 h; omega) h12]
    · intro h12
      refine AW.skip ?_
      refine AW.rS ?_
      refine AW.rt ?_
      rw [key_fine (by rintro (h | h); exact h7.1 h; omega) (by omega)]
theorem c_catalog_Root (gl : List (Nat × AV)) (d : Dc) (h : d.bulk ≤ 16777216) : FnP Tryz.prog (gl) 14 [.agg d.cells] fun r => r = .ret (.tup [.agg (rootO d).cells, .int .i64 (docE d)]) := by
  refine FnP.intro Tryz.func14 rfl rfl (by simp [Tryz.ntmps14]) ?_
  simp only [argEnv, Tryz.ntmps14, Tryz.results14]
  have hb : d.bulk = ibulk d.items + d.trailer.bulk := rfl
  refine AW.rS ?_
  refine AW.seq ?_
  refine AW.rSC ?_
  refine awOps.cons (awGuard.c1 (c_docs_Check _ d h) ?_)
  refine awOps.rn ?_
  refine AW.rS ?_
  refine AW.c2 ?_ ?_
  · intro h7
    refine AW.rS ?_
    refine AW.rt ?_
    rw [rootO, if_neg h7]; rfl
  · intro h7
    refine AW.skip ?_
    refine AW.rSC ?_
    refine awOps.cons (awGuard.c1 (c_value_Get _ d.trailer rootK (by omega)) ?_)
    refine awOps.rn ?_
    refine AW.rSC ?_
    refine awOps.cons (awGuard.c1 (c_docs_Get _ d (getO d.trailer rootK).num h) ?_)
    refine awOps.rn ?_
    refine AW.rS ?_
    refine AW.rt ?_
    rw [rootO, if_pos h7, h7]; rfl
theorem c_catalog_with (gl : List (Nat × AV)) (d : Dc) (i : Itm) (k : List UInt8) (o : Pob) (h : d.bulk + i.obj.bulk + o.bulk ≤ 16776000) : FnP Tryz.prog (gl) 47 [.agg d.cells, .agg i.cells, .str k, .agg o.cells] fun r => r = .ret (.tup [.agg (withD d i k o).cells, .int .i64 (withE d i k o)]) := by
  refine FnP.intro Tryz.func47 rfl rfl (by simp [Tryz.ntmps47]) ?_
  simp only [argEnv, Tryz.ntmps47, Tryz.results47]
  have hs := setO_bulk i.obj k o
  refine AW.rS ?_
  refine AW.rSC ?_
  refine awOps.cons (awGuard.c1 (c_value_Set _ i.obj k o (by omega)) ?_)
  refine awOps.rn ?_
  refine AW.seq ?_
  refine AW.rS ?_
  refine AW.c2 ?_ ?_
  · intro h7
    refine AW.rS ?_
    refine AW.rt ?_
    rw [(with_bad h7).1, (with_bad h7).2]; rfl
  · intro h7
    refine AW.skip ?_
    refine AW.rS ?_
    refine AW.rSC ?_
    refine awOps.cons (awGuard.c1 (c_docs_Put _ d ⟨i.num, i.gen, setO i.obj k o⟩ (by show d.bulk + (setO i.obj k o).bulk ≤ _; omega)) ?_)
    refine awOps.rn ?_
    refine AW.rt ?_
    rw [(with_ok h7).1, (with_ok h7).2]
theorem c_catalog_SetRoot (gl : List (Nat × AV)) (d : Dc) (k : List UInt8) (o : Pob) (h : d.bulk + o.bulk ≤ 8000000) : FnP Tryz.prog (gl) 16 [.agg d.cells, .str k, .agg o.cells] fun r => r = .ret (.tup [.agg (setRootD d k o).cells, .int .i64 (setRootE d k o)]) := by
  refine FnP.intro Tryz.func16 rfl rfl (by simp [Tryz.ntmps16]) ?_
  simp only [argEnv, Tryz.ntmps16, Tryz.results16]
  have hl := look_bulk d.items (getO d.trailer rootK).num
  have hb : d.bulk = ibulk d.items + d.trailer.bulk := rfl
  have hr : (rootI d).obj.bulk ≤ ibulk d.items + 1 := hl
  refine AW.rS ?_
  refine AW.rSC ?_
  refine awOps.cons (awGuard.c1 (c_catalog_Root _ d (by omega)) ?_)
  refine awOps.rn ?_
  refine AW.seq ?_
  refine AW.rS ?_
  refine AW.c2 ?_ ?_
  · intro h7
    have hro : rootO d = rootI d := by rw [rootO, if_pos h7]
    refine AW.rLC ?_
    refine awOps.cons (awGuard.c1 (c_catalog_keyed _ k) ?_)
    refine awOps.rn ?_
    refine AW.seq ?_
    refine AW.rS ?_
    refine AW.c2 ?_ ?_
    · intro h13
      refine AW.rLC ?_
      refine awOps.cons (awGuard.c1 (c_value_Check _ o (by omega)) ?_)
      refine awOps.rn ?_
      refine AW.seq ?_
      refine AW.rS ?_
      refine AW.c2 ?_ ?_
      · intro h19
        refine AW.rS ?_
        refine AW.rt ?_
        rw [(setRoot_obj h7 h13 h19).1, (setRoot_obj h7 h13 h19).2]; rfl
      · intro h19
        refine AW.skip ?_
        rw [hro]
        refine AW.rSC ?_
        refine awOps.cons (awGuard.c1 (c_catalog_with _ d (rootI d) k o (by omega)) ?_)
        refine awOps.rn ?_
        refine AW.rt ?_
        rw [(setRoot_ok h7 h13 h19).1, (setRoot_ok h7 h13 h19).2]
    · intro h13
      refine AW.skip ?_
      refine AW.seq ?_
      refine AW.rS ?_
      refine AW.c2 ?_ ?_
      · intro h32
        refine AW.rS ?_
        refine AW.rt ?_
        rw [(setRoot_key h7 h13).1, (setRoot_key h7 h13).2]; rfl
      · intro h32
        exact absurd h32 h13
  · intro h7
    refine AW.skip ?_
    refine AW.seq ?_
    refine AW.rS ?_
    refine AW.c2 ?_ ?_
    · intro h45
      exact absurd h45 h7
    · intro h45
      refine AW.skip ?_
      refine AW.seq ?_
      refine AW.rS ?_
      refine AW.c2 ?_ ?_
      · intro h64
        refine AW.rS ?_
        refine AW.rt ?_
        · rw [(setRoot_doc h7).1, (setRoot_doc h7).2]; rfl
        all_goals first | contradiction | rfl | (simp; done) | (simp; omega)
      · intro h64
        exact absurd h64 h7
theorem c_catalog_information (gl : List (Nat × AV)) (d : Dc) (h : d.bulk ≤ 16777216) : FnP Tryz.prog (gl) 55 [.agg d.cells] fun r => r = .ret (.tup [.agg (infoR d).cells, .agg (infoO d).cells, .bool (decide ((infoO d).kind = 7))]) := by
  refine FnP.intro Tryz.func55 rfl rfl (by simp [Tryz.ntmps55]) ?_
  simp only [argEnv, Tryz.ntmps55, Tryz.results55]
  have hb : d.bulk = ibulk d.items + d.trailer.bulk := rfl
  have hg := get_bulk d.trailer infoK
  refine AW.rS ?_
  refine AW.rSC ?_
  refine awOps.cons (awGuard.c1 (c_value_Get _ d.trailer infoK (by omega)) ?_)
  refine awOps.rn ?_
  refine AW.rSC ?_
  refine awOps.cons (awGuard.c1 (c_docs_Follow _ d (infoR d) h (by show (getO d.trailer infoK).bulk ≤ _; omega)) ?_)
  refine awOps.rn ?_
  refine AW.tG (σf := ?sf3) (.take 2 0 (.fork 0 (.fork 1 (.fork 3 (.take 4 0 (.fork 5 (.fork 6 (.take 7 0 .done) .stop) .stop)) .stop) (.fork 3 (.take 4 0 (.fork 1 (.fork 5 (.fork 6 (.take 7 0 .done) .stop) .stop) (.fork 5 (.fork 1 (.fork 6 (.take 7 0 .done) .stop) .stop) .stop))) .stop)) (.fork 1 (.fork 0 (.fork 3 (.take 4 0 (.fork 5 (.fork 6 (.take 7 0 .done) .stop) .stop)) .stop) (.fork 3 (.take 4 0 (.fork 0 (.fork 5 (.fork 6 (.take 7 0 .done) .stop) .stop) .stop)) .stop)) (.fork 3 (.take 4 0 (.fork 0 (.fork 1 (.fork 5 (.fork 6 (.take 7 0 .done) .stop) .stop) (.fork 5 (.fork 1 (.fork 6 (.take 7 0 .done) .stop) .stop) .stop)) (.fork 1 (.fork 0 (.fork 5 (.fork 6 (.take 7 0 .done) .stop) .stop) .stop) .stop))) .stop)))) ?tree3 ?rest3
  case tree3 =>
    refine awTree.tk ?_
    refine awTree.fA ?_ ?_
    · refine awTree.fA ?_ ?_
      · refine awTree.fA ?_ ?_
        · refine awTree.tk ?_
          refine awTree.fA ?_ ?_
          · refine awTree.fA ?_ ?_
            · refine awTree.tk ?_
              exact awTree.dn
            · exact trivial
          · exact trivial
        · exact trivial
      · refine awTree.fA ?_ ?_
        · refine awTree.tk ?_
          refine awTree.fA ?_ ?_
          · refine awTree.fA ?_ ?_
            · refine awTree.fA ?_ ?_
              · refine awTree.tk ?_
                exact awTree.dn
              · exact trivial
            · exact trivial
          · refine awTree.fA ?_ ?_
            · refine awTree.fA ?_ ?_
              · refine awTree.fA ?_ ?_
                · refine awTree.tk ?_
                  exact awTree.dn
                · exact trivial
              · exact trivial
            · exact trivial
        · exact trivial
    · refine awTree.fA ?_ ?_
      · refine awTree.fA ?_ ?_
        · refine awTree.fA ?_ ?_
          · refine awTree.tk ?_
            refine awTree.fA ?_ ?_
            · refine awTree.fA ?_ ?_
              · refine awTree.tk ?_
                exact awTree.dn
              · exact trivial
            · exact trivial
          · exact trivial
        · refine awTree.fA ?_ ?_
          · refine awTree.tk ?_
            refine awTree.fA ?_ ?_
            · refine awTree.fA ?_ ?_
              · refine awTree.fA ?_ ?_
                · refine awTree.tk ?_
                  exact awTree.dn
                · exact trivial
              · exact trivial
            · exact trivial
          · exact trivial
      · refine awTree.fA ?_ ?_
        · refine awTree.tk ?_
          refine awTree.fA ?_ ?_
          · refine awTree.fA ?_ ?_
            · refine awTree.fA ?_ ?_
              · refine awTree.fA ?_ ?_
                · refine awTree.tk ?_
                  exact awTree.dn
                · exact trivial
              · exact trivial
            · refine awTree.fA ?_ ?_
              · refine awTree.fA ?_ ?_
                · refine awTree.fA ?_ ?_
                  · refine awTree.tk ?_
                    exact awTree.dn
                  · exact trivial
                · exact trivial
              · exact trivial
          · refine awTree.fA ?_ ?_
            · refine awTree.fA ?_ ?_
              · refine awTree.fA ?_ ?_
                · refine awTree.fA ?_ ?_
                  · refine awTree.tk ?_
                    exact awTree.dn
                  · exact trivial
                · exact trivial
              · exact trivial
            · exact trivial
        · exact trivial
  refine AW.rt ?_
  all_goals first | contradiction | rfl | (simp; done) | (simp; omega)
theorem c_catalog_Info (gl : List (Nat × AV)) (d : Dc) (k : List UInt8) (h : d.bulk ≤ 16777216) : FnP Tryz.prog (gl) 21 [.agg d.cells, .str k] fun r => r = .ret (.str (infoS d k)) := by
  refine FnP.intro Tryz.func21 rfl rfl (by simp [Tryz.ntmps21]) ?_
  simp only [argEnv, Tryz.ntmps21, Tryz.results21]
  have hb : d.bulk = ibulk d.items + d.trailer.bulk := rfl
  have hg := get_bulk d.trailer infoK
  have hr : (infoR d).bulk ≤ 16777216 := by show (getO d.trailer infoK).bulk ≤ _; omega
  have hi : (infoO d).bulk ≤ 16777216 := follow_bulk h hr
  have hg2 := get_bulk (infoO d) k
  refine AW.rS ?_
  refine AW.seq ?_
  refine AW.rSC ?_
  refine awOps.cons (awGuard.c1 (c_docs_Check _ d h) ?_)
  refine awOps.rn ?_
  refine AW.c2 ?_ ?_
  · intro h6
    refine AW.rS ?_
    refine AW.rt ?_
    rw [infoS, if_pos (by simpa using h6)]
  · intro h6
    refine AW.skip ?_
    refine AW.rSC ?_
    refine awOps.cons (awGuard.c1 (c_catalog_information _ d h) ?_)
    refine awOps.rn ?_
    refine AW.rSC ?_
    refine awOps.cons (awGuard.c1 (c_value_Get _ (infoO d) k hi) ?_)
    refine awOps.rn ?_
    refine AW.seq ?_
    refine AW.rSC ?_
    refine awOps.cons (awGuard.c1 (c_docs_Follow _ d (getO (infoO d) k) h (by omega)) ?_)
    refine awOps.rn ?_
    refine AW.rS ?_
    refine AW.c2 ?_ ?_
    · intro h22
      refine AW.rS ?_
      refine AW.rt ?_
      rw [infoS, if_neg (by simpa using h6), if_pos (by simpa using h22)]
    · intro h22
      refine AW.skip ?_
      refine AW.rS ?_
      refine AW.rt ?_
      rw [infoS, if_neg (by simpa using h6), if_neg (by simpa using h22)]
theorem c_catalog_trailed (gl : List (Nat × AV)) (d : Dc) (o : Pob) (h : d.bulk + o.bulk ≤ 16776000) : FnP Tryz.prog (gl) 57 [.agg d.cells, .agg o.cells] fun r => r = .ret (.tup [.agg (trailedD d o).cells, .int .i64 (trailedE d o)]) := by
  refine FnP.intro Tryz.func57 rfl rfl (by simp [Tryz.ntmps57]) ?_
  simp only [argEnv, Tryz.ntmps57, Tryz.results57]
  have hb : d.bulk = ibulk d.items + d.trailer.bulk := rfl
  refine AW.rS ?_
  refine AW.rSC ?_
  refine awOps.cons (awGuard.c1 (c_value_Set _ d.trailer infoK o (by omega)) ?_)
  refine awOps.rn ?_
  refine AW.seq ?_
  refine AW.rS ?_
  refine AW.c2 ?_ ?_
  · intro h7
    refine AW.rS ?_
    refine AW.rt ?_
    rw [trailedD, trailedE, if_pos h7]; rfl
  · intro h7
    refine AW.skip ?_
    refine AW.rS ?_
    refine AW.rS ?_
    refine AW.rt ?_
    rw [trailedD, trailedE, if_neg (by simpa using h7), h7]
end Go.Proofs

set_option linter.unusedVariables false
set_option linter.unusedSimpArgs false
namespace Aw
open Go
abbrev Prs := List (List UInt8 × Pob)
def prZ : List UInt8 × Pob := ([], Pob.null)
def pairsAV (l : Prs) : List (List AV) := l.map fun p => [.str p.1, .int .i64 p.2.kind, .int .i64 p.2.num, .int .i64 p.2.gen, .str p.2.str, .sl (strsAV p.2.keys), .sl (objsAV p.2.kids)]
theorem pairsAV_length (l : Prs) : (pairsAV l).length = l.length := by simp [pairsAV]
theorem pairsAV_ok (l : Prs) : (∀ e ∈ pairsAV l, okRow 7 e = true) = True := by
  simp only [pairsAV, List.mem_map, eq_iff_iff, iff_true]
  rintro e ⟨b, _, rfl⟩
  rfl
theorem pairsAV_len7 (l : Prs) : (∀ e ∈ pairsAV l, e.length = 7) = True := by
  simp only [pairsAV, List.mem_map, eq_iff_iff, iff_true]
  rintro e ⟨b, _, rfl⟩
  rfl
theorem pairsAV_getD {l : Prs} {i : Nat} {d : List AV} (h : i < l.length) : (pairsAV l).getD i d = [.str (l.getD i prZ).1, .int .i64 (l.getD i prZ).2.kind, .int .i64 (l.getD i prZ).2.num, .int .i64 (l.getD i prZ).2.gen, .str (l.getD i prZ).2.str, .sl (strsAV (l.getD i prZ).2.keys), .sl (objsAV (l.getD i prZ).2.kids)] := by
  simp [pairsAV, List.getD, h]
theorem pairsAV_at (l : Prs) (j : { n : Nat // n < l.length }) (d : List AV) : (pairsAV l).getD j.1 d = [.str (l.getD j.1 prZ).1, .int .i64 (l.getD j.1 prZ).2.kind, .int .i64 (l.getD j.1 prZ).2.num, .int .i64 (l.getD j.1 prZ).2.gen, .str (l.getD j.1 prZ).2.str, .sl (strsAV (l.getD j.1 prZ).2.keys), .sl (objsAV (l.getD j.1 prZ).2.kids)] := pairsAV_getD j.2
/-- the pairs as a dictionary's list of keys and values -/
def pairL : Prs → List Pob
  | [] => []
  | p :: l => nameO p.1 :: p.2 :: pairL l
theorem pairL_append (a b : Prs) : pairL (a ++ b) = pairL a ++ pairL b := by
  induction a with
  | nil => rfl
  | cons p l ih => simp [pairL, ih]
theorem pairL_length (l : Prs) : (pairL l).length = 2 * l.length := by
  induction l with
  | nil => rfl
  | cons p l ih => simp [pairL, ih]; omega
theorem pairL_succ {l : Prs} {i : Nat} (h : i < l.length) : pairL (l.take (i + 1)) = pairL (l.take i) ++ [nameO (l.getD i prZ).1, (l.getD i prZ).2] := by
  rw [List.take_succ_eq_append_getElem h, pairL_append]
  have : l.getD i prZ = l[i] := by simp [List.getD, h]
  rw [this]; rfl
def pairsB (l : Prs) : Nat := (l.map fun p => p.2.bulk + 1).sum
theorem nameO_bulk (s : List UInt8) : (nameO s).bulk = 1 := by rw [Pob.bulk_eq]; simp [nameO, Pob.keys, Pob.kids, bulks]
theorem pairL_bulks (l : Prs) : bulks (pairL l) = pairsB l := by
  induction l with
  | nil => rfl
  | cons p l ih => simp only [pairL, bulks, nameO_bulk, ih, pairsB, List.map_cons, List.sum_cons]; omega
theorem pairsB_length (l : Prs) : l.length ≤ pairsB l := by
  induction l with
  | nil => simp
  | cons p l ih => simp only [pairsB, List.map_cons, List.sum_cons, List.length_cons] at *; omega
end Aw
namespace Aw
open Go
theorem follow_le (d : Dc) (o : Pob) : (followO d o).bulk ≤ d.bulk + o.bulk := by
  have hn : Pob.null.bulk = 1 := by simp [Pob.null, Pob.bulk, bulks]
  have ho : 1 ≤ o.bulk := by rw [Pob.bulk_eq]; omega
  simp only [Dc.bulk]
  unfold followO
  split
  · omega
  · split
    · omega
    · split
      · omega
      · have := ibulk_get (l := d.items) (i := (iidxI d.items o.num).toNat) (by have := iidxI_lt (l := d.items) (n := o.num); omega)
        omega
theorem infoR_le (d : Dc) : (infoR d).bulk ≤ d.bulk := by
  have := get_bulk d.trailer infoK
  have h2 : d.bulk = ibulk d.items + d.trailer.bulk := rfl
  show (getO d.trailer infoK).bulk ≤ _
  omega
theorem infoO_le (d : Dc) : (infoO d).bulk ≤ 2 * d.bulk := by
  have h1 := infoR_le d
  have h2 := follow_le d (infoR d)
  show (followO d (infoR d)).bulk ≤ _
  omega
theorem textO_bulk (t : List UInt8) : (textO t).bulk = 1 := by
  unfold textO
  split
  · simp [Pob.null, Pob.bulk, bulks]
  · rw [Pob.bulk_eq]; simp [strO, Pob.keys, Pob.kids, bulks]
theorem refO_bulk (n g : Int) : (refO n g).bulk = 1 := by rw [Pob.bulk_eq]; simp [refO, Pob.keys, Pob.kids, bulks]
theorem textO_nil : textO [] = Pob.null := rfl
theorem textO_some {t : List UInt8} (h : t ≠ []) : textO t = strO t := by unfold textO; rw [if_neg h]
theorem putInfo_ref {d : Dc} {k t : List UInt8} (h : (infoO d).kind = 7) (h' : (infoR d).kind = 8) : putInfoE d k t = withE d ((lookI d.items (infoR d).num).getD Itm.zero) k (textO t) ∧ putInfoD d k t = withD d ((lookI d.items (infoR d).num).getD Itm.zero) k (textO t) := by
  simp [putInfoE, putInfoD, h, h']
theorem putInfo_bad {d : Dc} {k t : List UInt8} (h : (infoO d).kind = 7) (h' : ¬ (infoR d).kind = 8) (hs : ¬ setE (infoO d) k (textO t) = 0) : putInfoE d k t = setE (infoO d) k (textO t) ∧ putInfoD d k t = Dc.zero := by
  simp [putInfoE, putInfoD, h, h', hs]
theorem putInfo_set {d : Dc} {k t : List UInt8} (h : (infoO d).kind = 7) (h' : ¬ (infoR d).kind = 8) (hs : setE (infoO d) k (textO t) = 0) : putInfoE d k t = trailedE d (setO (infoO d) k (textO t)) ∧ putInfoD d k t = trailedD d (setO (infoO d) k (textO t)) := by
  simp [putInfoE, putInfoD, h, h', hs]
theorem putInfo_none {d : Dc} {k : List UInt8} (h : ¬ (infoO d).kind = 7) : putInfoE d k [] = 0 ∧ putInfoD d k [] = d := by
  simp [putInfoE, putInfoD, h]
theorem putInfo_full {d : Dc} {k t : List UInt8} (h : ¬ (infoO d).kind = 7) (ht : t ≠ []) (ha : ¬ addE d (dictO [nameO k, textO t]) = 0) : putInfoE d k t = addE d (dictO [nameO k, textO t]) ∧ putInfoD d k t = Dc.zero := by
  simp [putInfoE, putInfoD, h, ht, ha]
theorem putInfo_add {d : Dc} {k t : List UInt8} (h : ¬ (infoO d).kind = 7) (ht : t ≠ []) (ha : addE d (dictO [nameO k, textO t]) = 0) : putInfoE d k t = trailedE (addO d (dictO [nameO k, textO t])) (refO (addN d (dictO [nameO k, textO t])) 0) ∧ putInfoD d k t = trailedD (addO d (dictO [nameO k, textO t])) (refO (addN d (dictO [nameO k, textO t])) 0) := by
  simp [putInfoE, putInfoD, h, ht, ha]
end Aw

namespace Aw
open Go
/-! the new document -/
def nwMediaK : List UInt8 := [77, 101, 100, 105, 97, 66, 111, 120]
def nwParentK : List UInt8 := [80, 97, 114, 101, 110, 116]
def nwTypeK : List UInt8 := [84, 121, 112, 101]
def nwPageK : List UInt8 := [80, 97, 103, 101]
def nwPagesK : List UInt8 := [80, 97, 103, 101, 115]
def nwCatalogK : List UInt8 := [67, 97, 116, 97, 108, 111, 103]
def nwCountK : List UInt8 := [67, 111, 117, 110, 116]
def nwKidsK : List UInt8 := [75, 105, 100, 115]
def boxO : Pob := arrO [intO 0, intO 0, intO 612, intO 792]
def treeR : Pob := refO 2 0
def pageP : Prs := [(nwMediaK, boxO), (nwParentK, treeR), (nwTypeK, nameO nwPageK)]
def pageO : Pob := dictO (pairL pageP)
def rootP : Prs := [(nwPagesK, treeR), (nwTypeK, nameO nwCatalogK)]
def rootN : Pob := dictO (pairL rootP)
def pagesI (m : Nat) : List Itm := (List.range m).map fun (i : Nat) => ⟨3 + (i : Int), 0, pageO⟩
def kidsN (m : Nat) : List Pob := (List.range m).map fun (i : Nat) => refO (3 + (i : Int)) 0
def treeP (m : Nat) : Prs := [(nwCountK, intO m), (nwKidsK, arrO (kidsN m)), (nwTypeK, nameO nwPagesK)]
def treeN (m : Nat) : Pob := dictO (pairL (treeP m))
def trailP : Prs := [(rootK, refO 1 0)]
def trailN : Pob := dictO (pairL trailP)
def newI (m : Nat) : List Itm := ⟨1, 0, rootN⟩ :: ⟨2, 0, Pob.null⟩ :: pagesI m
def newD (n : Int) : Dc := if n < 0 ∨ 2048 < n then Dc.zero else ⟨⟨1, 0, rootN⟩ :: ⟨2, 0, treeN n.toNat⟩ :: pagesI n.toNat, trailN⟩
def newE (n : Int) : Int := if n < 0 ∨ 2048 < n then 2 else 0
theorem kidsN_length (m : Nat) : (kidsN m).length = m := by simp [kidsN]
theorem kidsN_succ (m : Nat) : kidsN (m + 1) = kidsN m ++ [refO (3 + m) 0] := by simp [kidsN, List.range_succ]
theorem pagesI_length (m : Nat) : (pagesI m).length = m := by simp [pagesI]
theorem pagesI_succ (m : Nat) : pagesI (m + 1) = pagesI m ++ [⟨3 + m, 0, pageO⟩] := by simp [pagesI, List.range_succ]
theorem newI_length (m : Nat) : (newI m).length = m + 2 := by simp [newI, pagesI_length]
theorem newI_succ (m : Nat) : newI (m + 1) = newI m ++ [⟨3 + m, 0, pageO⟩] := by simp [newI, pagesI_succ]
theorem kidsN_bulks (m : Nat) : bulks (kidsN m) = m := by
  induction m with
  | zero => rfl
  | succ m ih =>
    have : ∀ (a b : List Pob), bulks (a ++ b) = bulks a + bulks b := by
      intro a b; induction a with
      | nil => simp [bulks]
      | cons x l ih => simp only [List.cons_append, bulks, ih]; omega
    rw [kidsN_succ, this, ih]; simp [bulks, refO_bulk]
theorem arrO_bulk (l : List Pob) : (arrO l).bulk = l.length + bulks l + 1 := by rw [Pob.bulk_eq]; simp [arrO, Pob.keys, Pob.kids]
theorem pageO_bulk : pageO.bulk ≤ 1000 := by
  have h1 := dictO_bulk (pairL pageP)
  have h2 := pairL_bulks pageP
  have h3 : pairsB pageP ≤ 400 := by decide
  show (dictO (pairL pageP)).bulk ≤ _
  omega
theorem treeP_bulk (m : Nat) : pairsB (treeP m) = 2 * m + 6 := by
  have h1 : (intO m).bulk = 1 := by rw [Pob.bulk_eq]; simp [intO, Pob.keys, Pob.kids, bulks]
  simp only [pairsB, treeP, List.map_cons, List.map_nil, List.sum_cons, List.sum_nil, h1, nameO_bulk, arrO_bulk, kidsN_bulks, kidsN_length]
  omega
theorem newI_av (m : Nat) : itemsAV (newI m) = (⟨1, 0, rootN⟩ : Itm).cells :: [.int .i64 2, .int .i64 0, .int .i64 0, .int .i64 0, .int .i64 0, .str [], .sl [], .sl []] :: itemsAV (pagesI m) := rfl
end Aw
