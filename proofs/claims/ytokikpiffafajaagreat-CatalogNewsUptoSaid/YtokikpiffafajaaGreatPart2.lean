/- A part of the proof of a law of the seat: no condition of its own. -/
import Derived.Test.YtokikpiffafajaaGreatPart1
import Derived.Lib.Bytealg
namespace Aw
open Go
set_option linter.unusedVariables false
theorem nil_strs {ks : List (List UInt8)} {b : Bool} (h : strsAV ks ≠ [] → b = false) (hb : b = true) : ks = [] := by
  subst hb
  cases ks with
  | nil => rfl
  | cons a l => exact absurd (h (by simp [strsAV])) (by simp)
theorem nil_objs {ks : List Pob} {b : Bool} (h : objsAV ks ≠ [] → b = false) (hb : b = true) : ks = [] := by
  subst hb
  cases ks with
  | nil => rfl
  | cons a l => exact absurd (h (by simp [objsAV])) (by simp)
def keyedB (k : Int) : Bool := decide (k = 7) || decide (k = 9)
def kidx (ks : List (List UInt8)) (k : List UInt8) : Nat := ks.findIdx (fun x => decide (x = k))
def kidxI (ks : List (List UInt8)) (k : List UInt8) : Int := if kidx ks k < ks.length then kidx ks k else -1
theorem kidx_hit {ks : List (List UInt8)} {k : List UInt8} {i : Nat} (h : i < ks.length) (hs : ∀ j, j < i → ks.getD j [] ≠ k) (hk : k = ks.getD i []) : kidxI ks k = i := by
  have : kidx ks k = i := by
    unfold kidx
    rw [List.findIdx_eq h]
    refine ⟨by simp [hk, List.getD, h], fun j hj => ?_⟩
    have := hs j hj
    simp only [List.getD, List.getElem?_eq_getElem (Nat.lt_trans hj h), Option.getD_some] at this
    simpa using this
  simp [kidxI, this, h]
theorem kidx_miss {ks : List (List UInt8)} {k : List UInt8} (hs : ∀ j, j < ks.length → ks.getD j [] ≠ k) : kidxI ks k = -1 := by
  have : ¬ kidx ks k < ks.length := by
    intro h
    have h2 : decide (ks[kidx ks k] = k) = true := List.findIdx_getElem (p := fun x => decide (x = k)) (w := h)
    have e : ks.getD (kidx ks k) [] = ks[kidx ks k] := by simp [List.getD, h]
    exact hs _ h (e.trans (of_decide_eq_true h2))
  simp [kidxI, this]
def getB (o : Pob) (key : List UInt8) : Bool := keyedB o.kind && decide (0 ≤ kidxI o.keys key) && decide (kidxI o.keys key < o.kids.length)
def getO (o : Pob) (key : List UInt8) : Pob := if getB o key = true then o.kids.getD (kidxI o.keys key).toNat Pob.null else Pob.null
theorem get_unkeyed {o : Pob} {key : List UInt8} (h : keyedB o.kind = false) : getB o key = false ∧ getO o key = Pob.null := by
  simp [getO, getB, h]
theorem get_miss {o : Pob} {key : List UInt8} (h : kidxI o.keys key < 0 ∨ (o.kids.length : Int) ≤ kidxI o.keys key) : getB o key = false ∧ getO o key = Pob.null := by
  have : getB o key = false := by simp only [getB, Bool.and_eq_false_iff, decide_eq_false_iff_not]; omega
  exact ⟨this, by simp [getO, this]⟩
theorem get_hit {o : Pob} {key : List UInt8} (h : keyedB o.kind = true) (h' : 0 ≤ kidxI o.keys key ∧ kidxI o.keys key < o.kids.length) : getB o key = true ∧ getO o key = o.kids.getD (kidxI o.keys key).toNat Pob.null := by
  have : getB o key = true := by simp [getB, h, h']
  exact ⟨this, by simp [getO, this]⟩
theorem null_cells : Pob.null.cells = [.int .i64 0, .int .i64 0, .int .i64 0, .str [], .sl [], .sl []] := rfl
theorem takeS_succ {a b : List (List UInt8)} {i : Nat} (h : i < a.length) (hl : a.length = b.length) (he : a.take i = b.take i) (hg : a.getD i [] = b.getD i []) : a.take (i + 1) = b.take (i + 1) := by
  rw [List.take_succ_eq_append_getElem h, List.take_succ_eq_append_getElem (hl ▸ h), he]
  simp only [List.getD, List.getElem?_eq_getElem h, List.getElem?_eq_getElem (hl ▸ h), Option.getD_some] at hg
  rw [hg]
theorem Pob_eq (a b : Pob) : a = b ↔ a.kind = b.kind ∧ a.num = b.num ∧ a.gen = b.gen ∧ a.str = b.str ∧ a.keys = b.keys ∧ a.kids = b.kids := by
  cases a; cases b; simp [Pob.kind, Pob.num, Pob.gen, Pob.str, Pob.keys, Pob.kids]
theorem takeO_succ {a b : List Pob} {i : Nat} (h : i < a.length) (hl : a.length = b.length) (he : a.take i = b.take i) (hg : a.getD i Pob.null = b.getD i Pob.null) : a.take (i + 1) = b.take (i + 1) := by
  rw [List.take_succ_eq_append_getElem h, List.take_succ_eq_append_getElem (hl ▸ h), he]
  simp only [List.getD, List.getElem?_eq_getElem h, List.getElem?_eq_getElem (hl ▸ h), Option.getD_some] at hg
  rw [hg]
def fitsB (o : Pob) : Bool :=
  if o.kind = 1 then decide (0 ≤ o.num) && decide (o.num ≤ 1)
  else if o.kind = 2 then decide (-2147483647 ≤ o.num) && decide (o.num ≤ 2147483647)
  else if o.kind = 3 then decide (-1073741824 ≤ o.num) && decide (o.num ≤ 1073741824)
  else if o.kind = 8 then (decide (1 ≤ o.num) && decide (o.num ≤ 8191)) && (decide (0 ≤ o.gen) && decide (o.gen ≤ 65535))
  else true
def shortB (o : Pob) : Bool :=
  if o.kind = 4 then decide ((o.str.length : Int) ≤ 32767) else if o.kind = 5 then decide ((o.str.length : Int) ≤ 127) else decide ((o.str.length : Int) ≤ 1048576)
def uN (k : Int) : Bool := decide (k = 1) || decide (k = 2) || decide (k = 3) || decide (k = 8)
def uG (k : Int) : Bool := decide (k = 8)
def uS (k : Int) : Bool := decide (k = 4) || decide (k = 5) || decide (k = 9)
def uKeys (k : Int) : Bool := decide (k = 7) || decide (k = 9)
def uKids (k : Int) : Bool := decide (k = 6) || decide (k = 7) || decide (k = 9)
def uOk (k : Int) : Bool := decide (0 ≤ k) && decide (k ≤ 9)
theorem used_eq {k : Int} {a b c d e f : Bool} (h1 : uN k = a) (h2 : uG k = b) (h3 : uS k = c) (h4 : uKeys k = d) (h5 : uKids k = e) (h6 : uOk k = f) :
    AE.ret (.tup [.agg [.bool a, .bool b, .bool c, .bool d, .bool e], .bool f]) = AE.ret (.tup [.agg [.bool (uN k), .bool (uG k), .bool (uS k), .bool (uKeys k), .bool (uKids k)], .bool (uOk k)]) := by
  subst h1 h2 h3 h4 h5 h6; rfl
def nameB (s : List UInt8) : Bool := decide ((s.length : Int) ≤ 127) && decide (Lib.indexByte s 0 < 0)
def okKey (o : Pob) (i : Nat) : Prop :=
  nameB (o.keys.getD i []) = true ∧ (0 < i → Op.bytesLess (o.keys.getD (i - 1) []) (o.keys.getD i []) = true) ∧ ¬ (o.kind = 9 ∧ o.keys.getD i [] = [76, 101, 110, 103, 116, 104]) ∧ (o.kids.getD i Pob.null).kind ≠ 0
def risingP (o : Pob) : Prop := o.keys.length = o.kids.length ∧ ∀ i, i < o.keys.length → okKey o i
instance (o : Pob) (i : Nat) : Decidable (okKey o i) := by unfold okKey; infer_instance
instance (o : Pob) : Decidable (risingP o) := by unfold risingP; infer_instance
def risingB (o : Pob) : Bool := decide (risingP o)
theorem rising_no {o : Pob} (h : ¬ risingP o) : risingB o = false := by simp [risingB, h]
theorem rising_yes {o : Pob} (h : risingP o) : risingB o = true := by simp [risingB, h]
def useB (o : Pob) (d : Int) : Bool :=
  bif bif bif bif bif bif uOk o.kind then bif uN o.kind then true else decide (o.num = 0) else false then bif uG o.kind then true else decide (o.gen = 0) else false then bif uS o.kind then true else decide (o.str = []) else false
    then bif uKeys o.kind then true else decide ((o.keys.length : Int) = 0) else false then bif uKids o.kind then true else decide ((o.kids.length : Int) = 0) else false then bif decide (d = 1) then true else !decide (o.kind = 9) else false
def formB (o : Pob) : Bool := bif bif !decide (o.kind = 5) then true else nameB o.str then bif !uKeys o.kind then true else risingB o else false
def ownE (o : Pob) (d : Int) : Int :=
  if ¬ d ≤ 24 then 7 else if useB o d = false then 10 else if fitsB o = false then 2 else if shortB o = false then 5 else if ¬ (o.kids.length : Int) ≤ 8191 then 6 else if formB o = false then 3 else 0
mutual
def chk : Pob → Int → Int
  | .mk k n g s ks l, d => if ownE (.mk k n g s ks l) d = 0 then chkL l (d + 1) else ownE (.mk k n g s ks l) d
def chkL : List Pob → Int → Int
  | [], _ => 0
  | o :: l, d => if chk o d = 0 then chkL l d else chk o d
end
theorem chk_eq (o : Pob) (d : Int) : chk o d = if ownE o d = 0 then chkL o.kids (d + 1) else ownE o d := by cases o; simp only [chk, Pob.kids]
theorem chk_bad {o : Pob} {d e : Int} (h : ownE o d = e) (he : e ≠ 0) : chk o d = e := by rw [chk_eq, if_neg (by omega), h]
theorem chkL_drop {l : List Pob} {i : Nat} {d : Int} (h : i < l.length) : chkL (l.drop i) d = if chk (l.getD i Pob.null) d = 0 then chkL (l.drop (i + 1)) d else chk (l.getD i Pob.null) d := by
  rw [List.drop_eq_getElem_cons h]
  have : l.getD i Pob.null = l[i] := by simp [List.getD, h]
  rw [this]
  simp only [chkL]
attribute [irreducible] chk chkL ownE

/-! what validity gives -/
theorem chk_own {o : Pob} {d : Int} (h : chk o d = 0) : ownE o d = 0 := by
  rw [chk_eq] at h
  split at h
  · assumption
  · exact absurd h (by assumption)
theorem ownE_spec {o : Pob} {d : Int} (h : ownE o d = 0) : d ≤ 24 ∧ useB o d = true ∧ fitsB o = true ∧ shortB o = true ∧ (o.kids.length : Int) ≤ 8191 ∧ formB o = true := by
  unfold ownE at h
  repeat' split at h
  all_goals first | omega | simp_all
theorem chk_rising {o : Pob} {d : Int} (h : chk o d = 0) (hk : keyedB o.kind = true) : risingP o := by
  have h1 := (ownE_spec (chk_own h)).2.2.2.2.2
  have h2 : uKeys o.kind = true := hk
  unfold formB at h1
  rw [h2] at h1
  cases h3 : risingB o with
  | true => simpa [risingB] using h3
  | false => rw [h3] at h1; revert h1; cases (bif !decide (o.kind = 5) then true else nameB o.str) <;> simp
theorem rising_incr {o : Pob} (h : risingP o) : incr o.keys := by
  refine incr_of_next fun i hi => ?_
  have := (h.2 (i + 1) hi).2.1 (by omega)
  simpa using this
theorem chk_kids {o : Pob} {d : Int} (h : chk o d = 0) : chkL o.kids (d + 1) = 0 := by
  have h1 := chk_own h
  rw [chk_eq, if_pos h1] at h
  exact h
end Aw

namespace Aw
open Go
def dropB (o : Pob) (key : List UInt8) : Bool := keyedB o.kind && decide (chk o 1 = 0) && kthere o.keys key
def dropO (o : Pob) (key : List UInt8) : Pob := if dropB o key = true then o.lessK (kplace o.keys key) else o
theorem dropO_no {o : Pob} {key : List UInt8} (h : dropB o key = false) : dropO o key = o := by rw [dropO, if_neg (by simp [h])]
theorem dropO_yes {o : Pob} {key : List UInt8} (h : dropB o key = true) : dropO o key = o.lessK (kplace o.keys key) := by rw [dropO, if_pos h]
theorem dropO_bulk (o : Pob) (key : List UInt8) : (dropO o key).bulk ≤ o.bulk := by
  unfold dropO
  split
  · exact Pob.lessK_bulk _ _
  · exact Nat.le_refl _
def setE (o : Pob) (key : List UInt8) (v : Pob) : Int := if keyedB o.kind = false then 10 else if chk o 1 ≠ 0 then chk o 1 else if v.kind = 0 then 0 else chk (o.withK key v) 1
def setO (o : Pob) (key : List UInt8) (v : Pob) : Pob := if setE o key v ≠ 0 then Pob.null else if v.kind = 0 then dropO o key else o.withK key v
theorem set_unkeyed {o v : Pob} {key : List UInt8} (h : keyedB o.kind = false) : setE o key v = 10 ∧ setO o key v = Pob.null := by
  have : setE o key v = 10 := by simp [setE, h]
  exact ⟨this, by simp [setO, this]⟩
theorem set_bad {o v : Pob} {key : List UInt8} (h : keyedB o.kind = true) (h' : chk o 1 ≠ 0) : setE o key v = chk o 1 ∧ setO o key v = Pob.null := by
  have : setE o key v = chk o 1 := by simp [setE, h, h']
  exact ⟨this, by simp [setO, this, h']⟩
theorem set_null {o v : Pob} {key : List UInt8} (h : keyedB o.kind = true) (h' : chk o 1 = 0) (hv : v.kind = 0) : setE o key v = 0 ∧ setO o key v = dropO o key := by
  have : setE o key v = 0 := by simp [setE, h, h', hv]
  exact ⟨this, by simp [setO, this, hv]⟩
theorem set_val {o v : Pob} {key : List UInt8} (h : keyedB o.kind = true) (h' : chk o 1 = 0) (hv : v.kind ≠ 0) : setE o key v = chk (o.withK key v) 1 ∧ setO o key v = if chk (o.withK key v) 1 = 0 then o.withK key v else Pob.null := by
  have : setE o key v = chk (o.withK key v) 1 := by simp [setE, h, h', hv]
  refine ⟨this, ?_⟩
  unfold setO
  rw [this]
  by_cases hc : chk (o.withK key v) 1 = 0
  · rw [if_neg (by simp [hc]), if_neg hv, if_pos hc]
  · rw [if_pos hc, if_neg hc]
def Pob.strm (o : Pob) (s : List UInt8) : Pob := .mk 9 o.num o.gen s o.keys o.kids
def lengthK : List UInt8 := [76, 101, 110, 103, 116, 104]
def streamE (o : Pob) (s : List UInt8) : Int := if o.kind ≠ 7 then 10 else if chk o 1 ≠ 0 then chk o 1 else chk ((dropO o lengthK).strm s) 1
def streamO (o : Pob) (s : List UInt8) : Pob := if streamE o s ≠ 0 then Pob.null else (dropO o lengthK).strm s
theorem stream_kind {o : Pob} {s : List UInt8} (h : ¬ o.kind = 7) : streamE o s = 10 ∧ streamO o s = Pob.null := by
  have : streamE o s = 10 := by simp [streamE, h]
  exact ⟨this, by simp [streamO, this]⟩
theorem stream_bad {o : Pob} {s : List UInt8} (h : o.kind = 7) (h' : chk o 1 ≠ 0) : streamE o s = chk o 1 ∧ streamO o s = Pob.null := by
  have : streamE o s = chk o 1 := by simp [streamE, h, h']
  exact ⟨this, by simp [streamO, this, h']⟩
theorem stream_ok {o : Pob} {s : List UInt8} (h : o.kind = 7) (h' : chk o 1 = 0) : streamE o s = chk ((dropO o lengthK).strm s) 1 ∧ streamO o s = if chk ((dropO o lengthK).strm s) 1 = 0 then (dropO o lengthK).strm s else Pob.null := by
  have : streamE o s = chk ((dropO o lengthK).strm s) 1 := by simp [streamE, h, h']
  refine ⟨this, ?_⟩
  unfold streamO
  rw [this]
  by_cases hc : chk ((dropO o lengthK).strm s) 1 = 0
  · rw [if_neg (by simp [hc]), if_pos hc]
  · rw [if_pos hc, if_neg hc]
theorem strm_bulk (o : Pob) (s : List UInt8) : (o.strm s).bulk = o.bulk := by rw [Pob.bulk_eq, Pob.bulk_eq o]; rfl
attribute [irreducible] setE setO streamE streamO dropO
end Aw

namespace Aw
open Go
theorem getD_insAt {α : Type} {l : List α} {i j : Nat} {x d : α} (hi : i ≤ l.length) : (insAt l i x).getD j d = if j < i then l.getD j d else if j = i then x else l.getD (j - 1) d := by
  simp only [insAt, List.getD, List.getElem?_append, List.getElem?_take, List.getElem?_cons, List.length_take, List.getElem?_drop]
  grind
theorem kplace_lo {ks : List (List UInt8)} {key : List UInt8} {a : Nat} (h : a < kplace ks key) : Op.bytesLess (ks.getD a []) key = true := by
  unfold kplace at h
  have hl : a < ks.length := Nat.lt_of_lt_of_le h List.findIdx_le_length
  have := List.not_of_lt_findIdx h
  simp only [List.getD, List.getElem?_eq_getElem hl, Option.getD_some]
  simpa using this
theorem kplace_hi {ks : List (List UInt8)} {key : List UInt8} (h : kplace ks key < ks.length) : Op.bytesLess (ks.getD (kplace ks key) []) key = false := by
  have h' := h
  unfold kplace at h ⊢
  have := List.findIdx_getElem (p := fun k => !Op.bytesLess k key) (w := h)
  simp only [List.getD, List.getElem?_eq_getElem h, Option.getD_some]
  simpa using this
theorem kthere_no {ks : List (List UInt8)} {key : List UInt8} (h : kthere ks key = false) (hl : kplace ks key < ks.length) : ks.getD (kplace ks key) [] ≠ key := by
  simp only [kthere, Bool.and_eq_false_iff, decide_eq_false_iff_not] at h
  rcases h with h | h
  · exact absurd hl h
  · exact h
theorem incr_ins {ks : List (List UInt8)} {key : List UInt8} (hs : incr ks) (h : kthere ks key = false) : incr (insAt ks (kplace ks key) key) := by
  have hle := kplace_le ks key
  refine incr_of_next fun i hi => ?_
  rw [insAt_length] at hi
  rw [getD_insAt hle, getD_insAt hle]
  have hup : ∀ j, kplace ks key ≤ j → j < ks.length → Op.bytesLess key (ks.getD j []) = true := by
    intro j hj hl
    have h1 := kplace_hi (ks := ks) (key := key) (by omega)
    have h2 := kthere_no h (by omega)
    have h3 : Op.bytesLess key (ks.getD (kplace ks key) []) = true := by
      rcases bl_total key (ks.getD (kplace ks key) []) with e | e | e
      · exact absurd e.symm h2
      · exact e
      · rw [h1] at e; cases e
    by_cases e : kplace ks key = j
    · rw [← e]; exact h3
    · exact bl_trans _ _ _ h3 (hs _ _ (by omega) hl)
  by_cases h1 : i + 1 < kplace ks key
  · rw [if_pos (by omega), if_pos h1]
    exact hs i (i + 1) (by omega) (by omega)
  · by_cases h2 : i < kplace ks key
    · rw [if_pos h2, if_neg h1, if_pos (show i + 1 = kplace ks key by omega)]
      exact kplace_lo h2
    · rw [if_neg h2, if_neg h1, if_neg (show ¬ i + 1 = kplace ks key by omega), show i + 1 - 1 = i from by omega]
      by_cases h3 : i = kplace ks key
      · rw [if_pos h3]
        exact hup i (by omega) (by omega)
      · rw [if_neg h3]
        have := hs (i - 1) i (by omega) (by omega)
        exact this
theorem withK_incr {o : Pob} {key : List UInt8} {v : Pob} (hs : incr o.keys) (hl : o.keys.length = o.kids.length) : incr (o.withK key v).keys ∧ (o.withK key v).keys.length = (o.withK key v).kids.length := by
  cases h : kthere o.keys key with
  | true => rw [withK_there h]; exact ⟨hs, by simpa [Pob.keys_mk, Pob.kids_mk] using hl⟩
  | false => rw [withK_new h]; exact ⟨incr_ins hs h, by simp only [Pob.keys_mk, Pob.kids_mk, insAt_length, hl]⟩
def dict0 : Pob := .mk 7 0 0 [] [] []
/-- the pairs, one after the other: 'none' where a name occurs twice -/
def dictL : List Pob → List (List UInt8) → Pob → Option Pob
  | k :: v :: r, met, o => if k.str ∈ met then none else dictL r (setAdd met k.str) (if v.kind ≠ 0 then o.withK k.str v else o)
  | _, _, o => some o
def dictArg (ps : List Pob) : Bool := decide (ps.length % 2 = 0) && decide (∀ i, i < ps.length → i % 2 = 0 → (ps.getD i Pob.null).kind = 5)
def dictE (ps : List Pob) : Int := if dictArg ps = false then 1 else match dictL ps [] dict0 with
  | none => 9
  | some o => chk o 1
def dictO (ps : List Pob) : Pob := if dictArg ps = false then Pob.null else match dictL ps [] dict0 with
  | none => Pob.null
  | some o => if chk o 1 = 0 then o else Pob.null
theorem dict_arg {ps : List Pob} (h : dictArg ps = false) : dictE ps = 1 ∧ dictO ps = Pob.null := by simp [dictE, dictO, h]
theorem dict_twice {ps : List Pob} (h : dictArg ps = true) (h' : dictL ps [] dict0 = none) : dictE ps = 9 ∧ dictO ps = Pob.null := by simp [dictE, dictO, h, h']
theorem dict_some {ps : List Pob} {o : Pob} (h : dictArg ps = true) (h' : dictL ps [] dict0 = some o) : dictE ps = chk o 1 ∧ dictO ps = if chk o 1 = 0 then o else Pob.null := by simp [dictE, dictO, h, h']
theorem dictL_drop {ps : List Pob} {i : Nat} {met : List (List UInt8)} {o : Pob} (h : i + 1 < ps.length) : dictL (ps.drop i) met o = if (ps.getD i Pob.null).str ∈ met then none else
    dictL (ps.drop (i + 2)) (setAdd met (ps.getD i Pob.null).str) (if (ps.getD (i + 1) Pob.null).kind ≠ 0 then o.withK (ps.getD i Pob.null).str (ps.getD (i + 1) Pob.null) else o) := by
  rw [List.drop_eq_getElem_cons (by omega), List.drop_eq_getElem_cons h]
  simp only [dictL, List.getD, List.getElem?_eq_getElem h, List.getElem?_eq_getElem (Nat.lt_of_succ_lt h), Option.getD_some]
theorem bulks_take2 {ps : List Pob} {i : Nat} (h : i + 1 < ps.length) : bulks (ps.take (i + 2)) = bulks (ps.take i) + (ps.getD i Pob.null).bulk + (ps.getD (i + 1) Pob.null).bulk := by
  rw [List.take_succ_eq_append_getElem (show i + 1 < ps.length from h), List.take_succ_eq_append_getElem (Nat.lt_of_succ_lt h), bulks_append, bulks_append]
  simp only [bulks, List.getD, List.getElem?_eq_getElem h, List.getElem?_eq_getElem (Nat.lt_of_succ_lt h), Option.getD_some]
  omega
theorem bulks_take_le (ps : List Pob) (i : Nat) : bulks (ps.take i) ≤ bulks ps := by
  have := bulks_append (ps.take i) (ps.drop i)
  rw [List.take_append_drop] at this
  omega
theorem Pob.bulk_pos (o : Pob) : 1 ≤ o.bulk := by rw [Pob.bulk_eq]; omega
attribute [go_sem] dict0
attribute [irreducible] dictL dictE dictO
end Aw

namespace Aw
open Go
def nidx (l : List Int) (n : Int) : Nat := l.findIdx (fun x => decide (x = n))
def nidxI (l : List Int) (n : Int) : Int := if nidx l n < l.length then nidx l n else -1
theorem nidx_hit {l : List Int} {n : Int} {i : Nat} (h : i < l.length) (hs : ∀ j, j < i → l.getD j 0 ≠ n) (hk : l.getD i 0 = n) : nidxI l n = i := by
  have : nidx l n = i := by
    unfold nidx
    rw [List.findIdx_eq h]
    refine ⟨by simpa [List.getD, h] using hk, fun j hj => ?_⟩
    have := hs j hj
    simp only [List.getD, List.getElem?_eq_getElem (Nat.lt_trans hj h), Option.getD_some] at this
    simpa using this
  simp [nidxI, this, h]
theorem nidx_miss {l : List Int} {n : Int} (hs : ∀ j, j < l.length → l.getD j 0 ≠ n) : nidxI l n = -1 := by
  have : ¬ nidx l n < l.length := by
    intro h
    have h2 : decide (l[nidx l n] = n) = true := List.findIdx_getElem (p := fun x => decide (x = n)) (w := h)
    have e : l.getD (nidx l n) 0 = l[nidx l n] := by simp [List.getD, h]
    exact hs _ h (e.trans (of_decide_eq_true h2))
  simp [nidxI, this]
def swB (fr to : List Int) (k n : Int) : Bool := decide (k = 8) && (decide (0 ≤ nidxI fr n) && decide (nidxI fr n < to.length))
def swN (fr to : List Int) (k n : Int) : Int := if swB fr to k n = true then to.getD (nidxI fr n).toNat 0 else n
def swG (fr to : List Int) (k n g : Int) : Int := if swB fr to k n = true then 0 else g
def Pob.swap1 (fr to : List Int) (o : Pob) : Pob := .mk o.kind (swN fr to o.kind o.num) (swG fr to o.kind o.num o.gen) o.str o.keys o.kids
mutual
def Pob.swap (fr to : List Int) : Pob → Pob
  | .mk k n g s ks l => .mk k (swN fr to k n) (swG fr to k n g) s ks (swaps fr to l)
def swaps (fr to : List Int) : List Pob → List Pob
  | [] => []
  | o :: l => o.swap fr to :: swaps fr to l
end
theorem swaps_map (fr to : List Int) (l : List Pob) : swaps fr to l = l.map (Pob.swap fr to) := by
  induction l with
  | nil => simp only [swaps, List.map_nil]
  | cons o l ih => simp only [swaps, List.map_cons, ih]
theorem swaps_length (fr to : List Int) (l : List Pob) : (swaps fr to l).length = l.length := by simp [swaps_map]
theorem swaps_getD {fr to : List Int} {l : List Pob} {i : Nat} (h : i < l.length) : (swaps fr to l).getD i Pob.null = (l.getD i Pob.null).swap fr to := by
  simp [swaps_map, List.getD, h]
theorem Pob.swap_eq (fr to : List Int) (o : Pob) : o.swap fr to = .mk o.kind (swN fr to o.kind o.num) (swG fr to o.kind o.num o.gen) o.str o.keys (swaps fr to o.kids) := by
  cases o; simp only [Pob.swap, Pob.kind, Pob.num, Pob.gen, Pob.str, Pob.keys, Pob.kids]
mutual
theorem Pob.swap_bulk (fr to : List Int) : ∀ o : Pob, (o.swap fr to).bulk = o.bulk
  | .mk k n g s ks l => by simp only [Pob.swap, Pob.bulk, swaps_length, swaps_bulk fr to l]
theorem swaps_bulk (fr to : List Int) : ∀ l : List Pob, bulks (swaps fr to l) = bulks l
  | [] => by simp only [swaps]
  | o :: l => by simp only [swaps, bulks, Pob.swap_bulk fr to o, swaps_bulk fr to l]
end
theorem sw_no {fr to : List Int} {k n g : Int} (h : swB fr to k n = false) : swN fr to k n = n ∧ swG fr to k n g = g := by simp [swN, swG, h]
theorem sw_yes {fr to : List Int} {k n g : Int} (h : swB fr to k n = true) : swN fr to k n = to.getD (nidxI fr n).toNat 0 ∧ swG fr to k n g = 0 := by simp [swN, swG, h]
attribute [irreducible] Pob.swap swaps nidxI
end Aw

namespace Aw
open Go
def typeK : List UInt8 := [84, 121, 112, 101]
def docKind (o : Pob) : List UInt8 := if (getO o typeK).kind = 5 then (getO o typeK).str else []
def holdsB (o : Pob) : Bool := bif decide (o.kind = 9) then bif decide (docKind o = [79, 98, 106, 83, 116, 109]) then true else decide (docKind o = [88, 82, 101, 102]) else false
def numsB (i : Itm) : Bool := decide (1 ≤ i.num) && decide (i.num ≤ 8191) && decide (0 ≤ i.gen) && decide (i.gen ≤ 65535)
theorem nums_no {i : Itm} (h : ((i.num < 1 ∨ 8191 < i.num) ∨ i.gen < 0) ∨ 65535 < i.gen) : numsB i = false := by
  simp only [numsB, Bool.and_eq_false_iff, decide_eq_false_iff_not]; omega
theorem nums_yes {i : Itm} (h : ((1 ≤ i.num ∧ i.num ≤ 8191) ∧ 0 ≤ i.gen) ∧ i.gen ≤ 65535) : numsB i = true := by
  simp only [numsB, Bool.and_eq_true, decide_eq_true_eq]; omega
def contentE (i : Itm) : Int := if chk i.obj 1 ≠ 0 then chk i.obj 1 else if i.obj.kind = 8 ∨ holdsB i.obj = true then 10 else 0
def aloneE (i : Itm) : Int := if numsB i = false then 2 else contentE i
theorem content_bad {i : Itm} (h : ¬ chk i.obj 1 = 0) : contentE i = chk i.obj 1 := by simp [contentE, h]
/-- the first fault of a list of items -/
def itemsFrom (l : List Itm) (k : Nat) : Nat → Int
  | 0 => 0
  | f + 1 => if k < l.length then (if numsB (l.getD k Itm.zero) = false then 2 else if 0 < k ∧ (l.getD k Itm.zero).num ≤ (l.getD (k - 1) Itm.zero).num then 9 else if contentE (l.getD k Itm.zero) ≠ 0 then contentE (l.getD k Itm.zero) else itemsFrom l (k + 1) f) else 0
def itemsE (l : List Itm) : Int := itemsFrom l 0 l.length
theorem itemsFrom_step {l : List Itm} {k : Nat} (h : k < l.length) : itemsFrom l k (l.length - k) = if numsB (l.getD k Itm.zero) = false then 2 else if 0 < k ∧ (l.getD k Itm.zero).num ≤ (l.getD (k - 1) Itm.zero).num then 9 else if contentE (l.getD k Itm.zero) ≠ 0 then contentE (l.getD k Itm.zero) else itemsFrom l (k + 1) (l.length - (k + 1)) := by
  rw [show l.length - k = (l.length - (k + 1)) + 1 from by omega, itemsFrom, if_pos h]
def ibulk (l : List Itm) : Nat := (l.map fun i => i.obj.bulk + 1).sum
theorem ibulk_get {l : List Itm} {i : Nat} (h : i < l.length) : (l.getD i Itm.zero).obj.bulk + 1 ≤ ibulk l := by
  induction l generalizing i with
  | nil => simp at h
  | cons x l ih =>
    simp only [ibulk, List.map_cons, List.sum_cons]
    cases i with
    | zero => simp only [List.getD_cons_zero]; omega
    | succ i =>
      have := ih (i := i) (by simpa using h)
      simp only [List.getD_cons_succ, ibulk] at this ⊢
      omega
theorem ibulk_len (l : List Itm) : l.length ≤ ibulk l := by
  induction l with
  | nil => simp [ibulk]
  | cons x l ih => simp only [ibulk, List.map_cons, List.sum_cons, List.length_cons] at ih ⊢; omega
attribute [irreducible] itemsFrom contentE holdsB docKind
end Aw

namespace Aw
open Go
structure Dc where
  items : List Itm
  trailer : Pob
def Dc.cells (d : Dc) : List AV := [.sl (itemsAV d.items), .int .i64 d.trailer.kind, .int .i64 d.trailer.num, .int .i64 d.trailer.gen, .str d.trailer.str, .sl (strsAV d.trailer.keys), .sl (objsAV d.trailer.kids)]
def Dc.bulk (d : Dc) : Nat := ibulk d.items + d.trailer.bulk
attribute [go_sem] Dc.cells
/-- the place of the item with a number -/
def iidx (l : List Itm) (n : Int) : Nat := l.findIdx (fun x => decide (x.num = n))
def iidxI (l : List Itm) (n : Int) : Int := if iidx l n < l.length then iidx l n else -1
theorem iidx_hit {l : List Itm} {n : Int} {i : Nat} (h : i < l.length) (hs : ∀ j, j < i → (l.getD j Itm.zero).num ≠ n) (hk : (l.getD i Itm.zero).num = n) : iidxI l n = i := by
  have : iidx l n = i := by
    unfold iidx
    rw [List.findIdx_eq h]
    refine ⟨by simpa [List.getD, h] using hk, fun j hj => ?_⟩
    have := hs j hj
    simp only [List.getD, List.getElem?_eq_getElem (Nat.lt_trans hj h), Option.getD_some] at this
    simpa using this
  simp [iidxI, this, h]
theorem iidx_miss {l : List Itm} {n : Int} (hs : ∀ j, j < l.length → (l.getD j Itm.zero).num ≠ n) : iidxI l n = -1 := by
  have : ¬ iidx l n < l.length := by
    intro h
    have h2 : decide (l[iidx l n].num = n) = true := List.findIdx_getElem (p := fun x : Itm => decide (x.num = n)) (w := h)
    have e : l.getD (iidx l n) Itm.zero = l[iidx l n] := by simp [List.getD, h]
    exact hs _ h (by rw [e]; exact of_decide_eq_true h2)
  simp [iidxI, this]
theorem iidxI_lt {l : List Itm} {n : Int} : iidxI l n < l.length := by
  unfold iidxI
  split <;> omega
attribute [irreducible] iidxI
def followO (d : Dc) (o : Pob) : Pob :=
  if o.kind ≠ 8 then o else if iidxI d.items o.num < 0 then Pob.null else if (d.items.getD (iidxI d.items o.num).toNat Itm.zero).gen ≠ o.gen then Pob.null else (d.items.getD (iidxI d.items o.num).toNat Itm.zero).obj
end Aw
