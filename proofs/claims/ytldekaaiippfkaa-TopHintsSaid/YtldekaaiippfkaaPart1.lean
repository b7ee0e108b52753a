/- A part of the proof: no condition of its own. -/
import Derived.Test.YtldekaaiippfkaaCore52
import Derived.ProofKit
import Derived.Below
import Derived.ChangeSame
import Derived.HandedShaped
import Derived.OpenShut
import Derived.IntWalk
import Derived.Lib.BitFns
import Derived.Test.YtldekaaiippfkaaProg
namespace Aw
open Go Go.RowKit Go.WideShapes Go.ChangeShapes

theorem FnP.below {P : Program} {gl : List (Nat × AV)} {f : FuncId} {xs : List AV} (h : FnP P gl f xs fun r => r = .ret (.bool true)) {m : Mem} {vs : List Value} {W : World} (hw : m.w = W)
  (hm : Start m gl) (hP : m.Pr = fun b => b < W.heap.size) (hv : RepL m 1 xs vs) : Calls P f vs.toArray W fun e W' => e = .returned (.bool true) ∧ Below W.heap.size W W' := by
 subst hw
 refine (h.calls m vs hm hv).mono ?_
 rintro e w' ⟨m', r, rfl, hle, _, hend, rfl⟩
 obtain ⟨v, rfl, hv⟩ := hend
 simp only [Rep] at hv
 subst hv
 exact ⟨rfl, hle.os, hle.tape, hle.output, hle.size, fun b hb => hle.block b (by rw [hP]; exact hb)⟩

section
variable {H : Type} {enc : TypeId × Value → H} {P : Program}
theorem trodAll_stays (hl : laidOutB P = true) {W W' : World} {sp' : Nat → Bool} : ∀ {ts : List TypeId} {vs : List Value} {ds : List (DataW H)} {ps : List MemPlace},
  ts.all (fun t => P.readableRec t && decide (t < P.types.size)) = true → DataW.TrodAll enc P W 0 (fun _ => true) true ts vs ds ps → (∀ p ∈ ps, W.sameAt W' p) → (∀ p ∈ ps, sp' p.block = true) →
  DataW.TrodAll enc P W' 0 sp' true ts vs ds ps
 | [], vs, ds, ps, _, h, _, _ => by
  obtain ⟨rfl, rfl, rfl⟩ := trodAll_nil h
  exact trodAll_mk0
 | t :: ts, vs, ds, ps, hr, h, h1, h2 => by
  obtain ⟨v, vs, d, ds, p, q, rfl, rfl, rfl, hv, hr'⟩ := trodAll_cons h
  simp only [List.all_cons, Bool.and_eq_true, decide_eq_true_eq] at hr
  exact trodAll_cons_mk (WideElems.Trod_stays hl hr.1.1 hr.1.2 hv (fun x hx => h1 x (by simp [hx])) (fun x hx => h2 x (by simp [hx])))
   (trodAll_stays hl (by simpa using hr.2) hr' (fun x hx => h1 x (by simp [hx])) (fun x hx => h2 x (by simp [hx])))

theorem law_post {f : Func} {s : ChangeSpec} {fresh handsOn again : Bool} {W W' : World} {args : Array Value} {ds gs : List (DataW H)} {before : List MemPlace} {tb : TypeId} (hl : laidOutB P = true)
  (hrt : f.resultTypes = #[tb]) (htb : P.underlying tb = some .bool) (hps : f.params.toList.all (fun t => P.readableRec t && decide (t < P.types.size)) = true) (hvar : s.vars = [])
  (hs : s.fn H (ds ++ gs) = { results := [.lit (.bool true)], args := ds }) (hW : DataW.Whole enc P f.params.toList s.vars false W args.toList ds gs before) (hb : Below W.heap.size W W') :
  s.post enc P f false fresh handsOn again W args (.bool true) W' := by
 have hlt : ∀ p ∈ before, p.block < W.heap.size := fun p hp => hW.lt p hp
 have hold : ∀ p ∈ before, (fun b => decide (b < W.heap.size)) p.block = true := fun p hp => by simpa using hlt p hp
 have hres : ∀ (b : Nat) (sp : Nat → Bool) (hd : Bool), DataW.TrodAll enc P W' b sp hd f.resultTypes.toList ((Value.bool true).resultList f.resultTypes.size) (s.fn H (ds ++ gs)).results [] := by
  intro b sp hd
  rw [hrt, hs]
  exact trodAll_mk1 ⟨1, by simp [DataW.trod, Value.cells, htb]⟩
 obtain ⟨p, q, hA, hV, e, hz, hn⟩ := hW
 rw [hvar] at hV
 obtain ⟨rfl, rfl⟩ := trodVars_none hV
 rw [List.append_nil] at e
 subst e
 have hargs : ∀ sp : Nat → Bool, (∀ x ∈ before, sp x.block = true) → DataW.TrodAll enc P W' 0 sp true f.params.toList args.toList (s.fn H (ds ++ [])).args before := by
  intro sp hsp
  rw [hs]
  exact trodAll_stays hl hps hA (fun x hx => hb.same (hlt x hx)) hsp
 have hvars : ∀ sp : Nat → Bool, DataW.TrodVars enc P W' sp s.vars (s.fn H (ds ++ [])).vars [] := by
  intro sp
  rw [hs, hvar]
  rfl
 have hW0 : DataW.Whole enc P f.params.toList s.vars false W args.toList ds [] before := ⟨before, [], hA, by rw [hvar]; rfl, by simp, hz, hn⟩
 refine ⟨ds, [], before, [], before, [], hW0, hres _ _ _, hargs _ hold, hvars _, World.keptBut_mono (fun p hp => ⟨hp, Or.inr (Or.inl hp)⟩) (hb.frame (· ∈ before)), fun _ => ?_⟩
 refine ⟨?_, _, _, ([] ++ before) ++ [], ⟨[] ++ before, [], trodAll_append (hargs _ (fun _ _ => rfl)) (hres _ _ _), hvars _, rfl, ?_, ?_⟩, ?_⟩
 ·exact ok_one hrt rfl (okWide_bool_mk htb _)
 ·intro b off hp
  have hin : MemPlace.cell b off ∈ before := by simpa using hp
  rw [hb.frozen (hlt _ hin)]
  exact hz b off hin
 ·intro ha
  cases ha
 ·intro p hp _
  simpa using hp
end
theorem rep_str {m : Mem} {k : Nat} (s : ByteArray) : Rep m k (.str s.data.toList) (.string s) := by simp only [Rep]
theorem rep_int {m : Mem} {k : Nat} {ki : IntKind} (n : Int) : Rep m k (.int ki n) (.int ki n) := by simp only [Rep]
theorem rep_bool {m : Mem} {k : Nat} (b : Bool) : Rep m k (.bool b) (.bool b) := by simp only [Rep]
theorem repl_nil {m : Mem} {k : Nat} : RepL m k [] [] := by simp only [RepL]
theorem repl_cons {m : Mem} {k : Nat} {x : AV} {v : Value} {xs : List AV} {vs : List Value} (h : Rep m k x v) (hs : RepL m k xs vs) : RepL m k (x :: xs) (v :: vs) := by
 simp only [RepL]
 exact ⟨v, vs, rfl, h, hs⟩
theorem wf_i64 {n : Int} (h : (Lit.int .i64 n).wf = true) : -9223372036854775808 ≤ n ∧ n ≤ 9223372036854775807 := by
 simpa [Lit.wf, IntKind.min, IntKind.max, IntKind.bits, IntKind.signed] using h
theorem wf_u8 {n : Int} (h : (Lit.int .u8 n).wf = true) : 0 ≤ n ∧ n ≤ 255 := by
 simpa [Lit.wf, IntKind.min, IntKind.max, IntKind.bits, IntKind.signed] using h
end Aw

namespace Aw
open Go Go.RowKit Go.WideShapes Go.ChangeShapes
mutual
def dbulk {H : Type} : DataW H → Nat
 | .lit (.string bytes) => bytes.length + 1
 | .lit _ => 1
 | .nil => 1
 | .ptr d => dbulk d + 1
 | .slice elems spare => dbulks elems + dbulks spare + 1
 | .agg parts => dbulks parts + 1
 | .iface _ d => dbulk d + 1
 | .map _ => 1
 | .held _ => 1
def dbulks {H : Type} : List (DataW H) → Nat
 | [] => 0
 | d :: r => dbulk d + dbulks r
end
/-- the memory in which a law begins: all that is there may be read and stays -/
def gmA (W : World) : Mem := { w := W, F := fun b _ => b < W.heap.size, Pr := fun b => b < W.heap.size, ρ := fun _ => none, np := 0 }
theorem gstartA0 (W : World) : Aw.Start (gmA W) [] := ⟨fun _ _ h => h, fun _ hb => hb, fun g x hg => by simp [Aw.get] at hg, rfl, fun _ => rfl⟩
theorem cell_lt {W : World} {a : Addr} {v : Value} (h : W.cell? a = some v) : a.block < W.heap.size := by
 rcases Nat.lt_or_ge a.block W.heap.size with hlt | hge
 ·exact hlt
 ·have : W.heap[a.block]? = none := by rw [Array.getElem?_eq_none]; exact hge
  simp [World.cell?, this] at h
theorem cell_spot {W : World} {a : Addr} {v : Value} (h : W.cell? a = some v) : a = ⟨a.block, a.off, none⟩ := by
 obtain ⟨b, o, s⟩ := a
 cases s with
 | none => rfl
 | some s =>
  simp only [World.cell?, Option.isSome_some, if_true] at h
  split at h <;> cases h
theorem addr_add_ok {W : World} {a : Addr} {n : Nat} {v : Value} (h : W.cell? (a.add n) = some v) : a.add n = ⟨a.block, a.off + n, none⟩ := by
 unfold Addr.add at *
 split
 ·rename_i e
  subst e
  rw [if_pos rfl] at h
  exact cell_spot h
 ·rfl
theorem RepC.of_cells {W : World} {b : Nat} : ∀ {xs : List AV} {l : List Value} {o : Nat}, RepL (gmA W) 2 xs l → (∀ j, j < l.length → W.cell? ⟨b, o + j, none⟩ = l[j]?) → RepC (gmA W) xs b o
 | [], _, _, _, _ => by simp only [RepC]
 | x :: xs, l, o, h, hc => by
  simp only [RepL] at h
  obtain ⟨v, rest, rfl, hv, hr⟩ := h
  have h0 := hc 0 (by simp)
  simp only [Nat.add_zero, List.getElem?_cons_zero] at h0
  simp only [RepC]
  refine ⟨cell_lt h0, ⟨v, h0, hv⟩, RepC.of_cells hr fun j hj => ?_⟩
  have := hc (j + 1) (by simpa using hj)
  rw [show o + 1 + j = o + (j + 1) from by omega, this]
  rfl
section
variable {H : Type} (enc : TypeId × Value → H) (P : Program) (W : World)
/-- whatever is read at type 't' (within so much fuel) is an 'a' -/
def Opn {α : Type} (N : Nat) (t : TypeId) (cells : α → List AV) (size : α → Nat) (wf : α → Prop) : Prop :=
 ∀ (fuel : Nat) (cs : List Value) (x : DataW H × List MemPlace), fuel ≤ N → DataW.trod enc P W 0 (fun _ => true) true fuel t cs = some x → ∃ a : α, RepL (gmA W) 2 (cells a) cs ∧ size a ≤ dbulk x.1 ∧ wf a
def OpnF {α : Type} (N : Nat) (fs : List (Nat × TypeId)) (o e : Nat) (cells : α → List AV) (size : α → Nat) (wf : α → Prop) : Prop :=
 ∀ (fuel : Nat) (cs : List Value) (xs : List (DataW H × List MemPlace)), fuel ≤ N → xs.length = fs.length → cs.length = e →
  (∀ (i : Nat) (f : Nat × TypeId), fs[i]? = some f → DataW.trod enc P W 0 (fun _ => true) true fuel f.2 ((cs.drop f.1).take (P.cellsOf f.2)) = xs[i]?) → ∃ a : α, RepL (gmA W) 2 (cells a) (cs.drop o) ∧ size a ≤ dbulks (xs.map (·.1)) ∧ wf a
end
section
variable {H : Type} {enc : TypeId × Value → H} {P : Program} {W : World} {N : Nat} {t e : TypeId}
theorem Opn.mono {α : Type} {cells : α → List AV} {size : α → Nat} {wf : α → Prop} {N' : Nat} (h : Opn enc P W N t cells size wf) (hN : N' ≤ N) : Opn enc P W N' t cells size wf :=
 fun fuel cs x hf hx => h fuel cs x (by omega) hx
theorem Opn.as {α β : Type} {cells : α → List AV} {size : α → Nat} {wf : α → Prop} (f : α → β) {cells' : β → List AV} {size' : β → Nat} {wf' : β → Prop} (h : Opn enc P W N t cells size wf)
  (hc : ∀ a, cells' (f a) = cells a) (hs : ∀ a, size' (f a) ≤ size a) (hw : ∀ a, wf a → wf' (f a)) : Opn enc P W N t cells' size' wf' := by
 intro fuel cs x hf hx
 obtain ⟨a, h1, h2, h3⟩ := h fuel cs x hf hx
 exact ⟨f a, by rw [hc]; exact h1, Nat.le_trans (hs a) h2, hw a h3⟩
theorem Opn.int {k : IntKind} (ht : P.underlying t = some (.int k)) : Opn enc P W N t (fun n : Int => [.int k n]) (fun _ => 1) (fun n => (Lit.int k n).wf = true) := by
 intro fuel cs x _ hx
 obtain ⟨n, rfl, rfl, hw⟩ := DataW.trod_int ht hx
 exact ⟨n, repl_cons (rep_int n) repl_nil, by simp [dbulk], hw⟩
theorem Opn.bool (ht : P.underlying t = some .bool) : Opn enc P W N t (fun b : Bool => [.bool b]) (fun _ => 1) (fun _ => True) := by
 intro fuel cs x _ hx
 obtain ⟨n, rfl, rfl⟩ := DataW.trod_bool ht hx
 exact ⟨n, repl_cons (rep_bool n) repl_nil, by simp [dbulk], trivial⟩
theorem Opn.str (ht : P.underlying t = some .string) : Opn enc P W N t (fun s : List UInt8 => [.str s]) (fun s => s.length + 1) (fun _ => True) := by
 intro fuel cs x _ hx
 obtain ⟨s, rfl, rfl, _⟩ := DataW.trod_string ht hx
 exact ⟨s.data.toList, repl_cons (rep_str s) repl_nil, by simp [dbulk], trivial⟩
theorem cells_of {a : Addr} {n : Nat} {l : List Value} (h : W.cells? 0 a n = some l) : l.length = n ∧ ∀ j, j < n → W.cell? (a.add j) = l[j]? := by
 simp only [World.cells?, Nat.zero_le, if_true] at h
 exact ⟨by simpa using mapM_some_length h, fun j hj => mapM_some_get h j j (by simp [hj])⟩
theorem Opn.slice {α : Type} {cells : α → List AV} {size : α → Nat} {wf : α → Prop} (ht : P.underlying t = some (.slice e)) (hc : 0 < P.cellsOf e) (he : Opn enc P W N e cells size wf) :
  Opn enc P W (N + 1) t (fun l : List α => [.sl (l.map cells)]) (fun l => (l.map size).sum + 1) (fun l => ∀ a ∈ l, wf a) := by
 intro fuel cs x hf hx
 rcases DataW.trod_slice ht hx with ⟨rfl, rfl⟩ | ⟨a, len, cap, elems, rest, n, rfl, rfl, rfl, _, hle, _, hlen, hel, _, _⟩
 ·exact ⟨[], repl_cons (by simp only [Rep, List.map_nil]; exact .inl ⟨trivial, _, _, rfl⟩) repl_nil, by simp [dbulk], by simp⟩
 ·have key : ∀ (es : List (DataW H × List MemPlace)) (o : Nat), (∀ i, i < es.length → (W.cells? 0 (a.add ((o + i) * P.cellsOf e)) (P.cellsOf e)).bind (DataW.trod enc P W 0 (fun _ => true) true n e) = es[i]?) →
    ∃ l : List α, l.length = es.length ∧ RepE (gmA W) (l.map cells) a.block (a.off + o * P.cellsOf e) (P.cellsOf e) ∧ (l.map size).sum ≤ dbulks (es.map (·.1)) ∧ ∀ b ∈ l, wf b := by
   intro es
   induction es with
   | nil => intro o _; exact ⟨[], rfl, by simp only [List.map_nil, RepE], by simp, by simp⟩
   | cons y es ih =>
    intro o hy
    obtain ⟨l, hl, hr, hs, hw⟩ := ih (o + 1) (fun i hi => by
     have := hy (i + 1) (by simpa using hi)
     rw [show o + 1 + i = o + (i + 1) from by omega, this]; rfl)
    have h0 := hy 0 (by simp)
    simp only [Nat.add_zero, List.getElem?_cons_zero, Option.bind_eq_some_iff] at h0
    obtain ⟨vs, hv, hy0⟩ := h0
    obtain ⟨b, hb1, hb2, hb3⟩ := he n vs y (by omega) hy0
    obtain ⟨hvl, hvc⟩ := cells_of hv
    have hbl := RepL.length hb1
    refine ⟨b :: l, by simp [hl], ?_, ?_, ?_⟩
    ·simp only [List.map_cons, RepE]
     have h1 : ∀ j, j < P.cellsOf e → W.cell? ⟨a.block, a.off + o * P.cellsOf e + j, none⟩ = vs[j]? := by
      intro j hj
      have h2 := hvc j hj
      rw [← h2]
      have hj' : j < vs.length := by omega
      rw [List.getElem?_eq_getElem hj'] at h2
      have h3 : W.cell? (a.add (o * P.cellsOf e)) = vs[0]? := by
       have := hvc 0 hc
       simpa [Addr.add] using this
      rw [List.getElem?_eq_getElem (by omega)] at h3
      have h4 := addr_add_ok h3
      have h5 := addr_add_ok h2
      rw [h5, h4]
     refine ⟨by omega, RepC.of_cells hb1 (fun j hj => h1 j (by omega)), ?_⟩
     have : a.off + (o + 1) * P.cellsOf e = a.off + o * P.cellsOf e + P.cellsOf e := by rw [Nat.succ_mul]; omega
     rw [← this]
     exact hr
    ·simp only [List.map_cons, List.sum_cons, dbulks]
     omega
    ·intro c hcm
     rcases List.mem_cons.1 hcm with rfl | hcm
     ·exact hb3
     ·exact hw c hcm
  obtain ⟨l, hl, hr, hs, hw⟩ := key elems 0 (fun i hi => by rw [Nat.zero_add]; exact hel i (by omega))
  refine ⟨l, repl_cons ?_ repl_nil, ?_, hw⟩
  ·simp only [Rep]
   by_cases h0 : len = 0
   ·left
    have : l = [] := List.length_eq_zero_iff.1 (by omega)
    subst this
    exact ⟨rfl, a, cap, by rw [h0]⟩
   ·right
    have h1 := hel 0 (by omega)
    rw [List.getElem?_eq_getElem (by omega)] at h1
    simp only [Nat.zero_mul, Option.bind_eq_some_iff] at h1
    obtain ⟨vs, hv, _⟩ := h1
    obtain ⟨hvl, hvc⟩ := cells_of hv
    have h2 := hvc 0 hc
    rw [List.getElem?_eq_getElem (by omega)] at h2
    have h3 : a.add 0 = a := by simp [Addr.add]
    simp only [h3] at h2
    have h4 := cell_spot h2
    refine ⟨a.block, a.off, cap, P.cellsOf e, ?_, by simp only [List.length_map]; omega, ?_⟩
    ·rw [← h4]; simp only [List.length_map]; rw [hl, hlen]
    ·simpa using hr
  ·simp only [dbulk]
   omega
theorem OpnF.nil {o : Nat} : OpnF enc P W N [] o o (fun _ : Unit => []) (fun _ => 0) (fun _ => True) := by
 intro fuel cs xs _ _ hl _
 exact ⟨(), by rw [List.drop_eq_nil_of_le (by omega)]; exact repl_nil, Nat.zero_le _, trivial⟩
theorem OpnF.cons {α β : Type} {ca : α → List AV} {sa : α → Nat} {wa : α → Prop} {cb : β → List AV} {sb : β → Nat} {wb : β → Prop} {o c z : Nat} {fs : List (Nat × TypeId)} (h : Opn enc P W N t ca sa wa) (hc : P.cellsOf t = c) (hr : OpnF enc P W N fs (o + c) z cb sb wb) :
  OpnF enc P W N ((o, t) :: fs) o z (fun p : α × β => ca p.1 ++ cb p.2) (fun p => sa p.1 + sb p.2) (fun p => wa p.1 ∧ wb p.2) := by
 intro fuel cs xs hf hl hcl hx
 cases xs with
 | nil => simp at hl
 | cons x xs =>
  have h0 := hx 0 (o, t) rfl
  simp only [List.getElem?_cons_zero] at h0
  obtain ⟨a, a1, a2, a3⟩ := h fuel _ x hf h0
  obtain ⟨b, b1, b2, b3⟩ := hr fuel cs xs hf (by simpa using hl) hcl (fun i f hi => by simpa using hx (i + 1) f (by simpa using hi))
  refine ⟨(a, b), ?_, by simp only [List.map_cons, dbulks]; omega, a3, b3⟩
  have := RepL.append a1 b1
  rw [hc] at this
  have e : (cs.drop o).take c ++ cs.drop (o + c) = cs.drop o := by rw [← List.drop_drop, List.take_append_drop]
  rwa [e] at this
theorem Opn.struct {α : Type} {fs : Array Field} {l : List (Nat × TypeId)} {z : Nat} {cells : α → List AV} {size : α → Nat} {wf : α → Prop} (ht : P.underlying t = some (.struct fs)) (hl : fs.toList.map (fun f => (f.offset, f.type)) = l) (hz : P.cellsOf t = z) (h : OpnF enc P W N l 0 z cells size wf) :
  Opn enc P W (N + 1) t cells (fun a => size a + 1) wf := by
 intro fuel cs x hf hx
 obtain ⟨xs, n, rfl, rfl, hcl, hxl, hxs⟩ := DataW.trod_struct ht hx
 obtain ⟨a, a1, a2, a3⟩ := h n cs xs (by omega) (by rw [hxl, ← hl]; simp) (by omega) (fun i f hi => by
  rw [← hl, List.getElem?_map, Option.map_eq_some_iff] at hi
  obtain ⟨g, hg, rfl⟩ := hi
  exact hxs i g (by simpa using hg))
 refine ⟨a, by simpa using a1, ?_, a3⟩
 simp only [dbulk]
 omega
theorem Opn.zero {α : Type} {cells : α → List AV} {size : α → Nat} {wf : α → Prop} : Opn enc P W 0 t cells size wf := by
 intro fuel cs x hf hx
 obtain rfl : fuel = 0 := by omega
 simp [DataW.trod] at hx
end
/-! objects -/
mutual
/-- how much an object holds, its letters counted -/
def Pob.tot : Pob → Nat
 | .mk _ _ _ s ks l => s.length + (ks.map fun k => k.length + 1).sum + tots l + 7
def tots : List Pob → Nat
 | [] => 0
 | o :: l => o.tot + tots l
end
def inI64 (n : Int) : Prop := -9223372036854775808 ≤ n ∧ n ≤ 9223372036854775807
mutual
def Pob.wf : Pob → Prop
 | .mk k n g _ _ l => inI64 k ∧ inI64 n ∧ inI64 g ∧ wfs l
def wfs : List Pob → Prop
 | [] => True
 | o :: l => o.wf ∧ wfs l
end
theorem tots_map (l : List Pob) : (l.map Pob.tot).sum = tots l := by
 induction l with
 | nil => simp [tots]
 | cons o l ih => simp only [List.map_cons, List.sum_cons, tots, ih]
theorem wfs_of {l : List Pob} (h : ∀ o ∈ l, o.wf) : wfs l := by
 induction l with
 | nil => simp only [wfs]
 | cons o l ih => simp only [wfs]; exact ⟨h o (by simp), ih fun x hx => h x (by simp [hx])⟩
/-- the numbers of the types of an object -/
structure ObjT (P : Program) (tO tI tL tS tKs tOs : TypeId) : Prop where
 o : ∃ fs, P.underlying tO = some (.struct fs) ∧ fs.toList.map (fun f => (f.offset, f.type)) = [(0, tI), (1, tL), (2, tI), (3, tS), (4, tKs), (5, tOs)]
 i : P.underlying tI = some (.int .i64)
 l : P.underlying tL = some (.int .i64)
 s : P.underlying tS = some .string
 ks : P.underlying tKs = some (.slice tS)
 os : P.underlying tOs = some (.slice tO)
 c : P.cellsOf tO = 6 ∧ P.cellsOf tI = 1 ∧ P.cellsOf tL = 1 ∧ P.cellsOf tS = 1 ∧ P.cellsOf tKs = 1 ∧ P.cellsOf tOs = 1
section
variable {H : Type} {enc : TypeId × Value → H} {P : Program} {W : World} {tO tI tL tS tKs tOs : TypeId}
theorem Opn.strs (T : ObjT P tO tI tL tS tKs tOs) (N : Nat) : Opn enc P W N tKs (fun l : List (List UInt8) => [.sl (strsAV l)]) (fun l => (l.map fun k => k.length + 1).sum + 1) (fun _ => True) := by
 cases N with
 | zero => exact Opn.zero
 | succ N =>
  refine Opn.as id (Opn.slice T.ks (by rw [T.c.2.2.2.1]; decide) (Opn.str (N := N) T.s)) (fun a => ?_) (fun a => Nat.le_refl _) (fun _ _ => trivial)
  simp [strsAV]
theorem Opn.obj (T : ObjT P tO tI tL tS tKs tOs) (N : Nat) : Opn enc P W N tO Pob.cells Pob.tot Pob.wf := by
 induction N using Nat.strongRecOn with
 | ind N IH =>
  cases N with
  | zero => exact Opn.zero
  | succ N =>
   have hos : Opn enc P W N tOs (fun l : List Pob => [.sl (objsAV l)]) (fun l => tots l + 1) wfs := by
    cases N with
    | zero => exact Opn.zero
    | succ N =>
     refine Opn.as id (Opn.slice T.os (by rw [T.c.1]; decide) (IH N (by omega))) (fun a => ?_) (fun a => ?_) (fun a h => wfs_of h)
     ·simp [objsAV_map]
     ·rw [tots_map]; exact Nat.le_refl _
   obtain ⟨fs, h1, h2⟩ := T.o
   obtain ⟨c0, c1, c2, c3, c4, c5⟩ := T.c
   refine Opn.as (fun p : Int × Int × Int × List UInt8 × List (List UInt8) × List Pob × Unit => Pob.mk p.1 p.2.1 p.2.2.1 p.2.2.2.1 p.2.2.2.2.1 p.2.2.2.2.2.1)
    (Opn.struct h1 h2 c0 (OpnF.cons (Opn.int T.i) c1 (OpnF.cons (Opn.int T.l) c2 (OpnF.cons (Opn.int T.i) c1 (OpnF.cons (Opn.str T.s) c3 (OpnF.cons (Opn.strs T N) c4 (OpnF.cons hos c5 OpnF.nil))))))) ?_ ?_ ?_
   ·intro a; simp [Pob.cells]
   ·intro a; simp only [Pob.tot]; omega
   ·intro a ⟨ha, hb, hc, _, _, hl, _⟩
    simp only [Pob.wf]
    exact ⟨wf_i64 ha, wf_i64 hb, wf_i64 hc, hl⟩
end
/-! arguments -/
section
variable {H : Type} {enc : TypeId × Value → H} {P : Program} {W : World} {t : TypeId} {b0 : Nat} {r : Reach} {v : Value} {d : DataW H} {ps : List MemPlace}
theorem Opn.agg {α : Type} {cells : α → List AV} {size : α → Nat} {wf : α → Prop} {fs : Array Field} (ht : P.underlying t = some (.struct fs)) (h : ∀ N, Opn enc P W N t cells size wf) (hval : Value.okWide P W r b0 t v) (hd : DataW.Trod enc P W 0 (fun _ => true) true t v d ps) :
  ∃ a, Rep (gmA W) 1 (.agg (cells a)) v ∧ size a ≤ dbulk d ∧ wf a := by
 obtain ⟨cs, rfl, _⟩ := okWide_struct ht hval
 obtain ⟨fuel, hf⟩ := hd
 obtain ⟨a, h1, h2, h3⟩ := h fuel fuel _ _ (Nat.le_refl _) hf
 refine ⟨a, ?_, h2, h3⟩
 simp only [Rep]
 exact ⟨cs, rfl, RepL.down (by decide) _ _ h1⟩
theorem Opn.sl {α : Type} {av : α → AV} {size : α → Nat} {wf : α → Prop} {e : TypeId} (ht : P.underlying t = some (.slice e)) (h : ∀ N, Opn enc P W N t (fun a => [av a]) size wf) (hval : Value.okWide P W r b0 t v) (hd : DataW.Trod enc P W 0 (fun _ => true) true t v d ps) :
  ∃ a, Rep (gmA W) 1 (av a) v ∧ size a ≤ dbulk d ∧ wf a := by
 obtain ⟨A, n, c, rfl⟩ := okWide_slice ht hval
 obtain ⟨fuel, hf⟩ := hd
 obtain ⟨a, h1, h2, h3⟩ := h fuel fuel _ _ (Nat.le_refl _) hf
 refine ⟨a, ?_, h2, h3⟩
 simp only [RepL, Value.cells] at h1
 obtain ⟨u, rest, hu, hr, _⟩ := h1
 cases hu
 exact Rep.down (by decide) _ _ hr
end
end Aw

namespace Aw
open Go
mutual
def Pob.depth : Pob → Nat
 | .mk _ _ _ _ _ l => depths l + 1
def depths : List Pob → Nat
 | [] => 0
 | o :: l => max o.depth (depths l)
end
attribute [irreducible] Pob.depth depths
end Aw

namespace Aw
open Go
/-- six numbers -/
structure Mx where
 a : Int
 b : Int
 c : Int
 d : Int
 e : Int
 f : Int
deriving DecidableEq
def Mx.cells (m : Mx) : List AV := [.int .i64 m.a, .int .i64 m.b, .int .i64 m.c, .int .i64 m.d, .int .i64 m.e, .int .i64 m.f]
def inFix (n : Int) : Prop := -1073741824 ≤ n ∧ n ≤ 1073741824
instance (n : Int) : Decidable (inFix n) := by unfold inFix; infer_instance
def Mx.mul (p q : Mx) : Mx := ⟨p.a * q.a + p.b * q.c, p.a * q.b + p.b * q.d, p.c * q.a + p.d * q.c, p.c * q.b + p.d * q.d, p.e * q.a + p.f * q.c + q.e, p.e * q.b + p.f * q.d + q.f⟩
theorem Mx.mul_assoc (p q r : Mx) : (p.mul q).mul r = p.mul (q.mul r) := by
 simp only [Mx.mul, Mx.mk.injEq]
 refine ⟨?_, ?_, ?_, ?_, ?_, ?_⟩ <;> grind
def Mx.fixed (m : Mx) : Prop := inFix m.a ∧ inFix m.b ∧ inFix m.c ∧ inFix m.d ∧ inFix m.e ∧ inFix m.f
end Aw

namespace Aw
open Go
end Aw

namespace Aw
open Go
structure Pt where
 x : Int
 y : Int
deriving DecidableEq
def Pt.cells (p : Pt) : List AV := [.int .i64 p.x, .int .i64 p.y]
def Pt.fixed (p : Pt) : Prop := inFix p.x ∧ inFix p.y
instance (m : Mx) : Decidable m.fixed := by unfold Mx.fixed; infer_instance
instance (p : Pt) : Decidable p.fixed := by unfold Pt.fixed; infer_instance
end Aw

namespace Aw
open Go
def bI (x : Bool) : Int := if x then 1 else 0
def bitB (x : Bool) (k : Nat) : UInt8 := if x then 1 <<< UInt8.ofNat k else 0
def wOne (b : List UInt8) (u : Nat) (x : Bool) : List UInt8 := if u = 0 then b ++ [(0 : UInt8) ||| bitB x 7] else b.dropLast ++ [b.getLastD 0 ||| bitB x (7 - u)]
theorem wOne_zero (b : List UInt8) (x : Bool) : wOne b 0 x = b ++ [(0 : UInt8) ||| bitB x 7] := rfl
theorem wOne_pos (c : List UInt8) (y : UInt8) {u : Nat} (h : u ≠ 0) (x : Bool) : wOne (c ++ [y]) u x = c ++ [y ||| bitB x (7 - u)] := by
 rw [wOne, if_neg h, List.dropLast_concat]
 congr 2
 simp
theorem or_bits : ∀ (u : Fin 8) (x : Bool) (y : Fin 256), bitOr .u8 (y.1 : Int) (IntKind.u8.wrap (bitShl .i64 (bI x) (7 - u.1))) = (((UInt8.ofNat y.1) ||| bitB x (7 - u.1)).toNat : Int) := by decide +kernel
theorem or_bit {u : Nat} (hu : u < 8) (x : Bool) (y : UInt8) : bitOr .u8 (y.toNat : Int) (IntKind.u8.wrap (bitShl .i64 (bI x) (7 - (u : Int)))) = ((y ||| bitB x (7 - u)).toNat : Int) := by
 have h := or_bits ⟨u, hu⟩ x ⟨y.toNat, y.toNat_lt⟩
 simpa using h
theorem bytesAV_len (b : List UInt8) : (bytesAV b).length = b.length := by simp [bytesAV]
theorem bytesAV_app1 (b : List UInt8) (y : UInt8) : bytesAV b ++ [[.int .u8 (y.toNat : Int)]] = bytesAV (b ++ [y]) := by simp [bytesAV]
theorem bytes_at (c : List UInt8) (x : List AV) : (bytesAV c ++ [x]).getD c.length [] = x := by
 have h : (bytesAV c).length = c.length := bytesAV_len c
 rw [List.getD_eq_getElem?_getD, List.getElem?_append_right (by omega)]
 simp [h]
theorem bytes_set (c : List UInt8) (x y : List AV) : (bytesAV c ++ [x]).set c.length y = bytesAV c ++ [y] := by
 rw [← bytesAV_len c, List.set_append_right _ _ (by omega)]
 simp
theorem bytes_snoc_len (c : List UInt8) (x : List AV) : (bytesAV c ++ [x]).length = c.length + 1 := by simp [bytesAV]
def wAll : List Bool → List UInt8 × Nat → List UInt8 × Nat
 | [], s => s
 | x :: l, s => wAll l (wOne s.1 s.2 x, (s.2 + 1) % 8)
theorem wAll_snoc : ∀ (l : List Bool) (x : Bool) (s : List UInt8 × Nat), wAll (l ++ [x]) s = (wOne (wAll l s).1 (wAll l s).2 x, ((wAll l s).2 + 1) % 8)
 | [], _, _ => rfl
 | _ :: l, x, _ => wAll_snoc l x _
theorem wAll_app : ∀ (l k : List Bool) (s : List UInt8 × Nat), wAll (l ++ k) s = wAll k (wAll l s)
 | [], _, _ => rfl
 | _ :: l, k, _ => wAll_app l k _
def WOk (s : List UInt8 × Nat) : Prop := s.2 < 8 ∧ (s.2 ≠ 0 → s.1 ≠ [])
theorem wOne_ne (b : List UInt8) (u : Nat) (x : Bool) : wOne b u x ≠ [] := by
 unfold wOne
 split <;> simp
theorem wOne_le (b : List UInt8) (u : Nat) (x : Bool) (_ : u ≠ 0 → b ≠ []) : (wOne b u x).length ≤ b.length + 1 := by
 unfold wOne
 split
 ·simp
 ·simp only [List.length_append, List.length_dropLast, List.length_cons, List.length_nil]; omega
theorem wOne_ok {b : List UInt8} {u : Nat} (x : Bool) : WOk (wOne b u x, (u + 1) % 8) := ⟨Nat.mod_lt _ (by decide), fun _ => wOne_ne _ _ _⟩
theorem wAll_ok : ∀ (l : List Bool) (s : List UInt8 × Nat), WOk s → WOk (wAll l s)
 | [], _, h => h
 | _ :: l, _, _ => wAll_ok l _ (wOne_ok _)
theorem wAll_le : ∀ (l : List Bool) (s : List UInt8 × Nat), WOk s → (wAll l s).1.length ≤ s.1.length + l.length
 | [], _, _ => Nat.le_refl _
 | x :: l, s, h => by
  have h1 := wAll_le l (wOne s.1 s.2 x, (s.2 + 1) % 8) (wOne_ok _)
  have h2 := wOne_le s.1 s.2 x h.2
  simp only [wAll, List.length_cons] at h1 ⊢
  omega
/-- the bits of a number, the greatest first -/
def bitsN (v k : Nat) : List Bool := (List.range k).map fun i => v.testBit (k - 1 - i)
theorem bitsN_len (v k : Nat) : (bitsN v k).length = k := by simp [bitsN]
theorem bitsN_take {v k i : Nat} (h : i < k) : (bitsN v k).take (i + 1) = (bitsN v k).take i ++ [v.testBit (k - 1 - i)] := by
 rw [List.take_succ_eq_append_getElem (by rw [bitsN_len]; exact h)]
 simp [bitsN]
theorem and_one {x : Nat} (h : x < 9223372036854775808) : bitAnd .i64 (x : Int) 1 = bI (x.testBit 0) := by
 have e : (BitVec.ofInt 64 (x : Int) &&& BitVec.ofInt 64 1).toNat = x % 2 := by
  rw [BitVec.toNat_and]
  simp only [BitVec.toNat_ofInt]
  have h1 : ((x : Int) % ((2 ^ 64 : Nat) : Int)).toNat = x := by omega
  have h2 : ((1 : Int) % ((2 ^ 64 : Nat) : Int)).toNat = 1 := by decide
  rw [h1, h2, Nat.and_one_is_mod]
 show IntKind.i64.wrap ((BitVec.ofInt 64 (x : Int) &&& BitVec.ofInt 64 1).toNat : Int) = _
 rw [e, Nat.testBit_zero]
 rcases Nat.mod_two_eq_zero_or_one x with h | h <;> rw [h] <;> rfl
theorem bit_at {v k i : Nat} (hv : v < 9223372036854775808) (h : i < k) (hk : k ≤ 64) : bitAnd .i64 (bitShr .i64 (v : Int) ((k : Int) - 1 - (i : Int))) 1 = bI (v.testBit (k - 1 - i)) := by
 have e : bitShr .i64 (v : Int) ((k : Int) - 1 - (i : Int)) = ((v / 2 ^ (k - 1 - i) : Nat) : Int) := by
  unfold bitShr
  have h1 : ((k : Int) - 1 - (i : Int)).toNat = k - 1 - i := by omega
  have h2 : min (k - 1 - i) IntKind.i64.bits = k - 1 - i := Nat.min_eq_left (by show k - 1 - i ≤ 64; omega)
  rw [h1, h2, Int.fdiv_eq_ediv_of_nonneg _ (by exact Int.le_of_lt (Int.pow_pos (by decide)))]
  simp
 rw [e, and_one (Nat.lt_of_le_of_lt (Nat.div_le_self _ _) hv), Nat.testBit_div_two_pow]
 simp
theorem shl_one : ∀ k : Fin 25, bitShl .i64 1 (k.1 : Int) = ((2 ^ k.1 : Nat) : Int) := by decide +kernel
theorem shl_lt {v k : Nat} (hk : k ≤ 24) (hv : v < 2 ^ k) : decide (bitShl .i64 1 (k : Int) ≤ (v : Int)) = false := by
 rw [shl_one ⟨k, by omega⟩]
 simp only [decide_eq_false_iff_not, Int.not_le, Int.ofNat_lt]
 exact hv
theorem shr_16 (v : Nat) : bitShr .i64 (v : Int) 16 = ((v / 65536 : Nat) : Int) := by
 unfold bitShr
 have h1 : (2 : Int) ^ min (Int.toNat 16) IntKind.i64.bits = 65536 := by decide
 rw [h1, Int.fdiv_eq_ediv_of_nonneg _ (by decide)]
 omega
theorem and_16 {v : Nat} (h : v < 9223372036854775808) : bitAnd .i64 (v : Int) 65535 = ((v % 65536 : Nat) : Int) := by
 have e : (BitVec.ofInt 64 (v : Int) &&& BitVec.ofInt 64 65535).toNat = v % 65536 := by
  rw [BitVec.toNat_and]
  simp only [BitVec.toNat_ofInt]
  have h1 : ((v : Int) % ((2 ^ 64 : Nat) : Int)).toNat = v := by omega
  have h2 : ((65535 : Int) % ((2 ^ 64 : Nat) : Int)).toNat = 2 ^ 16 - 1 := by decide
  rw [h1, h2, Nat.and_two_pow_sub_one_eq_mod]
 show IntKind.i64.wrap ((BitVec.ofInt 64 (v : Int) &&& BitVec.ofInt 64 65535).toNat : Int) = _
 rw [e]
 have := Nat.mod_lt v (show 65536 > 0 by decide)
 exact IntWalk.i64_in _ ⟨by omega, by omega⟩
theorem bitsN_split {v k : Nat} (h : 16 ≤ k) : bitsN (v / 65536) (k - 16) ++ bitsN (v % 65536) 16 = bitsN v k := by
 refine List.ext_getElem (by simp [bitsN_len]; omega) fun i h1 h2 => ?_
 rw [List.getElem_append]
 simp only [bitsN_len] at h2
 have e1 : (65536 : Nat) = 2 ^ 16 := by decide
 split
 ·rename_i hi
  simp only [bitsN_len] at hi
  simp only [bitsN, List.getElem_map, List.getElem_range]
  rw [e1, Nat.testBit_div_two_pow]
  congr 1
  omega
 ·rename_i hi
  simp only [bitsN_len] at hi
  simp only [bitsN, List.getElem_map, List.getElem_range, List.length_map, List.length_range]
  rw [e1, Nat.testBit_mod_two_pow]
  have : 16 - 1 - (i - (k - 16)) < 16 := by omega
  simp only [this, decide_true, Bool.true_and]
  congr 1
  omega
theorem wAll_split {v k : Nat} (h : 16 ≤ k) (s : List UInt8 × Nat) : wAll (bitsN (v % 65536) 16) (wAll (bitsN (v / 65536) (k - 16)) s) = wAll (bitsN v k) s := by
 rw [← wAll_app, bitsN_split h]
end Aw

namespace Aw
open Go
structure Hn where
 a : Int
 b : Int
 d : Int
deriving DecidableEq
def Hn.cells (h : Hn) : List AV := [.int .i64 h.a, .int .i64 h.b, .int .i64 h.d]
def Hn.zero : Hn := ⟨0, 0, 0⟩
def hintsAV (l : List Hn) : List (List AV) := l.map Hn.cells
theorem hintsAV_length (l : List Hn) : (hintsAV l).length = l.length := by simp [hintsAV]
theorem hintsAV_len3 (l : List Hn) : (∀ e ∈ hintsAV l, e.length = 3) = True := by
 simp only [hintsAV, List.mem_map, eq_iff_iff, iff_true]
 rintro e ⟨h, _, rfl⟩
 rfl
theorem hintsAV_getD {l : List Hn} {i : Nat} {x : List AV} (h : i < l.length) : (hintsAV l).getD i x = [.int .i64 (l.getD i Hn.zero).a, .int .i64 (l.getD i Hn.zero).b, .int .i64 (l.getD i Hn.zero).d] := by
 simp [hintsAV, List.getD, h, Hn.cells]
theorem hintsAV_at (l : List Hn) (j : { n : Nat // n < l.length }) (x : List AV) : (hintsAV l).getD j.1 x = [.int .i64 (l.getD j.1 Hn.zero).a, .int .i64 (l.getD j.1 Hn.zero).b, .int .i64 (l.getD j.1 Hn.zero).d] := hintsAV_getD j.2
def Hn.ok (h : Hn) : Prop := (0 ≤ h.a ∧ h.a ≤ 8191) ∧ (0 ≤ h.b ∧ h.b ≤ 1048576) ∧ (0 ≤ h.d ∧ h.d ≤ 1048576)
instance (h : Hn) : Decidable h.ok := by unfold Hn.ok; infer_instance
def okH (l : List Hn) : Bool := l.all fun h => decide h.ok
def checkH (l : List Hn) : Int := if l.length = 0 then 1 else if 2048 < l.length then 6 else if okH l = true then 0 else 2
theorem len_lt : ∀ (f x : Nat), x < 2 ^ f → x < 2 ^ Lib.bitLenAux f x
 | 0, x, h => by simpa [Lib.bitLenAux] using h
 | f + 1, x, h => by
  unfold Lib.bitLenAux
  split
  ·rename_i h0; subst h0; decide
  ·have ih := len_lt f (x / 2) (by rw [Nat.pow_succ] at h; omega)
   rw [Nat.pow_add]
   omega
theorem len_le : ∀ (j f x : Nat), x < 2 ^ j → Lib.bitLenAux f x ≤ j
 | _, 0, _, _ => by simp [Lib.bitLenAux]
 | 0, f + 1, x, h => by
  have : x = 0 := by simpa using h
  subst this
  simp [Lib.bitLenAux]
 | j + 1, f + 1, x, h => by
  unfold Lib.bitLenAux
  split
  ·omega
  ·have := len_le j f (x / 2) (by rw [Nat.pow_succ] at h; omega)
   omega
theorem bitLen_lt {x : Nat} (h : x ≤ 1048576) : x < 2 ^ Lib.bitLen x := len_lt 64 x (Nat.lt_of_le_of_lt h (by decide))
theorem bitLen_le {x : Nat} (h : x ≤ 1048576) : Lib.bitLen x ≤ 21 := len_le 21 64 x (Nat.lt_of_le_of_lt h (by decide))
theorem okH_no {l : List Hn} {i : Nat} (h : i < l.length) (hn : ¬ (l.getD i Hn.zero).ok) : okH l = false := by
 rw [okH, List.all_eq_false]
 refine ⟨l[i], List.getElem_mem h, ?_⟩
 rw [List.getD_eq_getElem?_getD, List.getElem?_eq_getElem h] at hn
 simpa using hn
theorem okH_yes {l : List Hn} (h : ∀ i, i < l.length → (l.getD i Hn.zero).ok) : okH l = true := by
 rw [okH, List.all_eq_true]
 intro x hx
 obtain ⟨i, hi, rfl⟩ := List.getElem_of_mem hx
 have := h i hi
 rw [List.getD_eq_getElem?_getD, List.getElem?_eq_getElem hi] at this
 exact decide_eq_true this
theorem checkH_no {l : List Hn} {i : Nat} (h1 : l.length ≤ 2048) (h : i < l.length) (hn : ¬ (l.getD i Hn.zero).ok) : checkH l = 2 := by
 rw [checkH, if_neg (by omega), if_neg (by omega), if_neg (by rw [okH_no h hn]; decide)]
theorem checkH_yes {l : List Hn} (h0 : l.length ≠ 0) (h1 : l.length ≤ 2048) (h : ∀ i, i < l.length → (l.getD i Hn.zero).ok) : checkH l = 0 := by
 rw [checkH, if_neg h0, if_neg (by omega), if_pos (okH_yes h)]
def loL (f : Hn → Int) (z : Int) (l : List Hn) : Int := l.foldl (fun m h => min m (f h)) z
def hiL (f : Hn → Int) (z : Int) (l : List Hn) : Int := l.foldl (fun m h => max m (f h)) z
theorem loL_take {f : Hn → Int} {z : Int} {l : List Hn} {i : Nat} (h : i < l.length) : loL f z (l.take (i + 1)) = min (loL f z (l.take i)) (f (l.getD i Hn.zero)) := by
 unfold loL
 rw [List.take_succ_eq_append_getElem h, List.foldl_append]
 simp [List.getD, h]
theorem hiL_take {f : Hn → Int} {z : Int} {l : List Hn} {i : Nat} (h : i < l.length) : hiL f z (l.take (i + 1)) = max (hiL f z (l.take i)) (f (l.getD i Hn.zero)) := by
 unfold hiL
 rw [List.take_succ_eq_append_getElem h, List.foldl_append]
 simp [List.getD, h]
theorem loL_bnd (f : Hn → Int) : ∀ (l : List Hn) (z : Int), loL f z l ≤ z ∧ (∀ h ∈ l, loL f z l ≤ f h) ∧ ((0 ≤ z ∧ ∀ h ∈ l, 0 ≤ f h) → 0 ≤ loL f z l)
 | [], z => by simp [loL]
 | x :: l, z => by
  obtain ⟨h1, h2, h3⟩ := loL_bnd f l (min z (f x))
  have e : loL f z (x :: l) = loL f (min z (f x)) l := rfl
  rw [e]
  refine ⟨by omega, fun h hh => ?_, fun ⟨h0, hl⟩ => h3 ⟨?_, fun y hy => hl y (List.mem_cons_of_mem _ hy)⟩⟩
  ·rcases List.mem_cons.1 hh with rfl | hh
   ·omega
   ·exact h2 h hh
  ·have := hl x (List.mem_cons_self ..)
   omega
theorem hiL_bnd (f : Hn → Int) (M : Int) : ∀ (l : List Hn) (z : Int), z ≤ hiL f z l ∧ (∀ h ∈ l, f h ≤ hiL f z l) ∧ ((z ≤ M ∧ ∀ h ∈ l, f h ≤ M) → hiL f z l ≤ M)
 | [], z => by simp [hiL]
 | x :: l, z => by
  obtain ⟨h1, h2, h3⟩ := hiL_bnd f M l (max z (f x))
  have e : hiL f z (x :: l) = hiL f (max z (f x)) l := rfl
  rw [e]
  refine ⟨by omega, fun h hh => ?_, fun ⟨h0, hl⟩ => h3 ⟨?_, fun y hy => hl y (List.mem_cons_of_mem _ hy)⟩⟩
  ·rcases List.mem_cons.1 hh with rfl | hh
   ·omega
   ·exact h2 h hh
  ·have := hl x (List.mem_cons_self ..)
   omega
def spanN (f : Hn → Int) (x : Hn) (t : List Hn) : Nat := (hiL f (f x) (x :: t) - loL f (f x) (x :: t)).toNat
theorem span_facts (f : Hn → Int) (x : Hn) (t : List Hn) (h : ∀ y ∈ x :: t, 0 ≤ f y ∧ f y ≤ 1048576) : (0 ≤ loL f (f x) (x :: t) ∧ loL f (f x) (x :: t) ≤ 1048576) ∧ hiL f (f x) (x :: t) - loL f (f x) (x :: t) = (spanN f x t : Int) ∧ spanN f x t ≤ 1048576 ∧ ∀ y ∈ x :: t, loL f (f x) (x :: t) ≤ f y ∧ f y ≤ loL f (f x) (x :: t) + spanN f x t := by
 have hx := h x (List.mem_cons_self ..)
 obtain ⟨a1, a2, a3⟩ := loL_bnd f (x :: t) (f x)
 obtain ⟨b1, b2, b3⟩ := hiL_bnd f 1048576 (x :: t) (f x)
 have a4 := a3 ⟨hx.1, fun y hy => (h y hy).1⟩
 have b4 := b3 ⟨hx.2, fun y hy => (h y hy).2⟩
 unfold spanN
 refine ⟨⟨a4, by omega⟩, by omega, by omega, fun y hy => ?_⟩
 have := a2 y hy
 have := b2 y hy
 omega
theorem hintsAV_zero (x : Hn) (t : List Hn) (d : List AV) : (hintsAV (x :: t)).getD 0 d = [.int .i64 x.a, .int .i64 x.b, .int .i64 x.d] := rfl
def colBits (f : Hn → Int) (lo k : Nat) (l : List Hn) : List Bool := (l.map fun h => bitsN (f h - lo).toNat k).flatten
theorem colBits_take {f : Hn → Int} {lo k : Nat} {l : List Hn} {i : Nat} (h : i < l.length) : colBits f lo k (l.take (i + 1)) = colBits f lo k (l.take i) ++ bitsN (f (l.getD i Hn.zero) - lo).toNat k := by
 unfold colBits
 rw [List.take_succ_eq_append_getElem h, List.map_append, List.flatten_append]
 simp [List.getD, h]
theorem colBits_len (f : Hn → Int) (lo k : Nat) : ∀ l : List Hn, (colBits f lo k l).length = l.length * k
 | [] => by simp [colBits]
 | x :: l => by
  have ih := colBits_len f lo k l
  have e : colBits f lo k (x :: l) = bitsN (f x - lo).toNat k ++ colBits f lo k l := rfl
  rw [e, List.length_append, bitsN_len, ih, List.length_cons, Nat.succ_mul]
  omega
def wayI (w : Int) (k i : Nat) : Int := if k = 0 ∨ i = 0 then w else 2
theorem wayI_ok {w : Int} {k i : Nat} (h : w = 0 ∨ w = 2) : wayI w k i = 0 ∨ wayI w k i = 2 := by
 unfold wayI
 split
 ·exact h
 ·exact .inr rfl
theorem wayI_succ (w : Int) (k i : Nat) : (if k = 0 then wayI w k i else 2) = wayI w k (i + 1) := by
 unfold wayI
 by_cases h : k = 0 <;> simp [h]
def loN (f : Hn → Int) (x : Hn) (t : List Hn) : Nat := (loL f (f x) (x :: t)).toNat
def wdN (f : Hn → Int) (x : Hn) (t : List Hn) : Nat := Lib.bitLen (spanN f x t)
def headS (x : Hn) (t : List Hn) : List UInt8 × Nat :=
 wAll (bitsN (wdN Hn.d x t) 16) (wAll (bitsN (wdN Hn.b x t) 16) (wAll (bitsN (wdN Hn.a x t) 16) (wAll (bitsN (loN Hn.d x t) 32) (wAll (bitsN (loN Hn.b x t) 32) (wAll (bitsN (loN Hn.a x t) 32) (wAll (bitsN (x :: t).length 32) ([], 0)))))))
def colS (f : Hn → Int) (x : Hn) (t : List Hn) (s : List UInt8 × Nat) : List UInt8 × Nat := ((wAll (colBits f (loN f x t) (wdN f x t) (x :: t)) s).1, 0)
def textS (x : Hn) (t : List Hn) : List UInt8 := (colS Hn.d x t (colS Hn.b x t (colS Hn.a x t (headS x t)))).1
theorem hintsAV_ok (l : List Hn) : (∀ e ∈ hintsAV l, okRow 3 e = true) = True := by
 simp only [hintsAV, List.mem_map, eq_iff_iff, iff_true]
 rintro e ⟨h, _, rfl⟩
 rfl
theorem nil_hints {l : List Hn} {b : Bool} (hb : hintsAV l ≠ [] → b = false) (h : b = true) : l = [] := by
 cases l with
 | nil => rfl
 | cons x t =>
  have := hb (by simp [hintsAV])
  rw [this] at h
  cases h
theorem nil_bytes {l : List UInt8} {b : Bool} (hb : bytesAV l ≠ [] → b = false) (h : b = true) : l = [] := by
 cases l with
 | nil => rfl
 | cons x t =>
  have := hb (by simp [bytesAV])
  rw [this] at h
  cases h
theorem wayI_zero (w : Int) (k : Nat) : wayI w k 0 = w := by simp [wayI]
theorem colS_ok (f : Hn → Int) (x : Hn) (t : List Hn) (s : List UInt8 × Nat) : WOk (colS f x t s) := ⟨Nat.zero_lt_succ _, fun h => absurd rfl h⟩
theorem colS_le {f : Hn → Int} {x : Hn} {t : List Hn} {s : List UInt8 × Nat} (hs : WOk s) (hl : (x :: t).length ≤ 2048) (hw : wdN f x t ≤ 21) : (colS f x t s).1.length ≤ s.1.length + 43008 := by
 have h := wAll_le (colBits f (loN f x t) (wdN f x t) (x :: t)) s hs
 rw [colBits_len] at h
 have hm : (x :: t).length * wdN f x t ≤ 2048 * 21 := Nat.mul_le_mul hl hw
 show (wAll (colBits f (loN f x t) (wdN f x t) (x :: t)) s).1.length ≤ _
 omega
def colI (f : Hn → Int) (lo k : Nat) (l : List Hn) (i : Nat) : List Bool := colBits f lo k (l.take i)
theorem colI_zero (f : Hn → Int) (lo k : Nat) (l : List Hn) : colI f lo k l 0 = [] := by simp [colI, colBits]
theorem colI_succ {f : Hn → Int} {lo k : Nat} {l : List Hn} {i : Nat} (h : i < l.length) : colI f lo k l (i + 1) = colI f lo k l i ++ bitsN (f (l.getD i Hn.zero) - lo).toNat k := colBits_take h
theorem colI_end (f : Hn → Int) (lo k : Nat) (l : List Hn) : colI f lo k l l.length = colBits f lo k l := by rw [colI, List.take_length]
theorem colI_len {f : Hn → Int} {lo k : Nat} {l : List Hn} {i : Nat} (h : i ≤ l.length) : (colI f lo k l i).length = i * k := by
 rw [colI, colBits_len, List.length_take, Nat.min_eq_left h]
attribute [irreducible] colI
end Aw

namespace Aw
open Go Go.RowKit Go.WideShapes Go.ChangeShapes
section
variable {H : Type} {enc : TypeId × Value → H} {P : Program} {W : World} {tM tL : TypeId}
theorem Opn.hn {fs : Array Field} (h1 : P.underlying tM = some (.struct fs)) (h2 : fs.toList.map (fun f => (f.offset, f.type)) = [(0, tL), (1, tL), (2, tL)]) (hl : P.underlying tL = some (.int .i64)) (c0 : P.cellsOf tM = 3) (c1 : P.cellsOf tL = 1) (N : Nat) :
  Opn enc P W N tM Hn.cells (fun _ => 1) (fun _ => True) := by
 cases N with
 | zero => exact Opn.zero
 | succ N =>
  refine Opn.as (fun p : Int × Int × Int × Unit => Hn.mk p.1 p.2.1 p.2.2.1)
   (Opn.struct h1 h2 c0 (OpnF.cons (Opn.int hl) c1 (OpnF.cons (Opn.int hl) c1 (OpnF.cons (Opn.int hl) c1 OpnF.nil)))) ?_ ?_ ?_
  ·intro a; simp [Hn.cells]
  ·intro a; omega
  ·intro a _; trivial
theorem Opn.hints {tS : TypeId} {fs : Array Field} (ht : P.underlying tS = some (.slice tM)) (h1 : P.underlying tM = some (.struct fs)) (h2 : fs.toList.map (fun f => (f.offset, f.type)) = [(0, tL), (1, tL), (2, tL)]) (hl : P.underlying tL = some (.int .i64)) (c0 : P.cellsOf tM = 3) (c1 : P.cellsOf tL = 1) (N : Nat) :
  Opn enc P W N tS (fun l : List Hn => [.sl (hintsAV l)]) (fun l => (l.map fun _ => 1).sum + 1) (fun l => ∀ a ∈ l, True) := by
 cases N with
 | zero => exact Opn.zero
 | succ N => exact Opn.slice ht (by rw [c0]; decide) (Opn.hn h1 h2 hl c0 c1 N)
end
end Aw

namespace Go.Proofs
open Go Aw
@[go_sem] theorem ti1 : tinfo Try.prog 1 = some ⟨.func, 1, 8, some [.raw .nilFunc]⟩ := by kernel_rfl
@[go_sem] theorem ti2 : tinfo Try.prog 2 = some ⟨.int .i64, 1, 8, some [.int .i64 0]⟩ := by kernel_rfl
@[go_sem] theorem ti3 : tinfo Try.prog 3 = some ⟨.int .i64, 1, 8, some [.int .i64 0]⟩ := by kernel_rfl
@[go_sem] theorem ti4 : tinfo Try.prog 4 = some ⟨.bool, 1, 1, some [.bool false]⟩ := by kernel_rfl
@[go_sem] theorem ti5 : tinfo Try.prog 5 = some ⟨.int .u8, 1, 1, some [.int .u8 0]⟩ := by kernel_rfl
@[go_sem] theorem ti9 : tinfo Try.prog 9 = some ⟨.str, 1, 16, some [.str []]⟩ := by kernel_rfl
@[go_sem] theorem ti12 : tinfo Try.prog 12 = some ⟨.int .u64, 1, 8, some [.int .u64 0]⟩ := by kernel_rfl
@[go_sem] theorem ti13 : tinfo Try.prog 13 = some ⟨.struct [(0, 9), (1, 12)], 2, 24, some [.str [], .int .u64 0]⟩ := by kernel_rfl
@[go_sem high] theorem bl13 : blist Try.prog 13 = some [(0, 1), (1, 1)] := by kernel_rfl
@[go_sem] theorem ti20 : tinfo Try.prog 20 = some ⟨.iface, 1, 16, some [.raw .nilIface]⟩ := by kernel_rfl
@[go_sem] theorem ti21 : tinfo Try.prog 21 = some ⟨.int .i32, 1, 4, some [.int .i32 0]⟩ := by kernel_rfl
@[go_sem] theorem ti22 : tinfo Try.prog 22 = some ⟨.struct [(0, 2), (1, 2), (2, 2), (3, 2), (4, 2), (5, 2)], 6, 48, some [.int .i64 0, .int .i64 0, .int .i64 0, .int .i64 0, .int .i64 0, .int .i64 0]⟩ := by kernel_rfl
@[go_sem high] theorem bl22 : blist Try.prog 22 = some [(0, 1), (1, 1), (2, 1), (3, 1), (4, 1), (5, 1)] := by kernel_rfl
@[go_sem] theorem ti23 : tinfo Try.prog 23 = some ⟨.struct [(0, 2), (1, 2), (2, 2), (3, 2), (4, 2), (5, 2)], 6, 48, some [.int .i64 0, .int .i64 0, .int .i64 0, .int .i64 0, .int .i64 0, .int .i64 0]⟩ := by kernel_rfl
@[go_sem high] theorem bl23 : blist Try.prog 23 = some [(0, 1), (1, 1), (2, 1), (3, 1), (4, 1), (5, 1)] := by kernel_rfl
@[go_sem] theorem ti24 : tinfo Try.prog 24 = some ⟨.struct [(0, 2), (1, 2)], 2, 16, some [.int .i64 0, .int .i64 0]⟩ := by kernel_rfl
@[go_sem high] theorem bl24 : blist Try.prog 24 = some [(0, 1), (1, 1)] := by kernel_rfl
@[go_sem] theorem ti25 : tinfo Try.prog 25 = some ⟨.struct [(0, 2), (1, 2)], 2, 16, some [.int .i64 0, .int .i64 0]⟩ := by kernel_rfl
@[go_sem high] theorem bl25 : blist Try.prog 25 = some [(0, 1), (1, 1)] := by kernel_rfl
@[go_sem] theorem ti26 : tinfo Try.prog 26 = some ⟨.int .i64, 1, 8, some [.int .i64 0]⟩ := by kernel_rfl
@[go_sem] theorem ti28 : tinfo Try.prog 28 = some ⟨.func, 1, 8, some [.raw .nilFunc]⟩ := by kernel_rfl
@[go_sem] theorem ti29 : tinfo Try.prog 29 = some ⟨.func, 1, 8, some [.raw .nilFunc]⟩ := by kernel_rfl
@[go_sem] theorem ti30 : tinfo Try.prog 30 = some ⟨.func, 1, 8, some [.raw .nilFunc]⟩ := by kernel_rfl
@[go_sem] theorem ti32 : tinfo Try.prog 32 = some ⟨.func, 1, 8, some [.raw .nilFunc]⟩ := by kernel_rfl
@[go_sem] theorem ti33 : tinfo Try.prog 33 = some ⟨.func, 1, 8, some [.raw .nilFunc]⟩ := by kernel_rfl
@[go_sem] theorem ti34 : tinfo Try.prog 34 = some ⟨.slice 9, 1, 24, some [.raw (.slice none 0 0)]⟩ := by kernel_rfl
@[go_sem] theorem ti35 : tinfo Try.prog 35 = some ⟨.slice 37, 1, 24, some [.raw (.slice none 0 0)]⟩ := by kernel_rfl
@[go_sem] theorem ti36 : tinfo Try.prog 36 = some ⟨.struct [(0, 3), (1, 2), (2, 3), (3, 9), (4, 34), (5, 35)], 6, 88, some [.int .i64 0, .int .i64 0, .int .i64 0, .str [], .raw (.slice none 0 0), .raw (.slice none 0 0)]⟩ := by kernel_rfl
@[go_sem high] theorem bl36 : blist Try.prog 36 = some [(0, 1), (1, 1), (2, 1), (3, 1), (4, 1), (5, 1)] := by kernel_rfl
@[go_sem] theorem ti37 : tinfo Try.prog 37 = some ⟨.struct [(0, 3), (1, 2), (2, 3), (3, 9), (4, 34), (5, 35)], 6, 88, some [.int .i64 0, .int .i64 0, .int .i64 0, .str [], .raw (.slice none 0 0), .raw (.slice none 0 0)]⟩ := by kernel_rfl
@[go_sem high] theorem bl37 : blist Try.prog 37 = some [(0, 1), (1, 1), (2, 1), (3, 1), (4, 1), (5, 1)] := by kernel_rfl
@[go_sem] theorem ti38 : tinfo Try.prog 38 = some ⟨.func, 1, 8, some [.raw .nilFunc]⟩ := by kernel_rfl
@[go_sem] theorem ti39 : tinfo Try.prog 39 = some ⟨.func, 1, 8, some [.raw .nilFunc]⟩ := by kernel_rfl
@[go_sem] theorem ti40 : tinfo Try.prog 40 = some ⟨.slice 44, 1, 24, some [.raw (.slice none 0 0)]⟩ := by kernel_rfl
@[go_sem] theorem ti42 : tinfo Try.prog 42 = some ⟨.func, 1, 8, some [.raw .nilFunc]⟩ := by kernel_rfl
@[go_sem] theorem ti43 : tinfo Try.prog 43 = some ⟨.struct [(0, 3), (1, 3), (2, 3)], 3, 24, some [.int .i64 0, .int .i64 0, .int .i64 0]⟩ := by kernel_rfl
@[go_sem high] theorem bl43 : blist Try.prog 43 = some [(0, 1), (1, 1), (2, 1)] := by kernel_rfl
@[go_sem] theorem ti44 : tinfo Try.prog 44 = some ⟨.struct [(0, 3), (1, 3), (2, 3)], 3, 24, some [.int .i64 0, .int .i64 0, .int .i64 0]⟩ := by kernel_rfl
@[go_sem high] theorem bl44 : blist Try.prog 44 = some [(0, 1), (1, 1), (2, 1)] := by kernel_rfl
@[go_sem] theorem ti46 : tinfo Try.prog 46 = some ⟨.func, 1, 8, some [.raw .nilFunc]⟩ := by kernel_rfl
@[go_sem] theorem ti47 : tinfo Try.prog 47 = some ⟨.slice 5, 1, 24, some [.raw (.slice none 0 0)]⟩ := by kernel_rfl
@[go_sem] theorem ti48 : tinfo Try.prog 48 = some ⟨.func, 1, 8, some [.raw .nilFunc]⟩ := by kernel_rfl
@[go_sem] theorem ti49 : tinfo Try.prog 49 = some ⟨.func, 1, 8, some [.raw .nilFunc]⟩ := by kernel_rfl
@[go_sem] theorem ti50 : tinfo Try.prog 50 = some ⟨.ptr 26, 1, 8, some [.raw (.pointer none)]⟩ := by kernel_rfl
@[go_sem] theorem ti51 : tinfo Try.prog 51 = some ⟨.func, 1, 8, some [.raw .nilFunc]⟩ := by kernel_rfl
@[go_sem] theorem ti52 : tinfo Try.prog 52 = some ⟨.func, 1, 8, some [.raw .nilFunc]⟩ := by kernel_rfl
@[go_sem] theorem ti53 : tinfo Try.prog 53 = some ⟨.func, 1, 8, some [.raw .nilFunc]⟩ := by kernel_rfl
@[go_sem] theorem ti54 : tinfo Try.prog 54 = some ⟨.func, 1, 8, some [.raw .nilFunc]⟩ := by kernel_rfl
@[go_sem] theorem ti55 : tinfo Try.prog 55 = some ⟨.slice 2, 1, 24, some [.raw (.slice none 0 0)]⟩ := by kernel_rfl
@[go_sem] theorem ti56 : tinfo Try.prog 56 = some ⟨.func, 1, 8, some [.raw .nilFunc]⟩ := by kernel_rfl
@[go_sem] theorem ti57 : tinfo Try.prog 57 = some ⟨.ptr 2, 1, 8, some [.raw (.pointer none)]⟩ := by kernel_rfl
@[go_sem] theorem ti58 : tinfo Try.prog 58 = some ⟨.arr 6 57, 6, 48, some [.raw (.pointer none), .raw (.pointer none), .raw (.pointer none), .raw (.pointer none), .raw (.pointer none), .raw (.pointer none)]⟩ := by kernel_rfl
@[go_sem high] theorem bl58 : blist Try.prog 58 = some [(0, 1), (1, 1), (2, 1), (3, 1), (4, 1), (5, 1)] := by kernel_rfl
@[go_sem] theorem ti59 : tinfo Try.prog 59 = some ⟨.func, 1, 8, some [.raw .nilFunc]⟩ := by kernel_rfl
@[go_sem] theorem ti60 : tinfo Try.prog 60 = some ⟨.ptr 23, 1, 8, some [.raw (.pointer none)]⟩ := by kernel_rfl
@[go_sem] theorem ti62 : tinfo Try.prog 62 = some ⟨.func, 1, 8, some [.raw .nilFunc]⟩ := by kernel_rfl
@[go_sem] theorem ti63 : tinfo Try.prog 63 = some ⟨.func, 1, 8, some [.raw .nilFunc]⟩ := by kernel_rfl
@[go_sem] theorem ti64 : tinfo Try.prog 64 = some ⟨.func, 1, 8, some [.raw .nilFunc]⟩ := by kernel_rfl
@[go_sem] theorem ti65 : tinfo Try.prog 65 = some ⟨.func, 1, 8, some [.raw .nilFunc]⟩ := by kernel_rfl
@[go_sem] theorem ti66 : tinfo Try.prog 66 = some ⟨.func, 1, 8, some [.raw .nilFunc]⟩ := by kernel_rfl
@[go_sem] theorem ti67 : tinfo Try.prog 67 = some ⟨.ptr 95, 1, 8, some [.raw (.pointer none)]⟩ := by kernel_rfl
@[go_sem] theorem ti68 : tinfo Try.prog 68 = some ⟨.func, 1, 8, some [.raw .nilFunc]⟩ := by kernel_rfl
@[go_sem] theorem ti69 : tinfo Try.prog 69 = some ⟨.struct [(0, 67)], 1, 8, some [.raw (.pointer none)]⟩ := by kernel_rfl
@[go_sem high] theorem bl69 : blist Try.prog 69 = some [(0, 1)] := by kernel_rfl
@[go_sem] theorem ti70 : tinfo Try.prog 70 = some ⟨.struct [(0, 67)], 1, 8, some [.raw (.pointer none)]⟩ := by kernel_rfl
@[go_sem high] theorem bl70 : blist Try.prog 70 = some [(0, 1)] := by kernel_rfl
@[go_sem] theorem ti71 : tinfo Try.prog 71 = some ⟨.func, 1, 8, some [.raw .nilFunc]⟩ := by kernel_rfl
@[go_sem] theorem ti73 : tinfo Try.prog 73 = some ⟨.func, 1, 8, some [.raw .nilFunc]⟩ := by kernel_rfl
@[go_sem] theorem ti74 : tinfo Try.prog 74 = some ⟨.ptr 3, 1, 8, some [.raw (.pointer none)]⟩ := by kernel_rfl
@[go_sem] theorem ti75 : tinfo Try.prog 75 = some ⟨.func, 1, 8, some [.raw .nilFunc]⟩ := by kernel_rfl
@[go_sem] theorem ti76 : tinfo Try.prog 76 = some ⟨.ptr 44, 1, 8, some [.raw (.pointer none)]⟩ := by kernel_rfl
@[go_sem] theorem ti77 : tinfo Try.prog 77 = some ⟨.func, 1, 8, some [.raw .nilFunc]⟩ := by kernel_rfl
@[go_sem] theorem ti78 : tinfo Try.prog 78 = some ⟨.struct [], 0, 0, some []⟩ := by kernel_rfl
@[go_sem high] theorem bl78 : blist Try.prog 78 = some [] := by kernel_rfl
@[go_sem] theorem ti79 : tinfo Try.prog 79 = some ⟨.struct [], 0, 0, some []⟩ := by kernel_rfl
@[go_sem high] theorem bl79 : blist Try.prog 79 = some [] := by kernel_rfl
@[go_sem] theorem ti80 : tinfo Try.prog 80 = some ⟨.ptr 100, 1, 8, some [.raw (.pointer none)]⟩ := by kernel_rfl
@[go_sem] theorem ti81 : tinfo Try.prog 81 = some ⟨.func, 1, 8, some [.raw .nilFunc]⟩ := by kernel_rfl
@[go_sem] theorem ti82 : tinfo Try.prog 82 = some ⟨.struct [(0, 80)], 1, 8, some [.raw (.pointer none)]⟩ := by kernel_rfl
@[go_sem high] theorem bl82 : blist Try.prog 82 = some [(0, 1)] := by kernel_rfl
@[go_sem] theorem ti83 : tinfo Try.prog 83 = some ⟨.struct [(0, 80)], 1, 8, some [.raw (.pointer none)]⟩ := by kernel_rfl
@[go_sem high] theorem bl83 : blist Try.prog 83 = some [(0, 1)] := by kernel_rfl
@[go_sem] theorem ti84 : tinfo Try.prog 84 = some ⟨.func, 1, 8, some [.raw .nilFunc]⟩ := by kernel_rfl
@[go_sem] theorem ti85 : tinfo Try.prog 85 = some ⟨.struct [(0, 26)], 1, 8, some [.int .i64 0]⟩ := by kernel_rfl
@[go_sem high] theorem bl85 : blist Try.prog 85 = some [(0, 1)] := by kernel_rfl
@[go_sem] theorem ti86 : tinfo Try.prog 86 = some ⟨.struct [(0, 26)], 1, 8, some [.int .i64 0]⟩ := by kernel_rfl
@[go_sem high] theorem bl86 : blist Try.prog 86 = some [(0, 1)] := by kernel_rfl
@[go_sem] theorem ti88 : tinfo Try.prog 88 = some ⟨.func, 1, 8, some [.raw .nilFunc]⟩ := by kernel_rfl
@[go_sem] theorem ti89 : tinfo Try.prog 89 = some ⟨.func, 1, 8, some [.raw .nilFunc]⟩ := by kernel_rfl
@[go_sem] theorem ti90 : tinfo Try.prog 90 = some ⟨.func, 1, 8, some [.raw .nilFunc]⟩ := by kernel_rfl
@[go_sem] theorem ti91 : tinfo Try.prog 91 = some ⟨.func, 1, 8, some [.raw .nilFunc]⟩ := by kernel_rfl
@[go_sem] theorem ti92 : tinfo Try.prog 92 = some ⟨.struct [(0, 3), (1, 3)], 2, 16, some [.int .i64 0, .int .i64 0]⟩ := by kernel_rfl
@[go_sem high] theorem bl92 : blist Try.prog 92 = some [(0, 1), (1, 1)] := by kernel_rfl
@[go_sem] theorem ti93 : tinfo Try.prog 93 = some ⟨.struct [(0, 3), (1, 3)], 2, 16, some [.int .i64 0, .int .i64 0]⟩ := by kernel_rfl
@[go_sem high] theorem bl93 : blist Try.prog 93 = some [(0, 1), (1, 1)] := by kernel_rfl
@[go_sem] theorem ti94 : tinfo Try.prog 94 = some ⟨.struct [(0, 93), (2, 47)], 3, 40, some [.int .i64 0, .int .i64 0, .raw (.slice none 0 0)]⟩ := by kernel_rfl
@[go_sem high] theorem bl94 : blist Try.prog 94 = some [(0, 2), (2, 1)] := by kernel_rfl
@[go_sem] theorem ti95 : tinfo Try.prog 95 = some ⟨.struct [(0, 93), (2, 47)], 3, 40, some [.int .i64 0, .int .i64 0, .raw (.slice none 0 0)]⟩ := by kernel_rfl
@[go_sem high] theorem bl95 : blist Try.prog 95 = some [(0, 2), (2, 1)] := by kernel_rfl
@[go_sem] theorem ti96 : tinfo Try.prog 96 = some ⟨.int .u64, 1, 8, some [.int .u64 0]⟩ := by kernel_rfl
@[go_sem] theorem ti97 : tinfo Try.prog 97 = some ⟨.func, 1, 8, some [.raw .nilFunc]⟩ := by kernel_rfl
@[go_sem] theorem ti98 : tinfo Try.prog 98 = some ⟨.func, 1, 8, some [.raw .nilFunc]⟩ := by kernel_rfl
@[go_sem] theorem ti99 : tinfo Try.prog 99 = some ⟨.struct [(0, 93), (2, 9), (3, 3)], 4, 40, some [.int .i64 0, .int .i64 0, .str [], .int .i64 0]⟩ := by kernel_rfl
@[go_sem high] theorem bl99 : blist Try.prog 99 = some [(0, 2), (2, 1), (3, 1)] := by kernel_rfl
@[go_sem] theorem ti100 : tinfo Try.prog 100 = some ⟨.struct [(0, 93), (2, 9), (3, 3)], 4, 40, some [.int .i64 0, .int .i64 0, .str [], .int .i64 0]⟩ := by kernel_rfl
@[go_sem high] theorem bl100 : blist Try.prog 100 = some [(0, 2), (2, 1), (3, 1)] := by kernel_rfl
@[go_sem] theorem ti101 : tinfo Try.prog 101 = some ⟨.func, 1, 8, some [.raw .nilFunc]⟩ := by kernel_rfl
@[go_sem] theorem ti102 : tinfo Try.prog 102 = some ⟨.arr 3 3, 3, 24, some [.int .i64 0, .int .i64 0, .int .i64 0]⟩ := by kernel_rfl
@[go_sem high] theorem bl102 : blist Try.prog 102 = some [(0, 1), (1, 1), (2, 1)] := by kernel_rfl
@[go_sem] theorem ti103 : tinfo Try.prog 103 = some ⟨.func, 1, 8, some [.raw .nilFunc]⟩ := by kernel_rfl
@[go_sem] theorem ti104 : tinfo Try.prog 104 = some ⟨.func, 1, 8, some [.raw .nilFunc]⟩ := by kernel_rfl
@[go_sem] theorem ti105 : tinfo Try.prog 105 = some ⟨.func, 1, 8, some [.raw .nilFunc]⟩ := by kernel_rfl
@[go_sem] theorem ti106 : tinfo Try.prog 106 = some ⟨.func, 1, 8, some [.raw .nilFunc]⟩ := by kernel_rfl
@[go_sem] theorem ti107 : tinfo Try.prog 107 = some ⟨.func, 1, 8, some [.raw .nilFunc]⟩ := by kernel_rfl
@[go_sem] theorem ti108 : tinfo Try.prog 108 = some ⟨.func, 1, 8, some [.raw .nilFunc]⟩ := by kernel_rfl
@[go_sem] theorem ti109 : tinfo Try.prog 109 = some ⟨.func, 1, 8, some [.raw .nilFunc]⟩ := by kernel_rfl
@[go_sem] theorem ti111 : tinfo Try.prog 111 = some ⟨.func, 1, 8, some [.raw .nilFunc]⟩ := by kernel_rfl
@[go_sem] theorem ti112 : tinfo Try.prog 112 = some ⟨.int .i64, 1, 8, some [.int .i64 0]⟩ := by kernel_rfl
@[go_sem] theorem ti113 : tinfo Try.prog 113 = some ⟨.func, 1, 8, some [.raw .nilFunc]⟩ := by kernel_rfl
@[go_sem] theorem ti114 : tinfo Try.prog 114 = some ⟨.func, 1, 8, some [.raw .nilFunc]⟩ := by kernel_rfl
@[go_sem] theorem ti115 : tinfo Try.prog 115 = some ⟨.func, 1, 8, some [.raw .nilFunc]⟩ := by kernel_rfl
@[go_sem] theorem ti116 : tinfo Try.prog 116 = some ⟨.int .u32, 1, 4, some [.int .u32 0]⟩ := by kernel_rfl
@[go_sem] theorem ti117 : tinfo Try.prog 117 = some ⟨.func, 1, 8, some [.raw .nilFunc]⟩ := by kernel_rfl
@[go_sem] theorem ti118 : tinfo Try.prog 118 = some ⟨.int .u64, 1, 8, some [.int .u64 0]⟩ := by kernel_rfl
@[go_sem] theorem ti119 : tinfo Try.prog 119 = some ⟨.func, 1, 8, some [.raw .nilFunc]⟩ := by kernel_rfl
@[go_sem] theorem ti120 : tinfo Try.prog 120 = some ⟨.ptr 93, 1, 8, some [.raw (.pointer none)]⟩ := by kernel_rfl
@[go_sem] theorem ti121 : tinfo Try.prog 121 = some ⟨.func, 1, 8, some [.raw .nilFunc]⟩ := by kernel_rfl
@[go_sem] theorem ti130 : tinfo Try.prog 130 = some ⟨.ptr 5, 1, 8, some [.raw (.pointer none)]⟩ := by kernel_rfl
end Go.Proofs
