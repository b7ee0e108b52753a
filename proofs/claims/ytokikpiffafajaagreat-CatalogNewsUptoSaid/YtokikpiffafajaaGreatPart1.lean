/- A part of the proof of a law of the seat: no condition of its own. -/
import Derived.Test.YtokikpiffafajaaGreatCore24
import Derived.ProofKit
import Derived.Below
import Derived.ChangeSame
import Derived.HandedShaped
import Derived.OpenShut
namespace Aw
open Go Go.RowKit Go.WideShapes Go.ChangeShapes

theorem FnP.below {P : Program} {gl : List (Nat × AV)} {f : FuncId} {xs : List AV} (h : FnP P gl f xs fun r => r = .ret (.bool true)) {m : Mem} {vs : List Value} {W : World} (hw : m.w = W)
    (hm : Start m gl) (hP : m.Pr = fun b => b < W.heap.size) (hv : RepL m 1 xs vs) : Calls P f vs.toArray W fun e W' => e = .returned (.bool true) ∧ Below W.heap.size W W' := by
  subst hw
  refine (h.calls m vs hm hv).mono ?_
  rintro e w' ⟨m', r, rfl, hle, _, hend, rfl⟩
  obtain ⟨v, rfl, hv⟩ := hend
  simp only [Rep] at hv
  subst hv
  exact ⟨rfl, hle.os, hle.tape, hle.output, hle.size, fun b hb => hle.block b (by rw [hP]; exact hb)⟩

section
variable {H : Type} {enc : TypeId × Value → H} {P : Program}
theorem trodAll_stays (hl : laidOutB P = true) {W W' : World} {sp' : Nat → Bool} : ∀ {ts : List TypeId} {vs : List Value} {ds : List (DataW H)} {ps : List MemPlace},
    ts.all (fun t => P.readableRec t && decide (t < P.types.size)) = true → DataW.TrodAll enc P W 0 (fun _ => true) true ts vs ds ps → (∀ p ∈ ps, W.sameAt W' p) → (∀ p ∈ ps, sp' p.block = true) →
    DataW.TrodAll enc P W' 0 sp' true ts vs ds ps
  | [], vs, ds, ps, _, h, _, _ => by
    obtain ⟨rfl, rfl, rfl⟩ := trodAll_nil h
    exact trodAll_mk0
  | t :: ts, vs, ds, ps, hr, h, h1, h2 => by
    obtain ⟨v, vs, d, ds, p, q, rfl, rfl, rfl, hv, hr'⟩ := trodAll_cons h
    simp only [List.all_cons, Bool.and_eq_true, decide_eq_true_eq] at hr
    exact trodAll_cons_mk (WideElems.Trod_stays hl hr.1.1 hr.1.2 hv (fun x hx => h1 x (by simp [hx])) (fun x hx => h2 x (by simp [hx])))
      (trodAll_stays hl (by simpa using hr.2) hr' (fun x hx => h1 x (by simp [hx])) (fun x hx => h2 x (by simp [hx])))

theorem law_post {f : Func} {s : ChangeSpec} {fresh handsOn again : Bool} {W W' : World} {args : Array Value} {ds gs : List (DataW H)} {before : List MemPlace} {tb : TypeId} (hl : laidOutB P = true)
    (hrt : f.resultTypes = #[tb]) (htb : P.underlying tb = some .bool) (hps : f.params.toList.all (fun t => P.readableRec t && decide (t < P.types.size)) = true) (hvar : s.vars = [])
    (hs : s.fn H (ds ++ gs) = { results := [.lit (.bool true)], args := ds }) (hW : DataW.Whole enc P f.params.toList s.vars false W args.toList ds gs before) (hb : Below W.heap.size W W') :
    s.post enc P f false fresh handsOn again W args (.bool true) W' := by
  have hlt : ∀ p ∈ before, p.block < W.heap.size := fun p hp => hW.lt p hp
  have hold : ∀ p ∈ before, (fun b => decide (b < W.heap.size)) p.block = true := fun p hp => by simpa using hlt p hp
  have hres : ∀ (b : Nat) (sp : Nat → Bool) (hd : Bool), DataW.TrodAll enc P W' b sp hd f.resultTypes.toList ((Value.bool true).resultList f.resultTypes.size) (s.fn H (ds ++ gs)).results [] := by
    intro b sp hd
    rw [hrt, hs]
    exact trodAll_mk1 ⟨1, by simp [DataW.trod, Value.cells, htb]⟩
  obtain ⟨p, q, hA, hV, e, hz, hn⟩ := hW
  rw [hvar] at hV
  obtain ⟨rfl, rfl⟩ := trodVars_none hV
  rw [List.append_nil] at e
  subst e
  have hargs : ∀ sp : Nat → Bool, (∀ x ∈ before, sp x.block = true) → DataW.TrodAll enc P W' 0 sp true f.params.toList args.toList (s.fn H (ds ++ [])).args before := by
    intro sp hsp
    rw [hs]
    exact trodAll_stays hl hps hA (fun x hx => hb.same (hlt x hx)) hsp
  have hvars : ∀ sp : Nat → Bool, DataW.TrodVars enc P W' sp s.vars (s.fn H (ds ++ [])).vars [] := by
    intro sp
    rw [hs, hvar]
    rfl
  have hW0 : DataW.Whole enc P f.params.toList s.vars false W args.toList ds [] before := ⟨before, [], hA, by rw [hvar]; rfl, by simp, hz, hn⟩
  refine ⟨ds, [], before, [], before, [], hW0, hres _ _ _, hargs _ hold, hvars _, World.keptBut_mono (fun p hp => ⟨hp, Or.inr (Or.inl hp)⟩) (hb.frame (· ∈ before)), fun _ => ?_⟩
  refine ⟨?_, _, _, ([] ++ before) ++ [], ⟨[] ++ before, [], trodAll_append (hargs _ (fun _ _ => rfl)) (hres _ _ _), hvars _, rfl, ?_, ?_⟩, ?_⟩
  · exact ok_one hrt rfl (okWide_bool_mk htb _)
  · intro b off hp
    have hin : MemPlace.cell b off ∈ before := by simpa using hp
    rw [hb.frozen (hlt _ hin)]
    exact hz b off hin
  · intro ha
    cases ha
  · intro p hp _
    simpa using hp
end
/-- the memory in which a law begins that leans on no variable -/
def gm0 (W : World) : Mem := { w := W, F := fun _ _ => False, Pr := fun b => b < W.heap.size, ρ := fun _ => none, np := 0 }
theorem gstart0 (W : World) : Aw.Start (gm0 W) [] := ⟨fun _ _ h => h.elim, fun _ hb => hb, fun g x hg => by simp [Aw.get] at hg, rfl, fun _ => rfl⟩
/-- the memory in which a law begins that reads one variable, a number -/
def gm1 (W : World) (g : Nat) : Mem := { w := W, F := fun b o => b = g ∧ o = 0, Pr := fun b => b < W.heap.size, ρ := fun _ => none, np := 0 }
theorem gstart1 {W : World} {g : Nat} {n : Int} (h : W.cell? ⟨g, 0, none⟩ = some (.int .i64 n)) : Aw.Start (gm1 W g) [(g, .cptr [.int .i64 n])] := by
  have h0 : g < W.heap.size := by
    rcases Nat.lt_or_ge g W.heap.size with hlt | hge
    · exact hlt
    · have : W.heap[g]? = none := by rw [Array.getElem?_eq_none]; exact hge
      simp [World.cell?, this] at h
  refine ⟨fun b o hb => by obtain ⟨rfl, _⟩ := hb; exact h0, fun _ hb => hb, ?_, rfl, fun _ => rfl⟩
  intro g' x hg
  simp only [Aw.get] at hg
  split at hg
  · rename_i e
    injection hg with hg
    subst hg e
    simp only [Rep, RepC]
    exact ⟨g, 0, rfl, ⟨rfl, rfl⟩, ⟨_, h, rfl⟩, trivial⟩
  · cases hg
theorem rep_str {m : Mem} {k : Nat} (s : ByteArray) : Rep m k (.str s.data.toList) (.string s) := by simp only [Rep]
theorem rep_int {m : Mem} {k : Nat} {ki : IntKind} (n : Int) : Rep m k (.int ki n) (.int ki n) := by simp only [Rep]
theorem rep_bool {m : Mem} {k : Nat} (b : Bool) : Rep m k (.bool b) (.bool b) := by simp only [Rep]
theorem repl_nil {m : Mem} {k : Nat} : RepL m k [] [] := by simp only [RepL]
theorem repl_cons {m : Mem} {k : Nat} {x : AV} {v : Value} {xs : List AV} {vs : List Value} (h : Rep m k x v) (hs : RepL m k xs vs) : RepL m k (x :: xs) (v :: vs) := by
  simp only [RepL]
  exact ⟨v, vs, rfl, h, hs⟩
theorem wf_i64 {n : Int} (h : (Lit.int .i64 n).wf = true) : -9223372036854775808 ≤ n ∧ n ≤ 9223372036854775807 := by
  simpa [Lit.wf, IntKind.min, IntKind.max, IntKind.bits, IntKind.signed] using h
theorem wf_u8 {n : Int} (h : (Lit.int .u8 n).wf = true) : 0 ≤ n ∧ n ≤ 255 := by
  simpa [Lit.wf, IntKind.min, IntKind.max, IntKind.bits, IntKind.signed] using h
end Aw

namespace Aw
open Go Go.RowKit Go.WideShapes Go.ChangeShapes
mutual
def dbulk {H : Type} : DataW H → Nat
  | .lit (.string bytes) => bytes.length + 1
  | .lit _ => 1
  | .nil => 1
  | .ptr d => dbulk d + 1
  | .slice elems spare => dbulks elems + dbulks spare + 1
  | .agg parts => dbulks parts + 1
  | .iface _ d => dbulk d + 1
  | .map _ => 1
  | .held _ => 1
def dbulks {H : Type} : List (DataW H) → Nat
  | [] => 0
  | d :: r => dbulk d + dbulks r
end
theorem dbulk_pos {H : Type} (d : DataW H) : 1 ≤ dbulk d := by
  cases d with
  | lit l => cases l <;> simp [dbulk]
  | _ => simp [dbulk]
/-- the memory in which a law begins: all that is there may be read and stays -/
def gmA (W : World) : Mem := { w := W, F := fun b _ => b < W.heap.size, Pr := fun b => b < W.heap.size, ρ := fun _ => none, np := 0 }
theorem gstartA0 (W : World) : Aw.Start (gmA W) [] := ⟨fun _ _ h => h, fun _ hb => hb, fun g x hg => by simp [Aw.get] at hg, rfl, fun _ => rfl⟩
theorem cell_lt {W : World} {a : Addr} {v : Value} (h : W.cell? a = some v) : a.block < W.heap.size := by
  rcases Nat.lt_or_ge a.block W.heap.size with hlt | hge
  · exact hlt
  · have : W.heap[a.block]? = none := by rw [Array.getElem?_eq_none]; exact hge
    simp [World.cell?, this] at h
theorem cell_spot {W : World} {a : Addr} {v : Value} (h : W.cell? a = some v) : a = ⟨a.block, a.off, none⟩ := by
  obtain ⟨b, o, s⟩ := a
  cases s with
  | none => rfl
  | some s =>
    simp only [World.cell?, Option.isSome_some, if_true] at h
    split at h <;> cases h
theorem addr_add_ok {W : World} {a : Addr} {n : Nat} {v : Value} (h : W.cell? (a.add n) = some v) : a.add n = ⟨a.block, a.off + n, none⟩ := by
  unfold Addr.add at *
  split
  · rename_i e
    subst e
    rw [if_pos rfl] at h
    exact cell_spot h
  · rfl
theorem RepC.of_cells {W : World} {b : Nat} : ∀ {xs : List AV} {l : List Value} {o : Nat}, RepL (gmA W) 2 xs l → (∀ j, j < l.length → W.cell? ⟨b, o + j, none⟩ = l[j]?) → RepC (gmA W) xs b o
  | [], _, _, _, _ => by simp only [RepC]
  | x :: xs, l, o, h, hc => by
    simp only [RepL] at h
    obtain ⟨v, rest, rfl, hv, hr⟩ := h
    have h0 := hc 0 (by simp)
    simp only [Nat.add_zero, List.getElem?_cons_zero] at h0
    simp only [RepC]
    refine ⟨cell_lt h0, ⟨v, h0, hv⟩, RepC.of_cells hr fun j hj => ?_⟩
    have := hc (j + 1) (by simpa using hj)
    rw [show o + 1 + j = o + (j + 1) from by omega, this]
    rfl
section
variable {H : Type} (enc : TypeId × Value → H) (P : Program) (W : World)
/-- whatever is read at type 't' (within so much fuel) is an 'a' -/
def Opn {α : Type} (N : Nat) (t : TypeId) (cells : α → List AV) (size : α → Nat) (wf : α → Prop) : Prop :=
  ∀ (fuel : Nat) (cs : List Value) (x : DataW H × List MemPlace), fuel ≤ N → DataW.trod enc P W 0 (fun _ => true) true fuel t cs = some x → ∃ a : α, RepL (gmA W) 2 (cells a) cs ∧ size a ≤ dbulk x.1 ∧ wf a
def OpnF {α : Type} (N : Nat) (fs : List (Nat × TypeId)) (o e : Nat) (cells : α → List AV) (size : α → Nat) (wf : α → Prop) : Prop :=
  ∀ (fuel : Nat) (cs : List Value) (xs : List (DataW H × List MemPlace)), fuel ≤ N → xs.length = fs.length → cs.length = e →
    (∀ (i : Nat) (f : Nat × TypeId), fs[i]? = some f → DataW.trod enc P W 0 (fun _ => true) true fuel f.2 ((cs.drop f.1).take (P.cellsOf f.2)) = xs[i]?) → ∃ a : α, RepL (gmA W) 2 (cells a) (cs.drop o) ∧ size a ≤ dbulks (xs.map (·.1)) ∧ wf a
end
section
variable {H : Type} {enc : TypeId × Value → H} {P : Program} {W : World} {N : Nat} {t e : TypeId}
theorem Opn.mono {α : Type} {cells : α → List AV} {size : α → Nat} {wf : α → Prop} {N' : Nat} (h : Opn enc P W N t cells size wf) (hN : N' ≤ N) : Opn enc P W N' t cells size wf :=
  fun fuel cs x hf hx => h fuel cs x (by omega) hx
theorem Opn.as {α β : Type} {cells : α → List AV} {size : α → Nat} {wf : α → Prop} (f : α → β) {cells' : β → List AV} {size' : β → Nat} {wf' : β → Prop} (h : Opn enc P W N t cells size wf)
    (hc : ∀ a, cells' (f a) = cells a) (hs : ∀ a, size' (f a) ≤ size a) (hw : ∀ a, wf a → wf' (f a)) : Opn enc P W N t cells' size' wf' := by
  intro fuel cs x hf hx
  obtain ⟨a, h1, h2, h3⟩ := h fuel cs x hf hx
  exact ⟨f a, by rw [hc]; exact h1, Nat.le_trans (hs a) h2, hw a h3⟩
theorem Opn.int {k : IntKind} (ht : P.underlying t = some (.int k)) : Opn enc P W N t (fun n : Int => [.int k n]) (fun _ => 1) (fun n => (Lit.int k n).wf = true) := by
  intro fuel cs x _ hx
  obtain ⟨n, rfl, rfl, hw⟩ := DataW.trod_int ht hx
  exact ⟨n, repl_cons (rep_int n) repl_nil, by simp [dbulk], hw⟩
theorem Opn.bool (ht : P.underlying t = some .bool) : Opn enc P W N t (fun b : Bool => [.bool b]) (fun _ => 1) (fun _ => True) := by
  intro fuel cs x _ hx
  obtain ⟨n, rfl, rfl⟩ := DataW.trod_bool ht hx
  exact ⟨n, repl_cons (rep_bool n) repl_nil, by simp [dbulk], trivial⟩
theorem Opn.str (ht : P.underlying t = some .string) : Opn enc P W N t (fun s : List UInt8 => [.str s]) (fun s => s.length + 1) (fun _ => True) := by
  intro fuel cs x _ hx
  obtain ⟨s, rfl, rfl, _⟩ := DataW.trod_string ht hx
  exact ⟨s.data.toList, repl_cons (rep_str s) repl_nil, by simp [dbulk], trivial⟩
theorem cells_of {a : Addr} {n : Nat} {l : List Value} (h : W.cells? 0 a n = some l) : l.length = n ∧ ∀ j, j < n → W.cell? (a.add j) = l[j]? := by
  simp only [World.cells?, Nat.zero_le, if_true] at h
  exact ⟨by simpa using mapM_some_length h, fun j hj => mapM_some_get h j j (by simp [hj])⟩
theorem Opn.slice {α : Type} {cells : α → List AV} {size : α → Nat} {wf : α → Prop} (ht : P.underlying t = some (.slice e)) (hc : 0 < P.cellsOf e) (he : Opn enc P W N e cells size wf) :
    Opn enc P W (N + 1) t (fun l : List α => [.sl (l.map cells)]) (fun l => (l.map size).sum + 1) (fun l => ∀ a ∈ l, wf a) := by
  intro fuel cs x hf hx
  rcases DataW.trod_slice ht hx with ⟨rfl, rfl⟩ | ⟨a, len, cap, elems, rest, n, rfl, rfl, rfl, _, hle, _, hlen, hel, _, _⟩
  · exact ⟨[], repl_cons (by simp only [Rep, List.map_nil]; exact .inl ⟨trivial, _, _, rfl⟩) repl_nil, by simp [dbulk], by simp⟩
  · have key : ∀ (es : List (DataW H × List MemPlace)) (o : Nat), (∀ i, i < es.length → (W.cells? 0 (a.add ((o + i) * P.cellsOf e)) (P.cellsOf e)).bind (DataW.trod enc P W 0 (fun _ => true) true n e) = es[i]?) →
        ∃ l : List α, l.length = es.length ∧ RepE (gmA W) (l.map cells) a.block (a.off + o * P.cellsOf e) (P.cellsOf e) ∧ (l.map size).sum ≤ dbulks (es.map (·.1)) ∧ ∀ b ∈ l, wf b := by
      intro es
      induction es with
      | nil => intro o _; exact ⟨[], rfl, by simp only [List.map_nil, RepE], by simp, by simp⟩
      | cons y es ih =>
        intro o hy
        obtain ⟨l, hl, hr, hs, hw⟩ := ih (o + 1) (fun i hi => by
          have := hy (i + 1) (by simpa using hi)
          rw [show o + 1 + i = o + (i + 1) from by omega, this]; rfl)
        have h0 := hy 0 (by simp)
        simp only [Nat.add_zero, List.getElem?_cons_zero, Option.bind_eq_some_iff] at h0
        obtain ⟨vs, hv, hy0⟩ := h0
        obtain ⟨b, hb1, hb2, hb3⟩ := he n vs y (by omega) hy0
        obtain ⟨hvl, hvc⟩ := cells_of hv
        have hbl := RepL.length hb1
        refine ⟨b :: l, by simp [hl], ?_, ?_, ?_⟩
        · simp only [List.map_cons, RepE]
          have h1 : ∀ j, j < P.cellsOf e → W.cell? ⟨a.block, a.off + o * P.cellsOf e + j, none⟩ = vs[j]? := by
            intro j hj
            have h2 := hvc j hj
            rw [← h2]
            have hj' : j < vs.length := by omega
            rw [List.getElem?_eq_getElem hj'] at h2
            have h3 : W.cell? (a.add (o * P.cellsOf e)) = vs[0]? := by
              have := hvc 0 hc
              simpa [Addr.add] using this
            rw [List.getElem?_eq_getElem (by omega)] at h3
            have h4 := addr_add_ok h3
            have h5 := addr_add_ok h2
            rw [h5, h4]
          refine ⟨by omega, RepC.of_cells hb1 (fun j hj => h1 j (by omega)), ?_⟩
          have : a.off + (o + 1) * P.cellsOf e = a.off + o * P.cellsOf e + P.cellsOf e := by rw [Nat.succ_mul]; omega
          rw [← this]
          exact hr
        · simp only [List.map_cons, List.sum_cons, dbulks]
          omega
        · intro c hcm
          rcases List.mem_cons.1 hcm with rfl | hcm
          · exact hb3
          · exact hw c hcm
    obtain ⟨l, hl, hr, hs, hw⟩ := key elems 0 (fun i hi => by rw [Nat.zero_add]; exact hel i (by omega))
    refine ⟨l, repl_cons ?_ repl_nil, ?_, hw⟩
    · simp only [Rep]
      by_cases h0 : len = 0
      · left
        have : l = [] := List.length_eq_zero_iff.1 (by omega)
        subst this
        exact ⟨rfl, a, cap, by rw [h0]⟩
      · right
        have h1 := hel 0 (by omega)
        rw [List.getElem?_eq_getElem (by omega)] at h1
        simp only [Nat.zero_mul, Option.bind_eq_some_iff] at h1
        obtain ⟨vs, hv, _⟩ := h1
        obtain ⟨hvl, hvc⟩ := cells_of hv
        have h2 := hvc 0 hc
        rw [List.getElem?_eq_getElem (by omega)] at h2
        have h3 : a.add 0 = a := by simp [Addr.add]
        simp only [h3] at h2
        have h4 := cell_spot h2
        refine ⟨a.block, a.off, cap, P.cellsOf e, ?_, by simp only [List.length_map]; omega, ?_⟩
        · rw [← h4]; simp only [List.length_map]; rw [hl, hlen]
        · simpa using hr
    · simp only [dbulk]
      omega
theorem OpnF.nil {o : Nat} : OpnF enc P W N [] o o (fun _ : Unit => []) (fun _ => 0) (fun _ => True) := by
  intro fuel cs xs _ _ hl _
  exact ⟨(), by rw [List.drop_eq_nil_of_le (by omega)]; exact repl_nil, Nat.zero_le _, trivial⟩
theorem OpnF.cons {α β : Type} {ca : α → List AV} {sa : α → Nat} {wa : α → Prop} {cb : β → List AV} {sb : β → Nat} {wb : β → Prop} {o c z : Nat} {fs : List (Nat × TypeId)} (h : Opn enc P W N t ca sa wa) (hc : P.cellsOf t = c) (hr : OpnF enc P W N fs (o + c) z cb sb wb) :
    OpnF enc P W N ((o, t) :: fs) o z (fun p : α × β => ca p.1 ++ cb p.2) (fun p => sa p.1 + sb p.2) (fun p => wa p.1 ∧ wb p.2) := by
  intro fuel cs xs hf hl hcl hx
  cases xs with
  | nil => simp at hl
  | cons x xs =>
    have h0 := hx 0 (o, t) rfl
    simp only [List.getElem?_cons_zero] at h0
    obtain ⟨a, a1, a2, a3⟩ := h fuel _ x hf h0
    obtain ⟨b, b1, b2, b3⟩ := hr fuel cs xs hf (by simpa using hl) hcl (fun i f hi => by simpa using hx (i + 1) f (by simpa using hi))
    refine ⟨(a, b), ?_, by simp only [List.map_cons, dbulks]; omega, a3, b3⟩
    have := RepL.append a1 b1
    rw [hc] at this
    have e : (cs.drop o).take c ++ cs.drop (o + c) = cs.drop o := by rw [← List.drop_drop, List.take_append_drop]
    rwa [e] at this
theorem Opn.struct {α : Type} {fs : Array Field} {l : List (Nat × TypeId)} {z : Nat} {cells : α → List AV} {size : α → Nat} {wf : α → Prop} (ht : P.underlying t = some (.struct fs)) (hl : fs.toList.map (fun f => (f.offset, f.type)) = l) (hz : P.cellsOf t = z) (h : OpnF enc P W N l 0 z cells size wf) :
    Opn enc P W (N + 1) t cells (fun a => size a + 1) wf := by
  intro fuel cs x hf hx
  obtain ⟨xs, n, rfl, rfl, hcl, hxl, hxs⟩ := DataW.trod_struct ht hx
  obtain ⟨a, a1, a2, a3⟩ := h n cs xs (by omega) (by rw [hxl, ← hl]; simp) (by omega) (fun i f hi => by
    rw [← hl, List.getElem?_map, Option.map_eq_some_iff] at hi
    obtain ⟨g, hg, rfl⟩ := hi
    exact hxs i g (by simpa using hg))
  refine ⟨a, by simpa using a1, ?_, a3⟩
  simp only [dbulk]
  omega
theorem Opn.zero {α : Type} {cells : α → List AV} {size : α → Nat} {wf : α → Prop} : Opn enc P W 0 t cells size wf := by
  intro fuel cs x hf hx
  obtain rfl : fuel = 0 := by omega
  simp [DataW.trod] at hx
end
/-! objects -/
mutual
/-- how much an object holds, its letters counted -/
def Pob.tot : Pob → Nat
  | .mk _ _ _ s ks l => s.length + (ks.map fun k => k.length + 1).sum + tots l + 7
def tots : List Pob → Nat
  | [] => 0
  | o :: l => o.tot + tots l
end
def inI64 (n : Int) : Prop := -9223372036854775808 ≤ n ∧ n ≤ 9223372036854775807
mutual
def Pob.wf : Pob → Prop
  | .mk k n g _ _ l => inI64 k ∧ inI64 n ∧ inI64 g ∧ wfs l
def wfs : List Pob → Prop
  | [] => True
  | o :: l => o.wf ∧ wfs l
end
theorem tots_map (l : List Pob) : (l.map Pob.tot).sum = tots l := by
  induction l with
  | nil => simp [tots]
  | cons o l ih => simp only [List.map_cons, List.sum_cons, tots, ih]
theorem wfs_of {l : List Pob} (h : ∀ o ∈ l, o.wf) : wfs l := by
  induction l with
  | nil => simp only [wfs]
  | cons o l ih => simp only [wfs]; exact ⟨h o (by simp), ih fun x hx => h x (by simp [hx])⟩
theorem wfs_get {l : List Pob} (h : wfs l) {i : Nat} (hi : i < l.length) : (l.getD i Pob.null).wf := by
  induction l generalizing i with
  | nil => simp at hi
  | cons o l ih =>
    simp only [wfs] at h
    cases i with
    | zero => simpa using h.1
    | succ i => simpa using ih h.2 (by simpa using hi)
theorem Pob.wf_eq (o : Pob) : o.wf = (inI64 o.kind ∧ inI64 o.num ∧ inI64 o.gen ∧ wfs o.kids) := by cases o; simp only [Pob.wf, Pob.kind, Pob.num, Pob.gen, Pob.kids]
theorem keys_sum (ks : List (List UInt8)) : ks.length ≤ (ks.map fun k => k.length + 1).sum := by
  induction ks with
  | nil => simp
  | cons k ks ih => simp only [List.map_cons, List.sum_cons, List.length_cons]; omega
mutual
theorem Pob.bulk_tot : ∀ o : Pob, o.bulk + 1 ≤ o.tot
  | .mk _ _ _ s ks l => by
    simp only [Pob.bulk, Pob.tot]
    have := bulks_tots l
    have := keys_sum ks
    omega
theorem bulks_tots : ∀ l : List Pob, l.length + bulks l ≤ tots l
  | [] => by simp [bulks, tots]
  | o :: l => by
    simp only [bulks, tots, List.length_cons]
    have := Pob.bulk_tot o
    have := bulks_tots l
    omega
end
/-- the numbers of the types of an object -/
structure ObjT (P : Program) (tO tI tL tS tKs tOs : TypeId) : Prop where
  o : ∃ fs, P.underlying tO = some (.struct fs) ∧ fs.toList.map (fun f => (f.offset, f.type)) = [(0, tI), (1, tL), (2, tI), (3, tS), (4, tKs), (5, tOs)]
  i : P.underlying tI = some (.int .i64)
  l : P.underlying tL = some (.int .i64)
  s : P.underlying tS = some .string
  ks : P.underlying tKs = some (.slice tS)
  os : P.underlying tOs = some (.slice tO)
  c : P.cellsOf tO = 6 ∧ P.cellsOf tI = 1 ∧ P.cellsOf tL = 1 ∧ P.cellsOf tS = 1 ∧ P.cellsOf tKs = 1 ∧ P.cellsOf tOs = 1
section
variable {H : Type} {enc : TypeId × Value → H} {P : Program} {W : World} {tO tI tL tS tKs tOs : TypeId}
theorem Opn.strs (T : ObjT P tO tI tL tS tKs tOs) (N : Nat) : Opn enc P W N tKs (fun l : List (List UInt8) => [.sl (strsAV l)]) (fun l => (l.map fun k => k.length + 1).sum + 1) (fun _ => True) := by
  cases N with
  | zero => exact Opn.zero
  | succ N =>
    refine Opn.as id (Opn.slice T.ks (by rw [T.c.2.2.2.1]; decide) (Opn.str (N := N) T.s)) (fun a => ?_) (fun a => Nat.le_refl _) (fun _ _ => trivial)
    simp [strsAV]
theorem Opn.obj (T : ObjT P tO tI tL tS tKs tOs) (N : Nat) : Opn enc P W N tO Pob.cells Pob.tot Pob.wf := by
  induction N using Nat.strongRecOn with
  | ind N IH =>
    cases N with
    | zero => exact Opn.zero
    | succ N =>
      have hos : Opn enc P W N tOs (fun l : List Pob => [.sl (objsAV l)]) (fun l => tots l + 1) wfs := by
        cases N with
        | zero => exact Opn.zero
        | succ N =>
          refine Opn.as id (Opn.slice T.os (by rw [T.c.1]; decide) (IH N (by omega))) (fun a => ?_) (fun a => ?_) (fun a h => wfs_of h)
          · simp [objsAV_map]
          · rw [tots_map]; exact Nat.le_refl _
      obtain ⟨fs, h1, h2⟩ := T.o
      obtain ⟨c0, c1, c2, c3, c4, c5⟩ := T.c
      refine Opn.as (fun p : Int × Int × Int × List UInt8 × List (List UInt8) × List Pob × Unit => Pob.mk p.1 p.2.1 p.2.2.1 p.2.2.2.1 p.2.2.2.2.1 p.2.2.2.2.2.1)
        (Opn.struct h1 h2 c0 (OpnF.cons (Opn.int T.i) c1 (OpnF.cons (Opn.int T.l) c2 (OpnF.cons (Opn.int T.i) c1 (OpnF.cons (Opn.str T.s) c3 (OpnF.cons (Opn.strs T N) c4 (OpnF.cons hos c5 OpnF.nil))))))) ?_ ?_ ?_
      · intro a; simp [Pob.cells]
      · intro a; simp only [Pob.tot]; omega
      · intro a ⟨ha, hb, hc, _, _, hl, _⟩
        simp only [Pob.wf]
        exact ⟨wf_i64 ha, wf_i64 hb, wf_i64 hc, hl⟩
theorem Opn.objs (T : ObjT P tO tI tL tS tKs tOs) (N : Nat) : Opn enc P W N tOs (fun l : List Pob => [.sl (objsAV l)]) (fun l => tots l + 1) wfs := by
  cases N with
  | zero => exact Opn.zero
  | succ N =>
    refine Opn.as id (Opn.slice T.os (by rw [T.c.1]; decide) (Opn.obj T N)) (fun a => ?_) (fun a => ?_) (fun a h => wfs_of h)
    · simp [objsAV_map]
    · rw [tots_map]; exact Nat.le_refl _
end
/-! arguments -/
section
variable {H : Type} {enc : TypeId × Value → H} {P : Program} {W : World} {t : TypeId} {b0 : Nat} {r : Reach} {v : Value} {d : DataW H} {ps : List MemPlace}
theorem Opn.agg {α : Type} {cells : α → List AV} {size : α → Nat} {wf : α → Prop} {fs : Array Field} (ht : P.underlying t = some (.struct fs)) (h : ∀ N, Opn enc P W N t cells size wf) (hval : Value.okWide P W r b0 t v) (hd : DataW.Trod enc P W 0 (fun _ => true) true t v d ps) :
    ∃ a, Rep (gmA W) 1 (.agg (cells a)) v ∧ size a ≤ dbulk d ∧ wf a := by
  obtain ⟨cs, rfl, _⟩ := okWide_struct ht hval
  obtain ⟨fuel, hf⟩ := hd
  obtain ⟨a, h1, h2, h3⟩ := h fuel fuel _ _ (Nat.le_refl _) hf
  refine ⟨a, ?_, h2, h3⟩
  simp only [Rep]
  exact ⟨cs, rfl, RepL.down (by decide) _ _ h1⟩
theorem Opn.sl {α : Type} {av : α → AV} {size : α → Nat} {wf : α → Prop} {e : TypeId} (ht : P.underlying t = some (.slice e)) (h : ∀ N, Opn enc P W N t (fun a => [av a]) size wf) (hval : Value.okWide P W r b0 t v) (hd : DataW.Trod enc P W 0 (fun _ => true) true t v d ps) :
    ∃ a, Rep (gmA W) 1 (av a) v ∧ size a ≤ dbulk d ∧ wf a := by
  obtain ⟨A, n, c, rfl⟩ := okWide_slice ht hval
  obtain ⟨fuel, hf⟩ := hd
  obtain ⟨a, h1, h2, h3⟩ := h fuel fuel _ _ (Nat.le_refl _) hf
  refine ⟨a, ?_, h2, h3⟩
  simp only [RepL, Value.cells] at h1
  obtain ⟨u, rest, hu, hr, _⟩ := h1
  cases hu
  exact Rep.down (by decide) _ _ hr
end
end Aw

namespace Aw
open Go
def boolO (b : Bool) : Pob := .mk 1 (if b = true then 1 else 0) 0 [] [] []
def intO (n : Int) : Pob := .mk 2 n 0 [] [] []
def realO (n : Int) : Pob := .mk 3 n 0 [] [] []
def strO (s : List UInt8) : Pob := .mk 4 0 0 s [] []
def nameO (s : List UInt8) : Pob := .mk 5 0 0 s [] []
def refO (n g : Int) : Pob := .mk 8 n g [] [] []
def arrO (l : List Pob) : Pob := .mk 6 0 0 [] [] l
def numB (o : Pob) : Bool := (decide (o.kind = 2) && decide (-107374 ≤ o.num) && decide (o.num ≤ 107374)) || (decide (o.kind = 3) && decide (-1073741824 ≤ o.num) && decide (o.num ≤ 1073741824))
def numI (o : Pob) : Int := if numB o = true then (if o.kind = 2 then o.num * 10000 else o.num) else 0
theorem numB_int {o : Pob} (h : o.kind = 2) : numB o = (decide (-107374 ≤ o.num) && decide (o.num ≤ 107374)) := by simp [numB, h]
theorem numB_real {o : Pob} (h : o.kind = 3) : numB o = (decide (-1073741824 ≤ o.num) && decide (o.num ≤ 1073741824)) := by simp [numB, h]
theorem numB_no {o : Pob} (h : ¬ o.kind = 2) (h' : ¬ o.kind = 3) : numB o = false := by simp [numB, h, h']
theorem numI_int {o : Pob} (h : o.kind = 2) : numI o = if (decide (-107374 ≤ o.num) && decide (o.num ≤ 107374)) = true then o.num * 10000 else 0 := by simp [numI, numB_int h, h]
theorem numI_real {o : Pob} (h : o.kind = 3) : numI o = if (decide (-1073741824 ≤ o.num) && decide (o.num ≤ 1073741824)) = true then o.num else 0 := by simp [numI, numB_real h, h]
theorem numI_no {o : Pob} (h : ¬ o.kind = 2) (h' : ¬ o.kind = 3) : numI o = 0 := by simp [numI, numB_no h h']
mutual
def Pob.depth : Pob → Nat
  | .mk _ _ _ _ _ l => depths l + 1
def depths : List Pob → Nat
  | [] => 0
  | o :: l => max o.depth (depths l)
end
theorem depths_nil : depths [] = 0 := by simp only [depths]
theorem Pob.depth_eq (o : Pob) : o.depth = depths o.kids + 1 := by cases o; simp only [Pob.depth, Pob.kids]
theorem depths_append (a b : List Pob) : depths (a ++ b) = max (depths a) (depths b) := by
  induction a with
  | nil => simp [depths]
  | cons x a ih => simp only [List.cons_append, depths, ih]; omega
theorem depths_take {l : List Pob} {i : Nat} (h : i < l.length) : depths (l.take (i + 1)) = max (depths (l.take i)) (l.getD i Pob.null).depth := by
  rw [List.take_succ_eq_append_getElem h, depths_append]
  simp [depths, List.getD, h]
mutual
theorem Pob.depth_le : ∀ o : Pob, o.depth ≤ o.bulk
  | .mk k n g s ks l => by simp only [Pob.depth, Pob.bulk]; have := depths_le l; omega
theorem depths_le : ∀ l : List Pob, depths l ≤ bulks l
  | [] => by simp [depths]
  | o :: l => by simp only [depths, bulks]; have := Pob.depth_le o; have := depths_le l; omega
end
attribute [irreducible] Pob.depth depths
attribute [go_sem] depths_nil
end Aw

namespace Aw
open Go
theorem splice_len {α : Type} {l new : List α} {k : Nat} (h : k + new.length ≤ l.length) : (splice l k new).length = l.length := by
  simp only [splice, List.length_append, List.length_take, List.length_drop]
  omega
theorem mem_mid {α : Type} {sp es : List α} {i n : Nat} {x : α} (h : sp.take n = es) (hx : x ∈ (sp.drop i).take (n - i)) : x ∈ es := by
  subst h
  rw [← List.drop_take] at hx
  exact List.mem_of_mem_drop hx
theorem ins_new {α : Type} {sp es zs : List α} {e : α} {i n : Nat} (h : sp.take n = es) (hn : es.length = n) (hi : i < n) (hz : zs.length = n + 1 - i) :
    splice (splice (sp.take i ++ zs) i [e]) (i + 1) ((sp.drop i).take (n - i)) = es.take i ++ e :: es.drop i := by
  subst h
  have hl : n ≤ sp.length := by rw [List.length_take] at hn; omega
  apply List.ext_getElem?
  intro j
  simp only [splice, List.getElem?_append, List.getElem?_take, List.getElem?_drop, List.length_append, List.length_take, List.length_drop, List.length_cons, List.length_nil, List.getElem?_cons]
  grind
theorem ins_in {α : Type} {sp es : List α} {e : α} {i n : Nat} (h : sp.take n = es) (hn : es.length = n) (hi : i < n) (hl : n + 1 ≤ sp.length) :
    (splice (splice sp (i + 1) ((sp.drop i).take (n - i))) i [e]).take (n + 1) = es.take i ++ e :: es.drop i := by
  subst h
  apply List.ext_getElem?
  intro j
  simp only [splice, List.getElem?_append, List.getElem?_take, List.getElem?_drop, List.length_append, List.length_take, List.length_drop, List.length_cons, List.length_nil, List.getElem?_cons]
  grind
theorem del_in {α : Type} {sp es zs : List α} {i j n k : Nat} (h : sp.take n = es) (hn : es.length = n) (hi : i ≤ j) (hj : j ≤ n) (hk : k = i + (n - j)) :
    (splice (splice sp i ((sp.drop j).take (n - j))) k zs).take k = es.take i ++ es.drop j := by
  subst h hk
  have hl : n ≤ sp.length := by rw [List.length_take] at hn; omega
  apply List.ext_getElem?
  intro q
  simp only [splice, List.getElem?_append, List.getElem?_take, List.getElem?_drop, List.length_append, List.length_take, List.length_drop]
  grind
end Aw

namespace Aw
open Go
theorem bl_irrefl : ∀ a : List UInt8, Op.bytesLess a a = false
  | [] => rfl
  | a :: x => by simp [Op.bytesLess, bl_irrefl x, UInt8.lt_irrefl]
theorem bl_trans : ∀ a b c : List UInt8, Op.bytesLess a b = true → Op.bytesLess b c = true → Op.bytesLess a c = true
  | a, [], c, h, _ => by cases a <;> simp [Op.bytesLess] at h
  | [], b :: y, [], _, h => by simp [Op.bytesLess] at h
  | [], b :: y, c :: z, _, _ => by simp [Op.bytesLess]
  | a :: x, b :: y, [], _, h => by simp [Op.bytesLess] at h
  | a :: x, b :: y, c :: z, h, h' => by
    simp only [Op.bytesLess, Bool.or_eq_true, decide_eq_true_eq, Bool.and_eq_true, beq_iff_eq] at h h' ⊢
    rcases h with h | ⟨rfl, h⟩
    · rcases h' with h' | ⟨rfl, h'⟩
      · exact .inl (UInt8.lt_trans h h')
      · exact .inl h
    · rcases h' with h' | ⟨rfl, h'⟩
      · exact .inl h'
      · exact .inr ⟨rfl, bl_trans x y z h h'⟩
theorem bl_total : ∀ a b : List UInt8, a = b ∨ Op.bytesLess a b = true ∨ Op.bytesLess b a = true
  | [], [] => .inl rfl
  | [], _ :: _ => .inr (.inl rfl)
  | _ :: _, [] => .inr (.inr rfl)
  | a :: x, b :: y => by
    simp only [Op.bytesLess, Bool.or_eq_true, decide_eq_true_eq, Bool.and_eq_true, beq_iff_eq, List.cons.injEq]
    rcases UInt8.lt_or_lt_of_ne (a := a) (b := b) |> fun h => Classical.em (a = b) |>.elim (fun e => Or.inl e) (fun e => Or.inr (h e)) with h | h | h
    · subst h
      rcases bl_total x y with h | h | h
      · exact .inl ⟨rfl, h⟩
      · exact .inr (.inl (.inr ⟨rfl, h⟩))
      · exact .inr (.inr (.inr ⟨rfl, h⟩))
    · exact .inr (.inl (.inl h))
    · exact .inr (.inr (.inl h))
theorem bl_asymm {a b : List UInt8} (h : Op.bytesLess a b = true) : Op.bytesLess b a = false := by
  cases h' : Op.bytesLess b a with
  | false => rfl
  | true => have := bl_trans a b a h h'; rw [bl_irrefl] at this; cases this
/-- keys that increase -/
def incr (ks : List (List UInt8)) : Prop := ∀ a b, a < b → b < ks.length → Op.bytesLess (ks.getD a []) (ks.getD b []) = true
theorem incr_of_next {ks : List (List UInt8)} (h : ∀ i, i + 1 < ks.length → Op.bytesLess (ks.getD i []) (ks.getD (i + 1) []) = true) : incr ks := by
  intro a b hab hb
  induction b with
  | zero => omega
  | succ b ih =>
    by_cases e : a = b
    · subst e; exact h a hb
    · exact bl_trans _ _ _ (ih (by omega) (by omega)) (h b hb)
/-- where a key lies, or belongs -/
def kplace (ks : List (List UInt8)) (key : List UInt8) : Nat := ks.findIdx (fun k => !Op.bytesLess k key)
def kthere (ks : List (List UInt8)) (key : List UInt8) : Bool := decide (kplace ks key < ks.length) && decide (ks.getD (kplace ks key) [] = key)
theorem kplace_le (ks : List (List UInt8)) (key : List UInt8) : kplace ks key ≤ ks.length := List.findIdx_le_length
theorem kplace_eq {ks : List (List UInt8)} {key : List UInt8} {i : Nat} (hi : i ≤ ks.length) (h1 : ∀ a, a < i → Op.bytesLess (ks.getD a []) key = true) (h2 : i < ks.length → Op.bytesLess (ks.getD i []) key = false) : kplace ks key = i := by
  unfold kplace
  by_cases h : i < ks.length
  · rw [List.findIdx_eq h]
    have h3 := h2 h
    simp only [List.getD, List.getElem?_eq_getElem h, Option.getD_some] at h3
    refine ⟨by simp [h3], fun j hj => ?_⟩
    have := h1 j hj
    simp only [List.getD, List.getElem?_eq_getElem (Nat.lt_trans hj h), Option.getD_some] at this
    simp [this]
  · obtain rfl : i = ks.length := by omega
    refine List.findIdx_eq_length.2 ?_
    intro x hx
    obtain ⟨j, hj, rfl⟩ := List.getElem_of_mem hx
    have := h1 j hj
    simp only [List.getD, List.getElem?_eq_getElem hj, Option.getD_some] at this
    simp [this]
theorem bs_lo {ks : List (List UInt8)} {key : List UInt8} {h a : Nat} (hs : incr ks) (hh : Op.bytesLess (ks.getD h []) key = true) (hl : h < ks.length) (ha : a ≤ h) : Op.bytesLess (ks.getD a []) key = true := by
  by_cases e : a = h
  · subst e; exact hh
  · exact bl_trans _ _ _ (hs a h (by omega) hl) hh
theorem bs_hi {ks : List (List UInt8)} {key : List UInt8} {h a : Nat} (hs : incr ks) (hh : Op.bytesLess (ks.getD h []) key = false) (ha : h ≤ a) (hl : a < ks.length) : Op.bytesLess (ks.getD a []) key = false := by
  by_cases e : a = h
  · subst e; exact hh
  · cases h' : Op.bytesLess (ks.getD a []) key with
    | false => rfl
    | true => rw [bl_trans _ _ _ (hs h a (by omega) hl) h'] at hh; cases hh
theorem kthere_lt {ks : List (List UInt8)} {key : List UInt8} (h : kthere ks key = true) : kplace ks key < ks.length := by
  simp only [kthere, Bool.and_eq_true, decide_eq_true_eq] at h; exact h.1
theorem kthere_eq {ks : List (List UInt8)} {key : List UInt8} {i : Nat} (h : kplace ks key = i) : kthere ks key = (decide (i < ks.length) && decide (ks.getD i [] = key)) := by
  unfold kthere; rw [h]
def insAt {α : Type} (l : List α) (i : Nat) (x : α) : List α := l.take i ++ x :: l.drop i
def delAt {α : Type} (l : List α) (i : Nat) : List α := l.take i ++ l.drop (i + 1)
def Pob.withK (o : Pob) (key : List UInt8) (v : Pob) : Pob :=
  if kthere o.keys key = true then .mk o.kind o.num o.gen o.str o.keys (o.kids.set (kplace o.keys key) v)
  else .mk o.kind o.num o.gen o.str (insAt o.keys (kplace o.keys key) key) (insAt o.kids (kplace o.keys key) v)
def Pob.lessK (o : Pob) (i : Nat) : Pob := .mk o.kind o.num o.gen o.str (delAt o.keys i) (delAt o.kids i)
theorem withK_there {o : Pob} {key : List UInt8} {v : Pob} (h : kthere o.keys key = true) : o.withK key v = .mk o.kind o.num o.gen o.str o.keys (o.kids.set (kplace o.keys key) v) := by rw [Pob.withK, if_pos h]
theorem withK_new {o : Pob} {key : List UInt8} {v : Pob} (h : kthere o.keys key = false) : o.withK key v = .mk o.kind o.num o.gen o.str (insAt o.keys (kplace o.keys key) key) (insAt o.kids (kplace o.keys key) v) := by rw [Pob.withK, if_neg (by simp [h])]
theorem strsAV_insAt (ks : List (List UInt8)) (i : Nat) (k : List UInt8) : (strsAV ks).take i ++ [.str k] :: (strsAV ks).drop i = strsAV (insAt ks i k) := by
  simp [strsAV, insAt, List.map_take, List.map_drop]
theorem objsAV_insAt (l : List Pob) (i : Nat) (o : Pob) : (objsAV l).take i ++ o.cells :: (objsAV l).drop i = objsAV (insAt l i o) := by
  simp [objsAV_map, insAt, List.map_take, List.map_drop]
theorem itemsAV_insAt (l : List Itm) (i : Nat) (o : Itm) : (itemsAV l).take i ++ o.cells :: (itemsAV l).drop i = itemsAV (insAt l i o) := by
  simp [itemsAV, insAt, List.map_take, List.map_drop]
theorem strsAV_delAt (ks : List (List UInt8)) (i : Nat) : (strsAV ks).take i ++ (strsAV ks).drop (i + 1) = strsAV (delAt ks i) := by
  simp [strsAV, delAt, List.map_take, List.map_drop]
theorem objsAV_delAt (ks : List Pob) (i : Nat) : (objsAV ks).take i ++ (objsAV ks).drop (i + 1) = objsAV (delAt ks i) := by
  simp [objsAV_map, delAt, List.map_take, List.map_drop]
theorem itemsAV_delAt (ks : List Itm) (i : Nat) : (itemsAV ks).take i ++ (itemsAV ks).drop (i + 1) = itemsAV (delAt ks i) := by
  simp [itemsAV, delAt, List.map_take, List.map_drop]
theorem insAt_length {α : Type} {l : List α} {i : Nat} {x : α} : (insAt l i x).length = l.length + 1 := by simp [insAt]; omega
theorem delAt_length {α : Type} {l : List α} {i : Nat} (h : i < l.length) : (delAt l i).length = l.length - 1 := by simp [delAt]; omega
theorem bulks_append (a b : List Pob) : bulks (a ++ b) = bulks a + bulks b := by
  induction a with
  | nil => simp [bulks]
  | cons x a ih => simp only [List.cons_append, bulks, ih]; omega
theorem bulks_insAt (l : List Pob) (i : Nat) (x : Pob) : bulks (insAt l i x) = bulks l + x.bulk := by
  have := bulks_append (l.take i) (l.drop i)
  rw [List.take_append_drop] at this
  simp only [insAt, bulks_append, bulks]
  omega
theorem bulks_delAt (l : List Pob) (i : Nat) : bulks (delAt l i) ≤ bulks l := by
  by_cases h : i < l.length
  · have h1 := bulks_append (l.take i) (l.drop i)
    rw [List.take_append_drop, List.drop_eq_getElem_cons h] at h1
    simp only [delAt, bulks_append, bulks] at h1 ⊢
    omega
  · rw [delAt, List.take_of_length_le (by omega), List.drop_of_length_le (by omega), List.append_nil]
    exact Nat.le_refl _
theorem bulks_set {l : List Pob} {i : Nat} {x : Pob} : bulks (l.set i x) ≤ bulks l + x.bulk := by
  induction l generalizing i with
  | nil => simp [bulks]
  | cons y l ih =>
    cases i with
    | zero => simp only [List.set_cons_zero, bulks]; omega
    | succ i => simp only [List.set_cons_succ, bulks]; have := ih (i := i); omega
theorem Pob.withK_bulk (o : Pob) (key : List UInt8) (v : Pob) : (o.withK key v).bulk ≤ o.bulk + v.bulk + 2 := by
  have h := Pob.bulk_eq o
  unfold Pob.withK
  split
  · simp only [Pob.bulk, List.length_set]
    have := bulks_set (l := o.kids) (i := kplace o.keys key) (x := v)
    omega
  · simp only [Pob.bulk, insAt_length, bulks_insAt]
    omega
theorem Pob.lessK_bulk (o : Pob) (i : Nat) : (o.lessK i).bulk ≤ o.bulk := by
  have h := Pob.bulk_eq o
  have h1 := bulks_delAt o.kids i
  have h2 : ∀ {α : Type} (l : List α), (delAt l i).length ≤ l.length := fun l => by simp [delAt]; omega
  have := h2 o.keys
  have := h2 o.kids
  simp only [Pob.lessK, Pob.bulk]
  omega
theorem headD_nil' {α : Type} (d : α) : ([] : List α).headD d = d := rfl
attribute [go_sem] headD_nil'
attribute [irreducible] kplace
end Aw
