/- From a function's contract to a row: a law answers true and leaves what was there as it was. -/
import Derived.Test.YtahflphnoncnfaaCore12
import Derived.ProofKit
import Derived.Below
import Derived.ChangeSame
import Derived.HandedShaped
import Derived.OpenShut
namespace Aw
open Go Go.RowKit Go.WideShapes Go.ChangeShapes

theorem FnP.below {P : Program} {gl : List (Nat × AV)} {f : FuncId} {xs : List AV} (h : FnP P gl f xs fun r => r = .ret (.bool true)) {m : Mem} {vs : List Value} {W : World} (hw : m.w = W)
    (hm : Start m gl) (hP : m.Pr = fun b => b < W.heap.size) (hv : RepL m 1 xs vs) : Calls P f vs.toArray W fun e W' => e = .returned (.bool true) ∧ Below W.heap.size W W' := by
  subst hw
  refine (h.calls m vs hm hv).mono ?_
  rintro e w' ⟨m', r, rfl, hle, _, hend, rfl⟩
  obtain ⟨v, rfl, hv⟩ := hend
  simp only [Rep] at hv
  subst hv
  exact ⟨rfl, hle.os, hle.tape, hle.output, hle.size, fun b hb => hle.block b (by rw [hP]; exact hb)⟩

section
variable {H : Type} {enc : TypeId × Value → H} {P : Program}
theorem trodAll_stays (hl : laidOutB P = true) {W W' : World} {sp' : Nat → Bool} : ∀ {ts : List TypeId} {vs : List Value} {ds : List (DataW H)} {ps : List MemPlace},
    ts.all (fun t => P.readableRec t && decide (t < P.types.size)) = true → DataW.TrodAll enc P W 0 (fun _ => true) true ts vs ds ps → (∀ p ∈ ps, W.sameAt W' p) → (∀ p ∈ ps, sp' p.block = true) →
    DataW.TrodAll enc P W' 0 sp' true ts vs ds ps
  | [], vs, ds, ps, _, h, _, _ => by
    obtain ⟨rfl, rfl, rfl⟩ := trodAll_nil h
    exact trodAll_mk0
  | t :: ts, vs, ds, ps, hr, h, h1, h2 => by
    obtain ⟨v, vs, d, ds, p, q, rfl, rfl, rfl, hv, hr'⟩ := trodAll_cons h
    simp only [List.all_cons, Bool.and_eq_true, decide_eq_true_eq] at hr
    exact trodAll_cons_mk (WideElems.Trod_stays hl hr.1.1 hr.1.2 hv (fun x hx => h1 x (by simp [hx])) (fun x hx => h2 x (by simp [hx])))
      (trodAll_stays hl (by simpa using hr.2) hr' (fun x hx => h1 x (by simp [hx])) (fun x hx => h2 x (by simp [hx])))

theorem law_post {f : Func} {s : ChangeSpec} {fresh handsOn again : Bool} {W W' : World} {args : Array Value} {ds gs : List (DataW H)} {before : List MemPlace} {tb : TypeId} (hl : laidOutB P = true)
    (hrt : f.resultTypes = #[tb]) (htb : P.underlying tb = some .bool) (hps : f.params.toList.all (fun t => P.readableRec t && decide (t < P.types.size)) = true) (hvar : s.vars = [])
    (hs : s.fn H (ds ++ gs) = { results := [.lit (.bool true)], args := ds }) (hW : DataW.Whole enc P f.params.toList s.vars false W args.toList ds gs before) (hb : Below W.heap.size W W') :
    s.post enc P f false fresh handsOn again W args (.bool true) W' := by
  have hlt : ∀ p ∈ before, p.block < W.heap.size := fun p hp => hW.lt p hp
  have hold : ∀ p ∈ before, (fun b => decide (b < W.heap.size)) p.block = true := fun p hp => by simpa using hlt p hp
  have hres : ∀ (b : Nat) (sp : Nat → Bool) (hd : Bool), DataW.TrodAll enc P W' b sp hd f.resultTypes.toList ((Value.bool true).resultList f.resultTypes.size) (s.fn H (ds ++ gs)).results [] := by
    intro b sp hd
    rw [hrt, hs]
    exact trodAll_mk1 ⟨1, by simp [DataW.trod, Value.cells, htb]⟩
  obtain ⟨p, q, hA, hV, e, hz, hn⟩ := hW
  rw [hvar] at hV
  obtain ⟨rfl, rfl⟩ := trodVars_none hV
  rw [List.append_nil] at e
  subst e
  have hargs : ∀ sp : Nat → Bool, (∀ x ∈ before, sp x.block = true) → DataW.TrodAll enc P W' 0 sp true f.params.toList args.toList (s.fn H (ds ++ [])).args before := by
    intro sp hsp
    rw [hs]
    exact trodAll_stays hl hps hA (fun x hx => hb.same (hlt x hx)) hsp
  have hvars : ∀ sp : Nat → Bool, DataW.TrodVars enc P W' sp s.vars (s.fn H (ds ++ [])).vars [] := by
    intro sp
    rw [hs, hvar]
    rfl
  have hW0 : DataW.Whole enc P f.params.toList s.vars false W args.toList ds [] before := ⟨before, [], hA, by rw [hvar]; rfl, by simp, hz, hn⟩
  refine ⟨ds, [], before, [], before, [], hW0, hres _ _ _, hargs _ hold, hvars _, World.keptBut_mono (fun p hp => ⟨hp, Or.inr (Or.inl hp)⟩) (hb.frame (· ∈ before)), fun _ => ?_⟩
  refine ⟨?_, _, _, ([] ++ before) ++ [], ⟨[] ++ before, [], trodAll_append (hargs _ (fun _ _ => rfl)) (hres _ _ _), hvars _, rfl, ?_, ?_⟩, ?_⟩
  · exact ok_one hrt rfl (okWide_bool_mk htb _)
  · intro b off hp
    have hin : MemPlace.cell b off ∈ before := by simpa using hp
    rw [hb.frozen (hlt _ hin)]
    exact hz b off hin
  · intro ha
    cases ha
  · intro p hp _
    simpa using hp
end
/-- the memory in which a law begins that leans on no variable -/
def gm0 (W : World) : Mem := { w := W, F := fun _ _ => False, Pr := fun b => b < W.heap.size, ρ := fun _ => none, np := 0 }
theorem gstart0 (W : World) : Aw.Start (gm0 W) [] := ⟨fun _ _ h => h.elim, fun _ hb => hb, fun g x hg => by simp [Aw.get] at hg, rfl, fun _ => rfl⟩
/-- the memory in which a law begins that reads one variable, a number -/
def gm1 (W : World) (g : Nat) : Mem := { w := W, F := fun b o => b = g ∧ o = 0, Pr := fun b => b < W.heap.size, ρ := fun _ => none, np := 0 }
theorem gstart1 {W : World} {g : Nat} {n : Int} (h : W.cell? ⟨g, 0, none⟩ = some (.int .i64 n)) : Aw.Start (gm1 W g) [(g, .cptr [.int .i64 n])] := by
  have h0 : g < W.heap.size := by
    rcases Nat.lt_or_ge g W.heap.size with hlt | hge
    · exact hlt
    · have : W.heap[g]? = none := by rw [Array.getElem?_eq_none]; exact hge
      simp [World.cell?, this] at h
  refine ⟨fun b o hb => by obtain ⟨rfl, _⟩ := hb; exact h0, fun _ hb => hb, ?_, rfl, fun _ => rfl⟩
  intro g' x hg
  simp only [Aw.get] at hg
  split at hg
  · rename_i e
    injection hg with hg
    subst hg e
    simp only [Rep, RepC]
    exact ⟨g, 0, rfl, ⟨rfl, rfl⟩, ⟨_, h, rfl⟩, trivial⟩
  · cases hg
theorem rep_str {m : Mem} {k : Nat} (s : ByteArray) : Rep m k (.str s.data.toList) (.string s) := by simp only [Rep]
theorem rep_int {m : Mem} {k : Nat} {ki : IntKind} (n : Int) : Rep m k (.int ki n) (.int ki n) := by simp only [Rep]
theorem rep_bool {m : Mem} {k : Nat} (b : Bool) : Rep m k (.bool b) (.bool b) := by simp only [Rep]
theorem repl_nil {m : Mem} {k : Nat} : RepL m k [] [] := by simp only [RepL]
theorem repl_cons {m : Mem} {k : Nat} {x : AV} {v : Value} {xs : List AV} {vs : List Value} (h : Rep m k x v) (hs : RepL m k xs vs) : RepL m k (x :: xs) (v :: vs) := by
  simp only [RepL]
  exact ⟨v, vs, rfl, h, hs⟩
theorem wf_i64 {n : Int} (h : (Lit.int .i64 n).wf = true) : -9223372036854775808 ≤ n ∧ n ≤ 9223372036854775807 := by
  simpa [Lit.wf, IntKind.min, IntKind.max, IntKind.bits, IntKind.signed] using h
theorem wf_u8 {n : Int} (h : (Lit.int .u8 n).wf = true) : 0 ≤ n ∧ n ≤ 255 := by
  simpa [Lit.wf, IntKind.min, IntKind.max, IntKind.bits, IntKind.signed] using h
end Aw
