/- TopHints: true of all lists of hints, places and bytes, without any condition. -/
import Derived.Test.YtldekaaiippfkaaPart3
namespace Go.Proofs.Ytldekaaiippfkaa
open Go Aw Go.ChangeShapes Go.WideShapes Go.ChangeAt Go.RowKit
open Go.ChangeMaps (open_string shut_string)
set_option maxRecDepth 100000 in
theorem topHints_lifted (os : Os) (started : os.Started) (H : Type) (enc : TypeId × Value → H) :
  ReturnsInHanded {} Try.checked os 4 .any (Rows.topHintsSpec.pre6 enc Try.prog Try.f4 Rows.topHintsRow.domain false) (Rows.topHintsSpec.post enc Try.prog Try.f4 false true false false) := by
 refine returnsInHanded_of_change_shaped (C := Try.checked) own started (by kernel_rfl) Try.func4
  (ChangeSpec.witness6 (enc := enc) (C := Try.checked) false ⟨#[], #[.slice none 0 0, .int .i64 0, .int .u8 0], []⟩ 8 (by kernel_rfl) (by kernel_rfl) (by kernel_rfl) (by kernel_rfl)) ?_
 intro W base args ds gs before hval0 hW hcnd _ hsh _
 have hval : ∀ (j : Nat) t v, Try.f4.params[j]? = some t → args[j]? = some v → Value.okWide Try.prog W .any base t v := hval0
 have hA0 := hW
 obtain ⟨p, q, hA0, hV, _, hfz, hnd⟩ := hA0
 have hA : DataW.TrodAll enc Try.prog W 0 (fun _ => true) true Try.f4.params.toList args.toList ds p := hA0
 rw [Try.params4] at hA hval
 obtain ⟨v0, vs0, d0, ds0, p0, q0, ea0, rfl, rfl, h0, hr0⟩ := trodAll_cons hA
 obtain ⟨v1, vs1, d1, ds1, p1, q1, ea1, rfl, rfl, h1, hr1⟩ := trodAll_cons hr0
 obtain ⟨v2, vs2, d2, ds2, p2, q2, ea2, rfl, rfl, h2, hr2⟩ := trodAll_cons hr1
 obtain ⟨ez, rfl, rfl⟩ := trodAll_nil hr2
 obtain rfl : args = #[v0, v1, v2] := by cases args; simp_all
 obtain ⟨rfl, rfl⟩ := trodVars_none hV
 obtain ⟨a0, r0, s0, w0⟩ := Opn.sl Try.underlying40 (fun N => Opn.hints Try.underlying40 Try.underlying44 rfl Try.underlying3 (by kernel_rfl) (by kernel_rfl) N) (hval 0 _ v0 rfl rfl) h0
 obtain ⟨a1, rfl, rfl, rfl, w1⟩ := open_int Try.underlying3 (hval 1 _ v1 rfl rfl) h1
 obtain ⟨a2, rfl, rfl, rfl, w2⟩ := open_int Try.underlying5 (hval 2 _ v2 rfl rfl) h2
 have g1 := wf_i64 w1
 have g2 := wf_u8 w2
 have hc := FnP.below (c_law_TopHints [] a0 a1 a2 g2) (m := gmA W) (vs := [v0, .int .i64 a1, .int .u8 a2]) rfl (gstartA0 W) rfl
  (repl_cons (r0) (repl_cons (rep_int _) (repl_cons (rep_int _) repl_nil)))
 refine hc.mono fun e W' ⟨he, hb⟩ => ⟨_, he, ?_⟩
 exact law_post laidOut rfl Try.underlying4 (by kernel_rfl) rfl rfl hW hb
theorem topHints_holds : Rows.TopHintsSaid :=
 OpenClaim.holds_of_wide 4 Try.f4 rfl rfl rfl rfl rfl rfl rfl ⟨rfl, rfl, rfl, rfl, rfl⟩ rfl rfl rfl rfl rfl (by kernel_rfl) Try.func4 (by kernel_rfl)
  (of_decide_eq_true (by kernel_rfl)) (by unfold Func.isWrapper; first | (rw [if_pos (by decide +kernel)]; kernel_rfl) | (rw [if_neg (by decide +kernel)]; exact ⟨rfl, rfl⟩))
  (fun os started H enc _ => topHints_lifted os started H enc)
end Go.Proofs.Ytldekaaiippfkaa
