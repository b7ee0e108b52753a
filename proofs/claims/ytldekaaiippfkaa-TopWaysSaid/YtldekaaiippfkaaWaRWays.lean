/- TopWays: true of all matrices and points, without any condition. -/
import Derived.Test.YtldekaaiippfkaaPart2
namespace Go.Proofs.Ytldekaaiippfkaa
open Go Aw Go.ChangeShapes Go.WideShapes Go.ChangeAt Go.RowKit
open Go.ChangeMaps (open_string shut_string)
set_option maxRecDepth 100000 in
theorem topWays_lifted (os : Os) (started : os.Started) (H : Type) (enc : TypeId × Value → H) :
  ReturnsInHanded {} Try.checked os 3 .any (Rows.topWaysSpec.pre6 enc Try.prog Try.f3 Rows.topWaysRow.domain false) (Rows.topWaysSpec.post enc Try.prog Try.f3 false true false false) := by
 refine returnsInHanded_of_change_shaped (C := Try.checked) own started (by kernel_rfl) Try.func3
  (ChangeSpec.witness6 (enc := enc) (C := Try.checked) false ⟨#[], #[.agg #[.int .i64 0, .int .i64 0, .int .i64 0, .int .i64 0, .int .i64 0, .int .i64 0], .agg #[.int .i64 0, .int .i64 0, .int .i64 0, .int .i64 0, .int .i64 0, .int .i64 0], .agg #[.int .i64 0, .int .i64 0, .int .i64 0, .int .i64 0, .int .i64 0, .int .i64 0], .agg #[.int .i64 0, .int .i64 0]], []⟩ 8 (by kernel_rfl) (by kernel_rfl) (by kernel_rfl) (by kernel_rfl)) ?_
 intro W base args ds gs before hval0 hW hcnd _ hsh _
 have hval : ∀ (j : Nat) t v, Try.f3.params[j]? = some t → args[j]? = some v → Value.okWide Try.prog W .any base t v := hval0
 have hA0 := hW
 obtain ⟨p, q, hA0, hV, _, hfz, hnd⟩ := hA0
 have hA : DataW.TrodAll enc Try.prog W 0 (fun _ => true) true Try.f3.params.toList args.toList ds p := hA0
 rw [Try.params3] at hA hval
 obtain ⟨v0, vs0, d0, ds0, p0, q0, ea0, rfl, rfl, h0, hr0⟩ := trodAll_cons hA
 obtain ⟨v1, vs1, d1, ds1, p1, q1, ea1, rfl, rfl, h1, hr1⟩ := trodAll_cons hr0
 obtain ⟨v2, vs2, d2, ds2, p2, q2, ea2, rfl, rfl, h2, hr2⟩ := trodAll_cons hr1
 obtain ⟨v3, vs3, d3, ds3, p3, q3, ea3, rfl, rfl, h3, hr3⟩ := trodAll_cons hr2
 obtain ⟨ez, rfl, rfl⟩ := trodAll_nil hr3
 obtain rfl : args = #[v0, v1, v2, v3] := by cases args; simp_all
 obtain ⟨rfl, rfl⟩ := trodVars_none hV
 obtain ⟨a0, r0, s0, w0⟩ := Opn.agg Try.underlying23 (fun N => Opn.mx Try.underlying23 rfl Try.underlying2 (by kernel_rfl) (by kernel_rfl) N) (hval 0 _ v0 rfl rfl) h0
 obtain ⟨a1, r1, s1, w1⟩ := Opn.agg Try.underlying23 (fun N => Opn.mx Try.underlying23 rfl Try.underlying2 (by kernel_rfl) (by kernel_rfl) N) (hval 1 _ v1 rfl rfl) h1
 obtain ⟨a2, r2, s2, w2⟩ := Opn.agg Try.underlying23 (fun N => Opn.mx Try.underlying23 rfl Try.underlying2 (by kernel_rfl) (by kernel_rfl) N) (hval 2 _ v2 rfl rfl) h2
 obtain ⟨a3, r3, s3, w3⟩ := Opn.agg Try.underlying25 (fun N => Opn.pt Try.underlying25 rfl Try.underlying2 (by kernel_rfl) (by kernel_rfl) N) (hval 3 _ v3 rfl rfl) h3
 have hc := FnP.below (c_law_TopWays [] a0 a1 a2 a3) (m := gmA W) (vs := [v0, v1, v2, v3]) rfl (gstartA0 W) rfl
  (repl_cons (r0) (repl_cons (r1) (repl_cons (r2) (repl_cons (r3) repl_nil))))
 refine hc.mono fun e W' ⟨he, hb⟩ => ⟨_, he, ?_⟩
 exact law_post laidOut rfl Try.underlying4 (by kernel_rfl) rfl rfl hW hb
theorem topWays_holds : Rows.TopWaysSaid :=
 OpenClaim.holds_of_wide 3 Try.f3 rfl rfl rfl rfl rfl rfl rfl ⟨rfl, rfl, rfl, rfl, rfl⟩ rfl rfl rfl rfl rfl (by kernel_rfl) Try.func3 (by kernel_rfl)
  (of_decide_eq_true (by kernel_rfl)) (by unfold Func.isWrapper; first | (rw [if_pos (by decide +kernel)]; kernel_rfl) | (rw [if_neg (by decide +kernel)]; exact ⟨rfl, rfl⟩))
  (fun os started H enc _ => topWays_lifted os started H enc)
end Go.Proofs.Ytldekaaiippfkaa
