/- ShiftKeeps: true of every argument of at most so much. -/
import Derived.Test.YtlamdhcfojligaaGreatPart8
namespace Go.Proofs.YtlamdhcfojligaaGreat
open Go Aw Go.ChangeShapes Go.WideShapes Go.ChangeAt Go.RowKit
open Go.ChangeMaps (open_string shut_string)
set_option maxRecDepth 100000 in
theorem shiftKeeps_lifted (os : Os) (started : os.Started) (H : Type) (enc : TypeId × Value → H) (F : Stop.Interp) :
  ReturnsInHanded {} Tryz.checked os 6 .any ((Rows.OpenSpec.upto Rows.shiftKeepsSpec).pre6 enc Tryz.prog Tryz.f6 Rows.shiftKeepsUptoRow.domain false) (((Rows.OpenSpec.upto Rows.shiftKeepsSpec).at F).post enc Tryz.prog Tryz.f6 false true false false) := by
 refine returnsInHanded_of_cond (C := Tryz.checked) (s := Rows.OpenSpec.upto Rows.shiftKeepsSpec) (k := Rows.uptoSmall) rfl own started (by kernel_rfl) Tryz.func6
  (OpenSpec.witness (enc := enc) (C := Tryz.checked) (s := Rows.OpenSpec.upto Rows.shiftKeepsSpec) (k := Rows.uptoSmall) rfl false ⟨#[], #[.agg #[.slice none 0 0, .int .i64 0, .int .i64 0, .int .i64 0, .string .empty, .slice none 0 0, .slice none 0 0], .agg #[.slice none 0 0, .int .i64 0, .int .i64 0, .int .i64 0, .string .empty, .slice none 0 0, .slice none 0 0], .agg #[.int .i64 0, .int .i64 0, .int .i64 0, .string .empty, .slice none 0 0, .slice none 0 0]], []⟩ 8 (by kernel_rfl) (by kernel_rfl) (by kernel_rfl)
   (x := ([.agg [.nil, .agg [.lit (.int .i64 0), .lit (.int .i64 0), .lit (.int .i64 0), .lit (.string []), .nil, .nil]], .agg [.nil, .agg [.lit (.int .i64 0), .lit (.int .i64 0), .lit (.int .i64 0), .lit (.string []), .nil, .nil]], .agg [.lit (.int .i64 0), .lit (.int .i64 0), .lit (.int .i64 0), .lit (.string []), .nil, .nil]], [], [])) (by kernel_rfl) rfl (by kernel_rfl)) ?_
 intro W base args ds gs before hval0 hW _ hk _
 have hval : ∀ (j : Nat) t v, Tryz.f6.params[j]? = some t → args[j]? = some v → Value.okWide Tryz.prog W .any base t v := hval0
 have hA0 := hW
 obtain ⟨p, q, hA0, hV, _, hfz, hnd⟩ := hA0
 have hA : DataW.TrodAll enc Tryz.prog W 0 (fun _ => true) true Tryz.f6.params.toList args.toList ds p := hA0
 rw [Tryz.params6] at hA hval
 obtain ⟨v0, vs0, d0, ds0, p0, q0, ea0, rfl, rfl, h0, hr0⟩ := trodAll_cons hA
 obtain ⟨v1, vs1, d1, ds1, p1, q1, ea1, rfl, rfl, h1, hr1⟩ := trodAll_cons hr0
 obtain ⟨v2, vs2, d2, ds2, p2, q2, ea2, rfl, rfl, h2, hr2⟩ := trodAll_cons hr1
 obtain ⟨ez, rfl, rfl⟩ := trodAll_nil hr2
 obtain rfl : args = #[v0, v1, v2] := by cases args; simp_all
 obtain ⟨rfl, rfl⟩ := trodVars_none hV
 have hb : dbulks [d0, d1, d2] ≤ 1048576 := by
  have h1 := dles_upto [d0, d1, d2]
  have h2 : Rows.uptoBulkAll [d0, d1, d2] ≤ 1048576 := of_decide_eq_true hk
  omega
 simp only [dbulks] at hb
 obtain ⟨a0, r0, s0, w0⟩ := Opn.agg Tryz.underlying28 (fun N => Opn.doc docT N) (hval 0 _ v0 rfl rfl) h0
 obtain ⟨a1, r1, s1, w1⟩ := Opn.agg Tryz.underlying28 (fun N => Opn.doc docT N) (hval 1 _ v1 rfl rfl) h1
 obtain ⟨a2, r2, s2, w2⟩ := Opn.agg Tryz.underlying26 (fun N => Opn.obj objT N) (hval 2 _ v2 rfl rfl) h2
 have hc := FnP.below (c_law_ShiftKeeps [] a0 a1 a2 (by omega)) (m := gmA W) (vs := [v0, v1, v2]) rfl (gstartA0 W) rfl
  (repl_cons (r0) (repl_cons (r1) (repl_cons (r2) repl_nil)))
 refine hc.mono fun e W' ⟨he, hb⟩ => ⟨_, he, ?_⟩
 exact law_post laidOut rfl Tryz.underlying4 (by kernel_rfl) rfl rfl hW hb
theorem shiftKeeps_holds : Rows.ShiftKeepsUptoSaid :=
 OpenClaim.holds_of_cond 6 Tryz.f6 rfl rfl rfl rfl rfl rfl rfl ⟨rfl, rfl, rfl, rfl, rfl⟩ rfl rfl rfl rfl rfl (by kernel_rfl) Tryz.func6 (by kernel_rfl)
  (of_decide_eq_true (by kernel_rfl)) (by unfold Func.isWrapper; first | (rw [if_pos (by decide +kernel)]; kernel_rfl) | (rw [if_neg (by decide +kernel)]; exact ⟨rfl, rfl⟩))
  (fun os started H enc _ F => shiftKeeps_lifted os started H enc F)
end Go.Proofs.YtlamdhcfojligaaGreat
