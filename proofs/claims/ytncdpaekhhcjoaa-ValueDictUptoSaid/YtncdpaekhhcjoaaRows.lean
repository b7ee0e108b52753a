/-
  NARROWER THAN 'FOR EVERY INPUT', by the rows' own cells (each row's printed sentence says how): DocsDiff: loops · DocsPaths: loops · DocsPut: loops · GraphCloses: loops · GraphDrops: loops · ValueSet: loops · ValueSwaps: loops · ValueDict: loops · GraphAdds: loops.
  DERIVED. THE GIVEN ROWS OF THIS SEAT. 9 by the template 'for every input the law returns true; each argument reads behind the call as it read before'; 0 by the template 'total and deterministic' (their statements: YtncdpaekhhcjoaaTotals.lean).
  GIVEN WITH THE SEED: the statements are not yours to turn. If you find one false, say at which input.
  Laid BY PROGRAM, IN A SANDBOX (cutbox-rows.mjs): the forced cells as the released guide's own fill.sh prints them over the translation ede40f49e6c76bcc… (all of the seat's roots in one cut). By AI agents, Wed Nov 11 2026. No macro, syntax, notation, axiom, sorry.
-/
import Derived.Test.YtncdpaekhhcjoaaChecked
import GoSem.Claim
import GoSem.ClaimJoined
import GoSem.ClaimMapViews
import Derived.JoinedTies
import Derived.KernelRfl
namespace Go.Proofs.Ytncdpaekhhcjoaa
/- THE CELL 'sum', in the pinned program and in every row, IS THE sha256 OF THE DUMP (.gsa) THAT YtncdpaekhhcjoaaProg.lean LOADS. Nothing in Lean hashes anything: it is a label: what it is worth is what the hold of that sum in a sandbox is worth. -/
noncomputable def Try.pinned : Pinned := { name := "ytncdpaekhhcjoaa", sum := "ede40f49e6c76bcc18238ea180cab6262d663e17c07c001b33cefe106e237185", checked := Try.checked }
namespace Rows
def none {H : Type} : Left H := { results := [], args := [] }

/-- 'foliantlaw19.DocsDiff': WHATEVER THE INPUT: true; the input reads as it did. -/
def docsDiffSpec : ChangeSpec := { name := "docsDiff", fn := fun _ => fun
  | [d1, d2] => { results := [.lit (.bool true)], args := [d1, d2] }
  | _ => none }
def docsDiffRow : OpenClaim := { program := "ytncdpaekhhcjoaa", sum := "ede40f49e6c76bcc18238ea180cab6262d663e17c07c001b33cefe106e237185", func := "foliant/foliantlaw19.DocsDiff", spec := "docsDiff", inPlace := ["internal/bytealg.IndexByteString", "slices.overlaps[foliant/api.Item]"], unfollowed := true, recurses := true, loops := true, apart := false }
def DocsDiffSaid : Prop := docsDiffRow.holds Try.pinned (OpenSpec.ofChange docsDiffSpec)

/-- ITS FALSE NEIGHBOUR: 'it returns false'. Refute it at one input. -/
def docsDiffWrong : ChangeSpec := { name := "docsDiff", fn := fun _ => fun
  | [d1, d2] => { results := [.lit (.bool false)], args := [d1, d2] }
  | _ => none }
def DocsDiffWrongFalsely : Prop := docsDiffRow.holds Try.pinned (OpenSpec.ofChange docsDiffWrong)

/-- 'foliantlaw19.DocsPaths': WHATEVER THE INPUT: true; the input reads as it did. -/
def docsPathsSpec : ChangeSpec := { name := "docsPaths", fn := fun _ => fun
  | [d1, d2, d3, d4] => { results := [.lit (.bool true)], args := [d1, d2, d3, d4] }
  | _ => none }
def docsPathsRow : OpenClaim := { program := "ytncdpaekhhcjoaa", sum := "ede40f49e6c76bcc18238ea180cab6262d663e17c07c001b33cefe106e237185", func := "foliant/foliantlaw19.DocsPaths", spec := "docsPaths", inPlace := ["internal/bytealg.IndexByteString", "slices.overlaps[foliant/api.Item]"], unfollowed := true, recurses := true, loops := true, apart := false }
def DocsPathsSaid : Prop := docsPathsRow.holds Try.pinned (OpenSpec.ofChange docsPathsSpec)

/-- ITS FALSE NEIGHBOUR: 'it returns false'. Refute it at one input. -/
def docsPathsWrong : ChangeSpec := { name := "docsPaths", fn := fun _ => fun
  | [d1, d2, d3, d4] => { results := [.lit (.bool false)], args := [d1, d2, d3, d4] }
  | _ => none }
def DocsPathsWrongFalsely : Prop := docsPathsRow.holds Try.pinned (OpenSpec.ofChange docsPathsWrong)

/-- 'foliantlaw19.DocsPut': WHATEVER THE INPUT: true; the input reads as it did. -/
def docsPutSpec : ChangeSpec := { name := "docsPut", fn := fun _ => fun
  | [d1, d2, d3] => { results := [.lit (.bool true)], args := [d1, d2, d3] }
  | _ => none }
def docsPutRow : OpenClaim := { program := "ytncdpaekhhcjoaa", sum := "ede40f49e6c76bcc18238ea180cab6262d663e17c07c001b33cefe106e237185", func := "foliant/foliantlaw19.DocsPut", spec := "docsPut", inPlace := ["internal/bytealg.IndexByteString", "slices.overlaps[foliant/api.Item]"], unfollowed := true, recurses := true, loops := true, apart := false }
def DocsPutSaid : Prop := docsPutRow.holds Try.pinned (OpenSpec.ofChange docsPutSpec)

/-- ITS FALSE NEIGHBOUR: 'it returns false'. Refute it at one input. -/
def docsPutWrong : ChangeSpec := { name := "docsPut", fn := fun _ => fun
  | [d1, d2, d3] => { results := [.lit (.bool false)], args := [d1, d2, d3] }
  | _ => none }
def DocsPutWrongFalsely : Prop := docsPutRow.holds Try.pinned (OpenSpec.ofChange docsPutWrong)

/-- 'foliantlaw29.GraphCloses': WHATEVER THE INPUT: true; the input reads as it did. -/
def graphClosesSpec : ChangeSpec := { name := "graphCloses", fn := fun _ => fun
  | [d] => { results := [.lit (.bool true)], args := [d] }
  | _ => none }
def graphClosesRow : OpenClaim := { program := "ytncdpaekhhcjoaa", sum := "ede40f49e6c76bcc18238ea180cab6262d663e17c07c001b33cefe106e237185", func := "foliant/foliantlaw29.GraphCloses", spec := "graphCloses", inPlace := ["internal/bytealg.IndexByteString"], unfollowed := true, recurses := true, loops := true, apart := false }
def GraphClosesSaid : Prop := graphClosesRow.holds Try.pinned (OpenSpec.ofChange graphClosesSpec)

/-- ITS FALSE NEIGHBOUR: 'it returns false'. Refute it at one input. -/
def graphClosesWrong : ChangeSpec := { name := "graphCloses", fn := fun _ => fun
  | [d] => { results := [.lit (.bool false)], args := [d] }
  | _ => none }
def GraphClosesWrongFalsely : Prop := graphClosesRow.holds Try.pinned (OpenSpec.ofChange graphClosesWrong)

/-- 'foliantlaw29.GraphDrops': WHATEVER THE INPUT: true; the input reads as it did. -/
def graphDropsSpec : ChangeSpec := { name := "graphDrops", fn := fun _ => fun
  | [d1, d2] => { results := [.lit (.bool true)], args := [d1, d2] }
  | _ => none }
def graphDropsRow : OpenClaim := { program := "ytncdpaekhhcjoaa", sum := "ede40f49e6c76bcc18238ea180cab6262d663e17c07c001b33cefe106e237185", func := "foliant/foliantlaw29.GraphDrops", spec := "graphDrops", inPlace := ["internal/bytealg.IndexByteString"], unfollowed := true, recurses := true, loops := true, apart := false }
def GraphDropsSaid : Prop := graphDropsRow.holds Try.pinned (OpenSpec.ofChange graphDropsSpec)

/-- ITS FALSE NEIGHBOUR: 'it returns false'. Refute it at one input. -/
def graphDropsWrong : ChangeSpec := { name := "graphDrops", fn := fun _ => fun
  | [d1, d2] => { results := [.lit (.bool false)], args := [d1, d2] }
  | _ => none }
def GraphDropsWrongFalsely : Prop := graphDropsRow.holds Try.pinned (OpenSpec.ofChange graphDropsWrong)

/-- 'foliantlaw05.ValueSet': WHATEVER THE INPUT: true; the input reads as it did. -/
def valueSetSpec : ChangeSpec := { name := "valueSet", fn := fun _ => fun
  | [d1, d2, d3, d4, d5] => { results := [.lit (.bool true)], args := [d1, d2, d3, d4, d5] }
  | _ => none }
def valueSetRow : OpenClaim := { program := "ytncdpaekhhcjoaa", sum := "ede40f49e6c76bcc18238ea180cab6262d663e17c07c001b33cefe106e237185", func := "foliant/foliantlaw05.ValueSet", spec := "valueSet", inPlace := ["slices.overlaps[string]", "slices.overlaps[foliant/api.Object]", "internal/bytealg.IndexByteString"], unfollowed := true, recurses := true, loops := true, apart := false }
def ValueSetSaid : Prop := valueSetRow.holds Try.pinned (OpenSpec.ofChange valueSetSpec)

/-- ITS FALSE NEIGHBOUR: 'it returns false'. Refute it at one input. -/
def valueSetWrong : ChangeSpec := { name := "valueSet", fn := fun _ => fun
  | [d1, d2, d3, d4, d5] => { results := [.lit (.bool false)], args := [d1, d2, d3, d4, d5] }
  | _ => none }
def ValueSetWrongFalsely : Prop := valueSetRow.holds Try.pinned (OpenSpec.ofChange valueSetWrong)

/-- 'foliantlaw05.ValueSwaps': WHATEVER THE INPUT: true; the input reads as it did. -/
def valueSwapsSpec : ChangeSpec := { name := "valueSwaps", fn := fun _ => fun
  | [d1, d2] => { results := [.lit (.bool true)], args := [d1, d2] }
  | _ => none }
def valueSwapsRow : OpenClaim := { program := "ytncdpaekhhcjoaa", sum := "ede40f49e6c76bcc18238ea180cab6262d663e17c07c001b33cefe106e237185", func := "foliant/foliantlaw05.ValueSwaps", spec := "valueSwaps", inPlace := ["slices.overlaps[string]", "slices.overlaps[foliant/api.Object]", "internal/bytealg.IndexByteString"], unfollowed := true, recurses := true, loops := true, apart := false }
def ValueSwapsSaid : Prop := valueSwapsRow.holds Try.pinned (OpenSpec.ofChange valueSwapsSpec)

/-- ITS FALSE NEIGHBOUR: 'it returns false'. Refute it at one input. -/
def valueSwapsWrong : ChangeSpec := { name := "valueSwaps", fn := fun _ => fun
  | [d1, d2] => { results := [.lit (.bool false)], args := [d1, d2] }
  | _ => none }
def ValueSwapsWrongFalsely : Prop := valueSwapsRow.holds Try.pinned (OpenSpec.ofChange valueSwapsWrong)

/-- 'foliantlaw05.ValueDict': WHATEVER THE INPUT: true; the input reads as it did. -/
def valueDictSpec : ChangeSpec := { name := "valueDict", fn := fun _ => fun
  | [d1, d2, d3] => { results := [.lit (.bool true)], args := [d1, d2, d3] }
  | _ => none }
def valueDictRow : OpenClaim := { program := "ytncdpaekhhcjoaa", sum := "ede40f49e6c76bcc18238ea180cab6262d663e17c07c001b33cefe106e237185", func := "foliant/foliantlaw05.ValueDict", spec := "valueDict", inPlace := ["slices.overlaps[string]", "slices.overlaps[foliant/api.Object]", "internal/bytealg.IndexByteString"], unfollowed := true, recurses := true, loops := true, apart := false }
def ValueDictSaid : Prop := valueDictRow.holds Try.pinned (OpenSpec.ofChange valueDictSpec)

/-- ITS FALSE NEIGHBOUR: 'it returns false'. Refute it at one input. -/
def valueDictWrong : ChangeSpec := { name := "valueDict", fn := fun _ => fun
  | [d1, d2, d3] => { results := [.lit (.bool false)], args := [d1, d2, d3] }
  | _ => none }
def ValueDictWrongFalsely : Prop := valueDictRow.holds Try.pinned (OpenSpec.ofChange valueDictWrong)

/-- 'foliantlaw29.GraphAdds': WHATEVER THE INPUT: true; the input reads as it did. -/
def graphAddsSpec : ChangeSpec := { name := "graphAdds", fn := fun _ => fun
  | [d1, d2] => { results := [.lit (.bool true)], args := [d1, d2] }
  | _ => none }
def graphAddsRow : OpenClaim := { program := "ytncdpaekhhcjoaa", sum := "ede40f49e6c76bcc18238ea180cab6262d663e17c07c001b33cefe106e237185", func := "foliant/foliantlaw29.GraphAdds", spec := "graphAdds", inPlace := ["internal/bytealg.IndexByteString", "slices.overlaps[foliant/api.Item]"], unfollowed := true, recurses := true, loops := true, apart := false }
def GraphAddsSaid : Prop := graphAddsRow.holds Try.pinned (OpenSpec.ofChange graphAddsSpec)

/-- ITS FALSE NEIGHBOUR: 'it returns false'. Refute it at one input. -/
def graphAddsWrong : ChangeSpec := { name := "graphAdds", fn := fun _ => fun
  | [d1, d2] => { results := [.lit (.bool false)], args := [d1, d2] }
  | _ => none }
def GraphAddsWrongFalsely : Prop := graphAddsRow.holds Try.pinned (OpenSpec.ofChange graphAddsWrong)

/- THE SECOND FORM. 'bulk': how many values and letters a reading holds, each counted each time it is reached (what is shared counts as often as it is met; a slice's spare places count too). A statement '..UptoSaid' is the law's where the arguments, and the package variables that the reading takes, are together of bulk at most 1048576: NARROWER than '..Said'. Prove '..Said' where nothing that the law and all that it calls make is longer than what came in: it says more and counts as full. Else prove '..UptoSaid'. A law counts once. -/
mutual
def uptoBulk {H : Type} : DataW H → Nat
  | .lit (.string bytes) => bytes.length + 1
  | .lit _ => 1
  | .nil => 1
  | .ptr d => uptoBulk d + 1
  | .slice elems spare => uptoBulkAll elems + uptoBulkAll spare + 1
  | .agg parts => uptoBulkAll parts + 1
  | .iface _ d => uptoBulk d + 1
  | .map entries => uptoBulkEntries entries + 1
  | .held _ => 1
def uptoBulkAll {H : Type} : List (DataW H) → Nat
  | [] => 0
  | d :: r => uptoBulk d + uptoBulkAll r
def uptoBulkEntries {H : Type} : List (Lit × DataW H) → Nat
  | [] => 0
  | x :: r => uptoBulkEntry x + uptoBulkEntries r
def uptoBulkEntry {H : Type} : Lit × DataW H → Nat
  | (.string bytes, d) => bytes.length + uptoBulk d + 1
  | (_, d) => uptoBulk d + 1
 end
def uptoSmall : (H : Type) → List (DataW H) → Bool := fun _ ds => decide (uptoBulkAll ds ≤ 1048576)
def OpenSpec.upto (s : _root_.Go.ChangeSpec) : _root_.Go.OpenSpec := { _root_.Go.OpenSpec.ofChange s with cond := some uptoSmall }

/-- 'foliantlaw19.DocsDiff', WHERE WHAT IT READS IS OF BULK AT MOST 1048576: true; the input reads as it did. -/
def docsDiffUptoRow : OpenClaim := { program := "ytncdpaekhhcjoaa", sum := "ede40f49e6c76bcc18238ea180cab6262d663e17c07c001b33cefe106e237185", func := "foliant/foliantlaw19.DocsDiff", spec := "docsDiff", inPlace := ["internal/bytealg.IndexByteString", "slices.overlaps[foliant/api.Item]"], unfollowed := true, recurses := true, loops := true, apart := false, narrowed := true }
def DocsDiffUptoSaid : Prop := docsDiffUptoRow.holds Try.pinned (OpenSpec.upto docsDiffSpec)

/-- 'foliantlaw19.DocsPaths', WHERE WHAT IT READS IS OF BULK AT MOST 1048576: true; the input reads as it did. -/
def docsPathsUptoRow : OpenClaim := { program := "ytncdpaekhhcjoaa", sum := "ede40f49e6c76bcc18238ea180cab6262d663e17c07c001b33cefe106e237185", func := "foliant/foliantlaw19.DocsPaths", spec := "docsPaths", inPlace := ["internal/bytealg.IndexByteString", "slices.overlaps[foliant/api.Item]"], unfollowed := true, recurses := true, loops := true, apart := false, narrowed := true }
def DocsPathsUptoSaid : Prop := docsPathsUptoRow.holds Try.pinned (OpenSpec.upto docsPathsSpec)

/-- 'foliantlaw19.DocsPut', WHERE WHAT IT READS IS OF BULK AT MOST 1048576: true; the input reads as it did. -/
def docsPutUptoRow : OpenClaim := { program := "ytncdpaekhhcjoaa", sum := "ede40f49e6c76bcc18238ea180cab6262d663e17c07c001b33cefe106e237185", func := "foliant/foliantlaw19.DocsPut", spec := "docsPut", inPlace := ["internal/bytealg.IndexByteString", "slices.overlaps[foliant/api.Item]"], unfollowed := true, recurses := true, loops := true, apart := false, narrowed := true }
def DocsPutUptoSaid : Prop := docsPutUptoRow.holds Try.pinned (OpenSpec.upto docsPutSpec)

/-- 'foliantlaw29.GraphCloses', WHERE WHAT IT READS IS OF BULK AT MOST 1048576: true; the input reads as it did. -/
def graphClosesUptoRow : OpenClaim := { program := "ytncdpaekhhcjoaa", sum := "ede40f49e6c76bcc18238ea180cab6262d663e17c07c001b33cefe106e237185", func := "foliant/foliantlaw29.GraphCloses", spec := "graphCloses", inPlace := ["internal/bytealg.IndexByteString"], unfollowed := true, recurses := true, loops := true, apart := false, narrowed := true }
def GraphClosesUptoSaid : Prop := graphClosesUptoRow.holds Try.pinned (OpenSpec.upto graphClosesSpec)

/-- 'foliantlaw29.GraphDrops', WHERE WHAT IT READS IS OF BULK AT MOST 1048576: true; the input reads as it did. -/
def graphDropsUptoRow : OpenClaim := { program := "ytncdpaekhhcjoaa", sum := "ede40f49e6c76bcc18238ea180cab6262d663e17c07c001b33cefe106e237185", func := "foliant/foliantlaw29.GraphDrops", spec := "graphDrops", inPlace := ["internal/bytealg.IndexByteString"], unfollowed := true, recurses := true, loops := true, apart := false, narrowed := true }
def GraphDropsUptoSaid : Prop := graphDropsUptoRow.holds Try.pinned (OpenSpec.upto graphDropsSpec)

/-- 'foliantlaw05.ValueSet', WHERE WHAT IT READS IS OF BULK AT MOST 1048576: true; the input reads as it did. -/
def valueSetUptoRow : OpenClaim := { program := "ytncdpaekhhcjoaa", sum := "ede40f49e6c76bcc18238ea180cab6262d663e17c07c001b33cefe106e237185", func := "foliant/foliantlaw05.ValueSet", spec := "valueSet", inPlace := ["slices.overlaps[string]", "slices.overlaps[foliant/api.Object]", "internal/bytealg.IndexByteString"], unfollowed := true, recurses := true, loops := true, apart := false, narrowed := true }
def ValueSetUptoSaid : Prop := valueSetUptoRow.holds Try.pinned (OpenSpec.upto valueSetSpec)

/-- 'foliantlaw05.ValueSwaps', WHERE WHAT IT READS IS OF BULK AT MOST 1048576: true; the input reads as it did. -/
def valueSwapsUptoRow : OpenClaim := { program := "ytncdpaekhhcjoaa", sum := "ede40f49e6c76bcc18238ea180cab6262d663e17c07c001b33cefe106e237185", func := "foliant/foliantlaw05.ValueSwaps", spec := "valueSwaps", inPlace := ["slices.overlaps[string]", "slices.overlaps[foliant/api.Object]", "internal/bytealg.IndexByteString"], unfollowed := true, recurses := true, loops := true, apart := false, narrowed := true }
def ValueSwapsUptoSaid : Prop := valueSwapsUptoRow.holds Try.pinned (OpenSpec.upto valueSwapsSpec)

/-- 'foliantlaw05.ValueDict', WHERE WHAT IT READS IS OF BULK AT MOST 1048576: true; the input reads as it did. -/
def valueDictUptoRow : OpenClaim := { program := "ytncdpaekhhcjoaa", sum := "ede40f49e6c76bcc18238ea180cab6262d663e17c07c001b33cefe106e237185", func := "foliant/foliantlaw05.ValueDict", spec := "valueDict", inPlace := ["slices.overlaps[string]", "slices.overlaps[foliant/api.Object]", "internal/bytealg.IndexByteString"], unfollowed := true, recurses := true, loops := true, apart := false, narrowed := true }
def ValueDictUptoSaid : Prop := valueDictUptoRow.holds Try.pinned (OpenSpec.upto valueDictSpec)

/-- 'foliantlaw29.GraphAdds', WHERE WHAT IT READS IS OF BULK AT MOST 1048576: true; the input reads as it did. -/
def graphAddsUptoRow : OpenClaim := { program := "ytncdpaekhhcjoaa", sum := "ede40f49e6c76bcc18238ea180cab6262d663e17c07c001b33cefe106e237185", func := "foliant/foliantlaw29.GraphAdds", spec := "graphAdds", inPlace := ["internal/bytealg.IndexByteString", "slices.overlaps[foliant/api.Item]"], unfollowed := true, recurses := true, loops := true, apart := false, narrowed := true }
def GraphAddsUptoSaid : Prop := graphAddsUptoRow.holds Try.pinned (OpenSpec.upto graphAddsSpec)

end Rows
end Go.Proofs.Ytncdpaekhhcjoaa
