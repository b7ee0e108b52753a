/-
  NARROWER THAN 'FOR EVERY INPUT', by the rows' own cells (each row's printed sentence says how): DocsTell: loops · GraphTells: loops · ValueTells: loops.
  DERIVED. THE GIVEN ROWS OF THIS SEAT. 3 by the template 'for every input the law returns true; each argument reads behind the call as it read before'; 0 by the template 'total and deterministic' (their statements: YtncdpaekhhcjoaaGreatTotals.lean).
  GIVEN WITH THE SEED: the statements are not yours to turn. If you find one false, say at which input.
  Laid BY PROGRAM, IN A SANDBOX (cutbox-rows.mjs): the forced cells as the released guide's own fill.sh prints them over the translation b222ae0433edf129… (all of the seat's roots in one cut). By AI agents, Wed Nov 11 2026. No macro, syntax, notation, axiom, sorry.
-/
import Derived.Test.YtncdpaekhhcjoaaGreatChecked
import GoSem.Claim
import GoSem.ClaimJoined
import GoSem.ClaimMapViews
import Derived.JoinedTies
import Derived.KernelRfl
namespace Go.Proofs.YtncdpaekhhcjoaaGreat
/- THE CELL 'sum', in the pinned program and in every row, IS THE sha256 OF THE DUMP (.gsa) THAT YtncdpaekhhcjoaaGreatProg.lean LOADS. Nothing in Lean hashes anything: it is a label: what it is worth is what the hold of that sum in a sandbox is worth. -/
noncomputable def Tryz.pinned : Pinned := { name := "ytncdpaekhhcjoaagreat", sum := "b222ae0433edf129cc57d2af7c59b53bf6ea8e1f3af2ca57becb5c0f170ec5d8", checked := Tryz.checked }
namespace Rows
def none {H : Type} : Left H := { results := [], args := [] }

/-- 'foliantlaw19.DocsTell': WHATEVER THE INPUT: true; the input reads as it did. -/
def docsTellSpec : ChangeSpec := { name := "docsTell", fn := fun _ => fun
  | [d1, d2, d3, d4, d5, d6] => { results := [.lit (.bool true)], args := [d1, d2, d3, d4, d5, d6] }
  | _ => none }
def docsTellRow : OpenClaim := { program := "ytncdpaekhhcjoaagreat", sum := "b222ae0433edf129cc57d2af7c59b53bf6ea8e1f3af2ca57becb5c0f170ec5d8", func := "foliant/foliantlaw19.DocsTell", spec := "docsTell", inPlace := ["internal/bytealg.IndexByteString", "slices.overlaps[foliant/api.Item]"], unfollowed := true, recurses := true, loops := true, apart := false }
def DocsTellSaid : Prop := docsTellRow.holds Tryz.pinned (OpenSpec.ofChange docsTellSpec)

/-- ITS FALSE NEIGHBOUR: 'it returns false'. Refute it at one input. -/
def docsTellWrong : ChangeSpec := { name := "docsTell", fn := fun _ => fun
  | [d1, d2, d3, d4, d5, d6] => { results := [.lit (.bool false)], args := [d1, d2, d3, d4, d5, d6] }
  | _ => none }
def DocsTellWrongFalsely : Prop := docsTellRow.holds Tryz.pinned (OpenSpec.ofChange docsTellWrong)

/-- 'foliantlaw29.GraphTells': WHATEVER THE INPUT: true; the input reads as it did. -/
def graphTellsSpec : ChangeSpec := { name := "graphTells", fn := fun _ => fun
  | [d1, d2, d3] => { results := [.lit (.bool true)], args := [d1, d2, d3] }
  | _ => none }
def graphTellsRow : OpenClaim := { program := "ytncdpaekhhcjoaagreat", sum := "b222ae0433edf129cc57d2af7c59b53bf6ea8e1f3af2ca57becb5c0f170ec5d8", func := "foliant/foliantlaw29.GraphTells", spec := "graphTells", inPlace := ["internal/bytealg.IndexByteString"], unfollowed := true, recurses := true, loops := true, apart := false }
def GraphTellsSaid : Prop := graphTellsRow.holds Tryz.pinned (OpenSpec.ofChange graphTellsSpec)

/-- ITS FALSE NEIGHBOUR: 'it returns false'. Refute it at one input. -/
def graphTellsWrong : ChangeSpec := { name := "graphTells", fn := fun _ => fun
  | [d1, d2, d3] => { results := [.lit (.bool false)], args := [d1, d2, d3] }
  | _ => none }
def GraphTellsWrongFalsely : Prop := graphTellsRow.holds Tryz.pinned (OpenSpec.ofChange graphTellsWrong)

/-- 'foliantlaw05.ValueTells': WHATEVER THE INPUT: true; the input reads as it did. -/
def valueTellsSpec : ChangeSpec := { name := "valueTells", fn := fun _ => fun
  | [d1, d2, d3, d4, d5, d6, d7] => { results := [.lit (.bool true)], args := [d1, d2, d3, d4, d5, d6, d7] }
  | _ => none }
def valueTellsRow : OpenClaim := { program := "ytncdpaekhhcjoaagreat", sum := "b222ae0433edf129cc57d2af7c59b53bf6ea8e1f3af2ca57becb5c0f170ec5d8", func := "foliant/foliantlaw05.ValueTells", spec := "valueTells", inPlace := ["slices.overlaps[string]", "slices.overlaps[foliant/api.Object]", "internal/bytealg.IndexByteString"], unfollowed := true, recurses := true, loops := true, apart := false }
def ValueTellsSaid : Prop := valueTellsRow.holds Tryz.pinned (OpenSpec.ofChange valueTellsSpec)

/-- ITS FALSE NEIGHBOUR: 'it returns false'. Refute it at one input. -/
def valueTellsWrong : ChangeSpec := { name := "valueTells", fn := fun _ => fun
  | [d1, d2, d3, d4, d5, d6, d7] => { results := [.lit (.bool false)], args := [d1, d2, d3, d4, d5, d6, d7] }
  | _ => none }
def ValueTellsWrongFalsely : Prop := valueTellsRow.holds Tryz.pinned (OpenSpec.ofChange valueTellsWrong)

/- THE SECOND FORM. 'bulk': how many values and letters a reading holds, each counted each time it is reached (what is shared counts as often as it is met; a slice's spare places count too). A statement '..UptoSaid' is the law's where the arguments, and the package variables that the reading takes, are together of bulk at most 1048576: NARROWER than '..Said'. Prove '..Said' where nothing that the law and all that it calls make is longer than what came in: it says more and counts as full. Else prove '..UptoSaid'. A law counts once. -/
mutual
def uptoBulk {H : Type} : DataW H → Nat
  | .lit (.string bytes) => bytes.length + 1
  | .lit _ => 1
  | .nil => 1
  | .ptr d => uptoBulk d + 1
  | .slice elems spare => uptoBulkAll elems + uptoBulkAll spare + 1
  | .agg parts => uptoBulkAll parts + 1
  | .iface _ d => uptoBulk d + 1
  | .map entries => uptoBulkEntries entries + 1
  | .held _ => 1
def uptoBulkAll {H : Type} : List (DataW H) → Nat
  | [] => 0
  | d :: r => uptoBulk d + uptoBulkAll r
def uptoBulkEntries {H : Type} : List (Lit × DataW H) → Nat
  | [] => 0
  | x :: r => uptoBulkEntry x + uptoBulkEntries r
def uptoBulkEntry {H : Type} : Lit × DataW H → Nat
  | (.string bytes, d) => bytes.length + uptoBulk d + 1
  | (_, d) => uptoBulk d + 1
 end
def uptoSmall : (H : Type) → List (DataW H) → Bool := fun _ ds => decide (uptoBulkAll ds ≤ 1048576)
def OpenSpec.upto (s : _root_.Go.ChangeSpec) : _root_.Go.OpenSpec := { _root_.Go.OpenSpec.ofChange s with cond := some uptoSmall }

/-- 'foliantlaw19.DocsTell', WHERE WHAT IT READS IS OF BULK AT MOST 1048576: true; the input reads as it did. -/
def docsTellUptoRow : OpenClaim := { program := "ytncdpaekhhcjoaagreat", sum := "b222ae0433edf129cc57d2af7c59b53bf6ea8e1f3af2ca57becb5c0f170ec5d8", func := "foliant/foliantlaw19.DocsTell", spec := "docsTell", inPlace := ["internal/bytealg.IndexByteString", "slices.overlaps[foliant/api.Item]"], unfollowed := true, recurses := true, loops := true, apart := false, narrowed := true }
def DocsTellUptoSaid : Prop := docsTellUptoRow.holds Tryz.pinned (OpenSpec.upto docsTellSpec)

/-- 'foliantlaw29.GraphTells', WHERE WHAT IT READS IS OF BULK AT MOST 1048576: true; the input reads as it did. -/
def graphTellsUptoRow : OpenClaim := { program := "ytncdpaekhhcjoaagreat", sum := "b222ae0433edf129cc57d2af7c59b53bf6ea8e1f3af2ca57becb5c0f170ec5d8", func := "foliant/foliantlaw29.GraphTells", spec := "graphTells", inPlace := ["internal/bytealg.IndexByteString"], unfollowed := true, recurses := true, loops := true, apart := false, narrowed := true }
def GraphTellsUptoSaid : Prop := graphTellsUptoRow.holds Tryz.pinned (OpenSpec.upto graphTellsSpec)

/-- 'foliantlaw05.ValueTells', WHERE WHAT IT READS IS OF BULK AT MOST 1048576: true; the input reads as it did. -/
def valueTellsUptoRow : OpenClaim := { program := "ytncdpaekhhcjoaagreat", sum := "b222ae0433edf129cc57d2af7c59b53bf6ea8e1f3af2ca57becb5c0f170ec5d8", func := "foliant/foliantlaw05.ValueTells", spec := "valueTells", inPlace := ["slices.overlaps[string]", "slices.overlaps[foliant/api.Object]", "internal/bytealg.IndexByteString"], unfollowed := true, recurses := true, loops := true, apart := false, narrowed := true }
def ValueTellsUptoSaid : Prop := valueTellsUptoRow.holds Tryz.pinned (OpenSpec.upto valueTellsSpec)

end Rows
end Go.Proofs.YtncdpaekhhcjoaaGreat
