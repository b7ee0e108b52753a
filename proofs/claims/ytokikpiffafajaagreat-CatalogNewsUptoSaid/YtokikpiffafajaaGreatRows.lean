/-
  NARROWER THAN 'FOR EVERY INPUT', by the rows' own cells (each row's printed sentence says how): CatalogTells: loops · CatalogInfo: loops · CatalogRoot: loops.
  DERIVED. THE GIVEN ROWS OF THIS SEAT. 4 by the template 'for every input the law returns true; each argument reads behind the call as it read before'; 0 by the template 'total and deterministic' (their statements: YtokikpiffafajaaGreatTotals.lean).
  GIVEN WITH THE SEED: the statements are not yours to turn. If you find one false, say at which input.
  Laid BY PROGRAM, IN A SANDBOX (cutbox-rows.mjs): the forced cells as the released guide's own fill.sh prints them over the translation ea0a996991f3a5c0… (all of the seat's roots in one cut). By AI agents, Wed Nov 11 2026. No macro, syntax, notation, axiom, sorry.
-/
import Derived.Test.YtokikpiffafajaaGreatChecked
import GoSem.Claim
import GoSem.ClaimJoined
import GoSem.ClaimMapViews
import Derived.JoinedTies
import Derived.KernelRfl
namespace Go.Proofs.YtokikpiffafajaaGreat
/- THE CELL 'sum', in the pinned program and in every row, IS THE sha256 OF THE DUMP (.gsa) THAT YtokikpiffafajaaGreatProg.lean LOADS. Nothing in Lean hashes anything: it is a label: what it is worth is what the hold of that sum in a sandbox is worth. -/
noncomputable def Tryz.pinned : Pinned := { name := "ytokikpiffafajaagreat", sum := "ea0a996991f3a5c0df15f0c42b275fc9acaae0c94ea414a284000be912ce2160", checked := Tryz.checked }
namespace Rows
def none {H : Type} : Left H := { results := [], args := [] }

/-- 'foliantlaw34.CatalogNews': WHATEVER THE INPUT: true; the input reads as it did. -/
def catalogNewsSpec : ChangeSpec := { name := "catalogNews", fn := fun _ => fun
  | [d] => { results := [.lit (.bool true)], args := [d] }
  | _ => none }
def catalogNewsRow : OpenClaim := { program := "ytokikpiffafajaagreat", sum := "ea0a996991f3a5c0df15f0c42b275fc9acaae0c94ea414a284000be912ce2160", func := "foliant/foliantlaw34.CatalogNews", spec := "catalogNews", inPlace := ["slices.overlaps[string]", "slices.overlaps[foliant/api.Object]", "internal/bytealg.IndexByteString", "internal/bytealg.IndexString", "slices.overlaps[foliant/api.Item]"], unfollowed := true, recurses := true, named := ["internal/bytealg.MaxLen"], apart := false }
def CatalogNewsSaid : Prop := catalogNewsRow.holds Tryz.pinned (OpenSpec.ofChange catalogNewsSpec)

/-- ITS FALSE NEIGHBOUR: 'it returns false'. Refute it at one input. -/
def catalogNewsWrong : ChangeSpec := { name := "catalogNews", fn := fun _ => fun
  | [d] => { results := [.lit (.bool false)], args := [d] }
  | _ => none }
def CatalogNewsWrongFalsely : Prop := catalogNewsRow.holds Tryz.pinned (OpenSpec.ofChange catalogNewsWrong)

/-- 'foliantlaw34.CatalogTells': WHATEVER THE INPUT: true; the input reads as it did. -/
def catalogTellsSpec : ChangeSpec := { name := "catalogTells", fn := fun _ => fun
  | [d1, d2, d3, d4] => { results := [.lit (.bool true)], args := [d1, d2, d3, d4] }
  | _ => none }
def catalogTellsRow : OpenClaim := { program := "ytokikpiffafajaagreat", sum := "ea0a996991f3a5c0df15f0c42b275fc9acaae0c94ea414a284000be912ce2160", func := "foliant/foliantlaw34.CatalogTells", spec := "catalogTells", inPlace := ["slices.overlaps[string]", "slices.overlaps[foliant/api.Object]", "internal/bytealg.IndexByteString", "internal/bytealg.IndexString", "slices.overlaps[foliant/api.Item]"], unfollowed := true, recurses := true, named := ["internal/bytealg.MaxLen"], loops := true, apart := false }
def CatalogTellsSaid : Prop := catalogTellsRow.holds Tryz.pinned (OpenSpec.ofChange catalogTellsSpec)

/-- ITS FALSE NEIGHBOUR: 'it returns false'. Refute it at one input. -/
def catalogTellsWrong : ChangeSpec := { name := "catalogTells", fn := fun _ => fun
  | [d1, d2, d3, d4] => { results := [.lit (.bool false)], args := [d1, d2, d3, d4] }
  | _ => none }
def CatalogTellsWrongFalsely : Prop := catalogTellsRow.holds Tryz.pinned (OpenSpec.ofChange catalogTellsWrong)

/-- 'foliantlaw34.CatalogInfo': WHATEVER THE INPUT: true; the input reads as it did. -/
def catalogInfoSpec : ChangeSpec := { name := "catalogInfo", fn := fun _ => fun
  | [d1, d2, d3, d4] => { results := [.lit (.bool true)], args := [d1, d2, d3, d4] }
  | _ => none }
def catalogInfoRow : OpenClaim := { program := "ytokikpiffafajaagreat", sum := "ea0a996991f3a5c0df15f0c42b275fc9acaae0c94ea414a284000be912ce2160", func := "foliant/foliantlaw34.CatalogInfo", spec := "catalogInfo", inPlace := ["slices.overlaps[string]", "slices.overlaps[foliant/api.Object]", "internal/bytealg.IndexByteString", "internal/bytealg.IndexString", "slices.overlaps[foliant/api.Item]"], unfollowed := true, recurses := true, named := ["internal/bytealg.MaxLen"], loops := true, apart := false }
def CatalogInfoSaid : Prop := catalogInfoRow.holds Tryz.pinned (OpenSpec.ofChange catalogInfoSpec)

/-- ITS FALSE NEIGHBOUR: 'it returns false'. Refute it at one input. -/
def catalogInfoWrong : ChangeSpec := { name := "catalogInfo", fn := fun _ => fun
  | [d1, d2, d3, d4] => { results := [.lit (.bool false)], args := [d1, d2, d3, d4] }
  | _ => none }
def CatalogInfoWrongFalsely : Prop := catalogInfoRow.holds Tryz.pinned (OpenSpec.ofChange catalogInfoWrong)

/-- 'foliantlaw34.CatalogRoot': WHATEVER THE INPUT: true; the input reads as it did. -/
def catalogRootSpec : ChangeSpec := { name := "catalogRoot", fn := fun _ => fun
  | [d1, d2, d3] => { results := [.lit (.bool true)], args := [d1, d2, d3] }
  | _ => none }
def catalogRootRow : OpenClaim := { program := "ytokikpiffafajaagreat", sum := "ea0a996991f3a5c0df15f0c42b275fc9acaae0c94ea414a284000be912ce2160", func := "foliant/foliantlaw34.CatalogRoot", spec := "catalogRoot", inPlace := ["slices.overlaps[string]", "slices.overlaps[foliant/api.Object]", "internal/bytealg.IndexByteString", "internal/bytealg.IndexString", "slices.overlaps[foliant/api.Item]"], unfollowed := true, recurses := true, named := ["internal/bytealg.MaxLen"], loops := true, apart := false }
def CatalogRootSaid : Prop := catalogRootRow.holds Tryz.pinned (OpenSpec.ofChange catalogRootSpec)

/-- ITS FALSE NEIGHBOUR: 'it returns false'. Refute it at one input. -/
def catalogRootWrong : ChangeSpec := { name := "catalogRoot", fn := fun _ => fun
  | [d1, d2, d3] => { results := [.lit (.bool false)], args := [d1, d2, d3] }
  | _ => none }
def CatalogRootWrongFalsely : Prop := catalogRootRow.holds Tryz.pinned (OpenSpec.ofChange catalogRootWrong)

/- THE SECOND FORM. 'bulk': how many values and letters a reading holds, each counted each time it is reached (what is shared counts as often as it is met; a slice's spare places count too). A statement '..UptoSaid' is the law's where the arguments, and the package variables that the reading takes, are together of bulk at most 1048576: NARROWER than '..Said'. Prove '..Said' where nothing that the law and all that it calls make is longer than what came in: it says more and counts as full. Else prove '..UptoSaid'. A law counts once. -/
mutual
def uptoBulk {H : Type} : DataW H → Nat
  | .lit (.string bytes) => bytes.length + 1
  | .lit _ => 1
  | .nil => 1
  | .ptr d => uptoBulk d + 1
  | .slice elems spare => uptoBulkAll elems + uptoBulkAll spare + 1
  | .agg parts => uptoBulkAll parts + 1
  | .iface _ d => uptoBulk d + 1
  | .map entries => uptoBulkEntries entries + 1
  | .held _ => 1
def uptoBulkAll {H : Type} : List (DataW H) → Nat
  | [] => 0
  | d :: r => uptoBulk d + uptoBulkAll r
def uptoBulkEntries {H : Type} : List (Lit × DataW H) → Nat
  | [] => 0
  | x :: r => uptoBulkEntry x + uptoBulkEntries r
def uptoBulkEntry {H : Type} : Lit × DataW H → Nat
  | (.string bytes, d) => bytes.length + uptoBulk d + 1
  | (_, d) => uptoBulk d + 1
 end
def uptoSmall : (H : Type) → List (DataW H) → Bool := fun _ ds => decide (uptoBulkAll ds ≤ 1048576)
def OpenSpec.upto (s : _root_.Go.ChangeSpec) : _root_.Go.OpenSpec := { _root_.Go.OpenSpec.ofChange s with cond := some uptoSmall }

/-- 'foliantlaw34.CatalogNews', WHERE WHAT IT READS IS OF BULK AT MOST 1048576: true; the input reads as it did. -/
def catalogNewsUptoRow : OpenClaim := { program := "ytokikpiffafajaagreat", sum := "ea0a996991f3a5c0df15f0c42b275fc9acaae0c94ea414a284000be912ce2160", func := "foliant/foliantlaw34.CatalogNews", spec := "catalogNews", inPlace := ["slices.overlaps[string]", "slices.overlaps[foliant/api.Object]", "internal/bytealg.IndexByteString", "internal/bytealg.IndexString", "slices.overlaps[foliant/api.Item]"], unfollowed := true, recurses := true, named := ["internal/bytealg.MaxLen"], apart := false, narrowed := true }
def CatalogNewsUptoSaid : Prop := catalogNewsUptoRow.holds Tryz.pinned (OpenSpec.upto catalogNewsSpec)

/-- 'foliantlaw34.CatalogTells', WHERE WHAT IT READS IS OF BULK AT MOST 1048576: true; the input reads as it did. -/
def catalogTellsUptoRow : OpenClaim := { program := "ytokikpiffafajaagreat", sum := "ea0a996991f3a5c0df15f0c42b275fc9acaae0c94ea414a284000be912ce2160", func := "foliant/foliantlaw34.CatalogTells", spec := "catalogTells", inPlace := ["slices.overlaps[string]", "slices.overlaps[foliant/api.Object]", "internal/bytealg.IndexByteString", "internal/bytealg.IndexString", "slices.overlaps[foliant/api.Item]"], unfollowed := true, recurses := true, named := ["internal/bytealg.MaxLen"], loops := true, apart := false, narrowed := true }
def CatalogTellsUptoSaid : Prop := catalogTellsUptoRow.holds Tryz.pinned (OpenSpec.upto catalogTellsSpec)

/-- 'foliantlaw34.CatalogInfo', WHERE WHAT IT READS IS OF BULK AT MOST 1048576: true; the input reads as it did. -/
def catalogInfoUptoRow : OpenClaim := { program := "ytokikpiffafajaagreat", sum := "ea0a996991f3a5c0df15f0c42b275fc9acaae0c94ea414a284000be912ce2160", func := "foliant/foliantlaw34.CatalogInfo", spec := "catalogInfo", inPlace := ["slices.overlaps[string]", "slices.overlaps[foliant/api.Object]", "internal/bytealg.IndexByteString", "internal/bytealg.IndexString", "slices.overlaps[foliant/api.Item]"], unfollowed := true, recurses := true, named := ["internal/bytealg.MaxLen"], loops := true, apart := false, narrowed := true }
def CatalogInfoUptoSaid : Prop := catalogInfoUptoRow.holds Tryz.pinned (OpenSpec.upto catalogInfoSpec)

/-- 'foliantlaw34.CatalogRoot', WHERE WHAT IT READS IS OF BULK AT MOST 1048576: true; the input reads as it did. -/
def catalogRootUptoRow : OpenClaim := { program := "ytokikpiffafajaagreat", sum := "ea0a996991f3a5c0df15f0c42b275fc9acaae0c94ea414a284000be912ce2160", func := "foliant/foliantlaw34.CatalogRoot", spec := "catalogRoot", inPlace := ["slices.overlaps[string]", "slices.overlaps[foliant/api.Object]", "internal/bytealg.IndexByteString", "internal/bytealg.IndexString", "slices.overlaps[foliant/api.Item]"], unfollowed := true, recurses := true, named := ["internal/bytealg.MaxLen"], loops := true, apart := false, narrowed := true }
def CatalogRootUptoSaid : Prop := catalogRootUptoRow.holds Tryz.pinned (OpenSpec.upto catalogRootSpec)

end Rows
end Go.Proofs.YtokikpiffafajaaGreat
