/-
  NARROWER THAN 'FOR EVERY INPUT', by the rows' own cells (each row's printed sentence says how): AsciiTells: laid · AsciiBack: laid · AsciiWhite: laid · AsciiShort: laid.
  DERIVED. THE GIVEN ROWS OF THIS SEAT. 4 by the template 'for every input the law returns true; each argument reads behind the call as it read before'; 0 by the template 'total and deterministic' (their statements: YtboaclfnjdhcpaaDoorTotals.lean).
  GIVEN WITH THE SEED: the statements are not yours to turn. If you find one false, say at which input.
  Laid BY PROGRAM, IN A SANDBOX (cutbox-rows.mjs): the forced cells as the released guide's own fill.sh prints them over the translation 76de7d2d5145102a… (all of the seat's roots in one cut). By AI agents, Wed Nov 11 2026. No macro, syntax, notation, axiom, sorry.
-/
import Derived.Test.YtboaclfnjdhcpaaDoorChecked
import GoSem.Claim
import GoSem.ClaimJoined
import GoSem.ClaimMapViews
import Derived.JoinedTies
import Derived.KernelRfl
namespace Go.Proofs.YtboaclfnjdhcpaaDoor
/- THE CELL 'sum', in the pinned program and in every row, IS THE sha256 OF THE DUMP (.gsa) THAT YtboaclfnjdhcpaaDoorProg.lean LOADS. Nothing in Lean hashes anything: it is a label: what it is worth is what the hold of that sum in a sandbox is worth. -/
noncomputable def Tryd.pinned : Pinned := { name := "ytboaclfnjdhcpaadoor", sum := "76de7d2d5145102a2dafa5a2b88f8a986ad3b4732bbd60d4db9665b544367734", checked := Tryd.checked }
namespace Rows
def none {H : Type} : Left H := { results := [], args := [] }

/- WHAT THE LISTED PACKAGE-LEVEL VARIABLES READ AS WHEN THE CALL BEGINS. Each datum BY PROGRAM (the guide's laid-datum.mjs) off the statement by which the dump's own 'gosem.cut.vars' lays the variable. In a bare row this is a premise. The card (YtboaclfnjdhcpaaDoorCards.lean) ties it to the program's text. -/
def laid_foliant_ascii_powers {H : Type} : DataW H := .agg [.lit (.int .u64 52200625), .lit (.int .u64 614125), .lit (.int .u64 7225), .lit (.int .u64 85), .lit (.int .u64 1)]

/-- 'foliantlaw14.AsciiTells': WHATEVER THE INPUT: true; the input reads as it did. -/
def asciiTellsSpec : ChangeSpec := { name := "asciiTells", fn := fun _ => fun
  | [d1, d2] => { results := [.lit (.bool true)], args := [d1, d2] }
  | _ => none }
def asciiTellsRow : OpenClaim := { program := "ytboaclfnjdhcpaadoor", sum := "76de7d2d5145102a2dafa5a2b88f8a986ad3b4732bbd60d4db9665b544367734", func := "foliant/foliantlaw14.AsciiTells", spec := "asciiTells", inPlace := ["internal/bytealg.IndexByteString", "internal/abi.NoEscape", "internal/bytealg.MakeNoZero"], unfollowed := true, recurses := true, named := ["foliant/ascii.powers"], apart := false, laid := [("foliant/ascii.powers", laid_foliant_ascii_powers)] }
def AsciiTellsSaid : Prop := asciiTellsRow.holds Tryd.pinned (OpenSpec.ofChange asciiTellsSpec)

/-- ITS FALSE NEIGHBOUR: 'it returns false'. Refute it at one input. -/
def asciiTellsWrong : ChangeSpec := { name := "asciiTells", fn := fun _ => fun
  | [d1, d2] => { results := [.lit (.bool false)], args := [d1, d2] }
  | _ => none }
def AsciiTellsWrongFalsely : Prop := asciiTellsRow.holds Tryd.pinned (OpenSpec.ofChange asciiTellsWrong)

/-- 'foliantlaw14.AsciiBack': WHATEVER THE INPUT: true; the input reads as it did. -/
def asciiBackSpec : ChangeSpec := { name := "asciiBack", fn := fun _ => fun
  | [d1, d2] => { results := [.lit (.bool true)], args := [d1, d2] }
  | _ => none }
def asciiBackRow : OpenClaim := { program := "ytboaclfnjdhcpaadoor", sum := "76de7d2d5145102a2dafa5a2b88f8a986ad3b4732bbd60d4db9665b544367734", func := "foliant/foliantlaw14.AsciiBack", spec := "asciiBack", inPlace := ["internal/bytealg.IndexByteString", "internal/abi.NoEscape", "internal/bytealg.MakeNoZero"], unfollowed := true, recurses := true, named := ["foliant/ascii.powers"], apart := false, laid := [("foliant/ascii.powers", laid_foliant_ascii_powers)] }
def AsciiBackSaid : Prop := asciiBackRow.holds Tryd.pinned (OpenSpec.ofChange asciiBackSpec)

/-- ITS FALSE NEIGHBOUR: 'it returns false'. Refute it at one input. -/
def asciiBackWrong : ChangeSpec := { name := "asciiBack", fn := fun _ => fun
  | [d1, d2] => { results := [.lit (.bool false)], args := [d1, d2] }
  | _ => none }
def AsciiBackWrongFalsely : Prop := asciiBackRow.holds Tryd.pinned (OpenSpec.ofChange asciiBackWrong)

/-- 'foliantlaw14.AsciiWhite': WHATEVER THE INPUT: true; the input reads as it did. -/
def asciiWhiteSpec : ChangeSpec := { name := "asciiWhite", fn := fun _ => fun
  | [d1, d2, d3] => { results := [.lit (.bool true)], args := [d1, d2, d3] }
  | _ => none }
def asciiWhiteRow : OpenClaim := { program := "ytboaclfnjdhcpaadoor", sum := "76de7d2d5145102a2dafa5a2b88f8a986ad3b4732bbd60d4db9665b544367734", func := "foliant/foliantlaw14.AsciiWhite", spec := "asciiWhite", inPlace := ["internal/bytealg.IndexByteString", "internal/abi.NoEscape", "internal/bytealg.MakeNoZero"], unfollowed := true, recurses := true, named := ["foliant/ascii.powers"], apart := false, laid := [("foliant/ascii.powers", laid_foliant_ascii_powers)] }
def AsciiWhiteSaid : Prop := asciiWhiteRow.holds Tryd.pinned (OpenSpec.ofChange asciiWhiteSpec)

/-- ITS FALSE NEIGHBOUR: 'it returns false'. Refute it at one input. -/
def asciiWhiteWrong : ChangeSpec := { name := "asciiWhite", fn := fun _ => fun
  | [d1, d2, d3] => { results := [.lit (.bool false)], args := [d1, d2, d3] }
  | _ => none }
def AsciiWhiteWrongFalsely : Prop := asciiWhiteRow.holds Tryd.pinned (OpenSpec.ofChange asciiWhiteWrong)

/-- 'foliantlaw14.AsciiShort': WHATEVER THE INPUT: true; the input reads as it did. -/
def asciiShortSpec : ChangeSpec := { name := "asciiShort", fn := fun _ => fun
  | [d1, d2, d3] => { results := [.lit (.bool true)], args := [d1, d2, d3] }
  | _ => none }
def asciiShortRow : OpenClaim := { program := "ytboaclfnjdhcpaadoor", sum := "76de7d2d5145102a2dafa5a2b88f8a986ad3b4732bbd60d4db9665b544367734", func := "foliant/foliantlaw14.AsciiShort", spec := "asciiShort", inPlace := ["internal/bytealg.IndexByteString", "internal/abi.NoEscape", "internal/bytealg.MakeNoZero"], unfollowed := true, recurses := true, named := ["foliant/ascii.powers"], apart := false, laid := [("foliant/ascii.powers", laid_foliant_ascii_powers)] }
def AsciiShortSaid : Prop := asciiShortRow.holds Tryd.pinned (OpenSpec.ofChange asciiShortSpec)

/-- ITS FALSE NEIGHBOUR: 'it returns false'. Refute it at one input. -/
def asciiShortWrong : ChangeSpec := { name := "asciiShort", fn := fun _ => fun
  | [d1, d2, d3] => { results := [.lit (.bool false)], args := [d1, d2, d3] }
  | _ => none }
def AsciiShortWrongFalsely : Prop := asciiShortRow.holds Tryd.pinned (OpenSpec.ofChange asciiShortWrong)

/- THE SECOND FORM. 'bulk': how many values and letters a reading holds, each counted each time it is reached (what is shared counts as often as it is met; a slice's spare places count too). A statement '..UptoSaid' is the law's where the arguments, and the package variables that the reading takes, are together of bulk at most 1048576: NARROWER than '..Said'. Prove '..Said' where nothing that the law and all that it calls make is longer than what came in: it says more and counts as full. Else prove '..UptoSaid'. A law counts once. -/
mutual
def uptoBulk {H : Type} : DataW H → Nat
  | .lit (.string bytes) => bytes.length + 1
  | .lit _ => 1
  | .nil => 1
  | .ptr d => uptoBulk d + 1
  | .slice elems spare => uptoBulkAll elems + uptoBulkAll spare + 1
  | .agg parts => uptoBulkAll parts + 1
  | .iface _ d => uptoBulk d + 1
  | .map entries => uptoBulkEntries entries + 1
  | .held _ => 1
def uptoBulkAll {H : Type} : List (DataW H) → Nat
  | [] => 0
  | d :: r => uptoBulk d + uptoBulkAll r
def uptoBulkEntries {H : Type} : List (Lit × DataW H) → Nat
  | [] => 0
  | x :: r => uptoBulkEntry x + uptoBulkEntries r
def uptoBulkEntry {H : Type} : Lit × DataW H → Nat
  | (.string bytes, d) => bytes.length + uptoBulk d + 1
  | (_, d) => uptoBulk d + 1
 end
def uptoSmall : (H : Type) → List (DataW H) → Bool := fun _ ds => decide (uptoBulkAll ds ≤ 1048576)
def OpenSpec.upto (s : _root_.Go.ChangeSpec) : _root_.Go.OpenSpec := { _root_.Go.OpenSpec.ofChange s with cond := some uptoSmall }

/-- 'foliantlaw14.AsciiTells', WHERE WHAT IT READS IS OF BULK AT MOST 1048576: true; the input reads as it did. -/
def asciiTellsUptoRow : OpenClaim := { program := "ytboaclfnjdhcpaadoor", sum := "76de7d2d5145102a2dafa5a2b88f8a986ad3b4732bbd60d4db9665b544367734", func := "foliant/foliantlaw14.AsciiTells", spec := "asciiTells", inPlace := ["internal/bytealg.IndexByteString", "internal/abi.NoEscape", "internal/bytealg.MakeNoZero"], unfollowed := true, recurses := true, named := ["foliant/ascii.powers"], apart := false, laid := [("foliant/ascii.powers", laid_foliant_ascii_powers)], narrowed := true }
def AsciiTellsUptoSaid : Prop := asciiTellsUptoRow.holds Tryd.pinned (OpenSpec.upto asciiTellsSpec)

/-- 'foliantlaw14.AsciiBack', WHERE WHAT IT READS IS OF BULK AT MOST 1048576: true; the input reads as it did. -/
def asciiBackUptoRow : OpenClaim := { program := "ytboaclfnjdhcpaadoor", sum := "76de7d2d5145102a2dafa5a2b88f8a986ad3b4732bbd60d4db9665b544367734", func := "foliant/foliantlaw14.AsciiBack", spec := "asciiBack", inPlace := ["internal/bytealg.IndexByteString", "internal/abi.NoEscape", "internal/bytealg.MakeNoZero"], unfollowed := true, recurses := true, named := ["foliant/ascii.powers"], apart := false, laid := [("foliant/ascii.powers", laid_foliant_ascii_powers)], narrowed := true }
def AsciiBackUptoSaid : Prop := asciiBackUptoRow.holds Tryd.pinned (OpenSpec.upto asciiBackSpec)

/-- 'foliantlaw14.AsciiWhite', WHERE WHAT IT READS IS OF BULK AT MOST 1048576: true; the input reads as it did. -/
def asciiWhiteUptoRow : OpenClaim := { program := "ytboaclfnjdhcpaadoor", sum := "76de7d2d5145102a2dafa5a2b88f8a986ad3b4732bbd60d4db9665b544367734", func := "foliant/foliantlaw14.AsciiWhite", spec := "asciiWhite", inPlace := ["internal/bytealg.IndexByteString", "internal/abi.NoEscape", "internal/bytealg.MakeNoZero"], unfollowed := true, recurses := true, named := ["foliant/ascii.powers"], apart := false, laid := [("foliant/ascii.powers", laid_foliant_ascii_powers)], narrowed := true }
def AsciiWhiteUptoSaid : Prop := asciiWhiteUptoRow.holds Tryd.pinned (OpenSpec.upto asciiWhiteSpec)

/-- 'foliantlaw14.AsciiShort', WHERE WHAT IT READS IS OF BULK AT MOST 1048576: true; the input reads as it did. -/
def asciiShortUptoRow : OpenClaim := { program := "ytboaclfnjdhcpaadoor", sum := "76de7d2d5145102a2dafa5a2b88f8a986ad3b4732bbd60d4db9665b544367734", func := "foliant/foliantlaw14.AsciiShort", spec := "asciiShort", inPlace := ["internal/bytealg.IndexByteString", "internal/abi.NoEscape", "internal/bytealg.MakeNoZero"], unfollowed := true, recurses := true, named := ["foliant/ascii.powers"], apart := false, laid := [("foliant/ascii.powers", laid_foliant_ascii_powers)], narrowed := true }
def AsciiShortUptoSaid : Prop := asciiShortUptoRow.holds Tryd.pinned (OpenSpec.upto asciiShortSpec)

end Rows
end Go.Proofs.YtboaclfnjdhcpaaDoor
