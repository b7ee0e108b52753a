/-
  NARROWER THAN 'FOR EVERY INPUT', by the rows' own cells (each row's printed sentence says how): ShiftTells: loops · ShiftImports: loops · ShiftBack: loops · ShiftKeeps: loops · ShiftNothing: loops.
  DERIVED. THE GIVEN ROWS OF THIS SEAT. 5 by the template 'for every input the law returns true; each argument reads behind the call as it read before'; 0 by the template 'total and deterministic' (their statements: YtlamdhcfojligaaGreatTotals.lean).
  GIVEN WITH THE SEED: the statements are not yours to turn. If you find one false, say at which input.
  Laid BY PROGRAM, IN A SANDBOX (cutbox-rows.mjs): the forced cells as the released guide's own fill.sh prints them over the translation 52a9bb99c416e07d… (all of the seat's roots in one cut). By AI agents, Wed Nov 11 2026. No macro, syntax, notation, axiom, sorry.
-/
import Derived.Test.YtlamdhcfojligaaGreatChecked
import GoSem.Claim
import GoSem.ClaimJoined
import GoSem.ClaimMapViews
import Derived.JoinedTies
import Derived.KernelRfl
namespace Go.Proofs.YtlamdhcfojligaaGreat
/- THE CELL 'sum', in the pinned program and in every row, IS THE sha256 OF THE DUMP (.gsa) THAT YtlamdhcfojligaaGreatProg.lean LOADS. Nothing in Lean hashes anything: it is a label: what it is worth is what the hold of that sum in a sandbox is worth. -/
noncomputable def Tryz.pinned : Pinned := { name := "ytlamdhcfojligaagreat", sum := "52a9bb99c416e07df6f6b8f80daa4b425a992a477ca5bb34fc9220cff81d487a", checked := Tryz.checked }
namespace Rows
def none {H : Type} : Left H := { results := [], args := [] }

/-- 'foliantlaw30.ShiftTells': WHATEVER THE INPUT: true; the input reads as it did. -/
def shiftTellsSpec : ChangeSpec := { name := "shiftTells", fn := fun _ => fun
  | [d1, d2, d3, d4] => { results := [.lit (.bool true)], args := [d1, d2, d3, d4] }
  | _ => none }
def shiftTellsRow : OpenClaim := { program := "ytlamdhcfojligaagreat", sum := "52a9bb99c416e07df6f6b8f80daa4b425a992a477ca5bb34fc9220cff81d487a", func := "foliant/foliantlaw30.ShiftTells", spec := "shiftTells", inPlace := ["internal/bytealg.IndexByteString"], unfollowed := true, recurses := true, loops := true, apart := false }
def ShiftTellsSaid : Prop := shiftTellsRow.holds Tryz.pinned (OpenSpec.ofChange shiftTellsSpec)

/-- ITS FALSE NEIGHBOUR: 'it returns false'. Refute it at one input. -/
def shiftTellsWrong : ChangeSpec := { name := "shiftTells", fn := fun _ => fun
  | [d1, d2, d3, d4] => { results := [.lit (.bool false)], args := [d1, d2, d3, d4] }
  | _ => none }
def ShiftTellsWrongFalsely : Prop := shiftTellsRow.holds Tryz.pinned (OpenSpec.ofChange shiftTellsWrong)

/-- 'foliantlaw30.ShiftImports': WHATEVER THE INPUT: true; the input reads as it did. -/
def shiftImportsSpec : ChangeSpec := { name := "shiftImports", fn := fun _ => fun
  | [d1, d2, d3] => { results := [.lit (.bool true)], args := [d1, d2, d3] }
  | _ => none }
def shiftImportsRow : OpenClaim := { program := "ytlamdhcfojligaagreat", sum := "52a9bb99c416e07df6f6b8f80daa4b425a992a477ca5bb34fc9220cff81d487a", func := "foliant/foliantlaw30.ShiftImports", spec := "shiftImports", inPlace := ["internal/bytealg.IndexByteString"], unfollowed := true, recurses := true, loops := true, apart := false }
def ShiftImportsSaid : Prop := shiftImportsRow.holds Tryz.pinned (OpenSpec.ofChange shiftImportsSpec)

/-- ITS FALSE NEIGHBOUR: 'it returns false'. Refute it at one input. -/
def shiftImportsWrong : ChangeSpec := { name := "shiftImports", fn := fun _ => fun
  | [d1, d2, d3] => { results := [.lit (.bool false)], args := [d1, d2, d3] }
  | _ => none }
def ShiftImportsWrongFalsely : Prop := shiftImportsRow.holds Tryz.pinned (OpenSpec.ofChange shiftImportsWrong)

/-- 'foliantlaw30.ShiftBack': WHATEVER THE INPUT: true; the input reads as it did. -/
def shiftBackSpec : ChangeSpec := { name := "shiftBack", fn := fun _ => fun
  | [d1, d2] => { results := [.lit (.bool true)], args := [d1, d2] }
  | _ => none }
def shiftBackRow : OpenClaim := { program := "ytlamdhcfojligaagreat", sum := "52a9bb99c416e07df6f6b8f80daa4b425a992a477ca5bb34fc9220cff81d487a", func := "foliant/foliantlaw30.ShiftBack", spec := "shiftBack", inPlace := ["internal/bytealg.IndexByteString"], unfollowed := true, recurses := true, loops := true, apart := false }
def ShiftBackSaid : Prop := shiftBackRow.holds Tryz.pinned (OpenSpec.ofChange shiftBackSpec)

/-- ITS FALSE NEIGHBOUR: 'it returns false'. Refute it at one input. -/
def shiftBackWrong : ChangeSpec := { name := "shiftBack", fn := fun _ => fun
  | [d1, d2] => { results := [.lit (.bool false)], args := [d1, d2] }
  | _ => none }
def ShiftBackWrongFalsely : Prop := shiftBackRow.holds Tryz.pinned (OpenSpec.ofChange shiftBackWrong)

/-- 'foliantlaw30.ShiftKeeps': WHATEVER THE INPUT: true; the input reads as it did. -/
def shiftKeepsSpec : ChangeSpec := { name := "shiftKeeps", fn := fun _ => fun
  | [d1, d2, d3] => { results := [.lit (.bool true)], args := [d1, d2, d3] }
  | _ => none }
def shiftKeepsRow : OpenClaim := { program := "ytlamdhcfojligaagreat", sum := "52a9bb99c416e07df6f6b8f80daa4b425a992a477ca5bb34fc9220cff81d487a", func := "foliant/foliantlaw30.ShiftKeeps", spec := "shiftKeeps", inPlace := ["internal/bytealg.IndexByteString"], unfollowed := true, recurses := true, loops := true, apart := false }
def ShiftKeepsSaid : Prop := shiftKeepsRow.holds Tryz.pinned (OpenSpec.ofChange shiftKeepsSpec)

/-- ITS FALSE NEIGHBOUR: 'it returns false'. Refute it at one input. -/
def shiftKeepsWrong : ChangeSpec := { name := "shiftKeeps", fn := fun _ => fun
  | [d1, d2, d3] => { results := [.lit (.bool false)], args := [d1, d2, d3] }
  | _ => none }
def ShiftKeepsWrongFalsely : Prop := shiftKeepsRow.holds Tryz.pinned (OpenSpec.ofChange shiftKeepsWrong)

/-- 'foliantlaw30.ShiftNothing': WHATEVER THE INPUT: true; the input reads as it did. -/
def shiftNothingSpec : ChangeSpec := { name := "shiftNothing", fn := fun _ => fun
  | [d] => { results := [.lit (.bool true)], args := [d] }
  | _ => none }
def shiftNothingRow : OpenClaim := { program := "ytlamdhcfojligaagreat", sum := "52a9bb99c416e07df6f6b8f80daa4b425a992a477ca5bb34fc9220cff81d487a", func := "foliant/foliantlaw30.ShiftNothing", spec := "shiftNothing", inPlace := ["internal/bytealg.IndexByteString"], unfollowed := true, recurses := true, loops := true, apart := false }
def ShiftNothingSaid : Prop := shiftNothingRow.holds Tryz.pinned (OpenSpec.ofChange shiftNothingSpec)

/-- ITS FALSE NEIGHBOUR: 'it returns false'. Refute it at one input. -/
def shiftNothingWrong : ChangeSpec := { name := "shiftNothing", fn := fun _ => fun
  | [d] => { results := [.lit (.bool false)], args := [d] }
  | _ => none }
def ShiftNothingWrongFalsely : Prop := shiftNothingRow.holds Tryz.pinned (OpenSpec.ofChange shiftNothingWrong)

/- THE SECOND FORM. 'bulk': how many values and letters a reading holds, each counted each time it is reached (what is shared counts as often as it is met; a slice's spare places count too). A statement '..UptoSaid' is the law's where the arguments, and the package variables that the reading takes, are together of bulk at most 1048576: NARROWER than '..Said'. Prove '..Said' where nothing that the law and all that it calls make is longer than what came in: it says more and counts as full. Else prove '..UptoSaid'. A law counts once. -/
mutual
def uptoBulk {H : Type} : DataW H → Nat
  | .lit (.string bytes) => bytes.length + 1
  | .lit _ => 1
  | .nil => 1
  | .ptr d => uptoBulk d + 1
  | .slice elems spare => uptoBulkAll elems + uptoBulkAll spare + 1
  | .agg parts => uptoBulkAll parts + 1
  | .iface _ d => uptoBulk d + 1
  | .map entries => uptoBulkEntries entries + 1
  | .held _ => 1
def uptoBulkAll {H : Type} : List (DataW H) → Nat
  | [] => 0
  | d :: r => uptoBulk d + uptoBulkAll r
def uptoBulkEntries {H : Type} : List (Lit × DataW H) → Nat
  | [] => 0
  | x :: r => uptoBulkEntry x + uptoBulkEntries r
def uptoBulkEntry {H : Type} : Lit × DataW H → Nat
  | (.string bytes, d) => bytes.length + uptoBulk d + 1
  | (_, d) => uptoBulk d + 1
 end
def uptoSmall : (H : Type) → List (DataW H) → Bool := fun _ ds => decide (uptoBulkAll ds ≤ 1048576)
def OpenSpec.upto (s : _root_.Go.ChangeSpec) : _root_.Go.OpenSpec := { _root_.Go.OpenSpec.ofChange s with cond := some uptoSmall }

/-- 'foliantlaw30.ShiftTells', WHERE WHAT IT READS IS OF BULK AT MOST 1048576: true; the input reads as it did. -/
def shiftTellsUptoRow : OpenClaim := { program := "ytlamdhcfojligaagreat", sum := "52a9bb99c416e07df6f6b8f80daa4b425a992a477ca5bb34fc9220cff81d487a", func := "foliant/foliantlaw30.ShiftTells", spec := "shiftTells", inPlace := ["internal/bytealg.IndexByteString"], unfollowed := true, recurses := true, loops := true, apart := false, narrowed := true }
def ShiftTellsUptoSaid : Prop := shiftTellsUptoRow.holds Tryz.pinned (OpenSpec.upto shiftTellsSpec)

/-- 'foliantlaw30.ShiftImports', WHERE WHAT IT READS IS OF BULK AT MOST 1048576: true; the input reads as it did. -/
def shiftImportsUptoRow : OpenClaim := { program := "ytlamdhcfojligaagreat", sum := "52a9bb99c416e07df6f6b8f80daa4b425a992a477ca5bb34fc9220cff81d487a", func := "foliant/foliantlaw30.ShiftImports", spec := "shiftImports", inPlace := ["internal/bytealg.IndexByteString"], unfollowed := true, recurses := true, loops := true, apart := false, narrowed := true }
def ShiftImportsUptoSaid : Prop := shiftImportsUptoRow.holds Tryz.pinned (OpenSpec.upto shiftImportsSpec)

/-- 'foliantlaw30.ShiftBack', WHERE WHAT IT READS IS OF BULK AT MOST 1048576: true; the input reads as it did. -/
def shiftBackUptoRow : OpenClaim := { program := "ytlamdhcfojligaagreat", sum := "52a9bb99c416e07df6f6b8f80daa4b425a992a477ca5bb34fc9220cff81d487a", func := "foliant/foliantlaw30.ShiftBack", spec := "shiftBack", inPlace := ["internal/bytealg.IndexByteString"], unfollowed := true, recurses := true, loops := true, apart := false, narrowed := true }
def ShiftBackUptoSaid : Prop := shiftBackUptoRow.holds Tryz.pinned (OpenSpec.upto shiftBackSpec)

/-- 'foliantlaw30.ShiftKeeps', WHERE WHAT IT READS IS OF BULK AT MOST 1048576: true; the input reads as it did. -/
def shiftKeepsUptoRow : OpenClaim := { program := "ytlamdhcfojligaagreat", sum := "52a9bb99c416e07df6f6b8f80daa4b425a992a477ca5bb34fc9220cff81d487a", func := "foliant/foliantlaw30.ShiftKeeps", spec := "shiftKeeps", inPlace := ["internal/bytealg.IndexByteString"], unfollowed := true, recurses := true, loops := true, apart := false, narrowed := true }
def ShiftKeepsUptoSaid : Prop := shiftKeepsUptoRow.holds Tryz.pinned (OpenSpec.upto shiftKeepsSpec)

/-- 'foliantlaw30.ShiftNothing', WHERE WHAT IT READS IS OF BULK AT MOST 1048576: true; the input reads as it did. -/
def shiftNothingUptoRow : OpenClaim := { program := "ytlamdhcfojligaagreat", sum := "52a9bb99c416e07df6f6b8f80daa4b425a992a477ca5bb34fc9220cff81d487a", func := "foliant/foliantlaw30.ShiftNothing", spec := "shiftNothing", inPlace := ["internal/bytealg.IndexByteString"], unfollowed := true, recurses := true, loops := true, apart := false, narrowed := true }
def ShiftNothingUptoSaid : Prop := shiftNothingUptoRow.holds Tryz.pinned (OpenSpec.upto shiftNothingSpec)

end Rows
end Go.Proofs.YtlamdhcfojligaaGreat
