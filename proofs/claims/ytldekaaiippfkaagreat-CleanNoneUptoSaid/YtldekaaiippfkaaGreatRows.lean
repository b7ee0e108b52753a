/-
  NARROWER THAN 'FOR EVERY INPUT', by the rows' own cells (each row's printed sentence says how): CleanStrips: loops · CleanDocs: loops · CleanReached: loops · CleanNone: loops.
  DERIVED. THE GIVEN ROWS OF THIS SEAT. 4 by the template 'for every input the law returns true; each argument reads behind the call as it read before'; 0 by the template 'total and deterministic' (their statements: YtldekaaiippfkaaGreatTotals.lean).
  GIVEN WITH THE SEED: the statements are not yours to turn. If you find one false, say at which input.
  Laid BY PROGRAM, IN A SANDBOX (cutbox-rows.mjs): the forced cells as the released guide's own fill.sh prints them over the translation a6b05aab69aeaf94… (all of the seat's roots in one cut). By AI agents, Wed Nov 11 2026. No macro, syntax, notation, axiom, sorry.
-/
import Derived.Test.YtldekaaiippfkaaGreatChecked
import GoSem.Claim
import GoSem.ClaimJoined
import GoSem.ClaimMapViews
import Derived.JoinedTies
import Derived.KernelRfl
namespace Go.Proofs.YtldekaaiippfkaaGreat
/- THE CELL 'sum', in the pinned program and in every row, IS THE sha256 OF THE DUMP (.gsa) THAT YtldekaaiippfkaaGreatProg.lean LOADS. Nothing in Lean hashes anything: it is a label: what it is worth is what the hold of that sum in a sandbox is worth. -/
noncomputable def Tryz.pinned : Pinned := { name := "ytldekaaiippfkaagreat", sum := "a6b05aab69aeaf94c144c2c0ea20fb359f5c0d8f1d671f4aeb4d903dce738dd9", checked := Tryz.checked }
namespace Rows
def none {H : Type} : Left H := { results := [], args := [] }

/-- 'foliantlaw31.CleanStrips': WHATEVER THE INPUT: true; the input reads as it did. -/
def cleanStripsSpec : ChangeSpec := { name := "cleanStrips", fn := fun _ => fun
  | [d1, d2] => { results := [.lit (.bool true)], args := [d1, d2] }
  | _ => none }
def cleanStripsRow : OpenClaim := { program := "ytldekaaiippfkaagreat", sum := "a6b05aab69aeaf94c144c2c0ea20fb359f5c0d8f1d671f4aeb4d903dce738dd9", func := "foliant/foliantlaw31.CleanStrips", spec := "cleanStrips", inPlace := ["internal/bytealg.IndexByteString"], unfollowed := true, recurses := true, loops := true, apart := false }
def CleanStripsSaid : Prop := cleanStripsRow.holds Tryz.pinned (OpenSpec.ofChange cleanStripsSpec)

/-- ITS FALSE NEIGHBOUR: 'it returns false'. Refute it at one input. -/
def cleanStripsWrong : ChangeSpec := { name := "cleanStrips", fn := fun _ => fun
  | [d1, d2] => { results := [.lit (.bool false)], args := [d1, d2] }
  | _ => none }
def CleanStripsWrongFalsely : Prop := cleanStripsRow.holds Tryz.pinned (OpenSpec.ofChange cleanStripsWrong)

/-- 'foliantlaw31.CleanDocs': WHATEVER THE INPUT: true; the input reads as it did. -/
def cleanDocsSpec : ChangeSpec := { name := "cleanDocs", fn := fun _ => fun
  | [d1, d2] => { results := [.lit (.bool true)], args := [d1, d2] }
  | _ => none }
def cleanDocsRow : OpenClaim := { program := "ytldekaaiippfkaagreat", sum := "a6b05aab69aeaf94c144c2c0ea20fb359f5c0d8f1d671f4aeb4d903dce738dd9", func := "foliant/foliantlaw31.CleanDocs", spec := "cleanDocs", inPlace := ["internal/bytealg.IndexByteString"], unfollowed := true, recurses := true, loops := true, apart := false }
def CleanDocsSaid : Prop := cleanDocsRow.holds Tryz.pinned (OpenSpec.ofChange cleanDocsSpec)

/-- ITS FALSE NEIGHBOUR: 'it returns false'. Refute it at one input. -/
def cleanDocsWrong : ChangeSpec := { name := "cleanDocs", fn := fun _ => fun
  | [d1, d2] => { results := [.lit (.bool false)], args := [d1, d2] }
  | _ => none }
def CleanDocsWrongFalsely : Prop := cleanDocsRow.holds Tryz.pinned (OpenSpec.ofChange cleanDocsWrong)

/-- 'foliantlaw31.CleanReached': WHATEVER THE INPUT: true; the input reads as it did. -/
def cleanReachedSpec : ChangeSpec := { name := "cleanReached", fn := fun _ => fun
  | [d1, d2] => { results := [.lit (.bool true)], args := [d1, d2] }
  | _ => none }
def cleanReachedRow : OpenClaim := { program := "ytldekaaiippfkaagreat", sum := "a6b05aab69aeaf94c144c2c0ea20fb359f5c0d8f1d671f4aeb4d903dce738dd9", func := "foliant/foliantlaw31.CleanReached", spec := "cleanReached", inPlace := ["internal/bytealg.IndexByteString"], unfollowed := true, recurses := true, loops := true, apart := false }
def CleanReachedSaid : Prop := cleanReachedRow.holds Tryz.pinned (OpenSpec.ofChange cleanReachedSpec)

/-- ITS FALSE NEIGHBOUR: 'it returns false'. Refute it at one input. -/
def cleanReachedWrong : ChangeSpec := { name := "cleanReached", fn := fun _ => fun
  | [d1, d2] => { results := [.lit (.bool false)], args := [d1, d2] }
  | _ => none }
def CleanReachedWrongFalsely : Prop := cleanReachedRow.holds Tryz.pinned (OpenSpec.ofChange cleanReachedWrong)

/-- 'foliantlaw31.CleanNone': WHATEVER THE INPUT: true; the input reads as it did. -/
def cleanNoneSpec : ChangeSpec := { name := "cleanNone", fn := fun _ => fun
  | [d1, d2] => { results := [.lit (.bool true)], args := [d1, d2] }
  | _ => none }
def cleanNoneRow : OpenClaim := { program := "ytldekaaiippfkaagreat", sum := "a6b05aab69aeaf94c144c2c0ea20fb359f5c0d8f1d671f4aeb4d903dce738dd9", func := "foliant/foliantlaw31.CleanNone", spec := "cleanNone", inPlace := ["internal/bytealg.IndexByteString"], unfollowed := true, recurses := true, loops := true, apart := false }
def CleanNoneSaid : Prop := cleanNoneRow.holds Tryz.pinned (OpenSpec.ofChange cleanNoneSpec)

/-- ITS FALSE NEIGHBOUR: 'it returns false'. Refute it at one input. -/
def cleanNoneWrong : ChangeSpec := { name := "cleanNone", fn := fun _ => fun
  | [d1, d2] => { results := [.lit (.bool false)], args := [d1, d2] }
  | _ => none }
def CleanNoneWrongFalsely : Prop := cleanNoneRow.holds Tryz.pinned (OpenSpec.ofChange cleanNoneWrong)

/- THE SECOND FORM. 'bulk': how many values and letters a reading holds, each counted each time it is reached (what is shared counts as often as it is met; a slice's spare places count too). A statement '..UptoSaid' is the law's where the arguments, and the package variables that the reading takes, are together of bulk at most 1048576: NARROWER than '..Said'. Prove '..Said' where nothing that the law and all that it calls make is longer than what came in: it says more and counts as full. Else prove '..UptoSaid'. A law counts once. -/
mutual
def uptoBulk {H : Type} : DataW H → Nat
  | .lit (.string bytes) => bytes.length + 1
  | .lit _ => 1
  | .nil => 1
  | .ptr d => uptoBulk d + 1
  | .slice elems spare => uptoBulkAll elems + uptoBulkAll spare + 1
  | .agg parts => uptoBulkAll parts + 1
  | .iface _ d => uptoBulk d + 1
  | .map entries => uptoBulkEntries entries + 1
  | .held _ => 1
def uptoBulkAll {H : Type} : List (DataW H) → Nat
  | [] => 0
  | d :: r => uptoBulk d + uptoBulkAll r
def uptoBulkEntries {H : Type} : List (Lit × DataW H) → Nat
  | [] => 0
  | x :: r => uptoBulkEntry x + uptoBulkEntries r
def uptoBulkEntry {H : Type} : Lit × DataW H → Nat
  | (.string bytes, d) => bytes.length + uptoBulk d + 1
  | (_, d) => uptoBulk d + 1
 end
def uptoSmall : (H : Type) → List (DataW H) → Bool := fun _ ds => decide (uptoBulkAll ds ≤ 1048576)
def OpenSpec.upto (s : _root_.Go.ChangeSpec) : _root_.Go.OpenSpec := { _root_.Go.OpenSpec.ofChange s with cond := some uptoSmall }

/-- 'foliantlaw31.CleanStrips', WHERE WHAT IT READS IS OF BULK AT MOST 1048576: true; the input reads as it did. -/
def cleanStripsUptoRow : OpenClaim := { program := "ytldekaaiippfkaagreat", sum := "a6b05aab69aeaf94c144c2c0ea20fb359f5c0d8f1d671f4aeb4d903dce738dd9", func := "foliant/foliantlaw31.CleanStrips", spec := "cleanStrips", inPlace := ["internal/bytealg.IndexByteString"], unfollowed := true, recurses := true, loops := true, apart := false, narrowed := true }
def CleanStripsUptoSaid : Prop := cleanStripsUptoRow.holds Tryz.pinned (OpenSpec.upto cleanStripsSpec)

/-- 'foliantlaw31.CleanDocs', WHERE WHAT IT READS IS OF BULK AT MOST 1048576: true; the input reads as it did. -/
def cleanDocsUptoRow : OpenClaim := { program := "ytldekaaiippfkaagreat", sum := "a6b05aab69aeaf94c144c2c0ea20fb359f5c0d8f1d671f4aeb4d903dce738dd9", func := "foliant/foliantlaw31.CleanDocs", spec := "cleanDocs", inPlace := ["internal/bytealg.IndexByteString"], unfollowed := true, recurses := true, loops := true, apart := false, narrowed := true }
def CleanDocsUptoSaid : Prop := cleanDocsUptoRow.holds Tryz.pinned (OpenSpec.upto cleanDocsSpec)

/-- 'foliantlaw31.CleanReached', WHERE WHAT IT READS IS OF BULK AT MOST 1048576: true; the input reads as it did. -/
def cleanReachedUptoRow : OpenClaim := { program := "ytldekaaiippfkaagreat", sum := "a6b05aab69aeaf94c144c2c0ea20fb359f5c0d8f1d671f4aeb4d903dce738dd9", func := "foliant/foliantlaw31.CleanReached", spec := "cleanReached", inPlace := ["internal/bytealg.IndexByteString"], unfollowed := true, recurses := true, loops := true, apart := false, narrowed := true }
def CleanReachedUptoSaid : Prop := cleanReachedUptoRow.holds Tryz.pinned (OpenSpec.upto cleanReachedSpec)

/-- 'foliantlaw31.CleanNone', WHERE WHAT IT READS IS OF BULK AT MOST 1048576: true; the input reads as it did. -/
def cleanNoneUptoRow : OpenClaim := { program := "ytldekaaiippfkaagreat", sum := "a6b05aab69aeaf94c144c2c0ea20fb359f5c0d8f1d671f4aeb4d903dce738dd9", func := "foliant/foliantlaw31.CleanNone", spec := "cleanNone", inPlace := ["internal/bytealg.IndexByteString"], unfollowed := true, recurses := true, loops := true, apart := false, narrowed := true }
def CleanNoneUptoSaid : Prop := cleanNoneUptoRow.holds Tryz.pinned (OpenSpec.upto cleanNoneSpec)

end Rows
end Go.Proofs.YtldekaaiippfkaaGreat
