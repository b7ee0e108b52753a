/-
  NARROWER THAN 'FOR EVERY INPUT', by the rows' own cells (each row's printed sentence says how): NamesRead: loops · NamesBack: loops · NamesSets: loops · NamesKeys: loops.
  DERIVED. THE GIVEN ROWS OF THIS SEAT. 4 by the template 'for every input the law returns true; each argument reads behind the call as it read before'; 0 by the template 'total and deterministic' (their statements: YthpbpnfgenhhdaaGreatTotals.lean).
  GIVEN WITH THE SEED: the statements are not yours to turn. If you find one false, say at which input.
  Laid BY PROGRAM, IN A SANDBOX (cutbox-rows.mjs): the forced cells as the released guide's own fill.sh prints them over the translation f293819cdc96f595… (all of the seat's roots in one cut). By AI agents, Wed Nov 11 2026. No macro, syntax, notation, axiom, sorry.
-/
import Derived.Test.YthpbpnfgenhhdaaGreatChecked
import GoSem.Claim
import GoSem.ClaimJoined
import GoSem.ClaimMapViews
import Derived.JoinedTies
import Derived.KernelRfl
namespace Go.Proofs.YthpbpnfgenhhdaaGreat
/- THE CELL 'sum', in the pinned program and in every row, IS THE sha256 OF THE DUMP (.gsa) THAT YthpbpnfgenhhdaaGreatProg.lean LOADS. Nothing in Lean hashes anything: it is a label: what it is worth is what the hold of that sum in a sandbox is worth. -/
noncomputable def Tryz.pinned : Pinned := { name := "ythpbpnfgenhhdaagreat", sum := "f293819cdc96f595337aba31efc98706baf90bebda026c6d5a38f6bd4c672549", checked := Tryz.checked }
namespace Rows
def none {H : Type} : Left H := { results := [], args := [] }

/-- 'foliantlaw37.NamesRead': WHATEVER THE INPUT: true; the input reads as it did. -/
def namesReadSpec : ChangeSpec := { name := "namesRead", fn := fun _ => fun
  | [d1, d2, d3] => { results := [.lit (.bool true)], args := [d1, d2, d3] }
  | _ => none }
def namesReadRow : OpenClaim := { program := "ythpbpnfgenhhdaagreat", sum := "f293819cdc96f595337aba31efc98706baf90bebda026c6d5a38f6bd4c672549", func := "foliant/foliantlaw37.NamesRead", spec := "namesRead", inPlace := ["internal/bytealg.IndexByteString", "slices.overlaps[string]", "slices.overlaps[foliant/api.Object]", "slices.overlaps[foliant/api.Item]", "slices.overlaps[foliant/api.Entry]"], unfollowed := true, recurses := true, loops := true, apart := false }
def NamesReadSaid : Prop := namesReadRow.holds Tryz.pinned (OpenSpec.ofChange namesReadSpec)

/-- ITS FALSE NEIGHBOUR: 'it returns false'. Refute it at one input. -/
def namesReadWrong : ChangeSpec := { name := "namesRead", fn := fun _ => fun
  | [d1, d2, d3] => { results := [.lit (.bool false)], args := [d1, d2, d3] }
  | _ => none }
def NamesReadWrongFalsely : Prop := namesReadRow.holds Tryz.pinned (OpenSpec.ofChange namesReadWrong)

/-- 'foliantlaw37.NamesBack': WHATEVER THE INPUT: true; the input reads as it did. -/
def namesBackSpec : ChangeSpec := { name := "namesBack", fn := fun _ => fun
  | [d1, d2, d3, d4] => { results := [.lit (.bool true)], args := [d1, d2, d3, d4] }
  | _ => none }
def namesBackRow : OpenClaim := { program := "ythpbpnfgenhhdaagreat", sum := "f293819cdc96f595337aba31efc98706baf90bebda026c6d5a38f6bd4c672549", func := "foliant/foliantlaw37.NamesBack", spec := "namesBack", inPlace := ["internal/bytealg.IndexByteString", "slices.overlaps[string]", "slices.overlaps[foliant/api.Object]", "slices.overlaps[foliant/api.Item]", "slices.overlaps[foliant/api.Entry]"], unfollowed := true, recurses := true, loops := true, apart := false }
def NamesBackSaid : Prop := namesBackRow.holds Tryz.pinned (OpenSpec.ofChange namesBackSpec)

/-- ITS FALSE NEIGHBOUR: 'it returns false'. Refute it at one input. -/
def namesBackWrong : ChangeSpec := { name := "namesBack", fn := fun _ => fun
  | [d1, d2, d3, d4] => { results := [.lit (.bool false)], args := [d1, d2, d3, d4] }
  | _ => none }
def NamesBackWrongFalsely : Prop := namesBackRow.holds Tryz.pinned (OpenSpec.ofChange namesBackWrong)

/-- 'foliantlaw37.NamesSets': WHATEVER THE INPUT: true; the input reads as it did. -/
def namesSetsSpec : ChangeSpec := { name := "namesSets", fn := fun _ => fun
  | [d1, d2, d3] => { results := [.lit (.bool true)], args := [d1, d2, d3] }
  | _ => none }
def namesSetsRow : OpenClaim := { program := "ythpbpnfgenhhdaagreat", sum := "f293819cdc96f595337aba31efc98706baf90bebda026c6d5a38f6bd4c672549", func := "foliant/foliantlaw37.NamesSets", spec := "namesSets", inPlace := ["internal/bytealg.IndexByteString", "slices.overlaps[string]", "slices.overlaps[foliant/api.Object]", "slices.overlaps[foliant/api.Item]", "slices.overlaps[foliant/api.Entry]"], unfollowed := true, recurses := true, loops := true, apart := false }
def NamesSetsSaid : Prop := namesSetsRow.holds Tryz.pinned (OpenSpec.ofChange namesSetsSpec)

/-- ITS FALSE NEIGHBOUR: 'it returns false'. Refute it at one input. -/
def namesSetsWrong : ChangeSpec := { name := "namesSets", fn := fun _ => fun
  | [d1, d2, d3] => { results := [.lit (.bool false)], args := [d1, d2, d3] }
  | _ => none }
def NamesSetsWrongFalsely : Prop := namesSetsRow.holds Tryz.pinned (OpenSpec.ofChange namesSetsWrong)

/-- 'foliantlaw37.NamesKeys': WHATEVER THE INPUT: true; the input reads as it did. -/
def namesKeysSpec : ChangeSpec := { name := "namesKeys", fn := fun _ => fun
  | [d1, d2, d3] => { results := [.lit (.bool true)], args := [d1, d2, d3] }
  | _ => none }
def namesKeysRow : OpenClaim := { program := "ythpbpnfgenhhdaagreat", sum := "f293819cdc96f595337aba31efc98706baf90bebda026c6d5a38f6bd4c672549", func := "foliant/foliantlaw37.NamesKeys", spec := "namesKeys", inPlace := ["internal/bytealg.IndexByteString", "slices.overlaps[string]", "slices.overlaps[foliant/api.Object]", "slices.overlaps[foliant/api.Item]", "slices.overlaps[foliant/api.Entry]"], unfollowed := true, recurses := true, loops := true, apart := false }
def NamesKeysSaid : Prop := namesKeysRow.holds Tryz.pinned (OpenSpec.ofChange namesKeysSpec)

/-- ITS FALSE NEIGHBOUR: 'it returns false'. Refute it at one input. -/
def namesKeysWrong : ChangeSpec := { name := "namesKeys", fn := fun _ => fun
  | [d1, d2, d3] => { results := [.lit (.bool false)], args := [d1, d2, d3] }
  | _ => none }
def NamesKeysWrongFalsely : Prop := namesKeysRow.holds Tryz.pinned (OpenSpec.ofChange namesKeysWrong)

/- THE SECOND FORM. 'bulk': how many values and letters a reading holds, each counted each time it is reached (what is shared counts as often as it is met; a slice's spare places count too). A statement '..UptoSaid' is the law's where the arguments, and the package variables that the reading takes, are together of bulk at most 1048576: NARROWER than '..Said'. Prove '..Said' where nothing that the law and all that it calls make is longer than what came in: it says more and counts as full. Else prove '..UptoSaid'. A law counts once. -/
mutual
def uptoBulk {H : Type} : DataW H → Nat
  | .lit (.string bytes) => bytes.length + 1
  | .lit _ => 1
  | .nil => 1
  | .ptr d => uptoBulk d + 1
  | .slice elems spare => uptoBulkAll elems + uptoBulkAll spare + 1
  | .agg parts => uptoBulkAll parts + 1
  | .iface _ d => uptoBulk d + 1
  | .map entries => uptoBulkEntries entries + 1
  | .held _ => 1
def uptoBulkAll {H : Type} : List (DataW H) → Nat
  | [] => 0
  | d :: r => uptoBulk d + uptoBulkAll r
def uptoBulkEntries {H : Type} : List (Lit × DataW H) → Nat
  | [] => 0
  | x :: r => uptoBulkEntry x + uptoBulkEntries r
def uptoBulkEntry {H : Type} : Lit × DataW H → Nat
  | (.string bytes, d) => bytes.length + uptoBulk d + 1
  | (_, d) => uptoBulk d + 1
 end
def uptoSmall : (H : Type) → List (DataW H) → Bool := fun _ ds => decide (uptoBulkAll ds ≤ 1048576)
def OpenSpec.upto (s : _root_.Go.ChangeSpec) : _root_.Go.OpenSpec := { _root_.Go.OpenSpec.ofChange s with cond := some uptoSmall }

/-- 'foliantlaw37.NamesRead', WHERE WHAT IT READS IS OF BULK AT MOST 1048576: true; the input reads as it did. -/
def namesReadUptoRow : OpenClaim := { program := "ythpbpnfgenhhdaagreat", sum := "f293819cdc96f595337aba31efc98706baf90bebda026c6d5a38f6bd4c672549", func := "foliant/foliantlaw37.NamesRead", spec := "namesRead", inPlace := ["internal/bytealg.IndexByteString", "slices.overlaps[string]", "slices.overlaps[foliant/api.Object]", "slices.overlaps[foliant/api.Item]", "slices.overlaps[foliant/api.Entry]"], unfollowed := true, recurses := true, loops := true, apart := false, narrowed := true }
def NamesReadUptoSaid : Prop := namesReadUptoRow.holds Tryz.pinned (OpenSpec.upto namesReadSpec)

/-- 'foliantlaw37.NamesBack', WHERE WHAT IT READS IS OF BULK AT MOST 1048576: true; the input reads as it did. -/
def namesBackUptoRow : OpenClaim := { program := "ythpbpnfgenhhdaagreat", sum := "f293819cdc96f595337aba31efc98706baf90bebda026c6d5a38f6bd4c672549", func := "foliant/foliantlaw37.NamesBack", spec := "namesBack", inPlace := ["internal/bytealg.IndexByteString", "slices.overlaps[string]", "slices.overlaps[foliant/api.Object]", "slices.overlaps[foliant/api.Item]", "slices.overlaps[foliant/api.Entry]"], unfollowed := true, recurses := true, loops := true, apart := false, narrowed := true }
def NamesBackUptoSaid : Prop := namesBackUptoRow.holds Tryz.pinned (OpenSpec.upto namesBackSpec)

/-- 'foliantlaw37.NamesSets', WHERE WHAT IT READS IS OF BULK AT MOST 1048576: true; the input reads as it did. -/
def namesSetsUptoRow : OpenClaim := { program := "ythpbpnfgenhhdaagreat", sum := "f293819cdc96f595337aba31efc98706baf90bebda026c6d5a38f6bd4c672549", func := "foliant/foliantlaw37.NamesSets", spec := "namesSets", inPlace := ["internal/bytealg.IndexByteString", "slices.overlaps[string]", "slices.overlaps[foliant/api.Object]", "slices.overlaps[foliant/api.Item]", "slices.overlaps[foliant/api.Entry]"], unfollowed := true, recurses := true, loops := true, apart := false, narrowed := true }
def NamesSetsUptoSaid : Prop := namesSetsUptoRow.holds Tryz.pinned (OpenSpec.upto namesSetsSpec)

/-- 'foliantlaw37.NamesKeys', WHERE WHAT IT READS IS OF BULK AT MOST 1048576: true; the input reads as it did. -/
def namesKeysUptoRow : OpenClaim := { program := "ythpbpnfgenhhdaagreat", sum := "f293819cdc96f595337aba31efc98706baf90bebda026c6d5a38f6bd4c672549", func := "foliant/foliantlaw37.NamesKeys", spec := "namesKeys", inPlace := ["internal/bytealg.IndexByteString", "slices.overlaps[string]", "slices.overlaps[foliant/api.Object]", "slices.overlaps[foliant/api.Item]", "slices.overlaps[foliant/api.Entry]"], unfollowed := true, recurses := true, loops := true, apart := false, narrowed := true }
def NamesKeysUptoSaid : Prop := namesKeysUptoRow.holds Tryz.pinned (OpenSpec.upto namesKeysSpec)

end Rows
end Go.Proofs.YthpbpnfgenhhdaaGreat
