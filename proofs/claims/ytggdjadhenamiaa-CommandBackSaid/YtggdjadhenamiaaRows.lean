/-
  No cell of these rows narrows 'for every input' (looked for: loops, veiled, ifaces, maps, wideKeys, modest, calm, conditions, laid).
  DERIVED. THE GIVEN ROWS OF THIS SEAT. 7 by the template 'for every input the law returns true; each argument reads behind the call as it read before'; 0 by the template 'total and deterministic' (their statements: YtggdjadhenamiaaTotals.lean).
  GIVEN WITH THE SEED: the statements are not yours to turn. If you find one false, say at which input.
  Laid BY PROGRAM, IN A SANDBOX (cutbox-rows.mjs): the forced cells as the released guide's own fill.sh prints them over the translation 055c054fa00a34ea… (all of the seat's roots in one cut). By AI agents, Wed Nov 11 2026. No macro, syntax, notation, axiom, sorry.
-/
import Derived.Test.YtggdjadhenamiaaChecked
import GoSem.Claim
import GoSem.ClaimJoined
import GoSem.ClaimMapViews
import Derived.JoinedTies
import Derived.KernelRfl
namespace Go.Proofs.Ytggdjadhenamiaa
/- THE CELL 'sum', in the pinned program and in every row, IS THE sha256 OF THE DUMP (.gsa) THAT YtggdjadhenamiaaProg.lean LOADS. Nothing in Lean hashes anything: it is a label: what it is worth is what the hold of that sum in a sandbox is worth. -/
noncomputable def Try.pinned : Pinned := { name := "ytggdjadhenamiaa", sum := "055c054fa00a34eac7053d4777f1a180fb4bdff48525c0097c9472090f108040", checked := Try.checked }
namespace Rows
def none {H : Type} : Left H := { results := [], args := [] }

/-- 'capsulelaw19.CommandEncodes': WHATEVER THE INPUT: true; the input reads as it did. -/
def commandEncodesSpec : ChangeSpec := { name := "commandEncodes", fn := fun _ => fun
  | [d] => { results := [.lit (.bool true)], args := [d] }
  | _ => none }
def commandEncodesRow : OpenClaim := { program := "ytggdjadhenamiaa", sum := "055c054fa00a34eac7053d4777f1a180fb4bdff48525c0097c9472090f108040", func := "capsule/capsulelaw19.CommandEncodes", spec := "commandEncodes", unfollowed := true, recurses := true, apart := false }
def CommandEncodesSaid : Prop := commandEncodesRow.holds Try.pinned (OpenSpec.ofChange commandEncodesSpec)

/-- ITS FALSE NEIGHBOUR: 'it returns false'. Refute it at one input. -/
def commandEncodesWrong : ChangeSpec := { name := "commandEncodes", fn := fun _ => fun
  | [d] => { results := [.lit (.bool false)], args := [d] }
  | _ => none }
def CommandEncodesWrongFalsely : Prop := commandEncodesRow.holds Try.pinned (OpenSpec.ofChange commandEncodesWrong)

/-- 'capsulelaw19.CommandDecodes': WHATEVER THE INPUT: true; the input reads as it did. -/
def commandDecodesSpec : ChangeSpec := { name := "commandDecodes", fn := fun _ => fun
  | [d] => { results := [.lit (.bool true)], args := [d] }
  | _ => none }
def commandDecodesRow : OpenClaim := { program := "ytggdjadhenamiaa", sum := "055c054fa00a34eac7053d4777f1a180fb4bdff48525c0097c9472090f108040", func := "capsule/capsulelaw19.CommandDecodes", spec := "commandDecodes", unfollowed := true, recurses := true, apart := false }
def CommandDecodesSaid : Prop := commandDecodesRow.holds Try.pinned (OpenSpec.ofChange commandDecodesSpec)

/-- ITS FALSE NEIGHBOUR: 'it returns false'. Refute it at one input. -/
def commandDecodesWrong : ChangeSpec := { name := "commandDecodes", fn := fun _ => fun
  | [d] => { results := [.lit (.bool false)], args := [d] }
  | _ => none }
def CommandDecodesWrongFalsely : Prop := commandDecodesRow.holds Try.pinned (OpenSpec.ofChange commandDecodesWrong)

/-- 'capsulelaw19.CommandPuts': WHATEVER THE INPUT: true; the input reads as it did. -/
def commandPutsSpec : ChangeSpec := { name := "commandPuts", fn := fun _ => fun
  | [d1, d2] => { results := [.lit (.bool true)], args := [d1, d2] }
  | _ => none }
def commandPutsRow : OpenClaim := { program := "ytggdjadhenamiaa", sum := "055c054fa00a34eac7053d4777f1a180fb4bdff48525c0097c9472090f108040", func := "capsule/capsulelaw19.CommandPuts", spec := "commandPuts", unfollowed := true, recurses := true, apart := false }
def CommandPutsSaid : Prop := commandPutsRow.holds Try.pinned (OpenSpec.ofChange commandPutsSpec)

/-- ITS FALSE NEIGHBOUR: 'it returns false'. Refute it at one input. -/
def commandPutsWrong : ChangeSpec := { name := "commandPuts", fn := fun _ => fun
  | [d1, d2] => { results := [.lit (.bool false)], args := [d1, d2] }
  | _ => none }
def CommandPutsWrongFalsely : Prop := commandPutsRow.holds Try.pinned (OpenSpec.ofChange commandPutsWrong)

/-- 'capsulelaw19.CommandNames': WHATEVER THE INPUT: true; the input reads as it did. -/
def commandNamesSpec : ChangeSpec := { name := "commandNames", fn := fun _ => fun
  | [d1, d2, d3] => { results := [.lit (.bool true)], args := [d1, d2, d3] }
  | _ => none }
def commandNamesRow : OpenClaim := { program := "ytggdjadhenamiaa", sum := "055c054fa00a34eac7053d4777f1a180fb4bdff48525c0097c9472090f108040", func := "capsule/capsulelaw19.CommandNames", spec := "commandNames", unfollowed := true, recurses := true, apart := false }
def CommandNamesSaid : Prop := commandNamesRow.holds Try.pinned (OpenSpec.ofChange commandNamesSpec)

/-- ITS FALSE NEIGHBOUR: 'it returns false'. Refute it at one input. -/
def commandNamesWrong : ChangeSpec := { name := "commandNames", fn := fun _ => fun
  | [d1, d2, d3] => { results := [.lit (.bool false)], args := [d1, d2, d3] }
  | _ => none }
def CommandNamesWrongFalsely : Prop := commandNamesRow.holds Try.pinned (OpenSpec.ofChange commandNamesWrong)

/-- 'capsulelaw19.CommandLists': WHATEVER THE INPUT: true; the input reads as it did. -/
def commandListsSpec : ChangeSpec := { name := "commandLists", fn := fun _ => fun
  | [d1, d2] => { results := [.lit (.bool true)], args := [d1, d2] }
  | _ => none }
def commandListsRow : OpenClaim := { program := "ytggdjadhenamiaa", sum := "055c054fa00a34eac7053d4777f1a180fb4bdff48525c0097c9472090f108040", func := "capsule/capsulelaw19.CommandLists", spec := "commandLists", unfollowed := true, recurses := true, apart := false }
def CommandListsSaid : Prop := commandListsRow.holds Try.pinned (OpenSpec.ofChange commandListsSpec)

/-- ITS FALSE NEIGHBOUR: 'it returns false'. Refute it at one input. -/
def commandListsWrong : ChangeSpec := { name := "commandLists", fn := fun _ => fun
  | [d1, d2] => { results := [.lit (.bool false)], args := [d1, d2] }
  | _ => none }
def CommandListsWrongFalsely : Prop := commandListsRow.holds Try.pinned (OpenSpec.ofChange commandListsWrong)

/-- 'capsulelaw19.CommandGets': WHATEVER THE INPUT: true; the input reads as it did. -/
def commandGetsSpec : ChangeSpec := { name := "commandGets", fn := fun _ => fun
  | [d] => { results := [.lit (.bool true)], args := [d] }
  | _ => none }
def commandGetsRow : OpenClaim := { program := "ytggdjadhenamiaa", sum := "055c054fa00a34eac7053d4777f1a180fb4bdff48525c0097c9472090f108040", func := "capsule/capsulelaw19.CommandGets", spec := "commandGets", unfollowed := true, recurses := true, apart := false }
def CommandGetsSaid : Prop := commandGetsRow.holds Try.pinned (OpenSpec.ofChange commandGetsSpec)

/-- ITS FALSE NEIGHBOUR: 'it returns false'. Refute it at one input. -/
def commandGetsWrong : ChangeSpec := { name := "commandGets", fn := fun _ => fun
  | [d] => { results := [.lit (.bool false)], args := [d] }
  | _ => none }
def CommandGetsWrongFalsely : Prop := commandGetsRow.holds Try.pinned (OpenSpec.ofChange commandGetsWrong)

/-- 'capsulelaw19.CommandBack': WHATEVER THE INPUT: true; the input reads as it did. -/
def commandBackSpec : ChangeSpec := { name := "commandBack", fn := fun _ => fun
  | [d1, d2, d3] => { results := [.lit (.bool true)], args := [d1, d2, d3] }
  | _ => none }
def commandBackRow : OpenClaim := { program := "ytggdjadhenamiaa", sum := "055c054fa00a34eac7053d4777f1a180fb4bdff48525c0097c9472090f108040", func := "capsule/capsulelaw19.CommandBack", spec := "commandBack", unfollowed := true, recurses := true, apart := false }
def CommandBackSaid : Prop := commandBackRow.holds Try.pinned (OpenSpec.ofChange commandBackSpec)

/-- ITS FALSE NEIGHBOUR: 'it returns false'. Refute it at one input. -/
def commandBackWrong : ChangeSpec := { name := "commandBack", fn := fun _ => fun
  | [d1, d2, d3] => { results := [.lit (.bool false)], args := [d1, d2, d3] }
  | _ => none }
def CommandBackWrongFalsely : Prop := commandBackRow.holds Try.pinned (OpenSpec.ofChange commandBackWrong)

/- THE SECOND FORM. 'bulk': how many values and letters a reading holds, each counted each time it is reached (what is shared counts as often as it is met; a slice's spare places count too). A statement '..UptoSaid' is the law's where the arguments, and the package variables that the reading takes, are together of bulk at most 1048576: NARROWER than '..Said'. Prove '..Said' where nothing that the law and all that it calls make is longer than what came in: it says more and counts as full. Else prove '..UptoSaid'. A law counts once. -/
mutual
def uptoBulk {H : Type} : DataW H → Nat
  | .lit (.string bytes) => bytes.length + 1
  | .lit _ => 1
  | .nil => 1
  | .ptr d => uptoBulk d + 1
  | .slice elems spare => uptoBulkAll elems + uptoBulkAll spare + 1
  | .agg parts => uptoBulkAll parts + 1
  | .iface _ d => uptoBulk d + 1
  | .map entries => uptoBulkEntries entries + 1
  | .held _ => 1
def uptoBulkAll {H : Type} : List (DataW H) → Nat
  | [] => 0
  | d :: r => uptoBulk d + uptoBulkAll r
def uptoBulkEntries {H : Type} : List (Lit × DataW H) → Nat
  | [] => 0
  | x :: r => uptoBulkEntry x + uptoBulkEntries r
def uptoBulkEntry {H : Type} : Lit × DataW H → Nat
  | (.string bytes, d) => bytes.length + uptoBulk d + 1
  | (_, d) => uptoBulk d + 1
 end
def uptoSmall : (H : Type) → List (DataW H) → Bool := fun _ ds => decide (uptoBulkAll ds ≤ 1048576)
def OpenSpec.upto (s : _root_.Go.ChangeSpec) : _root_.Go.OpenSpec := { _root_.Go.OpenSpec.ofChange s with cond := some uptoSmall }

/-- 'capsulelaw19.CommandEncodes', WHERE WHAT IT READS IS OF BULK AT MOST 1048576: true; the input reads as it did. -/
def commandEncodesUptoRow : OpenClaim := { program := "ytggdjadhenamiaa", sum := "055c054fa00a34eac7053d4777f1a180fb4bdff48525c0097c9472090f108040", func := "capsule/capsulelaw19.CommandEncodes", spec := "commandEncodes", unfollowed := true, recurses := true, apart := false, narrowed := true }
def CommandEncodesUptoSaid : Prop := commandEncodesUptoRow.holds Try.pinned (OpenSpec.upto commandEncodesSpec)

/-- 'capsulelaw19.CommandDecodes', WHERE WHAT IT READS IS OF BULK AT MOST 1048576: true; the input reads as it did. -/
def commandDecodesUptoRow : OpenClaim := { program := "ytggdjadhenamiaa", sum := "055c054fa00a34eac7053d4777f1a180fb4bdff48525c0097c9472090f108040", func := "capsule/capsulelaw19.CommandDecodes", spec := "commandDecodes", unfollowed := true, recurses := true, apart := false, narrowed := true }
def CommandDecodesUptoSaid : Prop := commandDecodesUptoRow.holds Try.pinned (OpenSpec.upto commandDecodesSpec)

/-- 'capsulelaw19.CommandPuts', WHERE WHAT IT READS IS OF BULK AT MOST 1048576: true; the input reads as it did. -/
def commandPutsUptoRow : OpenClaim := { program := "ytggdjadhenamiaa", sum := "055c054fa00a34eac7053d4777f1a180fb4bdff48525c0097c9472090f108040", func := "capsule/capsulelaw19.CommandPuts", spec := "commandPuts", unfollowed := true, recurses := true, apart := false, narrowed := true }
def CommandPutsUptoSaid : Prop := commandPutsUptoRow.holds Try.pinned (OpenSpec.upto commandPutsSpec)

/-- 'capsulelaw19.CommandNames', WHERE WHAT IT READS IS OF BULK AT MOST 1048576: true; the input reads as it did. -/
def commandNamesUptoRow : OpenClaim := { program := "ytggdjadhenamiaa", sum := "055c054fa00a34eac7053d4777f1a180fb4bdff48525c0097c9472090f108040", func := "capsule/capsulelaw19.CommandNames", spec := "commandNames", unfollowed := true, recurses := true, apart := false, narrowed := true }
def CommandNamesUptoSaid : Prop := commandNamesUptoRow.holds Try.pinned (OpenSpec.upto commandNamesSpec)

/-- 'capsulelaw19.CommandLists', WHERE WHAT IT READS IS OF BULK AT MOST 1048576: true; the input reads as it did. -/
def commandListsUptoRow : OpenClaim := { program := "ytggdjadhenamiaa", sum := "055c054fa00a34eac7053d4777f1a180fb4bdff48525c0097c9472090f108040", func := "capsule/capsulelaw19.CommandLists", spec := "commandLists", unfollowed := true, recurses := true, apart := false, narrowed := true }
def CommandListsUptoSaid : Prop := commandListsUptoRow.holds Try.pinned (OpenSpec.upto commandListsSpec)

/-- 'capsulelaw19.CommandGets', WHERE WHAT IT READS IS OF BULK AT MOST 1048576: true; the input reads as it did. -/
def commandGetsUptoRow : OpenClaim := { program := "ytggdjadhenamiaa", sum := "055c054fa00a34eac7053d4777f1a180fb4bdff48525c0097c9472090f108040", func := "capsule/capsulelaw19.CommandGets", spec := "commandGets", unfollowed := true, recurses := true, apart := false, narrowed := true }
def CommandGetsUptoSaid : Prop := commandGetsUptoRow.holds Try.pinned (OpenSpec.upto commandGetsSpec)

/-- 'capsulelaw19.CommandBack', WHERE WHAT IT READS IS OF BULK AT MOST 1048576: true; the input reads as it did. -/
def commandBackUptoRow : OpenClaim := { program := "ytggdjadhenamiaa", sum := "055c054fa00a34eac7053d4777f1a180fb4bdff48525c0097c9472090f108040", func := "capsule/capsulelaw19.CommandBack", spec := "commandBack", unfollowed := true, recurses := true, apart := false, narrowed := true }
def CommandBackUptoSaid : Prop := commandBackUptoRow.holds Try.pinned (OpenSpec.upto commandBackSpec)

end Rows
end Go.Proofs.Ytggdjadhenamiaa
