/-
  No cell of these rows narrows 'for every input' (looked for: loops, veiled, ifaces, maps, wideKeys, modest, calm, conditions, laid).
  DERIVED. THE GIVEN ROWS OF THIS SEAT. 9 by the template 'for every input the law returns true; each argument reads behind the call as it read before'; 0 by the template 'total and deterministic' (their statements: YtchkipafjnehfaaTotals.lean).
  GIVEN WITH THE SEED: the statements are not yours to turn. If you find one false, say at which input.
  Laid BY PROGRAM, IN A SANDBOX (cutbox-rows.mjs): the forced cells as the released guide's own fill.sh prints them over the translation f69cdfbfb1ec4276… (all of the seat's roots in one cut). By AI agents, Wed Nov 11 2026. No macro, syntax, notation, axiom, sorry.
-/
import Derived.Test.YtchkipafjnehfaaChecked
import GoSem.Claim
import GoSem.ClaimJoined
import GoSem.ClaimMapViews
import Derived.JoinedTies
import Derived.KernelRfl
namespace Go.Proofs.Ytchkipafjnehfaa
/- THE CELL 'sum', in the pinned program and in every row, IS THE sha256 OF THE DUMP (.gsa) THAT YtchkipafjnehfaaProg.lean LOADS. Nothing in Lean hashes anything: it is a label: what it is worth is what the hold of that sum in a sandbox is worth. -/
noncomputable def Try.pinned : Pinned := { name := "ytchkipafjnehfaa", sum := "f69cdfbfb1ec42766fc60932f7714fd255dfee995a6abf7f886327a56fee2855", checked := Try.checked }
namespace Rows
def none {H : Type} : Left H := { results := [], args := [] }

/-- 'capsulelaw39.ConnectResults': WHATEVER THE INPUT: true; the input reads as it did. -/
def connectResultsSpec : ChangeSpec := { name := "connectResults", fn := fun _ => fun
  | [d1, d2, d3] => { results := [.lit (.bool true)], args := [d1, d2, d3] }
  | _ => none }
def connectResultsRow : OpenClaim := { program := "ytchkipafjnehfaa", sum := "f69cdfbfb1ec42766fc60932f7714fd255dfee995a6abf7f886327a56fee2855", func := "capsule/capsulelaw39.ConnectResults", spec := "connectResults", unfollowed := true, recurses := true, apart := false }
def ConnectResultsSaid : Prop := connectResultsRow.holds Try.pinned (OpenSpec.ofChange connectResultsSpec)

/-- ITS FALSE NEIGHBOUR: 'it returns false'. Refute it at one input. -/
def connectResultsWrong : ChangeSpec := { name := "connectResults", fn := fun _ => fun
  | [d1, d2, d3] => { results := [.lit (.bool false)], args := [d1, d2, d3] }
  | _ => none }
def ConnectResultsWrongFalsely : Prop := connectResultsRow.holds Try.pinned (OpenSpec.ofChange connectResultsWrong)

/-- 'capsulelaw39.ConnectAlive': WHATEVER THE INPUT: true; the input reads as it did. -/
def connectAliveSpec : ChangeSpec := { name := "connectAlive", fn := fun _ => fun
  | [d1, d2] => { results := [.lit (.bool true)], args := [d1, d2] }
  | _ => none }
def connectAliveRow : OpenClaim := { program := "ytchkipafjnehfaa", sum := "f69cdfbfb1ec42766fc60932f7714fd255dfee995a6abf7f886327a56fee2855", func := "capsule/capsulelaw39.ConnectAlive", spec := "connectAlive", unfollowed := true, recurses := true, apart := false }
def ConnectAliveSaid : Prop := connectAliveRow.holds Try.pinned (OpenSpec.ofChange connectAliveSpec)

/-- ITS FALSE NEIGHBOUR: 'it returns false'. Refute it at one input. -/
def connectAliveWrong : ChangeSpec := { name := "connectAlive", fn := fun _ => fun
  | [d1, d2] => { results := [.lit (.bool false)], args := [d1, d2] }
  | _ => none }
def ConnectAliveWrongFalsely : Prop := connectAliveRow.holds Try.pinned (OpenSpec.ofChange connectAliveWrong)

/-- 'capsulelaw39.ConnectEncodes': WHATEVER THE INPUT: true; the input reads as it did. -/
def connectEncodesSpec : ChangeSpec := { name := "connectEncodes", fn := fun _ => fun
  | [d] => { results := [.lit (.bool true)], args := [d] }
  | _ => none }
def connectEncodesRow : OpenClaim := { program := "ytchkipafjnehfaa", sum := "f69cdfbfb1ec42766fc60932f7714fd255dfee995a6abf7f886327a56fee2855", func := "capsule/capsulelaw39.ConnectEncodes", spec := "connectEncodes", unfollowed := true, recurses := true, apart := false }
def ConnectEncodesSaid : Prop := connectEncodesRow.holds Try.pinned (OpenSpec.ofChange connectEncodesSpec)

/-- ITS FALSE NEIGHBOUR: 'it returns false'. Refute it at one input. -/
def connectEncodesWrong : ChangeSpec := { name := "connectEncodes", fn := fun _ => fun
  | [d] => { results := [.lit (.bool false)], args := [d] }
  | _ => none }
def ConnectEncodesWrongFalsely : Prop := connectEncodesRow.holds Try.pinned (OpenSpec.ofChange connectEncodesWrong)

/-- 'capsulelaw39.ConnectWatches': WHATEVER THE INPUT: true; the input reads as it did. -/
def connectWatchesSpec : ChangeSpec := { name := "connectWatches", fn := fun _ => fun
  | [d1, d2, d3] => { results := [.lit (.bool true)], args := [d1, d2, d3] }
  | _ => none }
def connectWatchesRow : OpenClaim := { program := "ytchkipafjnehfaa", sum := "f69cdfbfb1ec42766fc60932f7714fd255dfee995a6abf7f886327a56fee2855", func := "capsule/capsulelaw39.ConnectWatches", spec := "connectWatches", unfollowed := true, recurses := true, apart := false }
def ConnectWatchesSaid : Prop := connectWatchesRow.holds Try.pinned (OpenSpec.ofChange connectWatchesSpec)

/-- ITS FALSE NEIGHBOUR: 'it returns false'. Refute it at one input. -/
def connectWatchesWrong : ChangeSpec := { name := "connectWatches", fn := fun _ => fun
  | [d1, d2, d3] => { results := [.lit (.bool false)], args := [d1, d2, d3] }
  | _ => none }
def ConnectWatchesWrongFalsely : Prop := connectWatchesRow.holds Try.pinned (OpenSpec.ofChange connectWatchesWrong)

/-- 'capsulelaw39.ConnectNil': WHATEVER THE INPUT: true; the input reads as it did. -/
def connectNilSpec : ChangeSpec := { name := "connectNil", fn := fun _ => fun
  | [d] => { results := [.lit (.bool true)], args := [d] }
  | _ => none }
def connectNilRow : OpenClaim := { program := "ytchkipafjnehfaa", sum := "f69cdfbfb1ec42766fc60932f7714fd255dfee995a6abf7f886327a56fee2855", func := "capsule/capsulelaw39.ConnectNil", spec := "connectNil", unfollowed := true, recurses := true, apart := false }
def ConnectNilSaid : Prop := connectNilRow.holds Try.pinned (OpenSpec.ofChange connectNilSpec)

/-- ITS FALSE NEIGHBOUR: 'it returns false'. Refute it at one input. -/
def connectNilWrong : ChangeSpec := { name := "connectNil", fn := fun _ => fun
  | [d] => { results := [.lit (.bool false)], args := [d] }
  | _ => none }
def ConnectNilWrongFalsely : Prop := connectNilRow.holds Try.pinned (OpenSpec.ofChange connectNilWrong)

/-- 'capsulelaw39.ConnectNames': WHATEVER THE INPUT: true; the input reads as it did. -/
def connectNamesSpec : ChangeSpec := { name := "connectNames", fn := fun _ => fun
  | [d] => { results := [.lit (.bool true)], args := [d] }
  | _ => none }
def connectNamesRow : OpenClaim := { program := "ytchkipafjnehfaa", sum := "f69cdfbfb1ec42766fc60932f7714fd255dfee995a6abf7f886327a56fee2855", func := "capsule/capsulelaw39.ConnectNames", spec := "connectNames", unfollowed := true, recurses := true, apart := false }
def ConnectNamesSaid : Prop := connectNamesRow.holds Try.pinned (OpenSpec.ofChange connectNamesSpec)

/-- ITS FALSE NEIGHBOUR: 'it returns false'. Refute it at one input. -/
def connectNamesWrong : ChangeSpec := { name := "connectNames", fn := fun _ => fun
  | [d] => { results := [.lit (.bool false)], args := [d] }
  | _ => none }
def ConnectNamesWrongFalsely : Prop := connectNamesRow.holds Try.pinned (OpenSpec.ofChange connectNamesWrong)

/-- 'capsulelaw39.ConnectDecodes': WHATEVER THE INPUT: true; the input reads as it did. -/
def connectDecodesSpec : ChangeSpec := { name := "connectDecodes", fn := fun _ => fun
  | [d] => { results := [.lit (.bool true)], args := [d] }
  | _ => none }
def connectDecodesRow : OpenClaim := { program := "ytchkipafjnehfaa", sum := "f69cdfbfb1ec42766fc60932f7714fd255dfee995a6abf7f886327a56fee2855", func := "capsule/capsulelaw39.ConnectDecodes", spec := "connectDecodes", unfollowed := true, recurses := true, apart := false }
def ConnectDecodesSaid : Prop := connectDecodesRow.holds Try.pinned (OpenSpec.ofChange connectDecodesSpec)

/-- ITS FALSE NEIGHBOUR: 'it returns false'. Refute it at one input. -/
def connectDecodesWrong : ChangeSpec := { name := "connectDecodes", fn := fun _ => fun
  | [d] => { results := [.lit (.bool false)], args := [d] }
  | _ => none }
def ConnectDecodesWrongFalsely : Prop := connectDecodesRow.holds Try.pinned (OpenSpec.ofChange connectDecodesWrong)

/-- 'capsulelaw39.ConnectData': WHATEVER THE INPUT: true; the input reads as it did. -/
def connectDataSpec : ChangeSpec := { name := "connectData", fn := fun _ => fun
  | [d1, d2] => { results := [.lit (.bool true)], args := [d1, d2] }
  | _ => none }
def connectDataRow : OpenClaim := { program := "ytchkipafjnehfaa", sum := "f69cdfbfb1ec42766fc60932f7714fd255dfee995a6abf7f886327a56fee2855", func := "capsule/capsulelaw39.ConnectData", spec := "connectData", inPlace := ["internal/bytealg.IndexByte", "internal/bytealg.Index"], unfollowed := true, recurses := true, named := ["internal/bytealg.MaxLen"], apart := false }
def ConnectDataSaid : Prop := connectDataRow.holds Try.pinned (OpenSpec.ofChange connectDataSpec)

/-- ITS FALSE NEIGHBOUR: 'it returns false'. Refute it at one input. -/
def connectDataWrong : ChangeSpec := { name := "connectData", fn := fun _ => fun
  | [d1, d2] => { results := [.lit (.bool false)], args := [d1, d2] }
  | _ => none }
def ConnectDataWrongFalsely : Prop := connectDataRow.holds Try.pinned (OpenSpec.ofChange connectDataWrong)

/-- 'capsulelaw39.ConnectBack': WHATEVER THE INPUT: true; the input reads as it did. -/
def connectBackSpec : ChangeSpec := { name := "connectBack", fn := fun _ => fun
  | [d1, d2, d3, d4, d5] => { results := [.lit (.bool true)], args := [d1, d2, d3, d4, d5] }
  | _ => none }
def connectBackRow : OpenClaim := { program := "ytchkipafjnehfaa", sum := "f69cdfbfb1ec42766fc60932f7714fd255dfee995a6abf7f886327a56fee2855", func := "capsule/capsulelaw39.ConnectBack", spec := "connectBack", inPlace := ["internal/bytealg.IndexByte", "internal/bytealg.Index"], unfollowed := true, recurses := true, named := ["internal/bytealg.MaxLen"], apart := false }
def ConnectBackSaid : Prop := connectBackRow.holds Try.pinned (OpenSpec.ofChange connectBackSpec)

/-- ITS FALSE NEIGHBOUR: 'it returns false'. Refute it at one input. -/
def connectBackWrong : ChangeSpec := { name := "connectBack", fn := fun _ => fun
  | [d1, d2, d3, d4, d5] => { results := [.lit (.bool false)], args := [d1, d2, d3, d4, d5] }
  | _ => none }
def ConnectBackWrongFalsely : Prop := connectBackRow.holds Try.pinned (OpenSpec.ofChange connectBackWrong)

/- THE SECOND FORM. 'bulk': how many values and letters a reading holds, each counted each time it is reached (what is shared counts as often as it is met; a slice's spare places count too). A statement '..UptoSaid' is the law's where the arguments, and the package variables that the reading takes, are together of bulk at most 1048576: NARROWER than '..Said'. Prove '..Said' where nothing that the law and all that it calls make is longer than what came in: it says more and counts as full. Else prove '..UptoSaid'. A law counts once. -/
mutual
def uptoBulk {H : Type} : DataW H → Nat
  | .lit (.string bytes) => bytes.length + 1
  | .lit _ => 1
  | .nil => 1
  | .ptr d => uptoBulk d + 1
  | .slice elems spare => uptoBulkAll elems + uptoBulkAll spare + 1
  | .agg parts => uptoBulkAll parts + 1
  | .iface _ d => uptoBulk d + 1
  | .map entries => uptoBulkEntries entries + 1
  | .held _ => 1
def uptoBulkAll {H : Type} : List (DataW H) → Nat
  | [] => 0
  | d :: r => uptoBulk d + uptoBulkAll r
def uptoBulkEntries {H : Type} : List (Lit × DataW H) → Nat
  | [] => 0
  | x :: r => uptoBulkEntry x + uptoBulkEntries r
def uptoBulkEntry {H : Type} : Lit × DataW H → Nat
  | (.string bytes, d) => bytes.length + uptoBulk d + 1
  | (_, d) => uptoBulk d + 1
 end
def uptoSmall : (H : Type) → List (DataW H) → Bool := fun _ ds => decide (uptoBulkAll ds ≤ 1048576)
def OpenSpec.upto (s : _root_.Go.ChangeSpec) : _root_.Go.OpenSpec := { _root_.Go.OpenSpec.ofChange s with cond := some uptoSmall }

/-- 'capsulelaw39.ConnectResults', WHERE WHAT IT READS IS OF BULK AT MOST 1048576: true; the input reads as it did. -/
def connectResultsUptoRow : OpenClaim := { program := "ytchkipafjnehfaa", sum := "f69cdfbfb1ec42766fc60932f7714fd255dfee995a6abf7f886327a56fee2855", func := "capsule/capsulelaw39.ConnectResults", spec := "connectResults", unfollowed := true, recurses := true, apart := false, narrowed := true }
def ConnectResultsUptoSaid : Prop := connectResultsUptoRow.holds Try.pinned (OpenSpec.upto connectResultsSpec)

/-- 'capsulelaw39.ConnectAlive', WHERE WHAT IT READS IS OF BULK AT MOST 1048576: true; the input reads as it did. -/
def connectAliveUptoRow : OpenClaim := { program := "ytchkipafjnehfaa", sum := "f69cdfbfb1ec42766fc60932f7714fd255dfee995a6abf7f886327a56fee2855", func := "capsule/capsulelaw39.ConnectAlive", spec := "connectAlive", unfollowed := true, recurses := true, apart := false, narrowed := true }
def ConnectAliveUptoSaid : Prop := connectAliveUptoRow.holds Try.pinned (OpenSpec.upto connectAliveSpec)

/-- 'capsulelaw39.ConnectEncodes', WHERE WHAT IT READS IS OF BULK AT MOST 1048576: true; the input reads as it did. -/
def connectEncodesUptoRow : OpenClaim := { program := "ytchkipafjnehfaa", sum := "f69cdfbfb1ec42766fc60932f7714fd255dfee995a6abf7f886327a56fee2855", func := "capsule/capsulelaw39.ConnectEncodes", spec := "connectEncodes", unfollowed := true, recurses := true, apart := false, narrowed := true }
def ConnectEncodesUptoSaid : Prop := connectEncodesUptoRow.holds Try.pinned (OpenSpec.upto connectEncodesSpec)

/-- 'capsulelaw39.ConnectWatches', WHERE WHAT IT READS IS OF BULK AT MOST 1048576: true; the input reads as it did. -/
def connectWatchesUptoRow : OpenClaim := { program := "ytchkipafjnehfaa", sum := "f69cdfbfb1ec42766fc60932f7714fd255dfee995a6abf7f886327a56fee2855", func := "capsule/capsulelaw39.ConnectWatches", spec := "connectWatches", unfollowed := true, recurses := true, apart := false, narrowed := true }
def ConnectWatchesUptoSaid : Prop := connectWatchesUptoRow.holds Try.pinned (OpenSpec.upto connectWatchesSpec)

/-- 'capsulelaw39.ConnectNil', WHERE WHAT IT READS IS OF BULK AT MOST 1048576: true; the input reads as it did. -/
def connectNilUptoRow : OpenClaim := { program := "ytchkipafjnehfaa", sum := "f69cdfbfb1ec42766fc60932f7714fd255dfee995a6abf7f886327a56fee2855", func := "capsule/capsulelaw39.ConnectNil", spec := "connectNil", unfollowed := true, recurses := true, apart := false, narrowed := true }
def ConnectNilUptoSaid : Prop := connectNilUptoRow.holds Try.pinned (OpenSpec.upto connectNilSpec)

/-- 'capsulelaw39.ConnectNames', WHERE WHAT IT READS IS OF BULK AT MOST 1048576: true; the input reads as it did. -/
def connectNamesUptoRow : OpenClaim := { program := "ytchkipafjnehfaa", sum := "f69cdfbfb1ec42766fc60932f7714fd255dfee995a6abf7f886327a56fee2855", func := "capsule/capsulelaw39.ConnectNames", spec := "connectNames", unfollowed := true, recurses := true, apart := false, narrowed := true }
def ConnectNamesUptoSaid : Prop := connectNamesUptoRow.holds Try.pinned (OpenSpec.upto connectNamesSpec)

/-- 'capsulelaw39.ConnectDecodes', WHERE WHAT IT READS IS OF BULK AT MOST 1048576: true; the input reads as it did. -/
def connectDecodesUptoRow : OpenClaim := { program := "ytchkipafjnehfaa", sum := "f69cdfbfb1ec42766fc60932f7714fd255dfee995a6abf7f886327a56fee2855", func := "capsule/capsulelaw39.ConnectDecodes", spec := "connectDecodes", unfollowed := true, recurses := true, apart := false, narrowed := true }
def ConnectDecodesUptoSaid : Prop := connectDecodesUptoRow.holds Try.pinned (OpenSpec.upto connectDecodesSpec)

/-- 'capsulelaw39.ConnectData', WHERE WHAT IT READS IS OF BULK AT MOST 1048576: true; the input reads as it did. -/
def connectDataUptoRow : OpenClaim := { program := "ytchkipafjnehfaa", sum := "f69cdfbfb1ec42766fc60932f7714fd255dfee995a6abf7f886327a56fee2855", func := "capsule/capsulelaw39.ConnectData", spec := "connectData", inPlace := ["internal/bytealg.IndexByte", "internal/bytealg.Index"], unfollowed := true, recurses := true, named := ["internal/bytealg.MaxLen"], apart := false, narrowed := true }
def ConnectDataUptoSaid : Prop := connectDataUptoRow.holds Try.pinned (OpenSpec.upto connectDataSpec)

/-- 'capsulelaw39.ConnectBack', WHERE WHAT IT READS IS OF BULK AT MOST 1048576: true; the input reads as it did. -/
def connectBackUptoRow : OpenClaim := { program := "ytchkipafjnehfaa", sum := "f69cdfbfb1ec42766fc60932f7714fd255dfee995a6abf7f886327a56fee2855", func := "capsule/capsulelaw39.ConnectBack", spec := "connectBack", inPlace := ["internal/bytealg.IndexByte", "internal/bytealg.Index"], unfollowed := true, recurses := true, named := ["internal/bytealg.MaxLen"], apart := false, narrowed := true }
def ConnectBackUptoSaid : Prop := connectBackUptoRow.holds Try.pinned (OpenSpec.upto connectBackSpec)

end Rows
end Go.Proofs.Ytchkipafjnehfaa
