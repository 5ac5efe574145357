/-
  No cell of these rows narrows 'for every input' (looked for: loops, veiled, ifaces, maps, wideKeys, modest, calm, conditions, laid).
  DERIVED. THE GIVEN ROWS OF THIS SEAT. 7 by the template 'for every input the law returns true; each argument reads behind the call as it read before'; 0 by the template 'total and deterministic' (their statements: YtcljbmkdflkeeaaTotals.lean).
  GIVEN WITH THE SEED: the statements are not yours to turn. If you find one false, say at which input.
  Laid BY PROGRAM, IN A SANDBOX (cutbox-rows.mjs): the forced cells as the released guide's own fill.sh prints them over the translation 0bd61928502c232d… (all of the seat's roots in one cut). By AI agents, Wed Nov 11 2026. No macro, syntax, notation, axiom, sorry.
-/
import Derived.Test.YtcljbmkdflkeeaaChecked
import GoSem.Claim
import GoSem.ClaimJoined
import GoSem.ClaimMapViews
import Derived.JoinedTies
import Derived.KernelRfl
namespace Go.Proofs.Ytcljbmkdflkeeaa
/- THE CELL 'sum', in the pinned program and in every row, IS THE sha256 OF THE DUMP (.gsa) THAT YtcljbmkdflkeeaaProg.lean LOADS. Nothing in Lean hashes anything: it is a label: what it is worth is what the hold of that sum in a sandbox is worth. -/
noncomputable def Try.pinned : Pinned := { name := "ytcljbmkdflkeeaa", sum := "0bd61928502c232d30917445f86a223f602a9b238dc81334724cd68e29642b99", checked := Try.checked }
namespace Rows
def none {H : Type} : Left H := { results := [], args := [] }

/-- 'capsulelaw15.SglCodes': WHATEVER THE INPUT: true; the input reads as it did. -/
def sglCodesSpec : ChangeSpec := { name := "sglCodes", fn := fun _ => fun
  | [d1, d2, d3] => { results := [.lit (.bool true)], args := [d1, d2, d3] }
  | _ => none }
def sglCodesRow : OpenClaim := { program := "ytcljbmkdflkeeaa", sum := "0bd61928502c232d30917445f86a223f602a9b238dc81334724cd68e29642b99", func := "capsule/capsulelaw15.SglCodes", spec := "sglCodes", unfollowed := true, recurses := true, apart := false }
def SglCodesSaid : Prop := sglCodesRow.holds Try.pinned (OpenSpec.ofChange sglCodesSpec)

/-- ITS FALSE NEIGHBOUR: 'it returns false'. Refute it at one input. -/
def sglCodesWrong : ChangeSpec := { name := "sglCodes", fn := fun _ => fun
  | [d1, d2, d3] => { results := [.lit (.bool false)], args := [d1, d2, d3] }
  | _ => none }
def SglCodesWrongFalsely : Prop := sglCodesRow.holds Try.pinned (OpenSpec.ofChange sglCodesWrong)

/-- 'capsulelaw15.SglBuilds': WHATEVER THE INPUT: true; the input reads as it did. -/
def sglBuildsSpec : ChangeSpec := { name := "sglBuilds", fn := fun _ => fun
  | [d1, d2, d3] => { results := [.lit (.bool true)], args := [d1, d2, d3] }
  | _ => none }
def sglBuildsRow : OpenClaim := { program := "ytcljbmkdflkeeaa", sum := "0bd61928502c232d30917445f86a223f602a9b238dc81334724cd68e29642b99", func := "capsule/capsulelaw15.SglBuilds", spec := "sglBuilds", unfollowed := true, recurses := true, apart := false }
def SglBuildsSaid : Prop := sglBuildsRow.holds Try.pinned (OpenSpec.ofChange sglBuildsSpec)

/-- ITS FALSE NEIGHBOUR: 'it returns false'. Refute it at one input. -/
def sglBuildsWrong : ChangeSpec := { name := "sglBuilds", fn := fun _ => fun
  | [d1, d2, d3] => { results := [.lit (.bool false)], args := [d1, d2, d3] }
  | _ => none }
def SglBuildsWrongFalsely : Prop := sglBuildsRow.holds Try.pinned (OpenSpec.ofChange sglBuildsWrong)

/-- 'capsulelaw15.SglBounds': WHATEVER THE INPUT: true; the input reads as it did. -/
def sglBoundsSpec : ChangeSpec := { name := "sglBounds", fn := fun _ => fun
  | [d1, d2] => { results := [.lit (.bool true)], args := [d1, d2] }
  | _ => none }
def sglBoundsRow : OpenClaim := { program := "ytcljbmkdflkeeaa", sum := "0bd61928502c232d30917445f86a223f602a9b238dc81334724cd68e29642b99", func := "capsule/capsulelaw15.SglBounds", spec := "sglBounds", unfollowed := true, recurses := true, apart := false }
def SglBoundsSaid : Prop := sglBoundsRow.holds Try.pinned (OpenSpec.ofChange sglBoundsSpec)

/-- ITS FALSE NEIGHBOUR: 'it returns false'. Refute it at one input. -/
def sglBoundsWrong : ChangeSpec := { name := "sglBounds", fn := fun _ => fun
  | [d1, d2] => { results := [.lit (.bool false)], args := [d1, d2] }
  | _ => none }
def SglBoundsWrongFalsely : Prop := sglBoundsRow.holds Try.pinned (OpenSpec.ofChange sglBoundsWrong)

/-- 'capsulelaw15.SglHolds': WHATEVER THE INPUT: true; the input reads as it did. -/
def sglHoldsSpec : ChangeSpec := { name := "sglHolds", fn := fun _ => fun
  | [d1, d2, d3, d4] => { results := [.lit (.bool true)], args := [d1, d2, d3, d4] }
  | _ => none }
def sglHoldsRow : OpenClaim := { program := "ytcljbmkdflkeeaa", sum := "0bd61928502c232d30917445f86a223f602a9b238dc81334724cd68e29642b99", func := "capsule/capsulelaw15.SglHolds", spec := "sglHolds", unfollowed := true, recurses := true, apart := false }
def SglHoldsSaid : Prop := sglHoldsRow.holds Try.pinned (OpenSpec.ofChange sglHoldsSpec)

/-- ITS FALSE NEIGHBOUR: 'it returns false'. Refute it at one input. -/
def sglHoldsWrong : ChangeSpec := { name := "sglHolds", fn := fun _ => fun
  | [d1, d2, d3, d4] => { results := [.lit (.bool false)], args := [d1, d2, d3, d4] }
  | _ => none }
def SglHoldsWrongFalsely : Prop := sglHoldsRow.holds Try.pinned (OpenSpec.ofChange sglHoldsWrong)

/-- 'capsulelaw15.SglNone': WHATEVER THE INPUT: true; the input reads as it did. -/
def sglNoneSpec : ChangeSpec := { name := "sglNone", fn := fun _ => fun
  | [d1, d2, d3] => { results := [.lit (.bool true)], args := [d1, d2, d3] }
  | _ => none }
def sglNoneRow : OpenClaim := { program := "ytcljbmkdflkeeaa", sum := "0bd61928502c232d30917445f86a223f602a9b238dc81334724cd68e29642b99", func := "capsule/capsulelaw15.SglNone", spec := "sglNone", unfollowed := true, recurses := true, apart := false }
def SglNoneSaid : Prop := sglNoneRow.holds Try.pinned (OpenSpec.ofChange sglNoneSpec)

/-- ITS FALSE NEIGHBOUR: 'it returns false'. Refute it at one input. -/
def sglNoneWrong : ChangeSpec := { name := "sglNone", fn := fun _ => fun
  | [d1, d2, d3] => { results := [.lit (.bool false)], args := [d1, d2, d3] }
  | _ => none }
def SglNoneWrongFalsely : Prop := sglNoneRow.holds Try.pinned (OpenSpec.ofChange sglNoneWrong)

/-- 'capsulelaw15.SglEach': WHATEVER THE INPUT: true; the input reads as it did. -/
def sglEachSpec : ChangeSpec := { name := "sglEach", fn := fun _ => fun
  | [d1, d2, d3, d4, d5] => { results := [.lit (.bool true)], args := [d1, d2, d3, d4, d5] }
  | _ => none }
def sglEachRow : OpenClaim := { program := "ytcljbmkdflkeeaa", sum := "0bd61928502c232d30917445f86a223f602a9b238dc81334724cd68e29642b99", func := "capsule/capsulelaw15.SglEach", spec := "sglEach", unfollowed := true, recurses := true, apart := false }
def SglEachSaid : Prop := sglEachRow.holds Try.pinned (OpenSpec.ofChange sglEachSpec)

/-- ITS FALSE NEIGHBOUR: 'it returns false'. Refute it at one input. -/
def sglEachWrong : ChangeSpec := { name := "sglEach", fn := fun _ => fun
  | [d1, d2, d3, d4, d5] => { results := [.lit (.bool false)], args := [d1, d2, d3, d4, d5] }
  | _ => none }
def SglEachWrongFalsely : Prop := sglEachRow.holds Try.pinned (OpenSpec.ofChange sglEachWrong)

/-- 'capsulelaw15.SglSpans': WHATEVER THE INPUT: true; the input reads as it did. -/
def sglSpansSpec : ChangeSpec := { name := "sglSpans", fn := fun _ => fun
  | [d1, d2, d3, d4, d5] => { results := [.lit (.bool true)], args := [d1, d2, d3, d4, d5] }
  | _ => none }
def sglSpansRow : OpenClaim := { program := "ytcljbmkdflkeeaa", sum := "0bd61928502c232d30917445f86a223f602a9b238dc81334724cd68e29642b99", func := "capsule/capsulelaw15.SglSpans", spec := "sglSpans", unfollowed := true, recurses := true, apart := false }
def SglSpansSaid : Prop := sglSpansRow.holds Try.pinned (OpenSpec.ofChange sglSpansSpec)

/-- ITS FALSE NEIGHBOUR: 'it returns false'. Refute it at one input. -/
def sglSpansWrong : ChangeSpec := { name := "sglSpans", fn := fun _ => fun
  | [d1, d2, d3, d4, d5] => { results := [.lit (.bool false)], args := [d1, d2, d3, d4, d5] }
  | _ => none }
def SglSpansWrongFalsely : Prop := sglSpansRow.holds Try.pinned (OpenSpec.ofChange sglSpansWrong)

/- THE SECOND FORM. 'bulk': how many values and letters a reading holds, each counted each time it is reached (what is shared counts as often as it is met; a slice's spare places count too). A statement '..UptoSaid' is the law's where the arguments, and the package variables that the reading takes, are together of bulk at most 1048576: NARROWER than '..Said'. Prove '..Said' where nothing that the law and all that it calls make is longer than what came in: it says more and counts as full. Else prove '..UptoSaid'. A law counts once. -/
mutual
def uptoBulk {H : Type} : DataW H → Nat
  | .lit (.string bytes) => bytes.length + 1
  | .lit _ => 1
  | .nil => 1
  | .ptr d => uptoBulk d + 1
  | .slice elems spare => uptoBulkAll elems + uptoBulkAll spare + 1
  | .agg parts => uptoBulkAll parts + 1
  | .iface _ d => uptoBulk d + 1
  | .map entries => uptoBulkEntries entries + 1
  | .held _ => 1
def uptoBulkAll {H : Type} : List (DataW H) → Nat
  | [] => 0
  | d :: r => uptoBulk d + uptoBulkAll r
def uptoBulkEntries {H : Type} : List (Lit × DataW H) → Nat
  | [] => 0
  | x :: r => uptoBulkEntry x + uptoBulkEntries r
def uptoBulkEntry {H : Type} : Lit × DataW H → Nat
  | (.string bytes, d) => bytes.length + uptoBulk d + 1
  | (_, d) => uptoBulk d + 1
 end
def uptoSmall : (H : Type) → List (DataW H) → Bool := fun _ ds => decide (uptoBulkAll ds ≤ 1048576)
def OpenSpec.upto (s : _root_.Go.ChangeSpec) : _root_.Go.OpenSpec := { _root_.Go.OpenSpec.ofChange s with cond := some uptoSmall }

/-- 'capsulelaw15.SglCodes', WHERE WHAT IT READS IS OF BULK AT MOST 1048576: true; the input reads as it did. -/
def sglCodesUptoRow : OpenClaim := { program := "ytcljbmkdflkeeaa", sum := "0bd61928502c232d30917445f86a223f602a9b238dc81334724cd68e29642b99", func := "capsule/capsulelaw15.SglCodes", spec := "sglCodes", unfollowed := true, recurses := true, apart := false, narrowed := true }
def SglCodesUptoSaid : Prop := sglCodesUptoRow.holds Try.pinned (OpenSpec.upto sglCodesSpec)

/-- 'capsulelaw15.SglBuilds', WHERE WHAT IT READS IS OF BULK AT MOST 1048576: true; the input reads as it did. -/
def sglBuildsUptoRow : OpenClaim := { program := "ytcljbmkdflkeeaa", sum := "0bd61928502c232d30917445f86a223f602a9b238dc81334724cd68e29642b99", func := "capsule/capsulelaw15.SglBuilds", spec := "sglBuilds", unfollowed := true, recurses := true, apart := false, narrowed := true }
def SglBuildsUptoSaid : Prop := sglBuildsUptoRow.holds Try.pinned (OpenSpec.upto sglBuildsSpec)

/-- 'capsulelaw15.SglBounds', WHERE WHAT IT READS IS OF BULK AT MOST 1048576: true; the input reads as it did. -/
def sglBoundsUptoRow : OpenClaim := { program := "ytcljbmkdflkeeaa", sum := "0bd61928502c232d30917445f86a223f602a9b238dc81334724cd68e29642b99", func := "capsule/capsulelaw15.SglBounds", spec := "sglBounds", unfollowed := true, recurses := true, apart := false, narrowed := true }
def SglBoundsUptoSaid : Prop := sglBoundsUptoRow.holds Try.pinned (OpenSpec.upto sglBoundsSpec)

/-- 'capsulelaw15.SglHolds', WHERE WHAT IT READS IS OF BULK AT MOST 1048576: true; the input reads as it did. -/
def sglHoldsUptoRow : OpenClaim := { program := "ytcljbmkdflkeeaa", sum := "0bd61928502c232d30917445f86a223f602a9b238dc81334724cd68e29642b99", func := "capsule/capsulelaw15.SglHolds", spec := "sglHolds", unfollowed := true, recurses := true, apart := false, narrowed := true }
def SglHoldsUptoSaid : Prop := sglHoldsUptoRow.holds Try.pinned (OpenSpec.upto sglHoldsSpec)

/-- 'capsulelaw15.SglNone', WHERE WHAT IT READS IS OF BULK AT MOST 1048576: true; the input reads as it did. -/
def sglNoneUptoRow : OpenClaim := { program := "ytcljbmkdflkeeaa", sum := "0bd61928502c232d30917445f86a223f602a9b238dc81334724cd68e29642b99", func := "capsule/capsulelaw15.SglNone", spec := "sglNone", unfollowed := true, recurses := true, apart := false, narrowed := true }
def SglNoneUptoSaid : Prop := sglNoneUptoRow.holds Try.pinned (OpenSpec.upto sglNoneSpec)

/-- 'capsulelaw15.SglEach', WHERE WHAT IT READS IS OF BULK AT MOST 1048576: true; the input reads as it did. -/
def sglEachUptoRow : OpenClaim := { program := "ytcljbmkdflkeeaa", sum := "0bd61928502c232d30917445f86a223f602a9b238dc81334724cd68e29642b99", func := "capsule/capsulelaw15.SglEach", spec := "sglEach", unfollowed := true, recurses := true, apart := false, narrowed := true }
def SglEachUptoSaid : Prop := sglEachUptoRow.holds Try.pinned (OpenSpec.upto sglEachSpec)

/-- 'capsulelaw15.SglSpans', WHERE WHAT IT READS IS OF BULK AT MOST 1048576: true; the input reads as it did. -/
def sglSpansUptoRow : OpenClaim := { program := "ytcljbmkdflkeeaa", sum := "0bd61928502c232d30917445f86a223f602a9b238dc81334724cd68e29642b99", func := "capsule/capsulelaw15.SglSpans", spec := "sglSpans", unfollowed := true, recurses := true, apart := false, narrowed := true }
def SglSpansUptoSaid : Prop := sglSpansUptoRow.holds Try.pinned (OpenSpec.upto sglSpansSpec)

end Rows
end Go.Proofs.Ytcljbmkdflkeeaa
