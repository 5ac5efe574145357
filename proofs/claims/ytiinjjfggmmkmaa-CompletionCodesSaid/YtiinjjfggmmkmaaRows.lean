/-
  No cell of these rows narrows 'for every input' (looked for: loops, veiled, ifaces, maps, wideKeys, modest, calm, conditions, laid).
  DERIVED. THE GIVEN ROWS OF THIS SEAT. 7 by the template 'for every input the law returns true; each argument reads behind the call as it read before'; 0 by the template 'total and deterministic' (their statements: YtiinjjfggmmkmaaTotals.lean).
  GIVEN WITH THE SEED: the statements are not yours to turn. If you find one false, say at which input.
  Laid BY PROGRAM, IN A SANDBOX (cutbox-rows.mjs): the forced cells as the released guide's own fill.sh prints them over the translation 934c6fde76e9325f… (all of the seat's roots in one cut). By AI agents, Wed Nov 11 2026. No macro, syntax, notation, axiom, sorry.
-/
import Derived.Test.YtiinjjfggmmkmaaChecked
import GoSem.Claim
import GoSem.ClaimJoined
import GoSem.ClaimMapViews
import Derived.JoinedTies
import Derived.KernelRfl
namespace Go.Proofs.Ytiinjjfggmmkmaa
/- THE CELL 'sum', in the pinned program and in every row, IS THE sha256 OF THE DUMP (.gsa) THAT YtiinjjfggmmkmaaProg.lean LOADS. Nothing in Lean hashes anything: it is a label: what it is worth is what the hold of that sum in a sandbox is worth. -/
noncomputable def Try.pinned : Pinned := { name := "ytiinjjfggmmkmaa", sum := "934c6fde76e9325f755c5e9c98022e46f2b72ef2917cac27cb340b00921be510", checked := Try.checked }
namespace Rows
def none {H : Type} : Left H := { results := [], args := [] }

/-- 'capsulelaw20.CompletionMakes': WHATEVER THE INPUT: true; the input reads as it did. -/
def completionMakesSpec : ChangeSpec := { name := "completionMakes", fn := fun _ => fun
  | [d1, d2, d3] => { results := [.lit (.bool true)], args := [d1, d2, d3] }
  | _ => none }
def completionMakesRow : OpenClaim := { program := "ytiinjjfggmmkmaa", sum := "934c6fde76e9325f755c5e9c98022e46f2b72ef2917cac27cb340b00921be510", func := "capsule/capsulelaw20.CompletionMakes", spec := "completionMakes", unfollowed := true, recurses := true, apart := false }
def CompletionMakesSaid : Prop := completionMakesRow.holds Try.pinned (OpenSpec.ofChange completionMakesSpec)

/-- ITS FALSE NEIGHBOUR: 'it returns false'. Refute it at one input. -/
def completionMakesWrong : ChangeSpec := { name := "completionMakes", fn := fun _ => fun
  | [d1, d2, d3] => { results := [.lit (.bool false)], args := [d1, d2, d3] }
  | _ => none }
def CompletionMakesWrongFalsely : Prop := completionMakesRow.holds Try.pinned (OpenSpec.ofChange completionMakesWrong)

/-- 'capsulelaw20.CompletionCodes': WHATEVER THE INPUT: true; the input reads as it did. -/
def completionCodesSpec : ChangeSpec := { name := "completionCodes", fn := fun _ => fun
  | [d] => { results := [.lit (.bool true)], args := [d] }
  | _ => none }
def completionCodesRow : OpenClaim := { program := "ytiinjjfggmmkmaa", sum := "934c6fde76e9325f755c5e9c98022e46f2b72ef2917cac27cb340b00921be510", func := "capsule/capsulelaw20.CompletionCodes", spec := "completionCodes", unfollowed := true, recurses := true, apart := false }
def CompletionCodesSaid : Prop := completionCodesRow.holds Try.pinned (OpenSpec.ofChange completionCodesSpec)

/-- ITS FALSE NEIGHBOUR: 'it returns false'. Refute it at one input. -/
def completionCodesWrong : ChangeSpec := { name := "completionCodes", fn := fun _ => fun
  | [d] => { results := [.lit (.bool false)], args := [d] }
  | _ => none }
def CompletionCodesWrongFalsely : Prop := completionCodesRow.holds Try.pinned (OpenSpec.ofChange completionCodesWrong)

/-- 'capsulelaw20.CompletionEncodes': WHATEVER THE INPUT: true; the input reads as it did. -/
def completionEncodesSpec : ChangeSpec := { name := "completionEncodes", fn := fun _ => fun
  | [d] => { results := [.lit (.bool true)], args := [d] }
  | _ => none }
def completionEncodesRow : OpenClaim := { program := "ytiinjjfggmmkmaa", sum := "934c6fde76e9325f755c5e9c98022e46f2b72ef2917cac27cb340b00921be510", func := "capsule/capsulelaw20.CompletionEncodes", spec := "completionEncodes", unfollowed := true, recurses := true, apart := false }
def CompletionEncodesSaid : Prop := completionEncodesRow.holds Try.pinned (OpenSpec.ofChange completionEncodesSpec)

/-- ITS FALSE NEIGHBOUR: 'it returns false'. Refute it at one input. -/
def completionEncodesWrong : ChangeSpec := { name := "completionEncodes", fn := fun _ => fun
  | [d] => { results := [.lit (.bool false)], args := [d] }
  | _ => none }
def CompletionEncodesWrongFalsely : Prop := completionEncodesRow.holds Try.pinned (OpenSpec.ofChange completionEncodesWrong)

/-- 'capsulelaw20.CompletionNames': WHATEVER THE INPUT: true; the input reads as it did. -/
def completionNamesSpec : ChangeSpec := { name := "completionNames", fn := fun _ => fun
  | [d1, d2] => { results := [.lit (.bool true)], args := [d1, d2] }
  | _ => none }
def completionNamesRow : OpenClaim := { program := "ytiinjjfggmmkmaa", sum := "934c6fde76e9325f755c5e9c98022e46f2b72ef2917cac27cb340b00921be510", func := "capsule/capsulelaw20.CompletionNames", spec := "completionNames", unfollowed := true, recurses := true, apart := false }
def CompletionNamesSaid : Prop := completionNamesRow.holds Try.pinned (OpenSpec.ofChange completionNamesSpec)

/-- ITS FALSE NEIGHBOUR: 'it returns false'. Refute it at one input. -/
def completionNamesWrong : ChangeSpec := { name := "completionNames", fn := fun _ => fun
  | [d1, d2] => { results := [.lit (.bool false)], args := [d1, d2] }
  | _ => none }
def CompletionNamesWrongFalsely : Prop := completionNamesRow.holds Try.pinned (OpenSpec.ofChange completionNamesWrong)

/-- 'capsulelaw20.CompletionClasses': WHATEVER THE INPUT: true; the input reads as it did. -/
def completionClassesSpec : ChangeSpec := { name := "completionClasses", fn := fun _ => fun
  | [d] => { results := [.lit (.bool true)], args := [d] }
  | _ => none }
def completionClassesRow : OpenClaim := { program := "ytiinjjfggmmkmaa", sum := "934c6fde76e9325f755c5e9c98022e46f2b72ef2917cac27cb340b00921be510", func := "capsule/capsulelaw20.CompletionClasses", spec := "completionClasses", unfollowed := true, recurses := true, apart := false }
def CompletionClassesSaid : Prop := completionClassesRow.holds Try.pinned (OpenSpec.ofChange completionClassesSpec)

/-- ITS FALSE NEIGHBOUR: 'it returns false'. Refute it at one input. -/
def completionClassesWrong : ChangeSpec := { name := "completionClasses", fn := fun _ => fun
  | [d] => { results := [.lit (.bool false)], args := [d] }
  | _ => none }
def CompletionClassesWrongFalsely : Prop := completionClassesRow.holds Try.pinned (OpenSpec.ofChange completionClassesWrong)

/-- 'capsulelaw20.CompletionDecodes': WHATEVER THE INPUT: true; the input reads as it did. -/
def completionDecodesSpec : ChangeSpec := { name := "completionDecodes", fn := fun _ => fun
  | [d] => { results := [.lit (.bool true)], args := [d] }
  | _ => none }
def completionDecodesRow : OpenClaim := { program := "ytiinjjfggmmkmaa", sum := "934c6fde76e9325f755c5e9c98022e46f2b72ef2917cac27cb340b00921be510", func := "capsule/capsulelaw20.CompletionDecodes", spec := "completionDecodes", unfollowed := true, recurses := true, apart := false }
def CompletionDecodesSaid : Prop := completionDecodesRow.holds Try.pinned (OpenSpec.ofChange completionDecodesSpec)

/-- ITS FALSE NEIGHBOUR: 'it returns false'. Refute it at one input. -/
def completionDecodesWrong : ChangeSpec := { name := "completionDecodes", fn := fun _ => fun
  | [d] => { results := [.lit (.bool false)], args := [d] }
  | _ => none }
def CompletionDecodesWrongFalsely : Prop := completionDecodesRow.holds Try.pinned (OpenSpec.ofChange completionDecodesWrong)

/-- 'capsulelaw20.CompletionBack': WHATEVER THE INPUT: true; the input reads as it did. -/
def completionBackSpec : ChangeSpec := { name := "completionBack", fn := fun _ => fun
  | [d1, d2, d3, d4] => { results := [.lit (.bool true)], args := [d1, d2, d3, d4] }
  | _ => none }
def completionBackRow : OpenClaim := { program := "ytiinjjfggmmkmaa", sum := "934c6fde76e9325f755c5e9c98022e46f2b72ef2917cac27cb340b00921be510", func := "capsule/capsulelaw20.CompletionBack", spec := "completionBack", unfollowed := true, recurses := true, apart := false }
def CompletionBackSaid : Prop := completionBackRow.holds Try.pinned (OpenSpec.ofChange completionBackSpec)

/-- ITS FALSE NEIGHBOUR: 'it returns false'. Refute it at one input. -/
def completionBackWrong : ChangeSpec := { name := "completionBack", fn := fun _ => fun
  | [d1, d2, d3, d4] => { results := [.lit (.bool false)], args := [d1, d2, d3, d4] }
  | _ => none }
def CompletionBackWrongFalsely : Prop := completionBackRow.holds Try.pinned (OpenSpec.ofChange completionBackWrong)

/- THE SECOND FORM. 'bulk': how many values and letters a reading holds, each counted each time it is reached (what is shared counts as often as it is met; a slice's spare places count too). A statement '..UptoSaid' is the law's where the arguments, and the package variables that the reading takes, are together of bulk at most 1048576: NARROWER than '..Said'. Prove '..Said' where nothing that the law and all that it calls make is longer than what came in: it says more and counts as full. Else prove '..UptoSaid'. A law counts once. -/
mutual
def uptoBulk {H : Type} : DataW H → Nat
  | .lit (.string bytes) => bytes.length + 1
  | .lit _ => 1
  | .nil => 1
  | .ptr d => uptoBulk d + 1
  | .slice elems spare => uptoBulkAll elems + uptoBulkAll spare + 1
  | .agg parts => uptoBulkAll parts + 1
  | .iface _ d => uptoBulk d + 1
  | .map entries => uptoBulkEntries entries + 1
  | .held _ => 1
def uptoBulkAll {H : Type} : List (DataW H) → Nat
  | [] => 0
  | d :: r => uptoBulk d + uptoBulkAll r
def uptoBulkEntries {H : Type} : List (Lit × DataW H) → Nat
  | [] => 0
  | x :: r => uptoBulkEntry x + uptoBulkEntries r
def uptoBulkEntry {H : Type} : Lit × DataW H → Nat
  | (.string bytes, d) => bytes.length + uptoBulk d + 1
  | (_, d) => uptoBulk d + 1
 end
def uptoSmall : (H : Type) → List (DataW H) → Bool := fun _ ds => decide (uptoBulkAll ds ≤ 1048576)
def OpenSpec.upto (s : _root_.Go.ChangeSpec) : _root_.Go.OpenSpec := { _root_.Go.OpenSpec.ofChange s with cond := some uptoSmall }

/-- 'capsulelaw20.CompletionMakes', WHERE WHAT IT READS IS OF BULK AT MOST 1048576: true; the input reads as it did. -/
def completionMakesUptoRow : OpenClaim := { program := "ytiinjjfggmmkmaa", sum := "934c6fde76e9325f755c5e9c98022e46f2b72ef2917cac27cb340b00921be510", func := "capsule/capsulelaw20.CompletionMakes", spec := "completionMakes", unfollowed := true, recurses := true, apart := false, narrowed := true }
def CompletionMakesUptoSaid : Prop := completionMakesUptoRow.holds Try.pinned (OpenSpec.upto completionMakesSpec)

/-- 'capsulelaw20.CompletionCodes', WHERE WHAT IT READS IS OF BULK AT MOST 1048576: true; the input reads as it did. -/
def completionCodesUptoRow : OpenClaim := { program := "ytiinjjfggmmkmaa", sum := "934c6fde76e9325f755c5e9c98022e46f2b72ef2917cac27cb340b00921be510", func := "capsule/capsulelaw20.CompletionCodes", spec := "completionCodes", unfollowed := true, recurses := true, apart := false, narrowed := true }
def CompletionCodesUptoSaid : Prop := completionCodesUptoRow.holds Try.pinned (OpenSpec.upto completionCodesSpec)

/-- 'capsulelaw20.CompletionEncodes', WHERE WHAT IT READS IS OF BULK AT MOST 1048576: true; the input reads as it did. -/
def completionEncodesUptoRow : OpenClaim := { program := "ytiinjjfggmmkmaa", sum := "934c6fde76e9325f755c5e9c98022e46f2b72ef2917cac27cb340b00921be510", func := "capsule/capsulelaw20.CompletionEncodes", spec := "completionEncodes", unfollowed := true, recurses := true, apart := false, narrowed := true }
def CompletionEncodesUptoSaid : Prop := completionEncodesUptoRow.holds Try.pinned (OpenSpec.upto completionEncodesSpec)

/-- 'capsulelaw20.CompletionNames', WHERE WHAT IT READS IS OF BULK AT MOST 1048576: true; the input reads as it did. -/
def completionNamesUptoRow : OpenClaim := { program := "ytiinjjfggmmkmaa", sum := "934c6fde76e9325f755c5e9c98022e46f2b72ef2917cac27cb340b00921be510", func := "capsule/capsulelaw20.CompletionNames", spec := "completionNames", unfollowed := true, recurses := true, apart := false, narrowed := true }
def CompletionNamesUptoSaid : Prop := completionNamesUptoRow.holds Try.pinned (OpenSpec.upto completionNamesSpec)

/-- 'capsulelaw20.CompletionClasses', WHERE WHAT IT READS IS OF BULK AT MOST 1048576: true; the input reads as it did. -/
def completionClassesUptoRow : OpenClaim := { program := "ytiinjjfggmmkmaa", sum := "934c6fde76e9325f755c5e9c98022e46f2b72ef2917cac27cb340b00921be510", func := "capsule/capsulelaw20.CompletionClasses", spec := "completionClasses", unfollowed := true, recurses := true, apart := false, narrowed := true }
def CompletionClassesUptoSaid : Prop := completionClassesUptoRow.holds Try.pinned (OpenSpec.upto completionClassesSpec)

/-- 'capsulelaw20.CompletionDecodes', WHERE WHAT IT READS IS OF BULK AT MOST 1048576: true; the input reads as it did. -/
def completionDecodesUptoRow : OpenClaim := { program := "ytiinjjfggmmkmaa", sum := "934c6fde76e9325f755c5e9c98022e46f2b72ef2917cac27cb340b00921be510", func := "capsule/capsulelaw20.CompletionDecodes", spec := "completionDecodes", unfollowed := true, recurses := true, apart := false, narrowed := true }
def CompletionDecodesUptoSaid : Prop := completionDecodesUptoRow.holds Try.pinned (OpenSpec.upto completionDecodesSpec)

/-- 'capsulelaw20.CompletionBack', WHERE WHAT IT READS IS OF BULK AT MOST 1048576: true; the input reads as it did. -/
def completionBackUptoRow : OpenClaim := { program := "ytiinjjfggmmkmaa", sum := "934c6fde76e9325f755c5e9c98022e46f2b72ef2917cac27cb340b00921be510", func := "capsule/capsulelaw20.CompletionBack", spec := "completionBack", unfollowed := true, recurses := true, apart := false, narrowed := true }
def CompletionBackUptoSaid : Prop := completionBackUptoRow.holds Try.pinned (OpenSpec.upto completionBackSpec)

end Rows
end Go.Proofs.Ytiinjjfggmmkmaa
