/-
  No cell of these rows narrows 'for every input' (looked for: loops, veiled, ifaces, maps, wideKeys, modest, calm, conditions, laid).
  DERIVED. THE GIVEN ROWS OF THIS SEAT. 8 by the template 'for every input the law returns true; each argument reads behind the call as it read before'; 0 by the template 'total and deterministic' (their statements: YtpoeepdpoblfcaaTotals.lean).
  GIVEN WITH THE SEED: the statements are not yours to turn. If you find one false, say at which input.
  Laid BY PROGRAM, IN A SANDBOX (cutbox-rows.mjs): the forced cells as the released guide's own fill.sh prints them over the translation a6be2195b274bf1b… (all of the seat's roots in one cut). By AI agents, Wed Nov 11 2026. No macro, syntax, notation, axiom, sorry.
-/
import Derived.Test.YtpoeepdpoblfcaaChecked
import GoSem.Claim
import GoSem.ClaimJoined
import GoSem.ClaimMapViews
import Derived.JoinedTies
import Derived.KernelRfl
namespace Go.Proofs.Ytpoeepdpoblfcaa
/- THE CELL 'sum', in the pinned program and in every row, IS THE sha256 OF THE DUMP (.gsa) THAT YtpoeepdpoblfcaaProg.lean LOADS. Nothing in Lean hashes anything: it is a label: what it is worth is what the hold of that sum in a sandbox is worth. -/
noncomputable def Try.pinned : Pinned := { name := "ytpoeepdpoblfcaa", sum := "a6be2195b274bf1bc4b187d5e3f3a813959f6781f471482881605f54d8a584e0", checked := Try.checked }
namespace Rows
def none {H : Type} : Left H := { results := [], args := [] }

/-- 'capsulelaw21.QueueFetches': WHATEVER THE INPUT: true; the input reads as it did. -/
def queueFetchesSpec : ChangeSpec := { name := "queueFetches", fn := fun _ => fun
  | [d1, d2] => { results := [.lit (.bool true)], args := [d1, d2] }
  | _ => none }
def queueFetchesRow : OpenClaim := { program := "ytpoeepdpoblfcaa", sum := "a6be2195b274bf1bc4b187d5e3f3a813959f6781f471482881605f54d8a584e0", func := "capsule/capsulelaw21.QueueFetches", spec := "queueFetches", unfollowed := true, recurses := true, apart := false }
def QueueFetchesSaid : Prop := queueFetchesRow.holds Try.pinned (OpenSpec.ofChange queueFetchesSpec)

/-- ITS FALSE NEIGHBOUR: 'it returns false'. Refute it at one input. -/
def queueFetchesWrong : ChangeSpec := { name := "queueFetches", fn := fun _ => fun
  | [d1, d2] => { results := [.lit (.bool false)], args := [d1, d2] }
  | _ => none }
def QueueFetchesWrongFalsely : Prop := queueFetchesRow.holds Try.pinned (OpenSpec.ofChange queueFetchesWrong)

/-- 'capsulelaw21.QueuePolls': WHATEVER THE INPUT: true; the input reads as it did. -/
def queuePollsSpec : ChangeSpec := { name := "queuePolls", fn := fun _ => fun
  | [d1, d2] => { results := [.lit (.bool true)], args := [d1, d2] }
  | _ => none }
def queuePollsRow : OpenClaim := { program := "ytpoeepdpoblfcaa", sum := "a6be2195b274bf1bc4b187d5e3f3a813959f6781f471482881605f54d8a584e0", func := "capsule/capsulelaw21.QueuePolls", spec := "queuePolls", unfollowed := true, recurses := true, apart := false }
def QueuePollsSaid : Prop := queuePollsRow.holds Try.pinned (OpenSpec.ofChange queuePollsSpec)

/-- ITS FALSE NEIGHBOUR: 'it returns false'. Refute it at one input. -/
def queuePollsWrong : ChangeSpec := { name := "queuePolls", fn := fun _ => fun
  | [d1, d2] => { results := [.lit (.bool false)], args := [d1, d2] }
  | _ => none }
def QueuePollsWrongFalsely : Prop := queuePollsRow.holds Try.pinned (OpenSpec.ofChange queuePollsWrong)

/-- 'capsulelaw21.QueueCommands': WHATEVER THE INPUT: true; the input reads as it did. -/
def queueCommandsSpec : ChangeSpec := { name := "queueCommands", fn := fun _ => fun
  | [d1, d2] => { results := [.lit (.bool true)], args := [d1, d2] }
  | _ => none }
def queueCommandsRow : OpenClaim := { program := "ytpoeepdpoblfcaa", sum := "a6be2195b274bf1bc4b187d5e3f3a813959f6781f471482881605f54d8a584e0", func := "capsule/capsulelaw21.QueueCommands", spec := "queueCommands", unfollowed := true, recurses := true, apart := false }
def QueueCommandsSaid : Prop := queueCommandsRow.holds Try.pinned (OpenSpec.ofChange queueCommandsSpec)

/-- ITS FALSE NEIGHBOUR: 'it returns false'. Refute it at one input. -/
def queueCommandsWrong : ChangeSpec := { name := "queueCommands", fn := fun _ => fun
  | [d1, d2] => { results := [.lit (.bool false)], args := [d1, d2] }
  | _ => none }
def QueueCommandsWrongFalsely : Prop := queueCommandsRow.holds Try.pinned (OpenSpec.ofChange queueCommandsWrong)

/-- 'capsulelaw21.QueueSends': WHATEVER THE INPUT: true; the input reads as it did. -/
def queueSendsSpec : ChangeSpec := { name := "queueSends", fn := fun _ => fun
  | [d1, d2] => { results := [.lit (.bool true)], args := [d1, d2] }
  | _ => none }
def queueSendsRow : OpenClaim := { program := "ytpoeepdpoblfcaa", sum := "a6be2195b274bf1bc4b187d5e3f3a813959f6781f471482881605f54d8a584e0", func := "capsule/capsulelaw21.QueueSends", spec := "queueSends", unfollowed := true, recurses := true, apart := false }
def QueueSendsSaid : Prop := queueSendsRow.holds Try.pinned (OpenSpec.ofChange queueSendsSpec)

/-- ITS FALSE NEIGHBOUR: 'it returns false'. Refute it at one input. -/
def queueSendsWrong : ChangeSpec := { name := "queueSends", fn := fun _ => fun
  | [d1, d2] => { results := [.lit (.bool false)], args := [d1, d2] }
  | _ => none }
def QueueSendsWrongFalsely : Prop := queueSendsRow.holds Try.pinned (OpenSpec.ofChange queueSendsWrong)

/-- 'capsulelaw21.QueuePosts': WHATEVER THE INPUT: true; the input reads as it did. -/
def queuePostsSpec : ChangeSpec := { name := "queuePosts", fn := fun _ => fun
  | [d1, d2] => { results := [.lit (.bool true)], args := [d1, d2] }
  | _ => none }
def queuePostsRow : OpenClaim := { program := "ytpoeepdpoblfcaa", sum := "a6be2195b274bf1bc4b187d5e3f3a813959f6781f471482881605f54d8a584e0", func := "capsule/capsulelaw21.QueuePosts", spec := "queuePosts", unfollowed := true, recurses := true, apart := false }
def QueuePostsSaid : Prop := queuePostsRow.holds Try.pinned (OpenSpec.ofChange queuePostsSpec)

/-- ITS FALSE NEIGHBOUR: 'it returns false'. Refute it at one input. -/
def queuePostsWrong : ChangeSpec := { name := "queuePosts", fn := fun _ => fun
  | [d1, d2] => { results := [.lit (.bool false)], args := [d1, d2] }
  | _ => none }
def QueuePostsWrongFalsely : Prop := queuePostsRow.holds Try.pinned (OpenSpec.ofChange queuePostsWrong)

/-- 'capsulelaw21.QueueCompletions': WHATEVER THE INPUT: true; the input reads as it did. -/
def queueCompletionsSpec : ChangeSpec := { name := "queueCompletions", fn := fun _ => fun
  | [d1, d2] => { results := [.lit (.bool true)], args := [d1, d2] }
  | _ => none }
def queueCompletionsRow : OpenClaim := { program := "ytpoeepdpoblfcaa", sum := "a6be2195b274bf1bc4b187d5e3f3a813959f6781f471482881605f54d8a584e0", func := "capsule/capsulelaw21.QueueCompletions", spec := "queueCompletions", unfollowed := true, recurses := true, apart := false }
def QueueCompletionsSaid : Prop := queueCompletionsRow.holds Try.pinned (OpenSpec.ofChange queueCompletionsSpec)

/-- ITS FALSE NEIGHBOUR: 'it returns false'. Refute it at one input. -/
def queueCompletionsWrong : ChangeSpec := { name := "queueCompletions", fn := fun _ => fun
  | [d1, d2] => { results := [.lit (.bool false)], args := [d1, d2] }
  | _ => none }
def QueueCompletionsWrongFalsely : Prop := queueCompletionsRow.holds Try.pinned (OpenSpec.ofChange queueCompletionsWrong)

/-- 'capsulelaw21.QueueCopies': WHATEVER THE INPUT: true; the input reads as it did. -/
def queueCopiesSpec : ChangeSpec := { name := "queueCopies", fn := fun _ => fun
  | [d1, d2, d3, d4] => { results := [.lit (.bool true)], args := [d1, d2, d3, d4] }
  | _ => none }
def queueCopiesRow : OpenClaim := { program := "ytpoeepdpoblfcaa", sum := "a6be2195b274bf1bc4b187d5e3f3a813959f6781f471482881605f54d8a584e0", func := "capsule/capsulelaw21.QueueCopies", spec := "queueCopies", unfollowed := true, recurses := true, apart := false }
def QueueCopiesSaid : Prop := queueCopiesRow.holds Try.pinned (OpenSpec.ofChange queueCopiesSpec)

/-- ITS FALSE NEIGHBOUR: 'it returns false'. Refute it at one input. -/
def queueCopiesWrong : ChangeSpec := { name := "queueCopies", fn := fun _ => fun
  | [d1, d2, d3, d4] => { results := [.lit (.bool false)], args := [d1, d2, d3, d4] }
  | _ => none }
def QueueCopiesWrongFalsely : Prop := queueCopiesRow.holds Try.pinned (OpenSpec.ofChange queueCopiesWrong)

/-- 'capsulelaw21.QueueNil': WHATEVER THE INPUT: true; the input reads as it did. -/
def queueNilSpec : ChangeSpec := { name := "queueNil", fn := fun _ => fun
  | [d] => { results := [.lit (.bool true)], args := [d] }
  | _ => none }
def queueNilRow : OpenClaim := { program := "ytpoeepdpoblfcaa", sum := "a6be2195b274bf1bc4b187d5e3f3a813959f6781f471482881605f54d8a584e0", func := "capsule/capsulelaw21.QueueNil", spec := "queueNil", unfollowed := true, recurses := true, apart := false }
def QueueNilSaid : Prop := queueNilRow.holds Try.pinned (OpenSpec.ofChange queueNilSpec)

/-- ITS FALSE NEIGHBOUR: 'it returns false'. Refute it at one input. -/
def queueNilWrong : ChangeSpec := { name := "queueNil", fn := fun _ => fun
  | [d] => { results := [.lit (.bool false)], args := [d] }
  | _ => none }
def QueueNilWrongFalsely : Prop := queueNilRow.holds Try.pinned (OpenSpec.ofChange queueNilWrong)

/- THE SECOND FORM. 'bulk': how many values and letters a reading holds, each counted each time it is reached (what is shared counts as often as it is met; a slice's spare places count too). A statement '..UptoSaid' is the law's where the arguments, and the package variables that the reading takes, are together of bulk at most 1048576: NARROWER than '..Said'. Prove '..Said' where nothing that the law and all that it calls make is longer than what came in: it says more and counts as full. Else prove '..UptoSaid'. A law counts once. -/
mutual
def uptoBulk {H : Type} : DataW H → Nat
  | .lit (.string bytes) => bytes.length + 1
  | .lit _ => 1
  | .nil => 1
  | .ptr d => uptoBulk d + 1
  | .slice elems spare => uptoBulkAll elems + uptoBulkAll spare + 1
  | .agg parts => uptoBulkAll parts + 1
  | .iface _ d => uptoBulk d + 1
  | .map entries => uptoBulkEntries entries + 1
  | .held _ => 1
def uptoBulkAll {H : Type} : List (DataW H) → Nat
  | [] => 0
  | d :: r => uptoBulk d + uptoBulkAll r
def uptoBulkEntries {H : Type} : List (Lit × DataW H) → Nat
  | [] => 0
  | x :: r => uptoBulkEntry x + uptoBulkEntries r
def uptoBulkEntry {H : Type} : Lit × DataW H → Nat
  | (.string bytes, d) => bytes.length + uptoBulk d + 1
  | (_, d) => uptoBulk d + 1
 end
def uptoSmall : (H : Type) → List (DataW H) → Bool := fun _ ds => decide (uptoBulkAll ds ≤ 1048576)
def OpenSpec.upto (s : _root_.Go.ChangeSpec) : _root_.Go.OpenSpec := { _root_.Go.OpenSpec.ofChange s with cond := some uptoSmall }

/-- 'capsulelaw21.QueueFetches', WHERE WHAT IT READS IS OF BULK AT MOST 1048576: true; the input reads as it did. -/
def queueFetchesUptoRow : OpenClaim := { program := "ytpoeepdpoblfcaa", sum := "a6be2195b274bf1bc4b187d5e3f3a813959f6781f471482881605f54d8a584e0", func := "capsule/capsulelaw21.QueueFetches", spec := "queueFetches", unfollowed := true, recurses := true, apart := false, narrowed := true }
def QueueFetchesUptoSaid : Prop := queueFetchesUptoRow.holds Try.pinned (OpenSpec.upto queueFetchesSpec)

/-- 'capsulelaw21.QueuePolls', WHERE WHAT IT READS IS OF BULK AT MOST 1048576: true; the input reads as it did. -/
def queuePollsUptoRow : OpenClaim := { program := "ytpoeepdpoblfcaa", sum := "a6be2195b274bf1bc4b187d5e3f3a813959f6781f471482881605f54d8a584e0", func := "capsule/capsulelaw21.QueuePolls", spec := "queuePolls", unfollowed := true, recurses := true, apart := false, narrowed := true }
def QueuePollsUptoSaid : Prop := queuePollsUptoRow.holds Try.pinned (OpenSpec.upto queuePollsSpec)

/-- 'capsulelaw21.QueueCommands', WHERE WHAT IT READS IS OF BULK AT MOST 1048576: true; the input reads as it did. -/
def queueCommandsUptoRow : OpenClaim := { program := "ytpoeepdpoblfcaa", sum := "a6be2195b274bf1bc4b187d5e3f3a813959f6781f471482881605f54d8a584e0", func := "capsule/capsulelaw21.QueueCommands", spec := "queueCommands", unfollowed := true, recurses := true, apart := false, narrowed := true }
def QueueCommandsUptoSaid : Prop := queueCommandsUptoRow.holds Try.pinned (OpenSpec.upto queueCommandsSpec)

/-- 'capsulelaw21.QueueSends', WHERE WHAT IT READS IS OF BULK AT MOST 1048576: true; the input reads as it did. -/
def queueSendsUptoRow : OpenClaim := { program := "ytpoeepdpoblfcaa", sum := "a6be2195b274bf1bc4b187d5e3f3a813959f6781f471482881605f54d8a584e0", func := "capsule/capsulelaw21.QueueSends", spec := "queueSends", unfollowed := true, recurses := true, apart := false, narrowed := true }
def QueueSendsUptoSaid : Prop := queueSendsUptoRow.holds Try.pinned (OpenSpec.upto queueSendsSpec)

/-- 'capsulelaw21.QueuePosts', WHERE WHAT IT READS IS OF BULK AT MOST 1048576: true; the input reads as it did. -/
def queuePostsUptoRow : OpenClaim := { program := "ytpoeepdpoblfcaa", sum := "a6be2195b274bf1bc4b187d5e3f3a813959f6781f471482881605f54d8a584e0", func := "capsule/capsulelaw21.QueuePosts", spec := "queuePosts", unfollowed := true, recurses := true, apart := false, narrowed := true }
def QueuePostsUptoSaid : Prop := queuePostsUptoRow.holds Try.pinned (OpenSpec.upto queuePostsSpec)

/-- 'capsulelaw21.QueueCompletions', WHERE WHAT IT READS IS OF BULK AT MOST 1048576: true; the input reads as it did. -/
def queueCompletionsUptoRow : OpenClaim := { program := "ytpoeepdpoblfcaa", sum := "a6be2195b274bf1bc4b187d5e3f3a813959f6781f471482881605f54d8a584e0", func := "capsule/capsulelaw21.QueueCompletions", spec := "queueCompletions", unfollowed := true, recurses := true, apart := false, narrowed := true }
def QueueCompletionsUptoSaid : Prop := queueCompletionsUptoRow.holds Try.pinned (OpenSpec.upto queueCompletionsSpec)

/-- 'capsulelaw21.QueueCopies', WHERE WHAT IT READS IS OF BULK AT MOST 1048576: true; the input reads as it did. -/
def queueCopiesUptoRow : OpenClaim := { program := "ytpoeepdpoblfcaa", sum := "a6be2195b274bf1bc4b187d5e3f3a813959f6781f471482881605f54d8a584e0", func := "capsule/capsulelaw21.QueueCopies", spec := "queueCopies", unfollowed := true, recurses := true, apart := false, narrowed := true }
def QueueCopiesUptoSaid : Prop := queueCopiesUptoRow.holds Try.pinned (OpenSpec.upto queueCopiesSpec)

/-- 'capsulelaw21.QueueNil', WHERE WHAT IT READS IS OF BULK AT MOST 1048576: true; the input reads as it did. -/
def queueNilUptoRow : OpenClaim := { program := "ytpoeepdpoblfcaa", sum := "a6be2195b274bf1bc4b187d5e3f3a813959f6781f471482881605f54d8a584e0", func := "capsule/capsulelaw21.QueueNil", spec := "queueNil", unfollowed := true, recurses := true, apart := false, narrowed := true }
def QueueNilUptoSaid : Prop := queueNilUptoRow.holds Try.pinned (OpenSpec.upto queueNilSpec)

end Rows
end Go.Proofs.Ytpoeepdpoblfcaa
