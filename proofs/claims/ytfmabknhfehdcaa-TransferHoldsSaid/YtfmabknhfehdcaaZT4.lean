/- memory: the specification's Write. -/
import Derived.Test.YtfmabknhfehdcaaZT3
import Derived.Laws.CopyOwn
import Derived.Test.YtfmabknhfehdcaaZT2
namespace Go.Proofs.Ytfmabknhfehdcaa
set_option linter.unusedVariables false
set_option linter.unusedSimpArgs false
open Go.RowKit

end Go.Proofs.Ytfmabknhfehdcaa

namespace Go.Proofs.Ytfmabknhfehdcaa
open Go.RowKit

/-- The bytes, the log behind a write of the span. -/
def wf' (size : Nat) (f : Nat → Int) (addr k : Int) (s : Nat → Int) : Nat → Int := if chk size addr k = 0 then upd f addr.toNat k.toNat s else f
def wl' (size : Nat) (L : List (Nat × Nat)) (addr k : Int) : List (Nat × Nat) := if chk size addr k = 0 then logged L addr.toNat k.toNat else L

/-- What the specification's Write leaves. -/
def RW (S : Nat → Prop) (n : Nat) (f : Nat → Int) (L : List (Nat × Nat)) (addr k : Int) (s : Nat → Int) (w : World) (e : Ending) (w' : World) : Prop :=
  ∃ v', e = .returned (.tuple #[v', .int .i64 (chk n addr k)]) ∧ RefAt S w' v' n (wf' n f addr k s) (wl' n L addr k) ∧ Below w.heap.size w w'

end Go.Proofs.Ytfmabknhfehdcaa
