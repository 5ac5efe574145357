/- memory: the law MemoryNone, over an act that came in. -/
import Derived.Test.YtobbnfdflogicaaLNone
import Derived.Test.YtobbnfdflogicaaAct
namespace Go.Proofs.Ytobbnfdflogicaa
open Go.RowKit

theorem none_law (what n addr : Int) (ao : Option Addr) (len cap : Nat) (v : Int) (zs : List Int) (zero : Bool) (w : World)
    (h : (Lit.int .i64 what).wf = true ∧ (Lit.int .i64 n).wf = true ∧ (Lit.int .u64 addr).wf = true ∧ IsRow .u8 w ao len cap zs ∧ (Lit.int .u8 v).wf = true) :
    Calls Try.prog 8 #[.agg (actCells what n addr ao len cap v).toArray, .bool zero] w fun e w' => e = .returned (.bool true) ∧ Below w.heap.size w w' :=
  none_walk what n addr v ao len cap zero w (wf_u64 h.2.2.1).1 (wf_u64 h.2.2.1).2 (wf_i64 h.2.1).1 (wf_i64 h.2.1).2
end Go.Proofs.Ytobbnfdflogicaa
