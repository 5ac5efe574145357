/- memory: logs, where the log is as wanted. -/
import Derived.Test.YtcljbmkdflkeeaaMK
import Derived.Test.YtcljbmkdflkeeaaR2
namespace Go.Proofs.Ytcljbmkdflkeeaa
open Go.RowKit

/-- The slice at ao holds the spans S. -/
def SpanSrc (w : World) (ao : Option Addr) (S : List (Nat × Nat)) : Prop :=
  0 < S.length → ∃ g o, ao = some ⟨g, o, none⟩ ∧ ∀ i (h : i < S.length), w.cell? ⟨g, o + i * 3, none⟩ = some (.int .u64 (S[i]'h).1) ∧
    w.cell? ⟨g, o + i * 3 + 1, none⟩ = some (.int .i64 (S[i]'h).2) ∧ w.cell? ⟨g, o + i * 3 + 2, none⟩ = some (.bool false)

theorem SpanSrc.of {w w' : World} {ao : Option Addr} {S : List (Nat × Nat)} (h : SpanSrc w ao S) (hc : ∀ p v, w.cell? p = some v → w'.cell? p = some v) : SpanSrc w' ao S := fun h0 => by
  obtain ⟨g, o, e, hx⟩ := h h0
  exact ⟨g, o, e, fun i hi => ⟨hc _ _ (hx i hi).1, hc _ _ (hx i hi).2.1, hc _ _ (hx i hi).2.2⟩⟩

@[go_sem] theorem eqnil_seq (w : World) (k : Nat) (x y : Array Value) : (binOp .eql 71 (.func (.func k) x y) .nilFunc).run Try.prog w = .ok (.bool false) w := by kernel_rfl

theorem sizeSpan : (Try.prog.info? 62).map (·.size) = some 3 := by kernel_rfl

end Go.Proofs.Ytcljbmkdflkeeaa
