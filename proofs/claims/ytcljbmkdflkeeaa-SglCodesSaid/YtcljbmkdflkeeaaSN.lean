/- sgl: Spans of any input. -/
import Derived.Test.YtcljbmkdflkeeaaSL
namespace Go.Proofs.Ytcljbmkdflkeeaa
open Go.RowKit

theorem spans_any (d : Dsc) (n : Int) (th : Bool) (b B size : Nat) (f : Nat → Int) (L : List (Nat × Nat)) (w : World) (hM : MemAt w b B size f L) (hs : 0 < size) (hd : d.Ok) (hby : Bytes f) :
    Calls Try.prog 32 #[.pointer (some ⟨b, 0, none⟩), .agg d.cells, .int .i64 n, .bool th] w (SpPost w (spansM f size d n th)) := by
  by_cases hv : Vld d
  · by_cases h0 : 0 ≤ n
    · by_cases h1 : n ≤ 1048576
      · exact spans_loop d n th b B size f L w hM hs hd (decide_eq_true hv) hby (decide_eq_true h0) (decide_eq_true h1) _ (spansM_nxt hv h0 h1).symm
      · have e : spansM f size d n th = .error 2 := by unfold spansM; rw [if_pos (fun c => h1 c.2.2)]
        rw [e]
        exact spans_big d n th b B size f L w hM hs hd (decide_eq_true hv) (decide_eq_true h0) (decide_eq_false h1)
    · have e : spansM f size d n th = .error 2 := by unfold spansM; rw [if_pos (fun c => h0 c.2.1)]
      rw [e]
      exact spans_neg d n th b B size f L w hM hs hd (decide_eq_true hv) (decide_eq_false h0)
  · have e : spansM f size d n th = .error 2 := by unfold spansM; rw [if_pos (fun c => hv c.1)]
    rw [e]
    exact spans_inv d n th b B size f L w hM hs hd (decide_eq_false hv)
end Go.Proofs.Ytcljbmkdflkeeaa
