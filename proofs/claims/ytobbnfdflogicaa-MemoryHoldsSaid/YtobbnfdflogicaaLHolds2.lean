/- memory: the law MemoryHolds, the short ways too. -/
import Derived.Test.YtobbnfdflogicaaLHolds
namespace Go.Proofs.Ytobbnfdflogicaa
open Go.RowKit

set_option maxRecDepth 100000 in
set_option maxHeartbeats 1000000 in
theorem holds_short (a0 : Option Addr) (len0 cap0 : Nat) (a1 : Option Addr) (len1 cap1 : Nat) (one : Int) (w : World) (hl : 30 < len1 ∨ len0 < len1) :
    Calls Try.prog 5 #[.slice a0 len0 cap0, .slice a1 len1 cap1, .int .u16 one] w fun e w' => e = .returned (.bool true) ∧ Below w.heap.size w w' := by
  refine calls_marks Try.func5 rfl ?_
  simp only [Try.ntmps5, List.size_toArray, List.length_cons, List.length_nil, Nat.reduceAdd, Nat.reduceSub, Array.replicate_succ, Array.replicate_zero, List.push_toArray, List.append_toArray, List.nil_append, List.cons_append]
  by_cases h30 : 30 < len1
  · have d1 : decide ((30 : Int) < (len1 : Int)) = true := by simp; omega
    clear hl h30
    go_wp2_with fail
    refine (works_any _).mono ?_
    rintro e w2 ⟨rfl, hb2⟩
    go_wp2_with fail
    refine ⟨.bool true, ?_, rfl, hb2⟩
    simp [results, Try.f5, go_sem]
  · have d1 : decide ((30 : Int) < (len1 : Int)) = false := by simp; omega
    have d2 : decide (len0 < len1) = true := by simp; omega
    clear hl h30
    go_wp2_with fail
    refine (works_any _).mono ?_
    rintro e w2 ⟨rfl, hb2⟩
    go_wp2_with fail
    refine ⟨.bool true, ?_, rfl, hb2⟩
    simp [results, Try.f5, go_sem]

theorem holds_law (a0 : Option Addr) (len0 cap0 : Nat) (z0 : List Int) (a1 : Option Addr) (len1 cap1 : Nat) (A : Nat → Option Addr) (Ln Cp : Nat → Nat) (Z : Nat → List Int) (one : Int) (w : World) (w0 : IsRow .u16 w a0 len0 cap0 z0) (w1 : RowsAt w a1 len1 A Ln Cp Z) (w2 : (Lit.int .u16 one).wf = true) :
    Calls Try.prog 5 #[.slice a0 len0 cap0, .slice a1 len1 cap1, .int .u16 one] w fun e w' => e = .returned (.bool true) ∧ Below w.heap.size w w' := by
  by_cases hl : 30 < len1 ∨ len0 < len1
  · exact holds_short a0 len0 cap0 a1 len1 cap1 one w hl
  refine holds_walk a0 len0 cap0 (fun i => z0.getD i 0) a1 len1 cap1 A Ln Cp (fun i j => (Z i).getD j 0) one w (by omega) (by omega) (wf_u16 w2).1 (wf_u16 w2).2 ?_ ?_
  · intro i hi
    rcases w0 with ⟨rfl, rfl, rfl, rfl⟩ | ⟨x, rfl, h1, h2, h3, h4, h5⟩
    · omega
    · have hm : z0.getD i 0 ∈ z0 := by
        have : i < z0.length := by omega
        simp [this]
      have := wf_u16 (h5 _ hm)
      exact ⟨x, rfl, h4 i (by omega), this⟩
  · intro i hi
    obtain ⟨x, e, hc, hr⟩ := w1 i hi
    refine ⟨x, e, hc, ?_⟩
    rcases hr with ⟨e1, e2, e3, e4⟩ | ⟨y, e1, h1, h2, h3, h4, h5⟩
    · rw [e2]; exact ⟨by omega, fun j hj => by omega⟩
    · refine ⟨?_, fun j hj => ?_⟩
      · unfold maxLen at h2; omega
      · have hm : (Z i).getD j 0 ∈ Z i := by
          have : j < (Z i).length := by omega
          simp [this]
        have := wf_u8 (h5 _ hm)
        exact ⟨this.1, this.2, y, e1, h4 j (by omega)⟩
end Go.Proofs.Ytobbnfdflogicaa
