/- memory: the law MemoryLogs, the short way too. -/
import Derived.Test.YtobbnfdflogicaaLLogs
namespace Go.Proofs.Ytobbnfdflogicaa
open Go.RowKit

set_option maxRecDepth 100000 in
set_option maxHeartbeats 1000000 in
theorem logsLaw_long (a0 : Option Addr) (len0 cap0 : Nat) (stop : Int) (w : World) (hl : 600 < len0) :
    Calls Try.prog 3 #[.slice a0 len0 cap0, .int .i64 stop] w fun e w' => e = .returned (.bool true) ∧ Below w.heap.size w w' := by
  refine calls_marks Try.func3 rfl ?_
  simp only [Try.ntmps3, List.size_toArray, List.length_cons, List.length_nil, Nat.reduceAdd, Nat.reduceSub, Array.replicate_succ, Array.replicate_zero, List.push_toArray, List.append_toArray, List.nil_append, List.cons_append]
  have d1 : decide ((600 : Int) < (len0 : Int)) = true := by simp; omega
  go_wp2_with fail
  obtain ⟨w1, hw1⟩ : ∃ w1, w1 = w.alloc (.cells #[.bool false] 4) := ⟨_, rfl⟩
  rw [← hw1]
  have hb1 : Below w.heap.size w w1 := by rw [hw1]; exact (Below.refl _ w).alloc (Nat.le_refl _) _
  have hr1 : w1.rowIs w.heap.size 4 1 (fun _ => .bool false) := by rw [hw1]; exact World.rowIs_alloc w #[.bool false] 4 (fun _ => .bool false) (fun i hi => by simp at hi; subst hi; rfl)
  clear hw1
  refine (works_any _).mono ?_
  rintro e w2 ⟨rfl, hb2⟩
  have hr2 := hr1.of_block (hb2.block _ hr1.lt)
  have e3 := hr2.cell (i := 0) (by omega)
  have e3f := hr2.frozen 0
  have hb3 := Lib.hid ((hb1.trans (hb2.mono hb1.size)).setCell (p := ⟨w.heap.size, 0, none⟩) (Nat.le_refl _) (.bool true))
  have hc3 := Lib.hid (World.cell?_setCell_same' w2 ⟨w.heap.size, 0, none⟩ (.bool true) (by rw [e3]; rfl))
  clear hr1 hr2 hb1 hb2
  go_wp2_with fail
  refine ⟨_, ?_, rfl, hb3.out⟩
  simp [results, Try.f3, go_sem, hc3.out]

theorem logs_law (a0 : Option Addr) (len0 cap0 : Nat) (z0 : List Int) (a1 : Int) (w : World) (w0 : IsRow .u16 w a0 len0 cap0 z0) (w1 : (Lit.int .i64 a1).wf = true) :
    Calls Try.prog 3 #[.slice a0 len0 cap0, .int .i64 a1] w fun e w' => e = .returned (.bool true) ∧ Below w.heap.size w w' := by
  by_cases hl : 600 < len0
  · exact logsLaw_long a0 len0 cap0 a1 w hl
  refine logsLaw_walk a0 len0 cap0 (fun i => z0.getD i 0) a1 w (by omega) (wf_i64 w1).1 (wf_i64 w1).2 ?_
  intro i hi
  rcases w0 with ⟨rfl, rfl, rfl, rfl⟩ | ⟨x, rfl, h1, h2, h3, h4, h5⟩
  · omega
  · have hm : z0.getD i 0 ∈ z0 := by
      have : i < z0.length := by omega
      simp [this]
    have := wf_u16 (h5 _ hm)
    exact ⟨x, rfl, h4 i (by omega), this⟩
end Go.Proofs.Ytobbnfdflogicaa
