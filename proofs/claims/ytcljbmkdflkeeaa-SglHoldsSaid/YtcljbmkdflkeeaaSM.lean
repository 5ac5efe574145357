/- sgl: must, got: a value, or a panic with an error. -/
import Derived.Test.YtcljbmkdflkeeaaSF
namespace Go.Proofs.Ytcljbmkdflkeeaa
set_option linter.unusedVariables false
set_option linter.unusedSimpArgs false
open Go.RowKit

/-- an error, as a panic -/
def pan (no : Int) : PanicEntry := { v := .iface 28 (.int .i64 no), recovered := false }

theorem must_ok (no : Int) (w : World) : Calls Try.prog 42 #[.bool true, .int .i64 no] w fun e w' => e = .returned (.tuple #[]) ∧ w = w' := by
  go_enter Try.func42, Try.ntmps42
  go_wp2
  go_end0
  exact ⟨rfl, rfl⟩
set_option maxHeartbeats 1000000 in
theorem must_bad (no : Int) (w : World) : Calls Try.prog 42 #[.bool false, .int .i64 no] w fun e w' => e = .panicked [pan no] ∧ w = w' := by
  go_enter Try.func42, Try.ntmps42
  go_wp2
  exact ⟨rfl, rfl, rfl⟩

theorem got_bytes (v : Value) (w : World) : Calls Try.prog 45 #[v, .int .i64 0] w fun e w' => e = .returned v ∧ w = w' := by
  go_enter Try.func45, Try.ntmps45
  go_wp2_with (go_at_call 42; refine (must_ok _ _).mono ?_; rintro e w' ⟨rfl, rfl⟩)
  go_ret
  exact ⟨rfl, rfl⟩
theorem got_u64 (v : Value) (w : World) : Calls Try.prog 69 #[v, .int .i64 0] w fun e w' => e = .returned v ∧ w = w' := by
  go_enter Try.func69, Try.ntmps69
  go_wp2_with (go_at_call 42; refine (must_ok _ _).mono ?_; rintro e w' ⟨rfl, rfl⟩)
  go_ret
  exact ⟨rfl, rfl⟩
set_option maxRecDepth 100000 in
set_option maxHeartbeats 1000000 in
theorem got_words (x y : Int) (w : World) : Calls Try.prog 44 #[.agg #[.int .u64 x, .int .u64 y], .int .i64 0] w fun e w' => e = .returned (.agg #[.int .u64 x, .int .u64 y]) ∧ Below w.heap.size w w' := by
  obtain ⟨A, hA⟩ : ∃ A : Array Value, A = #[.int .u64 x, .int .u64 y] := ⟨_, rfl⟩
  have HS := Lib.hid (show A.size = 2 by rw [hA]; rfl)
  have H1 := Lib.hid (show A.all (·.oneCell') = true by rw [hA]; exact u64s_one x y)
  rw [← hA]
  clear hA
  have HI := Lib.hid (show (Try.prog.info? 27).map (·.size) = some A.size by rw [HS.out]; exact size2w)
  go_enter Try.func44, Try.ntmps44
  go_upto_region 1 with ((with_reducible show wpList _ _ _ (⟨some 4, _, _, _, _, _⟩ :: _) _ _); refine wpList_alloc rfl 27 rfl zero2 ?_; rw [show (Value.agg zer2).cells = zer2 from rfl])
  obtain ⟨W, hW⟩ : ∃ W, W = (w.alloc (.cells A 27)).alloc (.cells zer2 27) := ⟨_, rfl⟩
  rw [← hW]
  have A1 := Lib.hid (show ArrAt W w.heap.size A by rw [hW]; exact (ArrAt.fresh w A _ (by rw [HS.out]; omega)).alloc _)
  have A2 := Lib.hid (show ArrAt W (w.heap.size + 1) zer2 by
    have h := ArrAt.fresh (w.alloc (.cells A 27)) zer2 27 (by decide)
    rw [show (w.alloc (.cells A 27)).heap.size = w.heap.size + 1 by simp] at h
    rw [hW]; exact h)
  have HB := Lib.hid (show Below w.heap.size w W by rw [hW]; exact ((Below.refl _ w).alloc (Nat.le_refl _) _).alloc (by simp) _)
  clear hW
  try simp only [Act.put, List.setIfInBounds_toArray, List.set_cons_succ, List.set_cons_zero]
  go_wp2_with (first
    | (go_at_call 42; refine (must_ok _ _).mono ?_; rintro e w' ⟨rfl, rfl⟩)
    | ((with_reducible show wpList _ _ _ (⟨some 9, _, _, _, _, _⟩ :: _) _ _); refine wpList_loadA rfl A1.out 27 (.tmp 2) rfl (by first | rfl | simp [Act.eval, Act.put]) Try.underlying27 rfl HI.out ?_)
    | ((with_reducible show wpList _ _ _ (⟨none, .store _ (.tmp 4) _, _, _, _, _⟩ :: _) _ _); refine wpList_storeA rfl (b := w.heap.size + 1) (A := zer2) (A' := A) A2.out 27 (.tmp 4) (.tmp 9) rfl (by simp [Act.eval, Act.put]) (by simp [Act.eval, Act.put]) size2z HS.out H1.out ?_))
  exact bodyPost_ret (results_c rfl _ _ _ (A2.out.store A HS.out) rfl Try.underlying27 rfl HI.out) rfl ⟨rfl, bstore HB.out _ (by omega) _ _⟩
/-- the descriptor boxed, and the result beside it -/
theorem gotd_start (A : Array Value) (hs : A.size = 4) (w : World) : ∃ W, W = (w.alloc (.cells A 26)).alloc (.cells zDsc.cells 26) ∧ Below w.heap.size w W ∧ ArrAt W w.heap.size A ∧ ArrAt W (w.heap.size + 1) zDsc.cells := by
  refine ⟨_, rfl, ((Below.refl _ w).alloc (Nat.le_refl _) _).alloc (by simp) _, (ArrAt.fresh w A _ (by omega)).alloc _, ?_⟩
  have h := ArrAt.fresh (w.alloc (.cells A 26)) zDsc.cells 26 (by decide)
  rw [show (w.alloc (.cells A 26)).heap.size = w.heap.size + 1 by simp] at h
  exact h
set_option maxRecDepth 100000 in
set_option maxHeartbeats 1000000 in
theorem got_dsc (d : Dsc) (w : World) : Calls Try.prog 68 #[.agg d.cells, .int .i64 0] w fun e w' => e = .returned (.agg d.cells) ∧ Below w.heap.size w w' := by
  obtain ⟨A, hA⟩ : ∃ A : Array Value, A = d.cells := ⟨_, rfl⟩
  have HS := Lib.hid (show A.size = 4 by rw [hA]; rfl)
  have H1 := Lib.hid (show A.all (·.oneCell') = true by rw [hA]; exact d.one)
  rw [← hA]
  clear hA
  have HI := Lib.hid (show (Try.prog.info? 26).map (·.size) = some A.size by rw [HS.out]; exact sizeD)
  obtain ⟨W, hW, hB, h1, h2⟩ := gotd_start A HS.out w
  have HW := Lib.hid hW
  have HB := Lib.hid hB
  have A1 := Lib.hid h1
  have A2 := Lib.hid h2
  clear hW hB h1 h2
  go_enter Try.func68, Try.ntmps68
  go_upto_region 1 with ((with_reducible show wpList _ _ _ (⟨some 4, _, _, _, _, _⟩ :: _) _ _); refine wpList_alloc rfl 26 rfl zeroD ?_; rw [show (Value.agg zDsc.cells).cells = zDsc.cells from rfl])
  rw [show (w.alloc (.cells A 26)).alloc (.cells zDsc.cells 26) = W from HW.out.symm]
  try simp only [Act.put, List.setIfInBounds_toArray, List.set_cons_succ, List.set_cons_zero]
  clear HW
  go_wp2_with (first
    | (go_at_call 42; refine (must_ok _ _).mono ?_; rintro e w' ⟨rfl, rfl⟩)
    | ((with_reducible show wpList _ _ _ (⟨some 9, _, _, _, _, _⟩ :: _) _ _); refine wpList_loadA rfl A1.out 26 (.tmp 2) rfl (by first | rfl | simp [Act.eval, Act.put]) Try.underlying26 rfl HI.out ?_)
    | ((with_reducible show wpList _ _ _ (⟨none, .store _ (.tmp 4) _, _, _, _, _⟩ :: _) _ _); refine wpList_storeA rfl (b := w.heap.size + 1) (A := zDsc.cells) (A' := A) A2.out 26 (.tmp 4) (.tmp 9) rfl (by simp [Act.eval, Act.put]) (by simp [Act.eval, Act.put]) (sizeDs _) HS.out H1.out ?_))
  exact bodyPost_ret (results_c rfl _ _ _ (A2.out.store A HS.out) rfl Try.underlying26 rfl HI.out) rfl ⟨rfl, bstore HB.out _ (by omega) _ _⟩
/-- got: an error. -/
theorem got_dsc_bad (d : Dsc) (no : Int) (hn : (no == 0) = false) (w : World) : Calls Try.prog 68 #[.agg d.cells, .int .i64 no] w fun e w' => e = .panicked [pan no] ∧ Below w.heap.size w w' := by
  obtain ⟨A, hA⟩ : ∃ A : Array Value, A = d.cells := ⟨_, rfl⟩
  have HS := Lib.hid (show A.size = 4 by rw [hA]; rfl)
  rw [← hA]
  clear hA
  obtain ⟨W, hW, hB, -, -⟩ := gotd_start A HS.out w
  have HW := Lib.hid hW
  have HB := Lib.hid hB
  clear hW hB
  go_enter Try.func68, Try.ntmps68
  go_upto_region 1 with ((with_reducible show wpList _ _ _ (⟨some 4, _, _, _, _, _⟩ :: _) _ _); refine wpList_alloc rfl 26 rfl zeroD ?_; rw [show (Value.agg zDsc.cells).cells = zDsc.cells from rfl])
  rw [show (w.alloc (.cells A 26)).alloc (.cells zDsc.cells 26) = W from HW.out.symm]
  try simp only [Act.put, List.setIfInBounds_toArray, List.set_cons_succ, List.set_cons_zero]
  clear HW
  go_wp2_with (go_at_call 42; refine (must_bad _ _).mono ?_; rintro e w' ⟨rfl, rfl⟩)
  exact ⟨rfl, rfl, HB.out⟩
theorem got_words_bad (A : Array Value) (hs : A.size = 2) (no : Int) (hn : (no == 0) = false) (w : World) : Calls Try.prog 44 #[.agg A, .int .i64 no] w fun e w' => e = .panicked [pan no] ∧ Below w.heap.size w w' := by
  go_enter Try.func44, Try.ntmps44
  go_upto_region 1 with ((with_reducible show wpList _ _ _ (⟨some 4, _, _, _, _, _⟩ :: _) _ _); refine wpList_alloc rfl 27 rfl zero2 ?_; rw [show (Value.agg zer2).cells = zer2 from rfl])
  obtain ⟨W, hW⟩ : ∃ W, W = (w.alloc (.cells A 27)).alloc (.cells zer2 27) := ⟨_, rfl⟩
  rw [← hW]
  have HB := Lib.hid (show Below w.heap.size w W by rw [hW]; exact ((Below.refl _ w).alloc (Nat.le_refl _) _).alloc (by simp) _)
  clear hW
  try simp only [Act.put, List.setIfInBounds_toArray, List.set_cons_succ, List.set_cons_zero]
  go_wp2_with (go_at_call 42; refine (must_bad _ _).mono ?_; rintro e w' ⟨rfl, rfl⟩)
  exact ⟨rfl, rfl, HB.out⟩
end Go.Proofs.Ytcljbmkdflkeeaa
