/- sgl: descriptors; which are valid. -/
import Derived.Test.YtfmabknhfehdcaaZT6
import Derived.Test.YtfmabknhfehdcaaZT3
import Derived.Test.YtfmabknhfehdcaaZT5
import Derived.Deep.RegionHeld3
import Derived.Outline
namespace Go.Proofs.Ytfmabknhfehdcaa
set_option linter.unusedVariables false
set_option linter.unusedSimpArgs false
open Go.RowKit

/-- A descriptor. -/
structure Dsc where
  k : Int
  a : Int
  n : Int
  key : Int
def Dsc.cells (d : Dsc) : Array Value := #[.int .i64 d.k, .int .u64 d.a, .int .i64 d.n, .int .u32 d.key]
structure Dsc.Ok (d : Dsc) : Prop where
  k : -9223372036854775808 ≤ d.k ∧ d.k ≤ 9223372036854775807
  a : 0 ≤ d.a ∧ d.a ≤ 18446744073709551615
  n : -9223372036854775808 ≤ d.n ∧ d.n ≤ 9223372036854775807
  key : 0 ≤ d.key ∧ d.key ≤ 4294967295
/-- the greatest length of a kind, and one -/
def lim (k : Int) : Int := if k = 5 then 16777216 else 4294967296
def Vld (d : Dsc) : Prop := (1 ≤ d.k ∧ d.k ≤ 5) ∧ (0 ≤ d.n ∧ d.n < lim d.k) ∧ (d.key = 0 ∨ d.k = 5) ∧ (d.a = 0 ∨ d.k ≠ 2)
instance (d : Dsc) : Decidable (Vld d) := by unfold Vld; infer_instance
def vldD (d : Dsc) : Bool := decide (Vld d)

/-- the kinds -/
def kinds5 : Array Value := #[.int .i64 1, .int .i64 2, .int .i64 3, .int .i64 4, .int .i64 5]
theorem size5 : (Try.prog.info? 131).map (·.size) = some kinds5.size := by kernel_rfl
def zer5 : Array Value := #[.int .i64 0, .int .i64 0, .int .i64 0, .int .i64 0, .int .i64 0]
theorem zero5 (w : World) : (zeroValue 131).run Try.prog w = .ok (.agg zer5) w := by kernel_rfl
theorem build5 (w : World) : (Instr.build 131 #[(0, .int .i64 1), (1, .int .i64 2), (2, .int .i64 3), (3, .int .i64 4), (4, .int .i64 5)]).run Try.prog w = .ok (.agg kinds5) w := by kernel_rfl
theorem kinds5_one : kinds5.all (·.oneCell') = true := by simp [kinds5, Value.oneCell']
set_option maxRecDepth 100000 in
theorem types_any (w : World) : Calls Try.prog 78 #[] w fun e w' => e = .returned (.agg kinds5) ∧ Below w.heap.size w w' := by
  go_enter Try.func78, Try.ntmps78
  go_wp2_with (first
    | ((with_reducible show wpList _ _ _ (⟨some 0, _, _, _, _, _⟩ :: _) _ _); refine wpList_alloc rfl 131 rfl zero5 ?_; rw [show (Value.agg zer5).cells = zer5 from rfl])
    | ((with_reducible show wpList _ _ _ (⟨some 1, _, _, _, _, _⟩ :: _) _ _); refine wpList_buildC rfl 131 #[(0, .const (.int .i64 1)), (1, .const (.int .i64 2)), (2, .const (.int .i64 3)), (3, .const (.int .i64 4)), (4, .const (.int .i64 5))] rfl #[(0, .int .i64 1), (1, .int .i64 2), (2, .int .i64 3), (3, .int .i64 4), (4, .int .i64 5)] (by simp [Act.eval, Act.put]) (build5 _) ?_)
    | ((with_reducible show wpList _ _ _ (⟨none, _, _, _, _, _⟩ :: _) _ _); refine wpList_storeA rfl (b := w.heap.size) (A := zer5) (A' := kinds5) (ArrAt.fresh w zer5 _ (by decide)) 131 (.tmp 0) (.tmp 1) rfl (by simp [Act.eval, Act.put]) (by simp [Act.eval, Act.put]) size5 rfl kinds5_one ?_))
  exact bodyPost_ret (results_c rfl _ _ _ ((ArrAt.fresh w zer5 _ (by decide)).store kinds5 rfl) rfl Try.underlying131 rfl size5) rfl ⟨rfl, bstore ((Below.refl _ _).alloc (Nat.le_refl _) _) _ (Nat.le_refl _) _ _⟩

set_option maxHeartbeats 400000 in
theorem index5 (b : Nat) (k : Int) (w : World) (c0 : w.cell? ⟨b, 0, none⟩ = some (.int .i64 1)) (c1 : w.cell? ⟨b, 1, none⟩ = some (.int .i64 2)) (c2 : w.cell? ⟨b, 2, none⟩ = some (.int .i64 3)) (c3 : w.cell? ⟨b, 3, none⟩ = some (.int .i64 4)) (c4 : w.cell? ⟨b, 4, none⟩ = some (.int .i64 5)) :
   Calls Try.prog 79 #[.slice (some ⟨b, 0, none⟩) 5 5, .int .i64 k] w fun e w' => e = .returned (.int .i64 (if 1 ≤ k ∧ k ≤ 5 then k - 1 else -1)) ∧ w = w' := by
  by_cases h : 1 ≤ k ∧ k ≤ 5
  · obtain rfl | rfl | rfl | rfl | rfl : k = 1 ∨ k = 2 ∨ k = 3 ∨ k = 4 ∨ k = 5 := by omega
    all_goals
      clear h
      go_enter Try.func79, Try.ntmps79
      go_wp2
      refine wp_loop_rounds 6 ?_
      rw [rounds_succ]
      go_wp2
      try (rw [rounds_succ]; go_wp2)
      try (rw [rounds_succ]; go_wp2)
      try (rw [rounds_succ]; go_wp2)
      try (rw [rounds_succ]; go_wp2)
      go_ret
      exact ⟨rfl, rfl⟩
  · have e1 : (k == 1) = false := beq_eq_false_iff_ne.2 (by omega)
    have e2 : (k == 2) = false := beq_eq_false_iff_ne.2 (by omega)
    have e3 : (k == 3) = false := beq_eq_false_iff_ne.2 (by omega)
    have e4 : (k == 4) = false := beq_eq_false_iff_ne.2 (by omega)
    have e5 : (k == 5) = false := beq_eq_false_iff_ne.2 (by omega)
    have HH := Lib.hid h
    clear h
    go_enter Try.func79, Try.ntmps79
    go_wp2
    refine wp_loop_rounds 6 ?_
    rw [rounds_succ]
    go_wp2
    rw [rounds_succ]; go_wp2
    rw [rounds_succ]; go_wp2
    rw [rounds_succ]; go_wp2
    rw [rounds_succ]; go_wp2
    rw [rounds_succ]; go_wp2
    go_ret
    exact ⟨by first | rfl | rw [if_neg HH.out], rfl⟩

theorem contains5 (b : Nat) (k : Int) (r : Bool) (hr : decide (1 ≤ k ∧ k ≤ 5) = r) (w : World) (c0 : w.cell? ⟨b, 0, none⟩ = some (.int .i64 1)) (c1 : w.cell? ⟨b, 1, none⟩ = some (.int .i64 2)) (c2 : w.cell? ⟨b, 2, none⟩ = some (.int .i64 3)) (c3 : w.cell? ⟨b, 3, none⟩ = some (.int .i64 4)) (c4 : w.cell? ⟨b, 4, none⟩ = some (.int .i64 5)) :
   Calls Try.prog 91 #[.slice (some ⟨b, 0, none⟩) 5 5, .int .i64 k] w fun e w' => e = .returned (.bool r) ∧ w = w' := by
  obtain ⟨z, hz⟩ : ∃ z, z = (if 1 ≤ k ∧ k ≤ 5 then k - 1 else -1 : Int) := ⟨_, rfl⟩
  have HI := Lib.hid (index5 b k w c0 c1 c2 c3 c4)
  rw [← hz] at HI
  have d : decide (0 ≤ z) = r := by
    rw [← hr, hz]
    split <;> simp <;> omega
  clear hz hr
  go_enter Try.func91, Try.ntmps91
  go_wp2_with (go_at_call 79; refine HI.out.mono ?_; rintro e w' ⟨rfl, rfl⟩)
  go_ret
  exact ⟨by simp [d], rfl⟩

end Go.Proofs.Ytfmabknhfehdcaa
