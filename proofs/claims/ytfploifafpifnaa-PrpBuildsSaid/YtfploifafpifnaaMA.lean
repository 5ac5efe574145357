/- memory: none, num, all of two conditions, Check. -/
import Derived.Test.YtfploifafpifnaaLib
namespace Go.Proofs.Ytfploifafpifnaa
set_option linter.unusedVariables false
set_option linter.unusedSimpArgs false
open Go.RowKit

set_option maxHeartbeats 400000 in
theorem none_some (b : Nat) (a : Option Addr) (n c : Nat) (w : World) (h : w.cell? ⟨b, 769, none⟩ = some (.slice a n c)) :
   Calls Try.prog 39 #[.pointer (some ⟨b, 0, none⟩)] w fun e w' => e = .returned (.bool a.isNone) ∧ w = w' := by
  go_enter Try.func39, Try.ntmps39
  go_wp2
  go_ret
  exact ⟨rfl, rfl⟩

set_option maxHeartbeats 400000 in
theorem none_nil  (w : World)  :
   Calls Try.prog 39 #[.pointer none] w fun e w' => e = .returned (.bool true) ∧ w = w' := by
  go_enter Try.func39, Try.ntmps39
  go_wp2
  go_ret
  exact ⟨rfl, rfl⟩

set_option maxHeartbeats 400000 in
theorem index_two (b : Nat) (x y : Bool) (w : World) (hx : w.cell? ⟨b, 0, none⟩ = some (.bool x)) (hy : w.cell? ⟨b, 1, none⟩ = some (.bool y)) :
   Calls Try.prog 58 #[.slice (some ⟨b, 0, none⟩) 2 2, .bool false] w fun e w' => e = .returned (.int .i64 (if x = false then 0 else if y = false then 1 else -1)) ∧ w = w' := by
  cases x <;> cases y
  all_goals
    go_enter Try.func58, Try.ntmps58
    go_wp2
    refine wp_loop_rounds 3 ?_
    rw [rounds_succ]
    go_wp2
    try (rw [rounds_succ]; go_wp2)
    try (rw [rounds_succ]; go_wp2)
    go_ret
    exact ⟨rfl, rfl⟩

set_option maxHeartbeats 400000 in
theorem contains_two (b : Nat) (x y : Bool) (w : World) (hx : w.cell? ⟨b, 0, none⟩ = some (.bool x)) (hy : w.cell? ⟨b, 1, none⟩ = some (.bool y)) :
   Calls Try.prog 52 #[.slice (some ⟨b, 0, none⟩) 2 2, .bool false] w fun e w' => e = .returned (.bool (!(x && y))) ∧ w = w' := by
  cases x <;> cases y
  all_goals
    go_enter Try.func52, Try.ntmps52
    go_wp2_with (go_at_call 58; refine (index_two _ _ _ _ hx hy).mono ?_; rintro e w' ⟨rfl, rfl⟩)
    go_ret
    exact ⟨rfl, rfl⟩

set_option maxHeartbeats 400000 in
theorem all_two (b : Nat) (x y : Bool) (w : World) (hx : w.cell? ⟨b, 0, none⟩ = some (.bool x)) (hy : w.cell? ⟨b, 1, none⟩ = some (.bool y)) :
   Calls Try.prog 44 #[.slice (some ⟨b, 0, none⟩) 2 2] w fun e w' => e = .returned (.bool (x && y)) ∧ w = w' := by
  go_enter Try.func44, Try.ntmps44
  go_wp2_with (go_at_call 52; refine (contains_two _ _ _ _ hx hy).mono ?_; rintro e w' ⟨rfl, rfl⟩)
  go_ret
  exact ⟨by simp, rfl⟩

/-- Check on a memory with n bytes -/
def chk (size : Nat) (addr n : Int) : Int := if n < 0 then 2 else if addr ≤ size ∧ n ≤ size - addr then 0 else 3

/-- the last test of Check -/
def fits (size : Nat) (addr n : Int) : Bool := decide (addr ≤ size ∧ n ≤ size - addr)

set_option maxHeartbeats 400000 in
theorem check_made (b : Nat) (a : Addr) (size c : Nat) (addr n : Int) (w : World) (h : w.cell? ⟨b, 769, none⟩ = some (.slice (some a) size c))
   (hs : size ≤ 4194304) (ha : 0 ≤ addr) (ha' : addr ≤ 18446744073709551615) (hn : -9223372036854775808 ≤ n) (hn' : n ≤ 9223372036854775807) :
   Calls Try.prog 18 #[.pointer (some ⟨b, 0, none⟩), .int .u64 addr, .int .i64 n] w fun e w' => e = .returned (.int .i64 (chk size addr n)) ∧ Below w.heap.size w w' := by
  have hb := World.block_lt_of_cell? _ _ h
  simp only [] at hb
  by_cases h1 : n < 0
  · go_enter Try.func18, Try.ntmps18
    go_wp2_with (first | (with_reducible refine wp_scope_fwd 0 rfl ?_) | (with_reducible refine Exit.fwd_goto ?_) | go_step3 | (go_at_call 39; refine (none_some _ _ _ _ _ h).mono ?_; rintro e w' ⟨rfl, rfl⟩))
    simp only [Exit.noGoto_ret]
    go_ret
    exact ⟨by simp [chk, h1], Below.refl _ _⟩
  · by_cases h2 : addr ≤ size
    · have d2 := decide_eq_true h2
      by_cases h3 : n ≤ size - addr
      · have d3 := decide_eq_true h3
        go_enter Try.func18, Try.ntmps18
        go_wp2_with (first | (with_reducible refine wp_scope_fwd 0 rfl ?_) | (with_reducible refine Exit.fwd_goto ?_) | go_step3 | (go_at_call 39; refine (none_some _ _ _ _ _ h).mono ?_; rintro e w' ⟨rfl, rfl⟩) | (go_at_call 44; refine (all_two _ _ _ _ (World.cell?_alloc_new _ _ _ _) (World.cell?_alloc_new _ _ _ _)).mono ?_; rintro e w' ⟨rfl, rfl⟩))
        simp only [Exit.fwd_ret]
        go_ret
        exact ⟨by simp [chk]; omega, (Below.refl _ _).alloc (Nat.le_refl _) _⟩
      · have d3 := decide_eq_false h3
        go_enter Try.func18, Try.ntmps18
        go_wp2_with (first | (with_reducible refine wp_scope_fwd 0 rfl ?_) | (with_reducible refine Exit.fwd_goto ?_) | go_step3 | (go_at_call 39; refine (none_some _ _ _ _ _ h).mono ?_; rintro e w' ⟨rfl, rfl⟩) | (go_at_call 44; refine (all_two _ _ _ _ (World.cell?_alloc_new _ _ _ _) (World.cell?_alloc_new _ _ _ _)).mono ?_; rintro e w' ⟨rfl, rfl⟩))
        simp only [Exit.noGoto_ret]
        go_ret
        exact ⟨by simp [chk]; omega, (Below.refl _ _).alloc (Nat.le_refl _) _⟩
    · have d2 := decide_eq_false h2
      go_enter Try.func18, Try.ntmps18
      go_wp2_with (first | (with_reducible refine wp_scope_fwd 0 rfl ?_) | (with_reducible refine Exit.fwd_goto ?_) | go_step3 | (go_at_call 39; refine (none_some _ _ _ _ _ h).mono ?_; rintro e w' ⟨rfl, rfl⟩) | (go_at_call 44; refine (all_two _ _ _ _ (World.cell?_alloc_new _ _ _ _) (World.cell?_alloc_new _ _ _ _)).mono ?_; rintro e w' ⟨rfl, rfl⟩))
      simp only [Exit.noGoto_ret]
      go_ret
      exact ⟨by simp [chk]; omega, (Below.refl _ _).alloc (Nat.le_refl _) _⟩

set_option maxHeartbeats 400000 in
theorem check_nil (addr n : Int) (w : World) :
   Calls Try.prog 18 #[.pointer none, .int .u64 addr, .int .i64 n] w fun e w' => e = .returned (.int .i64 1) ∧ w = w' := by
  go_enter Try.func18, Try.ntmps18
  go_wp2_with (first | (with_reducible refine wp_scope_fwd 0 rfl ?_) | (with_reducible refine Exit.fwd_goto ?_) | go_step3 | (go_at_call 39; refine (none_nil _).mono ?_; rintro e w' ⟨rfl, rfl⟩))
  simp only [Exit.noGoto_ret]
  go_ret
  exact ⟨rfl, rfl⟩

set_option maxHeartbeats 400000 in
theorem check_zero (b c m : Nat) (addr n : Int) (w : World) (h : w.cell? ⟨b, 769, none⟩ = some (.slice none m c)) :
   Calls Try.prog 18 #[.pointer (some ⟨b, 0, none⟩), .int .u64 addr, .int .i64 n] w fun e w' => e = .returned (.int .i64 1) ∧ w = w' := by
  go_enter Try.func18, Try.ntmps18
  go_wp2_with (first | (with_reducible refine wp_scope_fwd 0 rfl ?_) | (with_reducible refine Exit.fwd_goto ?_) | go_step3 | (go_at_call 39; refine (none_some _ _ _ _ _ h).mono ?_; rintro e w' ⟨rfl, rfl⟩))
  simp only [Exit.noGoto_ret]
  go_ret
  exact ⟨rfl, rfl⟩

end Go.Proofs.Ytfploifafpifnaa
