/- queue: the ring's functions. -/
import Derived.Test.YtpoeepdpoblfcaaRing
import Derived.Test.YtpoeepdpoblfcaaR2
import Derived.Test.YtpoeepdpoblfcaaWire
namespace Go.Proofs.Ytpoeepdpoblfcaa
open Go.RowKit

set_option maxHeartbeats 1000000 in
theorem next_ok (n s : Nat) (x y : Int) (w : World) (hn : 2 ≤ n) (hn' : n ≤ 4096) (hs : s < n) :
    Calls Try.prog 50 #[.agg #[.int .i64 n, .int .i64 x, .int .i64 y], .int .i64 s] w fun e w' => e = .returned (.int .i64 (nxt n s : Nat)) ∧ Below w.heap.size w w' := by
  have HE := Lib.hid (show ((s : Int) + 1) % (n : Int) = ((nxt n s : Nat) : Int) by unfold nxt; push_cast; rfl)
  go_enter Try.func50, Try.ntmps50
  go_wp2_with fail
  go_ret
  exact ⟨ret_int HE.out, (Below.refl _ _).alloc (Nat.le_refl _) _⟩

set_option maxHeartbeats 1000000 in
theorem used_ok (n a b : Nat) (x y : Int) (w : World) (hn : 2 ≤ n) (hn' : n ≤ 4096) (ha : a < n) (hb : b < n) :
    Calls Try.prog 54 #[.agg #[.int .i64 n, .int .i64 x, .int .i64 y], .int .i64 a, .int .i64 b] w fun e w' => e = .returned (.int .i64 (usd n a b : Nat)) ∧ Below w.heap.size w w' := by
  have HE := Lib.hid (show ((b : Int) - (a : Int) + (n : Int)) % (n : Int) = ((usd n a b : Nat) : Int) by
    unfold usd; rw [show ((b : Int) - (a : Int) + (n : Int)) = ((b + n - a : Nat) : Int) by omega]; rfl)
  go_enter Try.func54, Try.ntmps54
  go_wp2_with fail
  go_ret
  exact ⟨ret_int HE.out, (Below.refl _ _).alloc (Nat.le_refl _) _⟩

set_option maxHeartbeats 1000000 in
theorem slot_yes (n k : Nat) (x y : Int) (w : World) (hk : k < n) :
    Calls Try.prog 53 #[.agg #[.int .i64 n, .int .i64 x, .int .i64 y], .int .i64 k] w fun e w' => e = .returned (.bool true) ∧ Below w.heap.size w w' := by
  have d1 : decide ((0 : Int) ≤ (k : Int)) = true := by simp
  have d2 : decide (k < n) = true := by simpa using hk
  go_enter Try.func53, Try.ntmps53
  go_wp2_with fail
  go_ret
  exact ⟨rfl, (Below.refl _ _).alloc (Nat.le_refl _) _⟩
set_option maxHeartbeats 1000000 in
theorem slot_no (n : Nat) (k : Int) (x y : Int) (w : World) (hk : k < 0 ∨ (n : Int) ≤ k) :
    Calls Try.prog 53 #[.agg #[.int .i64 n, .int .i64 x, .int .i64 y], .int .i64 k] w fun e w' => e = .returned (.bool false) ∧ Below w.heap.size w w' := by
  by_cases h0 : k < 0
  · have d1 : decide ((0 : Int) ≤ k) = false := by simp; omega
    clear hk
    go_enter Try.func53, Try.ntmps53
    go_wp2_with fail
    go_ret
    exact ⟨rfl, (Below.refl _ _).alloc (Nat.le_refl _) _⟩
  · have d1 : decide ((0 : Int) ≤ k) = true := by simp; omega
    have d2 : decide (k < (n : Int)) = false := by simp; omega
    clear hk
    go_enter Try.func53, Try.ntmps53
    go_wp2_with fail
    go_ret
    exact ⟨rfl, (Below.refl _ _).alloc (Nat.le_refl _) _⟩
end Go.Proofs.Ytpoeepdpoblfcaa
