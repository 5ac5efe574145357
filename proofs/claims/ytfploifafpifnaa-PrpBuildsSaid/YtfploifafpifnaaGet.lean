/- wire.Get. -/
import Derived.Test.YtfploifafpifnaaBA
import Derived.Laws.BitsAllLaws
namespace Go.Proofs.Ytfploifafpifnaa
set_option linter.unusedVariables false
set_option linter.unusedSimpArgs false
open Go.RowKit

/-- a number of n bytes -/
def le (B : Nat → Int) (p : Nat) : Nat → Int
  | 0 => 0
  | k + 1 => le B p k + B (p + k) * 2 ^ (8 * k)
theorem le_bd {B : Nat → Int} (hB : ∀ j, 0 ≤ B j ∧ B j ≤ 255) (p k : Nat) : 0 ≤ le B p k ∧ le B p k < 2 ^ (8 * k) := by
  induction k with
  | zero => exact ⟨by simp [le], by simp [le]⟩
  | succ k ih =>
    obtain ⟨h1, h2⟩ := ih
    obtain ⟨b1, b2⟩ := hB (p + k)
    have hp : (0 : Int) < 2 ^ (8 * k) := Int.pow_pos (by omega)
    have e : (2 : Int) ^ (8 * (k + 1)) = 2 ^ (8 * k) * 256 := by rw [Nat.mul_add, Int.pow_add]; rfl
    have m1 : 0 ≤ B (p + k) * 2 ^ (8 * k) := Int.mul_nonneg b1 (Int.le_of_lt hp)
    have m2 : B (p + k) * 2 ^ (8 * k) ≤ 255 * 2 ^ (8 * k) := Int.mul_le_mul_of_nonneg_right b2 (Int.le_of_lt hp)
    unfold le
    rw [e]
    omega

theorem or_step (x y : Int) (k : Nat) (hx : 0 ≤ x) (hx' : x < 2 ^ (8 * k)) (hy : 0 ≤ y) (hy' : y ≤ 255) (hk : k < 8) :
    bits .or .u64 x (y * 2 ^ (8 * k)) = x + y * 2 ^ (8 * k) ∧ 0 ≤ y * 2 ^ (8 * k) ∧ y * 2 ^ (8 * k) ≤ 18446744073709551615 := by
  have hp : (0 : Int) < 2 ^ (8 * k) := Int.pow_pos (by omega)
  have hq : (2 : Int) ^ (8 * k) ≤ 72057594037927936 := by
    have h : k = 0 ∨ k = 1 ∨ k = 2 ∨ k = 3 ∨ k = 4 ∨ k = 5 ∨ k = 6 ∨ k = 7 := by omega
    rcases h with rfl | rfl | rfl | rfl | rfl | rfl | rfl | rfl <;> simp
  have m1 : 0 ≤ y * 2 ^ (8 * k) := Int.mul_nonneg hy (Int.le_of_lt hp)
  have m2 : y * 2 ^ (8 * k) ≤ 255 * 2 ^ (8 * k) := Int.mul_le_mul_of_nonneg_right hy' (Int.le_of_lt hp)
  refine ⟨?_, m1, by omega⟩
  obtain ⟨a, rfl⟩ := Int.eq_ofNat_of_zero_le hx
  obtain ⟨b, rfl⟩ := Int.eq_ofNat_of_zero_le hy
  have e : (b : Int) * 2 ^ (8 * k) = ((b <<< (8 * k) : Nat) : Int) := by rw [Nat.shiftLeft_eq]; push_cast; rfl
  rw [e] at m1 m2 ⊢
  have ha : a < 2 ^ (8 * k) := by
    have : ((a : Nat) : Int) < ((2 ^ (8 * k) : Nat) : Int) := by push_cast; exact hx'
    exact Int.ofNat_lt.1 this
  rw [u64_or _ _ (by omega) (by omega) (by omega) (by omega)]
  have h := Nat.shiftLeft_add_eq_or_of_lt ha b
  rw [Nat.or_comm] at h
  simp only [Int.toNat_natCast]
  omega

set_option maxRecDepth 100000 in
set_option maxHeartbeats 2000000 in
theorem get_ok (g o n c : Nat) (B : Nat → Int) (w : World) (hB : ∀ j, 0 ≤ B j ∧ B j ≤ 255) (h1 : 1 ≤ n) (h8 : n ≤ 8) (hc : ∀ j, j < n → w.cell? ⟨g, o + j, none⟩ = some (.int .u8 (B (o + j)))) :
   Calls Try.prog 59 #[.slice (some ⟨g, o, none⟩) n c] w fun e w' => e = .returned (.tuple #[.int .u64 (le B o n), .int .i64 0]) ∧ w = w' := by
  have HB := Lib.hid hB
  have HC := Lib.hid hc
  clear hB hc
  have d1 : decide (n < 1) = false := by simp; omega
  have d2 : decide (8 < n) = false := by simp; omega
  have d3 : decide ((n : Int) < 1) = false := by simp; omega
  have d4 : decide (8 < (n : Int)) = false := by simp; omega
  go_enter Try.func59, Try.ntmps59
  go_wp2_with fail
  go_loop [2, 4, 5, 16] (fun v _ _ i => ∃ k : Nat, k ≤ n ∧ i = .int .i64 k ∧ v = .int .u64 (le B o k)) (fun _ _ _ i => n - (intOf i).toNat)
  case atStart => exact ⟨0, Nat.zero_le _, rfl, rfl⟩
  case round =>
    obtain ⟨k, hk, rfl, rfl⟩ := hrel
    by_cases hlt : k < n
    · have c0 := HC.out k hlt
      obtain ⟨b1, b2⟩ := HB.out (o + k)
      obtain ⟨x1, x2⟩ := le_bd HB.out o k
      obtain ⟨s1, s2, s3⟩ := or_step (le B o k) (B (o + k)) k x1 x2 b1 b2 (by omega)
      have e4 : IntKind.i64.wrap (8 * (k : Int)) = 8 * (k : Int) := IntWalk.i64_in _ (by omega)
      have HS : Hid (le B o (k + 1) = le B o k + B (o + k) * 2 ^ (8 * k)) := Lib.hid rfl
      obtain ⟨x, hx⟩ : ∃ x, x = le B o k := ⟨_, rfl⟩
      obtain ⟨b, hb⟩ : ∃ b, b = B (o + k) := ⟨_, rfl⟩
      rw [← hx] at HS s1 x1 x2 ⊢
      rw [← hb] at HS s1 s2 s3 b1 b2 c0
      clear hx hb
      go_wp2_with fail
      go_round
      case rel => exact ⟨k + 1, by omega, by go_num, by rw [HS.out]⟩
      case measure => simp [intOf]; omega
    · obtain rfl : n = k := by omega
      go_wp2_with fail
      go_ret2
      exact ⟨rfl, rfl⟩

end Go.Proofs.Ytfploifafpifnaa
