/- connect: fields are read. -/
import Derived.Test.YtchkipafjnehfaaEn
import Derived.Deep.RegionWith
import Derived.Laws.BitsAllLaws
namespace Go.Proofs.Ytchkipafjnehfaa
set_option linter.unusedVariables false
set_option linter.unusedSimpArgs false
open Go.RowKit

/-- the error of a bad entry, as a panic -/
def fmtP : PanicEntry := { v := .iface 24 (.int .i64 6), recovered := false }

set_option maxHeartbeats 1000000 in
theorem must_bad (w : World) : Calls Try.prog 46 #[.bool false] w fun e w' => e = .panicked [fmtP] ∧ w = w' := by
  go_enter Try.func46, Try.ntmps46
  go_wp2
  exact ⟨rfl, rfl, rfl⟩

/-- a number of n bytes -/
def le (B : Nat → Int) (p : Nat) : Nat → Int
  | 0 => 0
  | k + 1 => le B p k + B (p + k) * 2 ^ (8 * k)
theorem le_bd {B : Nat → Int} (hB : ∀ j, 0 ≤ B j ∧ B j ≤ 255) (p k : Nat) : 0 ≤ le B p k ∧ le B p k < 2 ^ (8 * k) := by
  induction k with
  | zero => exact ⟨by simp [le], by simp [le]⟩
  | succ k ih =>
    obtain ⟨h1, h2⟩ := ih
    obtain ⟨b1, b2⟩ := hB (p + k)
    have hp : (0 : Int) < 2 ^ (8 * k) := Int.pow_pos (by omega)
    have e : (2 : Int) ^ (8 * (k + 1)) = 2 ^ (8 * k) * 256 := by rw [Nat.mul_add, Int.pow_add]; rfl
    have m1 : 0 ≤ B (p + k) * 2 ^ (8 * k) := Int.mul_nonneg b1 (Int.le_of_lt hp)
    have m2 : B (p + k) * 2 ^ (8 * k) ≤ 255 * 2 ^ (8 * k) := Int.mul_le_mul_of_nonneg_right b2 (Int.le_of_lt hp)
    unfold le
    rw [e]
    omega

theorem or_step (x y : Int) (k : Nat) (hx : 0 ≤ x) (hx' : x < 2 ^ (8 * k)) (hy : 0 ≤ y) (hy' : y ≤ 255) (hk : k < 8) :
    bits .or .u64 x (y * 2 ^ (8 * k)) = x + y * 2 ^ (8 * k) ∧ 0 ≤ y * 2 ^ (8 * k) ∧ y * 2 ^ (8 * k) ≤ 18446744073709551615 := by
  have hp : (0 : Int) < 2 ^ (8 * k) := Int.pow_pos (by omega)
  have hq : (2 : Int) ^ (8 * k) ≤ 72057594037927936 := by
    have h : k = 0 ∨ k = 1 ∨ k = 2 ∨ k = 3 ∨ k = 4 ∨ k = 5 ∨ k = 6 ∨ k = 7 := by omega
    rcases h with rfl | rfl | rfl | rfl | rfl | rfl | rfl | rfl <;> simp
  have m1 : 0 ≤ y * 2 ^ (8 * k) := Int.mul_nonneg hy (Int.le_of_lt hp)
  have m2 : y * 2 ^ (8 * k) ≤ 255 * 2 ^ (8 * k) := Int.mul_le_mul_of_nonneg_right hy' (Int.le_of_lt hp)
  refine ⟨?_, m1, by omega⟩
  obtain ⟨a, rfl⟩ := Int.eq_ofNat_of_zero_le hx
  obtain ⟨b, rfl⟩ := Int.eq_ofNat_of_zero_le hy
  have e : (b : Int) * 2 ^ (8 * k) = ((b <<< (8 * k) : Nat) : Int) := by rw [Nat.shiftLeft_eq]; push_cast; rfl
  rw [e] at m1 m2 ⊢
  have ha : a < 2 ^ (8 * k) := by
    have : ((a : Nat) : Int) < ((2 ^ (8 * k) : Nat) : Int) := by push_cast; exact hx'
    exact Int.ofNat_lt.1 this
  rw [u64_or _ _ (by omega) (by omega) (by omega) (by omega)]
  have h := Nat.shiftLeft_add_eq_or_of_lt ha b
  rw [Nat.or_comm] at h
  simp only [Int.toNat_natCast]
  omega
end Go.Proofs.Ytchkipafjnehfaa
