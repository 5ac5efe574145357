/- completion: Decode. -/
import Derived.Test.YtggdjadhenamiaaRd
namespace Go.Proofs.Ytggdjadhenamiaa
set_option linter.unusedVariables false
set_option linter.unusedSimpArgs false
open Go.RowKit

def arrB (B : Nat → Int) : Value := .agg (arr 16 fun j => .int .u8 (B j))
/-- the status word -/
def sw (B : Nat → Int) : Int := B 14 + B 15 * 256
/-- the completion of an entry -/
def dCpl (B : Nat → Int) : Cpl :=
  { r0 := le B 0 4, r1 := le B 4 4, head := le B 8 2, queue := le B 10 2, id := le B 12 2, ph := decide (sw B % 2 = 1), ty := sw B / 512 % 8, code := sw B / 2 % 256, more := decide (sw B / 16384 % 2 = 1), never := decide (sw B / 32768 = 1) }
def nsD (i : Nat) : Nat := if i < 2 then 4 else 2
def zCpl : Cpl := { r0 := 0, r1 := 0, head := 0, queue := 0, id := 0, ph := false, ty := 0, code := 0, more := false, never := false }

theorem le_sw (B : Nat → Int) : le B 14 2 = sw B := by simp [le, sw]
theorem and_mask (a : Int) (k : Nat) (h0 : 0 ≤ a) (h1 : a < 18446744073709551616) (hk : k ≤ 8) : bits .and .u64 a (2 ^ k - 1) = a % 2 ^ k := by
  have hk' : k = 0 ∨ k = 1 ∨ k = 2 ∨ k = 3 ∨ k = 4 ∨ k = 5 ∨ k = 6 ∨ k = 7 ∨ k = 8 := by omega
  have e : ((2 : Int) ^ k - 1) = ((2 ^ k - 1 : Nat) : Int) := by rcases hk' with rfl | rfl | rfl | rfl | rfl | rfl | rfl | rfl | rfl <;> rfl
  have hp : (2 ^ k - 1 : Nat) < 18446744073709551616 := by rcases hk' with rfl | rfl | rfl | rfl | rfl | rfl | rfl | rfl | rfl <;> decide
  obtain ⟨x, rfl⟩ := Int.eq_ofNat_of_zero_le h0
  rw [e, u64_and_nat _ _ (by omega) hp, Nat.and_two_pow_sub_one_eq_mod]
  push_cast
  rfl

theorem nsD_cells {W : World} {t : TypeId} : ∀ i, i < 6 → (W.alloc (.cells #[.int .i64 4, .int .i64 4, .int .i64 2, .int .i64 2, .int .i64 2, .int .i64 2] t)).cell? ⟨W.heap.size, i, none⟩ = some (.int .i64 (nsD i)) := by
  intro i hi
  have h : i = 0 ∨ i = 1 ∨ i = 2 ∨ i = 3 ∨ i = 4 ∨ i = 5 := by omega
  rcases h with rfl | rfl | rfl | rfl | rfl | rfl <;> go_simp <;> rfl
theorem nsD_bd (i : Nat) : 1 ≤ nsD i ∧ nsD i ≤ 8 := by unfold nsD; split <;> omega
theorem nsD_le : ∀ k, k < 6 → offN nsD k + nsD k ≤ 16 := by decide
theorem Rst.srcLt {W : World} {rb g o len : Nat} {B : Nat → Int} (h : Rst W rb g o len B) (h0 : 0 < len) : g < W.heap.size := World.block_lt_of_cell? _ _ (h.src 0 h0)

end Go.Proofs.Ytggdjadhenamiaa
