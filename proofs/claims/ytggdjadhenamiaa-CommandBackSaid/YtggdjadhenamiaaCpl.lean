/- completion: Encode. -/
import Derived.Test.YtggdjadhenamiaaCmdR
import Derived.BigQuiet
import Derived.Deep.QuietTactic
import Derived.Deep.CutRange
namespace Go.Proofs.Ytggdjadhenamiaa
set_option linter.unusedVariables false
set_option linter.unusedSimpArgs false
open Go.RowKit

/-- A completion. -/
structure Cpl where
  r0 : Int
  r1 : Int
  head : Int
  queue : Int
  id : Int
  ph : Bool
  ty : Int
  code : Int
  more : Bool
  never : Bool

def Cpl.cells (c : Cpl) : Array Value := #[.int .u32 c.r0, .int .u32 c.r1, .int .u16 c.head, .int .u16 c.queue, .int .u16 c.id, .bool c.ph, .int .u8 c.ty, .int .u8 c.code, .bool c.more, .bool c.never]
def Cpl.v (c : Cpl) : Value := .agg c.cells
structure Cpl.Ok (c : Cpl) : Prop where
  r0 : 0 ≤ c.r0 ∧ c.r0 ≤ 4294967295
  r1 : 0 ≤ c.r1 ∧ c.r1 ≤ 4294967295
  head : 0 ≤ c.head ∧ c.head ≤ 65535
  queue : 0 ≤ c.queue ∧ c.queue ≤ 65535
  id : 0 ≤ c.id ∧ c.id ≤ 65535
  ty : 0 ≤ c.ty ∧ c.ty ≤ 255
  code : 0 ≤ c.code ∧ c.code ≤ 255

/-- a bit's number -/
def bv (b : Bool) (c : Int) : Int := if b then c else 0
theorem bv_bd (b : Bool) (c : Int) (h : 0 ≤ c) : 0 ≤ bv b c ∧ bv b c ≤ c := by
  unfold bv; split <;> omega

/-- the bytes of k fields -/
def flatV (vs : Nat → Int) (ns : Nat → Nat) : Nat → List Value
  | 0 => []
  | k + 1 => flatV vs ns k ++ bytesL (vs k) (ns k)
theorem flatV_one (vs : Nat → Int) (ns : Nat → Nat) (m : Nat) : ∀ u ∈ flatV vs ns m, u.oneCell' = true := by
  induction m with
  | zero => intro u hu; cases hu
  | succ m ih =>
    intro u hu
    rcases List.mem_append.1 hu with h | h
    · exact ih u h
    · exact bytesL_one _ _ u h
theorem flatV_len (vs : Nat → Int) (ns : Nat → Nat) (h : ∀ i, ns i ≤ 8) (m : Nat) : (flatV vs ns m).length ≤ 8 * m := by
  induction m with
  | zero => exact Nat.le_refl _
  | succ m ih => unfold flatV; rw [List.length_append, bytesL_length]; have := h m; omega

theorem u64_or_shift (a b : Int) (k : Nat) (ha : 0 ≤ a) (ha' : a < 2 ^ k) (hb : 0 ≤ b) (h1 : a ≤ 18446744073709551615) (h2 : b * 2 ^ k ≤ 18446744073709551615) : bits .or .u64 a (b * 2 ^ k) = a + b * 2 ^ k := by
  have m1 : 0 ≤ b * 2 ^ k := Int.mul_nonneg hb (Int.le_of_lt (Int.pow_pos (by omega)))
  obtain ⟨x, rfl⟩ := Int.eq_ofNat_of_zero_le ha
  obtain ⟨y, rfl⟩ := Int.eq_ofNat_of_zero_le hb
  have e : (y : Int) * 2 ^ k = ((y <<< k : Nat) : Int) := by rw [Nat.shiftLeft_eq]; push_cast; rfl
  rw [e] at m1 h2 ⊢
  have hx : x < 2 ^ k := by
    have : ((x : Nat) : Int) < ((2 ^ k : Nat) : Int) := by push_cast; exact ha'
    exact Int.ofNat_lt.1 this
  rw [u64_or _ _ (by omega) (by omega) (by omega) (by omega)]
  have h := Nat.shiftLeft_add_eq_or_of_lt hx y
  rw [Nat.or_comm] at h
  simp only [Int.toNat_natCast]
  omega

/-- the word of a status -/
def sword (c : Cpl) : Int := bv c.ph 1 + c.code * 2 + c.ty * 512 + bv c.more 16384 + bv c.never 32768

theorem or_sword (ph : Bool) (code ty : Int) (more never : Bool) (h1 : 0 ≤ code ∧ code ≤ 255) (h2 : 0 ≤ ty ∧ ty ≤ 7) :
    bits .or .u64 (bits .or .u64 (bits .or .u64 (bits .or .u64 (bv ph 1) (code * 2)) (ty * 512)) (bv more 16384)) (bv never 32768) = bv ph 1 + code * 2 + ty * 512 + bv more 16384 + bv never 32768 := by
  have b1 := bv_bd ph 1 (by omega)
  have b2 := bv_bd more 1 (by omega)
  have b3 := bv_bd never 1 (by omega)
  have m1 : bv more 16384 = bv more 1 * 2 ^ 14 := by cases more <;> rfl
  have m2 : bv never 32768 = bv never 1 * 2 ^ 15 := by cases never <;> rfl
  have p1 : (2 : Int) ^ 1 = 2 := rfl
  have p9 : (2 : Int) ^ 9 = 512 := rfl
  have p14 : (2 : Int) ^ 14 = 16384 := rfl
  have p15 : (2 : Int) ^ 15 = 32768 := rfl
  have e1 := u64_or_shift (bv ph 1) code 1 (by omega) (by omega) h1.1 (by omega) (by omega)
  have e2 := u64_or_shift (bv ph 1 + code * 2) ty 9 (by omega) (by omega) h2.1 (by omega) (by omega)
  have e3 := u64_or_shift (bv ph 1 + code * 2 + ty * 512) (bv more 1) 14 (by omega) (by omega) (by omega) (by omega) (by omega)
  have e4 := u64_or_shift (bv ph 1 + code * 2 + ty * 512 + bv more 1 * 2 ^ 14) (bv never 1) 15 (by omega) (by omega) (by omega) (by omega) (by omega)
  rw [m1, m2]
  rw [p1] at e1
  rw [p9] at e2
  rw [e1, e2, e3, e4]

def z16 : Nat → Value := fun _ => .int .u8 0
theorem z16_one : (arr 16 z16).all (·.oneCell') = true := arr_one fun _ _ => rfl
end Go.Proofs.Ytggdjadhenamiaa
