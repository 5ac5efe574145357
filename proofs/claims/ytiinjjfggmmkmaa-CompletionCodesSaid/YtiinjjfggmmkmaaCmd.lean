/- command: Encode. -/
import Derived.Test.YtiinjjfggmmkmaaWire
import Derived.Laws.CopyOwn
import Derived.Deep.RegionLaw
import Derived.Deep.CutRange
import Derived.Deep.RegionWith
import Derived.Deep.RegionHeld3
import Derived.Deep.DrawnRows
namespace Go.Proofs.Ytiinjjfggmmkmaa
set_option linter.unusedVariables false
set_option linter.unusedSimpArgs false
open Go.RowKit

def z8 : Nat → Value := fun _ => .int .u8 0
/-- A command. -/
structure Cmd where
  op : Int
  fused : Int
  sgl : Bool
  id : Int
  nsid : Int
  c2 : Int
  c3 : Int
  mt : Int
  d0 : Int
  d1 : Int
  w0 : Int
  w1 : Int
  w2 : Int
  w3 : Int
  w4 : Int
  w5 : Int

def Cmd.cells (c : Cmd) : Array Value := #[.int .u8 c.op, .int .u8 c.fused, .bool c.sgl, .int .u16 c.id, .int .u32 c.nsid, .int .u32 c.c2, .int .u32 c.c3, .int .u64 c.mt, .int .u64 c.d0, .int .u64 c.d1, .int .u32 c.w0, .int .u32 c.w1, .int .u32 c.w2, .int .u32 c.w3, .int .u32 c.w4, .int .u32 c.w5]
def Cmd.v (c : Cmd) : Value := .agg c.cells
structure Cmd.Ok (c : Cmd) : Prop where
  op : 0 ≤ c.op ∧ c.op ≤ 255
  fused : 0 ≤ c.fused ∧ c.fused ≤ 255
  id : 0 ≤ c.id ∧ c.id ≤ 65535
  nsid : 0 ≤ c.nsid ∧ c.nsid ≤ 4294967295
  c2 : 0 ≤ c.c2 ∧ c.c2 ≤ 4294967295
  c3 : 0 ≤ c.c3 ∧ c.c3 ≤ 4294967295
  mt : 0 ≤ c.mt ∧ c.mt ≤ 18446744073709551615
  d0 : 0 ≤ c.d0 ∧ c.d0 ≤ 18446744073709551615
  d1 : 0 ≤ c.d1 ∧ c.d1 ≤ 18446744073709551615
  w0 : 0 ≤ c.w0 ∧ c.w0 ≤ 4294967295
  w1 : 0 ≤ c.w1 ∧ c.w1 ≤ 4294967295
  w2 : 0 ≤ c.w2 ∧ c.w2 ≤ 4294967295
  w3 : 0 ≤ c.w3 ∧ c.w3 ≤ 4294967295
  w4 : 0 ≤ c.w4 ∧ c.w4 ≤ 4294967295
  w5 : 0 ≤ c.w5 ∧ c.w5 ≤ 4294967295

theorem u32_or_shift (a b : Int) (k : Nat) (ha : 0 ≤ a) (ha' : a < 2 ^ k) (hb : 0 ≤ b) (h1 : a ≤ 4294967295) (h2 : b * 2 ^ k ≤ 4294967295) : bits .or .u32 a (b * 2 ^ k) = a + b * 2 ^ k := by
  have m1 : 0 ≤ b * 2 ^ k := Int.mul_nonneg hb (Int.le_of_lt (Int.pow_pos (by omega)))
  obtain ⟨x, rfl⟩ := Int.eq_ofNat_of_zero_le ha
  obtain ⟨y, rfl⟩ := Int.eq_ofNat_of_zero_le hb
  have e : (y : Int) * 2 ^ k = ((y <<< k : Nat) : Int) := by rw [Nat.shiftLeft_eq]; push_cast; rfl
  rw [e] at m1 h2 ⊢
  have hx : x < 2 ^ k := by
    have : ((x : Nat) : Int) < ((2 ^ k : Nat) : Int) := by push_cast; exact ha'
    exact Int.ofNat_lt.1 this
  rw [u32_or _ _ (by omega) (by omega) (by omega) (by omega)]
  have h := Nat.shiftLeft_add_eq_or_of_lt hx y
  rw [Nat.or_comm] at h
  simp only [Int.toNat_natCast]
  omega

/-- the first word of an entry -/
def fword (op fused id : Int) (sgl : Bool) : Int := op + fused * 256 + id * 65536 + if sgl then 16384 else 0

theorem or_fword (op fused id : Int) (h1 : 0 ≤ op ∧ op ≤ 255) (h2 : 0 ≤ fused ∧ fused ≤ 2) (h3 : 0 ≤ id ∧ id ≤ 65535) : bits .or .u32 (bits .or .u32 op (fused * 256)) (id * 65536) = fword op fused id false := by
  have e1 := u32_or_shift op fused 8 h1.1 (by omega) h2.1 (by omega) (by omega)
  have e2 := u32_or_shift (op + fused * 2 ^ 8) id 16 (by omega) (by omega) h3.1 (by omega) (by omega)
  have p8 : (2 : Int) ^ 8 = 256 := rfl
  have p16 : (2 : Int) ^ 16 = 65536 := rfl
  rw [p8] at e1 e2
  rw [p16] at e2
  rw [e1, e2]
  simp [fword]
theorem or_fword2 (op fused id : Int) (h1 : 0 ≤ op ∧ op ≤ 255) (h2 : 0 ≤ fused ∧ fused ≤ 2) (h3 : 0 ≤ id ∧ id ≤ 65535) : bits .or .u32 (fword op fused id false) 16384 = fword op fused id true := by
  have hf : fword op fused id false = op + fused * 256 + id * 65536 := by simp [fword]
  have ht : fword op fused id true = op + fused * 256 + id * 65536 + 16384 := by simp [fword]
  rw [hf, ht]
  obtain ⟨lo, hlo⟩ : ∃ lo : Nat, op + fused * 256 = lo := ⟨(op + fused * 256).toNat, by omega⟩
  obtain ⟨i, rfl⟩ := Int.eq_ofNat_of_zero_le h3.1
  rw [hlo, u32_or _ _ (by omega) (by omega) (by omega) (by omega)]
  have e0 : ((lo : Int) + (i : Int) * 65536).toNat = lo + i * 65536 := by omega
  have e9 : (16384 : Int).toNat = 16384 := rfl
  rw [e0, e9]
  have a1 : ((lo + i * 65536) ||| 16384) / 2 ^ 16 = ((lo + i * 65536) / 2 ^ 16) ||| (16384 / 2 ^ 16) := Nat.or_div_two_pow
  have a2 : ((lo + i * 65536) ||| 16384) % 2 ^ 16 = ((lo + i * 65536) % 2 ^ 16) ||| (16384 % 2 ^ 16) := Nat.or_mod_two_pow
  have a3 : (lo + i * 65536) % 2 ^ 16 = lo := by omega
  have a4 := Nat.two_pow_add_eq_or_of_lt (i := 14) (b := lo) (by omega) 1
  have a5 : lo ||| 16384 = 16384 + lo := by rw [Nat.or_comm]; exact a4.symm
  rw [show 16384 / 2 ^ 16 = 0 from rfl, Nat.or_zero] at a1
  rw [a3, show 16384 % 2 ^ 16 = 16384 from rfl, a5] at a2
  generalize (lo + i * 65536) ||| 16384 = x at *
  omega

/-- the first four words -/
def h4 (a b c d : Int) (i : Nat) : Int := if i = 0 then a else if i = 1 then b else if i = 2 then c else d
theorem h4_bd {a b c d : Int} (h1 : 0 ≤ a ∧ a ≤ 4294967295) (h2 : 0 ≤ b ∧ b ≤ 4294967295) (h3 : 0 ≤ c ∧ c ≤ 4294967295) (h5 : 0 ≤ d ∧ d ≤ 4294967295) : ∀ i, 0 ≤ h4 a b c d i ∧ h4 a b c d i ≤ 4294967295 := by
  intro i
  unfold h4
  split
  · exact h1
  · split
    · exact h2
    · split
      · exact h3
      · exact h5
def w6f (a b c d e f : Int) (i : Nat) : Int := if i = 0 then a else if i = 1 then b else if i = 2 then c else if i = 3 then d else if i = 4 then e else f
theorem w6f_bd {a b c d e f : Int} (h1 : 0 ≤ a ∧ a ≤ 4294967295) (h2 : 0 ≤ b ∧ b ≤ 4294967295) (h3 : 0 ≤ c ∧ c ≤ 4294967295) (h4 : 0 ≤ d ∧ d ≤ 4294967295) (h5 : 0 ≤ e ∧ e ≤ 4294967295) (h6' : 0 ≤ f ∧ f ≤ 4294967295) : ∀ i, 0 ≤ w6f a b c d e f i ∧ w6f a b c d e f i ≤ 4294967295 := by
  intro i
  unfold w6f
  (repeat' split) <;> assumption
theorem fword_bd (op fused id : Int) (sgl : Bool) (h1 : 0 ≤ op ∧ op ≤ 255) (h2 : 0 ≤ fused ∧ fused ≤ 2) (h3 : 0 ≤ id ∧ id ≤ 65535) : 0 ≤ fword op fused id sgl ∧ fword op fused id sgl ≤ 4294967295 := by
  unfold fword
  split <;> omega

/-- the bytes of m numbers, n each -/
def flatB (n : Nat) (zs : Nat → Int) : Nat → List Value
  | 0 => []
  | k + 1 => flatB n zs k ++ bytesL (zs k) n
theorem flatB_length (n : Nat) (zs : Nat → Int) (m : Nat) : (flatB n zs m).length = n * m := by
  induction m with
  | zero => rfl
  | succ m ih => unfold flatB; rw [List.length_append, ih, bytesL_length]; rfl
theorem flatB_one (n : Nat) (zs : Nat → Int) (m : Nat) : ∀ u ∈ flatB n zs m, u.oneCell' = true := by
  induction m with
  | zero => intro u hu; cases hu
  | succ m ih =>
    intro u hu
    rcases List.mem_append.1 hu with h | h
    · exact ih u h
    · exact bytesL_one _ _ u h

theorem z8_one : (arr 64 z8).all (·.oneCell') = true := arr_one fun _ _ => rfl

/-- the bytes of an entry, as they are written -/
def encL (c : Cmd) : List Value := [] ++ flatB 4 (h4 (fword c.op c.fused c.id c.sgl) c.nsid c.c2 c.c3) 4 ++ bytesL c.mt 8 ++ bytesL c.d0 8 ++ bytesL c.d1 8 ++ flatB 4 (w6f c.w0 c.w1 c.w2 c.w3 c.w4 c.w5) 6

end Go.Proofs.Ytiinjjfggmmkmaa
