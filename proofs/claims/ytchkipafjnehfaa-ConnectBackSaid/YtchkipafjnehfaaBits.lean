/- Facts on bits: what the result of a Connect is made of. -/
import Derived.Test.YtchkipafjnehfaaLib
import Derived.Laws.BitsAllLaws
namespace Go.Proofs.Ytchkipafjnehfaa
set_option linter.unusedVariables false
set_option linter.unusedSimpArgs false
open Go.RowKit

theorem or_auth (c : Int) (h0 : 0 ≤ c) (h1 : c < 65536) : bits .or .u32 c 131072 = c + 131072 := by
  rw [u32_or c 131072 h0 (by omega) (by omega) (by omega)]
  have e := Nat.two_pow_add_eq_or_of_lt (i := 17) (b := c.toNat) (by omega) 1
  have e2 : c.toNat ||| (131072 : Int).toNat = 131072 + c.toNat := by
    rw [Nat.or_comm]; exact e.symm
  rw [e2]; omega

theorem nat_andnot_auth (v : Nat) (h : v < 4294967296) : (v &&& 4294770688 = 0) ↔ (v < 262144 ∧ v / 65536 % 2 = 0) := by
  have e1 : (v &&& 4294770688) / 2 ^ 18 = (v / 2 ^ 18) &&& (4294770688 / 2 ^ 18) := Nat.and_div_two_pow
  have e2 : (v &&& 4294770688) % 2 ^ 18 = (v % 2 ^ 18) &&& (4294770688 % 2 ^ 18) := Nat.and_mod_two_pow
  have e3 : (v / 2 ^ 18) &&& (4294770688 / 2 ^ 18) = v / 2 ^ 18 := by
    have := Nat.and_two_pow_sub_one_eq_mod (v / 2 ^ 18) 14
    rw [show 4294770688 / 2 ^ 18 = 2 ^ 14 - 1 from rfl, this]; omega
  have e4 : (v % 2 ^ 18) &&& (4294770688 % 2 ^ 18) = (v / 65536 % 2) * 65536 := by
    have a1 : ((v % 2 ^ 18) &&& 65536) / 2 ^ 16 = (v % 2 ^ 18 / 2 ^ 16) &&& (65536 / 2 ^ 16) := Nat.and_div_two_pow
    have a2 : ((v % 2 ^ 18) &&& 65536) % 2 ^ 16 = (v % 2 ^ 18 % 2 ^ 16) &&& (65536 % 2 ^ 16) := Nat.and_mod_two_pow
    have a3 : (v % 2 ^ 18 / 2 ^ 16) &&& (65536 / 2 ^ 16) = v % 2 ^ 18 / 2 ^ 16 % 2 := by
      have := Nat.and_two_pow_sub_one_eq_mod (v % 2 ^ 18 / 2 ^ 16) 1
      rw [show 65536 / 2 ^ 16 = 2 ^ 1 - 1 from rfl, this]
    have a4 : (v % 2 ^ 18 % 2 ^ 16) &&& (65536 % 2 ^ 16) = 0 := by
      rw [show 65536 % 2 ^ 16 = 0 from rfl, Nat.and_zero]
    rw [show 4294770688 % 2 ^ 18 = 65536 from rfl]
    rw [a3] at a1; rw [a4] at a2
    generalize (v % 2 ^ 18) &&& 65536 = x at *
    omega
  rw [e3] at e1; rw [e4] at e2
  generalize v &&& 4294770688 = x at *
  omega

theorem andnot_auth (v : Int) (h0 : 0 ≤ v) (h1 : v < 4294967296) : bits .andNot .u32 v 196607 = ((v.toNat &&& 4294770688 : Nat) : Int) := by
  rw [u32_andNot v 196607 h0 (by omega) (by omega) (by omega)]
  rfl

theorem and_auth (v : Int) (h0 : 0 ≤ v) (h1 : v < 4294967296) : bits .and .u32 v 131072 = (v / 131072 % 2) * 131072 := by
  rw [u32_and v 131072 h0 (by omega) (by omega) (by omega)]
  have a1 : (v.toNat &&& 131072) / 2 ^ 17 = (v.toNat / 2 ^ 17) &&& (131072 / 2 ^ 17) := Nat.and_div_two_pow
  have a2 : (v.toNat &&& 131072) % 2 ^ 17 = (v.toNat % 2 ^ 17) &&& (131072 % 2 ^ 17) := Nat.and_mod_two_pow
  rw [show 131072 % 2 ^ 17 = 0 from rfl, Nat.and_zero] at a2
  have a3 := Nat.and_two_pow_sub_one_eq_mod (v.toNat / 2 ^ 17) 1
  rw [show 131072 / 2 ^ 17 = 2 ^ 1 - 1 from rfl, a3] at a1
  rw [show (131072 : Int).toNat = 131072 from rfl]
  generalize v.toNat &&& 131072 = x at *
  omega
end Go.Proofs.Ytchkipafjnehfaa
