/- completion: Encode, the walk. -/
import Derived.Test.YtggdjadhenamiaaCpl
import Derived.Test.YtggdjadhenamiaaR2
namespace Go.Proofs.Ytggdjadhenamiaa
set_option linter.unusedVariables false
set_option linter.unusedSimpArgs false
open Go.RowKit

/-- the fields of an entry, and their sizes -/
def pvs (c : Cpl) : Nat → Int
  | 0 => c.r0
  | 1 => c.r1
  | 2 => c.head
  | 3 => c.queue
  | 4 => c.id
  | 5 => sword c
  | _ => 0
def pns (i : Nat) : Nat := if i < 2 then 4 else 2
theorem pns_bd (i : Nat) : 1 ≤ pns i ∧ pns i ≤ 8 := by unfold pns; split <;> omega
theorem sword_bd (c : Cpl) (h : c.Ok) (ht : c.ty ≤ 7) : 0 ≤ sword c ∧ sword c ≤ 65535 := by
  have h1 := h.ty
  have h2 := h.code
  have b1 := bv_bd c.ph 1 (by omega)
  have b2 := bv_bd c.more 16384 (by omega)
  have b3 := bv_bd c.never 32768 (by omega)
  unfold sword
  omega
theorem pvs_bd (c : Cpl) (h : c.Ok) (ht : c.ty ≤ 7) (i : Nat) : 0 ≤ pvs c i ∧ pvs c i ≤ 18446744073709551615 ∧ (pns i = 8 ∨ (pns i < 8 ∧ pvs c i / 2 ^ (8 * pns i) = 0)) := by
  have h0 := h.r0
  have h1 := h.r1
  have h2 := h.head
  have h3 := h.queue
  have h4 := h.id
  have h5 := sword_bd c h ht
  have e4 : (2 : Int) ^ (8 * 4) = 4294967296 := rfl
  have e2 : (2 : Int) ^ (8 * 2) = 65536 := rfl
  have p0 : pns 0 = 4 := rfl
  have p1 : pns 1 = 4 := rfl
  have p2 : ∀ i, 2 ≤ i → pns i = 2 := fun i hi => by unfold pns; rw [if_neg (by omega)]
  unfold pvs
  split
  · rw [p0, e4]; exact ⟨by omega, by omega, .inr ⟨by omega, by omega⟩⟩
  · rw [p1, e4]; exact ⟨by omega, by omega, .inr ⟨by omega, by omega⟩⟩
  · rw [p2 _ (by omega), e2]; exact ⟨by omega, by omega, .inr ⟨by omega, by omega⟩⟩
  · rw [p2 _ (by omega), e2]; exact ⟨by omega, by omega, .inr ⟨by omega, by omega⟩⟩
  · rw [p2 _ (by omega), e2]; exact ⟨by omega, by omega, .inr ⟨by omega, by omega⟩⟩
  · rw [p2 _ (by omega), e2]; exact ⟨by omega, by omega, .inr ⟨by omega, by omega⟩⟩
  · rename_i x hx0 hx1 hx2 hx3 hx4 hx5
    rw [p2 _ (by have q0 : i ≠ 0 := hx0; have q1 : i ≠ 1 := hx1; omega), e2]
    exact ⟨by omega, by omega, .inr ⟨by omega, by omega⟩⟩

/-- the bytes of an entry -/
def cplB (c : Cpl) (j : Nat) : Int :=
  if j < 4 then byteOf c.r0 j else if j < 8 then byteOf c.r1 (j - 4) else if j < 10 then byteOf c.head (j - 8) else if j < 12 then byteOf c.queue (j - 10) else if j < 14 then byteOf c.id (j - 12) else byteOf (sword c) (j - 14)
/-- the entry of a completion as a value -/
def cplA (c : Cpl) : Value := .agg (arr 16 fun j => .int .u8 (cplB c j))

theorem flatV_six (c : Cpl) : flatV (pvs c) pns 6 = bytesL c.r0 4 ++ bytesL c.r1 4 ++ bytesL c.head 2 ++ bytesL c.queue 2 ++ bytesL c.id 2 ++ bytesL (sword c) 2 := rfl
theorem flatV_six_len (c : Cpl) : (flatV (pvs c) pns 6).length = 16 := by rw [flatV_six]; simp [bytesL_length]
theorem flatV_six_get (c : Cpl) (j : Nat) (hj : j < 16) : (flatV (pvs c) pns 6).getD j undef = .int .u8 (cplB c j) := by
  rw [flatV_six]
  match j, hj with
  | 0, _ => exact rfl
  | 1, _ => exact rfl
  | 2, _ => exact rfl
  | 3, _ => exact rfl
  | 4, _ => exact rfl
  | 5, _ => exact rfl
  | 6, _ => exact rfl
  | 7, _ => exact rfl
  | 8, _ => exact rfl
  | 9, _ => exact rfl
  | 10, _ => exact rfl
  | 11, _ => exact rfl
  | 12, _ => exact rfl
  | 13, _ => exact rfl
  | 14, _ => exact rfl
  | 15, _ => exact rfl
  | n + 16, h => exact absurd h (by omega)

end Go.Proofs.Ytggdjadhenamiaa
