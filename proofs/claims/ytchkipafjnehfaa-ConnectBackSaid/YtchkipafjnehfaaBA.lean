/- connect: what was encoded is decoded: the plain law. -/
import Derived.Test.YtchkipafjnehfaaDI
namespace Go.Proofs.Ytchkipafjnehfaa
set_option linter.unusedVariables false
set_option linter.unusedSimpArgs false
open Go.RowKit

/-- the bytes of the encoding -/
def nbE (f : Fab) (j : Nat) : Int := nb (encF f j)
theorem nbE_bd {f : Fab} (hok : f.Ok) (j : Nat) : 0 ≤ nbE f j ∧ nbE f j ≤ 255 := by
  have hh : ∀ k, 0 ≤ nb (hd f 5 k) ∧ nb (hd f 5 k) ≤ 255 := fun k => by
    unfold hd
    split
    · exact hv_bd hok k
    · exact ⟨Int.le_refl 0, show (0 : Int) ≤ 255 by omega⟩
  have hp : ∀ (F : Nat → Value) p n v, (∀ k, 0 ≤ nb (F k) ∧ nb (F k) ≤ 255) → ∀ k, 0 ≤ nb (putF F p n v k) ∧ nb (putF F p n v k) ≤ 255 := fun F p n v h k => by
    unfold putF
    split
    · show 0 ≤ v / 2 ^ (8 * (k - p)) % 256 ∧ v / 2 ^ (8 * (k - p)) % 256 ≤ 255
      omega
    · exact h k
  unfold nbE encF
  (repeat' split) <;> first | exact hp _ _ _ _ (hp _ _ _ _ (hp _ _ _ _ hh)) j | exact hp _ _ _ _ (hp _ _ _ _ hh) j | exact hp _ _ _ _ hh j | exact hh j

theorem mod_step (v : Int) (k : Nat) : v % 2 ^ (8 * k) + v / 2 ^ (8 * k) % 256 * 2 ^ (8 * k) = v % 2 ^ (8 * (k + 1)) := by
  have e : (2 : Int) ^ (8 * (k + 1)) = 2 ^ (8 * k) * 256 := by rw [Nat.mul_add, Int.pow_add]; rfl
  have hp : (0 : Int) < 2 ^ (8 * k) := Int.pow_pos (by omega)
  rw [e]
  generalize (2 : Int) ^ (8 * k) = m at *
  have h1 := Int.mul_ediv_add_emod v m
  have h2 := Int.mul_ediv_add_emod (v / m) 256
  have h3 := Int.emod_nonneg v (show m ≠ 0 by omega)
  have h4 := Int.emod_lt_of_pos v hp
  have h5 : 0 ≤ v / m % 256 ∧ v / m % 256 ≤ 255 := by omega
  have hx : v % m + v / m % 256 * m < m * 256 := by
    have : v / m % 256 * m ≤ 255 * m := Int.mul_le_mul_of_nonneg_right h5.2 (by omega)
    omega
  have hx0 : 0 ≤ v % m + v / m % 256 * m := by
    have : 0 ≤ v / m % 256 * m := Int.mul_nonneg h5.1 (by omega)
    omega
  have hv : v = (v % m + v / m % 256 * m) + m * 256 * (v / m / 256) := by
    have h6 : m * (v / m) = m * (256 * (v / m / 256)) + m * (v / m % 256) := by rw [← Int.mul_add, h2]
    rw [Int.mul_comm (v / m % 256) m, Int.mul_assoc]
    omega
  rw [show v % (m * 256) = ((v % m + v / m % 256 * m) + m * 256 * (v / m / 256)) % (m * 256) by rw [← hv]]
  rw [Int.add_mul_emod_self_left, Int.emod_eq_of_lt hx0 hx]

theorem le_put (F : Nat → Value) (p n : Nat) (v : Int) : ∀ k, k ≤ n → le (fun j => nb (putF F p n v j)) p k = v % 2 ^ (8 * k)
  | 0, _ => by simp [le]
  | k + 1, h => by
    unfold le
    rw [le_put F p n v k (by omega), ← mod_step]
    have e : nb (putF F p n v (p + k)) = v / 2 ^ (8 * k) % 256 := by
      unfold putF
      rw [if_pos (by omega), Nat.add_sub_cancel_left]
      rfl
    show v % 2 ^ (8 * k) + nb (putF F p n v (p + k)) * 2 ^ (8 * k) = _
    rw [e]
theorem le_put' (F : Nat → Value) (p n : Nat) (v : Int) (h0 : 0 ≤ v) (h1 : v < 2 ^ (8 * n)) : le (fun j => nb (putF F p n v j)) p n = v := by
  rw [le_put F p n v n (Nat.le_refl _), Int.emod_eq_of_lt h0 h1]
theorem le_congr {A B : Nat → Int} (p : Nat) : ∀ n, (∀ i, i < n → A (p + i) = B (p + i)) → le A p n = le B p n
  | 0, _ => rfl
  | n + 1, h => by
    unfold le
    rw [le_congr p n (fun i hi => h i (by omega)), h n (by omega)]
theorem le_off (F : Nat → Value) (p' n' : Nat) (v : Int) (p n : Nat) (h : p + n ≤ p' ∨ p' + n' ≤ p) : le (fun j => nb (putF F p' n' v j)) p n = le (fun j => nb (F j)) p n :=
  le_congr p n fun i hi => by
    show nb (putF F p' n' v (p + i)) = nb (F (p + i))
    rw [putF_off (by omega)]
theorem le_hd {f : Fab} (hok : f.Ok) : le (fun j => nb (hd f 5 j)) 2 2 = f.id := by
  have := hok.id
  show (0 + f.id % 256 * 2 ^ (8 * 0)) + f.id / 256 * 2 ^ (8 * 1) = f.id
  simp
  omega

theorem pow2 : (2 : Int) ^ (8 * 2) = 65536 := rfl
theorem pow4 : (2 : Int) ^ (8 * 4) = 4294967296 := rfl
theorem pow8 : (2 : Int) ^ (8 * 8) = 18446744073709551616 := rfl

set_option maxHeartbeats 2000000 in
theorem back_fab {f : Fab} (hok : f.Ok) (hv : vld f = true) : dF (nbE f) = f := by
  have h1 := hok.queue
  have h2 := hok.size
  have h3 := hok.keep
  have h4 := hok.offset
  have h5 := hok.value
  have h6 := hok.length
  have hid := le_hd hok
  have hk4 : nb (hd f 5 4) = f.kind := rfl
  have hk := vld_kind hv
  unfold vld at hv
  rcases hk with h | h | h | h | h | h
  · have eE : encF f = putF (putF (putF (hd f 5) 40 1 (wv f)) 44 4 f.offset) 48 8 f.value := by unfold encF; rw [if_pos h]
    have e4 : nbE f 4 = f.kind := by unfold nbE; rw [eE, putF_off (by omega), putF_off (by omega), putF_off (by omega)]; rfl
    have eN : nbE f = fun j => nb (putF (putF (putF (hd f 5) 40 1 (wv f)) 44 4 f.offset) 48 8 f.value j) := by unfold nbE; rw [eE]
    have e40 : (nbE f 40 == 1) = f.wide := by
      unfold nbE
      rw [eE, putF_off (by omega), putF_off (by omega)]
      show (wv f / 2 ^ (8 * (40 - 40)) % 256 == 1) = f.wide
      unfold wv
      cases f.wide <;> rfl
    rw [if_pos h] at hv
    unfold dF
    rw [e4, if_pos h, e40, eN, le_off _ _ _ _ _ _ (by omega), le_off _ _ _ _ _ _ (by omega), le_off _ _ _ _ _ _ (by omega), hid, le_off _ 48 8 _ 44 4 (by omega), le_put' _ _ _ _ h4.1 (by rw [pow4]; omega), le_put' _ _ _ _ h5.1 (by rw [pow8]; omega)]
    obtain ⟨kind, id, queue, size, keep, wide, offset, value, length⟩ := f
    simp only [] at *
    subst h
    unfold Fab.unused feq at hv
    simp at hv
    simp [hv]
  · have eE : encF f = putF (putF (putF (hd f 5) 42 2 f.queue) 44 2 f.size) 48 4 f.keep := by unfold encF; rw [if_neg (by omega), if_pos h]
    have e4 : nbE f 4 = f.kind := by unfold nbE; rw [eE, putF_off (by omega), putF_off (by omega), putF_off (by omega)]; rfl
    have eN : nbE f = fun j => nb (putF (putF (putF (hd f 5) 42 2 f.queue) 44 2 f.size) 48 4 f.keep j) := by unfold nbE; rw [eE]
    rw [if_neg (by omega), if_pos h] at hv
    unfold dF
    rw [e4, if_neg (by omega), if_pos h, eN, le_off _ _ _ _ 2 2 (by omega), le_off _ _ _ _ 2 2 (by omega), le_off _ _ _ _ 2 2 (by omega), hid, le_off _ 48 4 _ 42 2 (by omega), le_off _ 44 2 _ 42 2 (by omega), le_put' _ _ _ _ h1.1 (by rw [pow2]; omega),
      le_off _ 48 4 _ 44 2 (by omega), le_put' _ _ _ _ h2.1 (by rw [pow2]; omega), le_put' _ _ _ _ h3.1 (by rw [pow4]; omega)]
    obtain ⟨kind, id, queue, size, keep, wide, offset, value, length⟩ := f
    simp only [] at *
    subst h
    unfold Fab.unused feq at hv
    simp at hv
    simp [hv]
  · have eE : encF f = putF (putF (hd f 5) 40 1 (wv f)) 44 4 f.offset := by unfold encF; rw [if_neg (by omega), if_neg (by omega), if_pos h]
    have e4 : nbE f 4 = f.kind := by unfold nbE; rw [eE, putF_off (by omega), putF_off (by omega)]; rfl
    have eN : nbE f = fun j => nb (putF (putF (hd f 5) 40 1 (wv f)) 44 4 f.offset j) := by unfold nbE; rw [eE]
    have e40 : (nbE f 40 == 1) = f.wide := by
      unfold nbE
      rw [eE, putF_off (by omega)]
      show (wv f / 2 ^ (8 * (40 - 40)) % 256 == 1) = f.wide
      unfold wv
      cases f.wide <;> rfl
    rw [if_neg (by omega), if_neg (by omega), if_pos h] at hv
    unfold dF
    rw [e4, if_neg (by omega), if_neg (by omega), if_pos h, e40, eN, le_off _ _ _ _ 2 2 (by omega), le_off _ _ _ _ 2 2 (by omega), hid, le_put' _ _ _ _ h4.1 (by rw [pow4]; omega)]
    obtain ⟨kind, id, queue, size, keep, wide, offset, value, length⟩ := f
    simp only [] at *
    subst h
    unfold Fab.unused feq at hv
    simp at hv
    simp [hv]
  · have eE : encF f = putF (hd f 5) 44 4 f.length := by unfold encF; rw [if_neg (by omega), if_neg (by omega), if_neg (by omega), if_pos h]
    have e4 : nbE f 4 = f.kind := by unfold nbE; rw [eE, putF_off (by omega)]; rfl
    have eN : nbE f = fun j => nb (putF (hd f 5) 44 4 f.length j) := by unfold nbE; rw [eE]
    rw [if_neg (by omega), if_neg (by omega), if_neg (by omega), if_pos h] at hv
    unfold dF
    rw [e4, if_neg (by omega), if_neg (by omega), if_neg (by omega), if_pos h, eN, le_off _ _ _ _ 2 2 (by omega), hid, le_put' _ _ _ _ h6.1 (by rw [pow4]; omega)]
    obtain ⟨kind, id, queue, size, keep, wide, offset, value, length⟩ := f
    simp only [] at *
    subst h
    unfold Fab.unused feq at hv
    simp at hv
    simp [hv]
  · have eE : encF f = putF (hd f 5) 44 4 f.length := by unfold encF; rw [if_neg (by omega), if_neg (by omega), if_neg (by omega), if_neg (by omega), if_pos h]
    have e4 : nbE f 4 = f.kind := by unfold nbE; rw [eE, putF_off (by omega)]; rfl
    have eN : nbE f = fun j => nb (putF (hd f 5) 44 4 f.length j) := by unfold nbE; rw [eE]
    rw [if_neg (by omega), if_neg (by omega), if_neg (by omega), if_neg (by omega), if_pos h] at hv
    unfold dF
    rw [e4, if_neg (by omega), if_neg (by omega), if_neg (by omega), if_neg (by omega), if_pos h, eN, le_off _ _ _ _ 2 2 (by omega), hid, le_put' _ _ _ _ h6.1 (by rw [pow4]; omega)]
    obtain ⟨kind, id, queue, size, keep, wide, offset, value, length⟩ := f
    simp only [] at *
    subst h
    unfold Fab.unused feq at hv
    simp at hv
    simp [hv]
  · have eE : encF f = hd f 5 := by unfold encF; rw [if_neg (by omega), if_neg (by omega), if_neg (by omega), if_neg (by omega), if_neg (by omega)]
    have e4 : nbE f 4 = f.kind := by unfold nbE; rw [eE]; rfl
    have eN : nbE f = fun j => nb (hd f 5 j) := by unfold nbE; rw [eE]
    rw [if_neg (by omega), if_neg (by omega), if_neg (by omega), if_neg (by omega), if_neg (by omega), if_pos h] at hv
    unfold dF
    rw [e4, if_neg (by omega), if_neg (by omega), if_neg (by omega), if_neg (by omega), if_neg (by omega), eN, hid]
    obtain ⟨kind, id, queue, size, keep, wide, offset, value, length⟩ := f
    simp only [] at *
    subst h
    unfold Fab.unused feq at hv
    simp at hv
    simp [hv]

theorem same_nbE (f : Fab) : Same f (nbE f) := fun j _ => encF_bytes f j
end Go.Proofs.Ytchkipafjnehfaa
