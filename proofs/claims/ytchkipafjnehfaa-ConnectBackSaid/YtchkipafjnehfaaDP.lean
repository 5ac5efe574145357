/- connect: Decode, the plain law: what is read, and of which commands an entry is the encoding. -/
import Derived.Test.YtchkipafjnehfaaDG
namespace Go.Proofs.Ytchkipafjnehfaa
set_option linter.unusedVariables false
set_option linter.unusedSimpArgs false
open Go.RowKit

theorem le_one (B : Nat → Int) (q : Nat) : le B q 1 = B q := by simp [le]
theorem le_byte {B : Nat → Int} (hB : ∀ j, 0 ≤ B j ∧ B j ≤ 255) (p i : Nat) : ∀ n, i < n → le B p n / 2 ^ (8 * i) % 256 = B (p + i) := by
  intro n
  induction n with
  | zero => intro h; omega
  | succ k ih =>
    intro h
    have hp : (0 : Int) < 2 ^ (8 * i) := Int.pow_pos (by omega)
    unfold le
    by_cases e : i = k
    · subst e
      rw [Int.add_mul_ediv_right _ _ (by omega), Int.ediv_eq_zero_of_lt (le_bd hB p i).1 (le_bd hB p i).2]
      have := hB (p + i)
      omega
    · have e1 : (2 : Int) ^ (8 * k) = 2 ^ (8 * (k - i - 1)) * 256 * 2 ^ (8 * i) := by
        have : 8 * k = 8 * (k - i - 1) + 8 + 8 * i := by omega
        rw [this, Int.pow_add, Int.pow_add]; rfl
      rw [e1, ← Int.mul_assoc, Int.add_mul_ediv_right _ _ (by omega), ← Int.mul_assoc, Int.add_mul_emod_self_right]
      exact ih (by omega)
/-- from the other end -/
theorem le_low (B : Nat → Int) (p : Nat) : ∀ n, le B p (n + 1) = B p + 256 * le B (p + 1) n := by
  intro n
  induction n with
  | zero => simp [le]
  | succ n ih =>
    have e1 : (2 : Int) ^ (8 * (n + 1)) = 256 * 2 ^ (8 * n) := by rw [Nat.mul_add, Int.pow_add, Int.mul_comm]; rfl
    have e2 : le B p (n + 1 + 1) = le B p (n + 1) + B (p + (n + 1)) * 2 ^ (8 * (n + 1)) := rfl
    have e3 : le B (p + 1) (n + 1) = le B (p + 1) n + B (p + 1 + n) * 2 ^ (8 * n) := rfl
    rw [e2, e3, ih, e1, show p + 1 + n = p + (n + 1) from by omega, Int.mul_add, Int.mul_left_comm]
    omega

theorem putF_le {B : Nat → Int} (hB : ∀ j, 0 ≤ B j ∧ B j ≤ 255) (F : Nat → Value) (p n j : Nat) : putF F p n (le B p n) j = if p ≤ j ∧ j < p + n then bB B j else F j := by
  unfold putF
  split
  · rename_i h
    rw [le_byte hB p (j - p) n (by omega), show p + (j - p) = j from by omega]
    rfl
  · rfl

/-- the fields of an entry, as the reference reads them -/
def dF (B : Nat → Int) : Fab :=
  if B 4 = 0 then ⟨B 4, le B 2 2, 0, 0, 0, B 40 == 1, le B 44 4, le B 48 8, 0⟩
  else if B 4 = 1 then ⟨B 4, le B 2 2, le B 42 2, le B 44 2, le B 48 4, false, 0, 0, 0⟩
  else if B 4 = 4 then ⟨B 4, le B 2 2, 0, 0, 0, B 40 == 1, le B 44 4, 0, 0⟩
  else if B 4 = 5 then ⟨B 4, le B 2 2, 0, 0, 0, false, 0, 0, le B 44 4⟩
  else if B 4 = 6 then ⟨B 4, le B 2 2, 0, 0, 0, false, 0, 0, le B 44 4⟩
  else ⟨B 4, le B 2 2, 0, 0, 0, false, 0, 0, 0⟩

theorem dF_ok {B : Nat → Int} (hB : ∀ j, 0 ≤ B j ∧ B j ≤ 255) : (dF B).Ok := by
  have h2 := le2 hB 2
  have h42 := le2 hB 42
  have h44 := le2 hB 44
  have g44 := le4 hB 44
  have g48 := le4 hB 48
  have k48 := le8 hB 48
  have b := hB 4
  unfold dF
  (repeat' split) <;> exact ⟨b, h2, by simp only []; omega, by simp only []; omega, by simp only []; omega, by simp only []; omega, by simp only []; omega, by simp only []; omega⟩

/-- The entry is the command's encoding. -/
def Same (f : Fab) (B : Nat → Int) : Prop := ∀ j, j < 64 → encF f j = bB B j

theorem bB_0 {B : Nat → Int} {j : Nat} : Value.int .u8 0 = bB B j ↔ B j = 0 := by
  unfold bB
  constructor
  · intro h; injection h with _ h; exact h.symm
  · intro h; rw [h]
theorem hd_bB {B : Nat → Int} (hB : ∀ j, 0 ≤ B j ∧ B j ≤ 255) (f : Fab) (hk : f.kind = B 4) (hi : f.id = le B 2 2) (j : Nat) (h : 2 ≤ j) (h5 : j < 5) : hd f 5 j = bB B j := by
  have b2 := hB 2
  have b3 := hB 3
  have e : le B 2 2 = B 2 + B 3 * 256 := by simp [le]
  unfold hd hv bB
  rw [if_pos h5, if_neg (by omega), if_neg (by omega), hk, hi, e]
  match j, h, h5 with
  | 2, _, _ => simp; omega
  | 3, _, _ => simp; omega
  | 4, _, _ => simp
theorem hd_01 (f : Fab) : hd f 5 0 = .int .u8 127 ∧ hd f 5 1 = .int .u8 64 := ⟨rfl, rfl⟩
theorem encF_1 (f : Fab) : encF f 1 = .int .u8 64 := by
  have e : hd f 5 1 = .int .u8 64 := rfl
  unfold encF
  (repeat' split) <;> (repeat rw [putF_off (by omega)]) <;> exact e
theorem Same.b0 {f : Fab} {B : Nat → Int} (h : Same f B) : B 0 = 127 := by
  have := h 0 (by omega)
  rw [encF_0] at this
  unfold bB at this
  injection this with _ h
  exact h.symm
theorem Same.b1 {f : Fab} {B : Nat → Int} (h : Same f B) : B 1 = 64 := by
  have := h 1 (by omega)
  rw [encF_1] at this
  unfold bB at this
  injection this with _ h
  exact h.symm

theorem hd_all {B : Nat → Int} (hB : ∀ j, 0 ≤ B j ∧ B j ≤ 255) (f : Fab) (hk : f.kind = B 4) (hi : f.id = le B 2 2) (b0 : B 0 = 127) (b1 : B 1 = 64) (j : Nat) (h5 : j < 5) : hd f 5 j = bB B j := by
  by_cases h : 2 ≤ j
  · exact hd_bB hB f hk hi j h h5
  · match j with
    | 0 => unfold bB; rw [b0]; rfl
    | 1 => unfold bB; rw [b1]; rfl
    | j + 2 => omega

theorem putF_w {B : Nat → Int} (F : Nat → Value) (b : Bool) (h : b = (B 40 == 1)) (hb : B 40 ≤ 1) (h0 : 0 ≤ B 40) (j : Nat) : putF F 40 1 (if b then 1 else 0) j = if 40 ≤ j ∧ j < 41 then bB B j else F j := by
  unfold putF
  split
  · rename_i hj
    have : j = 40 := by omega
    subst this
    unfold bB
    rw [h]
    by_cases e : B 40 = 1
    · rw [e]; rfl
    · rw [show B 40 = 0 from by omega]; rfl
  · rfl
theorem putF_w40 (F : Nat → Value) (b : Bool) : putF F 40 1 (if b then 1 else 0) 40 = .int .u8 (if b then 1 else 0) := by
  unfold putF
  rw [if_pos (by omega)]
  cases b <;> rfl

theorem wideB_eq (B : Nat → Int) : wideB B = (B 40 == 1) := by unfold wideB; simp [le]

/-- What the program accepts. -/
def Acc (B : Nat → Int) (p : Nat) (C : Prop) (c : Bool) : Prop := C ∧ c = true ∧ Zer B p 64

section
variable {B : Nat → Int} (hB : ∀ j, 0 ≤ B j ∧ B j ≤ 255) (b0 : B 0 = 127) (b1 : B 1 = 64)
include hB b0 b1

theorem same_auth (f : Fab) (hk : f.kind = B 4) (hi : f.id = le B 2 2) (hl : f.length = le B 44 4) (h56 : f.kind = 5 ∨ f.kind = 6) : Same f B ↔ Zer B 5 44 ∧ Zer B 48 64 := by
  have e : ∀ j, encF f j = if 44 ≤ j ∧ j < 48 then bB B j else hd f 5 j := fun j => by
    have e1 : encF f = putF (hd f 5) 44 4 f.length := by
      unfold encF
      rcases h56 with h | h
      · rw [if_neg (by omega), if_neg (by omega), if_neg (by omega), if_pos h]
      · rw [if_neg (by omega), if_neg (by omega), if_neg (by omega), if_neg (by omega), if_pos h]
    rw [e1, hl, putF_le hB]
  constructor
  · intro h
    refine ⟨fun j h1 h2 => ?_, fun j h1 h2 => ?_⟩ <;>
    · have := h j (by omega)
      rw [e, if_neg (by omega), hd_zero _ _ (by omega)] at this
      exact bB_0.1 this
  · rintro ⟨h1, h2⟩ j hj
    rw [e]
    split
    · rfl
    by_cases h5 : j < 5
    · exact hd_all hB f hk hi b0 b1 j h5
    · rw [hd_zero _ _ (by omega)]
      refine bB_0.2 ?_
      by_cases h : j < 44
      · exact h1 j (by omega) h
      · exact h2 j (by omega) hj

theorem same_conn (f : Fab) (hk : f.kind = B 4) (hi : f.id = le B 2 2) (hq : f.queue = le B 42 2) (hs : f.size = le B 44 2) (hp : f.keep = le B 48 4) (h1 : f.kind = 1) : Same f B ↔ Zer B 5 42 ∧ Zer B 46 48 ∧ Zer B 52 64 := by
  have e : ∀ j, encF f j = if 48 ≤ j ∧ j < 52 then bB B j else if 44 ≤ j ∧ j < 46 then bB B j else if 42 ≤ j ∧ j < 44 then bB B j else hd f 5 j := fun j => by
    have e1 : encF f = putF (putF (putF (hd f 5) 42 2 f.queue) 44 2 f.size) 48 4 f.keep := by
      unfold encF
      rw [if_neg (by omega), if_pos h1]
    rw [e1, hq, hs, hp, putF_le hB, putF_le hB, putF_le hB]
  constructor
  · intro h
    refine ⟨fun j h1 h2 => ?_, fun j h1 h2 => ?_, fun j h1 h2 => ?_⟩ <;>
    · have := h j (by omega)
      rw [e, if_neg (by omega), if_neg (by omega), if_neg (by omega), hd_zero _ _ (by omega)] at this
      exact bB_0.1 this
  · rintro ⟨h1, h2, h3⟩ j hj
    rw [e]
    split
    · rfl
    split
    · rfl
    split
    · rfl
    by_cases h5 : j < 5
    · exact hd_all hB f hk hi b0 b1 j h5
    · rw [hd_zero _ _ (by omega)]
      refine bB_0.2 ?_
      by_cases h : j < 42
      · exact h1 j (by omega) h
      by_cases h : j < 48
      · exact h2 j (by omega) h
      · exact h3 j (by omega) hj

theorem same_disc (f : Fab) (hk : f.kind = B 4) (hi : f.id = le B 2 2) (h8 : f.kind = 8) : Same f B ↔ Zer B 5 64 := by
  have e : encF f = hd f 5 := by
    unfold encF
    rw [if_neg (by omega), if_neg (by omega), if_neg (by omega), if_neg (by omega), if_neg (by omega)]
  constructor
  · intro h j h1 h2
    have := h j (by omega)
    rw [e, hd_zero _ _ (by omega)] at this
    exact bB_0.1 this
  · intro h j hj
    rw [e]
    by_cases h5 : j < 5
    · exact hd_all hB f hk hi b0 b1 j h5
    · rw [hd_zero _ _ (by omega)]
      exact bB_0.2 (h j (by omega) hj)

theorem same_prop (f : Fab) (hk : f.kind = B 4) (hi : f.id = le B 2 2) (hw : f.wide = (B 40 == 1)) (ho : f.offset = le B 44 4) (h4 : f.kind = 4) : Same f B ↔ (Zer B 5 40 ∧ B 40 ≤ 1) ∧ Zer B 41 44 ∧ Zer B 48 64 := by
  have e : ∀ j, encF f j = if 44 ≤ j ∧ j < 48 then bB B j else putF (hd f 5) 40 1 (if f.wide then 1 else 0) j := fun j => by
    have e1 : encF f = putF (putF (hd f 5) 40 1 (wv f)) 44 4 f.offset := by
      unfold encF
      rw [if_neg (by omega), if_neg (by omega), if_pos h4]
    rw [e1, ho, putF_le hB]
    rfl
  have hb := hB 40
  constructor
  · intro h
    refine ⟨⟨fun j h1 h2 => ?_, ?_⟩, fun j h1 h2 => ?_, fun j h1 h2 => ?_⟩
    · have := h j (by omega)
      rw [e, if_neg (by omega), putF_off (by omega), hd_zero _ _ (by omega)] at this
      exact bB_0.1 this
    · have := h 40 (by omega)
      rw [e, if_neg (by omega), putF_w40] at this
      unfold bB at this
      injection this with _ h
      rw [← h]
      split <;> omega
    · have := h j (by omega)
      rw [e, if_neg (by omega), putF_off (by omega), hd_zero _ _ (by omega)] at this
      exact bB_0.1 this
    · have := h j (by omega)
      rw [e, if_neg (by omega), putF_off (by omega), hd_zero _ _ (by omega)] at this
      exact bB_0.1 this
  · rintro ⟨⟨h1, h2⟩, h3, h6⟩ j hj
    rw [e, putF_w _ _ hw h2 hb.1]
    split
    · rfl
    split
    · rfl
    by_cases h5 : j < 5
    · exact hd_all hB f hk hi b0 b1 j h5
    · rw [hd_zero _ _ (by omega)]
      refine bB_0.2 ?_
      by_cases h : j < 40
      · exact h1 j (by omega) h
      by_cases h : j < 44
      · exact h3 j (by omega) h
      · exact h6 j (by omega) hj

theorem same_set (f : Fab) (hk : f.kind = B 4) (hi : f.id = le B 2 2) (hw : f.wide = (B 40 == 1)) (ho : f.offset = le B 44 4) (hv : f.value = le B 48 8) (h4 : f.kind = 0) : Same f B ↔ (Zer B 5 40 ∧ B 40 ≤ 1) ∧ Zer B 41 44 ∧ Zer B 56 64 := by
  have e : ∀ j, encF f j = if 48 ≤ j ∧ j < 56 then bB B j else if 44 ≤ j ∧ j < 48 then bB B j else putF (hd f 5) 40 1 (if f.wide then 1 else 0) j := fun j => by
    have e1 : encF f = putF (putF (putF (hd f 5) 40 1 (wv f)) 44 4 f.offset) 48 8 f.value := by
      unfold encF
      rw [if_pos h4]
    rw [e1, ho, hv, putF_le hB, putF_le hB]
    rfl
  have hb := hB 40
  constructor
  · intro h
    refine ⟨⟨fun j h1 h2 => ?_, ?_⟩, fun j h1 h2 => ?_, fun j h1 h2 => ?_⟩
    · have := h j (by omega)
      rw [e, if_neg (by omega), if_neg (by omega), putF_off (by omega), hd_zero _ _ (by omega)] at this
      exact bB_0.1 this
    · have := h 40 (by omega)
      rw [e, if_neg (by omega), if_neg (by omega), putF_w40] at this
      unfold bB at this
      injection this with _ h
      rw [← h]
      split <;> omega
    · have := h j (by omega)
      rw [e, if_neg (by omega), if_neg (by omega), putF_off (by omega), hd_zero _ _ (by omega)] at this
      exact bB_0.1 this
    · have := h j (by omega)
      rw [e, if_neg (by omega), if_neg (by omega), putF_off (by omega), hd_zero _ _ (by omega)] at this
      exact bB_0.1 this
  · rintro ⟨⟨h1, h2⟩, h3, h6⟩ j hj
    rw [e, putF_w _ _ hw h2 hb.1]
    split
    · rfl
    split
    · rfl
    split
    · rfl
    by_cases h5 : j < 5
    · exact hd_all hB f hk hi b0 b1 j h5
    · rw [hd_zero _ _ (by omega)]
      refine bB_0.2 ?_
      by_cases h : j < 40
      · exact h1 j (by omega) h
      by_cases h : j < 44
      · exact h3 j (by omega) h
      · exact h6 j (by omega) hj

theorem acc_auth (h56 : B 4 = 5 ∨ B 4 = 6) : Acc B 48 (Zer B 5 44) (vAuth ⟨B 4, le B 2 2, 0, 0, 0, false, 0, 0, le B 44 4⟩) ↔ vld (dF B) = true ∧ Same (dF B) B := by
  have ed : dF B = ⟨B 4, le B 2 2, 0, 0, 0, false, 0, 0, le B 44 4⟩ := by
    unfold dF
    rcases h56 with h | h
    · rw [if_neg (by omega), if_neg (by omega), if_neg (by omega), if_pos h]
    · rw [if_neg (by omega), if_neg (by omega), if_neg (by omega), if_neg (by omega), if_pos h]
  rw [ed, same_auth hB b0 b1 _ rfl rfl rfl h56]
  have ev : vld ⟨B 4, le B 2 2, 0, 0, 0, false, 0, 0, le B 44 4⟩ = vAuth ⟨B 4, le B 2 2, 0, 0, 0, false, 0, 0, le B 44 4⟩ := by
    unfold vld Fab.unused feq
    simp only []
    rcases h56 with h | h
    · simp [h]
    · simp [h]
  rw [ev]
  unfold Acc
  constructor
  · rintro ⟨h1, h2, h3⟩; exact ⟨h2, h1, h3⟩
  · rintro ⟨h2, h1, h3⟩; exact ⟨h1, h2, h3⟩
theorem acc_conn (h1 : B 4 = 1) : Acc B 52 (Zer B 5 42 ∧ Zer B 46 48) (vConn ⟨B 4, le B 2 2, le B 42 2, le B 44 2, le B 48 4, false, 0, 0, 0⟩) ↔ vld (dF B) = true ∧ Same (dF B) B := by
  have ed : dF B = ⟨B 4, le B 2 2, le B 42 2, le B 44 2, le B 48 4, false, 0, 0, 0⟩ := by
    unfold dF
    rw [if_neg (by omega), if_pos h1]
  rw [ed, same_conn hB b0 b1 _ rfl rfl rfl rfl rfl h1]
  have ev : vld ⟨B 4, le B 2 2, le B 42 2, le B 44 2, le B 48 4, false, 0, 0, 0⟩ = vConn ⟨B 4, le B 2 2, le B 42 2, le B 44 2, le B 48 4, false, 0, 0, 0⟩ := by
    unfold vld Fab.unused feq
    simp [h1]
  rw [ev]
  unfold Acc
  constructor
  · rintro ⟨⟨h1, h4⟩, h2, h3⟩; exact ⟨h2, h1, h4, h3⟩
  · rintro ⟨h2, h1, h4, h3⟩; exact ⟨⟨h1, h4⟩, h2, h3⟩
theorem acc_disc (h8 : B 4 = 8) : Acc B 5 True true ↔ vld (dF B) = true ∧ Same (dF B) B := by
  have ed : dF B = ⟨B 4, le B 2 2, 0, 0, 0, false, 0, 0, 0⟩ := by
    unfold dF
    rw [if_neg (by omega), if_neg (by omega), if_neg (by omega), if_neg (by omega), if_neg (by omega)]
  rw [ed, same_disc hB b0 b1 _ rfl rfl h8]
  have ev : vld ⟨B 4, le B 2 2, 0, 0, 0, false, 0, 0, 0⟩ = true := by
    unfold vld Fab.unused feq
    simp [h8]
  rw [ev]
  unfold Acc
  simp
theorem acc_prop (h4 : B 4 = 4) : Acc B 48 (PropC B (B 4) (le B 2 2)) (alg ⟨B 4, le B 2 2, 0, 0, 0, wideB B, le B 44 4, 0, 0⟩) ↔ vld (dF B) = true ∧ Same (dF B) B := by
  have ed : dF B = ⟨B 4, le B 2 2, 0, 0, 0, B 40 == 1, le B 44 4, 0, 0⟩ := by
    unfold dF
    rw [if_neg (by omega), if_neg (by omega), if_pos h4]
  have ew := wideB_eq B
  rw [ed, same_prop hB b0 b1 _ rfl rfl rfl rfl h4]
  have ev : vld ⟨B 4, le B 2 2, 0, 0, 0, B 40 == 1, le B 44 4, 0, 0⟩ = alg ⟨B 4, le B 2 2, 0, 0, 0, B 40 == 1, le B 44 4, 0, 0⟩ := by
    unfold vld Fab.unused feq
    simp [h4]
  rw [ev]
  unfold Acc PropC WideC
  rw [ew, le_one]
  constructor
  · rintro ⟨⟨⟨h1, h2⟩, h3, h5⟩, h6, h7⟩; exact ⟨h6, ⟨h1, h2⟩, h3, h7⟩
  · rintro ⟨h6, ⟨h1, h2⟩, h3, h7⟩; exact ⟨⟨⟨h1, h2⟩, h3, h6⟩, h6, h7⟩
theorem acc_set (h0 : B 4 = 0) : Acc B 56 (PropC B (B 4) (le B 2 2)) (vSet ⟨B 4, le B 2 2, 0, 0, 0, wideB B, le B 44 4, le B 48 8, 0⟩) ↔ vld (dF B) = true ∧ Same (dF B) B := by
  have ed : dF B = ⟨B 4, le B 2 2, 0, 0, 0, B 40 == 1, le B 44 4, le B 48 8, 0⟩ := by
    unfold dF
    rw [if_pos h0]
  have ew := wideB_eq B
  rw [ed, same_set hB b0 b1 _ rfl rfl rfl rfl rfl h0]
  have ev : vld ⟨B 4, le B 2 2, 0, 0, 0, B 40 == 1, le B 44 4, le B 48 8, 0⟩ = vSet ⟨B 4, le B 2 2, 0, 0, 0, B 40 == 1, le B 44 4, le B 48 8, 0⟩ := by
    unfold vld Fab.unused feq
    simp [h0]
  rw [ev]
  unfold Acc PropC WideC
  rw [ew, le_one]
  have ha : vSet ⟨B 4, le B 2 2, 0, 0, 0, B 40 == 1, le B 44 4, le B 48 8, 0⟩ = true → alg ⟨B 4, le B 2 2, 0, 0, 0, B 40 == 1, le B 44 4, 0, 0⟩ = true := by
    unfold vSet
    simp only [Bool.and_eq_true]
    rintro ⟨h, -⟩
    exact h
  constructor
  · rintro ⟨⟨⟨h1, h2⟩, h3, h5⟩, h6, h7⟩; exact ⟨h6, ⟨h1, h2⟩, h3, h7⟩
  · rintro ⟨h6, ⟨h1, h2⟩, h3, h7⟩; exact ⟨⟨⟨h1, h2⟩, h3, ha h6⟩, h6, h7⟩
end

theorem vld_none {B : Nat → Int} (h0 : B 4 ≠ 0) (h1 : B 4 ≠ 1) (h4 : B 4 ≠ 4) (h5 : B 4 ≠ 5) (h6 : B 4 ≠ 6) (h8 : B 4 ≠ 8) : vld (dF B) = false := by
  have ed : (dF B).kind = B 4 := by unfold dF; (repeat' split) <;> rfl
  unfold vld
  rw [ed, if_neg h0, if_neg h1, if_neg h4, if_neg h5, if_neg h6, if_neg h8]
end Go.Proofs.Ytchkipafjnehfaa
