/- command: the reference's Encode; both write the same bytes. -/
import Derived.Test.YtiinjjfggmmkmaaCmd
namespace Go.Proofs.Ytiinjjfggmmkmaa
set_option linter.unusedVariables false
set_option linter.unusedSimpArgs false
open Go.RowKit

/-- the words of an entry but the first -/
def dw (c : Cmd) : Nat → Int
  | 0 => c.nsid
  | 1 => c.c2
  | 2 => c.c3
  | 3 => c.mt % 4294967296
  | 4 => c.mt / 4294967296
  | 5 => c.d0 % 4294967296
  | 6 => c.d0 / 4294967296
  | 7 => c.d1 % 4294967296
  | 8 => c.d1 / 4294967296
  | 9 => c.w0
  | 10 => c.w1
  | 11 => c.w2
  | 12 => c.w3
  | 13 => c.w4
  | 14 => c.w5
  | _ => 0
theorem dw_bd (c : Cmd) (h : c.Ok) (i : Nat) : 0 ≤ dw c i ∧ dw c i ≤ 4294967295 := by
  have h1 := h.mt
  have h2 := h.d0
  have h3 := h.d1
  unfold dw
  split <;> first | exact h.nsid | exact h.c2 | exact h.c3 | exact h.w0 | exact h.w1 | exact h.w2 | exact h.w3 | exact h.w4 | exact h.w5 | omega

/-- the first four bytes -/
def hb4 (c : Cmd) (j : Nat) : Int := if j = 0 then c.op else if j = 1 then c.fused + (if c.sgl then 64 else 0) else if j = 2 then c.id % 256 else c.id / 256
/-- an entry of which m bytes behind the first four have been written -/
def refF (c : Cmd) (m : Nat) (j : Nat) : Value := if j < 4 then .int .u8 (hb4 c j) else if j < 4 + m then .int .u8 (byteOf (dw c ((j - 4) / 4)) ((j - 4) % 4)) else .int .u8 0
/-- the bytes of an entry -/
def cmdB (c : Cmd) (j : Nat) : Int := if j < 4 then hb4 c j else byteOf (dw c ((j - 4) / 4)) ((j - 4) % 4)

theorem refF_end (c : Cmd) (j : Nat) (h : j < 64) : refF c 60 j = .int .u8 (cmdB c j) := by
  unfold refF cmdB
  split
  · rfl
  · first | rfl | rw [if_pos (by omega)]
theorem refF_step (c : Cmd) (i k j : Nat) (hk : k < 4) : (if j = 4 + (4 * i + k) then Value.int .u8 (dw c i / 2 ^ (8 * k) % 256) else refF c (4 * i + k) j) = refF c (4 * i + (k + 1)) j := by
  unfold refF
  by_cases e : j = 4 + (4 * i + k)
  · subst e
    rw [if_pos rfl, if_neg (by omega), if_pos (by omega)]
    have e1 : (4 + (4 * i + k) - 4) / 4 = i := by omega
    have e2 : (4 + (4 * i + k) - 4) % 4 = k := by omega
    rw [e1, e2]; rfl
  · rw [if_neg e]
    by_cases h1 : j < 4
    · rw [if_pos h1, if_pos h1]
    · rw [if_neg h1, if_neg h1]
      by_cases h2 : j < 4 + (4 * i + k)
      · rw [if_pos h2, if_pos (by omega)]
      · rw [if_neg h2, if_neg (by omega)]

theorem byte_low (v : Int) (k : Nat) (h : k < 4) : byteOf v k = byteOf (v % 4294967296) k := by
  unfold byteOf
  match k, h with
  | 0, _ => simp
  | 1, _ => simp; omega
  | 2, _ => simp; omega
  | 3, _ => simp; omega
theorem byte_high (v : Int) (k : Nat) (h : k < 4) : byteOf v (4 + k) = byteOf (v / 4294967296) k := by
  unfold byteOf
  match k, h with
  | 0, _ => simp
  | 1, _ => simp; omega
  | 2, _ => simp; omega
  | 3, _ => simp; omega

theorem fword_bytes (c : Cmd) (h : c.Ok) (hf : c.fused ≤ 2) (j : Nat) (hj : j < 4) : byteOf (fword c.op c.fused c.id c.sgl) j = hb4 c j := by
  have h1 := h.op; have h2 := h.fused; have h3 := h.id
  unfold byteOf fword hb4
  match j, hj with
  | 0, _ => simp; split <;> omega
  | 1, _ => simp; split <;> omega
  | 2, _ => simp; split <;> omega
  | 3, _ => simp; split <;> omega

theorem bytesL_getD (v : Int) (n j : Nat) (h : j < n) : (bytesL v n)[j]? = some (.int .u8 (byteOf v j)) := bytesL_get v n j h
theorem flatB_get (n : Nat) (zs : Nat → Int) : ∀ m j, j < n * m → (flatB n zs m)[j]? = some (.int .u8 (byteOf (zs (j / n)) (j % n))) := by
  intro m
  induction m with
  | zero => intro j h; omega
  | succ m ih =>
    intro j h
    unfold flatB
    by_cases hj : j < n * m
    · rw [List.getElem?_append_left (by rw [flatB_length]; exact hj)]
      exact ih j hj
    · rw [List.getElem?_append_right (by rw [flatB_length]; omega), flatB_length]
      have hn : j - n * m < n := by rw [Nat.mul_succ] at h; omega
      rw [bytesL_get _ _ _ hn]
      have e1 : j / n = m := by
        rw [Nat.div_eq_of_lt_le]
        · rw [Nat.mul_comm]; omega
        · rw [Nat.mul_comm]; exact h
      have e2 : j % n = j - n * m := by
        have := Nat.div_add_mod j n
        rw [e1] at this
        omega
      rw [e1, e2]

theorem encL_get (c : Cmd) (h : c.Ok) (hf : c.fused ≤ 2) (j : Nat) (hj : j < 64) : (encL c).getD j undef = .int .u8 (cmdB c j) := by
  have key : (encL c)[j]? = some (.int .u8 (cmdB c j)) := by
    unfold encL
    rw [List.nil_append]
    by_cases h1 : j < 16
    · rw [List.getElem?_append_left (by simp [flatB_length, bytesL_length]; omega), List.getElem?_append_left (by simp [flatB_length, bytesL_length]; omega), List.getElem?_append_left (by simp [flatB_length, bytesL_length]; omega), List.getElem?_append_left (by simp [flatB_length]; omega), flatB_get _ _ _ _ (by omega)]
      unfold cmdB
      by_cases h4' : j < 4
      · rw [if_pos h4', ← fword_bytes c h hf j h4']
        have e1 : j / 4 = 0 := by omega
        have e2 : j % 4 = j := by omega
        rw [e1, e2]; rfl
      · rw [if_neg h4']
        have e2 : (j - 4) % 4 = j % 4 := by omega
        have e3 : (j - 4) / 4 = j / 4 - 1 := by omega
        rw [e2, e3]
        have e4 : j / 4 = 1 ∨ j / 4 = 2 ∨ j / 4 = 3 := by omega
        rcases e4 with e | e | e <;> rw [e] <;> rfl
    · by_cases h2 : j < 24
      · rw [List.getElem?_append_left (by simp [flatB_length, bytesL_length]; omega), List.getElem?_append_left (by simp [flatB_length, bytesL_length]; omega), List.getElem?_append_left (by simp [flatB_length, bytesL_length]; omega), List.getElem?_append_right (by simp [flatB_length]; omega), flatB_length, bytesL_get _ _ _ (by omega)]
        unfold cmdB
        rw [if_neg (by omega)]
        by_cases h3 : j < 20
        · have e1 : (j - 4) / 4 = 3 := by omega
          have e2 : (j - 4) % 4 = j - 4 * 4 := by omega
          rw [e1, e2, byte_low _ _ (by omega)]; rfl
        · have e1 : (j - 4) / 4 = 4 := by omega
          have e2 : (j - 4) % 4 = j - 20 := by omega
          rw [e1, e2, show j - 4 * 4 = 4 + (j - 20) from by omega, byte_high _ _ (by omega)]; rfl
      · by_cases h3 : j < 32
        · rw [List.getElem?_append_left (by simp [flatB_length, bytesL_length]; omega), List.getElem?_append_left (by simp [flatB_length, bytesL_length]; omega), List.getElem?_append_right (by simp [flatB_length, bytesL_length]; omega), bytesL_get _ _ _ (by simp [flatB_length, bytesL_length]; omega)]
          simp only [List.length_append, flatB_length, bytesL_length]
          unfold cmdB
          rw [if_neg (by omega)]
          by_cases h5 : j < 28
          · have e1 : (j - 4) / 4 = 5 := by omega
            have e2 : (j - 4) % 4 = j - (4 * 4 + 8) := by omega
            rw [e1, e2, byte_low _ _ (by omega)]; rfl
          · have e1 : (j - 4) / 4 = 6 := by omega
            have e2 : (j - 4) % 4 = j - 28 := by omega
            rw [e1, e2, show j - (4 * 4 + 8) = 4 + (j - 28) from by omega, byte_high _ _ (by omega)]; rfl
        · by_cases h5 : j < 40
          · rw [List.getElem?_append_left (by simp [flatB_length, bytesL_length]; omega), List.getElem?_append_right (by simp [flatB_length, bytesL_length]; omega), bytesL_get _ _ _ (by simp [flatB_length, bytesL_length]; omega)]
            simp only [List.length_append, flatB_length, bytesL_length]
            unfold cmdB
            rw [if_neg (by omega)]
            by_cases h6 : j < 36
            · have e1 : (j - 4) / 4 = 7 := by omega
              have e2 : (j - 4) % 4 = j - (4 * 4 + 8 + 8) := by omega
              rw [e1, e2, byte_low _ _ (by omega)]; rfl
            · have e1 : (j - 4) / 4 = 8 := by omega
              have e2 : (j - 4) % 4 = j - 36 := by omega
              rw [e1, e2, show j - (4 * 4 + 8 + 8) = 4 + (j - 36) from by omega, byte_high _ _ (by omega)]; rfl
          · rw [List.getElem?_append_right (by simp [flatB_length, bytesL_length]; omega), flatB_get _ _ _ _ (by simp [flatB_length, bytesL_length]; omega)]
            simp only [List.length_append, flatB_length, bytesL_length]
            unfold cmdB
            rw [if_neg (by omega)]
            have e2 : (j - (4 * 4 + 8 + 8 + 8)) % 4 = (j - 4) % 4 := by omega
            rw [e2]
            have e3 : (j - 4) / 4 = (j - (4 * 4 + 8 + 8 + 8)) / 4 + 9 := by omega
            rw [e3]
            have e4 : (j - (4 * 4 + 8 + 8 + 8)) / 4 < 6 := by omega
            generalize (j - (4 * 4 + 8 + 8 + 8)) / 4 = q at e4 ⊢
            match q, e4 with
            | 0, _ => rfl
            | 1, _ => rfl
            | 2, _ => rfl
            | 3, _ => rfl
            | 4, _ => rfl
            | 5, _ => rfl
  rw [List.getD_eq_getElem?_getD, key]; rfl

/-- the entry of a command as a value -/
def cmdA (c : Cmd) : Value := .agg (arr 64 fun j => .int .u8 (cmdB c j))

end Go.Proofs.Ytiinjjfggmmkmaa
