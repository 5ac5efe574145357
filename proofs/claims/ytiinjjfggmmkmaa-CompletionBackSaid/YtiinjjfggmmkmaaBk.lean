/- completion: Decode and Encode undo each other; names find their codes (no program in sight). -/
import Derived.Test.YtiinjjfggmmkmaaSt
namespace Go.Proofs.Ytiinjjfggmmkmaa
set_option linter.unusedVariables false
set_option linter.unusedSimpArgs false
open Go.RowKit

theorem byteOf_bd (v : Int) (j : Nat) : 0 ≤ byteOf v j ∧ byteOf v j ≤ 255 := by
  unfold byteOf
  omega
theorem byte4 (v : Int) (h : 0 ≤ v ∧ v ≤ 4294967295) : byteOf v 0 + byteOf v 1 * 256 + byteOf v 2 * 65536 + byteOf v 3 * 16777216 = v := by
  unfold byteOf
  simp
  omega
theorem byte2 (v : Int) (h : 0 ≤ v ∧ v ≤ 65535) : byteOf v 0 + byteOf v 1 * 256 = v := by
  unfold byteOf
  simp
  omega
theorem le_four (B : Nat → Int) (p : Nat) : le B p 4 = B p + B (p + 1) * 256 + B (p + 2) * 65536 + B (p + 3) * 16777216 := by
  simp [le]
theorem le_two (B : Nat → Int) (p : Nat) : le B p 2 = B p + B (p + 1) * 256 := by simp [le]
theorem byte_le4 (B : Nat → Int) (hB : ∀ j, 0 ≤ B j ∧ B j ≤ 255) (p k : Nat) (hk : k < 4) : byteOf (le B p 4) k = B (p + k) := by
  have h0 := hB p
  have h1 := hB (p + 1)
  have h2 := hB (p + 2)
  have h3 := hB (p + 3)
  rw [le_four]
  unfold byteOf
  have : k = 0 ∨ k = 1 ∨ k = 2 ∨ k = 3 := by omega
  rcases this with rfl | rfl | rfl | rfl <;> simp <;> omega
theorem byte_le2 (B : Nat → Int) (hB : ∀ j, 0 ≤ B j ∧ B j ≤ 255) (p k : Nat) (hk : k < 2) : byteOf (le B p 2) k = B (p + k) := by
  have h0 := hB p
  have h1 := hB (p + 1)
  rw [le_two]
  unfold byteOf
  have : k = 0 ∨ k = 1 := by omega
  rcases this with rfl | rfl <;> simp <;> omega

theorem cplB_bd (c : Cpl) (j : Nat) : 0 ≤ cplB c j ∧ cplB c j ≤ 255 := by
  unfold cplB
  (repeat' split) <;> exact byteOf_bd _ _
/-- the bits of a status word -/
theorem sword_parts (c : Cpl) (hc : c.Ok) (ht : c.ty ≤ 7) : decide (sword c % 2 = 1) = c.ph ∧ sword c / 2 % 256 = c.code ∧ sword c / 512 % 8 = c.ty ∧ decide (sword c / 16384 % 2 = 1) = c.more ∧ decide (sword c / 32768 = 1) = c.never ∧ sword c / 4096 % 4 = 0 := by
  have h1 := hc.ty
  have h2 := hc.code
  obtain ⟨r0, r1, head, queue, id, ph, ty, code, more, never⟩ := c
  simp only [] at h1 h2 ht
  unfold sword bv
  cases ph <;> cases more <;> cases never <;> simp only [if_true, if_false, Bool.false_eq_true, decide_eq_true_eq, decide_eq_false_iff_not] <;> refine ⟨?_, ?_, ?_, ?_, ?_, ?_⟩ <;> omega
theorem cpl_back (c : Cpl) (hc : c.Ok) (ht : c.ty ≤ 7) : cplB c 15 / 16 % 4 = 0 ∧ dCpl (cplB c) = c := by
  have hs := sword_bd c hc ht
  obtain ⟨p1, p2, p3, p4, p5, p6⟩ := sword_parts c hc ht
  have esw : sw (cplB c) = sword c := by
    have e := byte2 (sword c) hs
    unfold sw
    rw [show cplB c 14 = byteOf (sword c) 0 from rfl, show cplB c 15 = byteOf (sword c) 1 from rfl]
    exact e
  have q0 : le (cplB c) 0 4 = c.r0 := by rw [le_four]; exact byte4 _ hc.r0
  have q1 : le (cplB c) 4 4 = c.r1 := by rw [le_four]; exact byte4 _ hc.r1
  have q2 : le (cplB c) 8 2 = c.head := by rw [le_two]; exact byte2 _ hc.head
  have q3 : le (cplB c) 10 2 = c.queue := by rw [le_two]; exact byte2 _ hc.queue
  have q4 : le (cplB c) 12 2 = c.id := by rw [le_two]; exact byte2 _ hc.id
  refine ⟨?_, ?_⟩
  · rw [show cplB c 15 = byteOf (sword c) 1 from rfl]
    unfold byteOf
    simp
    omega
  · unfold dCpl
    rw [esw, q0, q1, q2, q3, q4, p1, p2, p3, p4, p5]
theorem dCpl_ok (B : Nat → Int) (hB : ∀ j, 0 ≤ B j ∧ B j ≤ 255) : (dCpl B).Ok ∧ (dCpl B).ty ≤ 7 := by
  have four : ∀ p, 0 ≤ le B p 4 ∧ le B p 4 ≤ 4294967295 := fun p => by have := le_bd hB p 4; omega
  have two : ∀ p, 0 ≤ le B p 2 ∧ le B p 2 ≤ 65535 := fun p => by have := le_bd hB p 2; omega
  refine ⟨⟨four 0, four 4, two 8, two 10, two 12, ?_, ?_⟩, ?_⟩
  · show 0 ≤ sw B / 512 % 8 ∧ sw B / 512 % 8 ≤ 255; omega
  · show 0 ≤ sw B / 2 % 256 ∧ sw B / 2 % 256 ≤ 255; omega
  · show sw B / 512 % 8 ≤ 7; omega
theorem sword_dCpl (B : Nat → Int) (hB : ∀ j, 0 ≤ B j ∧ B j ≤ 255) (h : B 15 / 16 % 4 = 0) : sword (dCpl B) = le B 14 2 := by
  have h0 := hB 14
  have h1 := hB 15
  rw [le_sw]
  have e : sw B = B 14 + B 15 * 256 := rfl
  have hz : sw B / 4096 % 4 = 0 := by rw [e]; omega
  have hb : 0 ≤ sw B ∧ sw B ≤ 65535 := by rw [e]; omega
  unfold sword
  show bv (decide (sw B % 2 = 1)) 1 + sw B / 2 % 256 * 2 + sw B / 512 % 8 * 512 + bv (decide (sw B / 16384 % 2 = 1)) 16384 + bv (decide (sw B / 32768 = 1)) 32768 = sw B
  unfold bv
  simp only [decide_eq_true_eq]
  generalize sw B = s at *
  split <;> split <;> split <;> omega
theorem cplB_dCpl (B : Nat → Int) (hB : ∀ j, 0 ≤ B j ∧ B j ≤ 255) (h : B 15 / 16 % 4 = 0) (j : Nat) (hj : j < 16) : cplB (dCpl B) j = B j := by
  unfold cplB
  rw [sword_dCpl B hB h]
  by_cases h4 : j < 4
  · rw [if_pos h4]; exact (byte_le4 B hB 0 j h4).trans (by rw [Nat.zero_add])
  rw [if_neg h4]
  by_cases h8 : j < 8
  · rw [if_pos h8]; exact (byte_le4 B hB 4 (j - 4) (by omega)).trans (by rw [show 4 + (j - 4) = j by omega])
  rw [if_neg h8]
  by_cases h10 : j < 10
  · rw [if_pos h10]; exact (byte_le2 B hB 8 (j - 8) (by omega)).trans (by rw [show 8 + (j - 8) = j by omega])
  rw [if_neg h10]
  by_cases h12 : j < 12
  · rw [if_pos h12]; exact (byte_le2 B hB 10 (j - 10) (by omega)).trans (by rw [show 10 + (j - 10) = j by omega])
  rw [if_neg h12]
  by_cases h14 : j < 14
  · rw [if_pos h14]; exact (byte_le2 B hB 12 (j - 12) (by omega)).trans (by rw [show 12 + (j - 12) = j by omega])
  rw [if_neg h14]
  exact (byte_le2 B hB 14 (j - 14) (by omega)).trans (by rw [show 14 + (j - 14) = j by omega])

theorem mk_no (p : Int) (h0 : 0 ≤ p) (h1 : p < 2048) (b : Bool) : (mkSt p b).no = p := by
  unfold Sta.no mkSt
  simp only []
  omega
set_option maxRecDepth 100000 in
theorem finds_all : ∀ k ∈ codesL, opcOf (nameOf k) = k ∧ opcErr (nameOf k) = 0 := by decide +kernel
theorem names_eq {p q : Int} (hp : p ∈ codesL) (hq : q ∈ codesL) : (p == q) = (nameOf p == nameOf q) := by
  by_cases e : p = q
  · rw [e]; simp
  · have : nameOf p ≠ nameOf q := fun h => e (by rw [← (finds_all p hp).1, h, (finds_all q hq).1])
    rw [beq_eq_false_iff_ne.2 e, beq_eq_false_iff_ne.2 this]
end Go.Proofs.Ytiinjjfggmmkmaa
