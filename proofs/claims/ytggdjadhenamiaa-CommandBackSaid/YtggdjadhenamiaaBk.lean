/- command: Decode and Encode, PutIO and GetIO undo each other (no program in sight). -/
import Derived.Test.YtggdjadhenamiaaIo
import Derived.Test.YtggdjadhenamiaaDc
namespace Go.Proofs.Ytggdjadhenamiaa
set_option linter.unusedVariables false
set_option linter.unusedSimpArgs false
open Go.RowKit

theorem byteOf_bd (v : Int) (j : Nat) : 0 ≤ byteOf v j ∧ byteOf v j ≤ 255 := by
  unfold byteOf
  omega
theorem byte4 (v : Int) (h : 0 ≤ v ∧ v ≤ 4294967295) : byteOf v 0 + byteOf v 1 * 256 + byteOf v 2 * 65536 + byteOf v 3 * 16777216 = v := by
  unfold byteOf
  simp
  omega
theorem le_four (B : Nat → Int) (p : Nat) : le B p 4 = B p + B (p + 1) * 256 + B (p + 2) * 65536 + B (p + 3) * 16777216 := by
  simp [le]
theorem le_eight (B : Nat → Int) (p : Nat) : le B p 8 = le B p 4 + le B (p + 4) 4 * 4294967296 := by
  rw [le_four, le_four]
  simp [le, Nat.add_assoc]
  omega
theorem le_two (B : Nat → Int) (p : Nat) : le B p 2 = B p + B (p + 1) * 256 := by simp [le]
theorem byte_le (B : Nat → Int) (hB : ∀ j, 0 ≤ B j ∧ B j ≤ 255) (p k : Nat) (hk : k < 4) : byteOf (le B p 4) k = B (p + k) := by
  have h0 := hB p
  have h1 := hB (p + 1)
  have h2 := hB (p + 2)
  have h3 := hB (p + 3)
  rw [le_four]
  unfold byteOf
  have : k = 0 ∨ k = 1 ∨ k = 2 ∨ k = 3 := by omega
  rcases this with rfl | rfl | rfl | rfl <;> simp <;> omega

theorem cmdB_bd (c : Cmd) (hc : c.Ok) (hf : c.fused ≤ 2) (j : Nat) : 0 ≤ cmdB c j ∧ cmdB c j ≤ 255 := by
  have h1 := hc.op
  have h2 := hc.fused
  have h3 := hc.id
  unfold cmdB hb4
  by_cases hj : j < 4
  · rw [if_pos hj]
    split
    · exact h1
    · split
      · split <;> omega
      · split <;> omega
  · rw [if_neg hj]
    exact byteOf_bd _ _
theorem cmdB_word (c : Cmd) (hc : c.Ok) (i : Nat) : le (cmdB c) (4 + 4 * i) 4 = dw c i := by
  have h := dw_bd c hc i
  have e : ∀ k, k < 4 → cmdB c (4 + 4 * i + k) = byteOf (dw c i) k := fun k hk => by
    unfold cmdB
    rw [if_neg (by omega)]
    have e1 : (4 + 4 * i + k - 4) / 4 = i := by omega
    have e2 : (4 + 4 * i + k - 4) % 4 = k := by omega
    rw [e1, e2]
  rw [le_four, show 4 + 4 * i = 4 + 4 * i + 0 from rfl, e 0 (by omega), e 1 (by omega), e 2 (by omega), e 3 (by omega)]
  exact byte4 _ h
theorem cmdB_good (c : Cmd) (hc : c.Ok) (hf : c.fused ≤ 2) : goodB (cmdB c) := by
  have h2 := hc.fused
  have e : cmdB c 1 = c.fused + (if c.sgl then 64 else 0) := rfl
  unfold goodB
  rw [e]
  split <;> omega
theorem cmdB_back (c : Cmd) (hc : c.Ok) (hf : c.fused ≤ 2) : dCmd (cmdB c) = c := by
  have h2 := hc.fused
  have h3 := hc.id
  have e0 : cmdB c 0 = c.op := rfl
  have e1 : cmdB c 1 = c.fused + (if c.sgl then 64 else 0) := rfl
  have e2 : cmdB c 2 = c.id % 256 := rfl
  have e3 : cmdB c 3 = c.id / 256 := rfl
  have w0 := cmdB_word c hc 0
  have w1 := cmdB_word c hc 1
  have w2 := cmdB_word c hc 2
  have w3 := cmdB_word c hc 3
  have w4 := cmdB_word c hc 4
  have w5 := cmdB_word c hc 5
  have w6 := cmdB_word c hc 6
  have w7 := cmdB_word c hc 7
  have w8 := cmdB_word c hc 8
  have w9 := cmdB_word c hc 9
  have w10 := cmdB_word c hc 10
  have w11 := cmdB_word c hc 11
  have w12 := cmdB_word c hc 12
  have w13 := cmdB_word c hc 13
  have w14 := cmdB_word c hc 14
  have q0 : le (cmdB c) 2 2 = c.id := by rw [le_two, e2, e3]; omega
  have q1 : le (cmdB c) 16 8 = c.mt := by
    rw [le_eight, show le (cmdB c) 16 4 = c.mt % 4294967296 from w3, show le (cmdB c) 20 4 = c.mt / 4294967296 from w4]
    omega
  have q2 : le (cmdB c) 24 8 = c.d0 := by
    rw [le_eight, show le (cmdB c) 24 4 = c.d0 % 4294967296 from w5, show le (cmdB c) 28 4 = c.d0 / 4294967296 from w6]
    omega
  have q3 : le (cmdB c) 32 8 = c.d1 := by
    rw [le_eight, show le (cmdB c) 32 4 = c.d1 % 4294967296 from w7, show le (cmdB c) 36 4 = c.d1 / 4294967296 from w8]
    omega
  have f1 : cmdB c 1 % 4 = c.fused := by rw [e1]; split <;> omega
  have f2 : (cmdB c 1 / 64 == 1) = c.sgl := by
    rw [e1]
    cases hs : c.sgl <;> simp <;> omega
  unfold dCmd
  rw [e0, f1, f2, q0, q1, q2, q3, show le (cmdB c) 4 4 = c.nsid from w0, show le (cmdB c) 8 4 = c.c2 from w1, show le (cmdB c) 12 4 = c.c3 from w2, show le (cmdB c) 40 4 = c.w0 from w9, show le (cmdB c) 44 4 = c.w1 from w10, show le (cmdB c) 48 4 = c.w2 from w11, show le (cmdB c) 52 4 = c.w3 from w12, show le (cmdB c) 56 4 = c.w4 from w13, show le (cmdB c) 60 4 = c.w5 from w14]

theorem dCmd_ok (B : Nat → Int) (hB : ∀ j, 0 ≤ B j ∧ B j ≤ 255) (h : goodB B) : (dCmd B).Ok ∧ (dCmd B).fused ≤ 2 := by
  have h0 := hB 0
  have h1 := hB 1
  obtain ⟨g1, g2, g3⟩ := h
  have four : ∀ p, 0 ≤ le B p 4 ∧ le B p 4 ≤ 4294967295 := fun p => by have := le_bd hB p 4; omega
  have eight : ∀ p, 0 ≤ le B p 8 ∧ le B p 8 ≤ 18446744073709551615 := fun p => by have := le_bd hB p 8; omega
  have two : 0 ≤ le B 2 2 ∧ le B 2 2 ≤ 65535 := by have := le_bd hB 2 2; omega
  refine ⟨⟨h0, by show 0 ≤ B 1 % 4 ∧ B 1 % 4 ≤ 255; omega, two, four 4, four 8, four 12, eight 16, eight 24, eight 32, four 40, four 44, four 48, four 52, four 56, four 60⟩, by show B 1 % 4 ≤ 2; omega⟩
theorem dw_dCmd (B : Nat → Int) (hB : ∀ j, 0 ≤ B j ∧ B j ≤ 255) (i : Nat) (hi : i < 15) : dw (dCmd B) i = le B (4 + 4 * i) 4 := by
  have lo : ∀ p, le B p 8 % 4294967296 = le B p 4 := fun p => by
    have h1 := le_bd hB p 4
    have h2 := le_bd hB (p + 4) 4
    rw [le_eight]
    omega
  have hi8 : ∀ p, le B p 8 / 4294967296 = le B (p + 4) 4 := fun p => by
    have h1 := le_bd hB p 4
    have h2 := le_bd hB (p + 4) 4
    rw [le_eight]
    omega
  have : i = 0 ∨ i = 1 ∨ i = 2 ∨ i = 3 ∨ i = 4 ∨ i = 5 ∨ i = 6 ∨ i = 7 ∨ i = 8 ∨ i = 9 ∨ i = 10 ∨ i = 11 ∨ i = 12 ∨ i = 13 ∨ i = 14 := by omega
  rcases this with rfl | rfl | rfl | rfl | rfl | rfl | rfl | rfl | rfl | rfl | rfl | rfl | rfl | rfl | rfl
  · rfl
  · rfl
  · rfl
  · exact lo 16
  · exact hi8 16
  · exact lo 24
  · exact hi8 24
  · exact lo 32
  · exact hi8 32
  · rfl
  · rfl
  · rfl
  · rfl
  · rfl
  · rfl
theorem cmdB_dCmd (B : Nat → Int) (hB : ∀ j, 0 ≤ B j ∧ B j ≤ 255) (h : goodB B) (j : Nat) (hj : j < 64) : cmdB (dCmd B) j = B j := by
  obtain ⟨g1, g2, g3⟩ := h
  have h1 := hB 1
  have h2 := hB 2
  have h3 := hB 3
  unfold cmdB
  by_cases hj4 : j < 4
  · rw [if_pos hj4]
    have : j = 0 ∨ j = 1 ∨ j = 2 ∨ j = 3 := by omega
    rcases this with rfl | rfl | rfl | rfl
    · rfl
    · show B 1 % 4 + (if (B 1 / 64 == 1) = true then 64 else 0) = B 1
      by_cases e : B 1 / 64 = 1
      · rw [if_pos (by simpa using e)]; omega
      · rw [if_neg (by simpa using e)]; omega
    · show le B 2 2 % 256 = B 2
      rw [le_two]; show (B 2 + B 3 * 256) % 256 = B 2; omega
    · show le B 2 2 / 256 = B 3
      rw [le_two]; show (B 2 + B 3 * 256) / 256 = B 3; omega
  · rw [if_neg hj4, dw_dCmd B hB _ (by omega), byte_le B hB _ _ (by omega)]
    have : 4 + 4 * ((j - 4) / 4) + (j - 4) % 4 = j := by omega
    rw [this]

theorem io_back (c : Cmd) (x : Io) (hc : c.Ok) (hx : x.Ok) (hg : x.good) : getIo (putIo c x) = x ∧ (putIo c x).w2 / 65536 % 1024 = c.w2 / 65536 % 1024 ∧ (putIo c x).Ok := by
  obtain ⟨lba, bl, li, un, ck, rf, app, mask⟩ := x
  obtain ⟨g1, g2, g3⟩ := hg
  have h1 := hx.lba
  have h2 := hx.ck
  have h3 := hx.app
  have h4 := hx.mask
  have h5 := hx.rf
  have h6 := hc.w2
  simp only [] at g1 g2 g3 h1 h2 h3 h4 h5
  have a1 : lba % 4294967296 + lba / 4294967296 * 4294967296 = lba := by omega
  have a2 : (app + mask * 65536) % 65536 = app := by omega
  have a3 : (app + mask * 65536) / 65536 = mask := by omega
  have key : ∀ u l : Bool, (c.w2 / 65536 % 1024 * 65536 + (bl - 1) + ck * 67108864 + bv u 1073741824 + bv l 2147483648) % 65536 + 1 = bl ∧
      ((c.w2 / 65536 % 1024 * 65536 + (bl - 1) + ck * 67108864 + bv u 1073741824 + bv l 2147483648) / 2147483648 == 1) = l ∧
      ((c.w2 / 65536 % 1024 * 65536 + (bl - 1) + ck * 67108864 + bv u 1073741824 + bv l 2147483648) / 1073741824 % 2 == 1) = u ∧
      (c.w2 / 65536 % 1024 * 65536 + (bl - 1) + ck * 67108864 + bv u 1073741824 + bv l 2147483648) / 67108864 % 16 = ck ∧
      (c.w2 / 65536 % 1024 * 65536 + (bl - 1) + ck * 67108864 + bv u 1073741824 + bv l 2147483648) / 65536 % 1024 = c.w2 / 65536 % 1024 ∧
      0 ≤ (c.w2 / 65536 % 1024 * 65536 + (bl - 1) + ck * 67108864 + bv u 1073741824 + bv l 2147483648) ∧ (c.w2 / 65536 % 1024 * 65536 + (bl - 1) + ck * 67108864 + bv u 1073741824 + bv l 2147483648) ≤ 4294967295 := by
    intro u l
    have b0 : bv false 1073741824 = 0 := rfl
    have b1 : bv true 1073741824 = 1073741824 := rfl
    have b2 : bv false 2147483648 = 0 := rfl
    have b3 : bv true 2147483648 = 2147483648 := rfl
    cases u <;> cases l <;> simp only [b0, b1, b2, b3, beq_iff_eq, beq_eq_false_iff_ne, ne_eq] <;> refine ⟨?_, ?_, ?_, ?_, ?_, ?_, ?_⟩ <;> omega
  obtain ⟨k1, k2, k3, k4, k5, k6, k7⟩ := key un li
  refine ⟨?_, k5, ⟨hc.op, hc.fused, hc.id, hc.nsid, hc.c2, hc.c3, hc.mt, hc.d0, hc.d1, ?_, ?_, ⟨k6, k7⟩, hc.w3, h5, ?_⟩⟩
  · unfold getIo putIo ioW2
    simp only [k1, k2, k3, k4, a1, a2, a3]
  · show 0 ≤ lba % 4294967296 ∧ lba % 4294967296 ≤ 4294967295; omega
  · show 0 ≤ lba / 4294967296 ∧ lba / 4294967296 ≤ 4294967295; omega
  · show 0 ≤ app + mask * 65536 ∧ app + mask * 65536 ≤ 4294967295; omega
end Go.Proofs.Ytggdjadhenamiaa
