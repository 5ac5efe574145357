/- sgl: the bytes of a valid descriptor are those of its words. -/
import Derived.Test.YtcljbmkdflkeeaaSF
import Derived.Test.YtcljbmkdflkeeaaSN
namespace Go.Proofs.Ytcljbmkdflkeeaa
set_option linter.unusedVariables false
set_option linter.unusedSimpArgs false
open Go.RowKit

set_option maxRecDepth 100000 in
set_option maxHeartbeats 2000000 in
theorem dB_word (d : Dsc) (hv : Vld d) (ho : d.Ok) (j : Nat) (hj : j < 16) : dB d j = fwB d.a (word1 d) j := by
  obtain ⟨⟨h1, h5⟩, ⟨n0, n1⟩, h3, h4⟩ := hv
  obtain ⟨-, -, -, y0, y1⟩ := ho
  unfold lim at n1
  by_cases h8 : j < 8
  · unfold dB fwB
    rw [if_neg (by omega), if_neg (by omega), if_pos h8, if_pos h8, Nat.mod_eq_of_lt h8]
  · unfold dB fwB byteOf word1
    by_cases k5 : d.k = 5
    · rw [if_pos k5] at n1
      rw [k5]
      obtain rfl | rfl | rfl | rfl | rfl | rfl | rfl | rfl : j = 8 ∨ j = 9 ∨ j = 10 ∨ j = 11 ∨ j = 12 ∨ j = 13 ∨ j = 14 ∨ j = 15 := by omega
      all_goals
        simp
        omega
    · rw [if_neg k5] at n1
      have hk : d.key = 0 := by omega
      rw [hk]
      obtain rfl | rfl | rfl | rfl | rfl | rfl | rfl | rfl : j = 8 ∨ j = 9 ∨ j = 10 ∨ j = 11 ∨ j = 12 ∨ j = 13 ∨ j = 14 ∨ j = 15 := by omega
      all_goals
        simp [k5]
        try omega
theorem words_lo (d : Dsc) (hv : Vld d) (ho : d.Ok) : hz (dB d) 7 8 = d.a := by
  have h := fwB_lo d.a (word1 d) ho.a.1 ho.a.2
  rw [← h]
  simp [hz, dB_word d hv ho]
theorem words_hi (d : Dsc) (hv : Vld d) (ho : d.Ok) : hz (fun i => dB d (8 + i)) 7 8 = word1 d := by
  obtain ⟨h1, h2⟩ := word1_bd hv ho
  have h := fwB_hi d.a (word1 d) h1 h2
  rw [← h]
  unfold hiW
  simp [hz, dB_word d hv ho]
end Go.Proofs.Ytcljbmkdflkeeaa
