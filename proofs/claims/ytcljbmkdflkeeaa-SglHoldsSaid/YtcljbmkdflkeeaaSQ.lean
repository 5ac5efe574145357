/- sgl: Parse is Decode of the words; FromWords. -/
import Derived.Test.YtcljbmkdflkeeaaSP
namespace Go.Proofs.Ytcljbmkdflkeeaa
set_option linter.unusedVariables false
set_option linter.unusedSimpArgs false
open Go.RowKit

/-- the second word of sixteen bytes -/
def hiW (F : Nat → Int) : Int := hz (fun i => F (8 + i)) 7 8
theorem hiW_eq (F : Nat → Int) : hiW F = (((((((F 15 * 256 + F 14) * 256 + F 13) * 256 + F 12) * 256 + F 11) * 256 + F 10) * 256 + F 9) * 256 + F 8) := by
  simp [hiW, hz]
theorem hiW_bd {F : Nat → Int} (h : Bytes F) : 0 ≤ hiW F ∧ hiW F ≤ 18446744073709551615 := by
  have := hz_bd (F := fun i => F (8 + i)) (fun i => h (8 + i)) 7 8
  have e : (256 : Int) ^ 8 = 18446744073709551616 := by decide
  unfold hiW
  omega
theorem loW_bd {F : Nat → Int} (h : Bytes F) : 0 ≤ hz F 7 8 ∧ hz F 7 8 ≤ 18446744073709551615 := by
  have := hz_bd h 7 8
  have e : (256 : Int) ^ 8 = 18446744073709551616 := by decide
  omega
theorem parse_any (F : Nat → Int) (g o c : Nat) (w : World) (hF : Bytes F) (h6 : Six w g o F) :
    Calls Try.prog 37 #[.slice (some ⟨g, o, none⟩) 16 c] w fun e w' => e = .returned (.tuple #[.agg (decD (hz F 7 8) (hiW F)).cells, .int .i64 (decE (hiW F))]) ∧ Below w.heap.size w w' := by
  have HF := Lib.hid hF
  have a8 := hF 8
  have a9 := hF 9
  have a10 := hF 10
  have a11 := hF 11
  have a12 := hF 12
  have a13 := hF 13
  have a14 := hF 14
  have a15 := hF 15
  obtain ⟨k, hk⟩ : ∃ k, F 15 / 16 = k := ⟨_, rfl⟩
  have hx := hiW_eq F
  have hk2 : hiW F / 1152921504606846976 = k := by omega
  have hr : hiW F % 1152921504606846976 / 72057594037927936 = F 15 % 16 := by omega
  by_cases c1 : 5 < k + 1
  · have e : decE (hiW F) = 160 := by unfold decE; rw [if_pos (.inl (by omega))]
    have := parse_e1 F g o c k w HF h6 hk (decide_eq_true c1)
    rw [show (decD (hz F 7 8) (hiW F)).cells = dA 0 0 0 0 by unfold decD; rw [if_pos e]; rfl, e]; exact this
  have q1 := decide_eq_false c1
  by_cases c2 : F 15 % 16 = 0
  · have q2 : (F 15 % 16 != 0) = false := by simp [c2]
    by_cases c3 : k + 1 < 5
    · have q3 := decide_eq_true c3
      by_cases c4 : F 12 = 0
      · have q4 : (F 12 != 0) = false := by simp [c4]
        by_cases c5 : F 13 = 0
        · have q5 : (F 13 != 0) = false := by simp [c5]
          by_cases c6 : F 14 = 0
          · have e : decE (hiW F) = 0 := by unfold decE; rw [if_neg (by omega), if_neg (by omega), if_neg (by omega)]
            have := parse_kn F g o c k w HF h6 hk q1 q2 q3 q4 q5 (by simp [c6]) (beq_eq_false_iff_ne.2 (by omega))
            have e2 : hiW F % 1152921504606846976 = hz F 11 4 := by simp [hz]; omega
            rw [show (decD (hz F 7 8) (hiW F)).cells = dA (k + 1) (hz F 7 8) (hz F 11 4) 0 by unfold decD; rw [if_neg (by omega), if_neg (by omega), hk2, e2]; rfl, e]; exact this
          · have e : decE (hiW F) = 160 := by unfold decE; rw [if_neg (by omega), if_neg (by omega), if_pos (by omega)]
            have := parse_e5 F g o c k w HF h6 hk q1 q2 q3 q4 q5 (by rw [bne_iff_ne]; exact c6)
            rw [show (decD (hz F 7 8) (hiW F)).cells = dA 0 0 0 0 by unfold decD; rw [if_pos e]; rfl, e]; exact this
        · have e : decE (hiW F) = 160 := by unfold decE; rw [if_neg (by omega), if_neg (by omega), if_pos (by omega)]
          have := parse_e4 F g o c k w HF h6 hk q1 q2 q3 q4 (by rw [bne_iff_ne]; exact c5)
          rw [show (decD (hz F 7 8) (hiW F)).cells = dA 0 0 0 0 by unfold decD; rw [if_pos e]; rfl, e]; exact this
      · have e : decE (hiW F) = 160 := by unfold decE; rw [if_neg (by omega), if_neg (by omega), if_pos (by omega)]
        have := parse_e3 F g o c k w HF h6 hk q1 q2 q3 (by rw [bne_iff_ne]; exact c4)
        rw [show (decD (hz F 7 8) (hiW F)).cells = dA 0 0 0 0 by unfold decD; rw [if_pos e]; rfl, e]; exact this
    · have hk4 : k = 4 := by omega
      have e : decE (hiW F) = 0 := by unfold decE; rw [if_neg (by omega), if_pos (by omega)]
      have := parse_k5 F g o c k w HF h6 hk q1 q2 (decide_eq_false c3) (by simp [hk4])
      have e2 : hiW F % 1152921504606846976 % 16777216 = hz F 10 3 := by simp [hz]; omega
      have e3 : hiW F % 1152921504606846976 / 16777216 = hz F 14 4 := by simp [hz]; omega
      rw [show (decD (hz F 7 8) (hiW F)).cells = dA (k + 1) (hz F 7 8) (hz F 10 3) (hz F 14 4) by unfold decD; rw [if_neg (by omega), if_pos (by omega), e2, e3, hk4]; rfl, e]; exact this
  · have e : decE (hiW F) = 160 := by unfold decE; rw [if_pos (.inr (by omega))]
    have := parse_e2 F g o c k w HF h6 hk q1 (by rw [bne_iff_ne]; exact c2)
    rw [show (decD (hz F 7 8) (hiW F)).cells = dA 0 0 0 0 by unfold decD; rw [if_pos e]; rfl, e]; exact this
end Go.Proofs.Ytcljbmkdflkeeaa
