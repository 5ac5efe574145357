/- completion: the reference's Encode. -/
import Derived.Test.YtggdjadhenamiaaCplE
import Derived.BigRegion
namespace Go.Proofs.Ytggdjadhenamiaa
set_option linter.unusedVariables false
set_option linter.unusedSimpArgs false
open Go.RowKit

/-- an entry of which the results' first k bytes have been written -/
def rpF (c : Cpl) (k : Nat) (j : Nat) : Value := if j < k then .int .u8 (byteOf c.r0 j) else if 4 ≤ j ∧ j < 4 + k then .int .u8 (byteOf c.r1 (j - 4)) else .int .u8 0

theorem rpF_step (c : Cpl) (k j : Nat) (hk : k < 4) : (if j = 4 + k then Value.int .u8 (c.r1 / 2 ^ (8 * k) % 256) else if j = k then Value.int .u8 (c.r0 / 2 ^ (8 * k) % 256) else rpF c k j) = rpF c (k + 1) j := by
  unfold rpF byteOf
  by_cases e1 : j = 4 + k
  · subst e1
    have h1 : ¬ 4 + k < k + 1 := by omega
    have h2 : 4 ≤ 4 + k ∧ 4 + k < 4 + (k + 1) := by omega
    have h3 : 4 + k - 4 = k := by omega
    simp [h1, h2, h3]
  · by_cases e2 : j = k
    · subst e2
      have h1 : j < j + 1 := by omega
      simp [h1]
    · by_cases h1 : j < k
      · have h2 : j < k + 1 := by omega
        simp [e1, e2, h1, h2]
      · have h2 : ¬ j < k + 1 := by omega
        by_cases h3 : 4 ≤ j ∧ j < 4 + k
        · have h4 : 4 ≤ j ∧ j < 4 + (k + 1) := by omega
          simp [e1, e2, h1, h2, h3, h4]
        · have h4 : ¬ (4 ≤ j ∧ j < 4 + (k + 1)) := by omega
          simp [e1, e2, h1, h2, h3, h4]

end Go.Proofs.Ytggdjadhenamiaa
