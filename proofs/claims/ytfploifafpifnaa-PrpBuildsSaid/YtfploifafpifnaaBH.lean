/- prp: the plan of Build is the memory that is known. -/
import Derived.Test.YtfploifafpifnaaBG
namespace Go.Proofs.Ytfploifafpifnaa
set_option linter.unusedVariables false
set_option linter.unusedSimpArgs false
open Go.RowKit

theorem plan_blt {f : Nat → Int} {size l0 l1 R K : Nat} {p : Nat → Int} {o N : Int} (h : Bt size l0 l1 R K p o N) (h3 : 3 ≤ K) {l : Nat → Int} (e0 : l 0 = l0) (e1 : R + 1 < K → l 1 = l1) :
    ∃ D, planP l p K size 2 0 1 [] = .ok D ∧ itF f D = bltF f l0 l1 R K p ∧ D.length ≤ 2 := by
  have hr := h.r; have ha := h.a0; have hne := h.ne; have hk := bt_k h; have hf0 := h.f0; have hf1 := h.f1; have ha1 := h.a1
  have hR : (roomP (l 0)).toNat = R := by rw [e0]; unfold roomP; omega
  have hR1 : 1 ≤ R := by omega
  by_cases hK : K ≤ R + 1
  · have i0 : itm l p K 0 1 = ⟨l 0, fun e => p (1 + e), K - 1⟩ := by unfold itm; rw [if_pos (by rw [hR]; omega)]
    have n0 : nxs l K 0 1 = K := by unfold nxs; rw [if_pos (by rw [hR]; omega)]
    refine ⟨[⟨l 0, fun e => p (1 + e), K - 1⟩], ?_, ?_, by simp⟩
    · unfold planP
      rw [if_neg (by omega), i0, if_pos (by unfold Itm.Fits; simp only [e0]; omega), n0, planP_end (Nat.le_refl _)]
      rfl
    · show upd f (l 0).toNat (8 * (K - 1)) (wB fun e => p (1 + e)) = _
      unfold bltF
      rw [if_pos hK, e0, Int.toNat_natCast]
      simp only [Nat.add_comm]
  · have e1 := e1 (by omega)
    have i0 : itm l p K 0 1 = ⟨l 0, fun e => if e + 1 < R then p (1 + e) else l 1, R⟩ := by unfold itm; rw [if_neg (by rw [hR]; omega), hR]
    have n0 : nxs l K 0 1 = R := by unfold nxs; rw [if_neg (by rw [hR]; omega), hR]; omega
    have hR2 : (roomP (l 1)).toNat = 512 := by rw [e1]; unfold roomP; omega
    have i1 : itm l p K 1 R = ⟨l 1, fun e => p (R + e), K - R⟩ := by unfold itm; rw [if_pos (by rw [hR2]; omega)]
    have n1 : nxs l K 1 R = K := by unfold nxs; rw [if_pos (by rw [hR2]; omega)]
    refine ⟨[⟨l 0, fun e => if e + 1 < R then p (1 + e) else l 1, R⟩, ⟨l 1, fun e => p (R + e), K - R⟩], ?_, ?_, by simp⟩
    · unfold planP
      rw [if_neg (by omega), i0, if_pos (by unfold Itm.Fits; simp only [e0]; omega), n0]
      unfold planP
      rw [if_neg (by omega), i1, if_pos (by unfold Itm.Fits; simp only [e1]; omega), n1, planP_end (Nat.le_refl _)]
      rfl
    · show upd (upd f (l 0).toNat (8 * R) (wB fun e => if e + 1 < R then p (1 + e) else l 1)) (l 1).toNat (8 * (K - R)) (wB fun e => p (R + e)) = _
      unfold bltF
      rw [if_neg hK, e0, e1, Int.toNat_natCast, Int.toNat_natCast]
      simp only [Nat.add_comm]
end Go.Proofs.Ytfploifafpifnaa
