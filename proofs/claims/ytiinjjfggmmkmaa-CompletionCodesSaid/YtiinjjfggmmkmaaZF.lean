/- sort: partial insertion sort. -/
import Derived.Test.YtiinjjfggmmkmaaZA
import Derived.Deep.CutBlock
namespace Go.Proofs.Ytiinjjfggmmkmaa
set_option linter.unusedVariables false
set_option linter.unusedSimpArgs false
open Go.RowKit Go.Sort

theorem ss_go (d : Array Int) (b i : Nat) (h : i < b) (hl : ltInt d[i]! d[i - 1]! = false) : scanSorted ltInt d b i = scanSorted ltInt d b (i + 1) := by
  conv => lhs; rw [scanSorted]
  simp [h, hl]
theorem ss_stop (d : Array Int) (b i : Nat) (h : ¬ i < b ∨ ltInt d[i]! d[i - 1]! = true) : scanSorted ltInt d b i = i := by
  rw [scanSorted]
  rcases h with h | h <;> simp [h]
theorem ss_in (d : Array Int) (b i : Nat) (h : i ≤ b) : i ≤ scanSorted ltInt d b i ∧ scanSorted ltInt d b i ≤ b := by
  have := scanSorted_spec swo_ltInt b b d (b - i) i rfl h (fun p q h1 h2 h3 => by omega)
  exact ⟨this.1, this.2.1⟩
theorem shd_go (k : Nat) (d : Array Int) (hl : ltInt d[k + 1]! d[k]! = true) : shiftDown ltInt (k + 1) d = shiftDown ltInt k (swp d (k + 1) k) := by
  rw [shiftDown, hl]; rfl
theorem shd_stop (k : Nat) (d : Array Int) (hl : ltInt d[k + 1]! d[k]! = false) : shiftDown ltInt (k + 1) d = d := by
  rw [shiftDown, hl]; rfl
theorem shu_go (b k : Nat) (d : Array Int) (h : k + 1 < b) (hl : ltInt d[k + 1]! d[k]! = true) : shiftUp ltInt b (k + 1) d = shiftUp ltInt b (k + 2) (swp d (k + 1) k) := by
  rw [shiftUp, if_pos h, Nat.add_sub_cancel, hl]; rfl
theorem shu_stop (b k : Nat) (d : Array Int) (hl : ¬ k + 1 < b ∨ ltInt d[k + 1]! d[k]! = false) : shiftUp ltInt b (k + 1) d = d := by
  rw [shiftUp]
  split
  · rcases hl with hl | hl
    · contradiction
    · rw [Nat.add_sub_cancel, hl]; rfl
  · rfl
theorem size_shd (k : Nat) (d : Array Int) : (shiftDown ltInt k d).size = d.size := by
  induction k generalizing d with
  | zero => rw [shiftDown]
  | succ k ih =>
    rw [shiftDown]
    split
    · rfl
    · rw [ih, size_swp]
theorem size_shu (b : Nat) : ∀ (n k : Nat) (d : Array Int), b - k ≤ n → (shiftUp ltInt b k d).size = d.size := by
  intro n
  induction n with
  | zero => intro k d h; rw [shiftUp, if_neg (by omega)]
  | succ n ih =>
    intro k d h
    rw [shiftUp]
    split
    · split
      · rfl
      · rw [ih _ _ (by omega), size_swp]
    · rfl
theorem size_fixDown (a i : Nat) (d : Array Int) : (fixDown ltInt a i d).size = d.size := by
  unfold fixDown; split
  · exact size_shd _ _
  · rfl
theorem size_fixUp (b i : Nat) (d : Array Int) : (fixUp ltInt b i d).size = d.size := by
  unfold fixUp; split
  · exact size_shu _ _ _ _ (Nat.le_refl _)
  · rfl

/-- what partialInsertionSort leaves -/
def PisPost (w : World) (g o : Nat) (r : Array Int × Bool) (e : Ending) (w' : World) : Prop := e = .returned (.bool r.2) ∧ Rw w w' g o r.1

set_option maxRecDepth 100000 in
set_option maxHeartbeats 16000000 in
theorem pis_any (g o c a b : Nat) (d : Array Int) (w : World) (h : Rw w w g o d) (hab : a < b) (hb : b ≤ d.size) (hN0 : d.size < 2305843009213693952) :
    Calls Try.prog 69 #[.slice (some ⟨g, o, none⟩) d.size c, .int .i64 a, .int .i64 b] w (PisPost w g o (partialInsertionSort ltInt d a b)) := by
  have H := Lib.hid h
  have HL := Lib.hid less_any
  clear h
  unfold partialInsertionSort
  obtain ⟨N, hN⟩ : ∃ N, N = d.size := ⟨_, rfl⟩
  rw [← hN] at hb hN0 ⊢
  have HN := Lib.hid hN
  clear hN
  obtain ⟨r, hr⟩ : ∃ r, r = partialIns ltInt a b 5 (a + 1) d := ⟨_, rfl⟩
  rw [← hr]
  have HR := Lib.hid hr
  clear hr
  have ea : IntKind.i64.wrap ((a : Int) + 1) = ((a + 1 : Nat) : Int) := by rw [IntWalk.i64_in _ (by omega)]; omega
  have eba : IntKind.i64.wrap ((b : Int) - (a : Int)) = ((b - a : Nat) : Int) := by rw [IntWalk.i64_in _ (by omega)]; omega
  go_enter Try.func69, Try.ntmps69
  go_wp2_with fail
  go_loopw [7, 8] (fun vi vj wr => ∃ (i s z : Nat) (dk : Array Int), vi = .int .i64 i ∧ vj = .int .i64 z ∧ z + s = 5 ∧ a < i ∧ i ≤ b ∧ dk.size = N ∧ Rw w wr g o dk ∧ r = partialIns ltInt a b s i dk) (fun _ vj _ => (5 - intOf vj).toNat)
  case atStart => exact ⟨a + 1, 5, 0, d, rfl, rfl, by omega, by omega, by omega, HN.out.symm, H.out, HR.out⟩
  case round =>
    obtain ⟨i, s, z, dk, rfl, rfl, hzs, hai, hib, hsk, hrw, hO⟩ := hrel
    clear ea
    have R := Lib.hid hrw
    have HO := Lib.hid hO
    have HS := Lib.hid hsk
    have HZ := Lib.hid hzs
    clear hrw hO hsk
    obtain ⟨wo, hwo⟩ : ∃ wo : World, wo = wr := ⟨_, rfl⟩
    subst hwo
    cases s with
    | zero =>
      have hz5 : ¬ z < 5 := by omega
      clear hzs
      go_wp2_with fail
      go_ret
      rw [HO.out]
      exact ⟨rfl, R.out⟩
    | succ s =>
      have hz5 : z < 5 := by omega
      clear hzs
      go_upto_block 2 with fail
      go_cut [7] from 13 to 132 (fun v wc => v = .int .i64 ((scanSorted ltInt dk b i : Nat) : Int) ∧ Rw w wc g o dk)
      case first =>
        go_wp2_with fail
        go_loopw [7] (fun vi wr2 => ∃ t : Nat, vi = .int .i64 t ∧ i ≤ t ∧ t ≤ b ∧ scanSorted ltInt dk b t = scanSorted ltInt dk b i ∧ Rw w wr2 g o dk) (fun vi _ => (b - (intOf vi).toNat))
        case atStart => exact ⟨i, rfl, Nat.le_refl _, hib, rfl, R.out⟩
        case round =>
          obtain ⟨t, rfl, ht1, ht2, hsu, hrw2⟩ := hrel
          have R2 := Lib.hid hrw2
          have HU := Lib.hid hsu
          clear hrw2 hsu
          by_cases hle : t < b
          · have hsz := HS.out
            have h0 : t - 1 < dk.size := by omega
            have h1 : t < dk.size := by omega
            have c0 := R2.out.cell h0
            have c1 := R2.out.cell h1
            obtain ⟨x0, hx0⟩ : ∃ x, x = dk[t - 1]! := ⟨_, rfl⟩
            obtain ⟨x1, hx1⟩ : ∃ x, x = dk[t]! := ⟨_, rfl⟩
            rw [← hx0] at c0
            rw [← hx1] at c1
            have HX0 := Lib.hid hx0
            have HX1 := Lib.hid hx1
            clear hx0 hx1 hsz
            obtain ⟨t1, ht1'⟩ : ∃ t1, t1 = t - 1 := ⟨_, rfl⟩
            rw [← ht1'] at c0
            have em : IntKind.i64.wrap ((t : Int) - 1) = (t1 : Int) := by rw [IntWalk.i64_in _ (by omega)]; omega
            have ht1N : t1 < N := by omega
            clear ht1' h0
            have dl : decide ((t : Int) < (b : Int)) = true := by simp; omega
            have dl2 : decide (t < b) = true := by simp; omega
            have e1 : IntKind.i64.wrap ((t : Int) + 1) = (t : Int) + 1 := IntWalk.i64_in _ (by omega)
            go_upto_region 5 with fail
            go_quiet (first | (go_at_call 70; refine Calls.quiet_of_same (HL.out _ _ _)))
            cases hl : ltInt x1 x0 with
            | false =>
              go_wp2_with fail
              go_roundw
              case rel => exact ⟨t + 1, by go_num, by omega, by omega, by rw [← HU.out, ss_go _ _ _ hle (by rw [← HX0.out, ← HX1.out]; exact hl)], R2.out.drewN _⟩
              case measure => simp [intOf]; omega
            | true =>
              go_wp2_with fail
              go_meet
              exact ⟨by rw [← HU.out, ss_stop _ _ _ (.inr (by rw [← HX0.out, ← HX1.out]; exact hl))], R2.out.drewN _⟩
          · have d1 : decide ((t : Int) < (b : Int)) = false := by simp; omega
            have d2 : decide (t < b) = false := by simp; omega
            go_upto_region 5 with fail
            go_quiet (first | (go_at_call 70; refine Calls.quiet_of_same (HL.out _ _ _)))
            go_wp2_with fail
            go_meet
            exact ⟨by rw [← HU.out, ss_stop _ _ _ (.inl hle)], R2.out.drewN _⟩
      case rest =>
        obtain ⟨rfl, hR⟩ := hcut
        have R3 := Lib.hid hR
        clear hR R
        obtain ⟨K1, K2⟩ := ss_in dk b i hib
        have HO2 := Lib.hid (HO.out.trans (partialIns_succ a b s i dk))
        obtain ⟨k, hk⟩ : ∃ k, k = scanSorted ltInt dk b i := ⟨_, rfl⟩
        rw [← hk] at K1 K2 ⊢
        have HK := Lib.hid hk
        clear hk HO
        by_cases hkb : k = b
        · have hre : r = (dk, true) := by rw [HO2.out, ← HK.out, if_pos hkb]
          have HRE := Lib.hid hre
          have hkbi : ((k : Int) == (b : Int)) = true := by simp; omega
          have hkbn : (k == b) = true := by simp; omega
          clear hkb hre
          go_wp2_with fail
          go_ret
          rw [HRE.out]
          exact ⟨rfl, R3.out⟩
        · have hkbi : ((k : Int) == (b : Int)) = false := by simp; omega
          have hkbn : (k == b) = false := by simp; omega
          by_cases h50 : b - a < 50
          · have hre : r = (dk, false) := by rw [HO2.out, ← HK.out, if_neg hkb, if_pos h50]
            have HRE := Lib.hid hre
            clear hre
            go_wp2_with fail
            go_ret
            rw [HRE.out]
            exact ⟨rfl, R3.out⟩
          · have hre : r = partialIns ltInt a b s k (fixUp ltInt b k (fixDown ltInt a k (swp dk k (k - 1)))) := by rw [HO2.out, ← HK.out, if_neg hkb, if_neg h50]
            obtain ⟨k1, hk1⟩ : ∃ k1, k1 = k - 1 := ⟨_, rfl⟩
            rw [← hk1] at hre
            have ek : IntKind.i64.wrap ((k : Int) - 1) = (k1 : Int) := by rw [IntWalk.i64_in _ (by omega)]; omega
            have hk1k : k1 < k := by omega
            have hkk1 : k ≤ k1 + 1 := by omega
            have hkb2 : k < b := by omega
            have HRE := Lib.hid hre
            have ek2 : IntKind.i64.wrap ((k : Int) - (a : Int)) = ((k - a : Nat) : Int) := by rw [IntWalk.i64_in _ (by omega)]; omega
            have ek3 : IntKind.i64.wrap ((b : Int) - (k : Int)) = ((b - k : Nat) : Int) := by rw [IntWalk.i64_in _ (by omega)]; omega
            have ek4 : IntKind.i64.wrap ((k : Int) + 1) = ((k + 1 : Nat) : Int) := by rw [IntWalk.i64_in _ (by omega)]; omega
            clear hre HO2 hk1 hkb
            go_upto_region 11 with fail
            go_cut [7] from 13 to 132 (fun v0 wc => v0 = .int .i64 (k : Nat) ∧ Rw w wc g o (swp dk k k1))
            case first =>
              have h1 : k < (dk).size := by have := HS.out; omega
              have h2 : k1 < (dk).size := by have := HS.out; omega
              have cI := R3.out.cell h1
              have cJ := R3.out.cell h2
              have fI := R3.out.frozen h1
              have fJ := R3.out.frozen h2
              obtain ⟨xI, hxI⟩ : ∃ x, x = (dk)[k]! := ⟨_, rfl⟩
              obtain ⟨xJ, hxJ⟩ : ∃ x, x = (dk)[k1]! := ⟨_, rfl⟩
              have hSW := fun n => (R3.out.drewN n).swap h1 h2
              rw [← hxI] at cI
              rw [← hxJ] at cJ
              rw [← hxJ, ← hxI] at hSW
              have HSW := Lib.hid hSW
              clear hxI hxJ hSW
              have hne : ¬ (o + k1 = o + k) := by omega
              go_region_with fail
              all_goals
                go_wp2_with fail
                go_meet
                exact ⟨rfl, HSW.out 1⟩
            case rest =>
              obtain ⟨rfl, hR⟩ := hcut
              obtain ⟨d1, hd1⟩ : ∃ d1, d1 = swp dk k k1 := ⟨_, rfl⟩
              rw [← hd1] at hR
              have hs1 : d1.size = N := by rw [hd1, size_swp]; exact HS.out
              have R5 := Lib.hid hR
              have HS1 := Lib.hid hs1
              have HRE1 := Lib.hid (show r = partialIns ltInt a b s k (fixUp ltInt b k (fixDown ltInt a k d1)) by rw [hd1]; exact HRE.out)
              clear hR R3 hd1 hs1 HRE HS
              obtain ⟨q1, hq1⟩ : ∃ q1, q1 = decide (2 ≤ k - a) := ⟨_, rfl⟩
              have dq1 : decide ((2 : Int) ≤ ((k - a : Nat) : Int)) = q1 := by rw [hq1, decide_eq_decide]; omega
              have dq1' : decide (2 ≤ k - a) = q1 := hq1.symm
              have Hq1 := Lib.hid hq1
              clear hq1
              go_upto_if 61 with fail
              go_cut [7] from 13 to 132 (fun v wc => v = .int .i64 (k : Nat) ∧ Rw w wc g o (fixDown ltInt a k d1))
              case first =>
                clear dq1 dq1'
                cases q1 with
                | true =>
                  have h2 : 2 ≤ k - a := by have := Hq1.out; simpa using this.symm
                  have efx : fixDown ltInt a k d1 = shiftDown ltInt k1 d1 := by unfold fixDown; rw [if_pos h2, show k - 1 = k1 by omega]
                  have EFX := Lib.hid efx
                  clear efx
                  go_wp2_with fail
                  go_loopw [9] (fun vi wr2 => ∃ (t : Nat) (dt : Array Int), vi = .int .i64 t ∧ t ≤ k1 ∧ dt.size = N ∧ Rw w wr2 g o dt ∧ fixDown ltInt a k d1 = shiftDown ltInt t dt) (fun vi _ => (intOf vi).toNat)
                  case atStart => exact ⟨k1, d1, rfl, Nat.le_refl _, HS1.out, R5.out, EFX.out⟩
                  case round =>
                    obtain ⟨t, dt, rfl, ht1, hst, hrw2, hsu⟩ := hrel
                    have R2 := Lib.hid hrw2
                    have HU := Lib.hid hsu
                    have HST := Lib.hid hst
                    clear hrw2 hsu hst
                    cases t with
                    | zero =>
                      go_wp2_with fail
                      go_meet
                      exact ⟨rfl, by rw [HU.out]; exact R2.out⟩
                    | succ t =>
                      have hsz : t + 1 < dt.size := by have := HST.out; omega
                      have cI := R2.out.cell hsz
                      have cJ := R2.out.cell (j := t) (by omega)
                      have fI := R2.out.frozen hsz
                      have fJ := R2.out.frozen (j := t) (by omega)
                      have e1 : IntKind.i64.wrap (t : Int) = (t : Int) := IntWalk.i64_in _ (by omega)
                      have et : ((t : Int) + 1).toNat = t + 1 := by omega

                      have hSW := fun n => (R2.out.drewN n).swap hsz (show t < dt.size by omega)
                      obtain ⟨x1, hx1⟩ : ∃ x, x = dt[t + 1]! := ⟨_, rfl⟩
                      obtain ⟨x0, hx0⟩ : ∃ x, x = dt[t]! := ⟨_, rfl⟩
                      rw [← hx1] at cI
                      rw [← hx0] at cJ
                      rw [← hx1, ← hx0] at hSW
                      have HSW := Lib.hid hSW
                      have HX1 := Lib.hid hx1
                      have HX0 := Lib.hid hx0
                      have htN : t + 1 < N := by have := HST.out; omega
                      clear hSW hx1 hx0
                      go_upto_region 16 with fail
                      go_quiet (first | (go_at_call 70; refine Calls.quiet_of_same (HL.out _ _ _)))
                      cases hl : ltInt x1 x0 with
                      | true =>
                        go_upto_region 17 with fail
                        go_region_with fail
                        all_goals
                          go_wp2_with fail
                          go_roundw
                          case rel => exact ⟨t, swp dt (t + 1) t, by go_num, by omega, by rw [size_swp]; exact HST.out, HSW.out _, by rw [HU.out, shd_go _ _ (by rw [← HX0.out, ← HX1.out]; exact hl)]⟩
                          case measure => simp [intOf]
                      | false =>
                        go_wp2_with fail
                        go_meet
                        exact ⟨rfl, by rw [HU.out, shd_stop _ _ (by rw [← HX0.out, ← HX1.out]; exact hl)]; exact R2.out.drewN _⟩
                | false =>
                  have h2 : ¬ 2 ≤ k - a := by have := Hq1.out; simpa using this.symm
                  have efx : fixDown ltInt a k d1 = d1 := by unfold fixDown; rw [if_neg h2]
                  have EFX := Lib.hid efx
                  clear efx
                  go_wp2_with fail
                  go_meet
                  exact ⟨rfl, by rw [EFX.out]; exact R5.out⟩
              case rest =>
                obtain ⟨rfl, hR⟩ := hcut
                obtain ⟨d2, hd2⟩ : ∃ d2, d2 = fixDown ltInt a k d1 := ⟨_, rfl⟩
                rw [← hd2] at hR
                have hs2 : d2.size = N := by rw [hd2, size_fixDown]; exact HS1.out
                have R6 := Lib.hid hR
                have HS2 := Lib.hid hs2
                have HRE2 := Lib.hid (show r = partialIns ltInt a b s k (fixUp ltInt b k d2) by rw [hd2]; exact HRE1.out)
                clear hR R5 hd2 hs2 HRE1 HS1
                obtain ⟨q2, hq2⟩ : ∃ q2, q2 = decide (2 ≤ b - k) := ⟨_, rfl⟩
                have dq2 : decide ((2 : Int) ≤ ((b - k : Nat) : Int)) = q2 := by rw [hq2, decide_eq_decide]; omega
                have dq2' : decide (2 ≤ b - k) = q2 := hq2.symm
                have Hq2 := Lib.hid hq2
                clear hq2
                go_upto_if 98 with fail
                clear dq2 dq2'
                cases q2 with
                | true =>
                  have h2 : 2 ≤ b - k := by have := Hq2.out; simpa using this.symm
                  have efx : fixUp ltInt b k d2 = shiftUp ltInt b (k + 1) d2 := by unfold fixUp; rw [if_pos h2]
                  have EFX := Lib.hid efx
                  clear efx
                  go_wp2_with fail
                  go_loopw [10] (fun vi wr2 => ∃ (t : Nat) (dt : Array Int), vi = .int .i64 ((t + 1 : Nat) : Int) ∧ k ≤ t ∧ t + 1 ≤ b ∧ dt.size = N ∧ Rw w wr2 g o dt ∧ fixUp ltInt b k d2 = shiftUp ltInt b (t + 1) dt) (fun vi _ => (b - (intOf vi).toNat))
                  case atStart => exact ⟨k, d2, rfl, Nat.le_refl _, by omega, HS2.out, R6.out, EFX.out⟩
                  case round =>
                    obtain ⟨t, dt, rfl, ht0, ht1, hst, hrw2, hsu⟩ := hrel
                    have R2 := Lib.hid hrw2
                    have HU := Lib.hid hsu
                    have HST := Lib.hid hst
                    clear hrw2 hsu hst
                    by_cases htb : t + 1 < b
                    · have hsz : t + 1 < dt.size := by have := HST.out; omega
                      have dlt : (t : Int) + 1 < (b : Int) := by omega
                      have cI := R2.out.cell hsz
                      have cJ := R2.out.cell (j := t) (by omega)
                      have fI := R2.out.frozen hsz
                      have fJ := R2.out.frozen (j := t) (by omega)
                      have e1 : IntKind.i64.wrap (t : Int) = (t : Int) := IntWalk.i64_in _ (by omega)
                      have et : ((t : Int) + 1).toNat = t + 1 := by omega
                      have e2 : IntKind.i64.wrap ((t : Int) + 1 + 1) = (t : Int) + 1 + 1 := IntWalk.i64_in _ (by omega)
                      have hSW := fun n => (R2.out.drewN n).swap hsz (show t < dt.size by omega)
                      obtain ⟨x1, hx1⟩ : ∃ x, x = dt[t + 1]! := ⟨_, rfl⟩
                      obtain ⟨x0, hx0⟩ : ∃ x, x = dt[t]! := ⟨_, rfl⟩
                      rw [← hx1] at cI
                      rw [← hx0] at cJ
                      rw [← hx1, ← hx0] at hSW
                      have HSW := Lib.hid hSW
                      have HX1 := Lib.hid hx1
                      have HX0 := Lib.hid hx0
                      have htN : t + 1 < N := by have := HST.out; omega
                      clear hSW hx1 hx0
                      go_upto_region 22 with fail
                      go_quiet (first | (go_at_call 70; refine Calls.quiet_of_same (HL.out _ _ _)))
                      cases hl : ltInt x1 x0 with
                      | true =>
                        go_upto_region 23 with fail
                        go_region_with fail
                        all_goals
                          go_wp2_with fail
                          go_roundw
                          case rel => exact ⟨t + 1, swp dt (t + 1) t, by go_num, by omega, by omega, by rw [size_swp]; exact HST.out, HSW.out _, by rw [HU.out, shu_go _ _ _ htb (by rw [← HX0.out, ← HX1.out]; exact hl)]⟩
                          case measure => simp [intOf]; omega
                      | false =>
                        have FX := Lib.hid (show fixUp ltInt b k d2 = dt by rw [HU.out, shu_stop _ _ _ (.inr (by rw [← HX0.out, ← HX1.out]; exact hl))])
                        have ez : IntKind.i64.wrap ((z : Int) + 1) = (z : Int) + 1 := IntWalk.i64_in _ (by omega)
                        go_wp2_with fail
                        go_roundw
                        case rel => exact ⟨k, s, z + 1, fixUp ltInt b k d2, rfl, by go_num, by have := HZ.out; omega, by omega, by omega, by rw [size_fixUp]; exact HS2.out, by rw [FX.out]; exact R2.out.drewN _, HRE2.out⟩
                        case measure => simp [intOf]; omega
                    · have FX := Lib.hid (show fixUp ltInt b k d2 = dt by rw [HU.out, shu_stop _ _ _ (.inl htb)])
                      have ez : IntKind.i64.wrap ((z : Int) + 1) = (z : Int) + 1 := IntWalk.i64_in _ (by omega)
                      go_wp2_with fail
                      go_roundw
                      case rel => exact ⟨k, s, z + 1, fixUp ltInt b k d2, rfl, by go_num, by have := HZ.out; omega, by omega, by omega, by rw [size_fixUp]; exact HS2.out, by rw [FX.out]; exact R2.out, HRE2.out⟩
                      case measure => simp [intOf]; omega
                | false =>
                  have h2 : ¬ 2 ≤ b - k := by have := Hq2.out; simpa using this.symm
                  have FX := Lib.hid (show fixUp ltInt b k d2 = d2 by unfold fixUp; rw [if_neg h2])
                  clear h2
                  have ez : IntKind.i64.wrap ((z : Int) + 1) = (z : Int) + 1 := IntWalk.i64_in _ (by omega)
                  go_wp2_with fail
                  go_roundw
                  case rel => exact ⟨k, s, z + 1, fixUp ltInt b k d2, rfl, by go_num, by have := HZ.out; omega, by omega, by omega, by rw [size_fixUp]; exact HS2.out, by rw [FX.out]; exact R6.out, HRE2.out⟩
                  case measure => simp [intOf]; omega
end Go.Proofs.Ytiinjjfggmmkmaa
