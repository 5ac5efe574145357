/- sort: sift down, heap sort. -/
import Derived.Test.YtiinjjfggmmkmaaZA
namespace Go.Proofs.Ytiinjjfggmmkmaa
set_option linter.unusedVariables false
set_option linter.unusedSimpArgs false
open Go.RowKit Go.Sort

theorem sd_stop (lt : Int → Int → Bool) (hi F r : Nat) (d : Array Int) (h : hi ≤ 2 * r + 1) : siftDown lt hi F r d = d := by
  rw [siftDown, dif_pos h]
/-- the child that is compared -/
theorem sd_up (lt : Int → Int → Bool) (hi F r : Nat) (d : Array Int) (h : 2 * r + 1 + 1 < hi) (hl : lt d[F + (2 * r + 1)]! d[F + (2 * r + 1) + 1]! = true) :
    siftDown lt hi F r d = if lt d[F + r]! d[F + (2 * r + 1 + 1)]! = false then d else siftDown lt hi F (2 * r + 1 + 1) (swp d (F + r) (F + (2 * r + 1 + 1))) := by
  conv => lhs; rw [siftDown]
  rw [dif_neg (by omega), if_pos (by simp [h, hl])]
  cases hx : lt d[F + r]! d[F + (2 * r + 1 + 1)]!
  · rw [if_pos (by rfl), if_pos rfl]
  · rw [if_neg (by decide), dif_pos (by omega), if_neg (by decide)]
theorem sd_low (lt : Int → Int → Bool) (hi F r : Nat) (d : Array Int) (h : 2 * r + 1 < hi) (hl : ¬ 2 * r + 1 + 1 < hi ∨ lt d[F + (2 * r + 1)]! d[F + (2 * r + 1) + 1]! = false) :
    siftDown lt hi F r d = if lt d[F + r]! d[F + (2 * r + 1)]! = false then d else siftDown lt hi F (2 * r + 1) (swp d (F + r) (F + (2 * r + 1))) := by
  conv => lhs; rw [siftDown]
  rw [dif_neg (by omega), if_neg (by rcases hl with hl | hl <;> simp [hl])]
  cases hx : lt d[F + r]! d[F + (2 * r + 1)]!
  · rw [if_pos (by rfl), if_pos rfl]
  · rw [if_neg (by decide), if_neg (by decide)]

set_option maxRecDepth 100000 in
set_option maxHeartbeats 8000000 in
theorem siftDown_any (g o c lo hi F : Nat) (d : Array Int) (w : World) (h : Rw w w g o d) (hb : F + hi ≤ d.size) (hlo : lo ≤ d.size) (hN0 : d.size < 2305843009213693952) :
    Calls Try.prog 75 #[.slice (some ⟨g, o, none⟩) d.size c, .int .i64 lo, .int .i64 hi, .int .i64 F] w fun e w' => e = .returned (.tuple #[]) ∧ Rw w w' g o (siftDown ltInt hi F lo d) := by
  have H := Lib.hid h
  have HL := Lib.hid less_any
  clear h
  obtain ⟨N, hN⟩ : ∃ N, N = d.size := ⟨_, rfl⟩
  rw [← hN] at hb hlo hN0 ⊢
  have HN := Lib.hid hN
  clear hN
  go_enter Try.func75, Try.ntmps75
  go_wp2_with fail
  go_loopw [8] (fun vi wr => ∃ (r : Nat) (dk : Array Int), vi = .int .i64 r ∧ r ≤ N ∧ dk.size = N ∧ Rw w wr g o dk ∧ siftDown ltInt hi F r dk = siftDown ltInt hi F lo d) (fun vi _ => hi - (intOf vi).toNat)
  case atStart => exact ⟨lo, d, rfl, hlo, HN.out.symm, H.out, rfl⟩
  case round =>
    obtain ⟨r, dk, rfl, hr, hsk, hrw, hO⟩ := hrel
    have R := Lib.hid hrw
    have HO := Lib.hid hO
    have HS := Lib.hid hsk
    clear hrw hO hsk
    have e0 : IntKind.i64.wrap (2 * (r : Int)) = 2 * (r : Int) := IntWalk.i64_in _ (by omega)
    have e1 : IntKind.i64.wrap (2 * (r : Int) + 1) = 2 * (r : Int) + 1 := IntWalk.i64_in _ (by omega)
    go_upto_region 2 with fail
    obtain ⟨C, hC⟩ : ∃ C, C = 2 * r + 1 := ⟨_, rfl⟩
    rw [show (2 * (r : Int) + 1) = (C : Int) by omega]
    have HC := Lib.hid hC
    clear hC e0 e1
    by_cases hCh : C < hi
    · have hrC : r < C := by have := HC.out; omega
      have d0 : decide ((hi : Int) ≤ (C : Int)) = false := by simp; omega
      have eFC : IntKind.i64.wrap ((F : Int) + (C : Int)) = (F : Int) + (C : Int) := IntWalk.i64_in _ (by omega)
      have eFC1 : IntKind.i64.wrap ((F : Int) + (C : Int) + 1) = (F : Int) + (C : Int) + 1 := IntWalk.i64_in _ (by omega)
      have eC1 : IntKind.i64.wrap ((C : Int) + 1) = (C : Int) + 1 := IntWalk.i64_in _ (by omega)
      have eFr : IntKind.i64.wrap ((F : Int) + (r : Int)) = (F : Int) + (r : Int) := IntWalk.i64_in _ (by omega)
      have tFC : ((F : Int) + (C : Int)).toNat = F + C := by omega
      have tFC1 : ((F : Int) + (C : Int) + 1).toNat = F + C + 1 := by omega
      have tFr : ((F : Int) + (r : Int)).toNat = F + r := by omega
      have nFr : (F : Int) + (r : Int) < (N : Int) := by omega
      have nFC : (F : Int) + (C : Int) < (N : Int) := by omega
      have pFr : 0 ≤ (F : Int) + (r : Int) := by omega
      have pFC : 0 ≤ (F : Int) + (C : Int) := by omega
      have pFC1 : 0 ≤ (F : Int) + (C : Int) + 1 := by omega
      have nFr' : F + r < N := by omega
      have nFC' : F + C < N := by omega
      have sz := HS.out
      have hFC : F + C < dk.size := by omega
      have hFr : F + r < dk.size := by omega
      have cC := R.out.cell hFC
      have cr := R.out.cell hFr
      have fC := R.out.frozen hFC
      have fr := R.out.frozen hFr
      obtain ⟨xC, hxC⟩ : ∃ x, x = dk[F + C]! := ⟨_, rfl⟩
      obtain ⟨xr, hxr⟩ : ∃ x, x = dk[F + r]! := ⟨_, rfl⟩
      rw [← hxC] at cC
      rw [← hxr] at cr
      have HXC := Lib.hid hxC
      have HXr := Lib.hid hxr
      clear hxC hxr sz
      by_cases h1 : C + 1 < hi
      · have d1 : decide ((C : Int) + 1 < (hi : Int)) = true := by simp; omega
        have hFC1 : F + C + 1 < dk.size := by have := HS.out; omega
        have cC1 := R.out.cell hFC1
        have fC1 := R.out.frozen hFC1
        obtain ⟨xD, hxD⟩ : ∃ x, x = dk[F + C + 1]! := ⟨_, rfl⟩
        rw [← hxD] at cC1
        have HXD := Lib.hid hxD
        clear hxD
        go_upto_region 3 with fail
        go_quiet (first | (go_at_call 70; refine Calls.quiet_of_same (HL.out _ _ _)))
        cases hl : ltInt xC xD with
        | true =>
          have HE := Lib.hid (show siftDown ltInt hi F r dk = if ltInt xr xD = false then dk else siftDown ltInt hi F (C + 1) (swp dk (F + r) (F + C + 1)) by
            have := sd_up ltInt hi F r dk (by rw [← HC.out]; exact h1) (by rw [← HC.out, ← HXC.out, ← HXD.out]; exact hl)
            rw [← HC.out] at this
            rw [this, ← Nat.add_assoc, ← HXD.out, ← HXr.out])
          go_upto_region 4 with fail
          have eFD : IntKind.i64.wrap ((F : Int) + ((C : Int) + 1)) = (F : Int) + (C : Int) + 1 := by rw [← Int.add_assoc]; exact IntWalk.i64_in _ (by omega)
          go_upto_region 5 with fail
          obtain ⟨W, hW⟩ : ∃ W, W = wr.drewN nq := ⟨_, rfl⟩
          rw [← hW]
          have RW := Lib.hid (show Rw w W g o dk by rw [hW]; exact R.out.drewN nq)
          clear hW
          have wr1 := RW.out.cell hFr
          have wr2 := RW.out.frozen hFr
          have wc1 := RW.out.cell hFC1
          have wc2 := RW.out.frozen hFC1
          rw [← HXr.out] at wr1
          rw [← HXD.out] at wc1
          have hSW := fun n => (RW.out.drewN n).swap hFr hFC1
          rw [← HXD.out, ← HXr.out] at hSW
          have HSW := Lib.hid hSW
          clear hSW
          go_quiet (first | (go_at_call 70; refine Calls.quiet_of_same (HL.out _ _ _)))
          cases hl2 : ltInt xr xD with
          | true =>
            go_upto_region 6 with fail
            go_region_with fail
            all_goals
              go_wp2_with fail
              go_roundw
              case rel =>
                refine ⟨C + 1, swp dk (F + r) (F + C + 1), by go_num, by omega, by rw [size_swp]; exact HS.out, HSW.out _, ?_⟩
                rw [← HO.out, HE.out, hl2, if_neg (by decide)]
              case measure => simp [intOf]; omega
          | false =>
            go_wp2_with fail
            refine bodyPost_ret (results_none rfl _ _ _) rfl ?_
            refine ⟨rfl, ?_⟩
            rw [← HO.out, HE.out, hl2, if_pos rfl]
            exact RW.out.drewN _
        | false =>
          have HE := Lib.hid (show siftDown ltInt hi F r dk = if ltInt xr xC = false then dk else siftDown ltInt hi F C (swp dk (F + r) (F + C)) by
            have := sd_low ltInt hi F r dk (by rw [← HC.out]; exact hCh) (.inr (by rw [← HC.out, ← HXC.out, ← HXD.out]; exact hl))
            rw [← HC.out] at this
            rw [this, ← HXC.out, ← HXr.out])
          go_upto_region 5 with fail
          obtain ⟨W, hW⟩ : ∃ W, W = wr.drewN nq := ⟨_, rfl⟩
          rw [← hW]
          have RW := Lib.hid (show Rw w W g o dk by rw [hW]; exact R.out.drewN nq)
          clear hW
          have wr1 := RW.out.cell hFr
          have wr2 := RW.out.frozen hFr
          have wc1 := RW.out.cell hFC
          have wc2 := RW.out.frozen hFC
          rw [← HXr.out] at wr1
          rw [← HXC.out] at wc1
          have hSW := fun n => (RW.out.drewN n).swap hFr hFC
          rw [← HXC.out, ← HXr.out] at hSW
          have HSW := Lib.hid hSW
          clear hSW
          go_quiet (first | (go_at_call 70; refine Calls.quiet_of_same (HL.out _ _ _)))
          cases hl2 : ltInt xr xC with
          | true =>
            go_upto_region 6 with fail
            go_region_with fail
            all_goals
              go_wp2_with fail
              go_roundw
              case rel =>
                refine ⟨C, swp dk (F + r) (F + C), by go_num, by omega, by rw [size_swp]; exact HS.out, HSW.out _, ?_⟩
                rw [← HO.out, HE.out, hl2, if_neg (by decide)]
              case measure => simp [intOf]; omega
          | false =>
            go_wp2_with fail
            refine bodyPost_ret (results_none rfl _ _ _) rfl ?_
            refine ⟨rfl, ?_⟩
            rw [← HO.out, HE.out, hl2, if_pos rfl]
            exact RW.out.drewN _
      · have d1 : decide ((C : Int) + 1 < (hi : Int)) = false := by simp; omega
        have HE := Lib.hid (show siftDown ltInt hi F r dk = if ltInt xr xC = false then dk else siftDown ltInt hi F C (swp dk (F + r) (F + C)) by
          have := sd_low ltInt hi F r dk (by rw [← HC.out]; exact hCh) (.inl (by rw [← HC.out]; exact h1))
          rw [← HC.out] at this
          rw [this, ← HXC.out, ← HXr.out])
        go_upto_region 3 with fail
        go_quiet (first | (go_at_call 70; refine Calls.quiet_of_same (HL.out _ _ _)))
        go_upto_region 5 with fail
        obtain ⟨W, hW⟩ : ∃ W, W = wr.drewN nq := ⟨_, rfl⟩
        rw [← hW]
        have RW := Lib.hid (show Rw w W g o dk by rw [hW]; exact R.out.drewN nq)
        clear hW
        have wr1 := RW.out.cell hFr
        have wr2 := RW.out.frozen hFr
        have wc1 := RW.out.cell hFC
        have wc2 := RW.out.frozen hFC
        rw [← HXr.out] at wr1
        rw [← HXC.out] at wc1
        have hSW := fun n => (RW.out.drewN n).swap hFr hFC
        rw [← HXC.out, ← HXr.out] at hSW
        have HSW := Lib.hid hSW
        clear hSW
        go_quiet (first | (go_at_call 70; refine Calls.quiet_of_same (HL.out _ _ _)))
        cases hl2 : ltInt xr xC with
        | true =>
          go_upto_region 6 with fail
          go_region_with fail
          all_goals
            go_wp2_with fail
            go_roundw
            case rel =>
              refine ⟨C, swp dk (F + r) (F + C), by go_num, by omega, by rw [size_swp]; exact HS.out, HSW.out _, ?_⟩
              rw [← HO.out, HE.out, hl2, if_neg (by decide)]
            case measure => simp [intOf]; omega
        | false =>
          go_wp2_with fail
          refine bodyPost_ret (results_none rfl _ _ _) rfl ?_
          refine ⟨rfl, ?_⟩
          rw [← HO.out, HE.out, hl2, if_pos rfl]
          exact RW.out.drewN _
    · have d0 : decide ((hi : Int) ≤ (C : Int)) = true := by simp; omega
      go_wp2_with fail
      go_end0
      refine ⟨rfl, ?_⟩
      rw [← HO.out, sd_stop ltInt hi F r dk (by have := HC.out; omega)]
      exact R.out

theorem size_siftDown (hi F : Nat) : ∀ (n r : Nat) (d : Array Int), hi - r ≤ n → (siftDown ltInt hi F r d).size = d.size := by
  intro n
  induction n with
  | zero => intro r d h; rw [sd_stop ltInt hi F r d (by omega)]
  | succ n ih =>
    intro r d h
    by_cases h0 : 2 * r + 1 < hi
    · by_cases h1 : 2 * r + 1 + 1 < hi ∧ ltInt d[F + (2 * r + 1)]! d[F + (2 * r + 1) + 1]! = true
      · rw [sd_up ltInt hi F r d h1.1 h1.2]
        split
        · rfl
        · rw [ih _ _ (by omega), size_swp]
      · rw [sd_low ltInt hi F r d h0 (by
          by_cases h2 : 2 * r + 1 + 1 < hi
          · right
            cases hq : ltInt d[F + (2 * r + 1)]! d[F + (2 * r + 1) + 1]!
            · rfl
            · exact absurd ⟨h2, hq⟩ h1
          · exact .inl h2)]
        split
        · rfl
        · rw [ih _ _ (by omega), size_swp]
    · rw [sd_stop ltInt hi F r d (by omega)]

set_option maxRecDepth 100000 in
set_option maxHeartbeats 4000000 in
theorem heap_any (g o c a b : Nat) (d : Array Int) (w : World) (h : Rw w w g o d) (hab : a ≤ b) (hb : b ≤ d.size) (hN0 : d.size < 2305843009213693952) :
    Calls Try.prog 65 #[.slice (some ⟨g, o, none⟩) d.size c, .int .i64 a, .int .i64 b] w fun e w' => e = .returned (.tuple #[]) ∧ Rw w w' g o (heapSort ltInt d a b) := by
  have H := Lib.hid h
  clear h
  obtain ⟨N, hN⟩ : ∃ N, N = d.size := ⟨_, rfl⟩
  rw [← hN] at hb hN0 ⊢
  have HN := Lib.hid hN
  have HSD := Lib.hid (show ∀ (lo hi : Nat) (dk : Array Int) (W : World), dk.size = N → Rw W W g o dk → a + hi ≤ N → lo ≤ N → Calls Try.prog 75 #[.slice (some ⟨g, o, none⟩) N c, .int .i64 lo, .int .i64 hi, .int .i64 a] W fun e w' => e = .returned (.tuple #[]) ∧ Rw W w' g o (siftDown ltInt hi a lo dk) from
    fun lo hi dk W hs hr h1 h2 => by
      have := siftDown_any g o c lo hi a dk W hr (by omega) (by omega) (by omega)
      rwa [hs] at this)
  clear hN
  obtain ⟨hi, hhi⟩ : ∃ hi, hi = b - a := ⟨_, rfl⟩
  obtain ⟨K0, hK0⟩ : ∃ K, K = (b - a - 1) / 2 + 1 := ⟨_, rfl⟩
  have e0 : IntKind.i64.wrap ((b : Int) - (a : Int)) = (hi : Int) := by rw [IntWalk.i64_in _ (by omega)]; omega
  have e1 : IntKind.i64.wrap ((hi : Int) - 1) = (hi : Int) - 1 := IntWalk.i64_in _ (by omega)
  have e2 : IntKind.i64.wrap (((hi : Int) - 1).tdiv 2) = (K0 : Int) - 1 := by
    have : ((hi : Int) - 1).tdiv 2 = (K0 : Int) - 1 := by
      rcases Nat.eq_zero_or_pos hi with h0 | h0
      · have : K0 = 1 := by omega
        rw [h0, this]; rfl
      · rw [Int.tdiv_eq_ediv_of_nonneg (by omega)]; omega
    rw [this]; exact IntWalk.i64_in _ (by omega)
  have hK : K0 ≤ N + 1 := by omega
  have hiN : a + hi ≤ N := by omega
  have HHI := Lib.hid hhi
  have HK0 := Lib.hid hK0
  clear hhi hK0
  go_enter Try.func65, Try.ntmps65
  go_wp2_with fail
  go_loopw [9] (fun vi wr => ∃ (k : Nat) (dk : Array Int), vi = .int .i64 ((k : Int) - 1) ∧ k ≤ N + 1 ∧ dk.size = N ∧ Rw w wr g o dk ∧ heapBuild ltInt hi a k dk = heapBuild ltInt hi a K0 d) (fun vi _ => (intOf vi + 1).toNat)
  case atStart => exact ⟨K0, d, rfl, hK, HN.out.symm, H.out, rfl⟩
  case round =>
    obtain ⟨k, dk, rfl, hk, hsk, hrw, hO⟩ := hrel
    have R := Lib.hid hrw
    have HO := Lib.hid hO
    have HS := Lib.hid hsk
    clear hrw hO hsk
    rcases Nat.eq_zero_or_pos k with h0 | h0
    · subst h0
      rw [show (((0 : Nat) : Int) - 1) = -1 by omega]
      have HB := Lib.hid (show dk = heapBuild ltInt hi a K0 d from by rw [← HO.out]; rfl)
      go_wp2_with fail
      go_loopw [10] (fun vi wr => ∃ (k : Nat) (dk : Array Int), vi = .int .i64 ((k : Int) - 1) ∧ k ≤ hi ∧ dk.size = N ∧ Rw w wr g o dk ∧ heapPop ltInt a k dk = heapPop ltInt a hi (heapBuild ltInt hi a K0 d)) (fun vi _ => (intOf vi + 1).toNat)
      case atStart => exact ⟨hi, dk, rfl, Nat.le_refl _, HS.out, R.out, by rw [HB.out]⟩
      case round =>
        clear R HO HS HB
        obtain ⟨k, dk, rfl, hk, hsk, hrw, hO⟩ := hrel
        have R := Lib.hid hrw
        have HO := Lib.hid hO
        have HS := Lib.hid hsk
        clear hrw hO hsk
        rcases Nat.eq_zero_or_pos k with h0 | h0
        · subst h0
          rw [show (((0 : Nat) : Int) - 1) = -1 by omega]
          go_wp2_with fail
          go_end0
          refine ⟨rfl, ?_⟩
          have : heapSort ltInt d a b = dk := by
            unfold heapSort
            rw [← HK0.out, ← HHI.out, ← HO.out]
            rfl
          rw [this]
          exact R.out
        · obtain ⟨m, rfl⟩ : ∃ m, k = m + 1 := ⟨k - 1, by omega⟩
          rw [show (((m + 1 : Nat) : Int) - 1) = (m : Int) by omega]
          have hsz := HS.out
          have h1 : a < dk.size := by omega
          have h2 : a + m < dk.size := by omega
          have ca := R.out.cell h1
          have cm := R.out.cell h2
          have fa := R.out.frozen h1
          have fm := R.out.frozen h2
          obtain ⟨xa, hxa⟩ : ∃ x, x = dk[a]! := ⟨_, rfl⟩
          obtain ⟨xm, hxm⟩ : ∃ x, x = dk[a + m]! := ⟨_, rfl⟩
          have hSW := fun n => (R.out.drewN n).swap h1 h2
          rw [← hxa] at ca
          rw [← hxm] at cm
          rw [← hxm, ← hxa] at hSW
          have HSW := Lib.hid hSW
          have e5 : IntKind.i64.wrap ((a : Int) + (m : Int)) = (a : Int) + (m : Int) := IntWalk.i64_in _ (by omega)
          have e6 : ((a : Int) + (m : Int)).toNat = a + m := by omega
          have e7 : (0 : Int) ≤ (a : Int) + (m : Int) := by omega
          have e8 : (a : Int) + (m : Int) < (N : Int) := by omega
          have e9 : IntKind.i64.wrap ((m : Int) - 1) = (m : Int) - 1 := IntWalk.i64_in _ (by omega)
          clear hxa hxm hSW hsz
          rcases Nat.eq_zero_or_pos m with hm | hm
          · have he : o + (a + m) = o + a := by omega
            have hax : xm = xa := by
              have := cm
              rw [he, ca] at this
              injection this with this
              injection this with _ this
              exact this.symm
            have HSW0 := Lib.hid (show ∀ n, Rw w (((wr.drewN n).setCell ⟨g, o + a, none⟩ (.int .u16 xa)).setCell ⟨g, o + a, none⟩ (.int .u16 xa)) g o (swp dk a (a + m)) from fun n => by
              have := HSW.out n
              rw [hax, he] at this
              exact this)
            clear cm fm hax hm
            go_upto_region 10 with fail
            go_region_with fail
            all_goals
              go_wp2_with (go_at_call 75; refine (HSD.out 0 m (swp dk a (a + m)) _ (by rw [size_swp]; exact HS.out) ((HSW0.out _).self) (by omega) (by omega)).mono ?_; rintro e w3 ⟨rfl, hr3⟩; have R3 := Lib.hid (Rw.trans (HSW0.out _) hr3); clear hr3)
              go_roundw
              case rel => exact ⟨m, _, rfl, by omega, by rw [size_siftDown m a m 0 _ (by omega), size_swp]; exact HS.out, R3.out, by rw [← HO.out]; rfl⟩
              case measure => simp [intOf]
          · have hne : ¬ (o + (a + m) = o + a) := by omega
            have hne2 : ¬ (m = 0) := by omega
            go_upto_region 10 with fail
            go_region_with fail
            all_goals
              go_wp2_with (go_at_call 75; refine (HSD.out 0 m (swp dk a (a + m)) _ (by rw [size_swp]; exact HS.out) ((HSW.out _).self) (by omega) (by omega)).mono ?_; rintro e w3 ⟨rfl, hr3⟩; have R3 := Lib.hid (Rw.trans (HSW.out _) hr3); clear hr3)
              go_roundw
              case rel => exact ⟨m, _, rfl, by omega, by rw [size_siftDown m a m 0 _ (by omega), size_swp]; exact HS.out, R3.out, by rw [← HO.out]; rfl⟩
              case measure => simp [intOf]
    · obtain ⟨m, rfl⟩ : ∃ m, k = m + 1 := ⟨k - 1, by omega⟩
      rw [show (((m + 1 : Nat) : Int) - 1) = (m : Int) by omega]
      have e9 : IntKind.i64.wrap ((m : Int) - 1) = (m : Int) - 1 := IntWalk.i64_in _ (by omega)
      go_wp2_with (go_at_call 75; refine (HSD.out m hi dk _ HS.out R.out.self hiN (by omega)).mono ?_; rintro e w3 ⟨rfl, hr3⟩; have R3 := Lib.hid (Rw.trans R.out hr3); clear hr3)
      go_roundw
      case rel => exact ⟨m, _, rfl, by omega, by rw [size_siftDown hi a hi m _ (by omega)]; exact HS.out, R3.out, by rw [← HO.out]; rfl⟩
      case measure => simp [intOf]
end Go.Proofs.Ytiinjjfggmmkmaa
