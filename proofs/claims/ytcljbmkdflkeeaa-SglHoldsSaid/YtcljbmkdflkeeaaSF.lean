/- sgl: FromWords is Decode; Words are Encode's. -/
import Derived.Test.YtcljbmkdflkeeaaSQ
namespace Go.Proofs.Ytcljbmkdflkeeaa
set_option linter.unusedVariables false
set_option linter.unusedSimpArgs false
open Go.RowKit

/-- byte j of two words -/
def fwB (x0 x1 : Int) (j : Nat) : Int := byteOf (if j < 8 then x0 else x1) (j % 8)
theorem fwB_bd (x0 x1 : Int) : Bytes (fwB x0 x1) := fun j => by unfold fwB byteOf; omega
theorem fwB_lo (x0 x1 : Int) (h0 : 0 ≤ x0) (h1 : x0 ≤ 18446744073709551615) : hz (fwB x0 x1) 7 8 = x0 := by
  refine Eq.trans ?_ (sum8 x0 h0 h1)
  simp [hz, fwB]
theorem fwB_hi (x0 x1 : Int) (h0 : 0 ≤ x1) (h1 : x1 ≤ 18446744073709551615) : hiW (fwB x0 x1) = x1 := by
  refine Eq.trans ?_ (sum8 x1 h0 h1)
  unfold hiW
  simp [hz, fwB]
def fwR (x0 x1 : Int) (k : Nat) : Nat → Value := fun j => if j < k then .int .u8 (fwB x0 x1 j) else .int .u8 0
theorem fwR_step (x0 x1 : Int) (k j : Nat) (v : Int) (hv : v = fwB x0 x1 k) : (if j = k then Value.int .u8 v else fwR x0 x1 k j) = fwR x0 x1 (k + 1) j := by
  unfold fwR
  by_cases e : j = k
  · subst e; rw [if_pos rfl, if_pos (by omega), hv]
  · by_cases h : j < k
    · rw [if_neg e, if_pos h, if_pos (by omega)]
    · rw [if_neg e, if_neg h, if_neg (by omega)]

set_option maxRecDepth 100000 in
set_option maxHeartbeats 4000000 in
theorem fromwords_any (x0 x1 : Int) (w : World) (h0 : 0 ≤ x0) (h1 : x0 ≤ 18446744073709551615) (h2 : 0 ≤ x1) (h3 : x1 ≤ 18446744073709551615) :
    Calls Try.prog 12 #[.agg #[.int .u64 x0, .int .u64 x1]] w fun e w' => e = .returned (.tuple #[.agg (decD x0 x1).cells, .int .i64 (decE x1)]) ∧ Below w.heap.size w w' := by
  have HP : Hid (∀ g o c w, Six w g o (fwB x0 x1) → Calls Try.prog 37 #[.slice (some ⟨g, o, none⟩) 16 c] w fun e w' => e = .returned (.tuple #[.agg (decD x0 x1).cells, .int .i64 (decE x1)]) ∧ Below w.heap.size w w') := Lib.hid fun g o c w h6 => by
    have := parse_any (fwB x0 x1) g o c w (fwB_bd x0 x1) h6
    rw [fwB_lo x0 x1 h0 h1, fwB_hi x0 x1 h2 h3] at this
    exact this
  obtain ⟨D, hD⟩ : ∃ D, D = (decD x0 x1).cells := ⟨_, rfl⟩
  obtain ⟨no, hno⟩ : ∃ no, no = decE x1 := ⟨_, rfl⟩
  have HDS := Lib.hid (show (Try.prog.info? 26).map (·.size) = some D.size by rw [hD]; exact sizeD)
  have HD4 := Lib.hid (show D.size = 4 by rw [hD]; rfl)
  have HD1 := Lib.hid (show D.all (·.oneCell') = true by rw [hD]; exact Dsc.one _)
  rw [← hD, ← hno] at HP ⊢
  clear hD hno
  have hmk : ∀ w, (Instr.makeSlice 42 (.int .i64 16) (.int .i64 16)).run Try.prog w = .ok (.slice (some ⟨w.heap.size, 0, none⟩) 16 16) (w.alloc (.cells (madeCells #[.int .u8 0] 16) 5)) := fun w =>
    run_make_row' (P := Try.prog) 42 5 (.int .u8 0) 1 Try.underlying42 infoU8 rfl .i64 .i64 16 (by omega) (by omega) w
  obtain ⟨W0, hW0, hb0, hs0, c0, c1, ha⟩ := dec_start x0 x1 w
  have hrow := World.rowIs_made W0 (.int .u8 0) 16 5
  obtain ⟨W, hW⟩ : ∃ z, z = W0.alloc (.cells (madeCells #[.int .u8 0] 16) 5) := ⟨_, rfl⟩
  rw [← hW] at hrow
  have hb1 : Below W0.heap.size W0 W := by rw [hW]; exact (Below.refl _ _).alloc (Nat.le_refl _) _
  have HA := Lib.hid (ha.below hb1)
  have HB := Lib.hid (hb0.trans (hb1.mono (by omega)))
  have X0 := Lib.hid ((hb1.cell (p := ⟨w.heap.size, 0, none⟩) (show w.heap.size < _ by omega)).trans c0)
  have X1 := Lib.hid ((hb1.cell (p := ⟨w.heap.size, 1, none⟩) (show w.heap.size < _ by omega)).trans c1)
  have HR := Lib.hid hrow
  have HW := Lib.hid hW
  have HW0 := Lib.hid hW0
  have HS := Lib.hid hs0
  clear hW hW0 hb0 hb1 hs0 c0 c1 ha hrow
  go_enter Try.func12, Try.ntmps12
  go_upto_region 1 with ((with_reducible show wpList _ _ _ (⟨some 2, _, _, _, _, _⟩ :: _) _ _); refine wpList_alloc rfl 26 rfl zeroD ?_; rw [show (Value.agg zDsc.cells).cells = zDsc.cells from rfl])
  rw [show (w.alloc (.cells #[.int .u64 x0, .int .u64 x1] 27)).alloc (.cells zDsc.cells 26) = W0 from HW0.out.symm]
  try simp only [Act.put, List.setIfInBounds_toArray, List.set_cons_succ, List.set_cons_zero]
  go_wp2_with fail
  rw [show W0.alloc (.cells (madeCells #[.int .u8 0] 16) 5) = W from HW.out.symm]
  obtain ⟨g, hg⟩ : ∃ g, g = W0.heap.size := ⟨_, rfl⟩
  rw [← hg] at HR ⊢
  have hg2 : w.heap.size + 2 ≤ g := by have := HS.out; omega
  obtain ⟨b, hb⟩ : ∃ b, b = w.heap.size := ⟨_, rfl⟩
  have HBE := Lib.hid hb
  rw [← hb] at X0 X1 HA ⊢
  have hbg : b + 2 ≤ g := by omega
  clear hg hb hmk HW HW0
  go_loopw [5] (fun i wr => ∃ j : Nat, j ≤ 16 ∧ i = .int .i64 j ∧ Keeps (One g) W wr ∧ wr.rowIs g 5 16 (fwR x0 x1 j)) (fun i _ => 16 - (intOf i).toNat)
  case atStart => exact ⟨0, by omega, rfl, Keeps.refl _ _, HR.out.congr fun j _ => by unfold fwR; rw [if_neg (by omega)]⟩
  case round =>
    obtain ⟨j, hj, rfl, hkp, hrow⟩ := hrel
    have HK := Lib.hid hkp
    have HRr := Lib.hid hrow
    clear hkp hrow
    by_cases hlt : j < 16
    · have y0 := HK.out.cell X0.out (fun e => by have e : b = g := e; omega)
      have y1 := HK.out.cell X1.out (fun e => by have e : b = g := e; omega)
      have hc := HRr.out.cell (i := j) (by omega)
      have hf := HRr.out.frozen j
      have HM := Lib.hid (fun m (h : j % 8 = m) (x : Int) (hx : (if j < 8 then x0 else x1) = x) => show fwB x0 x1 j = x / 2 ^ (8 * m) % 256 by unfold fwB byteOf; rw [h, hx])
      obtain ⟨m, hm⟩ : ∃ m, j % 8 = m := ⟨_, rfl⟩
      have em : (j : Int) % 8 = (m : Int) := by omega
      have e1 : IntKind.i64.wrap (8 * (m : Int)) = 8 * (m : Int) := IntWalk.i64_in _ (by omega)
      have hm8 : m < 8 := by omega
      have HMM := Lib.hid hm
      clear hm
      by_cases h8 : j < 8
      · have e8 : (j : Int) / 8 = 0 := by omega
        go_wp2_with fail
        go_roundw
        case rel => exact ⟨j + 1, by omega, by go_num, HK.out.set1 _ _, (HRr.out.set j _).congr fun i _ => fwR_step x0 x1 j i _ (HM.out m HMM.out x0 (if_pos h8)).symm⟩
        case measure => simp [intOf]; omega
      · have e8 : (j : Int) / 8 = 1 := by omega
        go_wp2_with fail
        go_roundw
        case rel => exact ⟨j + 1, by omega, by go_num, HK.out.set1 _ _, (HRr.out.set j _).congr fun i _ => fwR_step x0 x1 j i _ (HM.out m HMM.out x1 (if_neg h8)).symm⟩
        case measure => simp [intOf]; omega
    · obtain rfl : j = 16 := by omega
      have S6 := Lib.hid (show Six wr g 0 (fwB x0 x1) from fun i hi => by rw [Nat.zero_add]; have := HRr.out.cell (i := i) hi; unfold fwR at this; rw [if_pos hi] at this; exact this)
      have A2 := Lib.hid (HA.out.kept HK.out (fun e => by have e : b + 1 = g := e; omega))
      have B2 := Lib.hid (HB.out.trans (HK.out.below (B := w.heap.size) HB.out.size (fun j hj e => by have e : j = g := e; have := HBE.out; omega)))
      go_wp2_with (first
        | (go_at_call 37; refine (HP.out _ _ _ _ S6.out).mono ?_; rintro e w1 ⟨rfl, hb⟩; have A3 := Lib.hid (A2.out.below hb); have B3 := Lib.hid (B2.out.trans (hb.mono B2.out.size)); clear hb)
        | ((with_reducible show wpList _ _ _ (⟨none, .store _ (.tmp 2) _, _, _, _, _⟩ :: _) _ _); refine wpList_storeA rfl (b := b + 1) (A := zDsc.cells) (A' := D) A3.out 26 (.tmp 2) (.tmp 25) rfl (by simp [Act.eval, Act.put]) (by simp [Act.eval, Act.put]) (sizeDs _) HD4.out HD1.out ?_))
      have A4 := Lib.hid (A3.out.store D HD4.out)
      refine bodyPost_ret (results_ct rfl _ _ _ A4.out rfl Try.underlying26 rfl HDS.out) rfl ⟨rfl, bstore B3.out (b + 1) (by have := HBE.out; omega) _ _⟩
end Go.Proofs.Ytcljbmkdflkeeaa
