/- completion: the law CompletionDecodes. -/
import Derived.Test.YtiinjjfggmmkmaaLEncodes
namespace Go.Proofs.Ytiinjjfggmmkmaa
set_option linter.unusedVariables false
set_option linter.unusedSimpArgs false
open Go.RowKit Go.Deep Go.ChangeShapes Go.WideShapes Go.ChangeAt

theorem Cpl.cells_one (c : Cpl) : c.cells.all (·.oneCell') = true := by simp [Cpl.cells, Value.oneCell']
theorem zeroCplV (w : World) : (zeroValue 40).run Try.prog w = .ok (.agg zCpl.cells) w := by kernel_rfl
set_option maxHeartbeats 2000000 in
theorem eqCplB (c : Cpl) (w : World) : (binOp .eql 40 c.v c.v).run Try.prog w = .ok (.bool true) w := by
  obtain ⟨r0, r1, head, queue, id, ph, ty, code, more, never⟩ := c
  unfold Cpl.v Cpl.cells
  simp only []
  simp [go_sem, eqRes]
/-- what both sides return -/
theorem decodes_both (B : Nat → Int) (hB : ∀ j, 0 ≤ B j ∧ B j ≤ 255) : ∃ (c : Cpl) (n : Int), (∀ w, Calls Try.prog 29 #[arrB B] w fun e w' => e = .returned (.tuple #[c.v, .int .i64 n]) ∧ Below w.heap.size w w') ∧
    (∀ w, Calls Try.prog 30 #[arrB B] w fun e w' => e = .returned (.tuple #[c.v, .int .i64 n]) ∧ Below w.heap.size w w') := by
  by_cases hg : B 15 / 16 % 4 = 0
  · exact ⟨dCpl B, 0, fun w => dec_ok B w hB hg, fun w => rdec_ok B w hB hg⟩
  · exact ⟨zCpl, 6, fun w => dec_bad B w hB hg, fun w => rdec_bad B w hB hg⟩

set_option maxRecDepth 100000 in
set_option maxHeartbeats 4000000 in
theorem decodesLaw (B : Nat → Int) (w : World) (hB : ∀ j, 0 ≤ B j ∧ B j ≤ 255) :
    Calls Try.prog 8 #[arrB B] w fun e w' => e = .returned (.bool true) ∧ Below w.heap.size w w' := by
  obtain ⟨c, n, h1, h2⟩ := decodes_both B hB
  unfold arrB Cpl.v at *
  have hq := fun w => eqCplB c w
  unfold Cpl.v at hq
  obtain ⟨w1, hw1⟩ : ∃ w1, w1 = w.alloc (.cells (arr 16 fun j => .int .u8 (B j)) 41) := ⟨_, rfl⟩
  have AC : ArrAt w1 w.heap.size (arr 16 fun j => .int .u8 (B j)) := by rw [hw1]; exact ArrAt.fresh _ _ _ (by rw [arr_size]; decide)
  have B1 : Below w.heap.size w w1 := by rw [hw1]; exact (Below.refl _ _).alloc (Nat.le_refl _) _
  have z := zeroCplV
  have HSC := Lib.hid (show (Try.prog.info? 41).map (·.size) = some (arr 16 fun j => Value.int .u8 (B j)).size by rw [arr_size]; exact size16)
  obtain ⟨C, hC⟩ : ∃ C, C = arr 16 fun j => Value.int .u8 (B j) := ⟨_, rfl⟩
  obtain ⟨Z, hZ⟩ : ∃ Z, Z = zCpl.cells := ⟨_, rfl⟩
  obtain ⟨V, hV⟩ : ∃ V, V = c.cells := ⟨_, rfl⟩
  have HQS := Lib.hid (show V.size = Z.size by rw [hV, hZ]; rfl)
  have HQ1 := Lib.hid (show V.all (·.oneCell') = true by rw [hV]; exact Cpl.cells_one c)
  rw [← hC] at AC HSC h1 h2 hw1 ⊢
  rw [← hV] at h1 h2 hq
  rw [← hZ] at z
  have HSZ := Lib.hid (show (Try.prog.info? 40).map (·.size) = some Z.size by rw [hZ]; exact size10)
  have HZP := Lib.hid (show 0 < Z.size by rw [hZ]; decide)
  have HSV := Lib.hid (show (Try.prog.info? 40).map (·.size) = some V.size by rw [HQS.out]; exact HSZ.out)
  have H1 := Lib.hid h1
  have H2 := Lib.hid h2
  have HAC := Lib.hid AC
  have HB1 := Lib.hid B1
  have HW1 := Lib.hid hw1
  have HKN := Lib.hid known_any
  obtain ⟨d, hd1, hd2⟩ := underA16
  obtain ⟨d', hd3, hd4⟩ := under16
  clear AC B1 hw1 h1 h2 hC hZ hV hB
  go_enter Try.func8, Try.ntmps8
  go_upto_region 1 with fail
  rw [← HW1.out]
  go_upto_region 2 with (first
    | ((with_reducible show wpList _ _ _ (⟨some 8, _, _, _, _, _⟩ :: _) _ _); refine wpList_loadA rfl HAC.out 41 (.tmp 1) rfl rfl hd1 hd2 HSC.out ?_)
    | (go_at_call 29; refine (H1.out _).mono ?_; rintro e w2 ⟨rfl, hb⟩; have HAC2 := Lib.hid (HAC.out.below hb); have B2 := Lib.hid (HB1.out.trans (hb.mono HB1.out.size)); clear hb)
    | ((with_reducible show wpList _ _ _ (⟨some 3, _, _, _, _, _⟩ :: _) _ _); refine wpList_alloc rfl _ rfl z ?_)
    | ((with_reducible show wpList _ _ _ (⟨none, .store _ (.tmp 3) _, _, _, _, _⟩ :: _) _ _); refine wpList_storeA rfl (b := w2.heap.size) (A := Z) (A' := V) (ArrAt.fresh _ _ _ HZP.out) 40 (.tmp 3) (.tmp 10) rfl rfl rfl HSZ.out HQS.out HQ1.out ?_))
  obtain ⟨w3, hw3⟩ : ∃ z, z = (w2.alloc (.cells Z 40)).setCells w2.heap.size 0 V.toList := ⟨_, rfl⟩
  obtain ⟨b3, hb3⟩ : ∃ z, z = w2.heap.size := ⟨_, rfl⟩
  rw [← hw3, ← hb3]
  have hbw3 : Below w2.heap.size w2 w3 := by rw [hw3]; exact bstore ((Below.refl _ _).alloc (Nat.le_refl _) _) _ (Nat.le_refl _) _ _
  have Aw3 : ArrAt w3 b3 V := by rw [hw3, hb3]; exact (ArrAt.fresh _ _ _ HZP.out).store V HQS.out
  have HAw3 := Lib.hid Aw3
  have HAC3 := Lib.hid (HAC2.out.below hbw3)
  have B3 := Lib.hid (B2.out.trans (hbw3.mono B2.out.size))
  clear hw3 hbw3 Aw3 hb3
  clear HAC HAC2 HB1 B2
  go_upto_region 3 with (first
    | ((with_reducible show wpList _ _ _ (⟨some 13, _, _, _, _, _⟩ :: _) _ _); refine wpList_loadA rfl HAC3.out 41 (.tmp 1) rfl rfl hd1 hd2 HSC.out ?_)
    | (go_at_call 30; refine (H2.out _).mono ?_; rintro e w4 ⟨rfl, hb⟩; have HA4 := Lib.hid (HAw3.out.below hb); have B4 := Lib.hid (B3.out.trans (hb.mono B3.out.size)); clear hb)
    | ((with_reducible show wpList _ _ _ (⟨some 5, _, _, _, _, _⟩ :: _) _ _); refine wpList_alloc rfl _ rfl z ?_)
    | ((with_reducible show wpList _ _ _ (⟨none, .store _ (.tmp 5) _, _, _, _, _⟩ :: _) _ _); refine wpList_storeA rfl (b := w4.heap.size) (A := Z) (A' := V) (ArrAt.fresh _ _ _ HZP.out) 40 (.tmp 5) (.tmp 15) rfl rfl rfl HSZ.out HQS.out HQ1.out ?_))
  obtain ⟨w5, hw5⟩ : ∃ z, z = (w4.alloc (.cells Z 40)).setCells w4.heap.size 0 V.toList := ⟨_, rfl⟩
  obtain ⟨b5, hb5⟩ : ∃ z, z = w4.heap.size := ⟨_, rfl⟩
  rw [← hw5, ← hb5]
  have hbw5 : Below w4.heap.size w4 w5 := by rw [hw5]; exact bstore ((Below.refl _ _).alloc (Nat.le_refl _) _) _ (Nat.le_refl _) _ _
  have Aw5 : ArrAt w5 b5 V := by rw [hw5, hb5]; exact (ArrAt.fresh _ _ _ HZP.out).store V HQS.out
  have HAw5 := Lib.hid Aw5
  have HA35 := Lib.hid (HA4.out.below hbw5)
  have B5 := Lib.hid (B4.out.trans (hbw5.mono B4.out.size))
  clear hw5 hbw5 Aw5 hb5
  clear HAC3 B3 HA4 B4
  go_wp2_with (first
    | ((with_reducible show wpList _ _ _ (⟨some 17, _, _, _, _, _⟩ :: _) _ _); refine wpList_loadA rfl HA35.out 40 (.tmp 3) rfl rfl hd3 hd4 HSV.out ?_)
    | ((with_reducible show wpList _ _ _ (⟨some 18, _, _, _, _, _⟩ :: _) _ _); refine wpList_loadA rfl HAw5.out 40 (.tmp 5) rfl rfl hd3 hd4 HSV.out ?_)
    | (go_at_call 13; refine (HKN.out _).mono ?_; rintro e w6 ⟨rfl, hb⟩; have B6 := Lib.hid (B5.out.trans (hb.mono B5.out.size)); clear hb))
  go_ret
  exact ⟨rfl, B6.out⟩
end Go.Proofs.Ytiinjjfggmmkmaa
