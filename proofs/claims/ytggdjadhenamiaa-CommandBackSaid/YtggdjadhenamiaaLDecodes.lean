/- command: the law CommandDecodes. -/
import Derived.Test.YtggdjadhenamiaaRg
import Derived.Test.YtggdjadhenamiaaCe
import Derived.Test.YtggdjadhenamiaaEq
import Derived.Test.YtggdjadhenamiaaLEncodes
namespace Go.Proofs.Ytggdjadhenamiaa
set_option linter.unusedVariables false
set_option linter.unusedSimpArgs false
open Go.RowKit Go.Deep Go.ChangeShapes Go.WideShapes Go.ChangeAt

theorem fl64 : FlatT Try.prog 29 (List.replicate 64 lU8) := FlatT.arr1 Try.underlying29 flU8 (by kernel_rfl)
set_option maxRecDepth 100000 in
/-- what a walk is told of an entry that came in -/
theorem b64_view {H : Type} {enc : TypeId × Value → H} {base : Nat} (W : World) (u : Value) (d : DataW H) (p : List MemPlace) (hok : Value.okWide Try.prog W .any base 29 u)
    (h : DataW.Trod enc Try.prog W 0 (fun _ => true) true 29 u d p) : ∃ B : Nat → Int, u = arrB64 B ∧ ∀ j, 0 ≤ B j ∧ B j ≤ 255 := by
  have hu : ∃ cs, u = .agg cs := by
    simp only [Value.okWide, Try.underlying29] at hok
    obtain ⟨cs, h1, -⟩ := hok
    exact ⟨cs, h1⟩
  obtain ⟨V, e, hV⟩ := fl64.view W _ d p hu h
  obtain ⟨h1, h2⟩ := bytesOf_spec (n := 64) hV
  refine ⟨bytesOf 64 V, ?_, h2⟩
  rw [e]
  unfold arrB64
  rw [show (List.replicate 64 lU8).length = 64 from rfl]
  exact congrArg Value.agg (arr_congr h1)
/-- a command of zeros -/
def zCmd : Cmd := { op := 0, fused := 0, sgl := false, id := 0, nsid := 0, c2 := 0, c3 := 0, mt := 0, d0 := 0, d1 := 0, w0 := 0, w1 := 0, w2 := 0, w3 := 0, w4 := 0, w5 := 0 }
theorem zCmd_v : Value.agg zCmdC = zCmd.v := by rfl
/-- what both sides return -/
theorem decodes_both (B : Nat → Int) (hB : ∀ j, 0 ≤ B j ∧ B j ≤ 255) : ∃ (c : Cmd) (n : Int), (∀ w, Calls Try.prog 13 #[arrB64 B] w fun e w' => e = .returned (.tuple #[c.v, .int .i64 n]) ∧ Below w.heap.size w w') ∧
    (∀ w, Calls Try.prog 14 #[arrB64 B] w fun e w' => e = .returned (.tuple #[c.v, .int .i64 n]) ∧ Below w.heap.size w w') := by
  by_cases hg : goodB B
  · exact ⟨dCmd B, 0, fun w => cdec_ok B w hB hg, fun w => rcdec_ok B w hB hg⟩
  · refine ⟨zCmd, 6, fun w => ?_, fun w => ?_⟩
    · rw [← zCmd_v]; exact cdec_bad B w hB hg
    · rw [← zCmd_v]; exact rcdec_bad B w hB hg

set_option maxRecDepth 100000 in
set_option maxHeartbeats 4000000 in
theorem decodesLaw (B : Nat → Int) (w : World) (hB : ∀ j, 0 ≤ B j ∧ B j ≤ 255) :
    Calls Try.prog 4 #[arrB64 B] w fun e w' => e = .returned (.bool true) ∧ Below w.heap.size w w' := by
  obtain ⟨c, n, h1, h2⟩ := decodes_both B hB
  unfold arrB64 Cmd.v at *
  have hq := fun w => eqCmd c w
  unfold Cmd.v at hq
  obtain ⟨w1, hw1⟩ : ∃ w1, w1 = w.alloc (.cells (arr 64 fun j => .int .u8 (B j)) 29) := ⟨_, rfl⟩
  have AC : ArrAt w1 w.heap.size (arr 64 fun j => .int .u8 (B j)) := by rw [hw1]; exact ArrAt.fresh _ _ _ (by rw [arr_size]; decide)
  have B1 : Below w.heap.size w w1 := by rw [hw1]; exact (Below.refl _ _).alloc (Nat.le_refl _) _
  have z := zeroCmd
  have HSC := Lib.hid (show (Try.prog.info? 29).map (·.size) = some (arr 64 fun j => Value.int .u8 (B j)).size by rw [arr_size]; exact size64)
  obtain ⟨C, hC⟩ : ∃ C, C = arr 64 fun j => Value.int .u8 (B j) := ⟨_, rfl⟩
  obtain ⟨Z, hZ⟩ : ∃ Z, Z = zCmdC := ⟨_, rfl⟩
  obtain ⟨V, hV⟩ : ∃ V, V = c.cells := ⟨_, rfl⟩
  have HQS := Lib.hid (show V.size = Z.size by rw [hV, hZ]; rfl)
  have HQ1 := Lib.hid (show V.all (·.oneCell') = true by rw [hV]; exact Cmd.cells_one c)
  rw [← hC] at AC HSC h1 h2 hw1 ⊢
  rw [← hV] at h1 h2 hq
  rw [← hZ] at z
  have HSZ := Lib.hid (show (Try.prog.info? 28).map (·.size) = some Z.size by rw [hZ]; exact sizeCmd)
  have HZP := Lib.hid (show 0 < Z.size by rw [hZ]; decide)
  have HSV := Lib.hid (show (Try.prog.info? 28).map (·.size) = some V.size by rw [HQS.out]; exact HSZ.out)
  have H1 := Lib.hid h1
  have H2 := Lib.hid h2
  have HAC := Lib.hid AC
  have HB1 := Lib.hid B1
  have HW1 := Lib.hid hw1
  have HKN := Lib.hid known_any
  obtain ⟨d, hd1, hd2⟩ := under64
  obtain ⟨d', hd3, hd4⟩ := underCmd
  clear AC B1 hw1 h1 h2 hC hZ hV hB
  go_enter Try.func4, Try.ntmps4
  go_upto_region 1 with fail
  rw [← HW1.out]
  go_upto_region 2 with (first
    | ((with_reducible show wpList _ _ _ (⟨some 8, _, _, _, _, _⟩ :: _) _ _); refine wpList_loadA rfl HAC.out 29 (.tmp 1) rfl rfl hd1 hd2 HSC.out ?_)
    | (go_at_call 13; refine (H1.out _).mono ?_; rintro e w2 ⟨rfl, hb⟩; have HAC2 := Lib.hid (HAC.out.below hb); have B2 := Lib.hid (HB1.out.trans (hb.mono HB1.out.size)); clear hb)
    | ((with_reducible show wpList _ _ _ (⟨some 3, _, _, _, _, _⟩ :: _) _ _); refine wpList_alloc rfl _ rfl z ?_)
    | ((with_reducible show wpList _ _ _ (⟨none, .store _ (.tmp 3) _, _, _, _, _⟩ :: _) _ _); refine wpList_storeA rfl (b := w2.heap.size) (A := Z) (A' := V) (ArrAt.fresh _ _ _ HZP.out) 28 (.tmp 3) (.tmp 10) rfl rfl rfl HSZ.out HQS.out HQ1.out ?_))
  obtain ⟨w3, hw3⟩ : ∃ z, z = (w2.alloc (.cells Z 28)).setCells w2.heap.size 0 V.toList := ⟨_, rfl⟩
  obtain ⟨b3, hb3⟩ : ∃ z, z = w2.heap.size := ⟨_, rfl⟩
  rw [← hw3, ← hb3]
  have hbw3 : Below w2.heap.size w2 w3 := by rw [hw3]; exact bstore ((Below.refl _ _).alloc (Nat.le_refl _) _) _ (Nat.le_refl _) _ _
  have Aw3 : ArrAt w3 b3 V := by rw [hw3, hb3]; exact (ArrAt.fresh _ _ _ HZP.out).store V HQS.out
  have HAw3 := Lib.hid Aw3
  have HAC3 := Lib.hid (HAC2.out.below hbw3)
  have B3 := Lib.hid (B2.out.trans (hbw3.mono B2.out.size))
  clear hw3 hbw3 Aw3 hb3
  clear HAC HAC2 HB1 B2
  go_upto_region 3 with (first
    | ((with_reducible show wpList _ _ _ (⟨some 13, _, _, _, _, _⟩ :: _) _ _); refine wpList_loadA rfl HAC3.out 29 (.tmp 1) rfl rfl hd1 hd2 HSC.out ?_)
    | (go_at_call 14; refine (H2.out _).mono ?_; rintro e w4 ⟨rfl, hb⟩; have HA4 := Lib.hid (HAw3.out.below hb); have B4 := Lib.hid (B3.out.trans (hb.mono B3.out.size)); clear hb)
    | ((with_reducible show wpList _ _ _ (⟨some 5, _, _, _, _, _⟩ :: _) _ _); refine wpList_alloc rfl _ rfl z ?_)
    | ((with_reducible show wpList _ _ _ (⟨none, .store _ (.tmp 5) _, _, _, _, _⟩ :: _) _ _); refine wpList_storeA rfl (b := w4.heap.size) (A := Z) (A' := V) (ArrAt.fresh _ _ _ HZP.out) 28 (.tmp 5) (.tmp 15) rfl rfl rfl HSZ.out HQS.out HQ1.out ?_))
  obtain ⟨w5, hw5⟩ : ∃ z, z = (w4.alloc (.cells Z 28)).setCells w4.heap.size 0 V.toList := ⟨_, rfl⟩
  obtain ⟨b5, hb5⟩ : ∃ z, z = w4.heap.size := ⟨_, rfl⟩
  rw [← hw5, ← hb5]
  have hbw5 : Below w4.heap.size w4 w5 := by rw [hw5]; exact bstore ((Below.refl _ _).alloc (Nat.le_refl _) _) _ (Nat.le_refl _) _ _
  have Aw5 : ArrAt w5 b5 V := by rw [hw5, hb5]; exact (ArrAt.fresh _ _ _ HZP.out).store V HQS.out
  have HAw5 := Lib.hid Aw5
  have HA35 := Lib.hid (HA4.out.below hbw5)
  have B5 := Lib.hid (B4.out.trans (hbw5.mono B4.out.size))
  clear hw5 hbw5 Aw5 hb5
  clear HAC3 B3 HA4 B4
  go_wp2_with (first
    | ((with_reducible show wpList _ _ _ (⟨some 17, _, _, _, _, _⟩ :: _) _ _); refine wpList_loadA rfl HA35.out 28 (.tmp 3) rfl rfl hd3 hd4 HSV.out ?_)
    | ((with_reducible show wpList _ _ _ (⟨some 18, _, _, _, _, _⟩ :: _) _ _); refine wpList_loadA rfl HAw5.out 28 (.tmp 5) rfl rfl hd3 hd4 HSV.out ?_)
    | (go_at_call 12; refine (HKN.out _).mono ?_; rintro e w6 ⟨rfl, hb⟩; have B6 := Lib.hid (B5.out.trans (hb.mono B5.out.size)); clear hb))
  go_ret
  exact ⟨rfl, B6.out⟩
end Go.Proofs.Ytggdjadhenamiaa
