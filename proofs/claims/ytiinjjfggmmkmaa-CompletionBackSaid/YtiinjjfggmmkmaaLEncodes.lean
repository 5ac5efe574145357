/- completion: the law CompletionEncodes. -/
import Derived.Test.YtiinjjfggmmkmaaKn
import Derived.Test.YtiinjjfggmmkmaaEq
import Derived.Test.YtiinjjfggmmkmaaTypes
namespace Go.Proofs.Ytiinjjfggmmkmaa
set_option linter.unusedVariables false
set_option linter.unusedSimpArgs false
open Go.RowKit Go.Deep

theorem underA16 : ∃ d, Try.prog.underlying 41 = some d ∧ d.isRow = true := ⟨_, Try.underlying41, rfl⟩
theorem cpl_pos (c : Cpl) : 0 < c.cells.size := Nat.zero_lt_succ 9
/-- what both sides return -/
theorem encodes_both (c : Cpl) (hc : c.Ok) : ∃ (q : Array Value) (n : Int), BytesA 16 q ∧ (∀ w, Calls Try.prog 16 #[.agg c.cells] w fun e w' => e = .returned (.tuple #[.agg q, .int .i64 n]) ∧ Below w.heap.size w w') ∧
    (∀ w, Calls Try.prog 17 #[.agg c.cells] w fun e w' => e = .returned (.tuple #[.agg q, .int .i64 n]) ∧ Below w.heap.size w w') := by
  by_cases hg : c.ty ≤ 7
  · exact ⟨_, 0, ⟨_, rfl⟩, fun w => pencode_ok c w hc hg, fun w => rpencode_ok c w hc hg⟩
  · have hg : 7 < c.ty := by omega
    exact ⟨_, 2, ⟨fun _ => 0, rfl⟩, fun w => pencode_err c w hg, fun w => rpencode_err c w hg⟩

set_option maxRecDepth 100000 in
set_option maxHeartbeats 4000000 in
theorem encodesLaw (c : Cpl) (w : World) (hc : c.Ok) :
    Calls Try.prog 5 #[c.v] w fun e w' => e = .returned (.bool true) ∧ Below w.heap.size w w' := by
  obtain ⟨V, n, hv, h1, h2⟩ := encodes_both c hc
  have hq := hv.eql16
  have HQS := Lib.hid (show V.size = (arr 16 z16).size by rw [hv.size, arr_size])
  have HQ1 := Lib.hid hv.one
  obtain ⟨w1, hw1⟩ : ∃ w1, w1 = w.alloc (.cells c.cells 40) := ⟨_, rfl⟩
  have AC : ArrAt w1 w.heap.size c.cells := by rw [hw1]; exact ArrAt.fresh _ _ _ (cpl_pos c)
  have B1 : Below w.heap.size w w1 := by rw [hw1]; exact (Below.refl _ _).alloc (Nat.le_refl _) _
  have z := zero16
  have HSC := Lib.hid (show (Try.prog.info? 40).map (·.size) = some c.cells.size from size10)
  obtain ⟨C, hC⟩ : ∃ C, C = c.cells := ⟨_, rfl⟩
  obtain ⟨Z, hZ⟩ : ∃ Z, Z = arr 16 z16 := ⟨_, rfl⟩
  unfold Cpl.v
  rw [← hC] at AC HSC h1 h2 hw1 ⊢
  rw [← hZ] at z HQS
  have HSZ := Lib.hid (show (Try.prog.info? 41).map (·.size) = some Z.size by rw [hZ, arr_size]; exact size16)
  have HZP := Lib.hid (show 0 < Z.size by rw [hZ, arr_size]; decide)
  have HSV := Lib.hid (show (Try.prog.info? 41).map (·.size) = some V.size by rw [HQS.out]; exact HSZ.out)
  have H1 := Lib.hid h1
  have H2 := Lib.hid h2
  have HAC := Lib.hid AC
  have HB1 := Lib.hid B1
  have HW1 := Lib.hid hw1
  have HKN := Lib.hid known_any
  obtain ⟨d, hd1, hd2⟩ := under16
  obtain ⟨d', hd3, hd4⟩ := underA16
  clear AC B1 hw1 h1 h2 hC hZ hv
  go_enter Try.func5, Try.ntmps5
  go_upto_region 1 with fail
  rw [← HW1.out]
  go_upto_region 2 with (first
    | ((with_reducible show wpList _ _ _ (⟨some 8, _, _, _, _, _⟩ :: _) _ _); refine wpList_loadA rfl HAC.out 40 (.tmp 1) rfl rfl hd1 hd2 HSC.out ?_)
    | (go_at_call 16; refine (H1.out _).mono ?_; rintro e w2 ⟨rfl, hb⟩; have HAC2 := Lib.hid (HAC.out.below hb); have B2 := Lib.hid (HB1.out.trans (hb.mono HB1.out.size)); clear hb)
    | ((with_reducible show wpList _ _ _ (⟨some 3, _, _, _, _, _⟩ :: _) _ _); refine wpList_alloc rfl _ rfl z ?_)
    | ((with_reducible show wpList _ _ _ (⟨none, .store _ (.tmp 3) _, _, _, _, _⟩ :: _) _ _); refine wpList_storeA rfl (b := w2.heap.size) (A := Z) (A' := V) (ArrAt.fresh _ _ _ HZP.out) 41 (.tmp 3) (.tmp 10) rfl rfl rfl HSZ.out HQS.out HQ1.out ?_))
  obtain ⟨w3, hw3⟩ : ∃ z, z = (w2.alloc (.cells Z 41)).setCells w2.heap.size 0 V.toList := ⟨_, rfl⟩
  obtain ⟨b3, hb3⟩ : ∃ z, z = w2.heap.size := ⟨_, rfl⟩
  rw [← hw3, ← hb3]
  have hbw3 : Below w2.heap.size w2 w3 := by rw [hw3]; exact bstore ((Below.refl _ _).alloc (Nat.le_refl _) _) _ (Nat.le_refl _) _ _
  have Aw3 : ArrAt w3 b3 V := by rw [hw3, hb3]; exact (ArrAt.fresh _ _ _ HZP.out).store V HQS.out
  have HAw3 := Lib.hid Aw3
  have HAC3 := Lib.hid (HAC2.out.below hbw3)
  have B3 := Lib.hid (B2.out.trans (hbw3.mono B2.out.size))
  clear hw3 hbw3 Aw3 hb3
  clear HAC HAC2 HB1 B2
  go_upto_region 3 with (first
    | ((with_reducible show wpList _ _ _ (⟨some 13, _, _, _, _, _⟩ :: _) _ _); refine wpList_loadA rfl HAC3.out 40 (.tmp 1) rfl rfl hd1 hd2 HSC.out ?_)
    | (go_at_call 17; refine (H2.out _).mono ?_; rintro e w4 ⟨rfl, hb⟩; have HA4 := Lib.hid (HAw3.out.below hb); have B4 := Lib.hid (B3.out.trans (hb.mono B3.out.size)); clear hb)
    | ((with_reducible show wpList _ _ _ (⟨some 5, _, _, _, _, _⟩ :: _) _ _); refine wpList_alloc rfl _ rfl z ?_)
    | ((with_reducible show wpList _ _ _ (⟨none, .store _ (.tmp 5) _, _, _, _, _⟩ :: _) _ _); refine wpList_storeA rfl (b := w4.heap.size) (A := Z) (A' := V) (ArrAt.fresh _ _ _ HZP.out) 41 (.tmp 5) (.tmp 15) rfl rfl rfl HSZ.out HQS.out HQ1.out ?_))
  obtain ⟨w5, hw5⟩ : ∃ z, z = (w4.alloc (.cells Z 41)).setCells w4.heap.size 0 V.toList := ⟨_, rfl⟩
  obtain ⟨b5, hb5⟩ : ∃ z, z = w4.heap.size := ⟨_, rfl⟩
  rw [← hw5, ← hb5]
  have hbw5 : Below w4.heap.size w4 w5 := by rw [hw5]; exact bstore ((Below.refl _ _).alloc (Nat.le_refl _) _) _ (Nat.le_refl _) _ _
  have Aw5 : ArrAt w5 b5 V := by rw [hw5, hb5]; exact (ArrAt.fresh _ _ _ HZP.out).store V HQS.out
  have HAw5 := Lib.hid Aw5
  have HA35 := Lib.hid (HA4.out.below hbw5)
  have B5 := Lib.hid (B4.out.trans (hbw5.mono B4.out.size))
  clear hw5 hbw5 Aw5 hb5
  clear HAC3 B3 HA4 B4
  go_wp2_with (first
    | ((with_reducible show wpList _ _ _ (⟨some 17, _, _, _, _, _⟩ :: _) _ _); refine wpList_loadA rfl HAw5.out 41 (.tmp 3) rfl rfl hd3 hd4 HSV.out ?_)
    | ((with_reducible show wpList _ _ _ (⟨some 17, _, _, _, _, _⟩ :: _) _ _); refine wpList_loadA rfl HA35.out 41 (.tmp 3) rfl rfl hd3 hd4 HSV.out ?_)
    | ((with_reducible show wpList _ _ _ (⟨some 18, _, _, _, _, _⟩ :: _) _ _); refine wpList_loadA rfl HAw5.out 41 (.tmp 5) rfl rfl hd3 hd4 HSV.out ?_)
    | (go_at_call 13; refine (HKN.out _).mono ?_; rintro e w6 ⟨rfl, hb⟩; have B6 := Lib.hid (B5.out.trans (hb.mono B5.out.size)); clear hb))
  go_ret
  exact ⟨rfl, B6.out⟩
end Go.Proofs.Ytiinjjfggmmkmaa
