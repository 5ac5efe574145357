/- command: the law CommandPuts. -/
import Derived.Test.YtggdjadhenamiaaKn
import Derived.Test.YtggdjadhenamiaaIq
import Derived.Test.YtggdjadhenamiaaCe
namespace Go.Proofs.Ytggdjadhenamiaa
set_option linter.unusedVariables false
set_option linter.unusedSimpArgs false
open Go.RowKit Go.ChangeShapes Go.WideShapes Go.ChangeAt Go.Deep

theorem cmd_pos2 (c : Cmd) : 0 < c.cells.size := Nat.zero_lt_succ 15
theorem io_pos (x : Io) : 0 < x.cells.size := Nat.zero_lt_succ 7
theorem sizeIo : (Try.prog.info? 43).map (·.size) = some 8 := by kernel_rfl
theorem underIo : ∃ d, Try.prog.underlying 43 = some d ∧ d.isRow = true := ⟨_, Try.underlying43, rfl⟩
theorem cmd_one (c : Cmd) : c.cells.all (·.oneCell') = true := by simp [Cmd.cells, Value.oneCell']
/-- what both sides return -/
theorem puts_both (c : Cmd) (x : Io) (hc : c.Ok) (hx : x.Ok) : ∃ (q : Cmd) (n : Int), (∀ w, Calls Try.prog 15 #[.agg c.cells, .agg x.cells] w fun e w' => e = .returned (.tuple #[.agg q.cells, .int .i64 n]) ∧ Below w.heap.size w w') ∧
    (∀ w, Calls Try.prog 16 #[.agg c.cells, .agg x.cells] w fun e w' => e = .returned (.tuple #[.agg q.cells, .int .i64 n]) ∧ Below w.heap.size w w') := by
  by_cases hg : x.good
  · exact ⟨putIo c x, 0, fun w => putio_ok c x hc hx hg w, fun w => rputio_ok c x hc hx hg w⟩
  · exact ⟨oCmd, 2, fun w => putio_err c x hc hx hg w, fun w => rputio_err c x hc hx hg w⟩

set_option maxRecDepth 100000 in
set_option maxHeartbeats 4000000 in
theorem putsLaw (c : Cmd) (x : Io) (w : World) (hc : c.Ok) (hx : x.Ok) :
    Calls Try.prog 5 #[c.v, .agg x.cells] w fun e w' => e = .returned (.bool true) ∧ Below w.heap.size w w' := by
  obtain ⟨q, n, h1, h2⟩ := puts_both c x hc hx
  have hq := eqCmd q
  have HQS := Lib.hid (show q.cells.size = zCmdC.size from rfl)
  have HQ1 := Lib.hid (cmd_one q)
  obtain ⟨w1, hw1⟩ : ∃ w1, w1 = (w.alloc (.cells c.cells 28)).alloc (.cells x.cells 43) := ⟨_, rfl⟩
  have AC : ArrAt w1 w.heap.size c.cells := by rw [hw1]; exact (ArrAt.fresh _ _ _ (cmd_pos2 c)).alloc _
  have AI : ArrAt w1 (w.heap.size + 1) x.cells := by
    rw [hw1]
    have := ArrAt.fresh (w.alloc (.cells c.cells 28)) x.cells 43 (io_pos x)
    rwa [World.size_alloc] at this
  have B1 : Below w.heap.size w w1 := by rw [hw1]; exact ((Below.refl _ _).alloc (Nat.le_refl _) _).alloc (by simp) _
  have z := zeroCmd
  have HSC := Lib.hid (show (Try.prog.info? 28).map (·.size) = some c.cells.size from sizeCmd)
  have HSI := Lib.hid (show (Try.prog.info? 43).map (·.size) = some x.cells.size from sizeIo)
  obtain ⟨C, hC⟩ : ∃ C, C = c.cells := ⟨_, rfl⟩
  obtain ⟨I, hI⟩ : ∃ I, I = x.cells := ⟨_, rfl⟩
  obtain ⟨V, hV⟩ : ∃ V, V = q.cells := ⟨_, rfl⟩
  obtain ⟨Z, hZ⟩ : ∃ Z, Z = zCmdC := ⟨_, rfl⟩
  unfold Cmd.v at hq ⊢
  rw [← hC] at AC HSC h1 h2 hw1 ⊢
  rw [← hI] at AI HSI h1 h2 hw1 ⊢
  rw [← hV] at h1 h2 hq HQS HQ1
  rw [← hZ] at z HQS
  have HSZ := Lib.hid (show (Try.prog.info? 28).map (·.size) = some Z.size by rw [hZ]; exact sizeCmd)
  have HZP := Lib.hid (show 0 < Z.size by rw [hZ]; decide)
  have HSV := Lib.hid (show (Try.prog.info? 28).map (·.size) = some V.size by rw [HQS.out]; exact HSZ.out)
  have H1 := Lib.hid h1
  have H2 := Lib.hid h2
  have HAC := Lib.hid AC
  have HAI := Lib.hid AI
  have HB1 := Lib.hid B1
  have HW1 := Lib.hid hw1
  have HKN := Lib.hid known_any
  obtain ⟨d, hd1, hd2⟩ := underCmd
  obtain ⟨d', hd3, hd4⟩ := underIo
  clear AC AI B1 hw1 h1 h2 hC hI hV hZ
  go_enter Try.func5, Try.ntmps5
  go_upto_region 1 with fail
  rw [← HW1.out]
  go_upto_region 2 with (first
    | ((with_reducible show wpList _ _ _ (⟨some 10, _, _, _, _, _⟩ :: _) _ _); refine wpList_loadA rfl HAC.out 28 (.tmp 2) rfl rfl hd1 hd2 HSC.out ?_)
    | ((with_reducible show wpList _ _ _ (⟨some 11, _, _, _, _, _⟩ :: _) _ _); refine wpList_loadA rfl HAI.out 43 (.tmp 3) rfl rfl hd3 hd4 HSI.out ?_)
    | (go_at_call 15; refine (H1.out _).mono ?_; rintro e w2 ⟨rfl, hb⟩; have HAC2 := Lib.hid (HAC.out.below hb); have HAI2 := Lib.hid (HAI.out.below hb); have B2 := Lib.hid (HB1.out.trans (hb.mono HB1.out.size)); clear hb)
    | ((with_reducible show wpList _ _ _ (⟨some 5, _, _, _, _, _⟩ :: _) _ _); refine wpList_alloc rfl _ rfl z ?_)
    | ((with_reducible show wpList _ _ _ (⟨none, .store _ (.tmp 5) _, _, _, _, _⟩ :: _) _ _); refine wpList_storeA rfl (b := w2.heap.size) (A := Z) (A' := V) (ArrAt.fresh _ _ _ HZP.out) 28 (.tmp 5) (.tmp 13) rfl rfl rfl HSZ.out HQS.out HQ1.out ?_))
  obtain ⟨w3, hw3⟩ : ∃ z, z = (w2.alloc (.cells Z 28)).setCells w2.heap.size 0 V.toList := ⟨_, rfl⟩
  obtain ⟨b3, hb3⟩ : ∃ z, z = w2.heap.size := ⟨_, rfl⟩
  rw [← hw3, ← hb3]
  have hbw3 : Below w2.heap.size w2 w3 := by rw [hw3]; exact bstore ((Below.refl _ _).alloc (Nat.le_refl _) _) _ (Nat.le_refl _) _ _
  have Aw3 : ArrAt w3 b3 V := by rw [hw3, hb3]; exact (ArrAt.fresh _ _ _ HZP.out).store V HQS.out
  have HAw3 := Lib.hid Aw3
  have HAC3 := Lib.hid (HAC2.out.below hbw3)
  have HAI3 := Lib.hid (HAI2.out.below hbw3)
  have B3 := Lib.hid (B2.out.trans (hbw3.mono B2.out.size))
  clear hw3 hbw3 Aw3 hb3
  clear HAC HAI HAC2 HAI2 HB1 B2
  go_upto_region 3 with (first
    | ((with_reducible show wpList _ _ _ (⟨some 16, _, _, _, _, _⟩ :: _) _ _); refine wpList_loadA rfl HAC3.out 28 (.tmp 2) rfl rfl hd1 hd2 HSC.out ?_)
    | ((with_reducible show wpList _ _ _ (⟨some 17, _, _, _, _, _⟩ :: _) _ _); refine wpList_loadA rfl HAI3.out 43 (.tmp 3) rfl rfl hd3 hd4 HSI.out ?_)
    | (go_at_call 16; refine (H2.out _).mono ?_; rintro e w4 ⟨rfl, hb⟩; have HA4 := Lib.hid (HAw3.out.below hb); have B4 := Lib.hid (B3.out.trans (hb.mono B3.out.size)); clear hb)
    | ((with_reducible show wpList _ _ _ (⟨some 7, _, _, _, _, _⟩ :: _) _ _); refine wpList_alloc rfl _ rfl z ?_)
    | ((with_reducible show wpList _ _ _ (⟨none, .store _ (.tmp 7) _, _, _, _, _⟩ :: _) _ _); refine wpList_storeA rfl (b := w4.heap.size) (A := Z) (A' := V) (ArrAt.fresh _ _ _ HZP.out) 28 (.tmp 7) (.tmp 19) rfl rfl rfl HSZ.out HQS.out HQ1.out ?_))
  obtain ⟨w5, hw5⟩ : ∃ z, z = (w4.alloc (.cells Z 28)).setCells w4.heap.size 0 V.toList := ⟨_, rfl⟩
  obtain ⟨b5, hb5⟩ : ∃ z, z = w4.heap.size := ⟨_, rfl⟩
  rw [← hw5, ← hb5]
  have hbw5 : Below w4.heap.size w4 w5 := by rw [hw5]; exact bstore ((Below.refl _ _).alloc (Nat.le_refl _) _) _ (Nat.le_refl _) _ _
  have Aw5 : ArrAt w5 b5 V := by rw [hw5, hb5]; exact (ArrAt.fresh _ _ _ HZP.out).store V HQS.out
  have HAw5 := Lib.hid Aw5
  have HA35 := Lib.hid (HA4.out.below hbw5)
  have B5 := Lib.hid (B4.out.trans (hbw5.mono B4.out.size))
  clear hw5 hbw5 Aw5 hb5
  clear HAC3 HAI3 B3 HA4 B4
  go_wp2_with (first
    | ((with_reducible show wpList _ _ _ (⟨some 21, _, _, _, _, _⟩ :: _) _ _); refine wpList_loadA rfl HA35.out 28 (.tmp 5) rfl rfl hd1 hd2 HSV.out ?_)
    | ((with_reducible show wpList _ _ _ (⟨some 22, _, _, _, _, _⟩ :: _) _ _); refine wpList_loadA rfl HAw5.out 28 (.tmp 7) rfl rfl hd1 hd2 HSV.out ?_)
    | (go_at_call 12; refine (HKN.out _).mono ?_; rintro e w6 ⟨rfl, hb⟩; have B6 := Lib.hid (B5.out.trans (hb.mono B5.out.size)); clear hb))
  go_ret
  exact ⟨rfl, B6.out⟩

def lsIo : List Leaf := [lU64, lI64, lB, lB, lU8, lU32, lU16, lU16]
set_option maxRecDepth 100000 in
theorem flIo : FlatT Try.prog 43 lsIo :=
  FlatT.struct [(0, [lU64]), (1, [lI64]), (2, [lB]), (3, [lB]), (4, [lU8]), (5, [lU32]), (6, [lU16]), (7, [lU16])] Try.underlying43 (by kernel_rfl)
    (fun i s hs => by
      match i, hs with
      | 0, hs => cases hs; exact ⟨_, rfl, rfl, flU64⟩
      | 1, hs => cases hs; exact ⟨_, rfl, rfl, flI64⟩
      | 2, hs => cases hs; exact ⟨_, rfl, rfl, flB⟩
      | 3, hs => cases hs; exact ⟨_, rfl, rfl, flB⟩
      | 4, hs => cases hs; exact ⟨_, rfl, rfl, flU8⟩
      | 5, hs => cases hs; exact ⟨_, rfl, rfl, flU32⟩
      | 6, hs => cases hs; exact ⟨_, rfl, rfl, flU16⟩
      | 7, hs => cases hs; exact ⟨_, rfl, rfl, flU16⟩
      | n + 8, hs => simp at hs) (by decide)
def ioOf (V : Nat → Value) : Io := { lba := vN (V 0), bl := vN (V 1), li := vB (V 2), un := vB (V 3), ck := vN (V 4), rf := vN (V 5), app := vN (V 6), mask := vN (V 7) }
theorem ioOf_spec {V : Nat → Value} (h : ∀ (j : Nat) l, lsIo[j]? = some l → leafOk l (V j)) : (∀ j, j < 8 → (ioOf V).cells[j]? = some (V j)) ∧ (ioOf V).Ok := by
  have h0 := leaf_int (h 0 lU64 rfl)
  have h1 := leaf_int (h 1 lI64 rfl)
  have h2 := leaf_bool (h 2 lB rfl)
  have h3 := leaf_bool (h 3 lB rfl)
  have h4 := leaf_int (h 4 lU8 rfl)
  have h5 := leaf_int (h 5 lU32 rfl)
  have h6 := leaf_int (h 6 lU16 rfl)
  have h7 := leaf_int (h 7 lU16 rfl)
  refine ⟨fun j hj => ?_, ⟨wf_u64 h0.2, wf_i64 h1.2, wf_u8 h4.2, wf_u32 h5.2, wf_u16 h6.2, wf_u16 h7.2⟩⟩
  match j, hj with
  | 0, _ => exact congrArg some h0.1.symm
  | 1, _ => exact congrArg some h1.1.symm
  | 2, _ => exact congrArg some h2.symm
  | 3, _ => exact congrArg some h3.symm
  | 4, _ => exact congrArg some h4.1.symm
  | 5, _ => exact congrArg some h5.1.symm
  | 6, _ => exact congrArg some h6.1.symm
  | 7, _ => exact congrArg some h7.1.symm
  | n + 8, h => exact absurd h (by omega)
set_option maxRecDepth 100000 in
theorem io_view {H : Type} {enc : TypeId × Value → H} {base : Nat} (W : World) (u : Value) (d : DataW H) (p : List MemPlace) (hok : Value.okWide Try.prog W .any base 43 u)
    (h : DataW.Trod enc Try.prog W 0 (fun _ => true) true 43 u d p) : ∃ x : Io, u = .agg x.cells ∧ x.Ok := by
  obtain ⟨cs, rfl, -⟩ := okWide_struct Try.underlying43 hok
  obtain ⟨V, e, hV⟩ := flIo.view W _ d p ⟨_, rfl⟩ h
  obtain ⟨h1, h2⟩ := ioOf_spec hV
  exact ⟨ioOf V, by rw [e]; exact congrArg Value.agg (arr_eq rfl h1), h2⟩
def zIo : Array Value := #[.int .u64 0, .int .i64 0, .bool false, .bool false, .int .u8 0, .int .u32 0, .int .u16 0, .int .u16 0]
end Go.Proofs.Ytggdjadhenamiaa
