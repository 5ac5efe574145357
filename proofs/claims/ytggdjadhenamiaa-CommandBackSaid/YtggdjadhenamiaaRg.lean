/- command: the reference's Decode. -/
import Derived.Test.YtggdjadhenamiaaRe
import Derived.Deep.CutRange
namespace Go.Proofs.Ytggdjadhenamiaa
set_option linter.unusedVariables false
set_option linter.unusedSimpArgs false
open Go.RowKit

theorem buildCmd0 (w : World) : (Instr.build 28 #[]).run Try.prog w = .ok (.agg zCmdC) w := by kernel_rfl

/-- The blocks that Decode makes first. -/
theorem rcdec_start (B : Nat → Int) (w W : World) (hW : W = (w.alloc (.cells (arr 64 fun j => .int .u8 (B j)) 29)).alloc (.cells zCmdC 28)) :
    ArrAt W w.heap.size (arr 64 fun j => .int .u8 (B j)) ∧ ArrAt W (w.heap.size + 1) zCmdC ∧ Below w.heap.size w W ∧ W.heap.size = w.heap.size + 2 := by
  subst hW
  refine ⟨(ArrAt.fresh _ _ _ (by rw [arr_size]; omega)).alloc _, ?_, ((Below.refl _ _).alloc (Nat.le_refl _) _).alloc (by simp) _, by simp⟩
  have h := ArrAt.fresh (w.alloc (.cells (arr 64 fun j => .int .u8 (B j)) 29)) zCmdC 28 (by decide)
  rwa [World.size_alloc] at h

set_option maxRecDepth 100000 in
set_option maxHeartbeats 4000000 in
theorem rcdec_bad (B : Nat → Int) (w : World) (hB : ∀ j, 0 ≤ B j ∧ B j ≤ 255) (h : ¬ goodB B) :
   Calls Try.prog 14 #[arrB64 B] w fun e w' => e = .returned (.tuple #[.agg zCmdC, .int .i64 6]) ∧ Below w.heap.size w w' := by
  obtain ⟨hb0, hb1⟩ := hB 1
  have h3 : B 1 / 4 % 16 ≠ 0 ∨ (B 1 / 4 % 16 = 0 ∧ B 1 % 4 = 3) ∨ (B 1 / 4 % 16 = 0 ∧ B 1 % 4 ≠ 3 ∧ 1 < B 1 / 64) := by unfold goodB at h; omega
  unfold arrB64
  have hst := Lib.hid (rcdec_start B w)
  obtain ⟨A16, hA⟩ : ∃ A, A = arr 64 fun j => Value.int .u8 (B j) := ⟨_, rfl⟩
  have HA1 := Lib.hid (show A16[1]? = some (.int .u8 (B 1)) by rw [hA]; exact arr_get 64 _ 1 (by omega))
  have z := zeroCmd
  have zb := buildCmd0
  obtain ⟨Z, hZ⟩ : ∃ Z, Z = zCmdC := ⟨_, rfl⟩
  rw [← hA, ← hZ] at hst
  rw [← hZ] at z zb ⊢
  rw [← hA]
  have HZ1 := Lib.hid (show Z.all (·.oneCell') = true by rw [hZ]; simp [zCmdC, Value.oneCell'])
  have HZS := Lib.hid (show (Try.prog.info? 28).map (·.size) = some Z.size by rw [hZ]; exact sizeCmd)
  have hf : ∃ f, f = B 1 := ⟨_, rfl⟩
  obtain ⟨f, hf⟩ := hf
  rw [← hf] at hb0 hb1 h3 HA1
  have H3 := Lib.hid h3
  obtain ⟨d, hd1, hd2⟩ := underCmd
  clear hA hZ hf h hB h3
  go_enter Try.func14, Try.ntmps14
  go_upto_region 1 with ((with_reducible show wpList _ _ _ (⟨some 2, _, _, _, _, _⟩ :: _) _ _); refine wpList_alloc rfl _ rfl z ?_; rw [show (Value.agg Z).cells = Z from rfl])
  obtain ⟨W, hW⟩ : ∃ W, W = (w.alloc (.cells A16 29)).alloc (.cells Z 28) := ⟨_, rfl⟩
  rw [← hW]
  obtain ⟨a1, a2, hbW, hsW⟩ := hst.out W hW
  have c1 := a1.cell HA1.out
  have A2 := Lib.hid a2
  have HB := Lib.hid hbW
  clear a1 a2 hbW hW
  rcases H3.out with h3 | ⟨h3, h4⟩ | ⟨h3, h4, h5⟩
  · have q1 : (f / 4 % 16 != 0) = true := by simp; omega
    have q1' : (f / 4 % 16 == 0) = false := by simp; omega
    clear h3
    go_wp2_with (first
      | ((with_reducible show wpList _ _ _ (⟨some 23, _, _, _, _, _⟩ :: _) _ _); refine wpList_build0 rfl 28 rfl (zb _) ?_)
      | ((with_reducible show wpList _ _ _ (⟨none, _, _, _, _, _⟩ :: _) _ _); refine wpList_storeA rfl (b := w.heap.size + 1) (A := Z) (A' := Z) A2.out 28 (.tmp 2) (.tmp 23) rfl (by simp [Act.eval, Act.put]) (by simp [Act.eval, Act.put]) HZS.out rfl HZ1.out ?_))
    have AZ := Lib.hid (A2.out.store Z rfl)
    exact bodyPost_ret (results_ct rfl _ _ _ AZ.out rfl hd1 hd2 HZS.out) rfl ⟨by simp, bstore HB.out _ (by omega) _ _⟩
  · have q1 : (f / 4 % 16 != 0) = false := by simp; omega
    have q1' : (f / 4 % 16 == 0) = true := by simp; omega
    have q2 : (f % 4 == 3) = true := by simp; omega
    clear h3 h4
    go_wp2_with (first
      | ((with_reducible show wpList _ _ _ (⟨some 23, _, _, _, _, _⟩ :: _) _ _); refine wpList_build0 rfl 28 rfl (zb _) ?_)
      | ((with_reducible show wpList _ _ _ (⟨none, _, _, _, _, _⟩ :: _) _ _); refine wpList_storeA rfl (b := w.heap.size + 1) (A := Z) (A' := Z) A2.out 28 (.tmp 2) (.tmp 23) rfl (by simp [Act.eval, Act.put]) (by simp [Act.eval, Act.put]) HZS.out rfl HZ1.out ?_))
    have AZ := Lib.hid (A2.out.store Z rfl)
    exact bodyPost_ret (results_ct rfl _ _ _ AZ.out rfl hd1 hd2 HZS.out) rfl ⟨by simp, bstore HB.out _ (by omega) _ _⟩
  · have q1 : (f / 4 % 16 != 0) = false := by simp; omega
    have q1' : (f / 4 % 16 == 0) = true := by simp; omega
    have q2 : (f % 4 == 3) = false := by simp; omega
    have q3 : decide (1 < f / 64) = true := by simp; omega
    clear h3 h4 h5
    go_wp2_with (first
      | ((with_reducible show wpList _ _ _ (⟨some 23, _, _, _, _, _⟩ :: _) _ _); refine wpList_build0 rfl 28 rfl (zb _) ?_)
      | ((with_reducible show wpList _ _ _ (⟨none, _, _, _, _, _⟩ :: _) _ _); refine wpList_storeA rfl (b := w.heap.size + 1) (A := Z) (A' := Z) A2.out 28 (.tmp 2) (.tmp 23) rfl (by simp [Act.eval, Act.put]) (by simp [Act.eval, Act.put]) HZS.out rfl HZ1.out ?_))
    have AZ := Lib.hid (A2.out.store Z rfl)
    exact bodyPost_ret (results_ct rfl _ _ _ AZ.out rfl hd1 hd2 HZS.out) rfl ⟨by simp, bstore HB.out _ (by omega) _ _⟩

theorem le1 (B : Nat → Int) (q : Nat) : le B q 1 = B q := by simp [le]
theorem le2 (B : Nat → Int) (q : Nat) : le B q 2 = B q + B (q + 1) * 256 := by simp [le]

set_option maxRecDepth 100000 in
set_option maxHeartbeats 8000000 in
theorem rcdec_ok (B : Nat → Int) (w : World) (hB : ∀ j, 0 ≤ B j ∧ B j ≤ 255) (h : goodB B) :
   Calls Try.prog 14 #[arrB64 B] w fun e w' => e = .returned (.tuple #[(dCmd B).v, .int .i64 0]) ∧ Below w.heap.size w w' := by
  have HB := Lib.hid hB
  obtain ⟨g1, g2, g3⟩ := h
  unfold arrB64
  have hst := Lib.hid (rcdec_start B w)
  obtain ⟨A16, hA⟩ : ∃ A, A = arr 64 fun j => Value.int .u8 (B j) := ⟨_, rfl⟩
  have HAG := Lib.hid (show ∀ i, i < 64 → A16[i]? = some (.int .u8 (B i)) by intro i hi; rw [hA]; exact arr_get 64 _ i hi)
  have HDW := Lib.hid (show ∀ (i : Nat) (W : World), i < 16 → Calls Try.prog 32 #[.agg A16, .int .i64 i] W fun e w' => e = .returned (.int .u32 (le B (4 * i) 4)) ∧ Below W.heap.size W w' from fun i W hi => dword_ok B A16 i W HB.out hi hA)
  have HLG := Lib.hid (show ∀ (i : Nat) (W : World), i < 15 → Calls Try.prog 33 #[.agg A16, .int .i64 i] W fun e w' => e = .returned (.int .u64 (le B (4 * i) 8)) ∧ Below W.heap.size W w' from fun i W hi => long_ok B A16 i W HB.out hi hA)
  have HA64 := Lib.hid (show A16.size = 64 by rw [hA, arr_size])
  have HSA := Lib.hid (show (Try.prog.info? 29).map (·.size) = some A16.size by rw [hA, arr_size]; exact size64)
  have z := zeroCmd
  obtain ⟨Z, hZ⟩ : ∃ Z, Z = zCmdC := ⟨_, rfl⟩
  rw [← hA, ← hZ] at hst
  rw [← hZ] at z
  rw [← hA]
  have HZS := Lib.hid (show Z.size = 16 by rw [hZ]; rfl)
  have HAL := Lib.hid (show ∀ w : World, ArrAt (w.alloc (.cells Z 28)) w.heap.size Z from fun w => ArrAt.fresh _ _ _ (by rw [hZ]; decide))
  obtain ⟨l0, u0⟩ := hB 0
  obtain ⟨l1, u1⟩ := hB 1
  obtain ⟨l2, u2⟩ := hB 2
  obtain ⟨l3, u3⟩ := hB 3
  have HC0 := HAG.out 0 (by omega)
  have HC1 := HAG.out 1 (by omega)
  have HC2 := HAG.out 2 (by omega)
  have HC3 := HAG.out 3 (by omega)
  have hid2 : le B 2 2 = B 2 + B 3 * 256 := le2 B 2
  have HW1 := Lib.hid (show ∀ W, Calls Try.prog 32 #[.agg A16, .int .i64 1] W fun e w' => e = .returned (.int .u32 (le B 4 4)) ∧ Below W.heap.size W w' from fun W => HDW.out 1 W (by omega))
  have HW2 := Lib.hid (show ∀ W, Calls Try.prog 32 #[.agg A16, .int .i64 2] W fun e w' => e = .returned (.int .u32 (le B 8 4)) ∧ Below W.heap.size W w' from fun W => HDW.out 2 W (by omega))
  have HW3 := Lib.hid (show ∀ W, Calls Try.prog 32 #[.agg A16, .int .i64 3] W fun e w' => e = .returned (.int .u32 (le B 12 4)) ∧ Below W.heap.size W w' from fun W => HDW.out 3 W (by omega))
  have HL4 := Lib.hid (show ∀ W, Calls Try.prog 33 #[.agg A16, .int .i64 4] W fun e w' => e = .returned (.int .u64 (le B 16 8)) ∧ Below W.heap.size W w' from fun W => HLG.out 4 W (by omega))
  have HL6 := Lib.hid (show ∀ W, Calls Try.prog 33 #[.agg A16, .int .i64 6] W fun e w' => e = .returned (.int .u64 (le B 24 8)) ∧ Below W.heap.size W w' from fun W => HLG.out 6 W (by omega))
  have HL8 := Lib.hid (show ∀ W, Calls Try.prog 33 #[.agg A16, .int .i64 8] W fun e w' => e = .returned (.int .u64 (le B 32 8)) ∧ Below W.heap.size W w' from fun W => HLG.out 8 W (by omega))
  obtain ⟨x0, e0⟩ : ∃ x, x = B 0 := ⟨_, rfl⟩
  obtain ⟨x1, e1⟩ : ∃ x, x = B 1 := ⟨_, rfl⟩
  obtain ⟨y2, e2⟩ : ∃ x, x = B 2 := ⟨_, rfl⟩
  obtain ⟨y3, e9⟩ : ∃ x, x = B 3 := ⟨_, rfl⟩
  obtain ⟨x3, e3⟩ : ∃ x, x = le B 4 4 := ⟨_, rfl⟩
  obtain ⟨x4, e4⟩ : ∃ x, x = le B 8 4 := ⟨_, rfl⟩
  obtain ⟨x5, e5⟩ : ∃ x, x = le B 12 4 := ⟨_, rfl⟩
  obtain ⟨x6, e6⟩ : ∃ x, x = le B 16 8 := ⟨_, rfl⟩
  obtain ⟨x7, e7⟩ : ∃ x, x = le B 24 8 := ⟨_, rfl⟩
  obtain ⟨x8, e8⟩ : ∃ x, x = le B 32 8 := ⟨_, rfl⟩
  have HD : Hid (∀ a0 a1 a2 a3 a4 a5 : Int, a0 = le B 40 4 → a1 = le B 44 4 → a2 = le B 48 4 → a3 = le B 52 4 → a4 = le B 56 4 → a5 = le B 60 4 → (dCmd B).v = .agg #[.int .u8 x0, .int .u8 (x1 % 4), .bool (x1 / 64 == 1), .int .u16 (y2 + y3 * 256), .int .u32 x3, .int .u32 x4, .int .u32 x5, .int .u64 x6, .int .u64 x7, .int .u64 x8, .int .u32 a0, .int .u32 a1, .int .u32 a2, .int .u32 a3, .int .u32 a4, .int .u32 a5]) := Lib.hid (by rintro _ _ _ _ _ _ rfl rfl rfl rfl rfl rfl; rw [e0, e1, e2, e9, e3, e4, e5, e6, e7, e8, ← hid2]; rfl)
  rw [← e0] at l0 u0 HC0
  rw [← e1] at l1 u1 HC1 g1 g2 g3
  rw [← e2] at l2 u2 HC2
  rw [← e9] at l3 u3 HC3
  rw [← e3] at HW1
  rw [← e4] at HW2
  rw [← e5] at HW3
  rw [← e6] at HL4
  rw [← e7] at HL6
  rw [← e8] at HL8
  have C0 := Lib.hid HC0
  have C1 := Lib.hid HC1
  have C2 := Lib.hid HC2
  have C3 := Lib.hid HC3
  have q1 : (x1 / 4 % 16 != 0) = false := by simp; omega
  have q1' : (x1 / 4 % 16 == 0) = true := by simp; omega
  have q2 : (x1 % 4 == 3) = false := by simp; omega
  have q3 : decide (1 < x1 / 64) = false := by simp; omega
  have v1 : IntKind.u16.wrap y2 = y2 := IntWalk.u16_in _ (by omega)
  have v2 : IntKind.u16.wrap y3 = y3 := IntWalk.u16_in _ (by omega)
  have v3 : IntKind.u16.wrap (y3 * 256) = y3 * 256 := IntWalk.u16_in _ (by omega)
  have v4 : IntKind.u16.wrap (y2 + y3 * 256) = y2 + y3 * 256 := IntWalk.u16_in _ (by omega)
  obtain ⟨AF, hAF⟩ : ∃ A : Array Value, A = #[.int .u8 x0, .int .u8 (x1 % 4), .bool (x1 / 64 == 1), .int .u16 (y2 + y3 * 256), .int .u32 x3, .int .u32 x4, .int .u32 x5, .int .u64 x6, .int .u64 x7, .int .u64 x8, .int .u32 0, .int .u32 0, .int .u32 0, .int .u32 0, .int .u32 0, .int .u32 0] := ⟨_, rfl⟩
  have hbd : ∀ w, (Instr.build 25 #[(0, .int .u64 x7), (1, .int .u64 x8)]).run Try.prog w = .ok (.agg #[.int .u64 x7, .int .u64 x8]) w := fun _ => by kernel_rfl
  have hbl : ∀ w, (Instr.build 28 #[(0, .int .u8 x0), (1, .int .u8 (x1 % 4)), (2, .bool (x1 / 64 == 1)), (3, .int .u16 (y2 + y3 * 256)), (4, .int .u32 x3), (5, .int .u32 x4), (6, .int .u32 x5), (7, .int .u64 x6), (8, .agg #[.int .u64 x7, .int .u64 x8])]).run Try.prog w = .ok (.agg AF) w := fun _ => by rw [hAF]; kernel_rfl
  have FS := Lib.hid (show AF.size = 16 by rw [hAF]; rfl)
  have F1 := Lib.hid (show AF.all (·.oneCell') = true by rw [hAF]; simp [Value.oneCell'])
  have HAF := Lib.hid hAF
  have HSC := Lib.hid sizeCmd
  obtain ⟨d, hd1, hd2⟩ := underCmd
  have HBD := Lib.hid hbd
  have HBL := Lib.hid hbl
  clear hA hZ hAF hbd hbl hB g1 g2 g3 hid2 e0 e1 e2 e3 e4 e5 e6 e7 e8 e9 HC0 HC1 HC2 HC3 HLG
  go_enter Try.func14, Try.ntmps14
  go_upto_region 1 with ((with_reducible show wpList _ _ _ (⟨some 2, _, _, _, _, _⟩ :: _) _ _); refine wpList_alloc rfl _ rfl z ?_; rw [show (Value.agg Z).cells = Z from rfl])
  obtain ⟨W, hW⟩ : ∃ W, W = (w.alloc (.cells A16 29)).alloc (.cells Z 28) := ⟨_, rfl⟩
  rw [← hW]
  obtain ⟨a1, a2, hbW, hsW⟩ := hst.out W hW
  have HA1 := Lib.hid a1
  have A2 := Lib.hid a2
  have HBW := Lib.hid hbW
  obtain ⟨ba, hba⟩ : ∃ x, x = w.heap.size := ⟨_, rfl⟩
  obtain ⟨bo, hbo⟩ : ∃ x, x = w.heap.size + 1 := ⟨_, rfl⟩
  have hbW2 : w.heap.size + 2 = W.heap.size := hsW.symm
  rw [← hba] at HA1
  rw [← hbo] at A2
  rw [← hbo, ← hba]
  have c1 := HA1.out.cell C1.out
  have HBA := Lib.hid hba
  have HBO := Lib.hid hbo
  have hlo1 : ba < W.heap.size := by omega
  have hlo2 : bo < W.heap.size := by omega
  have hlo3 : w.heap.size ≤ bo := by omega
  have hlo4 : w.heap.size ≤ W.heap.size := by omega
  clear a1 a2 hbW hsW hW hba hbo hbW2 hst
  go_upto_region 3 with fail
  clear q1 q1' q2 q3 c1
  have t1 : x1.tmod 4 = x1 % 4 := IntWalk.rem_in _ _ l1
  have t2 : IntKind.u8.wrap (x1.tdiv 64) = x1 / 64 := by rw [Int.tdiv_eq_ediv_of_nonneg l1]; exact IntWalk.u8_in _ (by omega)
  have K0 := Lib.hid (HA1.out.cell C0.out)
  have K1 := Lib.hid (HA1.out.cell C1.out)
  have K2 := Lib.hid (HA1.out.cell C2.out)
  have K3 := Lib.hid (HA1.out.cell C3.out)
  go_cut [4] from 24 to 54 (fun v4 wc => ∃ g, v4 = .pointer (some ⟨g, 0, none⟩) ∧ ArrAt wc g AF ∧ W.heap.size ≤ g ∧ Below W.heap.size W wc)
  case first =>
    refine wp_region_held_drew (S := fun w' => Below W.heap.size W w') (by kernel_rfl) ((Below.refl _ W).drew) (fun hS0 => ?_)
    refine takeD 24 (i := 0) (v := .pointer (some ⟨ba, 0, none⟩)) rfl rfl (by kernel_rfl) (by kernel_rfl) (by kernel_rfl) (fun _ _ _ h => h) (Or.inl ⟨by rfl, by (intro w' _; go_simp)⟩) (by assumption) ?_
    try simp only [Act.put, List.setIfInBounds_toArray, List.set_cons_zero, List.set_cons_succ]
    refine takeD 25 (i := 1) (v := .int .u8 x0) rfl rfl (by kernel_rfl) (by kernel_rfl) (by kernel_rfl) (fun _ _ _ h => h) (Or.inl ⟨by rfl, by (intro w' h; have h2 := (h.cell (p := ⟨ba, 0, none⟩) hlo1).trans K0.out; clear h; go_simp)⟩) (by assumption) ?_
    try simp only [Act.put, List.setIfInBounds_toArray, List.set_cons_zero, List.set_cons_succ]
    refine takeD 26 (i := 2) (v := .pointer (some ⟨ba, 1, none⟩)) rfl rfl (by kernel_rfl) (by kernel_rfl) (by kernel_rfl) (fun _ _ _ h => h) (Or.inl ⟨by rfl, by (intro w' _; go_simp)⟩) (by assumption) ?_
    try simp only [Act.put, List.setIfInBounds_toArray, List.set_cons_zero, List.set_cons_succ]
    refine takeD 27 (i := 3) (v := .int .u8 x1) rfl rfl (by kernel_rfl) (by kernel_rfl) (by kernel_rfl) (fun _ _ _ h => h) (Or.inl ⟨by rfl, by (intro w' h; have h2 := (h.cell (p := ⟨ba, 1, none⟩) hlo1).trans K1.out; clear h; go_simp)⟩) (by assumption) ?_
    try simp only [Act.put, List.setIfInBounds_toArray, List.set_cons_zero, List.set_cons_succ]
    refine takeD 28 (i := 4) (v := .int .u8 (x1 % 4)) rfl rfl (by kernel_rfl) (by kernel_rfl) (by kernel_rfl) (fun _ _ _ h => h) (Or.inl ⟨by rfl, by (intro w' _; go_simp)⟩) (by assumption) ?_
    try simp only [Act.put, List.setIfInBounds_toArray, List.set_cons_zero, List.set_cons_succ]
    refine takeD 29 (i := 5) (v := .pointer (some ⟨ba, 1, none⟩)) rfl rfl (by kernel_rfl) (by kernel_rfl) (by kernel_rfl) (fun _ _ _ h => h) (Or.inl ⟨by rfl, by (intro w' _; go_simp)⟩) (by assumption) ?_
    try simp only [Act.put, List.setIfInBounds_toArray, List.set_cons_zero, List.set_cons_succ]
    refine takeD 30 (i := 6) (v := .int .u8 x1) rfl rfl (by kernel_rfl) (by kernel_rfl) (by kernel_rfl) (fun _ _ _ h => h) (Or.inl ⟨by rfl, by (intro w' h; have h2 := (h.cell (p := ⟨ba, 1, none⟩) hlo1).trans K1.out; clear h; go_simp)⟩) (by assumption) ?_
    try simp only [Act.put, List.setIfInBounds_toArray, List.set_cons_zero, List.set_cons_succ]
    refine takeD 31 (i := 7) (v := .int .u8 (x1 / 64)) rfl rfl (by kernel_rfl) (by kernel_rfl) (by kernel_rfl) (fun _ _ _ h => h) (Or.inl ⟨by rfl, by (intro w' _; go_simp)⟩) (by assumption) ?_
    try simp only [Act.put, List.setIfInBounds_toArray, List.set_cons_zero, List.set_cons_succ]
    refine takeD 32 (i := 8) (v := .bool (x1 / 64 == 1)) rfl rfl (by kernel_rfl) (by kernel_rfl) (by kernel_rfl) (fun _ _ _ h => h) (Or.inl ⟨by rfl, by (intro w' _; go_simp)⟩) (by assumption) ?_
    try simp only [Act.put, List.setIfInBounds_toArray, List.set_cons_zero, List.set_cons_succ]
    refine takeD 33 (i := 9) (v := .pointer (some ⟨ba, 2, none⟩)) rfl rfl (by kernel_rfl) (by kernel_rfl) (by kernel_rfl) (fun _ _ _ h => h) (Or.inl ⟨by rfl, by (intro w' _; go_simp)⟩) (by assumption) ?_
    try simp only [Act.put, List.setIfInBounds_toArray, List.set_cons_zero, List.set_cons_succ]
    refine takeD 34 (i := 10) (v := .int .u8 y2) rfl rfl (by kernel_rfl) (by kernel_rfl) (by kernel_rfl) (fun _ _ _ h => h) (Or.inl ⟨by rfl, by (intro w' h; have h2 := (h.cell (p := ⟨ba, 2, none⟩) hlo1).trans K2.out; clear h; go_simp)⟩) (by assumption) ?_
    try simp only [Act.put, List.setIfInBounds_toArray, List.set_cons_zero, List.set_cons_succ]
    refine takeD 35 (i := 11) (v := .int .u16 y2) rfl rfl (by kernel_rfl) (by kernel_rfl) (by kernel_rfl) (fun _ _ _ h => h) (Or.inl ⟨by rfl, by (intro w' _; go_simp)⟩) (by assumption) ?_
    try simp only [Act.put, List.setIfInBounds_toArray, List.set_cons_zero, List.set_cons_succ]
    refine takeD 36 (i := 12) (v := .pointer (some ⟨ba, 3, none⟩)) rfl rfl (by kernel_rfl) (by kernel_rfl) (by kernel_rfl) (fun _ _ _ h => h) (Or.inl ⟨by rfl, by (intro w' _; go_simp)⟩) (by assumption) ?_
    try simp only [Act.put, List.setIfInBounds_toArray, List.set_cons_zero, List.set_cons_succ]
    refine takeD 37 (i := 13) (v := .int .u8 y3) rfl rfl (by kernel_rfl) (by kernel_rfl) (by kernel_rfl) (fun _ _ _ h => h) (Or.inl ⟨by rfl, by (intro w' h; have h2 := (h.cell (p := ⟨ba, 3, none⟩) hlo1).trans K3.out; clear h; go_simp)⟩) (by assumption) ?_
    try simp only [Act.put, List.setIfInBounds_toArray, List.set_cons_zero, List.set_cons_succ]
    refine takeD 38 (i := 14) (v := .int .u16 y3) rfl rfl (by kernel_rfl) (by kernel_rfl) (by kernel_rfl) (fun _ _ _ h => h) (Or.inl ⟨by rfl, by (intro w' _; go_simp)⟩) (by assumption) ?_
    try simp only [Act.put, List.setIfInBounds_toArray, List.set_cons_zero, List.set_cons_succ]
    refine takeD 39 (i := 15) (v := .int .u16 (y3 * 256)) rfl rfl (by kernel_rfl) (by kernel_rfl) (by kernel_rfl) (fun _ _ _ h => h) (Or.inl ⟨by rfl, by (intro w' _; go_simp)⟩) (by assumption) ?_
    try simp only [Act.put, List.setIfInBounds_toArray, List.set_cons_zero, List.set_cons_succ]
    refine takeD 40 (i := 16) (v := .int .u16 (y2 + y3 * 256)) rfl rfl (by kernel_rfl) (by kernel_rfl) (by kernel_rfl) (fun _ _ _ h => h) (Or.inl ⟨by rfl, by (intro w' _; go_simp)⟩) (by assumption) ?_
    try simp only [Act.put, List.setIfInBounds_toArray, List.set_cons_zero, List.set_cons_succ]
    refine takeD 41 (i := 17) (v := .agg A16) rfl rfl (by kernel_rfl) (by kernel_rfl) (by kernel_rfl) (fun _ _ _ h => h) (yieldsA (by rfl) 29 (.tmp 1) rfl (ba) (by first | rfl | simp [Act.eval, Act.put]) A16 (fun w h => (HA1.out.below h).rng) Try.underlying29 rfl HSA.out) (by assumption) ?_
    try simp only [Act.put, List.setIfInBounds_toArray, List.set_cons_zero, List.set_cons_succ]
    refine takeD 43 (i := 19) (v := .agg A16) rfl rfl (by kernel_rfl) (by kernel_rfl) (by kernel_rfl) (fun _ _ _ h => h) (yieldsA (by rfl) 29 (.tmp 1) rfl (ba) (by first | rfl | simp [Act.eval, Act.put]) A16 (fun w h => (HA1.out.below h).rng) Try.underlying29 rfl HSA.out) (by assumption) ?_
    try simp only [Act.put, List.setIfInBounds_toArray, List.set_cons_zero, List.set_cons_succ]
    refine takeD 45 (i := 21) (v := .agg A16) rfl rfl (by kernel_rfl) (by kernel_rfl) (by kernel_rfl) (fun _ _ _ h => h) (yieldsA (by rfl) 29 (.tmp 1) rfl (ba) (by first | rfl | simp [Act.eval, Act.put]) A16 (fun w h => (HA1.out.below h).rng) Try.underlying29 rfl HSA.out) (by assumption) ?_
    try simp only [Act.put, List.setIfInBounds_toArray, List.set_cons_zero, List.set_cons_succ]
    refine takeD 47 (i := 23) (v := .agg A16) rfl rfl (by kernel_rfl) (by kernel_rfl) (by kernel_rfl) (fun _ _ _ h => h) (yieldsA (by rfl) 29 (.tmp 1) rfl (ba) (by first | rfl | simp [Act.eval, Act.put]) A16 (fun w h => (HA1.out.below h).rng) Try.underlying29 rfl HSA.out) (by assumption) ?_
    try simp only [Act.put, List.setIfInBounds_toArray, List.set_cons_zero, List.set_cons_succ]
    refine takeD 49 (i := 25) (v := .agg A16) rfl rfl (by kernel_rfl) (by kernel_rfl) (by kernel_rfl) (fun _ _ _ h => h) (yieldsA (by rfl) 29 (.tmp 1) rfl (ba) (by first | rfl | simp [Act.eval, Act.put]) A16 (fun w h => (HA1.out.below h).rng) Try.underlying29 rfl HSA.out) (by assumption) ?_
    try simp only [Act.put, List.setIfInBounds_toArray, List.set_cons_zero, List.set_cons_succ]
    refine takeD 51 (i := 27) (v := .agg A16) rfl rfl (by kernel_rfl) (by kernel_rfl) (by kernel_rfl) (fun _ _ _ h => h) (yieldsA (by rfl) 29 (.tmp 1) rfl (ba) (by first | rfl | simp [Act.eval, Act.put]) A16 (fun w h => (HA1.out.below h).rng) Try.underlying29 rfl HSA.out) (by assumption) ?_
    try simp only [Act.put, List.setIfInBounds_toArray, List.set_cons_zero, List.set_cons_succ]
    refine wpAnyH_ready (rs := [18, 31]) (by kernel_rfl) (by simp) (AllReadyH.cons rfl (fun K hK => ?_) (AllReadyH.cons rfl (fun K hK => ?_) AllReadyH.nil))
    · rw [if_pos (by rfl)]
      go_simp
      refine (HW1.out _).mono ?_
      rintro e w0 ⟨rfl, hb⟩
      have hSN : Below W.heap.size W w0 := hS0.trans (hb.mono hS0.size)
      refine hK.out _ _ hSN (fun hS0 => ?_)
      clear hK K hb hSN
      try simp only [Act.put, List.setIfInBounds_toArray, List.set_cons_zero, List.set_cons_succ]
      refine wpAnyH_ready (rs := [20, 31]) (by kernel_rfl) (by simp) (AllReadyH.cons rfl (fun K hK => ?_) (AllReadyH.cons rfl (fun K hK => ?_) AllReadyH.nil))
      · rw [if_pos (by rfl)]
        go_simp
        refine (HW2.out _).mono ?_
        rintro e w01 ⟨rfl, hb⟩
        have hSN : Below W.heap.size W w01 := hS0.trans (hb.mono hS0.size)
        refine hK.out _ _ hSN (fun hS0 => ?_)
        clear hK K hb hSN
        try simp only [Act.put, List.setIfInBounds_toArray, List.set_cons_zero, List.set_cons_succ]
        refine wpAnyH_ready (rs := [22, 31]) (by kernel_rfl) (by simp) (AllReadyH.cons rfl (fun K hK => ?_) (AllReadyH.cons rfl (fun K hK => ?_) AllReadyH.nil))
        · rw [if_pos (by rfl)]
          go_simp
          refine (HW3.out _).mono ?_
          rintro e w012 ⟨rfl, hb⟩
          have hSN : Below W.heap.size W w012 := hS0.trans (hb.mono hS0.size)
          refine hK.out _ _ hSN (fun hS0 => ?_)
          clear hK K hb hSN
          try simp only [Act.put, List.setIfInBounds_toArray, List.set_cons_zero, List.set_cons_succ]
          refine wpAnyH_ready (rs := [24, 31]) (by kernel_rfl) (by simp) (AllReadyH.cons rfl (fun K hK => ?_) (AllReadyH.cons rfl (fun K hK => ?_) AllReadyH.nil))
          · rw [if_pos (by rfl)]
            go_simp
            refine (HL4.out _).mono ?_
            rintro e w0123 ⟨rfl, hb⟩
            have hSN : Below W.heap.size W w0123 := hS0.trans (hb.mono hS0.size)
            refine hK.out _ _ hSN (fun hS0 => ?_)
            clear hK K hb hSN
            try simp only [Act.put, List.setIfInBounds_toArray, List.set_cons_zero, List.set_cons_succ]
            refine wpAnyH_ready (rs := [26, 31]) (by kernel_rfl) (by simp) (AllReadyH.cons rfl (fun K hK => ?_) (AllReadyH.cons rfl (fun K hK => ?_) AllReadyH.nil))
            · rw [if_pos (by rfl)]
              go_simp
              refine (HL6.out _).mono ?_
              rintro e w01234 ⟨rfl, hb⟩
              have hSN : Below W.heap.size W w01234 := hS0.trans (hb.mono hS0.size)
              refine hK.out _ _ hSN (fun hS0 => ?_)
              clear hK K hb hSN
              try simp only [Act.put, List.setIfInBounds_toArray, List.set_cons_zero, List.set_cons_succ]
              refine wpAnyH_ready (rs := [28, 31]) (by kernel_rfl) (by simp) (AllReadyH.cons rfl (fun K hK => ?_) (AllReadyH.cons rfl (fun K hK => ?_) AllReadyH.nil))
              · rw [if_pos (by rfl)]
                go_simp
                refine (HL8.out _).mono ?_
                rintro e w012345 ⟨rfl, hb⟩
                have hSN : Below W.heap.size W w012345 := hS0.trans (hb.mono hS0.size)
                refine hK.out _ _ hSN (fun hS0 => ?_)
                clear hK K hb hSN
                try simp only [Act.put, List.setIfInBounds_toArray, List.set_cons_zero, List.set_cons_succ]
                refine takeD 53 (i := 29) (v := .agg #[.int .u64 x7, .int .u64 x8]) rfl rfl (by kernel_rfl) (by kernel_rfl) (by kernel_rfl) (fun _ _ _ h => h) (Or.inl ⟨by rfl, by (intro w' _; exact (by clear z; have h := HBD.out; go_simp))⟩) (by assumption) ?_
                try simp only [Act.put, List.setIfInBounds_toArray, List.set_cons_zero, List.set_cons_succ]
                refine takeD 54 (i := 30) (v := .agg AF) rfl rfl (by kernel_rfl) (by kernel_rfl) (by kernel_rfl) (fun _ _ _ h => h) (Or.inl ⟨by rfl, by (intro w' _; exact (by clear z; rw [HAF.out]; go_simp))⟩) (by assumption) ?_
                try simp only [Act.put, List.setIfInBounds_toArray, List.set_cons_zero, List.set_cons_succ]
                refine wpAnyH_ready (rs := [31]) (by kernel_rfl) (by simp) (AllReadyH.cons rfl (fun K hK => ?_) AllReadyH.nil)
                · rw [if_pos (by rfl)]
                  refine wp_allocN 28 4 rfl rfl z (A := Z) rfl ?_
                  obtain ⟨w012345a, hw⟩ : ∃ x, x = (w012345).alloc (.cells Z 28) := ⟨_, rfl⟩
                  rw [← hw]
                  have hb : Below (w012345).heap.size (w012345) w012345a := by rw [hw]; exact (Below.refl _ _).alloc (Nat.le_refl _) _
                  have AG012345a := Lib.hid (show ArrAt w012345a (w012345).heap.size Z by rw [hw]; exact HAL.out _)
                  obtain ⟨g, hbk⟩ : ∃ x, x = (w012345).heap.size := ⟨_, rfl⟩
                  rw [← hbk] at AG012345a
                  have hlog : W.heap.size ≤ g := by rw [hbk]; exact hS0.size
                  have hhig : g < w012345a.heap.size := AG012345a.out.lt
                  have hSN : Below W.heap.size W w012345a := hS0.trans (hb.mono hS0.size)
                  rw [← hbk]
                  clear hw hbk
                  refine hK.out _ _ hSN (fun hS0 => ?_)
                  clear hK K hb hSN
                  try simp only [Act.put, List.setIfInBounds_toArray, List.set_cons_zero, List.set_cons_succ]
                  refine wpAnyH_ready (rs := [32]) (by kernel_rfl) (by simp) (AllReadyH.cons rfl (fun K hK => ?_) AllReadyH.nil)
                  rw [if_pos (by rfl)]
                  refine wp_storeN 28 (.tmp 4) (.tmp 54) rfl rfl (g) 0 AF (by first | rfl | simp [Act.eval, Act.put]) (by first | rfl | simp [Act.eval, Act.put]) (by rw [FS.out, ← HZS.out]; exact AG012345a.out.th) (by rw [FS.out]; exact HSC.out) F1.out ?_
                  refine hK.out _ _ (bstore hS0 g hlog AF.toList 0) (fun hS0 => ?_)
                  clear hK K
                  try simp only [Act.put, List.setIfInBounds_toArray, List.set_cons_zero, List.set_cons_succ]
                  refine wpAnyH_done (by kernel_rfl) ?_ _
                  go_wp2_with fail
                  go_meet
                  exact ⟨g, rfl, AG012345a.out.store AF (by rw [FS.out, HZS.out]), hlog, hS0⟩
              · rw [if_pos (by rfl)]
                refine wp_allocN 28 4 rfl rfl z (A := Z) rfl ?_
                obtain ⟨w01234a, hw⟩ : ∃ x, x = (w01234).alloc (.cells Z 28) := ⟨_, rfl⟩
                rw [← hw]
                have hb : Below (w01234).heap.size (w01234) w01234a := by rw [hw]; exact (Below.refl _ _).alloc (Nat.le_refl _) _
                have AG01234a := Lib.hid (show ArrAt w01234a (w01234).heap.size Z by rw [hw]; exact HAL.out _)
                obtain ⟨g, hbk⟩ : ∃ x, x = (w01234).heap.size := ⟨_, rfl⟩
                rw [← hbk] at AG01234a
                have hlog : W.heap.size ≤ g := by rw [hbk]; exact hS0.size
                have hhig : g < w01234a.heap.size := AG01234a.out.lt
                have hSN : Below W.heap.size W w01234a := hS0.trans (hb.mono hS0.size)
                rw [← hbk]
                clear hw hbk
                refine hK.out _ _ hSN (fun hS0 => ?_)
                clear hK K hb hSN
                try simp only [Act.put, List.setIfInBounds_toArray, List.set_cons_zero, List.set_cons_succ]
                refine wpAnyH_ready (rs := [28]) (by kernel_rfl) (by simp) (AllReadyH.cons rfl (fun K hK => ?_) AllReadyH.nil)
                · rw [if_pos (by rfl)]
                  go_simp
                  refine (HL8.out _).mono ?_
                  rintro e w01234a5 ⟨rfl, hb⟩
                  have hSN : Below W.heap.size W w01234a5 := hS0.trans (hb.mono hS0.size)
                  have AG01234a5 := Lib.hid (AG01234a.out.below hb)
                  have hhig : g < w01234a5.heap.size := Nat.lt_of_lt_of_le hhig hb.size
                  refine hK.out _ _ hSN (fun hS0 => ?_)
                  clear hK K hb hSN
                  try simp only [Act.put, List.setIfInBounds_toArray, List.set_cons_zero, List.set_cons_succ]
                  refine takeD 53 (i := 29) (v := .agg #[.int .u64 x7, .int .u64 x8]) rfl rfl (by kernel_rfl) (by kernel_rfl) (by kernel_rfl) (fun _ _ _ h => h) (Or.inl ⟨by rfl, by (intro w' _; exact (by clear z; have h := HBD.out; go_simp))⟩) (by assumption) ?_
                  try simp only [Act.put, List.setIfInBounds_toArray, List.set_cons_zero, List.set_cons_succ]
                  refine takeD 54 (i := 30) (v := .agg AF) rfl rfl (by kernel_rfl) (by kernel_rfl) (by kernel_rfl) (fun _ _ _ h => h) (Or.inl ⟨by rfl, by (intro w' _; exact (by clear z; rw [HAF.out]; go_simp))⟩) (by assumption) ?_
                  try simp only [Act.put, List.setIfInBounds_toArray, List.set_cons_zero, List.set_cons_succ]
                  refine wpAnyH_ready (rs := [32]) (by kernel_rfl) (by simp) (AllReadyH.cons rfl (fun K hK => ?_) AllReadyH.nil)
                  rw [if_pos (by rfl)]
                  refine wp_storeN 28 (.tmp 4) (.tmp 54) rfl rfl (g) 0 AF (by first | rfl | simp [Act.eval, Act.put]) (by first | rfl | simp [Act.eval, Act.put]) (by rw [FS.out, ← HZS.out]; exact AG01234a5.out.th) (by rw [FS.out]; exact HSC.out) F1.out ?_
                  refine hK.out _ _ (bstore hS0 g hlog AF.toList 0) (fun hS0 => ?_)
                  clear hK K
                  try simp only [Act.put, List.setIfInBounds_toArray, List.set_cons_zero, List.set_cons_succ]
                  refine wpAnyH_done (by kernel_rfl) ?_ _
                  go_wp2_with fail
                  go_meet
                  exact ⟨g, rfl, AG01234a5.out.store AF (by rw [FS.out, HZS.out]), hlog, hS0⟩
            · rw [if_pos (by rfl)]
              refine wp_allocN 28 4 rfl rfl z (A := Z) rfl ?_
              obtain ⟨w0123a, hw⟩ : ∃ x, x = (w0123).alloc (.cells Z 28) := ⟨_, rfl⟩
              rw [← hw]
              have hb : Below (w0123).heap.size (w0123) w0123a := by rw [hw]; exact (Below.refl _ _).alloc (Nat.le_refl _) _
              have AG0123a := Lib.hid (show ArrAt w0123a (w0123).heap.size Z by rw [hw]; exact HAL.out _)
              obtain ⟨g, hbk⟩ : ∃ x, x = (w0123).heap.size := ⟨_, rfl⟩
              rw [← hbk] at AG0123a
              have hlog : W.heap.size ≤ g := by rw [hbk]; exact hS0.size
              have hhig : g < w0123a.heap.size := AG0123a.out.lt
              have hSN : Below W.heap.size W w0123a := hS0.trans (hb.mono hS0.size)
              rw [← hbk]
              clear hw hbk
              refine hK.out _ _ hSN (fun hS0 => ?_)
              clear hK K hb hSN
              try simp only [Act.put, List.setIfInBounds_toArray, List.set_cons_zero, List.set_cons_succ]
              refine wpAnyH_ready (rs := [26]) (by kernel_rfl) (by simp) (AllReadyH.cons rfl (fun K hK => ?_) AllReadyH.nil)
              · rw [if_pos (by rfl)]
                go_simp
                refine (HL6.out _).mono ?_
                rintro e w0123a4 ⟨rfl, hb⟩
                have hSN : Below W.heap.size W w0123a4 := hS0.trans (hb.mono hS0.size)
                have AG0123a4 := Lib.hid (AG0123a.out.below hb)
                have hhig : g < w0123a4.heap.size := Nat.lt_of_lt_of_le hhig hb.size
                refine hK.out _ _ hSN (fun hS0 => ?_)
                clear hK K hb hSN
                try simp only [Act.put, List.setIfInBounds_toArray, List.set_cons_zero, List.set_cons_succ]
                refine wpAnyH_ready (rs := [28]) (by kernel_rfl) (by simp) (AllReadyH.cons rfl (fun K hK => ?_) AllReadyH.nil)
                · rw [if_pos (by rfl)]
                  go_simp
                  refine (HL8.out _).mono ?_
                  rintro e w0123a45 ⟨rfl, hb⟩
                  have hSN : Below W.heap.size W w0123a45 := hS0.trans (hb.mono hS0.size)
                  have AG0123a45 := Lib.hid (AG0123a4.out.below hb)
                  have hhig : g < w0123a45.heap.size := Nat.lt_of_lt_of_le hhig hb.size
                  refine hK.out _ _ hSN (fun hS0 => ?_)
                  clear hK K hb hSN
                  try simp only [Act.put, List.setIfInBounds_toArray, List.set_cons_zero, List.set_cons_succ]
                  refine takeD 53 (i := 29) (v := .agg #[.int .u64 x7, .int .u64 x8]) rfl rfl (by kernel_rfl) (by kernel_rfl) (by kernel_rfl) (fun _ _ _ h => h) (Or.inl ⟨by rfl, by (intro w' _; exact (by clear z; have h := HBD.out; go_simp))⟩) (by assumption) ?_
                  try simp only [Act.put, List.setIfInBounds_toArray, List.set_cons_zero, List.set_cons_succ]
                  refine takeD 54 (i := 30) (v := .agg AF) rfl rfl (by kernel_rfl) (by kernel_rfl) (by kernel_rfl) (fun _ _ _ h => h) (Or.inl ⟨by rfl, by (intro w' _; exact (by clear z; rw [HAF.out]; go_simp))⟩) (by assumption) ?_
                  try simp only [Act.put, List.setIfInBounds_toArray, List.set_cons_zero, List.set_cons_succ]
                  refine wpAnyH_ready (rs := [32]) (by kernel_rfl) (by simp) (AllReadyH.cons rfl (fun K hK => ?_) AllReadyH.nil)
                  rw [if_pos (by rfl)]
                  refine wp_storeN 28 (.tmp 4) (.tmp 54) rfl rfl (g) 0 AF (by first | rfl | simp [Act.eval, Act.put]) (by first | rfl | simp [Act.eval, Act.put]) (by rw [FS.out, ← HZS.out]; exact AG0123a45.out.th) (by rw [FS.out]; exact HSC.out) F1.out ?_
                  refine hK.out _ _ (bstore hS0 g hlog AF.toList 0) (fun hS0 => ?_)
                  clear hK K
                  try simp only [Act.put, List.setIfInBounds_toArray, List.set_cons_zero, List.set_cons_succ]
                  refine wpAnyH_done (by kernel_rfl) ?_ _
                  go_wp2_with fail
                  go_meet
                  exact ⟨g, rfl, AG0123a45.out.store AF (by rw [FS.out, HZS.out]), hlog, hS0⟩
          · rw [if_pos (by rfl)]
            refine wp_allocN 28 4 rfl rfl z (A := Z) rfl ?_
            obtain ⟨w012a, hw⟩ : ∃ x, x = (w012).alloc (.cells Z 28) := ⟨_, rfl⟩
            rw [← hw]
            have hb : Below (w012).heap.size (w012) w012a := by rw [hw]; exact (Below.refl _ _).alloc (Nat.le_refl _) _
            have AG012a := Lib.hid (show ArrAt w012a (w012).heap.size Z by rw [hw]; exact HAL.out _)
            obtain ⟨g, hbk⟩ : ∃ x, x = (w012).heap.size := ⟨_, rfl⟩
            rw [← hbk] at AG012a
            have hlog : W.heap.size ≤ g := by rw [hbk]; exact hS0.size
            have hhig : g < w012a.heap.size := AG012a.out.lt
            have hSN : Below W.heap.size W w012a := hS0.trans (hb.mono hS0.size)
            rw [← hbk]
            clear hw hbk
            refine hK.out _ _ hSN (fun hS0 => ?_)
            clear hK K hb hSN
            try simp only [Act.put, List.setIfInBounds_toArray, List.set_cons_zero, List.set_cons_succ]
            refine wpAnyH_ready (rs := [24]) (by kernel_rfl) (by simp) (AllReadyH.cons rfl (fun K hK => ?_) AllReadyH.nil)
            · rw [if_pos (by rfl)]
              go_simp
              refine (HL4.out _).mono ?_
              rintro e w012a3 ⟨rfl, hb⟩
              have hSN : Below W.heap.size W w012a3 := hS0.trans (hb.mono hS0.size)
              have AG012a3 := Lib.hid (AG012a.out.below hb)
              have hhig : g < w012a3.heap.size := Nat.lt_of_lt_of_le hhig hb.size
              refine hK.out _ _ hSN (fun hS0 => ?_)
              clear hK K hb hSN
              try simp only [Act.put, List.setIfInBounds_toArray, List.set_cons_zero, List.set_cons_succ]
              refine wpAnyH_ready (rs := [26]) (by kernel_rfl) (by simp) (AllReadyH.cons rfl (fun K hK => ?_) AllReadyH.nil)
              · rw [if_pos (by rfl)]
                go_simp
                refine (HL6.out _).mono ?_
                rintro e w012a34 ⟨rfl, hb⟩
                have hSN : Below W.heap.size W w012a34 := hS0.trans (hb.mono hS0.size)
                have AG012a34 := Lib.hid (AG012a3.out.below hb)
                have hhig : g < w012a34.heap.size := Nat.lt_of_lt_of_le hhig hb.size
                refine hK.out _ _ hSN (fun hS0 => ?_)
                clear hK K hb hSN
                try simp only [Act.put, List.setIfInBounds_toArray, List.set_cons_zero, List.set_cons_succ]
                refine wpAnyH_ready (rs := [28]) (by kernel_rfl) (by simp) (AllReadyH.cons rfl (fun K hK => ?_) AllReadyH.nil)
                · rw [if_pos (by rfl)]
                  go_simp
                  refine (HL8.out _).mono ?_
                  rintro e w012a345 ⟨rfl, hb⟩
                  have hSN : Below W.heap.size W w012a345 := hS0.trans (hb.mono hS0.size)
                  have AG012a345 := Lib.hid (AG012a34.out.below hb)
                  have hhig : g < w012a345.heap.size := Nat.lt_of_lt_of_le hhig hb.size
                  refine hK.out _ _ hSN (fun hS0 => ?_)
                  clear hK K hb hSN
                  try simp only [Act.put, List.setIfInBounds_toArray, List.set_cons_zero, List.set_cons_succ]
                  refine takeD 53 (i := 29) (v := .agg #[.int .u64 x7, .int .u64 x8]) rfl rfl (by kernel_rfl) (by kernel_rfl) (by kernel_rfl) (fun _ _ _ h => h) (Or.inl ⟨by rfl, by (intro w' _; exact (by clear z; have h := HBD.out; go_simp))⟩) (by assumption) ?_
                  try simp only [Act.put, List.setIfInBounds_toArray, List.set_cons_zero, List.set_cons_succ]
                  refine takeD 54 (i := 30) (v := .agg AF) rfl rfl (by kernel_rfl) (by kernel_rfl) (by kernel_rfl) (fun _ _ _ h => h) (Or.inl ⟨by rfl, by (intro w' _; exact (by clear z; rw [HAF.out]; go_simp))⟩) (by assumption) ?_
                  try simp only [Act.put, List.setIfInBounds_toArray, List.set_cons_zero, List.set_cons_succ]
                  refine wpAnyH_ready (rs := [32]) (by kernel_rfl) (by simp) (AllReadyH.cons rfl (fun K hK => ?_) AllReadyH.nil)
                  rw [if_pos (by rfl)]
                  refine wp_storeN 28 (.tmp 4) (.tmp 54) rfl rfl (g) 0 AF (by first | rfl | simp [Act.eval, Act.put]) (by first | rfl | simp [Act.eval, Act.put]) (by rw [FS.out, ← HZS.out]; exact AG012a345.out.th) (by rw [FS.out]; exact HSC.out) F1.out ?_
                  refine hK.out _ _ (bstore hS0 g hlog AF.toList 0) (fun hS0 => ?_)
                  clear hK K
                  try simp only [Act.put, List.setIfInBounds_toArray, List.set_cons_zero, List.set_cons_succ]
                  refine wpAnyH_done (by kernel_rfl) ?_ _
                  go_wp2_with fail
                  go_meet
                  exact ⟨g, rfl, AG012a345.out.store AF (by rw [FS.out, HZS.out]), hlog, hS0⟩
        · rw [if_pos (by rfl)]
          refine wp_allocN 28 4 rfl rfl z (A := Z) rfl ?_
          obtain ⟨w01a, hw⟩ : ∃ x, x = (w01).alloc (.cells Z 28) := ⟨_, rfl⟩
          rw [← hw]
          have hb : Below (w01).heap.size (w01) w01a := by rw [hw]; exact (Below.refl _ _).alloc (Nat.le_refl _) _
          have AG01a := Lib.hid (show ArrAt w01a (w01).heap.size Z by rw [hw]; exact HAL.out _)
          obtain ⟨g, hbk⟩ : ∃ x, x = (w01).heap.size := ⟨_, rfl⟩
          rw [← hbk] at AG01a
          have hlog : W.heap.size ≤ g := by rw [hbk]; exact hS0.size
          have hhig : g < w01a.heap.size := AG01a.out.lt
          have hSN : Below W.heap.size W w01a := hS0.trans (hb.mono hS0.size)
          rw [← hbk]
          clear hw hbk
          refine hK.out _ _ hSN (fun hS0 => ?_)
          clear hK K hb hSN
          try simp only [Act.put, List.setIfInBounds_toArray, List.set_cons_zero, List.set_cons_succ]
          refine wpAnyH_ready (rs := [22]) (by kernel_rfl) (by simp) (AllReadyH.cons rfl (fun K hK => ?_) AllReadyH.nil)
          · rw [if_pos (by rfl)]
            go_simp
            refine (HW3.out _).mono ?_
            rintro e w01a2 ⟨rfl, hb⟩
            have hSN : Below W.heap.size W w01a2 := hS0.trans (hb.mono hS0.size)
            have AG01a2 := Lib.hid (AG01a.out.below hb)
            have hhig : g < w01a2.heap.size := Nat.lt_of_lt_of_le hhig hb.size
            refine hK.out _ _ hSN (fun hS0 => ?_)
            clear hK K hb hSN
            try simp only [Act.put, List.setIfInBounds_toArray, List.set_cons_zero, List.set_cons_succ]
            refine wpAnyH_ready (rs := [24]) (by kernel_rfl) (by simp) (AllReadyH.cons rfl (fun K hK => ?_) AllReadyH.nil)
            · rw [if_pos (by rfl)]
              go_simp
              refine (HL4.out _).mono ?_
              rintro e w01a23 ⟨rfl, hb⟩
              have hSN : Below W.heap.size W w01a23 := hS0.trans (hb.mono hS0.size)
              have AG01a23 := Lib.hid (AG01a2.out.below hb)
              have hhig : g < w01a23.heap.size := Nat.lt_of_lt_of_le hhig hb.size
              refine hK.out _ _ hSN (fun hS0 => ?_)
              clear hK K hb hSN
              try simp only [Act.put, List.setIfInBounds_toArray, List.set_cons_zero, List.set_cons_succ]
              refine wpAnyH_ready (rs := [26]) (by kernel_rfl) (by simp) (AllReadyH.cons rfl (fun K hK => ?_) AllReadyH.nil)
              · rw [if_pos (by rfl)]
                go_simp
                refine (HL6.out _).mono ?_
                rintro e w01a234 ⟨rfl, hb⟩
                have hSN : Below W.heap.size W w01a234 := hS0.trans (hb.mono hS0.size)
                have AG01a234 := Lib.hid (AG01a23.out.below hb)
                have hhig : g < w01a234.heap.size := Nat.lt_of_lt_of_le hhig hb.size
                refine hK.out _ _ hSN (fun hS0 => ?_)
                clear hK K hb hSN
                try simp only [Act.put, List.setIfInBounds_toArray, List.set_cons_zero, List.set_cons_succ]
                refine wpAnyH_ready (rs := [28]) (by kernel_rfl) (by simp) (AllReadyH.cons rfl (fun K hK => ?_) AllReadyH.nil)
                · rw [if_pos (by rfl)]
                  go_simp
                  refine (HL8.out _).mono ?_
                  rintro e w01a2345 ⟨rfl, hb⟩
                  have hSN : Below W.heap.size W w01a2345 := hS0.trans (hb.mono hS0.size)
                  have AG01a2345 := Lib.hid (AG01a234.out.below hb)
                  have hhig : g < w01a2345.heap.size := Nat.lt_of_lt_of_le hhig hb.size
                  refine hK.out _ _ hSN (fun hS0 => ?_)
                  clear hK K hb hSN
                  try simp only [Act.put, List.setIfInBounds_toArray, List.set_cons_zero, List.set_cons_succ]
                  refine takeD 53 (i := 29) (v := .agg #[.int .u64 x7, .int .u64 x8]) rfl rfl (by kernel_rfl) (by kernel_rfl) (by kernel_rfl) (fun _ _ _ h => h) (Or.inl ⟨by rfl, by (intro w' _; exact (by clear z; have h := HBD.out; go_simp))⟩) (by assumption) ?_
                  try simp only [Act.put, List.setIfInBounds_toArray, List.set_cons_zero, List.set_cons_succ]
                  refine takeD 54 (i := 30) (v := .agg AF) rfl rfl (by kernel_rfl) (by kernel_rfl) (by kernel_rfl) (fun _ _ _ h => h) (Or.inl ⟨by rfl, by (intro w' _; exact (by clear z; rw [HAF.out]; go_simp))⟩) (by assumption) ?_
                  try simp only [Act.put, List.setIfInBounds_toArray, List.set_cons_zero, List.set_cons_succ]
                  refine wpAnyH_ready (rs := [32]) (by kernel_rfl) (by simp) (AllReadyH.cons rfl (fun K hK => ?_) AllReadyH.nil)
                  rw [if_pos (by rfl)]
                  refine wp_storeN 28 (.tmp 4) (.tmp 54) rfl rfl (g) 0 AF (by first | rfl | simp [Act.eval, Act.put]) (by first | rfl | simp [Act.eval, Act.put]) (by rw [FS.out, ← HZS.out]; exact AG01a2345.out.th) (by rw [FS.out]; exact HSC.out) F1.out ?_
                  refine hK.out _ _ (bstore hS0 g hlog AF.toList 0) (fun hS0 => ?_)
                  clear hK K
                  try simp only [Act.put, List.setIfInBounds_toArray, List.set_cons_zero, List.set_cons_succ]
                  refine wpAnyH_done (by kernel_rfl) ?_ _
                  go_wp2_with fail
                  go_meet
                  exact ⟨g, rfl, AG01a2345.out.store AF (by rw [FS.out, HZS.out]), hlog, hS0⟩
      · rw [if_pos (by rfl)]
        refine wp_allocN 28 4 rfl rfl z (A := Z) rfl ?_
        obtain ⟨w0a, hw⟩ : ∃ x, x = (w0).alloc (.cells Z 28) := ⟨_, rfl⟩
        rw [← hw]
        have hb : Below (w0).heap.size (w0) w0a := by rw [hw]; exact (Below.refl _ _).alloc (Nat.le_refl _) _
        have AG0a := Lib.hid (show ArrAt w0a (w0).heap.size Z by rw [hw]; exact HAL.out _)
        obtain ⟨g, hbk⟩ : ∃ x, x = (w0).heap.size := ⟨_, rfl⟩
        rw [← hbk] at AG0a
        have hlog : W.heap.size ≤ g := by rw [hbk]; exact hS0.size
        have hhig : g < w0a.heap.size := AG0a.out.lt
        have hSN : Below W.heap.size W w0a := hS0.trans (hb.mono hS0.size)
        rw [← hbk]
        clear hw hbk
        refine hK.out _ _ hSN (fun hS0 => ?_)
        clear hK K hb hSN
        try simp only [Act.put, List.setIfInBounds_toArray, List.set_cons_zero, List.set_cons_succ]
        refine wpAnyH_ready (rs := [20]) (by kernel_rfl) (by simp) (AllReadyH.cons rfl (fun K hK => ?_) AllReadyH.nil)
        · rw [if_pos (by rfl)]
          go_simp
          refine (HW2.out _).mono ?_
          rintro e w0a1 ⟨rfl, hb⟩
          have hSN : Below W.heap.size W w0a1 := hS0.trans (hb.mono hS0.size)
          have AG0a1 := Lib.hid (AG0a.out.below hb)
          have hhig : g < w0a1.heap.size := Nat.lt_of_lt_of_le hhig hb.size
          refine hK.out _ _ hSN (fun hS0 => ?_)
          clear hK K hb hSN
          try simp only [Act.put, List.setIfInBounds_toArray, List.set_cons_zero, List.set_cons_succ]
          refine wpAnyH_ready (rs := [22]) (by kernel_rfl) (by simp) (AllReadyH.cons rfl (fun K hK => ?_) AllReadyH.nil)
          · rw [if_pos (by rfl)]
            go_simp
            refine (HW3.out _).mono ?_
            rintro e w0a12 ⟨rfl, hb⟩
            have hSN : Below W.heap.size W w0a12 := hS0.trans (hb.mono hS0.size)
            have AG0a12 := Lib.hid (AG0a1.out.below hb)
            have hhig : g < w0a12.heap.size := Nat.lt_of_lt_of_le hhig hb.size
            refine hK.out _ _ hSN (fun hS0 => ?_)
            clear hK K hb hSN
            try simp only [Act.put, List.setIfInBounds_toArray, List.set_cons_zero, List.set_cons_succ]
            refine wpAnyH_ready (rs := [24]) (by kernel_rfl) (by simp) (AllReadyH.cons rfl (fun K hK => ?_) AllReadyH.nil)
            · rw [if_pos (by rfl)]
              go_simp
              refine (HL4.out _).mono ?_
              rintro e w0a123 ⟨rfl, hb⟩
              have hSN : Below W.heap.size W w0a123 := hS0.trans (hb.mono hS0.size)
              have AG0a123 := Lib.hid (AG0a12.out.below hb)
              have hhig : g < w0a123.heap.size := Nat.lt_of_lt_of_le hhig hb.size
              refine hK.out _ _ hSN (fun hS0 => ?_)
              clear hK K hb hSN
              try simp only [Act.put, List.setIfInBounds_toArray, List.set_cons_zero, List.set_cons_succ]
              refine wpAnyH_ready (rs := [26]) (by kernel_rfl) (by simp) (AllReadyH.cons rfl (fun K hK => ?_) AllReadyH.nil)
              · rw [if_pos (by rfl)]
                go_simp
                refine (HL6.out _).mono ?_
                rintro e w0a1234 ⟨rfl, hb⟩
                have hSN : Below W.heap.size W w0a1234 := hS0.trans (hb.mono hS0.size)
                have AG0a1234 := Lib.hid (AG0a123.out.below hb)
                have hhig : g < w0a1234.heap.size := Nat.lt_of_lt_of_le hhig hb.size
                refine hK.out _ _ hSN (fun hS0 => ?_)
                clear hK K hb hSN
                try simp only [Act.put, List.setIfInBounds_toArray, List.set_cons_zero, List.set_cons_succ]
                refine wpAnyH_ready (rs := [28]) (by kernel_rfl) (by simp) (AllReadyH.cons rfl (fun K hK => ?_) AllReadyH.nil)
                · rw [if_pos (by rfl)]
                  go_simp
                  refine (HL8.out _).mono ?_
                  rintro e w0a12345 ⟨rfl, hb⟩
                  have hSN : Below W.heap.size W w0a12345 := hS0.trans (hb.mono hS0.size)
                  have AG0a12345 := Lib.hid (AG0a1234.out.below hb)
                  have hhig : g < w0a12345.heap.size := Nat.lt_of_lt_of_le hhig hb.size
                  refine hK.out _ _ hSN (fun hS0 => ?_)
                  clear hK K hb hSN
                  try simp only [Act.put, List.setIfInBounds_toArray, List.set_cons_zero, List.set_cons_succ]
                  refine takeD 53 (i := 29) (v := .agg #[.int .u64 x7, .int .u64 x8]) rfl rfl (by kernel_rfl) (by kernel_rfl) (by kernel_rfl) (fun _ _ _ h => h) (Or.inl ⟨by rfl, by (intro w' _; exact (by clear z; have h := HBD.out; go_simp))⟩) (by assumption) ?_
                  try simp only [Act.put, List.setIfInBounds_toArray, List.set_cons_zero, List.set_cons_succ]
                  refine takeD 54 (i := 30) (v := .agg AF) rfl rfl (by kernel_rfl) (by kernel_rfl) (by kernel_rfl) (fun _ _ _ h => h) (Or.inl ⟨by rfl, by (intro w' _; exact (by clear z; rw [HAF.out]; go_simp))⟩) (by assumption) ?_
                  try simp only [Act.put, List.setIfInBounds_toArray, List.set_cons_zero, List.set_cons_succ]
                  refine wpAnyH_ready (rs := [32]) (by kernel_rfl) (by simp) (AllReadyH.cons rfl (fun K hK => ?_) AllReadyH.nil)
                  rw [if_pos (by rfl)]
                  refine wp_storeN 28 (.tmp 4) (.tmp 54) rfl rfl (g) 0 AF (by first | rfl | simp [Act.eval, Act.put]) (by first | rfl | simp [Act.eval, Act.put]) (by rw [FS.out, ← HZS.out]; exact AG0a12345.out.th) (by rw [FS.out]; exact HSC.out) F1.out ?_
                  refine hK.out _ _ (bstore hS0 g hlog AF.toList 0) (fun hS0 => ?_)
                  clear hK K
                  try simp only [Act.put, List.setIfInBounds_toArray, List.set_cons_zero, List.set_cons_succ]
                  refine wpAnyH_done (by kernel_rfl) ?_ _
                  go_wp2_with fail
                  go_meet
                  exact ⟨g, rfl, AG0a12345.out.store AF (by rw [FS.out, HZS.out]), hlog, hS0⟩
    · rw [if_pos (by rfl)]
      refine wp_allocN 28 4 rfl rfl z (A := Z) rfl ?_
      obtain ⟨wa, hw⟩ : ∃ x, x = (W.drew).alloc (.cells Z 28) := ⟨_, rfl⟩
      rw [← hw]
      have hb : Below (W.drew).heap.size (W.drew) wa := by rw [hw]; exact (Below.refl _ _).alloc (Nat.le_refl _) _
      have AGa := Lib.hid (show ArrAt wa (W.drew).heap.size Z by rw [hw]; exact HAL.out _)
      obtain ⟨g, hbk⟩ : ∃ x, x = (W.drew).heap.size := ⟨_, rfl⟩
      rw [← hbk] at AGa
      have hlog : W.heap.size ≤ g := by rw [hbk]; exact hS0.size
      have hhig : g < wa.heap.size := AGa.out.lt
      have hSN : Below W.heap.size W wa := hS0.trans (hb.mono hS0.size)
      rw [← hbk]
      clear hw hbk
      refine hK.out _ _ hSN (fun hS0 => ?_)
      clear hK K hb hSN
      try simp only [Act.put, List.setIfInBounds_toArray, List.set_cons_zero, List.set_cons_succ]
      refine wpAnyH_ready (rs := [18]) (by kernel_rfl) (by simp) (AllReadyH.cons rfl (fun K hK => ?_) AllReadyH.nil)
      · rw [if_pos (by rfl)]
        go_simp
        refine (HW1.out _).mono ?_
        rintro e wa0 ⟨rfl, hb⟩
        have hSN : Below W.heap.size W wa0 := hS0.trans (hb.mono hS0.size)
        have AGa0 := Lib.hid (AGa.out.below hb)
        have hhig : g < wa0.heap.size := Nat.lt_of_lt_of_le hhig hb.size
        refine hK.out _ _ hSN (fun hS0 => ?_)
        clear hK K hb hSN
        try simp only [Act.put, List.setIfInBounds_toArray, List.set_cons_zero, List.set_cons_succ]
        refine wpAnyH_ready (rs := [20]) (by kernel_rfl) (by simp) (AllReadyH.cons rfl (fun K hK => ?_) AllReadyH.nil)
        · rw [if_pos (by rfl)]
          go_simp
          refine (HW2.out _).mono ?_
          rintro e wa01 ⟨rfl, hb⟩
          have hSN : Below W.heap.size W wa01 := hS0.trans (hb.mono hS0.size)
          have AGa01 := Lib.hid (AGa0.out.below hb)
          have hhig : g < wa01.heap.size := Nat.lt_of_lt_of_le hhig hb.size
          refine hK.out _ _ hSN (fun hS0 => ?_)
          clear hK K hb hSN
          try simp only [Act.put, List.setIfInBounds_toArray, List.set_cons_zero, List.set_cons_succ]
          refine wpAnyH_ready (rs := [22]) (by kernel_rfl) (by simp) (AllReadyH.cons rfl (fun K hK => ?_) AllReadyH.nil)
          · rw [if_pos (by rfl)]
            go_simp
            refine (HW3.out _).mono ?_
            rintro e wa012 ⟨rfl, hb⟩
            have hSN : Below W.heap.size W wa012 := hS0.trans (hb.mono hS0.size)
            have AGa012 := Lib.hid (AGa01.out.below hb)
            have hhig : g < wa012.heap.size := Nat.lt_of_lt_of_le hhig hb.size
            refine hK.out _ _ hSN (fun hS0 => ?_)
            clear hK K hb hSN
            try simp only [Act.put, List.setIfInBounds_toArray, List.set_cons_zero, List.set_cons_succ]
            refine wpAnyH_ready (rs := [24]) (by kernel_rfl) (by simp) (AllReadyH.cons rfl (fun K hK => ?_) AllReadyH.nil)
            · rw [if_pos (by rfl)]
              go_simp
              refine (HL4.out _).mono ?_
              rintro e wa0123 ⟨rfl, hb⟩
              have hSN : Below W.heap.size W wa0123 := hS0.trans (hb.mono hS0.size)
              have AGa0123 := Lib.hid (AGa012.out.below hb)
              have hhig : g < wa0123.heap.size := Nat.lt_of_lt_of_le hhig hb.size
              refine hK.out _ _ hSN (fun hS0 => ?_)
              clear hK K hb hSN
              try simp only [Act.put, List.setIfInBounds_toArray, List.set_cons_zero, List.set_cons_succ]
              refine wpAnyH_ready (rs := [26]) (by kernel_rfl) (by simp) (AllReadyH.cons rfl (fun K hK => ?_) AllReadyH.nil)
              · rw [if_pos (by rfl)]
                go_simp
                refine (HL6.out _).mono ?_
                rintro e wa01234 ⟨rfl, hb⟩
                have hSN : Below W.heap.size W wa01234 := hS0.trans (hb.mono hS0.size)
                have AGa01234 := Lib.hid (AGa0123.out.below hb)
                have hhig : g < wa01234.heap.size := Nat.lt_of_lt_of_le hhig hb.size
                refine hK.out _ _ hSN (fun hS0 => ?_)
                clear hK K hb hSN
                try simp only [Act.put, List.setIfInBounds_toArray, List.set_cons_zero, List.set_cons_succ]
                refine wpAnyH_ready (rs := [28]) (by kernel_rfl) (by simp) (AllReadyH.cons rfl (fun K hK => ?_) AllReadyH.nil)
                · rw [if_pos (by rfl)]
                  go_simp
                  refine (HL8.out _).mono ?_
                  rintro e wa012345 ⟨rfl, hb⟩
                  have hSN : Below W.heap.size W wa012345 := hS0.trans (hb.mono hS0.size)
                  have AGa012345 := Lib.hid (AGa01234.out.below hb)
                  have hhig : g < wa012345.heap.size := Nat.lt_of_lt_of_le hhig hb.size
                  refine hK.out _ _ hSN (fun hS0 => ?_)
                  clear hK K hb hSN
                  try simp only [Act.put, List.setIfInBounds_toArray, List.set_cons_zero, List.set_cons_succ]
                  refine takeD 53 (i := 29) (v := .agg #[.int .u64 x7, .int .u64 x8]) rfl rfl (by kernel_rfl) (by kernel_rfl) (by kernel_rfl) (fun _ _ _ h => h) (Or.inl ⟨by rfl, by (intro w' _; exact (by clear z; have h := HBD.out; go_simp))⟩) (by assumption) ?_
                  try simp only [Act.put, List.setIfInBounds_toArray, List.set_cons_zero, List.set_cons_succ]
                  refine takeD 54 (i := 30) (v := .agg AF) rfl rfl (by kernel_rfl) (by kernel_rfl) (by kernel_rfl) (fun _ _ _ h => h) (Or.inl ⟨by rfl, by (intro w' _; exact (by clear z; rw [HAF.out]; go_simp))⟩) (by assumption) ?_
                  try simp only [Act.put, List.setIfInBounds_toArray, List.set_cons_zero, List.set_cons_succ]
                  refine wpAnyH_ready (rs := [32]) (by kernel_rfl) (by simp) (AllReadyH.cons rfl (fun K hK => ?_) AllReadyH.nil)
                  rw [if_pos (by rfl)]
                  refine wp_storeN 28 (.tmp 4) (.tmp 54) rfl rfl (g) 0 AF (by first | rfl | simp [Act.eval, Act.put]) (by first | rfl | simp [Act.eval, Act.put]) (by rw [FS.out, ← HZS.out]; exact AGa012345.out.th) (by rw [FS.out]; exact HSC.out) F1.out ?_
                  refine hK.out _ _ (bstore hS0 g hlog AF.toList 0) (fun hS0 => ?_)
                  clear hK K
                  try simp only [Act.put, List.setIfInBounds_toArray, List.set_cons_zero, List.set_cons_succ]
                  refine wpAnyH_done (by kernel_rfl) ?_ _
                  go_wp2_with fail
                  go_meet
                  exact ⟨g, rfl, AGa012345.out.store AF (by rw [FS.out, HZS.out]), hlog, hS0⟩
  case rest =>
    obtain ⟨g, rfl, hag, hgl, hbc⟩ := hcut
    have AF0 := Lib.hid hag
    have HBC := Lib.hid hbc
    have HAc := Lib.hid (HA1.out.below hbc)
    have A2c := Lib.hid (A2.out.below hbc)
    have hgs := hag.lt
    have hne1 : ba ≠ g := by omega
    have hne2 : bo ≠ g := by omega
    have HBw := Lib.hid (HBW.out.trans (hbc.mono hlo4))
    clear hag hbc v1 v2 v3 v4 t1 t2 z
    go_wp2_with fail
    go_loopw [5] (fun i wr => ∃ k : Nat, k ≤ 6 ∧ i = .int .i64 (k : Nat) ∧ ArrAt wr ba A16 ∧ ArrAt wr bo Z ∧ ArrAt wr g (dK AF B k) ∧ Below w.heap.size w wr) (fun i _ => 6 - (intOf i).toNat)
    case atStart => exact ⟨0, by omega, rfl, HAc.out, A2c.out, AF0.out, HBw.out⟩
    case round =>
      obtain ⟨k, hk, rfl, h1, h2, h3, h4⟩ := hrel
      have R1 := Lib.hid h1
      have R2 := Lib.hid h2
      have R3 := Lib.hid h3
      have R4 := Lib.hid h4
      clear h1 h2 h3 h4
      by_cases hlt : k < 6
      · have m0 : (0 : Int) ≤ (k : Int) := by omega
        have m1 : (k : Int) < 6 := by omega
        have m4 : IntKind.i64.wrap (10 + (k : Int)) = 10 + (k : Int) := IntWalk.i64_in _ (by omega)
        have HDK := Lib.hid (show ∀ W, Calls Try.prog 32 #[.agg A16, .int .i64 (10 + (k : Int))] W fun e w' => e = .returned (.int .u32 (le B (40 + 4 * k) 4)) ∧ Below W.heap.size W w' from fun W => by
          have h := HDW.out (10 + k) W (by omega)
          rw [show 4 * (10 + k) = 40 + 4 * k by omega] at h
          push_cast at h
          exact h)
        have hs : (dK AF B k).size = 16 := by rw [dK_size, FS.out]
        obtain ⟨y, hy⟩ : ∃ y, y = (dK AF B k)[10 + k]'(by rw [hs]; omega) := ⟨_, rfl⟩
        have HY := Lib.hid (show (dK AF B k)[10 + k]? = some y by rw [hy]; exact Array.getElem?_eq_getElem _)
        have HYS := Lib.hid (show 10 + k < (dK AF B k).size by rw [hs]; omega)
        obtain ⟨x, hx⟩ : ∃ x, x = le B (40 + 4 * k) 4 := ⟨_, rfl⟩
        rw [← hx] at HDK
        have HX := Lib.hid hx
        clear hy hs hx
        go_wp2_with (first
          | ((with_reducible show wpList _ _ _ (⟨some 60, _, _, _, _, _⟩ :: _) _ _); refine wpList_loadA rfl R1.out 29 (.tmp 1) rfl (by first | rfl | simp [Act.eval, Act.put]) Try.underlying29 rfl HSA.out ?_)
          | (go_at_call 32; refine (HDK.out _).mono ?_; rintro e w2 ⟨rfl, hb⟩; have y0 := (R3.out.below hb).cell HY.out; have f0 := (R3.out.below hb).frozen HYS.out; have R12 := Lib.hid (R1.out.below hb); have R22 := Lib.hid (R2.out.below hb); have R32 := Lib.hid (R3.out.below hb); have R42 := Lib.hid (R4.out.trans (hb.mono R4.out.size)); clear hb))
        go_roundw
        case rel =>
          have hk0 : Keeps (One g) w2 (w2.setCell ⟨g, 10 + k, none⟩ (.int .u32 x)) := (Keeps.refl _ _).set1 _ _
          refine ⟨k + 1, by omega, by go_num, R12.out.kept hk0 hne1, R22.out.kept hk0 hne2, ?_, R42.out.setCell (p := ⟨g, 10 + k, none⟩) (by show w.heap.size ≤ g; omega) _⟩
          have h := R32.out.set (10 + k) (.int .u32 x) HYS.out
          rw [HX.out] at h ⊢
          exact h
        case measure => simp [intOf]; omega
      · obtain rfl : k = 6 := by omega
        have HSZ := Lib.hid (show (dK AF B 6).size = 16 by rw [dK_size, FS.out])
        have HD6 := Lib.hid (HD.out _ _ _ _ _ _ rfl rfl rfl rfl rfl rfl)
        have HVA := Lib.hid (show (dCmd B).v = .agg (dK AF B 6) by rw [HD6.out, HAF.out, dK6])
        have HO6 := Lib.hid (show (dK AF B 6).all (·.oneCell') = true by rw [HAF.out, dK6]; simp [Value.oneCell'])
        obtain ⟨A6, hA6⟩ : ∃ A, A = dK AF B 6 := ⟨_, rfl⟩
        rw [← hA6] at R3 HSZ HVA HO6
        have HSC2 := Lib.hid (show (Try.prog.info? 28).map (·.size) = some A6.size by rw [HSZ.out]; exact HSC.out)
        have HSCZ := Lib.hid (show (Try.prog.info? 28).map (·.size) = some Z.size by rw [HZS.out]; exact HSC.out)
        clear hA6 HD6
        go_wp2_with (first
          | ((with_reducible show wpList _ _ _ (⟨some 66, _, _, _, _, _⟩ :: _) _ _); refine wpList_loadA rfl R3.out 28 (.tmp 4) rfl (by first | rfl | simp [Act.eval, Act.put]) hd1 hd2 HSC2.out ?_)
          | ((with_reducible show wpList _ _ _ (⟨none, _, _, _, _, _⟩ :: _) _ _); refine wpList_storeA rfl (b := bo) (A := Z) (A' := A6) R2.out 28 (.tmp 2) (.tmp 66) rfl (by simp [Act.eval, Act.put]) (by simp [Act.eval, Act.put]) HSCZ.out (by rw [HSZ.out, HZS.out]) HO6.out ?_))
        have AZ := Lib.hid (R2.out.store A6 (by rw [HSZ.out, HZS.out]))
        refine bodyPost_ret (results_ct rfl _ _ _ AZ.out rfl hd1 hd2 HSC2.out) rfl ⟨by rw [HVA.out]; simp, bstore R4.out _ (by omega) _ _⟩
end Go.Proofs.Ytggdjadhenamiaa
