/- command: Decode of a good entry. -/
import Derived.Test.YtggdjadhenamiaaDc
import Derived.BigRegion
namespace Go.Proofs.Ytggdjadhenamiaa
set_option linter.unusedVariables false
set_option linter.unusedSimpArgs false
open Go.RowKit

/-- the words of a command filled in, one after the other -/
def dK (A : Array Value) (B : Nat → Int) : Nat → Array Value
  | 0 => A
  | k + 1 => (dK A B k).setIfInBounds (10 + k) (.int .u32 (le B (40 + 4 * k) 4))
theorem dK_size (A : Array Value) (B : Nat → Int) (k : Nat) : (dK A B k).size = A.size := by
  induction k with
  | zero => rfl
  | succ k ih => unfold dK; rw [Array.size_setIfInBounds, ih]
theorem dK6 (a0 a1 a2 a3 a4 a5 a6 a7 a8 a9 z0 z1 z2 z3 z4 z5 : Value) (B : Nat → Int) : dK #[a0, a1, a2, a3, a4, a5, a6, a7, a8, a9, z0, z1, z2, z3, z4, z5] B 6 = #[a0, a1, a2, a3, a4, a5, a6, a7, a8, a9, .int .u32 (le B 40 4), .int .u32 (le B 44 4), .int .u32 (le B 48 4), .int .u32 (le B 52 4), .int .u32 (le B 56 4), .int .u32 (le B 60 4)] := by
  simp [dK]
theorem Cmd.cells_one (c : Cmd) : c.cells.all (·.oneCell') = true := by simp [Cmd.cells, Value.oneCell']
theorem offN_w : ∀ k, k < 6 → offN nsC (9 + k) = 40 + 4 * k ∧ nsC (9 + k) = 4 := by decide

set_option maxRecDepth 100000 in
set_option maxHeartbeats 4000000 in
theorem cdec_ok (B : Nat → Int) (w : World) (hB : ∀ j, 0 ≤ B j ∧ B j ≤ 255) (h : goodB B) :
   Calls Try.prog 13 #[arrB64 B] w fun e w' => e = .returned (.tuple #[(dCmd B).v, .int .i64 0]) ∧ Below w.heap.size w w' := by
  have HB := Lib.hid hB
  have hb := hB 1
  obtain ⟨g1, g2, g3⟩ := h
  unfold arrB64
  clear hB
  have hrow : (w.alloc (.cells (arr 64 fun j => .int .u8 (B j)) 29)).rowIs w.heap.size 29 64 (fun j => .int .u8 (B j)) := rowIs_arr _ _ _ _
  have HROW := Lib.hid hrow
  obtain ⟨A16, hA⟩ : ∃ A, A = arr 64 fun j => Value.int .u8 (B j) := ⟨_, rfl⟩
  rw [← hA]
  have HA := Lib.hid hA
  have z := zeroCmd
  obtain ⟨Z, hZ⟩ : ∃ Z, Z = zCmdC := ⟨_, rfl⟩
  rw [← hZ] at z
  have hal : ∀ w : World, ArrAt (w.alloc (.cells Z 28)) w.heap.size Z := fun w => ArrAt.fresh _ _ _ (by rw [hZ]; decide)
  have HZS := Lib.hid (show Z.size = 16 by rw [hZ]; rfl)
  have HAL := Lib.hid hal
  clear hrow hA hZ hal
  go_enter Try.func13, Try.ntmps13
  go_wp2_with (first
    | ((with_reducible show wpList _ _ _ (⟨some 2, _, _, _, _, _⟩ :: _) _ _); refine wpList_alloc rfl _ rfl z ?_))
  have AZ0 := Lib.hid (HAL.out (w.alloc (.cells A16 29)))
  have hW : Hid ((w.alloc (.cells A16 29)).rowIs w.heap.size 29 64 (fun j => .int .u8 (B j))) := Lib.hid (by rw [HA.out]; exact HROW.out)
  refine (newReader_ok 64 64 ⟨w.heap.size, 0, none⟩ B _ (by omega) (by omega) (fun j hj => ((Keeps.refl (fun _ => False) _).alloc _).cell (by rw [Addr.add_mid, Nat.zero_add]; exact hW.out.cell hj) (fun e => e))).mono ?_
  rintro e w1 ⟨rb, g, rfl, hr, hb1', hrb, hg⟩
  have HR := Lib.hid hr
  have AZ1 := AZ0.out.below hb1'
  rw [World.size_alloc] at AZ1
  have AZ1 := Lib.hid AZ1
  have hbl : Below w.heap.size w w1 := (((Below.refl _ w).alloc (Nat.le_refl _) _).alloc (by simp) _).trans (hb1'.mono (by simp; omega))
  have HBL := Lib.hid hbl
  have hs := hb1'.size
  simp at hrb hg hs
  clear hr hb1' hbl
  go_wp2_with fail
  refine (rAll_ok rb g w1.heap.size 15 15 64 nsC B _ (by omega) HB.out (HR.out.kept (S := fun _ => False) ((Keeps.refl _ _).alloc _) (fun e => e) (fun e => e)) (by omega) nsC_cells nsC_bd nsC_le (by omega) (by simp; have := HR.out.srcLt (by omega); omega) (by simp)).mono ?_
  rintro e w2 ⟨q, cq, rfl, hq, hcq, hcc, hk2⟩
  have hbl2 : Below w.heap.size w w2 := ((HBL.out.alloc (by omega) _)).trans (hk2.below (by simp; omega) (fun j hj e => by have e : j = rb := e; omega))
  have AZ2 := (AZ1.out.alloc _).kept hk2 (fun e => by have e : w.heap.size + 1 = rb := e; omega)
  have AZ2 := Lib.hid AZ2
  have HBL2 := Lib.hid hbl2
  have hq : w1.heap.size < q := by simp at hq; omega
  have HCC := Lib.hid hcc
  clear hbl2 hk2 hcc
  have c0 : w2.cell? ⟨q, 0, none⟩ = some (.int .u64 (le B 0 1)) := HCC.out 0 (by omega)
  have c1 : w2.cell? ⟨q, 1, none⟩ = some (.int .u64 (le B 1 1)) := HCC.out 1 (by omega)
  have c2 : w2.cell? ⟨q, 2, none⟩ = some (.int .u64 (le B 2 2)) := HCC.out 2 (by omega)
  have c3 : w2.cell? ⟨q, 3, none⟩ = some (.int .u64 (le B 4 4)) := HCC.out 3 (by omega)
  have c4 : w2.cell? ⟨q, 4, none⟩ = some (.int .u64 (le B 8 4)) := HCC.out 4 (by omega)
  have c5 : w2.cell? ⟨q, 5, none⟩ = some (.int .u64 (le B 12 4)) := HCC.out 5 (by omega)
  have c6 : w2.cell? ⟨q, 6, none⟩ = some (.int .u64 (le B 16 8)) := HCC.out 6 (by omega)
  have c7 : w2.cell? ⟨q, 7, none⟩ = some (.int .u64 (le B 24 8)) := HCC.out 7 (by omega)
  have c8 : w2.cell? ⟨q, 8, none⟩ = some (.int .u64 (le B 32 8)) := HCC.out 8 (by omega)
  have c9 : w2.cell? ⟨q, 9, none⟩ = some (.int .u64 (le B 40 4)) := HCC.out 9 (by omega)
  have c10 : w2.cell? ⟨q, 10, none⟩ = some (.int .u64 (le B 44 4)) := HCC.out 10 (by omega)
  have c11 : w2.cell? ⟨q, 11, none⟩ = some (.int .u64 (le B 48 4)) := HCC.out 11 (by omega)
  have c12 : w2.cell? ⟨q, 12, none⟩ = some (.int .u64 (le B 52 4)) := HCC.out 12 (by omega)
  have c13 : w2.cell? ⟨q, 13, none⟩ = some (.int .u64 (le B 56 4)) := HCC.out 13 (by omega)
  have c14 : w2.cell? ⟨q, 14, none⟩ = some (.int .u64 (le B 60 4)) := HCC.out 14 (by omega)
  have b0 : le B 0 1 = B 0 := by simp [le]
  have b1 : le B 1 1 = B 1 := by simp [le]
  rw [b0] at c0
  rw [b1] at c1
  have hb0 := HB.out 0
  have l2 := le_bd HB.out 2 2
  have l3 := le_bd HB.out 4 4
  have l4 := le_bd HB.out 8 4
  have l5 := le_bd HB.out 12 4
  have l6 := le_bd HB.out 16 8
  have l7 := le_bd HB.out 24 8
  have l8 := le_bd HB.out 32 8
  obtain ⟨x0, e0⟩ : ∃ x, x = B 0 := ⟨_, rfl⟩
  obtain ⟨x1, e1⟩ : ∃ x, x = B 1 := ⟨_, rfl⟩
  obtain ⟨x2, e2⟩ : ∃ x, x = le B 2 2 := ⟨_, rfl⟩
  obtain ⟨x3, e3⟩ : ∃ x, x = le B 4 4 := ⟨_, rfl⟩
  obtain ⟨x4, e4⟩ : ∃ x, x = le B 8 4 := ⟨_, rfl⟩
  obtain ⟨x5, e5⟩ : ∃ x, x = le B 12 4 := ⟨_, rfl⟩
  obtain ⟨x6, e6⟩ : ∃ x, x = le B 16 8 := ⟨_, rfl⟩
  obtain ⟨x7, e7⟩ : ∃ x, x = le B 24 8 := ⟨_, rfl⟩
  obtain ⟨x8, e8⟩ : ∃ x, x = le B 32 8 := ⟨_, rfl⟩
  have HD : Hid (∀ a0 a1 a2 a3 a4 a5 : Int, a0 = le B 40 4 → a1 = le B 44 4 → a2 = le B 48 4 → a3 = le B 52 4 → a4 = le B 56 4 → a5 = le B 60 4 → (dCmd B).v = .agg #[.int .u8 x0, .int .u8 (x1 % 4), .bool (x1 / 64 == 1), .int .u16 x2, .int .u32 x3, .int .u32 x4, .int .u32 x5, .int .u64 x6, .int .u64 x7, .int .u64 x8, .int .u32 a0, .int .u32 a1, .int .u32 a2, .int .u32 a3, .int .u32 a4, .int .u32 a5]) := Lib.hid (by rintro _ _ _ _ _ _ rfl rfl rfl rfl rfl rfl; rw [e0, e1, e2, e3, e4, e5, e6, e7, e8]; rfl)
  rw [← e0] at c0 hb0
  rw [← e1] at c1 hb g1 g2 g3
  rw [← e2] at c2 l2
  rw [← e3] at c3 l3
  rw [← e4] at c4 l4
  rw [← e5] at c5 l5
  rw [← e6] at c6 l6
  rw [← e7] at c7 l7
  rw [← e8] at c8 l8
  have p1 := u64_and60 x1 hb
  have p2 : bits .and .u64 x1 3 = x1 % 4 := and_mask _ 2 (by omega) (by omega) (by omega)
  have q1 : (x1 / 4 % 16 * 4 != 0) = false := by simp; omega
  have q1' : (x1 / 4 % 16 * 4 == 0) = true := by simp; omega
  have q2 : (x1 % 4 == 3) = false := by simp; omega
  have q3 : decide (1 < x1 / 64) = false := by simp; omega
  have l0 : 0 ≤ x0 := hb0.1
  have u0 : x0 ≤ 255 := hb0.2
  have l1 : 0 ≤ x1 % 4 := by omega
  have u1 : x1 % 4 ≤ 255 := by omega
  obtain ⟨l2, u2⟩ := l2
  have u2 : x2 ≤ 65535 := by omega
  obtain ⟨l3, u3⟩ := l3
  have u3 : x3 ≤ 4294967295 := by omega
  obtain ⟨l4, u4⟩ := l4
  have u4 : x4 ≤ 4294967295 := by omega
  obtain ⟨l5, u5⟩ := l5
  have u5 : x5 ≤ 4294967295 := by omega
  obtain ⟨l6, u6⟩ := l6
  have u6 : x6 ≤ 18446744073709551615 := by omega
  obtain ⟨l7, u7⟩ := l7
  have u7 : x7 ≤ 18446744073709551615 := by omega
  obtain ⟨l8, u8⟩ := l8
  have u8 : x8 ≤ 18446744073709551615 := by omega
  clear e0 e1 e2 e3 e4 e5 e6 e7 e8 b0 b1 hb0 g1 g2 g3 c9 c10 c11 c12 c13 c14
  have hAF : ∃ A : Array Value, A = #[.int .u8 x0, .int .u8 (x1 % 4), .bool (x1 / 64 == 1), .int .u16 x2, .int .u32 x3, .int .u32 x4, .int .u32 x5, .int .u64 x6, .int .u64 x7, .int .u64 x8, .int .u32 0, .int .u32 0, .int .u32 0, .int .u32 0, .int .u32 0, .int .u32 0] := ⟨_, rfl⟩
  obtain ⟨AF, hAF⟩ := hAF
  have hbd : ∀ w, (Instr.build 25 #[(0, .int .u64 x7), (1, .int .u64 x8)]).run Try.prog w = .ok (.agg #[.int .u64 x7, .int .u64 x8]) w := fun _ => by kernel_rfl
  have hbl : ∀ w, (Instr.build 28 #[(0, .int .u8 x0), (1, .int .u8 (x1 % 4)), (2, .bool (x1 / 64 == 1)), (3, .int .u16 x2), (4, .int .u32 x3), (5, .int .u32 x4), (6, .int .u32 x5), (7, .int .u64 x6), (8, .agg #[.int .u64 x7, .int .u64 x8])]).run Try.prog w = .ok (.agg AF) w := fun _ => by rw [hAF]; kernel_rfl
  have FS := Lib.hid (show AF.size = 16 by rw [hAF]; rfl)
  have F1 := Lib.hid (show AF.all (·.oneCell') = true by rw [hAF]; simp [Value.oneCell'])
  have HAF := Lib.hid hAF
  have HSC := Lib.hid sizeCmd
  clear hAF
  have hrb9 : ¬ One (w.heap.size + 1) q := fun e => by have e : q = w.heap.size + 1 := e; omega
  have C0 := Lib.hid c0
  have C1 := Lib.hid c1
  have C2 := Lib.hid c2
  have C3 := Lib.hid c3
  have C4 := Lib.hid c4
  have C5 := Lib.hid c5
  have C6 := Lib.hid c6
  have C7 := Lib.hid c7
  have C8 := Lib.hid c8
  clear c0 c2 c3 c4 c5 c6 c7 c8
  go_upto_region 7 with fail
  clear z c1
  have W0 : IntKind.u8.wrap x0 = x0 := IntWalk.u8_in _ (by omega)
  have Wx1 : IntKind.u8.wrap (x1 % 4) = (x1 % 4) := IntWalk.u8_in _ (by omega)
  have W2 : IntKind.u16.wrap x2 = x2 := IntWalk.u16_in _ (by omega)
  have W3 : IntKind.u32.wrap x3 = x3 := IntWalk.u32_in _ (by omega)
  have W4 : IntKind.u32.wrap x4 = x4 := IntWalk.u32_in _ (by omega)
  have W5 : IntKind.u32.wrap x5 = x5 := IntWalk.u32_in _ (by omega)
  refine wp_region_held_drew (S := fun w' => Keeps (One (w.heap.size + 1)) w2 w') (by kernel_rfl) ((Keeps.refl _ _).drew) (fun hS0 => ?_)
  refine takeD 35 (i := 0) (v := .slice (some ⟨q, 0, none⟩) 15 cq) rfl rfl (by kernel_rfl) (by kernel_rfl) (by kernel_rfl) (fun _ _ _ h => h) (Or.inl ⟨by rfl, by (intro w' _; go_simp)⟩) (by assumption) ?_
  try simp only [Act.put, List.setIfInBounds_toArray, List.set_cons_zero, List.set_cons_succ]
  refine takeD 36 (i := 1) (v := .pointer (some ⟨q, 0, none⟩)) rfl rfl (by kernel_rfl) (by kernel_rfl) (by kernel_rfl) (fun _ _ _ h => h) (Or.inl ⟨by rfl, by (intro w' _; go_simp)⟩) (by assumption) ?_
  try simp only [Act.put, List.setIfInBounds_toArray, List.set_cons_zero, List.set_cons_succ]
  refine takeD 37 (i := 2) (v := .int .u64 x0) rfl rfl (by kernel_rfl) (by kernel_rfl) (by kernel_rfl) (fun _ _ _ h => h) (Or.inl ⟨by rfl, by (intro w' h; have h2 := Keeps.cell h C0.out hrb9; clear h; go_simp)⟩) (by assumption) ?_
  try simp only [Act.put, List.setIfInBounds_toArray, List.set_cons_zero, List.set_cons_succ]
  refine takeD 38 (i := 3) (v := .int .u8 x0) rfl rfl (by kernel_rfl) (by kernel_rfl) (by kernel_rfl) (fun _ _ _ h => h) (Or.inl ⟨by rfl, by (intro w' _; go_simp)⟩) (by assumption) ?_
  try simp only [Act.put, List.setIfInBounds_toArray, List.set_cons_zero, List.set_cons_succ]
  refine takeD 39 (i := 4) (v := .slice (some ⟨q, 0, none⟩) 15 cq) rfl rfl (by kernel_rfl) (by kernel_rfl) (by kernel_rfl) (fun _ _ _ h => h) (Or.inl ⟨by rfl, by (intro w' _; go_simp)⟩) (by assumption) ?_
  try simp only [Act.put, List.setIfInBounds_toArray, List.set_cons_zero, List.set_cons_succ]
  refine takeD 40 (i := 5) (v := .pointer (some ⟨q, 1, none⟩)) rfl rfl (by kernel_rfl) (by kernel_rfl) (by kernel_rfl) (fun _ _ _ h => h) (Or.inl ⟨by rfl, by (intro w' _; go_simp)⟩) (by assumption) ?_
  try simp only [Act.put, List.setIfInBounds_toArray, List.set_cons_zero, List.set_cons_succ]
  refine takeD 41 (i := 6) (v := .int .u64 x1) rfl rfl (by kernel_rfl) (by kernel_rfl) (by kernel_rfl) (fun _ _ _ h => h) (Or.inl ⟨by rfl, by (intro w' h; have h2 := Keeps.cell h C1.out hrb9; clear h; go_simp)⟩) (by assumption) ?_
  try simp only [Act.put, List.setIfInBounds_toArray, List.set_cons_zero, List.set_cons_succ]
  refine takeD 42 (i := 7) (v := .int .u64 (x1 % 4)) rfl rfl (by kernel_rfl) (by kernel_rfl) (by kernel_rfl) (fun _ _ _ h => h) (Or.inl ⟨by rfl, by (intro w' _; go_simp)⟩) (by assumption) ?_
  try simp only [Act.put, List.setIfInBounds_toArray, List.set_cons_zero, List.set_cons_succ]
  refine takeD 43 (i := 8) (v := .int .u8 (x1 % 4)) rfl rfl (by kernel_rfl) (by kernel_rfl) (by kernel_rfl) (fun _ _ _ h => h) (Or.inl ⟨by rfl, by (intro w' _; go_simp)⟩) (by assumption) ?_
  try simp only [Act.put, List.setIfInBounds_toArray, List.set_cons_zero, List.set_cons_succ]
  refine takeD 44 (i := 9) (v := .slice (some ⟨q, 0, none⟩) 15 cq) rfl rfl (by kernel_rfl) (by kernel_rfl) (by kernel_rfl) (fun _ _ _ h => h) (Or.inl ⟨by rfl, by (intro w' _; go_simp)⟩) (by assumption) ?_
  try simp only [Act.put, List.setIfInBounds_toArray, List.set_cons_zero, List.set_cons_succ]
  refine takeD 45 (i := 10) (v := .pointer (some ⟨q, 1, none⟩)) rfl rfl (by kernel_rfl) (by kernel_rfl) (by kernel_rfl) (fun _ _ _ h => h) (Or.inl ⟨by rfl, by (intro w' _; go_simp)⟩) (by assumption) ?_
  try simp only [Act.put, List.setIfInBounds_toArray, List.set_cons_zero, List.set_cons_succ]
  refine takeD 46 (i := 11) (v := .int .u64 x1) rfl rfl (by kernel_rfl) (by kernel_rfl) (by kernel_rfl) (fun _ _ _ h => h) (Or.inl ⟨by rfl, by (intro w' h; have h2 := Keeps.cell h C1.out hrb9; clear h; go_simp)⟩) (by assumption) ?_
  try simp only [Act.put, List.setIfInBounds_toArray, List.set_cons_zero, List.set_cons_succ]
  refine takeD 47 (i := 12) (v := .int .u64 (x1 / 64)) rfl rfl (by kernel_rfl) (by kernel_rfl) (by kernel_rfl) (fun _ _ _ h => h) (Or.inl ⟨by rfl, by (intro w' _; go_simp)⟩) (by assumption) ?_
  try simp only [Act.put, List.setIfInBounds_toArray, List.set_cons_zero, List.set_cons_succ]
  refine takeD 48 (i := 13) (v := .bool (x1 / 64 == 1)) rfl rfl (by kernel_rfl) (by kernel_rfl) (by kernel_rfl) (fun _ _ _ h => h) (Or.inl ⟨by rfl, by (intro w' _; go_simp)⟩) (by assumption) ?_
  try simp only [Act.put, List.setIfInBounds_toArray, List.set_cons_zero, List.set_cons_succ]
  refine takeD 49 (i := 14) (v := .slice (some ⟨q, 0, none⟩) 15 cq) rfl rfl (by kernel_rfl) (by kernel_rfl) (by kernel_rfl) (fun _ _ _ h => h) (Or.inl ⟨by rfl, by (intro w' _; go_simp)⟩) (by assumption) ?_
  try simp only [Act.put, List.setIfInBounds_toArray, List.set_cons_zero, List.set_cons_succ]
  refine takeD 50 (i := 15) (v := .pointer (some ⟨q, 2, none⟩)) rfl rfl (by kernel_rfl) (by kernel_rfl) (by kernel_rfl) (fun _ _ _ h => h) (Or.inl ⟨by rfl, by (intro w' _; go_simp)⟩) (by assumption) ?_
  try simp only [Act.put, List.setIfInBounds_toArray, List.set_cons_zero, List.set_cons_succ]
  refine takeD 51 (i := 16) (v := .int .u64 x2) rfl rfl (by kernel_rfl) (by kernel_rfl) (by kernel_rfl) (fun _ _ _ h => h) (Or.inl ⟨by rfl, by (intro w' h; have h2 := Keeps.cell h C2.out hrb9; clear h; go_simp)⟩) (by assumption) ?_
  try simp only [Act.put, List.setIfInBounds_toArray, List.set_cons_zero, List.set_cons_succ]
  refine takeD 52 (i := 17) (v := .int .u16 x2) rfl rfl (by kernel_rfl) (by kernel_rfl) (by kernel_rfl) (fun _ _ _ h => h) (Or.inl ⟨by rfl, by (intro w' _; go_simp)⟩) (by assumption) ?_
  try simp only [Act.put, List.setIfInBounds_toArray, List.set_cons_zero, List.set_cons_succ]
  refine takeD 53 (i := 18) (v := .slice (some ⟨q, 0, none⟩) 15 cq) rfl rfl (by kernel_rfl) (by kernel_rfl) (by kernel_rfl) (fun _ _ _ h => h) (Or.inl ⟨by rfl, by (intro w' _; go_simp)⟩) (by assumption) ?_
  try simp only [Act.put, List.setIfInBounds_toArray, List.set_cons_zero, List.set_cons_succ]
  refine takeD 54 (i := 19) (v := .pointer (some ⟨q, 3, none⟩)) rfl rfl (by kernel_rfl) (by kernel_rfl) (by kernel_rfl) (fun _ _ _ h => h) (Or.inl ⟨by rfl, by (intro w' _; go_simp)⟩) (by assumption) ?_
  try simp only [Act.put, List.setIfInBounds_toArray, List.set_cons_zero, List.set_cons_succ]
  refine takeD 55 (i := 20) (v := .int .u64 x3) rfl rfl (by kernel_rfl) (by kernel_rfl) (by kernel_rfl) (fun _ _ _ h => h) (Or.inl ⟨by rfl, by (intro w' h; have h2 := Keeps.cell h C3.out hrb9; clear h; go_simp)⟩) (by assumption) ?_
  try simp only [Act.put, List.setIfInBounds_toArray, List.set_cons_zero, List.set_cons_succ]
  refine takeD 56 (i := 21) (v := .int .u32 x3) rfl rfl (by kernel_rfl) (by kernel_rfl) (by kernel_rfl) (fun _ _ _ h => h) (Or.inl ⟨by rfl, by (intro w' _; go_simp)⟩) (by assumption) ?_
  try simp only [Act.put, List.setIfInBounds_toArray, List.set_cons_zero, List.set_cons_succ]
  refine takeD 57 (i := 22) (v := .slice (some ⟨q, 0, none⟩) 15 cq) rfl rfl (by kernel_rfl) (by kernel_rfl) (by kernel_rfl) (fun _ _ _ h => h) (Or.inl ⟨by rfl, by (intro w' _; go_simp)⟩) (by assumption) ?_
  try simp only [Act.put, List.setIfInBounds_toArray, List.set_cons_zero, List.set_cons_succ]
  refine takeD 58 (i := 23) (v := .pointer (some ⟨q, 4, none⟩)) rfl rfl (by kernel_rfl) (by kernel_rfl) (by kernel_rfl) (fun _ _ _ h => h) (Or.inl ⟨by rfl, by (intro w' _; go_simp)⟩) (by assumption) ?_
  try simp only [Act.put, List.setIfInBounds_toArray, List.set_cons_zero, List.set_cons_succ]
  refine takeD 59 (i := 24) (v := .int .u64 x4) rfl rfl (by kernel_rfl) (by kernel_rfl) (by kernel_rfl) (fun _ _ _ h => h) (Or.inl ⟨by rfl, by (intro w' h; have h2 := Keeps.cell h C4.out hrb9; clear h; go_simp)⟩) (by assumption) ?_
  try simp only [Act.put, List.setIfInBounds_toArray, List.set_cons_zero, List.set_cons_succ]
  refine takeD 60 (i := 25) (v := .int .u32 x4) rfl rfl (by kernel_rfl) (by kernel_rfl) (by kernel_rfl) (fun _ _ _ h => h) (Or.inl ⟨by rfl, by (intro w' _; go_simp)⟩) (by assumption) ?_
  try simp only [Act.put, List.setIfInBounds_toArray, List.set_cons_zero, List.set_cons_succ]
  refine takeD 61 (i := 26) (v := .slice (some ⟨q, 0, none⟩) 15 cq) rfl rfl (by kernel_rfl) (by kernel_rfl) (by kernel_rfl) (fun _ _ _ h => h) (Or.inl ⟨by rfl, by (intro w' _; go_simp)⟩) (by assumption) ?_
  try simp only [Act.put, List.setIfInBounds_toArray, List.set_cons_zero, List.set_cons_succ]
  refine takeD 62 (i := 27) (v := .pointer (some ⟨q, 5, none⟩)) rfl rfl (by kernel_rfl) (by kernel_rfl) (by kernel_rfl) (fun _ _ _ h => h) (Or.inl ⟨by rfl, by (intro w' _; go_simp)⟩) (by assumption) ?_
  try simp only [Act.put, List.setIfInBounds_toArray, List.set_cons_zero, List.set_cons_succ]
  refine takeD 63 (i := 28) (v := .int .u64 x5) rfl rfl (by kernel_rfl) (by kernel_rfl) (by kernel_rfl) (fun _ _ _ h => h) (Or.inl ⟨by rfl, by (intro w' h; have h2 := Keeps.cell h C5.out hrb9; clear h; go_simp)⟩) (by assumption) ?_
  try simp only [Act.put, List.setIfInBounds_toArray, List.set_cons_zero, List.set_cons_succ]
  refine takeD 64 (i := 29) (v := .int .u32 x5) rfl rfl (by kernel_rfl) (by kernel_rfl) (by kernel_rfl) (fun _ _ _ h => h) (Or.inl ⟨by rfl, by (intro w' _; go_simp)⟩) (by assumption) ?_
  try simp only [Act.put, List.setIfInBounds_toArray, List.set_cons_zero, List.set_cons_succ]
  refine takeD 65 (i := 30) (v := .slice (some ⟨q, 0, none⟩) 15 cq) rfl rfl (by kernel_rfl) (by kernel_rfl) (by kernel_rfl) (fun _ _ _ h => h) (Or.inl ⟨by rfl, by (intro w' _; go_simp)⟩) (by assumption) ?_
  try simp only [Act.put, List.setIfInBounds_toArray, List.set_cons_zero, List.set_cons_succ]
  refine takeD 66 (i := 31) (v := .pointer (some ⟨q, 6, none⟩)) rfl rfl (by kernel_rfl) (by kernel_rfl) (by kernel_rfl) (fun _ _ _ h => h) (Or.inl ⟨by rfl, by (intro w' _; go_simp)⟩) (by assumption) ?_
  try simp only [Act.put, List.setIfInBounds_toArray, List.set_cons_zero, List.set_cons_succ]
  refine takeD 67 (i := 32) (v := .int .u64 x6) rfl rfl (by kernel_rfl) (by kernel_rfl) (by kernel_rfl) (fun _ _ _ h => h) (Or.inl ⟨by rfl, by (intro w' h; have h2 := Keeps.cell h C6.out hrb9; clear h; go_simp)⟩) (by assumption) ?_
  try simp only [Act.put, List.setIfInBounds_toArray, List.set_cons_zero, List.set_cons_succ]
  refine takeD 68 (i := 33) (v := .slice (some ⟨q, 0, none⟩) 15 cq) rfl rfl (by kernel_rfl) (by kernel_rfl) (by kernel_rfl) (fun _ _ _ h => h) (Or.inl ⟨by rfl, by (intro w' _; go_simp)⟩) (by assumption) ?_
  try simp only [Act.put, List.setIfInBounds_toArray, List.set_cons_zero, List.set_cons_succ]
  refine takeD 69 (i := 34) (v := .pointer (some ⟨q, 7, none⟩)) rfl rfl (by kernel_rfl) (by kernel_rfl) (by kernel_rfl) (fun _ _ _ h => h) (Or.inl ⟨by rfl, by (intro w' _; go_simp)⟩) (by assumption) ?_
  try simp only [Act.put, List.setIfInBounds_toArray, List.set_cons_zero, List.set_cons_succ]
  refine takeD 70 (i := 35) (v := .int .u64 x7) rfl rfl (by kernel_rfl) (by kernel_rfl) (by kernel_rfl) (fun _ _ _ h => h) (Or.inl ⟨by rfl, by (intro w' h; have h2 := Keeps.cell h C7.out hrb9; clear h; go_simp)⟩) (by assumption) ?_
  try simp only [Act.put, List.setIfInBounds_toArray, List.set_cons_zero, List.set_cons_succ]
  refine takeD 71 (i := 36) (v := .slice (some ⟨q, 0, none⟩) 15 cq) rfl rfl (by kernel_rfl) (by kernel_rfl) (by kernel_rfl) (fun _ _ _ h => h) (Or.inl ⟨by rfl, by (intro w' _; go_simp)⟩) (by assumption) ?_
  try simp only [Act.put, List.setIfInBounds_toArray, List.set_cons_zero, List.set_cons_succ]
  refine takeD 72 (i := 37) (v := .pointer (some ⟨q, 8, none⟩)) rfl rfl (by kernel_rfl) (by kernel_rfl) (by kernel_rfl) (fun _ _ _ h => h) (Or.inl ⟨by rfl, by (intro w' _; go_simp)⟩) (by assumption) ?_
  try simp only [Act.put, List.setIfInBounds_toArray, List.set_cons_zero, List.set_cons_succ]
  refine takeD 73 (i := 38) (v := .int .u64 x8) rfl rfl (by kernel_rfl) (by kernel_rfl) (by kernel_rfl) (fun _ _ _ h => h) (Or.inl ⟨by rfl, by (intro w' h; have h2 := Keeps.cell h C8.out hrb9; clear h; go_simp)⟩) (by assumption) ?_
  try simp only [Act.put, List.setIfInBounds_toArray, List.set_cons_zero, List.set_cons_succ]
  refine takeD 74 (i := 39) (v := .agg #[.int .u64 x7, .int .u64 x8]) rfl rfl (by kernel_rfl) (by kernel_rfl) (by kernel_rfl) (fun _ _ _ h => h) (Or.inl ⟨by rfl, by (intro w' _; go_simp)⟩) (by assumption) ?_
  try simp only [Act.put, List.setIfInBounds_toArray, List.set_cons_zero, List.set_cons_succ]
  refine takeD 75 (i := 40) (v := .agg AF) rfl rfl (by kernel_rfl) (by kernel_rfl) (by kernel_rfl) (fun _ _ _ h => h) (Or.inl ⟨by rfl, by (intro w' _; exact (by rw [HAF.out]; go_simp))⟩) (by assumption) ?_
  try simp only [Act.put, List.setIfInBounds_toArray, List.set_cons_zero, List.set_cons_succ]
  refine wpAnyH_ready (rs := [41]) (by kernel_rfl) (by simp) (AllReadyH.cons rfl (fun K hK => ?_) AllReadyH.nil)
  rw [if_pos (by rfl)]
  refine wp_storeN 28 (.tmp 2) (.tmp 75) rfl rfl (w.heap.size + 1) 0 AF (by first | rfl | simp [Act.eval, Act.put]) (by first | rfl | simp [Act.eval, Act.put]) (by rw [FS.out, ← HZS.out]; exact AZ2.out.drew.th) (by rw [FS.out]; exact HSC.out) F1.out ?_
  refine hK.out _ _ (Keeps.store (S := One (w.heap.size + 1)) (Keeps.refl _ _).drew (fun _ => rfl) _ _) (fun hS0 => ?_)
  clear hK K
  try simp only [Act.put, List.setIfInBounds_toArray, List.set_cons_zero, List.set_cons_succ]
  refine wpAnyH_done (by kernel_rfl) ?_ _
  have AF0 := Lib.hid (AZ2.out.drew.store AF (by rw [FS.out, HZS.out]))
  have HB7 := Lib.hid (bstore HBL2.out.drew (w.heap.size + 1) (by omega) AF.toList 0)
  have HK7 := Lib.hid (show Keeps (One (w.heap.size + 1)) w2 (w2.drew.setCells (w.heap.size + 1) 0 AF.toList) from Keeps.store (S := One (w.heap.size + 1)) (Keeps.refl _ _).drew (fun _ => rfl) _ _)
  obtain ⟨w7, hw7⟩ : ∃ x, x = w2.drew.setCells (w.heap.size + 1) 0 AF.toList := ⟨_, rfl⟩
  rw [← hw7] at AF0 HB7 HK7 ⊢
  have HCW := Lib.hid (show ∀ k, k < 6 → w2.cell? ⟨q, 9 + k, none⟩ = some (.int .u64 (le B (40 + 4 * k) 4)) from fun k hk => by
    have h := HCC.out (9 + k) (by omega)
    rw [(offN_w k hk).1, (offN_w k hk).2] at h
    exact h)
  clear hw7 hbd hbl W0 Wx1 W2 W3 W4 W5 p1 p2 q1 q1' q2 q3 l0 u0 l1 u1 l2 u2 l3 u3 l4 u4 l5 u5 l6 u6 l7 u7 l8 u8 AZ2 HCC hb
  have hne2 : w.heap.size + 1 ≠ q := by omega
  have hcq15 : (15 : Int) ≤ (cq : Int) := by omega
  obtain ⟨gb, hgb⟩ : ∃ gb, gb = w.heap.size + 1 := ⟨_, rfl⟩
  rw [← hgb] at AF0 HK7 hrb9 hne2 ⊢
  have HGB := Lib.hid hgb
  clear hgb
  go_wp2_with fail
  go_loopw [6, 76] (fun _ i wr => ∃ k : Nat, k ≤ 6 ∧ i = .int .i64 (k : Nat) ∧ Keeps (One gb) w7 wr ∧ ArrAt wr gb (dK AF B k)) (fun _ i _ => 6 - (intOf i).toNat)
  case atStart => exact ⟨0, by omega, rfl, Keeps.refl _ _, AF0.out⟩
  case round =>
    obtain ⟨k, hk, rfl, hkp, ha⟩ := hrel
    have HK := Lib.hid hkp
    have HA := Lib.hid ha
    clear hkp ha
    by_cases hlt : k < 6
    · have x0 := (HK7.out.trans HK.out).cell (HCW.out k hlt) hrb9
      have m0 : (0 : Int) ≤ (k : Int) := by omega
      have m1 : (k : Int) < 6 := by omega
      have m2 : (9 : Int) + (k : Int) < 15 := by omega
      have m3 : (0 : Int) ≤ 9 + (k : Int) := by omega
      have m4 : IntKind.i64.wrap (9 + (k : Int)) = 9 + (k : Int) := IntWalk.i64_in _ (by omega)
      have m5 : (9 + (k : Int)).toNat = 9 + k := by omega
      have hs : (dK AF B k).size = 16 := by rw [dK_size, FS.out]
      have y0 := HA.out.cell (i := 10 + k) (Array.getElem?_eq_getElem (by rw [hs]; omega))
      have f0 := HA.out.frozen (i := 10 + k) (by rw [hs]; omega)
      obtain ⟨l1, u1⟩ := le_bd HB.out (40 + 4 * k) 4
      have u1 : le B (40 + 4 * k) 4 ≤ 4294967295 := by omega
      obtain ⟨x, hx⟩ : ∃ x, x = le B (40 + 4 * k) 4 := ⟨_, rfl⟩
      rw [← hx] at x0 l1 u1
      have w5 : IntKind.u32.wrap x = x := IntWalk.u32_in _ (by omega)
      obtain ⟨y, hy⟩ : ∃ y, y = (dK AF B k)[10 + k]'(by rw [hs]; omega) := ⟨_, rfl⟩
      rw [← hy] at y0
      have HX := Lib.hid hx
      clear hx hy hs
      go_wp2_with fail
      go_roundw
      case rel =>
        refine ⟨k + 1, by omega, by go_num, (HK.out.set1 _ _), ?_⟩
        have h := HA.out.set (10 + k) (.int .u32 x) (by rw [dK_size, FS.out]; omega)
        rw [HX.out] at h ⊢
        exact h
      case measure => simp [intOf]; omega
    · obtain rfl : k = 6 := by omega
      have HSZ := Lib.hid (show (dK AF B 6).size = 16 by rw [dK_size, FS.out])
      have HD6 := Lib.hid (HD.out _ _ _ _ _ _ rfl rfl rfl rfl rfl rfl)
      have HVA := Lib.hid (show (dCmd B).v = .agg (dK AF B 6) by rw [HD6.out, HAF.out, dK6])
      have HO6 := Lib.hid (show (dK AF B 6).all (·.oneCell') = true by rw [HAF.out, dK6]; simp [Value.oneCell'])
      obtain ⟨A6, hA6⟩ : ∃ A, A = dK AF B 6 := ⟨_, rfl⟩
      rw [← hA6] at HA HSZ HVA HO6
      obtain ⟨d, hd1, hd2⟩ := underCmd
      have HSC2 := Lib.hid (show (Try.prog.info? 28).map (·.size) = some A6.size by rw [HSZ.out]; exact HSC.out)
      clear hA6 HD6
      go_wp2_with (first
        | ((with_reducible show wpList _ _ _ (⟨some 89, _, _, _, _, _⟩ :: _) _ _); refine wpList_loadA rfl HA.out 28 (.tmp 2) rfl rfl hd1 hd2 HSC2.out ?_)
        | ((with_reducible show wpList _ _ _ (⟨none, _, _, _, _, _⟩ :: _) _ _); refine wpList_storeA rfl (b := gb) (A := A6) (A' := A6) HA.out 28 (.tmp 2) (.tmp 89) rfl (by simp [Act.eval, Act.put]) (by simp [Act.eval, Act.put]) HSC2.out rfl HO6.out ?_))
      have AZ := Lib.hid (HA.out.store A6 rfl)
      refine bodyPost_ret (results_ct rfl _ _ _ AZ.out rfl hd1 hd2 HSC2.out) rfl ⟨by rw [HVA.out]; simp, bstore (HB7.out.trans (HK.out.below (B := w.heap.size) HB7.out.size (fun j hj e => by have e : j = gb := e; have := HGB.out; omega))) _ (by have := HGB.out; omega) _ _⟩
end Go.Proofs.Ytggdjadhenamiaa
