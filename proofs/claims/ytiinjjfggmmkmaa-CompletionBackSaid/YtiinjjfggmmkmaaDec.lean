/- completion: Decode. -/
import Derived.Test.YtiinjjfggmmkmaaRd
namespace Go.Proofs.Ytiinjjfggmmkmaa
set_option linter.unusedVariables false
set_option linter.unusedSimpArgs false
open Go.RowKit

def arrB (B : Nat → Int) : Value := .agg (arr 16 fun j => .int .u8 (B j))
/-- the status word -/
def sw (B : Nat → Int) : Int := B 14 + B 15 * 256
/-- the completion of an entry -/
def dCpl (B : Nat → Int) : Cpl :=
  { r0 := le B 0 4, r1 := le B 4 4, head := le B 8 2, queue := le B 10 2, id := le B 12 2, ph := decide (sw B % 2 = 1), ty := sw B / 512 % 8, code := sw B / 2 % 256, more := decide (sw B / 16384 % 2 = 1), never := decide (sw B / 32768 = 1) }
def nsD (i : Nat) : Nat := if i < 2 then 4 else 2
def zCpl : Cpl := { r0 := 0, r1 := 0, head := 0, queue := 0, id := 0, ph := false, ty := 0, code := 0, more := false, never := false }

theorem le_sw (B : Nat → Int) : le B 14 2 = sw B := by simp [le, sw]
theorem and_mask (a : Int) (k : Nat) (h0 : 0 ≤ a) (h1 : a < 18446744073709551616) (hk : k ≤ 8) : bits .and .u64 a (2 ^ k - 1) = a % 2 ^ k := by
  have hk' : k = 0 ∨ k = 1 ∨ k = 2 ∨ k = 3 ∨ k = 4 ∨ k = 5 ∨ k = 6 ∨ k = 7 ∨ k = 8 := by omega
  have e : ((2 : Int) ^ k - 1) = ((2 ^ k - 1 : Nat) : Int) := by rcases hk' with rfl | rfl | rfl | rfl | rfl | rfl | rfl | rfl | rfl <;> rfl
  have hp : (2 ^ k - 1 : Nat) < 18446744073709551616 := by rcases hk' with rfl | rfl | rfl | rfl | rfl | rfl | rfl | rfl | rfl <;> decide
  obtain ⟨x, rfl⟩ := Int.eq_ofNat_of_zero_le h0
  rw [e, u64_and_nat _ _ (by omega) hp, Nat.and_two_pow_sub_one_eq_mod]
  push_cast
  rfl

theorem size10 : (Try.prog.info? 40).map (·.size) = some 10 := by kernel_rfl
theorem results10 {f : Func} (hf : f.results = #[.cell 2 40, .tmp 3]) (tmps : Array Value) (w : World) (ab ty : Nat) (G : Nat → Value) (e : Value) (h : w.rowIs ab ty 10 G) (h2 : tmps.getD 2 undef = .pointer (some ⟨ab, 0, none⟩)) (h3 : tmps.getD 3 undef = e) :
    (results f tmps).run Try.prog w = .ok (.tuple #[.agg (arr 10 G), e]) w := by
  rw [results_cell_tmp (p := 2) (u := 3) (ty := 40) hf, h2, h3]
  have hl := run_loadVar_mid (P := Try.prog) w ab 0 40 (arr 10 G).toList _ (rowIs_range0 h) Try.underlying40 rfl (by rw [size10]; simp [arr])
  simp only [asAddr, Sem.run_pure, Result.andThen_ok, hl, Array.toArray_toList]

theorem cplRow (W : World) (c : Cpl) : (W.alloc (.cells c.cells 40)).rowIs W.heap.size 40 10 (fun i => c.cells.getD i undef) :=
  World.rowIs_alloc W c.cells 40 (fun i => c.cells.getD i undef) (fun i hi => by
    have h : i < c.cells.size := hi
    simp only [Array.getD_eq_getD_getElem?]
    rw [Array.getElem?_eq_getElem h]; rfl)
theorem cplRow' (W : World) (c : Cpl) (n : Nat) (h : W.heap.size = n) : (W.alloc (.cells c.cells 40)).rowIs n 40 10 (fun i => c.cells.getD i undef) := by
  rw [← h]; exact cplRow W c
theorem nsD_cells {W : World} {t : TypeId} : ∀ i, i < 6 → (W.alloc (.cells #[.int .i64 4, .int .i64 4, .int .i64 2, .int .i64 2, .int .i64 2, .int .i64 2] t)).cell? ⟨W.heap.size, i, none⟩ = some (.int .i64 (nsD i)) := by
  intro i hi
  have h : i = 0 ∨ i = 1 ∨ i = 2 ∨ i = 3 ∨ i = 4 ∨ i = 5 := by omega
  rcases h with rfl | rfl | rfl | rfl | rfl | rfl <;> go_simp <;> rfl
theorem nsD_bd (i : Nat) : 1 ≤ nsD i ∧ nsD i ≤ 8 := by unfold nsD; split <;> omega
theorem nsD_le : ∀ k, k < 6 → offN nsD k + nsD k ≤ 16 := by decide
theorem Rst.srcLt {W : World} {rb g o len : Nat} {B : Nat → Int} (h : Rst W rb g o len B) (h0 : 0 < len) : g < W.heap.size := World.block_lt_of_cell? _ _ (h.src 0 h0)

set_option maxRecDepth 100000 in
set_option maxHeartbeats 2000000 in
theorem dec_ok (B : Nat → Int) (w : World) (hB : ∀ j, 0 ≤ B j ∧ B j ≤ 255) (h : B 15 / 16 % 4 = 0) :
   Calls Try.prog 29 #[arrB B] w fun e w' => e = .returned (.tuple #[(dCpl B).v, .int .i64 0]) ∧ Below w.heap.size w w' := by
  have HB := Lib.hid hB
  obtain ⟨hs1, hs2⟩ := le_bd hB 14 2
  rw [le_sw] at hs1 hs2
  unfold arrB
  have hsd : B 14 + B 15 * 256 = sw B := rfl
  obtain ⟨hb1, hb2⟩ := hB 14
  have h12 : sw B / 4096 % 4 = 0 := by omega
  clear hB
  have hrow : (w.alloc (.cells (arr 16 fun j => .int .u8 (B j)) 41)).rowIs w.heap.size 41 16 (fun j => .int .u8 (B j)) := rowIs_arr _ _ _ _
  have HROW := Lib.hid hrow
  obtain ⟨A16, hA⟩ : ∃ A, A = arr 16 fun j => Value.int .u8 (B j) := ⟨_, rfl⟩
  rw [← hA]
  have HA := Lib.hid hA
  clear hrow hA
  go_enter Try.func29, Try.ntmps29
  go_wp2_with fail
  have hW : Hid ((w.alloc (.cells A16 41)).rowIs w.heap.size 41 16 (fun j => .int .u8 (B j))) := Lib.hid (by rw [HA.out]; exact HROW.out)
  refine (newReader_ok 16 16 ⟨w.heap.size, 0, none⟩ B _ (by omega) (by omega) (fun j hj => ((Keeps.refl (fun _ => False) _).alloc _).cell (by rw [Addr.add_mid, Nat.zero_add]; exact hW.out.cell hj) (fun e => e))).mono ?_
  rintro e w1 ⟨rb, g, rfl, hr, hb1', hrb, hg⟩
  have HR := Lib.hid hr
  have hbl : Below w.heap.size w w1 := (((Below.refl _ w).alloc (Nat.le_refl _) _).alloc (by simp) _).trans (hb1'.mono (by simp; omega))
  have hqr : w1.rowIs (w.heap.size + 1) 40 10 (fun i => zCpl.cells.getD i undef) := (Keeps.of_below (S := fun _ => False) hb1').rowIs (cplRow' _ zCpl _ (by simp)) (fun e => e)
  have HBL := Lib.hid hbl
  have HQ := Lib.hid hqr
  have hs := hb1'.size
  simp at hrb hg hs
  clear hr hb1' hbl hqr
  go_wp2_with fail
  refine (rAll_ok rb g w1.heap.size 6 6 16 nsD B _ (by omega) HB.out (HR.out.kept (S := fun _ => False) ((Keeps.refl _ _).alloc _) (fun e => e) (fun e => e)) (by omega) nsD_cells nsD_bd nsD_le (by omega) (by simp; have := HR.out.srcLt (by omega); omega) (by simp)).mono ?_
  rintro e w2 ⟨q, cq, rfl, hq, hcq, hcc, hk2⟩
  have hbl2 : Below w.heap.size w w2 := ((HBL.out.alloc (by omega) _)).trans (hk2.below (by simp; omega) (fun j hj e => by have e : j = rb := e; omega))
  have hqr : w2.rowIs (w.heap.size + 1) 40 10 (fun i => zCpl.cells.getD i undef) := hk2.rowIs (((Keeps.refl (fun _ => False) _).alloc _).rowIs HQ.out (fun e => e)) (fun e => by have e : w.heap.size + 1 = rb := e; omega)
  have c0 : w2.cell? ⟨q, 0, none⟩ = some (.int .u64 (le B 0 4)) := hcc 0 (by omega)
  have c1 : w2.cell? ⟨q, 1, none⟩ = some (.int .u64 (le B 4 4)) := hcc 1 (by omega)
  have c2 : w2.cell? ⟨q, 2, none⟩ = some (.int .u64 (le B 8 2)) := hcc 2 (by omega)
  have c3 : w2.cell? ⟨q, 3, none⟩ = some (.int .u64 (le B 10 2)) := hcc 3 (by omega)
  have c4 : w2.cell? ⟨q, 4, none⟩ = some (.int .u64 (le B 12 2)) := hcc 4 (by omega)
  have c5 : w2.cell? ⟨q, 5, none⟩ = some (.int .u64 (sw B)) := by rw [← le_sw]; exact hcc 5 (by omega)
  obtain ⟨l0, u0⟩ := le_bd HB.out 0 4
  obtain ⟨l1, u1⟩ := le_bd HB.out 4 4
  obtain ⟨l2, u2⟩ := le_bd HB.out 8 2
  obtain ⟨l3, u3⟩ := le_bd HB.out 10 2
  obtain ⟨l4, u4⟩ := le_bd HB.out 12 2
  have u0 : le B 0 4 ≤ 4294967295 := by omega
  have u1 : le B 4 4 ≤ 4294967295 := by omega
  have u2 : le B 8 2 ≤ 65535 := by omega
  have u3 : le B 10 2 ≤ 65535 := by omega
  have u4 : le B 12 2 ≤ 65535 := by omega
  have u5 : sw B ≤ 65535 := by omega
  obtain ⟨x0, e0⟩ : ∃ x, x = le B 0 4 := ⟨_, rfl⟩
  obtain ⟨x1, e1⟩ : ∃ x, x = le B 4 4 := ⟨_, rfl⟩
  obtain ⟨x2, e2⟩ : ∃ x, x = le B 8 2 := ⟨_, rfl⟩
  obtain ⟨x3, e3⟩ : ∃ x, x = le B 10 2 := ⟨_, rfl⟩
  obtain ⟨x4, e4⟩ : ∃ x, x = le B 12 2 := ⟨_, rfl⟩
  obtain ⟨x5, e5⟩ : ∃ x, x = sw B := ⟨_, rfl⟩
  have HD : Hid ((dCpl B).v = .agg #[.int .u32 x0, .int .u32 x1, .int .u16 x2, .int .u16 x3, .int .u16 x4, .bool (decide (x5 % 2 = 1)), .int .u8 (x5 / 512 % 8), .int .u8 (x5 / 2 % 256), .bool (decide (x5 / 16384 % 2 = 1)), .bool (decide (x5 / 32768 = 1))]) := Lib.hid (by rw [e0, e1, e2, e3, e4, e5]; rfl)
  rw [← e0] at c0 l0 u0
  rw [← e1] at c1 l1 u1
  rw [← e2] at c2 l2 u2
  rw [← e3] at c3 l3 u3
  rw [← e4] at c4 l4 u4
  rw [← e5] at c5 hs1 u5 h12
  have p1 : bits .and .u64 (x5 / 4096) 3 = x5 / 4096 % 4 := and_mask _ 2 (by omega) (by omega) (by omega)
  have p2 : bits .and .u64 x5 1 = x5 % 2 := and_mask _ 1 (by omega) (by omega) (by omega)
  have p3 : bits .and .u64 (x5 / 512) 7 = x5 / 512 % 8 := and_mask _ 3 (by omega) (by omega) (by omega)
  have p4 : bits .and .u64 (x5 / 16384) 1 = x5 / 16384 % 2 := and_mask _ 1 (by omega) (by omega) (by omega)
  have w0 : IntKind.u8.wrap (x5 / 2) = x5 / 2 % 256 := by go_num
  have HBL2 := Lib.hid hbl2
  have HQ2 := Lib.hid hqr
  have HK2 := Lib.hid hk2
  clear hbl2 hqr hk2 hcc e0 e1 e2 e3 e4 e5 hs2 hsd hb1 hb2 h
  go_wp2_with fail
  have q0 : w2.cell? ⟨w.heap.size + 1, 0, none⟩ = some (.int .u32 0) := HQ2.out.cell (i := 0) (by omega)
  have q1 : w2.cell? ⟨w.heap.size + 1, 1, none⟩ = some (.int .u32 0) := HQ2.out.cell (i := 1) (by omega)
  have q2 : w2.cell? ⟨w.heap.size + 1, 2, none⟩ = some (.int .u16 0) := HQ2.out.cell (i := 2) (by omega)
  have q3 : w2.cell? ⟨w.heap.size + 1, 3, none⟩ = some (.int .u16 0) := HQ2.out.cell (i := 3) (by omega)
  have q4 : w2.cell? ⟨w.heap.size + 1, 4, none⟩ = some (.int .u16 0) := HQ2.out.cell (i := 4) (by omega)
  have q5 : w2.cell? ⟨w.heap.size + 1, 5, none⟩ = some (.bool false) := HQ2.out.cell (i := 5) (by omega)
  have q6 : w2.cell? ⟨w.heap.size + 1, 6, none⟩ = some (.int .u8 0) := HQ2.out.cell (i := 6) (by omega)
  have q7 : w2.cell? ⟨w.heap.size + 1, 7, none⟩ = some (.int .u8 0) := HQ2.out.cell (i := 7) (by omega)
  have q8 : w2.cell? ⟨w.heap.size + 1, 8, none⟩ = some (.bool false) := HQ2.out.cell (i := 8) (by omega)
  have q9 : w2.cell? ⟨w.heap.size + 1, 9, none⟩ = some (.bool false) := HQ2.out.cell (i := 9) (by omega)
  have r1 : 0 ≤ x5 / 512 % 8 := by omega
  have r2 : x5 / 512 % 8 ≤ 255 := by omega
  have g0 := HQ2.out.frozen 0
  have g1 := HQ2.out.frozen 1
  have g2 := HQ2.out.frozen 2
  have g3 := HQ2.out.frozen 3
  have g4 := HQ2.out.frozen 4
  have g5 := HQ2.out.frozen 5
  have g6 := HQ2.out.frozen 6
  have g7 := HQ2.out.frozen 7
  have g8 := HQ2.out.frozen 8
  have g9 := HQ2.out.frozen 9
  go_region
  go_wp2_with fail
  have HF := Lib.hid (rowIs_store (g := fun i => (#[Value.int .u32 x0, .int .u32 x1, .int .u16 x2, .int .u16 x3, .int .u16 x4, .bool (x5 % 2 == 1), .int .u8 (x5 / 512 % 8), .int .u8 (x5 / 2 % 256), .bool (x5 / 16384 % 2 == 1), .bool (x5 / 32768 == 1)] : Array Value).getD i undef) HQ2.out)
  refine bodyPost_ret (results10 rfl _ _ (w.heap.size + 1) _ _ _ (World.rowIs.drew HF.out) rfl rfl) rfl ⟨?_, ?_⟩
  · rw [HD.out]; rfl
  · refine (HBL2.out.trans (Keeps.below (B := w.heap.size) (S := One (w.heap.size + 1)) ?_ HBL2.out.size (fun k hk e => by have e : k = w.heap.size + 1 := e; omega))).drew
    exact ((((((((((Keeps.refl _ _).set1 _ _).set1 _ _).set1 _ _).set1 _ _).set1 _ _).set1 _ _).set1 _ _).set1 _ _).set1 _ _).set1 _ _
set_option maxRecDepth 100000 in
set_option maxHeartbeats 2000000 in
theorem dec_bad (B : Nat → Int) (w : World) (hB : ∀ j, 0 ≤ B j ∧ B j ≤ 255) (h : B 15 / 16 % 4 ≠ 0) :
   Calls Try.prog 29 #[arrB B] w fun e w' => e = .returned (.tuple #[zCpl.v, .int .i64 6]) ∧ Below w.heap.size w w' := by
  have HB := Lib.hid hB
  obtain ⟨hs1, hs2⟩ := le_bd hB 14 2
  rw [le_sw] at hs1 hs2
  unfold arrB
  have hsd : B 14 + B 15 * 256 = sw B := rfl
  obtain ⟨hb1, hb2⟩ := hB 14
  have h12 : sw B / 4096 % 4 ≠ 0 := by omega
  have h13 : decide (sw B / 4096 % 4 = 0) = false := by simp [h12]
  clear hB
  have hrow : (w.alloc (.cells (arr 16 fun j => .int .u8 (B j)) 41)).rowIs w.heap.size 41 16 (fun j => .int .u8 (B j)) := rowIs_arr _ _ _ _
  have HROW := Lib.hid hrow
  obtain ⟨A16, hA⟩ : ∃ A, A = arr 16 fun j => Value.int .u8 (B j) := ⟨_, rfl⟩
  rw [← hA]
  have HA := Lib.hid hA
  clear hrow hA
  go_enter Try.func29, Try.ntmps29
  go_wp2_with fail
  have hW : Hid ((w.alloc (.cells A16 41)).rowIs w.heap.size 41 16 (fun j => .int .u8 (B j))) := Lib.hid (by rw [HA.out]; exact HROW.out)
  refine (newReader_ok 16 16 ⟨w.heap.size, 0, none⟩ B _ (by omega) (by omega) (fun j hj => ((Keeps.refl (fun _ => False) _).alloc _).cell (by rw [Addr.add_mid, Nat.zero_add]; exact hW.out.cell hj) (fun e => e))).mono ?_
  rintro e w1 ⟨rb, g, rfl, hr, hb1', hrb, hg⟩
  have HR := Lib.hid hr
  have hbl : Below w.heap.size w w1 := (((Below.refl _ w).alloc (Nat.le_refl _) _).alloc (by simp) _).trans (hb1'.mono (by simp; omega))
  have hqr : w1.rowIs (w.heap.size + 1) 40 10 (fun i => zCpl.cells.getD i undef) := (Keeps.of_below (S := fun _ => False) hb1').rowIs (cplRow' _ zCpl _ (by simp)) (fun e => e)
  have HBL := Lib.hid hbl
  have HQ := Lib.hid hqr
  have hs := hb1'.size
  simp at hrb hg hs
  clear hr hb1' hbl hqr
  go_wp2_with fail
  refine (rAll_ok rb g w1.heap.size 6 6 16 nsD B _ (by omega) HB.out (HR.out.kept (S := fun _ => False) ((Keeps.refl _ _).alloc _) (fun e => e) (fun e => e)) (by omega) nsD_cells nsD_bd nsD_le (by omega) (by simp; have := HR.out.srcLt (by omega); omega) (by simp)).mono ?_
  rintro e w2 ⟨q, cq, rfl, hq, hcq, hcc, hk2⟩
  have hbl2 : Below w.heap.size w w2 := ((HBL.out.alloc (by omega) _)).trans (hk2.below (by simp; omega) (fun j hj e => by have e : j = rb := e; omega))
  have hqr : w2.rowIs (w.heap.size + 1) 40 10 (fun i => zCpl.cells.getD i undef) := hk2.rowIs (((Keeps.refl (fun _ => False) _).alloc _).rowIs HQ.out (fun e => e)) (fun e => by have e : w.heap.size + 1 = rb := e; omega)
  have c0 : w2.cell? ⟨q, 0, none⟩ = some (.int .u64 (le B 0 4)) := hcc 0 (by omega)
  have c1 : w2.cell? ⟨q, 1, none⟩ = some (.int .u64 (le B 4 4)) := hcc 1 (by omega)
  have c2 : w2.cell? ⟨q, 2, none⟩ = some (.int .u64 (le B 8 2)) := hcc 2 (by omega)
  have c3 : w2.cell? ⟨q, 3, none⟩ = some (.int .u64 (le B 10 2)) := hcc 3 (by omega)
  have c4 : w2.cell? ⟨q, 4, none⟩ = some (.int .u64 (le B 12 2)) := hcc 4 (by omega)
  have c5 : w2.cell? ⟨q, 5, none⟩ = some (.int .u64 (sw B)) := by rw [← le_sw]; exact hcc 5 (by omega)
  obtain ⟨l0, u0⟩ := le_bd HB.out 0 4
  obtain ⟨l1, u1⟩ := le_bd HB.out 4 4
  obtain ⟨l2, u2⟩ := le_bd HB.out 8 2
  obtain ⟨l3, u3⟩ := le_bd HB.out 10 2
  obtain ⟨l4, u4⟩ := le_bd HB.out 12 2
  have u0 : le B 0 4 ≤ 4294967295 := by omega
  have u1 : le B 4 4 ≤ 4294967295 := by omega
  have u2 : le B 8 2 ≤ 65535 := by omega
  have u3 : le B 10 2 ≤ 65535 := by omega
  have u4 : le B 12 2 ≤ 65535 := by omega
  have u5 : sw B ≤ 65535 := by omega
  obtain ⟨x0, e0⟩ : ∃ x, x = le B 0 4 := ⟨_, rfl⟩
  obtain ⟨x1, e1⟩ : ∃ x, x = le B 4 4 := ⟨_, rfl⟩
  obtain ⟨x2, e2⟩ : ∃ x, x = le B 8 2 := ⟨_, rfl⟩
  obtain ⟨x3, e3⟩ : ∃ x, x = le B 10 2 := ⟨_, rfl⟩
  obtain ⟨x4, e4⟩ : ∃ x, x = le B 12 2 := ⟨_, rfl⟩
  obtain ⟨x5, e5⟩ : ∃ x, x = sw B := ⟨_, rfl⟩
  have HD : Hid ((dCpl B).v = .agg #[.int .u32 x0, .int .u32 x1, .int .u16 x2, .int .u16 x3, .int .u16 x4, .bool (decide (x5 % 2 = 1)), .int .u8 (x5 / 512 % 8), .int .u8 (x5 / 2 % 256), .bool (decide (x5 / 16384 % 2 = 1)), .bool (decide (x5 / 32768 = 1))]) := Lib.hid (by rw [e0, e1, e2, e3, e4, e5]; rfl)
  rw [← e0] at c0 l0 u0
  rw [← e1] at c1 l1 u1
  rw [← e2] at c2 l2 u2
  rw [← e3] at c3 l3 u3
  rw [← e4] at c4 l4 u4
  rw [← e5] at c5 hs1 u5 h12 h13
  have p1 : bits .and .u64 (x5 / 4096) 3 = x5 / 4096 % 4 := and_mask _ 2 (by omega) (by omega) (by omega)
  have p2 : bits .and .u64 x5 1 = x5 % 2 := and_mask _ 1 (by omega) (by omega) (by omega)
  have p3 : bits .and .u64 (x5 / 512) 7 = x5 / 512 % 8 := and_mask _ 3 (by omega) (by omega) (by omega)
  have p4 : bits .and .u64 (x5 / 16384) 1 = x5 / 16384 % 2 := and_mask _ 1 (by omega) (by omega) (by omega)
  have w0 : IntKind.u8.wrap (x5 / 2) = x5 / 2 % 256 := by go_num
  have HBL2 := Lib.hid hbl2
  have HQ2 := Lib.hid hqr
  have HK2 := Lib.hid hk2
  clear hbl2 hqr hk2 hcc e0 e1 e2 e3 e4 e5 hs2 hsd hb1 hb2 h
  have q0 : w2.cell? ⟨w.heap.size + 1, 0, none⟩ = some (.int .u32 0) := HQ2.out.cell (i := 0) (by omega)
  have q1 : w2.cell? ⟨w.heap.size + 1, 1, none⟩ = some (.int .u32 0) := HQ2.out.cell (i := 1) (by omega)
  have q2 : w2.cell? ⟨w.heap.size + 1, 2, none⟩ = some (.int .u16 0) := HQ2.out.cell (i := 2) (by omega)
  have q3 : w2.cell? ⟨w.heap.size + 1, 3, none⟩ = some (.int .u16 0) := HQ2.out.cell (i := 3) (by omega)
  have q4 : w2.cell? ⟨w.heap.size + 1, 4, none⟩ = some (.int .u16 0) := HQ2.out.cell (i := 4) (by omega)
  have q5 : w2.cell? ⟨w.heap.size + 1, 5, none⟩ = some (.bool false) := HQ2.out.cell (i := 5) (by omega)
  have q6 : w2.cell? ⟨w.heap.size + 1, 6, none⟩ = some (.int .u8 0) := HQ2.out.cell (i := 6) (by omega)
  have q7 : w2.cell? ⟨w.heap.size + 1, 7, none⟩ = some (.int .u8 0) := HQ2.out.cell (i := 7) (by omega)
  have q8 : w2.cell? ⟨w.heap.size + 1, 8, none⟩ = some (.bool false) := HQ2.out.cell (i := 8) (by omega)
  have q9 : w2.cell? ⟨w.heap.size + 1, 9, none⟩ = some (.bool false) := HQ2.out.cell (i := 9) (by omega)
  have g0 := HQ2.out.frozen 0
  have g1 := HQ2.out.frozen 1
  have g2 := HQ2.out.frozen 2
  have g3 := HQ2.out.frozen 3
  have g4 := HQ2.out.frozen 4
  have g5 := HQ2.out.frozen 5
  have g6 := HQ2.out.frozen 6
  have g7 := HQ2.out.frozen 7
  have g8 := HQ2.out.frozen 8
  have g9 := HQ2.out.frozen 9
  go_wp2_with fail
  have HF := Lib.hid (rowIs_store (g := fun i => zCpl.cells.getD i undef) HQ2.out)
  refine bodyPost_ret (results10 rfl _ _ (w.heap.size + 1) _ _ _ HF.out rfl rfl) rfl ⟨rfl, HBL2.out.trans (Keeps.below (B := w.heap.size) (S := One (w.heap.size + 1)) ?_ HBL2.out.size (fun k hk e => by have e : k = w.heap.size + 1 := e; omega))⟩
  exact ((((((((((Keeps.refl _ _).set1 _ _).set1 _ _).set1 _ _).set1 _ _).set1 _ _).set1 _ _).set1 _ _).set1 _ _).set1 _ _).set1 _ _
end Go.Proofs.Ytiinjjfggmmkmaa
