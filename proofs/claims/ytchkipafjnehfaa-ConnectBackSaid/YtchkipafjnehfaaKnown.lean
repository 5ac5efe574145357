/- connect: the examples of the chapter. -/
import Derived.Test.YtchkipafjnehfaaL
namespace Go.Proofs.Ytchkipafjnehfaa
set_option linter.unusedVariables false
set_option linter.unusedSimpArgs false
open Go.RowKit

def kE : Nat → Value := putF (putF (putF (hd ⟨1, 7, 1, 31, 0, false, 0, 0, 0⟩ 5) 42 2 1) 44 2 31) 48 4 0
def kB : Nat → Value := fun j => if j = 0 then .int .u8 127 else if j = 1 then .int .u8 64 else if j = 2 then .int .u8 7 else if j = 4 then .int .u8 1 else .int .u8 0
def kC : Nat → Value := fun j => if j = 44 then .int .u8 31 else if j = 42 then .int .u8 1 else kB j
theorem kE_one : (arr 64 kE).all (·.oneCell') = true := arr_one (putF_one (putF_one (putF_one (hd_one _ _))) · |> fun h _ => h)
theorem kB_build (w : World) : (Instr.build 43 #[(0, .int .u8 127), (1, .int .u8 64), (2, .int .u8 7), (3, .int .u8 0), (4, .int .u8 1)]).run Try.prog w = .ok (.agg (arr 64 kB)) w := by kernel_rfl
theorem kneq (w : World) : (binOp .neq 43 (.agg (arr 64 kE)) (.agg (arr 64 kC))).run Try.prog w = .ok (.bool false) w := by kernel_rfl
theorem kB_one : (arr 64 kB).all (·.oneCell') = true := by kernel_rfl

theorem encode_kE (w : World) : Calls Try.prog 19 #[Fab.v ⟨1, 7, 1, 31, 0, false, 0, 0, 0⟩] w fun e w' => e = .returned (.tuple #[.agg (arr 64 kE), .int .i64 0]) ∧ Below w.heap.size w w' := encode_known w

set_option maxRecDepth 100000 in
set_option maxHeartbeats 4000000 in
theorem known_any (w : World) : Calls Try.prog 14 #[] w fun e w' => e = .returned (.bool true) ∧ Below w.heap.size w w' := by
  have HEn := Lib.hid encode_kE
  have HN := Lib.hid kneq
  have HZ := Lib.hid kB_build
  go_enter Try.func14, Try.ntmps14
  go_wp2_with fail
  refine (HEn.out _).mono ?_
  rintro e w1 ⟨rfl, hb1⟩
  have HB1 := Lib.hid hb1
  have hs1 := hb1.size
  have HA1 := Lib.hid (rowIs_arr w1 43 64 z8)
  clear hb1
  go_upto_region 2 with (first
    | ((with_reducible show wpList _ _ _ (⟨some 1, .alloc _, _, _, _, _⟩ :: _) _ _); refine wpList_alloc rfl 43 rfl zero64 ?_; rw [show (Value.agg (arr 64 z8)).cells = arr 64 z8 from rfl])
    | ((with_reducible show wpList _ _ _ (⟨none, .store _ (.tmp 1) (.tmp 18), _, _, _, _⟩ :: _) _ _); refine wpList_store_mid rfl 43 (.tmp 1) (.tmp 18) rfl w1.heap.size 0 (arr 64 kE) (by simp [Act.eval, Act.put]) (by simp [Act.eval, Act.put]) (by rw [arr_size]; exact rowIs_there HA1.out 0 64 (by omega)) (by rw [arr64, arr_size]) kE_one ?_))
  obtain ⟨W2, hW2⟩ : ∃ W2, W2 = (w1.alloc (.cells (arr 64 z8) 43)).setCells w1.heap.size 0 (arr 64 kE).toList := ⟨_, rfl⟩
  rw [← hW2]
  have hk2 : Keeps (One w1.heap.size) (w1.alloc (.cells (arr 64 z8) 43)) W2 := by rw [hW2]; exact Keeps.setCells _ (Keeps.refl _ _) 0
  have R1 := Lib.hid (show W2.rowIs w1.heap.size 43 64 kE by rw [hW2]; exact rowIs_store HA1.out)
  have HB2 := Lib.hid ((HB1.out.alloc HB1.out.size (.cells (arr 64 z8) 43)).trans (hk2.below (B := w.heap.size) (by simp; omega) (fun k hk e => by have e : k = w1.heap.size := e; omega)))
  clear hk2 hW2 HB1 HA1
  have hl2 : w1.heap.size < W2.heap.size := R1.out.lt
  have HA2 := Lib.hid (rowIs_arr W2 43 64 z8)
  go_upto_region 3 with (first
    | ((with_reducible show wpList _ _ _ (⟨some 3, .alloc _, _, _, _, _⟩ :: _) _ _); refine wpList_alloc rfl 43 rfl zero64 ?_; rw [show (Value.agg (arr 64 z8)).cells = arr 64 z8 from rfl])
    | ((with_reducible show wpList _ _ _ (⟨some 20, .build _ _, _, _, _, _⟩ :: _) _ _); refine wpList_buildC rfl 43 _ rfl #[(0, .int .u8 127), (1, .int .u8 64), (2, .int .u8 7), (3, .int .u8 0), (4, .int .u8 1)] (by simp [Act.eval]) (kB_build _) ?_)
    | ((with_reducible show wpList _ _ _ (⟨none, .store _ (.tmp 3) (.tmp 20), _, _, _, _⟩ :: _) _ _); refine wpList_store_mid rfl 43 (.tmp 3) (.tmp 20) rfl W2.heap.size 0 (arr 64 kB) (by simp [Act.eval, Act.put]) (by simp [Act.eval, Act.put]) (by rw [arr_size]; exact rowIs_there HA2.out 0 64 (by omega)) (by rw [arr64, arr_size]) kB_one ?_))
  obtain ⟨W3, hW3⟩ : ∃ W3, W3 = (W2.alloc (.cells (arr 64 z8) 43)).setCells W2.heap.size 0 (arr 64 kB).toList := ⟨_, rfl⟩
  rw [← hW3]
  have hk3 : Keeps (One W2.heap.size) (W2.alloc (.cells (arr 64 z8) 43)) W3 := by rw [hW3]; exact Keeps.setCells _ (Keeps.refl _ _) 0
  have R2 := Lib.hid (show W3.rowIs W2.heap.size 43 64 kB by rw [hW3]; exact rowIs_store HA2.out)
  have R13 := Lib.hid (show W3.rowIs w1.heap.size 43 64 kE from (((Keeps.refl (fun _ => False) W2).alloc (.cells (arr 64 z8) 43)).mono (T := One W2.heap.size) (fun _ _ h => h.elim) |>.trans hk3).rowIs R1.out (fun e => by have e : w1.heap.size = W2.heap.size := e; omega))
  have HB3 := Lib.hid ((HB2.out.alloc HB2.out.size (.cells (arr 64 z8) 43)).trans (hk3.below (B := w.heap.size) (by simp; omega) (fun k hk e => by have e : k = W2.heap.size := e; omega)))
  clear hk3 hW3 R1 HA2
  have c42 := R2.out.cell (i := 42) (by omega)
  have c44 := R2.out.cell (i := 44) (by omega)
  have f4 := R2.out.frozen
  obtain ⟨W4, hW4⟩ : ∃ W4, W4 = (W3.setCell ⟨W2.heap.size, 42, none⟩ (.int .u8 1)).setCell ⟨W2.heap.size, 44, none⟩ (.int .u8 31) := ⟨_, rfl⟩
  have hk4 : Keeps (One W2.heap.size) W3 W4 := by rw [hW4]; exact ((Keeps.refl _ _).set1 _ _).set1 _ _
  have R24 := Lib.hid (show W4.rowIs W2.heap.size 43 64 kC by rw [hW4]; exact (R2.out.set 42 _).set 44 _)
  have R14 := Lib.hid (show W4.rowIs w1.heap.size 43 64 kE from hk4.rowIs R13.out (fun e => by have e : w1.heap.size = W2.heap.size := e; omega))
  have HB4 := Lib.hid (HB3.out.trans (hk4.below (B := w.heap.size) HB3.out.size (fun k hk e => by have e : k = W2.heap.size := e; omega)))
  clear hk4
  have HW4 := Lib.hid hW4
  clear hW4
  go_wp2_with fail
  rw [← HW4.out]
  clear c42 c44 f4 R2 R13 HB3
  refine (decres_bad 65541 W4 (by omega) (by omega) (by omega)).mono ?_
  rintro e w' ⟨rfl, rfl⟩
  go_wp2_with fail
  refine (newwatch_ok 10 W4 (by omega)).mono ?_
  rintro e w5 ⟨b, rfl, hwa, hb, hb5⟩
  have HWA := Lib.hid hwa
  have HB5 := Lib.hid (HB4.out.trans (hb5.mono HB4.out.size))
  have RE := Lib.hid (rowIs_range0 (R14.out.of_block (hb5.block _ R14.out.lt)))
  have RC := Lib.hid (rowIs_range0 (R24.out.of_block (hb5.block _ R24.out.lt)))
  clear hwa hb5 R14 R24
  have hn := HN.out
  go_wp2_with (first
    | ((with_reducible show wpList _ _ _ (⟨some 35, .load _ _, _, _, _, _⟩ :: _) _ _); refine wpList_load_midG rfl 43 (.tmp 1) rfl w1.heap.size 0 rfl (arr 64 kE).toList _ RE.out Try.underlying43 rfl (by rw [arr64]; simp [arr]) ?_)
    | ((with_reducible show wpList _ _ _ (⟨some 36, .load _ _, _, _, _, _⟩ :: _) _ _); refine wpList_load_midG rfl 43 (.tmp 3) rfl W2.heap.size 0 rfl (arr 64 kC).toList _ RC.out Try.underlying43 rfl (by rw [arr64]; simp [arr]) ?_))
  clear hn
  refine (encres_any 5 true w5 (by omega) (by omega)).mono ?_
  rintro e w' ⟨rfl, rfl⟩
  go_wp2_with fail
  have hlb := HB4.out.size
  refine (touch_ok b 10 0 0 4 4 false _ HWA.out (by omega) (by omega) (by omega) (by omega) (by omega) (by omega) (by omega) (by decide)).mono ?_
  rintro e w6 ⟨rfl, hk6, h6⟩
  have H6 := Lib.hid h6
  have HB6 := Lib.hid (HB5.out.trans (hk6.below (B := w.heap.size) HB5.out.size (fun k hk e => by have e : k = b := e; omega)))
  clear hk6 h6
  go_wp2_with fail
  refine (expired_ok b 10 4 4 13 13 false false _ H6.out (by omega) (by omega) (by omega) (by omega) (by omega) (by omega) (by omega) (by decide)).mono ?_
  rintro e w7 ⟨rfl, hk7, h7⟩
  have H7 := Lib.hid h7
  have HB7 := Lib.hid (HB6.out.trans (hk7.below (B := w.heap.size) HB6.out.size (fun k hk e => by have e : k = b := e; omega)))
  clear hk7 h7
  go_wp2_with fail
  refine (expired_ok b 10 13 4 14 14 false true _ H7.out (by omega) (by omega) (by omega) (by omega) (by omega) (by omega) (by omega) (by decide)).mono ?_
  rintro e w8 ⟨rfl, hk8, h8⟩
  have H8 := Lib.hid h8
  have HB8 := Lib.hid (HB7.out.trans (hk8.below (B := w.heap.size) HB7.out.size (fun k hk e => by have e : k = b := e; omega)))
  clear hk8 h8
  go_wp2_with fail
  refine (touch_late b 10 14 4 15 15 true _ H8.out (by omega) (by omega) (by omega) (by omega) (by omega) (by omega) (by omega) (by decide)).mono ?_
  rintro e w9 ⟨rfl, hk9, h9⟩
  have H9 := Lib.hid h9
  have HB9 := Lib.hid (HB8.out.trans (hk9.below (B := w.heap.size) HB8.out.size (fun k hk e => by have e : k = b := e; omega)))
  clear hk9 h9
  go_wp2_with fail
  refine (due_ok b 10 15 4 14 true _ H9.out (by omega) (by omega) (by omega) (by omega) (by decide)).mono ?_
  rintro e w10 ⟨rfl, k, rfl⟩
  go_wp2_with fail
  go_ret
  exact ⟨rfl, HB9.out.trans ⟨rfl, rfl, rfl, Nat.le_refl _, fun _ _ => rfl⟩⟩
end Go.Proofs.Ytchkipafjnehfaa
