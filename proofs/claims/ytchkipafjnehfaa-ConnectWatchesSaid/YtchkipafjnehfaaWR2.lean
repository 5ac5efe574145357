/- connect: the reference's Touch. -/
import Derived.Test.YtchkipafjnehfaaWR
import Derived.Deep.CutRange
import Derived.Deep.RegionWith
namespace Go.Proofs.Ytchkipafjnehfaa
open Go.RowKit

set_option maxHeartbeats 2000000 in
theorem refTouch_late (l n t now m : Int) (o : Bool) (w : World) (hl : 0 ≤ l) (hl' : l ≤ 9223372036854775807) (ht : 0 ≤ t) (htn : t ≤ n) (hn : n ≤ 9223372036854775807) (hw : now ≤ 9223372036854775807) (hm : m = max n now) (ho : true = ov l m t o) :
    Calls Try.prog 26 #[rw l n t o, .int .i64 now] w fun e w' => e = .returned (.tuple #[rw l m t true, .int .i64 8]) ∧ Below w.heap.size w w' := by
  have HP := Lib.hid fun w => refPass_any l n t now m o true w hl hl' ht htn hn hw hm ho
  clear hm ho
  unfold rw at *
  go_enter Try.func26, Try.ntmps26
  go_wp2_with fail
  refine (HP.out _).mono ?_
  rintro e w1 ⟨rfl, hb⟩
  have HBw := Lib.hid ((((Below.refl _ w).alloc (Nat.le_refl _) (.cells #[.int .i64 l, .int .i64 n, .int .i64 t, .bool o] 51)).alloc (by simp) (.cells #[.int .i64 0, .int .i64 0, .int .i64 0, .bool false] 51)).trans (hb.mono (by simp; omega)))
  obtain ⟨hR0, hR1⟩ := two_rows l n t o w
  have R0 := hR0.of_block (hb.block _ hR0.lt)
  have R1 := hR1.of_block (hb.block _ hR1.lt)
  have a0 : w1.cell? ⟨w.heap.size, 0, none⟩ = some (.int .i64 l) := R0.cell (by omega)
  have a1 : w1.cell? ⟨w.heap.size, 1, none⟩ = some (.int .i64 n) := R0.cell (by omega)
  have a2 : w1.cell? ⟨w.heap.size, 2, none⟩ = some (.int .i64 t) := R0.cell (by omega)
  have a3 : w1.cell? ⟨w.heap.size, 3, none⟩ = some (.bool o) := R0.cell (by omega)
  have a4 := R0.frozen
  have HR0 := Lib.hid R0
  have HR1 := Lib.hid R1
  clear hR0 hR1 R0 R1 hb
  go_upto_region 2 with (fail)
  obtain ⟨W2, hW2⟩ : ∃ W2, W2 = (((w1.setCell ⟨w.heap.size, 0, none⟩ (.int .i64 l)).setCell ⟨w.heap.size, 1, none⟩ (.int .i64 m)).setCell ⟨w.heap.size, 2, none⟩ (.int .i64 t)).setCell ⟨w.heap.size, 3, none⟩ (.bool true) := ⟨_, rfl⟩
  rw [← hW2]
  have hk2 : Keeps (One w.heap.size) w1 W2 := by rw [hW2]; exact ((((Keeps.refl _ _).set1 _ _).set1 _ _).set1 _ _).set1 _ _
  have R0 : W2.rowIs w.heap.size 51 4 (rcell l m t true) := by
    rw [hW2]
    refine ((((HR0.out.set 0 _).set 1 _).set 2 _).set 3 _).congr fun i hi => ?_
    match i, hi with
    | 0, _ => rfl
    | 1, _ => rfl
    | 2, _ => rfl
    | 3, _ => rfl
  have R1 := hk2.rowIs HR1.out (fun e => by have e : w.heap.size + 1 = w.heap.size := e; omega)
  have HB2 := Lib.hid (HBw.out.trans (hk2.below (B := w.heap.size) HBw.out.size (fun k hk e => by have e : k = w.heap.size := e; omega)))
  clear a0 a1 a2 a3 a4 hk2 hW2 HR0 HR1 HBw
  have a0 : W2.cell? ⟨w.heap.size, 0, none⟩ = some (.int .i64 l) := R0.cell (by omega)
  have a1 : W2.cell? ⟨w.heap.size, 1, none⟩ = some (.int .i64 m) := R0.cell (by omega)
  have a2 : W2.cell? ⟨w.heap.size, 2, none⟩ = some (.int .i64 t) := R0.cell (by omega)
  have a3 : W2.cell? ⟨w.heap.size, 3, none⟩ = some (.bool true) := R0.cell (by omega)
  have a4 := R0.frozen
  have HR0 := Lib.hid R0
  clear R0
  have b0 : W2.cell? ⟨w.heap.size + 1, 0, none⟩ = some (.int .i64 0) := R1.cell (by omega)
  have b1 : W2.cell? ⟨w.heap.size + 1, 1, none⟩ = some (.int .i64 0) := R1.cell (by omega)
  have b2 : W2.cell? ⟨w.heap.size + 1, 2, none⟩ = some (.int .i64 0) := R1.cell (by omega)
  have b3 : W2.cell? ⟨w.heap.size + 1, 3, none⟩ = some (.bool false) := R1.cell (by omega)
  have b4 := R1.frozen
  clear R1
  go_wp2_with fail
  refine bodyPost_ret (v := .tuple #[.agg #[.int .i64 l, .int .i64 m, .int .i64 t, .bool true], .int .i64 8]) (by simp [results, Try.results26, go_sem, b0, b1, b2, b3, b4]) rfl ⟨rfl, ?_⟩
  exact (((HB2.out.setCell (p := ⟨w.heap.size + 1, 0, none⟩) (by simp) _).setCell (p := ⟨w.heap.size + 1, 1, none⟩) (by simp) _).setCell (p := ⟨w.heap.size + 1, 2, none⟩) (by simp) _).setCell (p := ⟨w.heap.size + 1, 3, none⟩) (by simp) _

set_option maxHeartbeats 2000000 in
theorem refTouch_ok (l n t now m : Int) (o : Bool) (w : World) (hl : 0 ≤ l) (hl' : l ≤ 9223372036854775807) (ht : 0 ≤ t) (htn : t ≤ n) (hn : n ≤ 9223372036854775807) (hw : now ≤ 9223372036854775807) (hm : m = max n now) (ho : false = ov l m t o) :
    Calls Try.prog 26 #[rw l n t o, .int .i64 now] w fun e w' => e = .returned (.tuple #[rw l m m false, .int .i64 0]) ∧ Below w.heap.size w w' := by
  have HP := Lib.hid fun w => refPass_any l n t now m o false w hl hl' ht htn hn hw hm ho
  clear hm ho
  unfold rw at *
  go_enter Try.func26, Try.ntmps26
  go_wp2_with fail
  refine (HP.out _).mono ?_
  rintro e w1 ⟨rfl, hb⟩
  have HBw := Lib.hid ((((Below.refl _ w).alloc (Nat.le_refl _) (.cells #[.int .i64 l, .int .i64 n, .int .i64 t, .bool o] 51)).alloc (by simp) (.cells #[.int .i64 0, .int .i64 0, .int .i64 0, .bool false] 51)).trans (hb.mono (by simp; omega)))
  obtain ⟨hR0, hR1⟩ := two_rows l n t o w
  have R0 := hR0.of_block (hb.block _ hR0.lt)
  have R1 := hR1.of_block (hb.block _ hR1.lt)
  have a0 : w1.cell? ⟨w.heap.size, 0, none⟩ = some (.int .i64 l) := R0.cell (by omega)
  have a1 : w1.cell? ⟨w.heap.size, 1, none⟩ = some (.int .i64 n) := R0.cell (by omega)
  have a2 : w1.cell? ⟨w.heap.size, 2, none⟩ = some (.int .i64 t) := R0.cell (by omega)
  have a3 : w1.cell? ⟨w.heap.size, 3, none⟩ = some (.bool o) := R0.cell (by omega)
  have a4 := R0.frozen
  have HR0 := Lib.hid R0
  have HR1 := Lib.hid R1
  clear hR0 hR1 R0 R1 hb
  go_upto_region 2 with (fail)
  obtain ⟨W2, hW2⟩ : ∃ W2, W2 = (((w1.setCell ⟨w.heap.size, 0, none⟩ (.int .i64 l)).setCell ⟨w.heap.size, 1, none⟩ (.int .i64 m)).setCell ⟨w.heap.size, 2, none⟩ (.int .i64 t)).setCell ⟨w.heap.size, 3, none⟩ (.bool false) := ⟨_, rfl⟩
  rw [← hW2]
  have hk2 : Keeps (One w.heap.size) w1 W2 := by rw [hW2]; exact ((((Keeps.refl _ _).set1 _ _).set1 _ _).set1 _ _).set1 _ _
  have R0 : W2.rowIs w.heap.size 51 4 (rcell l m t false) := by
    rw [hW2]
    refine ((((HR0.out.set 0 _).set 1 _).set 2 _).set 3 _).congr fun i hi => ?_
    match i, hi with
    | 0, _ => rfl
    | 1, _ => rfl
    | 2, _ => rfl
    | 3, _ => rfl
  have R1 := hk2.rowIs HR1.out (fun e => by have e : w.heap.size + 1 = w.heap.size := e; omega)
  have HB2 := Lib.hid (HBw.out.trans (hk2.below (B := w.heap.size) HBw.out.size (fun k hk e => by have e : k = w.heap.size := e; omega)))
  clear a0 a1 a2 a3 a4 hk2 hW2 HR0 HR1 HBw
  have a0 : W2.cell? ⟨w.heap.size, 0, none⟩ = some (.int .i64 l) := R0.cell (by omega)
  have a1 : W2.cell? ⟨w.heap.size, 1, none⟩ = some (.int .i64 m) := R0.cell (by omega)
  have a2 : W2.cell? ⟨w.heap.size, 2, none⟩ = some (.int .i64 t) := R0.cell (by omega)
  have a3 : W2.cell? ⟨w.heap.size, 3, none⟩ = some (.bool false) := R0.cell (by omega)
  have a4 := R0.frozen
  have HR0 := Lib.hid R0
  clear R0
  have HR1 := Lib.hid R1
  clear R1
  go_upto_region 5 with (fail)
  obtain ⟨W3, hW3⟩ : ∃ W3, W3 = W2.setCell ⟨w.heap.size, 2, none⟩ (.int .i64 m) := ⟨_, rfl⟩
  rw [← hW3]
  have hk3 : Keeps (One w.heap.size) W2 W3 := by rw [hW3]; exact (Keeps.refl _ _).set1 _ _
  have R0 : W3.rowIs w.heap.size 51 4 (rcell l m m false) := by
    rw [hW3]
    refine (HR0.out.set 2 _).congr fun i hi => ?_
    match i, hi with
    | 0, _ => rfl
    | 1, _ => rfl
    | 2, _ => rfl
    | 3, _ => rfl
  have R1 := hk3.rowIs HR1.out (fun e => by have e : w.heap.size + 1 = w.heap.size := e; omega)
  have HB3 := Lib.hid (HB2.out.trans (hk3.below (B := w.heap.size) HB2.out.size (fun k hk e => by have e : k = w.heap.size := e; omega)))
  clear a0 a1 a2 a3 a4 hk3 hW3 HR0 HR1
  have a0 : W3.cell? ⟨w.heap.size, 0, none⟩ = some (.int .i64 l) := R0.cell (by omega)
  have a1 : W3.cell? ⟨w.heap.size, 1, none⟩ = some (.int .i64 m) := R0.cell (by omega)
  have a2 : W3.cell? ⟨w.heap.size, 2, none⟩ = some (.int .i64 m) := R0.cell (by omega)
  have a3 : W3.cell? ⟨w.heap.size, 3, none⟩ = some (.bool false) := R0.cell (by omega)
  clear R0
  have b0 : W3.cell? ⟨w.heap.size + 1, 0, none⟩ = some (.int .i64 0) := R1.cell (by omega)
  have b1 : W3.cell? ⟨w.heap.size + 1, 1, none⟩ = some (.int .i64 0) := R1.cell (by omega)
  have b2 : W3.cell? ⟨w.heap.size + 1, 2, none⟩ = some (.int .i64 0) := R1.cell (by omega)
  have b3 : W3.cell? ⟨w.heap.size + 1, 3, none⟩ = some (.bool false) := R1.cell (by omega)
  have b4 := R1.frozen
  clear R1
  go_wp2_with fail
  refine bodyPost_ret (v := .tuple #[.agg #[.int .i64 l, .int .i64 m, .int .i64 m, .bool false], .int .i64 0]) (by simp [results, Try.results26, go_sem, b0, b1, b2, b3, b4]) rfl ⟨rfl, ?_⟩
  exact (((HB3.out.setCell (p := ⟨w.heap.size + 1, 0, none⟩) (by simp) _).setCell (p := ⟨w.heap.size + 1, 1, none⟩) (by simp) _).setCell (p := ⟨w.heap.size + 1, 2, none⟩) (by simp) _).setCell (p := ⟨w.heap.size + 1, 3, none⟩) (by simp) _
end Go.Proofs.Ytchkipafjnehfaa
