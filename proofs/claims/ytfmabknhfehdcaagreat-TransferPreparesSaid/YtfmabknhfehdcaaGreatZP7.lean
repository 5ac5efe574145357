/- sgl: Valid, of the code and of the specification. -/
import Derived.Test.YtfmabknhfehdcaaGreatZP6
import Derived.Deep.CutRange
import Derived.Deep.RegionWith
namespace Go.Proofs.YtfmabknhfehdcaaGreat
set_option linter.unusedSimpArgs false
set_option linter.unusedVariables false
open Go.RowKit
theorem belowN {B : Nat} {a b : World} (h : Below B a b) (n : Nat) : Below B a (b.drewN n) := ⟨h.os, h.tape, h.output, h.size, h.block⟩
theorem ret_bool {a b : Bool} (h : a = b) : Ending.returned (.bool a) = .returned (.bool b) := by rw [h]
/-- What Valid lays down first: the kinds beside the descriptor. -/
theorem valid_world {w w1 W : World} {k a n key : Int} (hb : Below (w.alloc (.cells #[.int .i64 k, .int .u64 a, .int .i64 n, .int .u32 key] 72)).heap.size (w.alloc (.cells #[.int .i64 k, .int .u64 a, .int .i64 n, .int .u32 key] 72)) w1)
  (hW : W = (w1.alloc (.cells zer5 117)).setCells w1.heap.size 0 kinds5.toList) :
  Hid (Below w.heap.size w W) ∧ W.cell? ⟨w1.heap.size, 0, none⟩ = some (.int .i64 1) ∧ W.cell? ⟨w1.heap.size, 1, none⟩ = some (.int .i64 2) ∧ W.cell? ⟨w1.heap.size, 2, none⟩ = some (.int .i64 3) ∧ W.cell? ⟨w1.heap.size, 3, none⟩ = some (.int .i64 4) ∧ W.cell? ⟨w1.heap.size, 4, none⟩ = some (.int .i64 5) ∧
  W.cell? ⟨w.heap.size, 0, none⟩ = some (.int .i64 k) ∧ W.cell? ⟨w.heap.size, 1, none⟩ = some (.int .u64 a) ∧ W.cell? ⟨w.heap.size, 2, none⟩ = some (.int .i64 n) ∧ W.cell? ⟨w.heap.size, 3, none⟩ = some (.int .u32 key) := by
 have A3 : ArrAt W w1.heap.size kinds5 := by rw [hW]; exact (ArrAt.fresh w1 zer5 _ (by decide)).store kinds5 rfl
 have hb2 : Below w1.heap.size w1 W := by rw [hW]; exact bstore ((Below.refl _ _).alloc (Nat.le_refl _) _) _ (Nat.le_refl _) _ _
 have hz := hb.size
 simp at hz
 refine ⟨Lib.hid (((Below.refl _ w).alloc (Nat.le_refl _) _).trans ((hb.mono (by simp)).trans (hb2.mono (by omega)))), A3.cell rfl, A3.cell rfl, A3.cell rfl, A3.cell rfl, A3.cell rfl, ?_, ?_, ?_, ?_⟩
 ·exact (hb2.cell (p := ⟨w.heap.size, 0, none⟩) (by simp; omega)).trans ((hb.cell (p := ⟨w.heap.size, 0, none⟩) (by simp)).trans (by go_simp))
 ·exact (hb2.cell (p := ⟨w.heap.size, 1, none⟩) (by simp; omega)).trans ((hb.cell (p := ⟨w.heap.size, 1, none⟩) (by simp)).trans (by go_simp))
 ·exact (hb2.cell (p := ⟨w.heap.size, 2, none⟩) (by simp; omega)).trans ((hb.cell (p := ⟨w.heap.size, 2, none⟩) (by simp)).trans (by go_simp))
 ·exact (hb2.cell (p := ⟨w.heap.size, 3, none⟩) (by simp; omega)).trans ((hb.cell (p := ⟨w.heap.size, 3, none⟩) (by simp)).trans (by go_simp))
set_option maxRecDepth 100000 in
set_option maxHeartbeats 2000000 in
theorem valid_kr (k a n key : Int) (w : World) (kr : decide (1 ≤ k ∧ k ≤ 5) = false) (k5 : (k == 5) = false) (n1 : -9223372036854775808 ≤ n) (n2 : n ≤ 9223372036854775807) :
  Calls Tryz.prog 63 #[.agg #[.int .i64 k, .int .u64 a, .int .i64 n, .int .u32 key]] w fun e w' => e = .returned (.bool false) ∧ Below w.heap.size w w' := by
 have HKR := Lib.hid kr
 clear kr
 go_enter Tryz.func63, Tryz.ntmps63
 go_upto_region 2 with (first
  | (go_at_call 64; refine (types_any _).mono ?_; rintro e w1 ⟨rfl, hb⟩)
  | ((with_reducible show wpList _ _ _ (⟨some 3, _, _, _, _, _⟩ :: _) _ _); refine wpList_alloc rfl 117 rfl zero5 ?_; rw [show (Value.agg zer5).cells = zer5 from rfl])
  | ((with_reducible show wpList _ _ _ (⟨none, _, _, _, _, _⟩ :: _) _ _); refine wpList_storeA rfl (b := w1.heap.size) (A := zer5) (A' := kinds5) (ArrAt.fresh w1 zer5 _ (by decide)) 117 (.tmp 3) (.tmp 5) rfl (by simp [Act.eval, Act.put]) (by simp [Act.eval, Act.put]) size5 rfl kinds5_one ?_))
 obtain ⟨W, hW⟩ : ∃ W, W = (w1.alloc (.cells zer5 117)).setCells w1.heap.size 0 kinds5.toList := ⟨_, rfl⟩
 rw [← hW]
 obtain ⟨HB, c0, c1, c2, c3, c4, d0, d1, d2, d3⟩ := valid_world hb hW
 obtain ⟨b3, hb3⟩ : ∃ z, z = w1.heap.size := ⟨_, rfl⟩
 rw [← hb3] at c0 c1 c2 c3 c4 ⊢
 have HC : Hid (∀ n, Calls Tryz.prog 85 #[.slice (some ⟨b3, 0, none⟩) 5 5, .int .i64 k] (W.drewN n) fun e w'' => e = .returned (.bool false) ∧ ∃ m, w'' = W.drewN m) := Lib.hid fun n => (contains5 b3 k false HKR.out (W.drewN n) c0 c1 c2 c3 c4).mono fun _ _ h => ⟨h.1, _, h.2.symm⟩
 clear hb hW hb3 HKR
 go_upto_region 5 with fail
 go_quiet ((go_at_call 85; exact HC.out _))
 go_wp2_with fail
 go_ret
 exact ⟨rfl, belowN HB.out _⟩
set_option maxRecDepth 100000 in
set_option maxHeartbeats 2000000 in
theorem valid_n05 (k a n key : Int) (w : World) (kr : decide (1 ≤ k ∧ k ≤ 5) = true) (k5 : (k == 5) = true) (n0 : decide (0 ≤ n) = false) (n1 : -9223372036854775808 ≤ n) (n2 : n ≤ 9223372036854775807) :
  Calls Tryz.prog 63 #[.agg #[.int .i64 k, .int .u64 a, .int .i64 n, .int .u32 key]] w fun e w' => e = .returned (.bool false) ∧ Below w.heap.size w w' := by
 have HKR := Lib.hid kr
 clear kr
 go_enter Tryz.func63, Tryz.ntmps63
 go_upto_region 2 with (first
  | (go_at_call 64; refine (types_any _).mono ?_; rintro e w1 ⟨rfl, hb⟩)
  | ((with_reducible show wpList _ _ _ (⟨some 3, _, _, _, _, _⟩ :: _) _ _); refine wpList_alloc rfl 117 rfl zero5 ?_; rw [show (Value.agg zer5).cells = zer5 from rfl])
  | ((with_reducible show wpList _ _ _ (⟨none, _, _, _, _, _⟩ :: _) _ _); refine wpList_storeA rfl (b := w1.heap.size) (A := zer5) (A' := kinds5) (ArrAt.fresh w1 zer5 _ (by decide)) 117 (.tmp 3) (.tmp 5) rfl (by simp [Act.eval, Act.put]) (by simp [Act.eval, Act.put]) size5 rfl kinds5_one ?_))
 obtain ⟨W, hW⟩ : ∃ W, W = (w1.alloc (.cells zer5 117)).setCells w1.heap.size 0 kinds5.toList := ⟨_, rfl⟩
 rw [← hW]
 obtain ⟨HB, c0, c1, c2, c3, c4, d0, d1, d2, d3⟩ := valid_world hb hW
 obtain ⟨b3, hb3⟩ : ∃ z, z = w1.heap.size := ⟨_, rfl⟩
 rw [← hb3] at c0 c1 c2 c3 c4 ⊢
 have HC : Hid (∀ n, Calls Tryz.prog 85 #[.slice (some ⟨b3, 0, none⟩) 5 5, .int .i64 k] (W.drewN n) fun e w'' => e = .returned (.bool true) ∧ ∃ m, w'' = W.drewN m) := Lib.hid fun n => (contains5 b3 k true HKR.out (W.drewN n) c0 c1 c2 c3 c4).mono fun _ _ h => ⟨h.1, _, h.2.symm⟩
 clear hb hW hb3 HKR
 go_upto_region 5 with fail
 go_quiet ((go_at_call 85; exact HC.out _))
 go_wp2_with fail
 go_ret
 exact ⟨rfl, belowN HB.out _⟩
set_option maxRecDepth 100000 in
set_option maxHeartbeats 2000000 in
theorem valid_ns5 (k a n key : Int) (w : World) (kr : decide (1 ≤ k ∧ k ≤ 5) = true) (k5 : (k == 5) = true) (n0 : decide (0 ≤ n) = true) (n00 : 0 ≤ n) (ns : (n / 16777216 == 0) = false) (n1 : -9223372036854775808 ≤ n) (n2 : n ≤ 9223372036854775807) :
  Calls Tryz.prog 63 #[.agg #[.int .i64 k, .int .u64 a, .int .i64 n, .int .u32 key]] w fun e w' => e = .returned (.bool false) ∧ Below w.heap.size w w' := by
 have HKR := Lib.hid kr
 clear kr
 go_enter Tryz.func63, Tryz.ntmps63
 go_upto_region 2 with (first
  | (go_at_call 64; refine (types_any _).mono ?_; rintro e w1 ⟨rfl, hb⟩)
  | ((with_reducible show wpList _ _ _ (⟨some 3, _, _, _, _, _⟩ :: _) _ _); refine wpList_alloc rfl 117 rfl zero5 ?_; rw [show (Value.agg zer5).cells = zer5 from rfl])
  | ((with_reducible show wpList _ _ _ (⟨none, _, _, _, _, _⟩ :: _) _ _); refine wpList_storeA rfl (b := w1.heap.size) (A := zer5) (A' := kinds5) (ArrAt.fresh w1 zer5 _ (by decide)) 117 (.tmp 3) (.tmp 5) rfl (by simp [Act.eval, Act.put]) (by simp [Act.eval, Act.put]) size5 rfl kinds5_one ?_))
 obtain ⟨W, hW⟩ : ∃ W, W = (w1.alloc (.cells zer5 117)).setCells w1.heap.size 0 kinds5.toList := ⟨_, rfl⟩
 rw [← hW]
 obtain ⟨HB, c0, c1, c2, c3, c4, d0, d1, d2, d3⟩ := valid_world hb hW
 obtain ⟨b3, hb3⟩ : ∃ z, z = w1.heap.size := ⟨_, rfl⟩
 rw [← hb3] at c0 c1 c2 c3 c4 ⊢
 have HC : Hid (∀ n, Calls Tryz.prog 85 #[.slice (some ⟨b3, 0, none⟩) 5 5, .int .i64 k] (W.drewN n) fun e w'' => e = .returned (.bool true) ∧ ∃ m, w'' = W.drewN m) := Lib.hid fun n => (contains5 b3 k true HKR.out (W.drewN n) c0 c1 c2 c3 c4).mono fun _ _ h => ⟨h.1, _, h.2.symm⟩
 clear hb hW hb3 HKR
 go_upto_region 5 with fail
 go_quiet ((go_at_call 85; exact HC.out _))
 go_wp2_with fail
 go_ret
 exact ⟨rfl, belowN HB.out _⟩
set_option maxRecDepth 100000 in
set_option maxHeartbeats 2000000 in
theorem valid_a05t (k a n key : Int) (w : World) (kr : decide (1 ≤ k ∧ k ≤ 5) = true) (k5 : (k == 5) = true) (n0 : decide (0 ≤ n) = true) (n00 : 0 ≤ n) (ns : (n / 16777216 == 0) = true) (ky : (key == 0) = true) (az : (a == 0) = true) (n1 : -9223372036854775808 ≤ n) (n2 : n ≤ 9223372036854775807) :
  Calls Tryz.prog 63 #[.agg #[.int .i64 k, .int .u64 a, .int .i64 n, .int .u32 key]] w fun e w' => e = .returned (.bool true) ∧ Below w.heap.size w w' := by
 have HKR := Lib.hid kr
 clear kr
 go_enter Tryz.func63, Tryz.ntmps63
 go_upto_region 2 with (first
  | (go_at_call 64; refine (types_any _).mono ?_; rintro e w1 ⟨rfl, hb⟩)
  | ((with_reducible show wpList _ _ _ (⟨some 3, _, _, _, _, _⟩ :: _) _ _); refine wpList_alloc rfl 117 rfl zero5 ?_; rw [show (Value.agg zer5).cells = zer5 from rfl])
  | ((with_reducible show wpList _ _ _ (⟨none, _, _, _, _, _⟩ :: _) _ _); refine wpList_storeA rfl (b := w1.heap.size) (A := zer5) (A' := kinds5) (ArrAt.fresh w1 zer5 _ (by decide)) 117 (.tmp 3) (.tmp 5) rfl (by simp [Act.eval, Act.put]) (by simp [Act.eval, Act.put]) size5 rfl kinds5_one ?_))
 obtain ⟨W, hW⟩ : ∃ W, W = (w1.alloc (.cells zer5 117)).setCells w1.heap.size 0 kinds5.toList := ⟨_, rfl⟩
 rw [← hW]
 obtain ⟨HB, c0, c1, c2, c3, c4, d0, d1, d2, d3⟩ := valid_world hb hW
 obtain ⟨b3, hb3⟩ : ∃ z, z = w1.heap.size := ⟨_, rfl⟩
 rw [← hb3] at c0 c1 c2 c3 c4 ⊢
 have HC : Hid (∀ n, Calls Tryz.prog 85 #[.slice (some ⟨b3, 0, none⟩) 5 5, .int .i64 k] (W.drewN n) fun e w'' => e = .returned (.bool true) ∧ ∃ m, w'' = W.drewN m) := Lib.hid fun n => (contains5 b3 k true HKR.out (W.drewN n) c0 c1 c2 c3 c4).mono fun _ _ h => ⟨h.1, _, h.2.symm⟩
 clear hb hW hb3 HKR
 go_upto_region 5 with fail
 go_quiet ((go_at_call 85; exact HC.out _))
 go_wp2_with fail
 go_ret
 exact ⟨rfl, belowN HB.out _⟩
set_option maxRecDepth 100000 in
set_option maxHeartbeats 2000000 in
theorem valid_a15t (k a n key : Int) (w : World) (kr : decide (1 ≤ k ∧ k ≤ 5) = true) (k5 : (k == 5) = true) (n0 : decide (0 ≤ n) = true) (n00 : 0 ≤ n) (ns : (n / 16777216 == 0) = true) (ky : (key == 0) = true) (az : (a == 0) = false) (k2 : (k != 2) = true) (n1 : -9223372036854775808 ≤ n) (n2 : n ≤ 9223372036854775807) :
  Calls Tryz.prog 63 #[.agg #[.int .i64 k, .int .u64 a, .int .i64 n, .int .u32 key]] w fun e w' => e = .returned (.bool true) ∧ Below w.heap.size w w' := by
 have HKR := Lib.hid kr
 clear kr
 go_enter Tryz.func63, Tryz.ntmps63
 go_upto_region 2 with (first
  | (go_at_call 64; refine (types_any _).mono ?_; rintro e w1 ⟨rfl, hb⟩)
  | ((with_reducible show wpList _ _ _ (⟨some 3, _, _, _, _, _⟩ :: _) _ _); refine wpList_alloc rfl 117 rfl zero5 ?_; rw [show (Value.agg zer5).cells = zer5 from rfl])
  | ((with_reducible show wpList _ _ _ (⟨none, _, _, _, _, _⟩ :: _) _ _); refine wpList_storeA rfl (b := w1.heap.size) (A := zer5) (A' := kinds5) (ArrAt.fresh w1 zer5 _ (by decide)) 117 (.tmp 3) (.tmp 5) rfl (by simp [Act.eval, Act.put]) (by simp [Act.eval, Act.put]) size5 rfl kinds5_one ?_))
 obtain ⟨W, hW⟩ : ∃ W, W = (w1.alloc (.cells zer5 117)).setCells w1.heap.size 0 kinds5.toList := ⟨_, rfl⟩
 rw [← hW]
 obtain ⟨HB, c0, c1, c2, c3, c4, d0, d1, d2, d3⟩ := valid_world hb hW
 obtain ⟨b3, hb3⟩ : ∃ z, z = w1.heap.size := ⟨_, rfl⟩
 rw [← hb3] at c0 c1 c2 c3 c4 ⊢
 have HC : Hid (∀ n, Calls Tryz.prog 85 #[.slice (some ⟨b3, 0, none⟩) 5 5, .int .i64 k] (W.drewN n) fun e w'' => e = .returned (.bool true) ∧ ∃ m, w'' = W.drewN m) := Lib.hid fun n => (contains5 b3 k true HKR.out (W.drewN n) c0 c1 c2 c3 c4).mono fun _ _ h => ⟨h.1, _, h.2.symm⟩
 clear hb hW hb3 HKR
 go_upto_region 5 with fail
 go_quiet ((go_at_call 85; exact HC.out _))
 go_wp2_with fail
 go_ret
 exact ⟨rfl, belowN HB.out _⟩
set_option maxRecDepth 100000 in
set_option maxHeartbeats 2000000 in
theorem valid_a05f (k a n key : Int) (w : World) (kr : decide (1 ≤ k ∧ k ≤ 5) = true) (k5 : (k == 5) = true) (n0 : decide (0 ≤ n) = true) (n00 : 0 ≤ n) (ns : (n / 16777216 == 0) = true) (ky : (key == 0) = false) (az : (a == 0) = true) (n1 : -9223372036854775808 ≤ n) (n2 : n ≤ 9223372036854775807) :
  Calls Tryz.prog 63 #[.agg #[.int .i64 k, .int .u64 a, .int .i64 n, .int .u32 key]] w fun e w' => e = .returned (.bool true) ∧ Below w.heap.size w w' := by
 have HKR := Lib.hid kr
 clear kr
 go_enter Tryz.func63, Tryz.ntmps63
 go_upto_region 2 with (first
  | (go_at_call 64; refine (types_any _).mono ?_; rintro e w1 ⟨rfl, hb⟩)
  | ((with_reducible show wpList _ _ _ (⟨some 3, _, _, _, _, _⟩ :: _) _ _); refine wpList_alloc rfl 117 rfl zero5 ?_; rw [show (Value.agg zer5).cells = zer5 from rfl])
  | ((with_reducible show wpList _ _ _ (⟨none, _, _, _, _, _⟩ :: _) _ _); refine wpList_storeA rfl (b := w1.heap.size) (A := zer5) (A' := kinds5) (ArrAt.fresh w1 zer5 _ (by decide)) 117 (.tmp 3) (.tmp 5) rfl (by simp [Act.eval, Act.put]) (by simp [Act.eval, Act.put]) size5 rfl kinds5_one ?_))
 obtain ⟨W, hW⟩ : ∃ W, W = (w1.alloc (.cells zer5 117)).setCells w1.heap.size 0 kinds5.toList := ⟨_, rfl⟩
 rw [← hW]
 obtain ⟨HB, c0, c1, c2, c3, c4, d0, d1, d2, d3⟩ := valid_world hb hW
 obtain ⟨b3, hb3⟩ : ∃ z, z = w1.heap.size := ⟨_, rfl⟩
 rw [← hb3] at c0 c1 c2 c3 c4 ⊢
 have HC : Hid (∀ n, Calls Tryz.prog 85 #[.slice (some ⟨b3, 0, none⟩) 5 5, .int .i64 k] (W.drewN n) fun e w'' => e = .returned (.bool true) ∧ ∃ m, w'' = W.drewN m) := Lib.hid fun n => (contains5 b3 k true HKR.out (W.drewN n) c0 c1 c2 c3 c4).mono fun _ _ h => ⟨h.1, _, h.2.symm⟩
 clear hb hW hb3 HKR
 go_upto_region 5 with fail
 go_quiet ((go_at_call 85; exact HC.out _))
 go_wp2_with fail
 go_ret
 exact ⟨rfl, belowN HB.out _⟩
set_option maxRecDepth 100000 in
set_option maxHeartbeats 2000000 in
theorem valid_a15f (k a n key : Int) (w : World) (kr : decide (1 ≤ k ∧ k ≤ 5) = true) (k5 : (k == 5) = true) (n0 : decide (0 ≤ n) = true) (n00 : 0 ≤ n) (ns : (n / 16777216 == 0) = true) (ky : (key == 0) = false) (az : (a == 0) = false) (k2 : (k != 2) = true) (n1 : -9223372036854775808 ≤ n) (n2 : n ≤ 9223372036854775807) :
  Calls Tryz.prog 63 #[.agg #[.int .i64 k, .int .u64 a, .int .i64 n, .int .u32 key]] w fun e w' => e = .returned (.bool true) ∧ Below w.heap.size w w' := by
 have HKR := Lib.hid kr
 clear kr
 go_enter Tryz.func63, Tryz.ntmps63
 go_upto_region 2 with (first
  | (go_at_call 64; refine (types_any _).mono ?_; rintro e w1 ⟨rfl, hb⟩)
  | ((with_reducible show wpList _ _ _ (⟨some 3, _, _, _, _, _⟩ :: _) _ _); refine wpList_alloc rfl 117 rfl zero5 ?_; rw [show (Value.agg zer5).cells = zer5 from rfl])
  | ((with_reducible show wpList _ _ _ (⟨none, _, _, _, _, _⟩ :: _) _ _); refine wpList_storeA rfl (b := w1.heap.size) (A := zer5) (A' := kinds5) (ArrAt.fresh w1 zer5 _ (by decide)) 117 (.tmp 3) (.tmp 5) rfl (by simp [Act.eval, Act.put]) (by simp [Act.eval, Act.put]) size5 rfl kinds5_one ?_))
 obtain ⟨W, hW⟩ : ∃ W, W = (w1.alloc (.cells zer5 117)).setCells w1.heap.size 0 kinds5.toList := ⟨_, rfl⟩
 rw [← hW]
 obtain ⟨HB, c0, c1, c2, c3, c4, d0, d1, d2, d3⟩ := valid_world hb hW
 obtain ⟨b3, hb3⟩ : ∃ z, z = w1.heap.size := ⟨_, rfl⟩
 rw [← hb3] at c0 c1 c2 c3 c4 ⊢
 have HC : Hid (∀ n, Calls Tryz.prog 85 #[.slice (some ⟨b3, 0, none⟩) 5 5, .int .i64 k] (W.drewN n) fun e w'' => e = .returned (.bool true) ∧ ∃ m, w'' = W.drewN m) := Lib.hid fun n => (contains5 b3 k true HKR.out (W.drewN n) c0 c1 c2 c3 c4).mono fun _ _ h => ⟨h.1, _, h.2.symm⟩
 clear hb hW hb3 HKR
 go_upto_region 5 with fail
 go_quiet ((go_at_call 85; exact HC.out _))
 go_wp2_with fail
 go_ret
 exact ⟨rfl, belowN HB.out _⟩
set_option maxRecDepth 100000 in
set_option maxHeartbeats 2000000 in
theorem valid_n00 (k a n key : Int) (w : World) (kr : decide (1 ≤ k ∧ k ≤ 5) = true) (k5 : (k == 5) = false) (n0 : decide (0 ≤ n) = false) (n1 : -9223372036854775808 ≤ n) (n2 : n ≤ 9223372036854775807) :
  Calls Tryz.prog 63 #[.agg #[.int .i64 k, .int .u64 a, .int .i64 n, .int .u32 key]] w fun e w' => e = .returned (.bool false) ∧ Below w.heap.size w w' := by
 have HKR := Lib.hid kr
 clear kr
 go_enter Tryz.func63, Tryz.ntmps63
 go_upto_region 2 with (first
  | (go_at_call 64; refine (types_any _).mono ?_; rintro e w1 ⟨rfl, hb⟩)
  | ((with_reducible show wpList _ _ _ (⟨some 3, _, _, _, _, _⟩ :: _) _ _); refine wpList_alloc rfl 117 rfl zero5 ?_; rw [show (Value.agg zer5).cells = zer5 from rfl])
  | ((with_reducible show wpList _ _ _ (⟨none, _, _, _, _, _⟩ :: _) _ _); refine wpList_storeA rfl (b := w1.heap.size) (A := zer5) (A' := kinds5) (ArrAt.fresh w1 zer5 _ (by decide)) 117 (.tmp 3) (.tmp 5) rfl (by simp [Act.eval, Act.put]) (by simp [Act.eval, Act.put]) size5 rfl kinds5_one ?_))
 obtain ⟨W, hW⟩ : ∃ W, W = (w1.alloc (.cells zer5 117)).setCells w1.heap.size 0 kinds5.toList := ⟨_, rfl⟩
 rw [← hW]
 obtain ⟨HB, c0, c1, c2, c3, c4, d0, d1, d2, d3⟩ := valid_world hb hW
 obtain ⟨b3, hb3⟩ : ∃ z, z = w1.heap.size := ⟨_, rfl⟩
 rw [← hb3] at c0 c1 c2 c3 c4 ⊢
 have HC : Hid (∀ n, Calls Tryz.prog 85 #[.slice (some ⟨b3, 0, none⟩) 5 5, .int .i64 k] (W.drewN n) fun e w'' => e = .returned (.bool true) ∧ ∃ m, w'' = W.drewN m) := Lib.hid fun n => (contains5 b3 k true HKR.out (W.drewN n) c0 c1 c2 c3 c4).mono fun _ _ h => ⟨h.1, _, h.2.symm⟩
 clear hb hW hb3 HKR
 go_upto_region 5 with fail
 go_quiet ((go_at_call 85; exact HC.out _))
 go_wp2_with fail
 go_ret
 exact ⟨rfl, belowN HB.out _⟩
set_option maxRecDepth 100000 in
set_option maxHeartbeats 2000000 in
theorem valid_ns0 (k a n key : Int) (w : World) (kr : decide (1 ≤ k ∧ k ≤ 5) = true) (k5 : (k == 5) = false) (n0 : decide (0 ≤ n) = true) (n00 : 0 ≤ n) (ns : (n / 4294967296 == 0) = false) (n1 : -9223372036854775808 ≤ n) (n2 : n ≤ 9223372036854775807) :
  Calls Tryz.prog 63 #[.agg #[.int .i64 k, .int .u64 a, .int .i64 n, .int .u32 key]] w fun e w' => e = .returned (.bool false) ∧ Below w.heap.size w w' := by
 have HKR := Lib.hid kr
 clear kr
 go_enter Tryz.func63, Tryz.ntmps63
 go_upto_region 2 with (first
  | (go_at_call 64; refine (types_any _).mono ?_; rintro e w1 ⟨rfl, hb⟩)
  | ((with_reducible show wpList _ _ _ (⟨some 3, _, _, _, _, _⟩ :: _) _ _); refine wpList_alloc rfl 117 rfl zero5 ?_; rw [show (Value.agg zer5).cells = zer5 from rfl])
  | ((with_reducible show wpList _ _ _ (⟨none, _, _, _, _, _⟩ :: _) _ _); refine wpList_storeA rfl (b := w1.heap.size) (A := zer5) (A' := kinds5) (ArrAt.fresh w1 zer5 _ (by decide)) 117 (.tmp 3) (.tmp 5) rfl (by simp [Act.eval, Act.put]) (by simp [Act.eval, Act.put]) size5 rfl kinds5_one ?_))
 obtain ⟨W, hW⟩ : ∃ W, W = (w1.alloc (.cells zer5 117)).setCells w1.heap.size 0 kinds5.toList := ⟨_, rfl⟩
 rw [← hW]
 obtain ⟨HB, c0, c1, c2, c3, c4, d0, d1, d2, d3⟩ := valid_world hb hW
 obtain ⟨b3, hb3⟩ : ∃ z, z = w1.heap.size := ⟨_, rfl⟩
 rw [← hb3] at c0 c1 c2 c3 c4 ⊢
 have HC : Hid (∀ n, Calls Tryz.prog 85 #[.slice (some ⟨b3, 0, none⟩) 5 5, .int .i64 k] (W.drewN n) fun e w'' => e = .returned (.bool true) ∧ ∃ m, w'' = W.drewN m) := Lib.hid fun n => (contains5 b3 k true HKR.out (W.drewN n) c0 c1 c2 c3 c4).mono fun _ _ h => ⟨h.1, _, h.2.symm⟩
 clear hb hW hb3 HKR
 go_upto_region 5 with fail
 go_quiet ((go_at_call 85; exact HC.out _))
 go_wp2_with fail
 go_ret
 exact ⟨rfl, belowN HB.out _⟩
set_option maxRecDepth 100000 in
set_option maxHeartbeats 2000000 in
theorem valid_a00t (k a n key : Int) (w : World) (kr : decide (1 ≤ k ∧ k ≤ 5) = true) (k5 : (k == 5) = false) (n0 : decide (0 ≤ n) = true) (n00 : 0 ≤ n) (ns : (n / 4294967296 == 0) = true) (ky : (key == 0) = true) (az : (a == 0) = true) (n1 : -9223372036854775808 ≤ n) (n2 : n ≤ 9223372036854775807) :
  Calls Tryz.prog 63 #[.agg #[.int .i64 k, .int .u64 a, .int .i64 n, .int .u32 key]] w fun e w' => e = .returned (.bool true) ∧ Below w.heap.size w w' := by
 have HKR := Lib.hid kr
 clear kr
 go_enter Tryz.func63, Tryz.ntmps63
 go_upto_region 2 with (first
  | (go_at_call 64; refine (types_any _).mono ?_; rintro e w1 ⟨rfl, hb⟩)
  | ((with_reducible show wpList _ _ _ (⟨some 3, _, _, _, _, _⟩ :: _) _ _); refine wpList_alloc rfl 117 rfl zero5 ?_; rw [show (Value.agg zer5).cells = zer5 from rfl])
  | ((with_reducible show wpList _ _ _ (⟨none, _, _, _, _, _⟩ :: _) _ _); refine wpList_storeA rfl (b := w1.heap.size) (A := zer5) (A' := kinds5) (ArrAt.fresh w1 zer5 _ (by decide)) 117 (.tmp 3) (.tmp 5) rfl (by simp [Act.eval, Act.put]) (by simp [Act.eval, Act.put]) size5 rfl kinds5_one ?_))
 obtain ⟨W, hW⟩ : ∃ W, W = (w1.alloc (.cells zer5 117)).setCells w1.heap.size 0 kinds5.toList := ⟨_, rfl⟩
 rw [← hW]
 obtain ⟨HB, c0, c1, c2, c3, c4, d0, d1, d2, d3⟩ := valid_world hb hW
 obtain ⟨b3, hb3⟩ : ∃ z, z = w1.heap.size := ⟨_, rfl⟩
 rw [← hb3] at c0 c1 c2 c3 c4 ⊢
 have HC : Hid (∀ n, Calls Tryz.prog 85 #[.slice (some ⟨b3, 0, none⟩) 5 5, .int .i64 k] (W.drewN n) fun e w'' => e = .returned (.bool true) ∧ ∃ m, w'' = W.drewN m) := Lib.hid fun n => (contains5 b3 k true HKR.out (W.drewN n) c0 c1 c2 c3 c4).mono fun _ _ h => ⟨h.1, _, h.2.symm⟩
 clear hb hW hb3 HKR
 go_upto_region 5 with fail
 go_quiet ((go_at_call 85; exact HC.out _))
 go_wp2_with fail
 go_ret
 exact ⟨rfl, belowN HB.out _⟩
set_option maxRecDepth 100000 in
set_option maxHeartbeats 2000000 in
theorem valid_a10t (k a n key : Int) (w : World) (kr : decide (1 ≤ k ∧ k ≤ 5) = true) (k5 : (k == 5) = false) (n0 : decide (0 ≤ n) = true) (n00 : 0 ≤ n) (ns : (n / 4294967296 == 0) = true) (ky : (key == 0) = true) (az : (a == 0) = false) (k2 : (k != 2) = true) (n1 : -9223372036854775808 ≤ n) (n2 : n ≤ 9223372036854775807) :
  Calls Tryz.prog 63 #[.agg #[.int .i64 k, .int .u64 a, .int .i64 n, .int .u32 key]] w fun e w' => e = .returned (.bool true) ∧ Below w.heap.size w w' := by
 have HKR := Lib.hid kr
 clear kr
 go_enter Tryz.func63, Tryz.ntmps63
 go_upto_region 2 with (first
  | (go_at_call 64; refine (types_any _).mono ?_; rintro e w1 ⟨rfl, hb⟩)
  | ((with_reducible show wpList _ _ _ (⟨some 3, _, _, _, _, _⟩ :: _) _ _); refine wpList_alloc rfl 117 rfl zero5 ?_; rw [show (Value.agg zer5).cells = zer5 from rfl])
  | ((with_reducible show wpList _ _ _ (⟨none, _, _, _, _, _⟩ :: _) _ _); refine wpList_storeA rfl (b := w1.heap.size) (A := zer5) (A' := kinds5) (ArrAt.fresh w1 zer5 _ (by decide)) 117 (.tmp 3) (.tmp 5) rfl (by simp [Act.eval, Act.put]) (by simp [Act.eval, Act.put]) size5 rfl kinds5_one ?_))
 obtain ⟨W, hW⟩ : ∃ W, W = (w1.alloc (.cells zer5 117)).setCells w1.heap.size 0 kinds5.toList := ⟨_, rfl⟩
 rw [← hW]
 obtain ⟨HB, c0, c1, c2, c3, c4, d0, d1, d2, d3⟩ := valid_world hb hW
 obtain ⟨b3, hb3⟩ : ∃ z, z = w1.heap.size := ⟨_, rfl⟩
 rw [← hb3] at c0 c1 c2 c3 c4 ⊢
 have HC : Hid (∀ n, Calls Tryz.prog 85 #[.slice (some ⟨b3, 0, none⟩) 5 5, .int .i64 k] (W.drewN n) fun e w'' => e = .returned (.bool true) ∧ ∃ m, w'' = W.drewN m) := Lib.hid fun n => (contains5 b3 k true HKR.out (W.drewN n) c0 c1 c2 c3 c4).mono fun _ _ h => ⟨h.1, _, h.2.symm⟩
 clear hb hW hb3 HKR
 go_upto_region 5 with fail
 go_quiet ((go_at_call 85; exact HC.out _))
 go_wp2_with fail
 go_ret
 exact ⟨rfl, belowN HB.out _⟩
set_option maxRecDepth 100000 in
set_option maxHeartbeats 2000000 in
theorem valid_a20t (k a n key : Int) (w : World) (kr : decide (1 ≤ k ∧ k ≤ 5) = true) (k5 : (k == 5) = false) (n0 : decide (0 ≤ n) = true) (n00 : 0 ≤ n) (ns : (n / 4294967296 == 0) = true) (ky : (key == 0) = true) (az : (a == 0) = false) (k2 : (k != 2) = false) (n1 : -9223372036854775808 ≤ n) (n2 : n ≤ 9223372036854775807) :
  Calls Tryz.prog 63 #[.agg #[.int .i64 k, .int .u64 a, .int .i64 n, .int .u32 key]] w fun e w' => e = .returned (.bool false) ∧ Below w.heap.size w w' := by
 have HKR := Lib.hid kr
 clear kr
 go_enter Tryz.func63, Tryz.ntmps63
 go_upto_region 2 with (first
  | (go_at_call 64; refine (types_any _).mono ?_; rintro e w1 ⟨rfl, hb⟩)
  | ((with_reducible show wpList _ _ _ (⟨some 3, _, _, _, _, _⟩ :: _) _ _); refine wpList_alloc rfl 117 rfl zero5 ?_; rw [show (Value.agg zer5).cells = zer5 from rfl])
  | ((with_reducible show wpList _ _ _ (⟨none, _, _, _, _, _⟩ :: _) _ _); refine wpList_storeA rfl (b := w1.heap.size) (A := zer5) (A' := kinds5) (ArrAt.fresh w1 zer5 _ (by decide)) 117 (.tmp 3) (.tmp 5) rfl (by simp [Act.eval, Act.put]) (by simp [Act.eval, Act.put]) size5 rfl kinds5_one ?_))
 obtain ⟨W, hW⟩ : ∃ W, W = (w1.alloc (.cells zer5 117)).setCells w1.heap.size 0 kinds5.toList := ⟨_, rfl⟩
 rw [← hW]
 obtain ⟨HB, c0, c1, c2, c3, c4, d0, d1, d2, d3⟩ := valid_world hb hW
 obtain ⟨b3, hb3⟩ : ∃ z, z = w1.heap.size := ⟨_, rfl⟩
 rw [← hb3] at c0 c1 c2 c3 c4 ⊢
 have HC : Hid (∀ n, Calls Tryz.prog 85 #[.slice (some ⟨b3, 0, none⟩) 5 5, .int .i64 k] (W.drewN n) fun e w'' => e = .returned (.bool true) ∧ ∃ m, w'' = W.drewN m) := Lib.hid fun n => (contains5 b3 k true HKR.out (W.drewN n) c0 c1 c2 c3 c4).mono fun _ _ h => ⟨h.1, _, h.2.symm⟩
 clear hb hW hb3 HKR
 go_upto_region 5 with fail
 go_quiet ((go_at_call 85; exact HC.out _))
 go_wp2_with fail
 go_ret
 exact ⟨rfl, belowN HB.out _⟩
set_option maxRecDepth 100000 in
set_option maxHeartbeats 2000000 in
theorem valid_ky0f (k a n key : Int) (w : World) (kr : decide (1 ≤ k ∧ k ≤ 5) = true) (k5 : (k == 5) = false) (n0 : decide (0 ≤ n) = true) (n00 : 0 ≤ n) (ns : (n / 4294967296 == 0) = true) (ky : (key == 0) = false) (n1 : -9223372036854775808 ≤ n) (n2 : n ≤ 9223372036854775807) :
  Calls Tryz.prog 63 #[.agg #[.int .i64 k, .int .u64 a, .int .i64 n, .int .u32 key]] w fun e w' => e = .returned (.bool false) ∧ Below w.heap.size w w' := by
 have HKR := Lib.hid kr
 clear kr
 go_enter Tryz.func63, Tryz.ntmps63
 go_upto_region 2 with (first
  | (go_at_call 64; refine (types_any _).mono ?_; rintro e w1 ⟨rfl, hb⟩)
  | ((with_reducible show wpList _ _ _ (⟨some 3, _, _, _, _, _⟩ :: _) _ _); refine wpList_alloc rfl 117 rfl zero5 ?_; rw [show (Value.agg zer5).cells = zer5 from rfl])
  | ((with_reducible show wpList _ _ _ (⟨none, _, _, _, _, _⟩ :: _) _ _); refine wpList_storeA rfl (b := w1.heap.size) (A := zer5) (A' := kinds5) (ArrAt.fresh w1 zer5 _ (by decide)) 117 (.tmp 3) (.tmp 5) rfl (by simp [Act.eval, Act.put]) (by simp [Act.eval, Act.put]) size5 rfl kinds5_one ?_))
 obtain ⟨W, hW⟩ : ∃ W, W = (w1.alloc (.cells zer5 117)).setCells w1.heap.size 0 kinds5.toList := ⟨_, rfl⟩
 rw [← hW]
 obtain ⟨HB, c0, c1, c2, c3, c4, d0, d1, d2, d3⟩ := valid_world hb hW
 obtain ⟨b3, hb3⟩ : ∃ z, z = w1.heap.size := ⟨_, rfl⟩
 rw [← hb3] at c0 c1 c2 c3 c4 ⊢
 have HC : Hid (∀ n, Calls Tryz.prog 85 #[.slice (some ⟨b3, 0, none⟩) 5 5, .int .i64 k] (W.drewN n) fun e w'' => e = .returned (.bool true) ∧ ∃ m, w'' = W.drewN m) := Lib.hid fun n => (contains5 b3 k true HKR.out (W.drewN n) c0 c1 c2 c3 c4).mono fun _ _ h => ⟨h.1, _, h.2.symm⟩
 clear hb hW hb3 HKR
 go_upto_region 5 with fail
 go_quiet ((go_at_call 85; exact HC.out _))
 go_wp2_with fail
 go_ret
 exact ⟨rfl, belowN HB.out _⟩
theorem vldD_is {d : Dsc} {r : Bool} (h : Vld d ↔ r = true) : vldD d = r := by
 unfold vldD
 cases r
 ·exact decide_eq_false (fun e => by simpa using h.1 e)
 ·exact decide_eq_true (h.2 rfl)
theorem svalid_any (d : Dsc) (r : Bool) (hr : vldD d = r) (w : World) (hok : d.Ok) : Calls Tryz.prog 63 #[.agg d.cells] w fun e w' => e = .returned (.bool r) ∧ Below w.heap.size w w' := by
 subst hr
 obtain ⟨k, a, n, key⟩ := d
 obtain ⟨hk, ha, hn, hkey⟩ := hok
 unfold Dsc.cells
 simp only [] at *
 by_cases c1 : 1 ≤ k ∧ k ≤ 5
 ·have kr := decide_eq_true c1
  by_cases c5 : k = 5
  ·have k5 : (k == 5) = true := beq_iff_eq.2 c5
   by_cases c2 : 0 ≤ n
   ·by_cases c3 : n < 16777216
    ·have ns : (n / 16777216 == 0) = true := beq_iff_eq.2 (by omega)
     rw [vldD_is (r := true) (by simp [Vld, lim, c5]; omega)]
     by_cases c4 : key = 0 <;> by_cases c6 : a = 0
     ·exact valid_a05t k a n key w kr k5 (decide_eq_true c2) c2 ns (beq_iff_eq.2 c4) (beq_iff_eq.2 c6) hn.1 hn.2
     ·exact valid_a15t k a n key w kr k5 (decide_eq_true c2) c2 ns (beq_iff_eq.2 c4) (beq_eq_false_iff_ne.2 c6) (by rw [bne_iff_ne]; omega) hn.1 hn.2
     ·exact valid_a05f k a n key w kr k5 (decide_eq_true c2) c2 ns (beq_eq_false_iff_ne.2 c4) (beq_iff_eq.2 c6) hn.1 hn.2
     ·exact valid_a15f k a n key w kr k5 (decide_eq_true c2) c2 ns (beq_eq_false_iff_ne.2 c4) (beq_eq_false_iff_ne.2 c6) (by rw [bne_iff_ne]; omega) hn.1 hn.2
    ·rw [vldD_is (r := false) (by simp [Vld, lim, c5]; omega)]
     exact valid_ns5 k a n key w kr k5 (decide_eq_true c2) c2 (beq_eq_false_iff_ne.2 (by omega)) hn.1 hn.2
   ·rw [vldD_is (r := false) (by simp [Vld, lim, c5]; omega)]
    exact valid_n05 k a n key w kr k5 (decide_eq_false c2) hn.1 hn.2
  ·have k5 : (k == 5) = false := beq_eq_false_iff_ne.2 c5
   by_cases c2 : 0 ≤ n
   ·by_cases c3 : n < 4294967296
    ·have ns : (n / 4294967296 == 0) = true := beq_iff_eq.2 (by omega)
     by_cases c4 : key = 0
     ·by_cases c6 : a = 0
      ·rw [vldD_is (r := true) (by simp [Vld, lim, c5]; omega)]
       exact valid_a00t k a n key w kr k5 (decide_eq_true c2) c2 ns (beq_iff_eq.2 c4) (beq_iff_eq.2 c6) hn.1 hn.2
      ·by_cases c7 : k = 2
       ·rw [vldD_is (r := false) (by simp [Vld, lim, c5]; omega)]
        exact valid_a20t k a n key w kr k5 (decide_eq_true c2) c2 ns (beq_iff_eq.2 c4) (beq_eq_false_iff_ne.2 c6) (by rw [c7]; rfl) hn.1 hn.2
       ·rw [vldD_is (r := true) (by simp [Vld, lim, c5]; omega)]
        exact valid_a10t k a n key w kr k5 (decide_eq_true c2) c2 ns (beq_iff_eq.2 c4) (beq_eq_false_iff_ne.2 c6) (by rw [bne_iff_ne]; omega) hn.1 hn.2
     ·rw [vldD_is (r := false) (by simp [Vld, lim, c5]; omega)]
      exact valid_ky0f k a n key w kr k5 (decide_eq_true c2) c2 ns (beq_eq_false_iff_ne.2 c4) hn.1 hn.2
    ·rw [vldD_is (r := false) (by simp [Vld, lim, c5]; omega)]
     exact valid_ns0 k a n key w kr k5 (decide_eq_true c2) c2 (beq_eq_false_iff_ne.2 (by omega)) hn.1 hn.2
   ·rw [vldD_is (r := false) (by simp [Vld, lim, c5]; omega)]
    exact valid_n00 k a n key w kr k5 (decide_eq_false c2) hn.1 hn.2
 ·rw [vldD_is (r := false) (by simp [Vld]; omega)]
  exact valid_kr k a n key w (decide_eq_false c1) (beq_eq_false_iff_ne.2 (by omega)) hn.1 hn.2
set_option maxRecDepth 100000 in
set_option maxHeartbeats 4000000 in
theorem rvalid_any (d : Dsc) (r : Bool) (hr : vldD d = r) (w : World) (hok : d.Ok) : Calls Tryz.prog 69 #[.agg d.cells] w fun e w' => e = .returned (.bool r) ∧ Below w.heap.size w w' := by
 subst hr
 obtain ⟨k, a, n, key⟩ := d
 obtain ⟨hk, ha, hn, hkey⟩ := hok
 unfold Dsc.cells
 simp only [] at *
 obtain ⟨r, hr⟩ : ∃ r, r = vldD ⟨k, a, n, key⟩ := ⟨_, rfl⟩
 rw [← hr]
 have HR := Lib.hid hr
 clear hr
 go_enter Tryz.func69, Tryz.ntmps69
 go_wp2
 all_goals
  go_ret
  refine ⟨ret_bool ?_, (Below.refl _ _).alloc (Nat.le_refl _) _⟩
  rw [HR.out]
  symm
  refine vldD_is ?_
  by_cases c5 : k = 5 <;> simp [Vld, lim, c5] <;> omega
end Go.Proofs.YtfmabknhfehdcaaGreat
