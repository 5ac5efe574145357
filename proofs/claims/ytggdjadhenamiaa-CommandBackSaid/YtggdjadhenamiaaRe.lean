/- command: the reference's dword and long. -/
import Derived.Test.YtggdjadhenamiaaDd
import Derived.Test.YtggdjadhenamiaaR2
namespace Go.Proofs.Ytggdjadhenamiaa
set_option linter.unusedVariables false
set_option linter.unusedSimpArgs false
open Go.RowKit

theorem le4 (B : Nat → Int) (p : Nat) : le B p 4 = B p + B (p + 1) * 256 + B (p + 2) * 65536 + B (p + 3) * 16777216 := by
  simp [le]

set_option maxRecDepth 100000 in
set_option maxHeartbeats 4000000 in
theorem dword_ok (B : Nat → Int) (A : Array Value) (i : Nat) (w : World) (hB : ∀ j, 0 ≤ B j ∧ B j ≤ 255) (hi : i < 16) (hA : A = arr 64 fun j => .int .u8 (B j)) :
    Calls Try.prog 32 #[.agg A, .int .i64 i] w fun e w' => e = .returned (.int .u32 (le B (4 * i) 4)) ∧ Below w.heap.size w w' := by
  have hrow : ArrAt (w.alloc (.cells A 29)) w.heap.size A := ArrAt.fresh _ _ _ (by rw [hA, arr_size]; omega)
  have HA := Lib.hid (show ∀ j, j < 64 → A[j]? = some (.int .u8 (B j)) from fun j hj => by rw [hA]; exact arr_get 64 _ j hj)
  have H4 := Lib.hid (le4 B (4 * i))
  obtain ⟨x0, e0⟩ : ∃ x, x = B (4 * i) := ⟨_, rfl⟩
  obtain ⟨x1, e1⟩ : ∃ x, x = B (4 * i + 1) := ⟨_, rfl⟩
  obtain ⟨x2, e2⟩ : ∃ x, x = B (4 * i + 2) := ⟨_, rfl⟩
  obtain ⟨x3, e3⟩ : ∃ x, x = B (4 * i + 3) := ⟨_, rfl⟩
  obtain ⟨W, hW⟩ : ∃ W, W = w.alloc (.cells A 29) := ⟨_, rfl⟩
  have hb : Below w.heap.size w W := by rw [hW]; exact (Below.refl _ _).alloc (Nat.le_refl _) _
  rw [← hW] at hrow
  have c0 : W.cell? ⟨w.heap.size, 4 * i, none⟩ = some (.int .u8 x0) := by rw [e0]; exact hrow.cell (HA.out _ (by omega))
  have c1 : W.cell? ⟨w.heap.size, 4 * i + 1, none⟩ = some (.int .u8 x1) := by rw [e1]; exact hrow.cell (HA.out _ (by omega))
  have c2 : W.cell? ⟨w.heap.size, 4 * i + 2, none⟩ = some (.int .u8 x2) := by rw [e2]; exact hrow.cell (HA.out _ (by omega))
  have c3 : W.cell? ⟨w.heap.size, 4 * i + 3, none⟩ = some (.int .u8 x3) := by rw [e3]; exact hrow.cell (HA.out _ (by omega))
  obtain ⟨l0, u0⟩ := hB (4 * i)
  obtain ⟨l1, u1⟩ := hB (4 * i + 1)
  obtain ⟨l2, u2⟩ := hB (4 * i + 2)
  obtain ⟨l3, u3⟩ := hB (4 * i + 3)
  rw [← e0] at H4 l0 u0
  rw [← e1] at H4 l1 u1
  rw [← e2] at H4 l2 u2
  rw [← e3] at H4 l3 u3
  have HW := Lib.hid hW
  have HBL := Lib.hid hb
  clear e0 e1 e2 e3 hA hrow hB HA hW hb
  have m0 : (0 : Int) ≤ (i : Int) := by omega
  have m1 : (i : Int) ≤ 15 := by omega
  have n0 : (4 * (i : Int)).toNat = 4 * i := by omega
  have n1 : (4 * (i : Int) + 1).toNat = 4 * i + 1 := by omega
  have n2 : (4 * (i : Int) + 2).toNat = 4 * i + 2 := by omega
  have n3 : (4 * (i : Int) + 3).toNat = 4 * i + 3 := by omega
  have a0 : (0 : Int) ≤ 4 * (i : Int) := by omega
  have a1 : (0 : Int) ≤ 4 * (i : Int) + 1 := by omega
  have a2 : (0 : Int) ≤ 4 * (i : Int) + 2 := by omega
  have a3 : (0 : Int) ≤ 4 * (i : Int) + 3 := by omega
  have b0 : 4 * (i : Int) < 64 := by omega
  have b1 : 4 * (i : Int) + 1 < 64 := by omega
  have b2 : 4 * (i : Int) + 2 < 64 := by omega
  have b3 : 4 * (i : Int) + 3 < 64 := by omega
  have w0 : IntKind.i64.wrap (4 * (i : Int)) = 4 * (i : Int) := IntWalk.i64_in _ (by omega)
  have w1 : IntKind.i64.wrap (4 * (i : Int) + 1) = 4 * (i : Int) + 1 := IntWalk.i64_in _ (by omega)
  have w2 : IntKind.i64.wrap (4 * (i : Int) + 2) = 4 * (i : Int) + 2 := IntWalk.i64_in _ (by omega)
  have w3 : IntKind.i64.wrap (4 * (i : Int) + 3) = 4 * (i : Int) + 3 := IntWalk.i64_in _ (by omega)
  have v0 : IntKind.u32.wrap x0 = x0 := IntWalk.u32_in _ (by omega)
  have v1 : IntKind.u32.wrap x1 = x1 := IntWalk.u32_in _ (by omega)
  have v2 : IntKind.u32.wrap x2 = x2 := IntWalk.u32_in _ (by omega)
  have v3 : IntKind.u32.wrap x3 = x3 := IntWalk.u32_in _ (by omega)
  have p1 : IntKind.u32.wrap (x1 * 256) = x1 * 256 := IntWalk.u32_in _ (by omega)
  have p2 : IntKind.u32.wrap (x2 * 65536) = x2 * 65536 := IntWalk.u32_in _ (by omega)
  have p3 : IntKind.u32.wrap (x3 * 16777216) = x3 * 16777216 := IntWalk.u32_in _ (by omega)
  have s1 : IntKind.u32.wrap (x0 + x1 * 256) = x0 + x1 * 256 := IntWalk.u32_in _ (by omega)
  have s2 : IntKind.u32.wrap (x0 + x1 * 256 + x2 * 65536) = x0 + x1 * 256 + x2 * 65536 := IntWalk.u32_in _ (by omega)
  have s3 : IntKind.u32.wrap (x0 + x1 * 256 + x2 * 65536 + x3 * 16777216) = x0 + x1 * 256 + x2 * 65536 + x3 * 16777216 := IntWalk.u32_in _ (by omega)
  go_enter Try.func32, Try.ntmps32
  go_upto_region 1 with fail
  rw [← HW.out]
  go_quiet (fail)
  go_wp2_with fail
  go_ret
  exact ⟨by rw [H4.out]; rfl, ⟨HBL.out.os, HBL.out.tape, HBL.out.output, HBL.out.size, HBL.out.block⟩⟩

theorem le8 (B : Nat → Int) (p : Nat) : le B p 8 = le B p 4 + le B (p + 4) 4 * 4294967296 := by
  rw [le4, le4]
  simp [le, Nat.add_assoc]
  omega

set_option maxRecDepth 100000 in
set_option maxHeartbeats 4000000 in
theorem long_ok (B : Nat → Int) (A : Array Value) (i : Nat) (w : World) (hB : ∀ j, 0 ≤ B j ∧ B j ≤ 255) (hi : i < 15) (hA : A = arr 64 fun j => .int .u8 (B j)) :
    Calls Try.prog 33 #[.agg A, .int .i64 i] w fun e w' => e = .returned (.int .u64 (le B (4 * i) 8)) ∧ Below w.heap.size w w' := by
  have hs : A.size = 64 := by rw [hA, arr_size]
  have hrow : ArrAt (w.alloc (.cells A 29)) w.heap.size A := ArrAt.fresh _ _ _ (by omega)
  obtain ⟨W, hW⟩ : ∃ W, W = w.alloc (.cells A 29) := ⟨_, rfl⟩
  have hb : Below w.heap.size w W := by rw [hW]; exact (Below.refl _ _).alloc (Nat.le_refl _) _
  rw [← hW] at hrow
  have H8 := Lib.hid (le8 B (4 * i))
  obtain ⟨l0, u0⟩ := le_bd hB (4 * i) 4
  obtain ⟨l1, u1⟩ := le_bd hB (4 * i + 4) 4
  have u0 : le B (4 * i) 4 ≤ 4294967295 := by omega
  have u1 : le B (4 * i + 4) 4 ≤ 4294967295 := by omega
  have HD0 := Lib.hid (show ∀ p : InC (Below W.heap.size W), Calls Try.prog 32 #[.agg A, .int .i64 (i : Int)] p.w fun e w' => e = .returned (.int .u32 (le B (4 * i) 4)) ∧ Below W.heap.size W w' from fun p => (dword_ok B A i p.w hB (by omega) hA).mono fun e w' h => ⟨h.1, p.ok.trans (h.2.mono p.ok.size)⟩)
  have HD1 := Lib.hid (show ∀ p : InC (Below W.heap.size W), Calls Try.prog 32 #[.agg A, .int .i64 ((i : Int) + 1)] p.w fun e w' => e = .returned (.int .u32 (le B (4 * i + 4) 4)) ∧ Below W.heap.size W w' from fun p => (dword_ok B A (i + 1) p.w hB (by omega) hA).mono fun e w' h => ⟨h.1, p.ok.trans (h.2.mono p.ok.size)⟩)
  obtain ⟨x0, e0⟩ : ∃ x, x = le B (4 * i) 4 := ⟨_, rfl⟩
  obtain ⟨x1, e1⟩ : ∃ x, x = le B (4 * i + 4) 4 := ⟨_, rfl⟩
  rw [← e0] at H8 HD0 l0 u0
  rw [← e1] at H8 HD1 l1 u1
  have w0 : IntKind.i64.wrap ((i : Int) + 1) = (i : Int) + 1 := IntWalk.i64_in _ (by omega)
  have v0 : IntKind.u64.wrap x0 = x0 := IntWalk.u64_in _ (by omega)
  have v1 : IntKind.u64.wrap x1 = x1 := IntWalk.u64_in _ (by omega)
  have p1 : IntKind.u64.wrap (x1 * 4294967296) = x1 * 4294967296 := IntWalk.u64_in _ (by omega)
  have s1 : IntKind.u64.wrap (x0 + x1 * 4294967296) = x0 + x1 * 4294967296 := IntWalk.u64_in _ (by omega)
  have HR := Lib.hid hrow
  have HBL := Lib.hid hb
  have HW := Lib.hid hW
  have HS := Lib.hid (show (Try.prog.info? 29).map (·.size) = some A.size by rw [hs]; exact size64)
  obtain ⟨d, hd1, hd2⟩ : ∃ d, Try.prog.underlying 29 = some d ∧ d.isRow = true := ⟨_, Try.underlying29, rfl⟩
  clear e0 e1 hW hb hrow hB hA hs
  have hne : Nonempty (InC (Below W.heap.size W)) := ⟨⟨W, Below.refl _ _⟩⟩
  go_enter Try.func33, Try.ntmps33
  go_upto_region 1 with fail
  rw [← HW.out]
  refine wp_quiet_in (Below W.heap.size W) (Below.refl _ _).drew (by kernel_rfl) (by kernel_rfl) ?_
  repeat (first
    | ((with_reducible show wpQuiet _ _ _ _ (⟨some 5, .load _ _, _, _, _, _⟩ :: _) _); refine wpQuiet_load rfl 29 (.tmp 2) rfl (.pointer (some ⟨w.heap.size, 0, none⟩)) rfl (fun w' hp => by obtain ⟨p, rfl⟩ := hp; exact (HR.out.below p.ok).loadAt hd1 hd2 HS.out) ?_; simp only [Act.put, List.setIfInBounds_toArray, List.set_cons_succ, List.set_cons_zero])
    | ((with_reducible show wpQuiet _ _ _ _ (⟨some 9, .load _ _, _, _, _, _⟩ :: _) _); refine wpQuiet_load rfl 29 (.tmp 2) rfl (.pointer (some ⟨w.heap.size, 0, none⟩)) rfl (fun w' hp => by obtain ⟨p, rfl⟩ := hp; exact (HR.out.below p.ok).loadAt hd1 hd2 HS.out) ?_; simp only [Act.put, List.setIfInBounds_toArray, List.set_cons_succ, List.set_cons_zero])
    | (go_big_quiet_step (first | (with_reducible exact calls_in (HD0.out _)) | (with_reducible exact calls_in (HD1.out _)))))
  refine wpQuiet_nil ?_
  intro _ hw'
  obtain ⟨p, hw''⟩ := hw'
  subst hw''
  go_wp2_with fail
  go_ret
  exact ⟨by rw [H8.out]; rfl, HBL.out.trans (p.ok.mono HBL.out.size)⟩
end Go.Proofs.Ytggdjadhenamiaa
