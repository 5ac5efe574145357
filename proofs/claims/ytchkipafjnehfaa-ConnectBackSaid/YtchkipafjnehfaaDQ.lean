/- connect: the reference's get. -/
import Derived.Test.YtchkipafjnehfaaDP
namespace Go.Proofs.Ytchkipafjnehfaa
set_option linter.unusedVariables false
set_option linter.unusedSimpArgs false
open Go.RowKit

set_option maxRecDepth 100000 in
set_option maxHeartbeats 2000000 in
theorem refget (B : Nat → Int) (hB : ∀ j, 0 ≤ B j ∧ B j ≤ 255) (p n : Nat) (hp : p + n ≤ 64) (hn : n ≤ 8) (w : World) :
    Calls Try.prog 48 #[.agg (arr 64 (bB B)), .int .i64 p, .int .i64 n] w fun e w' => e = .returned (.int .u64 (le B p n)) ∧ Below w.heap.size w w' := by
  have HBB := Lib.hid hB
  have hr := rowIs_arr w 43 64 (bB B)
  have hw := ((Below.refl w.heap.size w).alloc (Nat.le_refl _) (.cells (arr 64 (bB B)) 43))
  obtain ⟨W1, hW1⟩ : ∃ W1, W1 = w.alloc (.cells (arr 64 (bB B)) 43) := ⟨_, rfl⟩
  rw [← hW1] at hr hw
  have HR := Lib.hid hr
  have HW := Lib.hid hw
  have HW1 := Lib.hid hW1
  clear hB hr hw hW1
  have e0 : IntKind.i64.wrap ((n : Int) - 1) = (n : Int) - 1 := IntWalk.i64_in _ (by omega)
  go_enter Try.func48, Try.ntmps48
  go_wp2_with fail
  rw [← HW1.out]
  go_loopw [7, 8] (fun v i wr => ∃ k : Nat, k ≤ n ∧ i = .int .i64 ((k : Int) - 1) ∧ v = .int .u64 (le B (p + k) (n - k)) ∧ wr = W1) (fun _ i _ => (intOf i + 1).toNat)
  case atStart => exact ⟨n, Nat.le_refl _, rfl, by rw [Nat.sub_self]; rfl, rfl⟩
  case round =>
    obtain ⟨k, hk, rfl, rfl, hw⟩ := hrel
    have hw2 := hw.symm
    subst hw2
    by_cases hlt : k = 0
    · subst hlt
      go_wp2_with fail
      go_ret
      exact ⟨by simp, HW.out⟩
    · obtain ⟨k, rfl⟩ : ∃ k', k = k' + 1 := ⟨k - 1, by omega⟩
      have b0 : W1.cell? ⟨w.heap.size, p + k, none⟩ = some (.int .u8 (B (p + k))) := HR.out.cell (i := p + k) (by omega)
      obtain ⟨b1, b2⟩ := HBB.out (p + k)
      obtain ⟨x1, x2⟩ := le_bd HBB.out (p + (k + 1)) (n - (k + 1))
      have x3 : le B (p + (k + 1)) (n - (k + 1)) ≤ 72057594037927935 := by
        have hq : (2 : Int) ^ (8 * (n - (k + 1))) ≤ 72057594037927936 := by
          obtain ⟨m, hm⟩ : ∃ m, m = n - (k + 1) := ⟨_, rfl⟩
          rw [← hm]
          have h : m = 0 ∨ m = 1 ∨ m = 2 ∨ m = 3 ∨ m = 4 ∨ m = 5 ∨ m = 6 ∨ m = 7 := by omega
          rcases h with rfl | rfl | rfl | rfl | rfl | rfl | rfl | rfl <;> simp
        omega
      have HL := Lib.hid (show le B (p + k) (n - k) = B (p + k) + 256 * le B (p + (k + 1)) (n - (k + 1)) by
        rw [show n - k = n - (k + 1) + 1 from by omega, le_low, show p + k + 1 = p + (k + 1) from rfl])
      obtain ⟨y, hy⟩ : ∃ y, y = B (p + k) := ⟨_, rfl⟩
      obtain ⟨x, hx⟩ : ∃ x, x = le B (p + (k + 1)) (n - (k + 1)) := ⟨_, rfl⟩
      rw [← hy] at b0 b1 b2 HL
      rw [← hx] at x1 x3 HL ⊢
      clear hy hx x2
      have e1 : IntKind.i64.wrap ((p : Int) + (((k + 1 : Nat) : Int) - 1)) = (p : Int) + k := by rw [IntWalk.i64_in _ (by omega)]; omega
      have e3 : ((p : Int) + (k : Int)).toNat = p + k := by omega
      have e2 : IntKind.u64.wrap (256 * x) = 256 * x := IntWalk.u64_in _ (by omega)
      have e4 : IntKind.u64.wrap (256 * x + y) = 256 * x + y := IntWalk.u64_in _ (by omega)
      have e5 : IntKind.i64.wrap (((k + 1 : Nat) : Int) - 1 - 1) = (k : Int) - 1 := by rw [IntWalk.i64_in _ (by omega)]; omega
      go_wp2_with fail
      go_roundw
      case rel => exact ⟨k, by omega, by first | rfl | go_num, by rw [HL.out, Int.add_comm], trivial⟩
      case measure => simp [intOf]
end Go.Proofs.Ytchkipafjnehfaa
