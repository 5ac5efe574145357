/- connect: a field is read. -/
import Derived.Test.YtchkipafjnehfaaDB
namespace Go.Proofs.Ytchkipafjnehfaa
set_option linter.unusedVariables false
set_option linter.unusedSimpArgs false
open Go.RowKit

def FieldPost (cb ab p q n : Nat) (B : Nat → Int) (w : World) (e : Ending) (w' : World) : Prop :=
  Keeps (One cb) w w' ∧ ((e = .returned (.int .u64 (le B q n)) ∧ Zer B p q ∧ w'.rowIs cb 84 3 (ccell ab (q + n))) ∨ (e = .panicked [fmtP] ∧ ¬ Zer B p q))

set_option maxRecDepth 100000 in
set_option maxHeartbeats 2000000 in
theorem field_r (cb ab p q n : Nat) (v : Int) (B : Nat → Int) (w : World) (hB : ∀ j, 0 ≤ B j ∧ B j ≤ 255) (hc : w.rowIs cb 84 3 (ccell ab p)) (hr : w.rowIs ab 43 64 (bB B)) (hp : p ≤ q) (hq : q + n ≤ 64) (hn : n ≤ 8) (hne : cb ≠ ab) :
    Calls Try.prog 38 #[.pointer (some ⟨cb, 0, none⟩), .int .i64 q, .int .i64 n, .int .u64 v] w (FieldPost cb ab p q n B w) := by
  have HC := Lib.hid hc
  have HR := Lib.hid hr
  have HBB := Lib.hid hB
  have c2 : w.cell? ⟨cb, 2, none⟩ = some (.bool true) := hc.cell (i := 2) (by omega)
  clear hc hr hB
  go_enter Try.func38, Try.ntmps38
  go_wp2_with fail
  by_cases hz : Zer B p q
  · have HZ := Lib.hid hz
    clear hz
    refine (zeros_any cb ab p q B _ HC.out HR.out (by omega) (by omega) hne).mono ?_
    rintro e w1 ⟨hk, h⟩
    rcases h with ⟨rfl, -, hc1⟩ | ⟨-, h⟩
    case inr => exact absurd HZ.out h
    rw [Nat.max_eq_right hp] at hc1
    have HK := Lib.hid hk
    have HC1 := Lib.hid hc1
    have HR1 := Lib.hid (hk.rowIs HR.out (fun e => hne (Eq.symm e)))
    have d0 : w1.cell? ⟨cb, 0, none⟩ = some (.pointer (some ⟨ab, 0, none⟩)) := hc1.cell (i := 0) (by omega)
    have d1 : w1.cell? ⟨cb, 1, none⟩ = some (.int .i64 q) := hc1.cell (i := 1) (by omega)
    have f1 := hc1.frozen 1
    clear hk hc1 c2
    go_wp2_with fail
    go_loopw [3, 10, 40] (fun x _ i wr => ∃ k : Nat, k ≤ n ∧ i = .int .i64 k ∧ x = .int .u64 (le B q k) ∧ wr = w1) (fun _ _ i _ => n - (intOf i).toNat)
    case atStart => exact ⟨0, Nat.zero_le _, rfl, rfl, rfl⟩
    case round =>
      obtain ⟨k, hk, rfl, rfl, hw⟩ := hrel
      have hw2 := hw.symm
      subst hw2
      by_cases hlt : k < n
      · have b0 : w1.cell? ⟨ab, q + k, none⟩ = some (.int .u8 (B (q + k))) := HR1.out.cell (i := q + k) (by omega)
        obtain ⟨b1, b2⟩ := HBB.out (q + k)
        obtain ⟨x1, x2⟩ := le_bd HBB.out q k
        have hos := or_step (le B q k) (B (q + k)) k x1 x2 b1 b2 (by omega)
        have x3 : le B q k ≤ 18446744073709551615 := by
          have := (le_bd HBB.out q k).2
          have hq : (2 : Int) ^ (8 * k) ≤ 72057594037927936 := by
            have h : k = 0 ∨ k = 1 ∨ k = 2 ∨ k = 3 ∨ k = 4 ∨ k = 5 ∨ k = 6 ∨ k = 7 := by omega
            rcases h with rfl | rfl | rfl | rfl | rfl | rfl | rfl | rfl <;> simp
          omega
        have e1 : IntKind.i64.wrap (8 * (k : Int)) = 8 * (k : Int) := IntWalk.i64_in _ (by omega)
        have e2 : IntKind.i64.wrap ((q : Int) + (k : Int)) = (q : Int) + (k : Int) := IntWalk.i64_in _ (by omega)
        have e3 : ((q : Int) + (k : Int)).toNat = q + k := by omega
        have HOS := Lib.hid hos
        clear hos x2
        have HLE := Lib.hid (show le B q (k + 1) = le B q k + B (q + k) * 2 ^ (8 * k) from rfl)
        obtain ⟨y, hy⟩ : ∃ y, y = B (q + k) := ⟨_, rfl⟩
        obtain ⟨x, hx⟩ : ∃ x, x = le B q k := ⟨_, rfl⟩
        rw [← hy] at b0 b1 b2 HOS HLE
        rw [← hx] at x1 x3 HOS HLE ⊢
        clear hy hx
        go_wp2_with fail
        go_roundw
        case rel =>
          exact ⟨k + 1, by omega, by go_num, by rw [HLE.out, IntWalk.u64_in _ ⟨HOS.out.2.1, HOS.out.2.2⟩, HOS.out.1], trivial⟩
        case measure => simp [intOf]; omega
      · have hkn : k = n := by omega
        subst hkn
        have e2 : IntKind.i64.wrap ((q : Int) + (k : Int)) = (q : Int) + (k : Int) := IntWalk.i64_in _ (by omega)
        go_wp2_with fail
        go_ret
        exact ⟨HK.out.set1 _ _, .inl ⟨rfl, HZ.out, ccell_set HC1.out _⟩⟩
  · have HZ := Lib.hid hz
    clear hz
    refine (zeros_any cb ab p q B _ HC.out HR.out (by omega) (by omega) hne).mono ?_
    rintro e w1 ⟨hk, h⟩
    rcases h with ⟨-, h, -⟩ | ⟨rfl, -⟩
    · exact absurd h HZ.out
    · exact ⟨rfl, hk, .inr ⟨rfl, HZ.out⟩⟩
end Go.Proofs.Ytchkipafjnehfaa
