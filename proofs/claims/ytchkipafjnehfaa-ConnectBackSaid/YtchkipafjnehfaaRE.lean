/- connect: the reference's put. -/
import Derived.Test.YtchkipafjnehfaaL
import Derived.IntWalk
namespace Go.Proofs.Ytchkipafjnehfaa
set_option linter.unusedVariables false
set_option linter.unusedSimpArgs false
open Go.RowKit

theorem div_step (v : Int) (k : Nat) : v / 2 ^ (8 * k) / 256 = v / 2 ^ (8 * (k + 1)) := by
  have e : (2 : Int) ^ (8 * (k + 1)) = 2 ^ (8 * k) * 256 := by
    rw [Nat.mul_add, Int.pow_add]; rfl
  rw [e, Int.ediv_ediv_of_nonneg (Int.le_of_lt (Int.pow_pos (by omega)))]
theorem div_bd (v : Int) (k : Nat) (h : 0 ≤ v) : 0 ≤ v / 2 ^ (8 * k) ∧ v / 2 ^ (8 * k) ≤ v := by
  have hp : (0 : Int) < 2 ^ (8 * k) := Int.pow_pos (by omega)
  exact ⟨Int.ediv_nonneg h (Int.le_of_lt hp), Int.ediv_le_self _ h⟩

set_option maxRecDepth 100000 in
set_option maxHeartbeats 2000000 in
theorem refput (ab ty : Nat) (p n : Nat) (v : Int) (F : Nat → Value) (w : World) (hr : w.rowIs ab ty 64 F) (hn : n ≤ 8) (hp : p + n ≤ 64) (hv : 0 ≤ v) (hv' : v ≤ 18446744073709551615) :
    Calls Try.prog 42 #[.pointer (some ⟨ab, 0, none⟩), .int .i64 p, .int .i64 n, .int .u64 v] w fun e w' => e = .returned (.tuple #[]) ∧ Keeps (One ab) w w' ∧ w'.rowIs ab ty 64 (putF F p n v) := by
  have HR := Lib.hid hr
  clear hr
  go_enter Try.func42, Try.ntmps42
  go_wp2
  go_loopw [3, 8] (fun x i wr => ∃ k : Nat, k ≤ n ∧ i = .int .i64 k ∧ x = .int .u64 (v / 2 ^ (8 * k)) ∧ Keeps (One ab) w wr ∧ wr.rowIs ab ty 64 (putF F p k v)) (fun _ i _ => n - (intOf i).toNat)
  case atStart => exact ⟨0, Nat.zero_le _, rfl, by simp, Keeps.refl _ _, HR.out.congr fun i _ => by unfold putF; rw [if_neg (by omega)]⟩
  case round =>
    obtain ⟨k, hk, rfl, rfl, hkp, hrow⟩ := hrel
    have HK := Lib.hid hkp
    clear hkp
    by_cases hlt : k < n
    · have hc := hrow.cell (i := p + k) (by omega)
      have hf := hrow.frozen (p + k)
      have HROW := Lib.hid hrow
      clear hrow
      obtain ⟨x1, x2⟩ := div_bd v k hv
      obtain ⟨x, hx⟩ : ∃ x, x = v / 2 ^ (8 * k) := ⟨_, rfl⟩
      rw [← hx] at x1 x2 ⊢
      have HX := Lib.hid hx
      clear hx
      have e1 : IntKind.i64.wrap ((p : Int) + (k : Int)) = (p : Int) + (k : Int) := IntWalk.i64_in _ (by omega)
      have e3 : ((p : Int) + (k : Int)).toNat = p + k := by omega
      go_wp2
      go_roundw
      case rel => exact ⟨k + 1, by omega, by go_num, by rw [HX.out, div_step], HK.out.set1 _ _, (HROW.out.set _ _).congr fun j _ => by rw [HX.out]; exact putF_step j⟩
      case measure => simp [intOf]; omega
    · have hkn : k = n := by omega
      subst hkn
      go_wp2
      go_end0
      exact ⟨rfl, HK.out, hrow⟩

set_option maxHeartbeats 1000000 in
theorem refaligned (f : Fab) (w : World) (ho : 0 ≤ f.offset ∧ f.offset ≤ 4294967295) : Calls Try.prog 40 #[f.v] w fun e w' => e = .returned (.bool (alg f)) ∧ Below w.heap.size w w' := by
  obtain ⟨kind, id, queue, size, keep, wide, offset, value, length⟩ := f
  simp only at ho
  unfold Fab.v alg
  simp only []
  cases wide
  · go_enter Try.func40, Try.ntmps40
    go_wp2
    go_ret
    exact ⟨by simp, (Below.refl _ _).alloc (Nat.le_refl _) _⟩
  · have e : (offset % 4 == 0 && (!true || offset % 8 == 0)) = (offset % 8 == 0) := by
      by_cases h : offset % 8 = 0
      · have : offset % 4 = 0 := by omega
        simp [h, this]
      · simp [h]
    rw [e]
    clear e
    go_enter Try.func40, Try.ntmps40
    go_wp2
    go_ret
    exact ⟨rfl, (Below.refl _ _).alloc (Nat.le_refl _) _⟩
end Go.Proofs.Ytchkipafjnehfaa
