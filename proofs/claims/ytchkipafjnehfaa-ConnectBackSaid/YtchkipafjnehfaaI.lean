/- connect: a field is written. -/
import Derived.Test.YtchkipafjnehfaaG
import Derived.IntWalk
namespace Go.Proofs.Ytchkipafjnehfaa
set_option linter.unusedVariables false
set_option linter.unusedSimpArgs false
open Go.RowKit

/-- n bytes of v from 'at' on, the least first -/
def putF (F : Nat → Value) (p n : Nat) (v : Int) : Nat → Value := fun j => if p ≤ j ∧ j < p + n then .int .u8 (v / 2 ^ (8 * (j - p)) % 256) else F j

theorem putF_step {F : Nat → Value} {p k : Nat} {v : Int} (j : Nat) : (if j = p + k then .int .u8 (v / 2 ^ (8 * k) % 256) else putF F p k v j) = putF F p (k + 1) v j := by
  unfold putF
  by_cases h1 : j = p + k
  · subst h1
    rw [if_pos rfl, if_pos (by omega), show p + k - p = k by omega]
  · rw [if_neg h1]
    by_cases h2 : p ≤ j ∧ j < p + k
    · rw [if_pos h2, if_pos (by omega)]
    · rw [if_neg h2, if_neg (by omega)]

set_option maxRecDepth 100000 in
set_option maxHeartbeats 2000000 in
theorem field_w (cb ab ty : Nat) (p n : Nat) (v : Int) (F : Nat → Value) (w : World) (h0 : w.cell? ⟨cb, 0, none⟩ = some (.pointer (some ⟨ab, 0, none⟩))) (h2 : w.cell? ⟨cb, 2, none⟩ = some (.bool false))
    (hr : w.rowIs ab ty 64 F) (hn : n ≤ 8) (hp : p + n ≤ 64) (hv : 0 ≤ v) (hv' : v ≤ 18446744073709551615) (hne : cb ≠ ab) :
    Calls Try.prog 38 #[.pointer (some ⟨cb, 0, none⟩), .int .i64 p, .int .i64 n, .int .u64 v] w fun e w' => e = .returned (.int .u64 v) ∧ Keeps (One ab) w w' ∧ w'.rowIs ab ty 64 (putF F p n v) := by
  have H0 := Lib.hid h0
  have HR := Lib.hid hr
  clear hr
  go_enter Try.func38, Try.ntmps38
  go_wp2
  clear h0 h2
  go_loopw [9, 17] (fun _ i wr => ∃ k : Nat, k ≤ n ∧ i = .int .i64 k ∧ Keeps (One ab) w wr ∧ wr.rowIs ab ty 64 (putF F p k v)) (fun _ i _ => n - (intOf i).toNat)
  case atStart => exact ⟨0, Nat.zero_le _, rfl, Keeps.refl _ _, HR.out.congr fun i _ => by unfold putF; rw [if_neg (by omega)]⟩
  case round =>
    obtain ⟨k, hk, rfl, hkp, hrow⟩ := hrel
    have HK := Lib.hid hkp
    have c0 := hkp.cell H0.out (fun e => hne e)
    clear hkp
    by_cases hlt : k < n
    · have hc := hrow.cell (i := p + k) (by omega)
      have hf := hrow.frozen (p + k)
      have HROW := Lib.hid hrow
      clear hrow
      have e1 : IntKind.i64.wrap (8 * (k : Int)) = 8 * (k : Int) := IntWalk.i64_in _ (by omega)
      have e2 : IntKind.i64.wrap ((p : Int) + (k : Int)) = (p : Int) + (k : Int) := IntWalk.i64_in _ (by omega)
      have e3 : ((p : Int) + (k : Int)).toNat = p + k := by omega
      go_wp2
      go_region
      go_wp2
      go_roundw
      case rel => exact ⟨k + 1, by omega, by go_num, (HK.out.set1 _ _).drew, ((HROW.out.set _ _).drew).congr fun j _ => putF_step j⟩
      case measure => simp [intOf]; omega
    · have hkn : k = n := by omega
      subst hkn
      go_wp2
      go_ret
      exact ⟨rfl, HK.out, hrow⟩

set_option maxHeartbeats 1000000 in
theorem must_ok (w : World) : Calls Try.prog 46 #[.bool true] w fun e w' => e = .returned (.tuple #[]) ∧ w = w' := by
  go_enter Try.func46, Try.ntmps46
  go_wp2
  go_end0
  exact ⟨rfl, rfl⟩
end Go.Proofs.Ytchkipafjnehfaa
