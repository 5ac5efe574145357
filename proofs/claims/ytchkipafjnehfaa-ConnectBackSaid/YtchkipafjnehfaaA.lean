/- connect: the result of a Connect. -/
import Derived.Test.YtchkipafjnehfaaBits
namespace Go.Proofs.Ytchkipafjnehfaa
set_option linter.unusedVariables false
set_option linter.unusedSimpArgs false
open Go.RowKit

theorem ret_int {k : IntKind} {a b : Int} (h : a = b) : Ending.returned (.int k a) = .returned (.int k b) := by rw [h]

set_option maxHeartbeats 400000 in
theorem encres_any (c : Int) (a : Bool) (w : World) (h0 : 0 ≤ c) (h1 : c ≤ 65535) :
    Calls Try.prog 13 #[.int .u16 c, .bool a] w fun e w' => e = .returned (.int .u32 (c + if a then 131072 else 0)) ∧ w = w' := by
  have ho := or_auth c h0 (by omega)
  cases a
  · go_enter Try.func13, Try.ntmps13
    go_wp2
    go_ret
    exact ⟨by simp, rfl⟩
  · go_enter Try.func13, Try.ntmps13
    go_wp2
    go_ret
    exact ⟨by simp, rfl⟩

theorem decres_bad (v : Int) (w : World) (h0 : 0 ≤ v) (h1 : v ≤ 4294967295) (hb : 262144 ≤ v ∨ v / 65536 % 2 = 1) :
    Calls Try.prog 12 #[.int .u32 v] w fun e w' => e = .returned (.tuple #[.int .u16 0, .bool false, .int .i64 6]) ∧ w = w' := by
  have e1 := andnot_auth v h0 (by omega)
  have e2 : (bits .andNot .u32 v 196607 != 0) = true := by
    have := nat_andnot_auth v.toNat (by omega)
    rw [e1, bne_iff_ne]
    intro hc
    have := this.1 (by omega)
    omega
  clear e1 hb
  go_enter Try.func12, Try.ntmps12
  go_wp2
  go_ret3
  exact ⟨rfl, rfl⟩

theorem decres_ok (v : Int) (w : World) (h0 : 0 ≤ v) (h1 : v ≤ 4294967295) (hb : v < 262144) (hb2 : v / 65536 % 2 = 0) :
    Calls Try.prog 12 #[.int .u32 v] w fun e w' => e = .returned (.tuple #[.int .u16 (v % 65536), .bool (decide (131072 ≤ v)), .int .i64 0]) ∧ w = w' := by
  have e1 := andnot_auth v h0 (by omega)
  have e2 : (bits .andNot .u32 v 196607 != 0) = false := by
    have := nat_andnot_auth v.toNat (by omega)
    rw [e1, bne_eq_false_iff_eq]
    have := this.2 ⟨by omega, by omega⟩
    omega
  have e3 : (bits .and .u32 v 131072 != 0) = decide (131072 ≤ v) := by
    rw [and_auth v h0 (by omega), Bool.eq_iff_iff, bne_iff_ne, decide_eq_true_iff]
    omega
  clear e1 hb2
  go_enter Try.func12, Try.ntmps12
  go_wp2
  go_ret3
  exact ⟨rfl, rfl⟩
end Go.Proofs.Ytchkipafjnehfaa
