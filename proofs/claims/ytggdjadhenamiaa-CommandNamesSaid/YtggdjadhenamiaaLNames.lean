/- command: the law CommandNames. -/
import Derived.Test.YtggdjadhenamiaaKn
import Derived.Test.YtggdjadhenamiaaRf
namespace Go.Proofs.Ytggdjadhenamiaa
set_option linter.unusedVariables false
set_option linter.unusedSimpArgs false
open Go.RowKit

set_option maxRecDepth 100000 in
set_option maxHeartbeats 4000000 in
theorem namesLaw (a : Bool) (k : Int) (s : ByteArray) (w : World) (hk : (Lit.int .u8 k).wf = true) (hs : s.size ≤ maxLen) :
    Calls Try.prog 6 #[.bool a, .int .u8 k, .string s] w fun e w' => e = .returned (.bool true) ∧ Below w.heap.size w w' := by
  have hb := wf_u8 hk
  obtain ⟨hb1, hb2⟩ := hb
  have HKN := Lib.hid known_any
  have HD := Lib.hid (dir_any k ⟨hb1, hb2⟩)
  have HO := Lib.hid (opcode_any a s)
  have HO2 := Lib.hid (ropcode_any a s)
  have HN := Lib.hid (name_any a k)
  have HN2 := Lib.hid (rname_any a k)
  have ek : IntKind.i64.wrap k = k := IntWalk.i64_in _ (by omega)
  have ek2 : k.tmod 4 = k % 4 := Int.tmod_eq_emod_of_nonneg (by omega)
  have hm : s.size ≤ 9223372036854775807 := hs
  unfold strV at HN HN2
  clear hk hs
  go_enter Try.func6, Try.ntmps6
  by_cases hl : 30 < s.size
  · have q : decide ((30 : Int) < (s.size : Int)) = true := decide_eq_true (by omega)
    have q2 : decide (30 < s.size) = true := decide_eq_true hl
    go_wp2_with (go_at_call 12; refine (HKN.out _).mono ?_; rintro e w1 ⟨rfl, hb⟩; have B := Lib.hid hb; clear hb)
    go_ret
    exact ⟨rfl, B.out⟩
  · have q : decide ((30 : Int) < (s.size : Int)) = false := decide_eq_false (by omega)
    have q2 : decide (30 < s.size) = false := decide_eq_false hl
    go_wp2_with (first
      | (go_at_call 17; refine (HO.out _).mono ?_; rintro e w1 ⟨rfl, hb⟩; have B1 := Lib.hid hb; clear hb)
      | (go_at_call 18; refine (HO2.out _).mono ?_; rintro e w2 ⟨rfl, hb⟩; have B2 := Lib.hid (B1.out.trans (hb.mono B1.out.size)); clear hb)
      | (go_at_call 19; refine (HN.out _).mono ?_; rintro e w3 ⟨rfl, hb⟩; have B3 := Lib.hid (B2.out.trans (hb.mono B2.out.size)); clear hb)
      | (go_at_call 20; refine (HN2.out _).mono ?_; rintro e w4 ⟨rfl, hb⟩; have B4 := Lib.hid (B3.out.trans (hb.mono B3.out.size)); clear hb)
      | (go_at_call 21; refine (HD.out _).mono ?_; rintro e w' ⟨rfl, rfl⟩)
      | (go_at_call 12; refine (HKN.out _).mono ?_; rintro e w5 ⟨rfl, hb⟩; have B5 := Lib.hid (B4.out.trans (hb.mono B4.out.size)); clear hb))
    go_ret
    exact ⟨rfl, B5.out⟩
end Go.Proofs.Ytggdjadhenamiaa
