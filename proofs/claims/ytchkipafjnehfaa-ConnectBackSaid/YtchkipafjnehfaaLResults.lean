/- connect: the law ConnectResults returns true and writes to nothing that was there. -/
import Derived.Test.YtchkipafjnehfaaKnown
namespace Go.Proofs.Ytchkipafjnehfaa
set_option linter.unusedVariables false
set_option linter.unusedSimpArgs false
open Go.RowKit

theorem decres_ok' (v c : Int) (a : Bool) (w : World) (h0 : 0 ≤ v) (h1 : v ≤ 4294967295) (hb : v < 262144) (hb2 : v / 65536 % 2 = 0) (hc : c = v % 65536) (ha : a = decide (131072 ≤ v)) :
    Calls Try.prog 12 #[.int .u32 v] w fun e w' => e = .returned (.tuple #[.int .u16 c, .bool a, .int .i64 0]) ∧ w = w' := by
  subst hc ha
  exact decres_ok v w h0 h1 hb hb2

theorem encres_is (c r : Int) (a : Bool) (w : World) (h0 : 0 ≤ c) (h1 : c ≤ 65535) (hr : r = c + if a then 131072 else 0) :
    Calls Try.prog 13 #[.int .u16 c, .bool a] w fun e w' => e = .returned (.int .u32 r) ∧ w = w' := by
  subst hr
  exact encres_any c a w h0 h1

set_option maxRecDepth 100000 in
set_option maxHeartbeats 2000000 in
theorem results_walk (c : Int) (a : Bool) (v : Int) (w : World) (hc : 0 ≤ c) (hc' : c ≤ 65535) (hv : 0 ≤ v) (hv' : v ≤ 4294967295) :
    Calls Try.prog 3 #[.int .u16 c, .bool a, .int .u32 v] w fun e w' => e = .returned (.bool true) ∧ Below w.heap.size w w' := by
  by_cases hb : 262144 ≤ v ∨ v / 65536 % 2 = 1
  · have HB := Lib.hid hb
    clear hb
    have hbd : decide (262144 ≤ v) = true ∨ decide (262144 ≤ v) = false ∧ (v / 65536 % 2 == 1) = true := by
      rcases HB.out with h | h
      · exact .inl (decide_eq_true h)
      · by_cases h2 : 262144 ≤ v
        · exact .inl (decide_eq_true h2)
        · exact .inr ⟨decide_eq_false h2, by simpa using h⟩
    rcases hbd with d1 | ⟨d1, d2⟩
    all_goals
      cases a
      · go_enter Try.func3, Try.ntmps3
        go_wp2_with fail
        refine (decres_ok' c c false _ (by omega) (by omega) (by omega) (by omega) (by omega) (by simp; omega)).mono ?_
        rintro e w' ⟨rfl, rfl⟩
        go_wp2_with fail
        refine (encres_is c c false _ (by omega) (by omega) (by simp)).mono ?_
        rintro e w' ⟨rfl, rfl⟩
        go_wp2_with fail
        refine (decres_bad v _ (by omega) (by omega) HB.out).mono ?_
        rintro e w' ⟨rfl, rfl⟩
        go_wp2_with fail
        refine (known_any _).mono ?_
        rintro e w2 ⟨rfl, hb2⟩
        go_wp2_with fail
        go_ret
        exact ⟨rfl, hb2⟩
      · go_enter Try.func3, Try.ntmps3
        go_wp2_with fail
        refine (decres_ok' (c + 131072) c true _ (by omega) (by omega) (by omega) (by omega) (by omega) (by simp; omega)).mono ?_
        rintro e w' ⟨rfl, rfl⟩
        go_wp2_with fail
        refine (encres_is c (c + 131072) true _ (by omega) (by omega) (by simp)).mono ?_
        rintro e w' ⟨rfl, rfl⟩
        go_wp2_with fail
        refine (decres_bad v _ (by omega) (by omega) HB.out).mono ?_
        rintro e w' ⟨rfl, rfl⟩
        go_wp2_with fail
        refine (known_any _).mono ?_
        rintro e w2 ⟨rfl, hb2⟩
        go_wp2_with fail
        go_ret
        exact ⟨rfl, hb2⟩
  · have d1 : decide (262144 ≤ v) = false := by simp; omega
    have d2 : (v / 65536 % 2 == 1) = false := by simp; omega
    have h3 : v < 262144 := by omega
    have h4 : v / 65536 % 2 = 0 := by omega
    have H4 := Lib.hid h4
    clear h4 hb
    cases a
    · go_enter Try.func3, Try.ntmps3
      go_wp2_with fail
      refine (decres_ok' c c false _ (by omega) (by omega) (by omega) (by omega) (by omega) (by simp; omega)).mono ?_
      rintro e w' ⟨rfl, rfl⟩
      go_wp2_with fail
      refine (encres_is c c false _ (by omega) (by omega) (by simp)).mono ?_
      rintro e w' ⟨rfl, rfl⟩
      go_wp2_with fail
      refine (decres_ok v _ (by omega) (by omega) h3 H4.out).mono ?_
      rintro e w' ⟨rfl, rfl⟩
      go_wp2_with fail
      refine (known_any _).mono ?_
      rintro e w2 ⟨rfl, hb2⟩
      go_wp2_with fail
      go_ret
      exact ⟨rfl, hb2⟩
    · go_enter Try.func3, Try.ntmps3
      go_wp2_with fail
      refine (decres_ok' (c + 131072) c true _ (by omega) (by omega) (by omega) (by omega) (by omega) (by simp; omega)).mono ?_
      rintro e w' ⟨rfl, rfl⟩
      go_wp2_with fail
      refine (encres_is c (c + 131072) true _ (by omega) (by omega) (by simp)).mono ?_
      rintro e w' ⟨rfl, rfl⟩
      go_wp2_with fail
      refine (decres_ok v _ (by omega) (by omega) h3 H4.out).mono ?_
      rintro e w' ⟨rfl, rfl⟩
      go_wp2_with fail
      refine (known_any _).mono ?_
      rintro e w2 ⟨rfl, hb2⟩
      go_wp2_with fail
      go_ret
      exact ⟨rfl, hb2⟩

theorem results_law (c : Int) (a : Bool) (v : Int) (w : World) (h0 : (Lit.int .u16 c).wf = true) (h1 : (Lit.int .u32 v).wf = true) :
    Calls Try.prog 3 #[.int .u16 c, .bool a, .int .u32 v] w fun e w' => e = .returned (.bool true) ∧ Below w.heap.size w w' :=
  results_walk c a v w (wf_u16 h0).1 (wf_u16 h0).2 (wf_u32 h1).1 (wf_u32 h1).2
end Go.Proofs.Ytchkipafjnehfaa
