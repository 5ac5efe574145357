/- connect: the law ConnectNames returns true and writes to nothing that was there. -/
import Derived.Test.YtchkipafjnehfaaName2
import Derived.Test.YtchkipafjnehfaaKnown
namespace Go.Proofs.Ytchkipafjnehfaa
open Go.RowKit

set_option maxHeartbeats 1000000 in
theorem names_walk (s : ByteArray) (w : World) (hs : s.size ≤ 9223372036854775807) :
    Calls Try.prog 8 #[.string s] w fun e w' => e = .returned (.bool true) ∧ Below w.heap.size w w' := by
  by_cases h : 300 < s.size
  · have d1 : decide ((300 : Int) < (s.size : Int)) = true := by simp; omega
    go_enter Try.func8, Try.ntmps8
    go_wp2_with fail
    refine (known_any _).mono ?_
    rintro e w2 ⟨rfl, hb⟩
    go_wp2_with fail
    go_ret
    exact ⟨rfl, hb⟩
  · have d1 : decide ((300 : Int) < (s.size : Int)) = false := by simp; omega
    go_enter Try.func8, Try.ntmps8
    go_wp2_with fail
    refine (validName_any s w hs).mono ?_
    rintro e w1 ⟨rfl, hb⟩
    go_wp2_with fail
    refine (refName_any s w1 hs).mono ?_
    rintro e w' ⟨rfl, rfl⟩
    generalize vName s = c at *
    go_wp2_with fail
    refine (known_any _).mono ?_
    rintro e w2 ⟨rfl, hb2⟩
    go_wp2_with fail
    go_ret
    exact ⟨rfl, hb.trans (hb2.mono hb.size)⟩

theorem names_law (s : ByteArray) (w : World) (h : s.size ≤ maxLen) :
    Calls Try.prog 8 #[.string s] w fun e w' => e = .returned (.bool true) ∧ Below w.heap.size w w' :=
  names_walk s w (by unfold maxLen at h; omega)
end Go.Proofs.Ytchkipafjnehfaa
