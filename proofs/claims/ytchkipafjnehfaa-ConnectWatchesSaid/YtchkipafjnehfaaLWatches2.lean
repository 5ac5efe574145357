/- connect: the law ConnectWatches, the short ways too. -/
import Derived.Test.YtchkipafjnehfaaLWatches
namespace Go.Proofs.Ytchkipafjnehfaa
open Go.RowKit

set_option maxRecDepth 100000 in
set_option maxHeartbeats 2000000 in
theorem watches_short (l : Int) (a1 : Option Addr) (len1 cap1 : Nat) (a2 : Option Addr) (len2 cap2 : Nat) (w : World) (hb1 : len1 ≤ 9223372036854775807) (h : l < 0 ∨ 50 < len1) :
    Calls Try.prog 6 #[.int .i64 l, .slice a1 len1 cap1, .slice a2 len2 cap2] w fun e w' => e = .returned (.bool true) ∧ Below w.heap.size w w' := by
  by_cases h1 : l < 0
  · have d1 : decide (l < 0) = true := decide_eq_true h1
    clear h
    go_enter Try.func6, Try.ntmps6
    go_wp2_with fail
    refine (newwatch_err l w h1).mono ?_
    rintro e w' ⟨rfl, rfl⟩
    go_wp2_with fail
    refine (known_any _).mono ?_
    rintro e w2 ⟨rfl, hb⟩
    go_wp2_with fail
    go_ret
    exact ⟨rfl, hb⟩
  · have d1 : decide (l < 0) = false := decide_eq_false h1
    have d2 : decide ((50 : Int) < (len1 : Int)) = true := by simp; omega
    clear h
    go_enter Try.func6, Try.ntmps6
    go_wp2_with fail
    refine (newwatch_ok l w (by omega)).mono ?_
    rintro e w1 ⟨b, rfl, hwa, hb, hb1⟩
    clear hwa
    go_wp2_with fail
    refine (known_any _).mono ?_
    rintro e w2 ⟨rfl, hb2⟩
    go_wp2_with fail
    go_ret
    exact ⟨rfl, hb1.trans (hb2.mono hb1.size)⟩

theorem watches_law (l : Int) (a1 : Option Addr) (len1 cap1 : Nat) (zs : List Int) (a2 : Option Addr) (len2 cap2 : Nat) (B : Nat → Bool) (w : World) (h0 : (Lit.int .i64 l).wf = true) (h1 : IsRow .i64 w a1 len1 cap1 zs) (h2 : BoolsAt w a2 len2 B) :
    Calls Try.prog 6 #[.int .i64 l, .slice a1 len1 cap1, .slice a2 len2 cap2] w fun e w' => e = .returned (.bool true) ∧ Below w.heap.size w w' := by
  have hb : len1 ≤ 9223372036854775807 := by
    rcases h1 with ⟨-, rfl, -, -⟩ | ⟨x, -, h1, h2, -⟩
    · omega
    · unfold maxLen at h2; omega
  by_cases h : l < 0 ∨ 50 < len1
  · exact watches_short l a1 len1 cap1 a2 len2 cap2 w hb h
  refine watches_walk l a1 len1 cap1 (fun i => zs.getD i 0) a2 len2 cap2 B w (by omega) (wf_i64 h0).2 (by omega) h2.1 (fun i hi => ?_) h2.2
  rcases h1 with ⟨rfl, rfl, rfl, rfl⟩ | ⟨x, rfl, h1, h2, h3, h4, h5⟩
  · omega
  · have hm : zs.getD i 0 ∈ zs := by
      have : i < zs.length := by omega
      simp [this]
    exact ⟨x, rfl, h4 i (by omega), wf_i64 (h5 _ hm)⟩
end Go.Proofs.Ytchkipafjnehfaa
