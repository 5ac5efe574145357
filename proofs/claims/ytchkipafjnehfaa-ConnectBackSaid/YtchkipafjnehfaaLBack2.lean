/- connect: the law ConnectBack, whatever comes in. -/
import Derived.Test.YtchkipafjnehfaaLBack
import Derived.Test.YtchkipafjnehfaaViewDat
namespace Go.Proofs.Ytchkipafjnehfaa
set_option linter.unusedVariables false
set_option linter.unusedSimpArgs false
open Go.RowKit

set_option maxRecDepth 100000 in
set_option maxHeartbeats 4000000 in
theorem back_long (f : Fab) (B : Nat → Int) (d : Dat) (ao : Option Addr) (n c : Nat) (v : Int) (w : World) (hd : d.Ok) (hn : n ≤ 9223372036854775807) (hl : 300 < d.sub.size ∨ 300 < d.hst.size ∨ 1100 < n) :
    Calls Try.prog 11 #[.agg (arr 9 (fcell f)), .agg (arr 64 (bB B)), .agg (arr 19 (dcell d)), .slice ao n c, .int .u32 v] w fun e w' => e = .returned (.bool true) ∧ Below w.heap.size w w' := by
  obtain ⟨W0, hW⟩ : ∃ W0, W0 = ((w.alloc (.cells (arr 9 (fcell f)) 42)).alloc (.cells (arr 64 (bB B)) 43)).alloc (.cells (arr 19 (dcell d)) 69) := ⟨_, rfl⟩
  have h0 := lstart w W0 f B d none 0 (fun _ => 0) (fun h => by omega) hW
  have HW := Lib.hid hW
  have HB := Lib.hid h0.below
  have s1 := hd.s
  have s2 := hd.t
  have c17 : W0.cell? ⟨w.heap.size + 1 + 1, 17, none⟩ = some (.string d.sub) := World.rowIs.cell h0.dat (by omega)
  have c18 : W0.cell? ⟨w.heap.size + 1 + 1, 18, none⟩ = some (.string d.hst) := World.rowIs.cell h0.dat (by omega)
  clear hW h0 hd
  by_cases h1 : 1100 < n
  · have d1 : decide ((1100 : Int) < (n : Int)) = true := by simp; omega
    go_enter Try.func11, Try.ntmps11
    go_upto_region 1 with fail
    rw [← HW.out]
    go_wp2_with fail
    refine (known_any _).mono ?_
    rintro e w1 ⟨rfl, hb⟩
    go_wp2_with fail
    go_ret
    exact ⟨rfl, HB.out.trans (hb.mono HB.out.size)⟩
  · have d1 : decide ((1100 : Int) < (n : Int)) = false := by simp; omega
    by_cases h2 : 300 < d.sub.size
    · have d2 : decide ((300 : Int) < (d.sub.size : Int)) = true := by simp; omega
      go_enter Try.func11, Try.ntmps11
      go_upto_region 1 with fail
      rw [← HW.out]
      go_wp2_with fail
      refine (known_any _).mono ?_
      rintro e w1 ⟨rfl, hb⟩
      go_wp2_with fail
      go_ret
      exact ⟨rfl, HB.out.trans (hb.mono HB.out.size)⟩
    · have d2 : decide ((300 : Int) < (d.sub.size : Int)) = false := by simp; omega
      have d3 : decide ((300 : Int) < (d.hst.size : Int)) = true := by simp; omega
      go_enter Try.func11, Try.ntmps11
      go_upto_region 1 with fail
      rw [← HW.out]
      go_wp2_with fail
      refine (known_any _).mono ?_
      rintro e w1 ⟨rfl, hb⟩
      go_wp2_with fail
      go_ret
      exact ⟨rfl, HB.out.trans (hb.mono HB.out.size)⟩

theorem back_law (f : Fab) (B : Nat → Int) (d : Dat) (ao : Option Addr) (len cap : Nat) (zs : List Int) (v : Int) (w : World) (hok : f.Ok) (hB : ∀ j, 0 ≤ B j ∧ B j ≤ 255) (hd : d.Ok) (hr : IsRow .u8 w ao len cap zs) (hv : (Lit.int .u32 v).wf = true) :
    Calls Try.prog 11 #[f.v, .agg (arr 64 (bB B)), d.v, .slice ao len cap, .int .u32 v] w fun e w' => e = .returned (.bool true) ∧ Below w.heap.size w w' := by
  obtain ⟨hs, hS, hn, hc⟩ := srcB_of hr
  obtain ⟨v0, v1⟩ := wf_u32 hv
  by_cases hl : 300 < d.sub.size ∨ 300 < d.hst.size ∨ 1100 < len
  · exact back_long f B d ao len cap v w hd (by omega) hl
  · exact back_in f B d ao len cap _ v w hok hB hd hS hn hc hs (by omega) (by omega) (by omega) v0 v1
end Go.Proofs.Ytchkipafjnehfaa
