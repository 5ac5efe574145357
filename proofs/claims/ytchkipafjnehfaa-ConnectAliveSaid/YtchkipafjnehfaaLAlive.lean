/- connect: the law ConnectAlive returns true and writes to nothing that was there. -/
import Derived.Test.YtchkipafjnehfaaKnown
namespace Go.Proofs.Ytchkipafjnehfaa
open Go.RowKit

set_option maxRecDepth 100000 in
set_option maxHeartbeats 2000000 in
theorem alive_short (l : Int) (a : Option Addr) (len cap : Nat) (w : World) (hlen : len ≤ 9223372036854775807) (h : l < 1 ∨ 1073741824 < l ∨ 50 < len) :
    Calls Try.prog 4 #[.int .i64 l, .slice a len cap] w fun e w' => e = .returned (.bool true) ∧ Below w.heap.size w w' := by
  by_cases h1 : l < 1
  · have d1 : decide (l < 1) = true := decide_eq_true h1
    clear h
    go_enter Try.func4, Try.ntmps4
    go_wp2_with (go_at_call 14; refine (known_any _).mono ?_; rintro e w2 ⟨rfl, hb⟩)
    go_ret
    exact ⟨rfl, hb⟩
  have d1 : decide (l < 1) = false := decide_eq_false h1
  by_cases h2 : 1073741824 < l
  · have d2 : decide (1073741824 < l) = true := decide_eq_true h2
    clear h
    go_enter Try.func4, Try.ntmps4
    go_wp2_with (go_at_call 14; refine (known_any _).mono ?_; rintro e w2 ⟨rfl, hb⟩)
    go_ret
    exact ⟨rfl, hb⟩
  have d2 : decide (1073741824 < l) = false := decide_eq_false h2
  have d3 : decide ((50 : Int) < (len : Int)) = true := by simp; omega
  clear h
  go_enter Try.func4, Try.ntmps4
  go_wp2_with (go_at_call 14; refine (known_any _).mono ?_; rintro e w2 ⟨rfl, hb⟩)
  go_ret
  exact ⟨rfl, hb⟩

set_option maxRecDepth 100000 in
set_option maxHeartbeats 4000000 in
theorem alive_walk (l : Int) (a : Option Addr) (len cap : Nat) (z : Nat → Int) (w : World) (hl : 1 ≤ l) (hl' : l ≤ 1073741824) (hlen : len ≤ 50)
    (hz : ∀ i, i < len → ∃ x, a = some x ∧ w.cell? (x.add i) = some (.int .i64 (z i)) ∧ -9223372036854775808 ≤ z i ∧ z i ≤ 9223372036854775807) :
    Calls Try.prog 4 #[.int .i64 l, .slice a len cap] w fun e w' => e = .returned (.bool true) ∧ Below w.heap.size w w' := by
  have HZ := Lib.hid hz
  clear hz
  have d1 : decide (l < 1) = false := by simp; omega
  have d2 : decide (1073741824 < l) = false := by simp; omega
  have d3 : decide ((50 : Int) < (len : Int)) = false := by simp; omega
  go_enter Try.func4, Try.ntmps4
  go_wp2_with fail
  refine (newwatch_ok l w (by omega)).mono ?_
  rintro e w1 ⟨b, rfl, hwa, hb, hb1⟩
  have HWA := Lib.hid hwa
  have HB1 := Lib.hid hb1
  clear hwa hb1
  go_wp2_with fail
  go_loopw [7, 8] (fun v i wr => ∃ (k : Nat) (n : Int), k ≤ len ∧ i = .int .i64 k ∧ v = .int .i64 n ∧ 0 ≤ n ∧ n ≤ k * 1073741824 ∧ WatchAt wr b l n n false ∧ Below w.heap.size w wr) (fun _ i _ => len - (intOf i).toNat)
  case atStart => exact ⟨0, 0, Nat.zero_le _, rfl, rfl, by omega, by omega, HWA.out, HB1.out⟩
  case round =>
    obtain ⟨k, n, hk, rfl, rfl, hn0, hn1, hwr, hbr⟩ := hrel
    have HW := Lib.hid hwr
    have HB := Lib.hid hbr
    clear hwr hbr
    by_cases hlt : k < len
    · obtain ⟨x, rfl, hc, hz0, hz1⟩ := HZ.out k hlt
      have c0 := (HB.out.cell (World.block_lt_of_cell? _ _ hc)).trans hc
      generalize z k = d at *
      clear hc
      by_cases hd0 : d < 0
      · go_wp2_with fail
        go_roundw
        case rel => exact ⟨k + 1, n, by omega, by go_num, rfl, by omega, by omega, HW.out, HB.out⟩
        case measure => simp [intOf]; omega
      by_cases hd1 : l ≤ d
      · go_wp2_with fail
        go_roundw
        case rel => exact ⟨k + 1, n, by omega, by go_num, rfl, by omega, by omega, HW.out, HB.out⟩
        case measure => simp [intOf]; omega
      · have hnb : n + d ≤ ((k : Int) + 1) * 1073741824 := by omega
        go_wp2_with fail
        refine (expired_ok b l n n (n + d) (n + d) false false _ HW.out (by omega) (by omega) (by omega) (by omega) (by omega) (by omega) (by omega) (by unfold ov; simp; omega)).mono ?_
        rintro e w2 ⟨rfl, hk2, h2⟩
        have H2 := Lib.hid h2
        have HB2 := Lib.hid (HB.out.trans (hk2.below (B := w.heap.size) HB.out.size (fun j hj e => by have e : j = b := e; omega)))
        clear hk2 h2
        go_wp2_with fail
        refine (touch_ok b l (n + d) n (n + d) (n + d) false _ H2.out (by omega) (by omega) (by omega) (by omega) (by omega) (by omega) (by omega) (by unfold ov; simp; omega)).mono ?_
        rintro e w3 ⟨rfl, hk3, h3⟩
        have H3 := Lib.hid h3
        have HB3 := Lib.hid (HB2.out.trans (hk3.below (B := w.heap.size) HB2.out.size (fun j hj e => by have e : j = b := e; omega)))
        clear hk3 h3
        go_wp2_with fail
        go_roundw
        case rel => exact ⟨k + 1, n + d, by omega, by go_num, rfl, by omega, by omega, H3.out, HB3.out⟩
        case measure => simp [intOf]; omega
    · have hkn : k = len := by omega
      subst hkn
      go_wp2_with fail
      refine (expired_ok b l n n (n + l - 1) (n + l - 1) false false _ HW.out (by omega) (by omega) (by omega) (by omega) (by omega) (by omega) (by omega) (by unfold ov; simp; omega)).mono ?_
      rintro e w2 ⟨rfl, hk2, h2⟩
      have H2 := Lib.hid h2
      have HB2 := Lib.hid (HB.out.trans (hk2.below (B := w.heap.size) HB.out.size (fun j hj e => by have e : j = b := e; omega)))
      clear hk2 h2
      go_wp2_with fail
      refine (expired_ok b l (n + l - 1) n (n + l) (n + l) false true _ H2.out (by omega) (by omega) (by omega) (by omega) (by omega) (by omega) (by omega) (by unfold ov; simp; omega)).mono ?_
      rintro e w3 ⟨rfl, hk3, h3⟩
      have H3 := Lib.hid h3
      have HB3 := Lib.hid (HB2.out.trans (hk3.below (B := w.heap.size) HB2.out.size (fun j hj e => by have e : j = b := e; omega)))
      clear hk3 h3
      go_wp2_with fail
      refine (touch_late b l (n + l) n (n + l) (n + l) true _ H3.out (by omega) (by omega) (by omega) (by omega) (by omega) (by omega) (by omega) (by unfold ov; simp)).mono ?_
      rintro e w4 ⟨rfl, hk4, h4⟩
      have H4 := Lib.hid h4
      have HB4 := Lib.hid (HB3.out.trans (hk4.below (B := w.heap.size) HB3.out.size (fun j hj e => by have e : j = b := e; omega)))
      clear hk4 h4
      go_wp2_with fail
      refine (due_ok b l (n + l) n (n + l) true _ H4.out (by omega) (by omega) (by omega) (by omega) (by unfold dueOf; rw [if_neg (by omega), if_neg (by omega)])).mono ?_
      rintro e w5 ⟨rfl, q, rfl⟩
      have HB5 := Lib.hid (HB4.out.trans (c := w4.drewN q) ⟨rfl, rfl, rfl, Nat.le_refl _, fun _ _ => rfl⟩)
      go_wp2_with fail
      refine (known_any _).mono ?_
      rintro e w6 ⟨rfl, hb6⟩
      go_wp2_with fail
      go_ret
      exact ⟨rfl, HB5.out.trans (hb6.mono HB5.out.size)⟩

theorem alive_law (l : Int) (a : Option Addr) (len cap : Nat) (zs : List Int) (w : World) (h0 : (Lit.int .i64 l).wf = true) (h1 : IsRow .i64 w a len cap zs) :
    Calls Try.prog 4 #[.int .i64 l, .slice a len cap] w fun e w' => e = .returned (.bool true) ∧ Below w.heap.size w w' := by
  by_cases h : l < 1 ∨ 1073741824 < l ∨ 50 < len
  · refine alive_short l a len cap w ?_ h
    rcases h1 with ⟨-, rfl, -, -⟩ | ⟨x, -, h1, h2, -⟩
    · omega
    · unfold maxLen at h2; omega
  refine alive_walk l a len cap (fun i => zs.getD i 0) w (by omega) (by omega) (by omega) fun i hi => ?_
  rcases h1 with ⟨rfl, rfl, rfl, rfl⟩ | ⟨x, rfl, h1, h2, h3, h4, h5⟩
  · omega
  · have hm : zs.getD i 0 ∈ zs := by
      have : i < zs.length := by omega
      simp [this]
    exact ⟨x, rfl, h4 i (by omega), wf_i64 (h5 _ hm)⟩
end Go.Proofs.Ytchkipafjnehfaa
