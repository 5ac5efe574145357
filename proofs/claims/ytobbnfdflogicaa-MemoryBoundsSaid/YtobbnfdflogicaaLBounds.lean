/- memory: the law MemoryBounds returns true and writes to nothing that was there. -/
import Derived.Test.YtobbnfdflogicaaK
namespace Go.Proofs.Ytobbnfdflogicaa
open Go.RowKit

set_option maxRecDepth 100000 in
set_option maxHeartbeats 4000000 in
theorem bounds_walk (n : Int) (w : World) (hn0 : -9223372036854775808 ≤ n) (hn1 : n ≤ 9223372036854775807) :
    Calls Try.prog 4 #[.int .i64 n] w fun e w' => e = .returned (.bool true) ∧ Below w.heap.size w w' := by
  by_cases h1 : n < 1
  · go_enter Try.func4, Try.ntmps4
    go_wp2_with (go_at_call 9; refine (works_any _).mono ?_; rintro e w1 ⟨rfl, hb⟩)
    go_ret
    exact ⟨rfl, hb⟩
  by_cases h2 : 5000 < n
  · go_enter Try.func4, Try.ntmps4
    go_wp2_with (go_at_call 9; refine (works_any _).mono ?_; rintro e w1 ⟨rfl, hb⟩)
    go_ret
    exact ⟨rfl, hb⟩
  obtain ⟨k, rfl⟩ : ∃ k : Nat, n = k := ⟨n.toNat, by omega⟩
  have hk1 : 1 ≤ k := by omega
  have hk2 : k ≤ 5000 := by omega
  have hmk := run_make_row' (P := Try.prog) 33 5 (.int .u8 0) 1 Try.underlying33 infoU8 rfl .i64 .i64 k (by omega) (by omega)
  have d1 : decide ((k : Int) < 1) = false := by simp; omega
  have d2 : decide ((5000 : Int) < (k : Int)) = false := by simp; omega
  have hmc : (madeCells #[Value.int .u8 0] k)[k - 1]? = some (.int .u8 0) := by
    have hlt : k - 1 < k := by omega
    simp [madeCells, hlt, Nat.mod_one]
  have hms : (madeCells #[Value.int .u8 0] k).size = k := size_madeCells _ _
  have hcell : ∀ i, i < k → ((madeCells #[Value.int .u8 0] k).setIfInBounds (k - 1) (.int .u8 9))[i]? = some (.int .u8 (if i = k - 1 then 9 else 0)) := by
    intro i hi
    rw [Array.getElem?_setIfInBounds]
    by_cases e : i = k - 1
    · rw [if_pos e.symm, if_pos (by rw [hms]; omega), if_pos e]
    · rw [if_neg (fun h => e h.symm), if_neg e]
      simp [madeCells, hi, Nat.mod_one]
  have HC := Lib.hid hcell
  clear h1 h2 hn0 hn1 hcell hms
  go_enter Try.func4, Try.ntmps4
  go_wp2_with fail
  refine (new_ok 1024 _ (by omega) (by omega)).mono ?_
  rintro e w1 ⟨b, B, rfl, hb, hB, hb1, hm1⟩
  have HM1 := Lib.hid hm1
  have hl1 := hm1.lt
  have hl2 := hm1.lt'
  clear hm1
  go_wp2_with fail
  obtain ⟨w2, hw2⟩ : ∃ w2, w2 = w1.alloc (.cells ((madeCells #[Value.int .u8 0] k).setIfInBounds (k - 1) (.int .u8 9)) 5) := ⟨_, rfl⟩
  rw [← hw2]
  have HM2 := Lib.hid (show MemAt w2 b B (1024 * 4096) (fun _ => 0) [] by rw [hw2]; exact HM1.out.alloc _)
  have hb2 : Below w.heap.size w w2 := by rw [hw2]; exact hb1.alloc hb1.size _
  have hsrc : Src (Two b B) w2 (some ⟨w1.heap.size, 0, none⟩) k (fun i => if i = k - 1 then 9 else 0) := by
    rw [hw2]; exact src_new _ w1 k _ _ (by rintro (e | e) <;> omega) (by omega) HC.out
  have HS2 := Lib.hid hsrc
  have HL2 := Lib.hid (show w1.heap.size ≤ w2.heap.size by rw [hw2]; simp)
  clear hw2 hsrc
  refine (read_ok b B _ _ _ 4194303 1 _ HM2.out (by omega)).mono ?_
  rintro e w3 ⟨v3, rfl, hv3, hb3⟩
  have HM3 := Lib.hid (HM2.out.below hb3)
  have HS3 := Lib.hid (HS2.out.kept (Keeps.of_below (S := fun _ => False) hb3) (fun _ h => h.elim))
  have hb3' := hb2.trans (hb3.mono hb2.size)
  have HV3 := Lib.hid hv3
  clear hv3
  go_wp2_with fail
  refine (write_ok' b B _ _ _ (4194304 - k) k k _ _ _ _ HM3.out (by simp) (by omega) HS3.out (by omega)).mono ?_
  rintro e w4 ⟨rfl, hk4, hm4⟩
  have HM4 := Lib.hid hm4
  have hs34 := hb3.size
  have HS4 := Lib.hid (HS3.out.kept hk4 (fun _ h => h))
  have hb4 := hb3'.trans (hk4.below (B := w.heap.size) hb3'.size (by rintro j hj (e | e) <;> omega))
  clear hm4
  go_wp2_with fail
  refine (read_ok b B _ _ _ 4194303 1 _ HM4.out (by omega)).mono ?_
  rintro e w5 ⟨v5, rfl, hv5, hb5⟩
  have HM5 := Lib.hid (HM4.out.below hb5)
  have HS5 := Lib.hid (HS4.out.kept (Keeps.of_below (S := fun _ => False) hb5) (fun _ h => h.elim))
  have hb5' := hb4.trans (hb5.mono hb4.size)
  have hk25 : Keeps (Two b B) w3 w5 := hk4.trans (Keeps.of_below hb5)
  have hv3 := HV3.out.kept hk25 (fun j hj => by have : w1.heap.size ≤ w2.heap.size := HL2.out; rintro (e | e) <;> omega)
  have hc3 := newBytes_str hv3
  have hc5 := newBytes_str hv5
  rw [show strOf 1 (fun _ => 0) = ⟨#[0]⟩ from rfl] at hc3
  rw [strOf_congr (g := fun _ => 9) (fun i hi => by
    have : i = 0 := by omega
    subst this
    unfold upd
    rw [if_pos (by omega)]; exact if_pos (by omega)), show strOf 1 (fun _ => 9) = ⟨#[9]⟩ from rfl] at hc5
  go_wp2_with (first | (go_at_call 11; refine (num_any _ _).mono ?_; rintro e w' ⟨rfl, rfl⟩) | (go_at_call 17; refine (size_is b B _ _ _ 4194304 _ HM5.out (by omega)).mono ?_; rintro e w' ⟨rfl, rfl⟩))
  refine (write_err' b B _ _ _ (4194304 - k + 1) k k _ _ _ HM5.out (by omega) (by omega) (by omega) (by omega)).mono ?_
  rintro e w6 ⟨rfl, hb6⟩
  have HM6 := Lib.hid (HM5.out.below hb6)
  have hb6' := hb5'.trans (hb6.mono hb5'.size)
  clear hc3 hc5 hv3 hv5
  go_wp2_with (first | (go_at_call 11; refine (num_any _ _).mono ?_; rintro e w' ⟨rfl, rfl⟩))
  refine (check_is b B _ _ _ _ _ 3 _ HM6.out (by omega) (by omega) (by omega) (by omega) (by unfold chk; rw [if_neg (by omega), if_neg (by omega)])).mono ?_
  rintro e w7 ⟨rfl, hb7⟩
  have HM7 := Lib.hid (HM6.out.below hb7)
  have hb7' := hb6'.trans (hb7.mono hb6'.size)
  go_wp2_with (first | (go_at_call 11; refine (num_any _ _).mono ?_; rintro e w' ⟨rfl, rfl⟩))
  refine (check_is b B _ _ _ _ _ 3 _ HM7.out (by omega) (by omega) (by omega) (by omega) (by unfold chk; rw [if_neg (by omega), if_neg (by omega)])).mono ?_
  rintro e w8 ⟨rfl, hb8⟩
  have HM8 := Lib.hid (HM7.out.below hb8)
  have hb8' := hb7'.trans (hb8.mono hb7'.size)
  go_wp2_with (first | (go_at_call 11; refine (num_any _ _).mono ?_; rintro e w' ⟨rfl, rfl⟩))
  refine (check_is b B _ _ _ _ _ 0 _ HM8.out (by omega) (by omega) (by omega) (by omega) (by unfold chk; rw [if_neg (by omega), if_pos (by omega)])).mono ?_
  rintro e w9 ⟨rfl, hb9⟩
  have HM9 := Lib.hid (HM8.out.below hb9)
  have hb9' := hb8'.trans (hb9.mono hb8'.size)
  go_wp2_with (first | (go_at_call 11; refine (num_any _ _).mono ?_; rintro e w' ⟨rfl, rfl⟩))
  refine (check_is b B _ _ _ _ _ 3 _ HM9.out (by omega) (by omega) (by omega) (by omega) (by unfold chk; rw [if_neg (by omega), if_neg (by omega)])).mono ?_
  rintro e w10 ⟨rfl, hb10⟩
  have hb10' := hb9'.trans (hb10.mono hb9'.size)
  go_wp2_with (first | (go_at_call 11; refine (num_any _ _).mono ?_; rintro e w' ⟨rfl, rfl⟩))
  refine (works_any _).mono ?_
  rintro e w11 ⟨rfl, hb11⟩
  have hb11' := hb10'.trans (hb11.mono hb10'.size)
  go_wp2_with fail
  go_ret
  exact ⟨rfl, hb11'⟩

theorem bounds_law (n : Int) (w : World) (h : (Lit.int .i64 n).wf = true) :
    Calls Try.prog 4 #[.int .i64 n] w fun e w' => e = .returned (.bool true) ∧ Below w.heap.size w w' := by
  exact bounds_walk n w (wf_i64 h).1 (wf_i64 h).2
end Go.Proofs.Ytobbnfdflogicaa
