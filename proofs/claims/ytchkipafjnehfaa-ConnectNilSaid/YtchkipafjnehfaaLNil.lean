/- connect: the law ConnectNil returns true and writes to nothing that was there. -/
import Derived.Test.YtchkipafjnehfaaKnown
namespace Go.Proofs.Ytchkipafjnehfaa
open Go.RowKit

theorem touch_is (b : Nat) (l n t now m : Int) (w : World) (h : WatchAt w b l n t false) (hl : 0 ≤ l) (hl' : l ≤ 9223372036854775807) (ht : 0 ≤ t) (htn : t ≤ n) (hn : n ≤ 9223372036854775807) (hw : now ≤ 9223372036854775807) (hm : m = max n now) (hov : ov l m t false = false) :
    Calls Try.prog 17 #[.pointer (some ⟨b, 0, none⟩), .int .i64 now] w fun e w' => e = .returned (.int .i64 0) ∧ Keeps (One b) w w' ∧ WatchAt w' b l m m false := touch_ok b l n t now m false w h hl hl' ht htn hn hw hm hov

set_option maxRecDepth 100000 in
set_option maxHeartbeats 4000000 in
theorem nil_walk (now : Int) (w : World) (h0 : -9223372036854775808 ≤ now) (h1 : now ≤ 9223372036854775807) :
    Calls Try.prog 7 #[.int .i64 now] w fun e w' => e = .returned (.bool true) ∧ Below w.heap.size w w' := by
  go_enter Try.func7, Try.ntmps7
  go_wp2_with fail
  obtain ⟨W, hW⟩ : ∃ W, W = (w.alloc (.cells #[.bool false, .int .i64 0, .int .i64 0, .int .i64 0, .bool false] 59)).alloc (.cells #[.pointer none, .pointer (some ⟨w.heap.size, 0, none⟩)] 31) := ⟨_, rfl⟩
  rw [← hW]
  have N0 : NoWatch W none := .inl rfl
  have N1 : NoWatch W (some ⟨w.heap.size, 0, none⟩) := .inr ⟨_, rfl, by rw [hW]; go_simp⟩
  have c0 : W.cell? ⟨w.heap.size + 1, 0, none⟩ = some (.pointer none) := by rw [hW]; go_simp
  have c1 : W.cell? ⟨w.heap.size + 1, 1, none⟩ = some (.pointer (some ⟨w.heap.size, 0, none⟩)) := by rw [hW]; go_simp
  have HB := Lib.hid (show Below w.heap.size w W by rw [hW]; exact ((Below.refl _ _).alloc (Nat.le_refl _) _).alloc (by simp) _)
  have HN0 := Lib.hid N0
  have HN1 := Lib.hid N1
  clear hW N0 N1
  refine wp_loop_rounds 3 ?_
  rw [rounds_succ]
  go_wp2_with fail
  refine (expired_no _ _ _ HN0.out).mono ?_
  rintro e w' ⟨rfl, rfl⟩
  go_wp2_with fail
  refine (touch_no _ _ _ HN0.out).mono ?_
  rintro e w' ⟨rfl, rfl⟩
  go_wp2_with fail
  refine (due_no _ _ HN0.out).mono ?_
  rintro e w' ⟨rfl, rfl⟩
  go_wp2_with fail
  refine (copy_no _ _ HN0.out).mono ?_
  rintro e w' ⟨rfl, rfl⟩
  go_wp2_with fail
  rw [rounds_succ]
  go_wp2_with fail
  refine (expired_no _ _ _ HN1.out).mono ?_
  rintro e w' ⟨rfl, rfl⟩
  go_wp2_with fail
  refine (touch_no _ _ _ HN1.out).mono ?_
  rintro e w' ⟨rfl, rfl⟩
  go_wp2_with fail
  refine (due_no _ _ HN1.out).mono ?_
  rintro e w' ⟨rfl, rfl⟩
  go_wp2_with fail
  refine (copy_no _ _ HN1.out).mono ?_
  rintro e w' ⟨rfl, rfl⟩
  go_wp2_with fail
  rw [rounds_succ]
  go_wp2_with fail
  refine (newwatch_ok 0 W (by omega)).mono ?_
  rintro e w1 ⟨b, rfl, hwa, hb, hb1⟩
  have HWA := Lib.hid hwa
  have HB1 := Lib.hid (HB.out.trans (hb1.mono HB.out.size))
  have hwb := HB.out.size
  clear hwa hb1 c0 c1
  obtain ⟨m, hm⟩ : ∃ m, m = max 0 now := ⟨_, rfl⟩
  have hm0 : 0 ≤ m := by omega
  have hm1 : now ≤ m := by omega
  have hm2 : m ≤ 9223372036854775807 := by omega
  have HM := Lib.hid hm
  clear hm
  go_wp2_with fail
  refine (expired_ok b 0 0 0 now m false false _ HWA.out (by omega) (by omega) (by omega) (by omega) (by omega) (by omega) HM.out (by unfold ov; simp)).mono ?_
  rintro e w2 ⟨rfl, hk2, h2⟩
  have H2 := Lib.hid h2
  have HB2 := Lib.hid (HB1.out.trans (hk2.below (B := w.heap.size) HB1.out.size (fun j hj e => by have e : j = b := e; omega)))
  clear hk2 h2
  go_wp2_with fail
  refine (touch_ok b 0 m 0 now m false _ H2.out (by omega) (by omega) (by omega) (by omega) (by omega) (by omega) (by omega) (by unfold ov; simp)).mono ?_
  rintro e w3 ⟨rfl, hk3, h3⟩
  have H3 := Lib.hid h3
  have HB3 := Lib.hid (HB2.out.trans (hk3.below (B := w.heap.size) HB2.out.size (fun j hj e => by have e : j = b := e; omega)))
  clear hk3 h3
  go_wp2_with fail
  refine (due_ok b 0 m m (-1) false _ H3.out (by omega) (by omega) (by omega) (by omega) (by unfold dueOf; rw [if_pos rfl])).mono ?_
  rintro e w4 ⟨rfl, q, rfl⟩
  have HB4 := Lib.hid (HB3.out.trans (c := w3.drewN q) ⟨rfl, rfl, rfl, Nat.le_refl _, fun _ _ => rfl⟩)
  go_wp2_with fail
  refine (known_any _).mono ?_
  rintro e w5 ⟨rfl, hb5⟩
  go_wp2_with fail
  go_ret
  exact ⟨rfl, HB4.out.trans (hb5.mono HB4.out.size)⟩

theorem nil_law (now : Int) (w : World) (h : (Lit.int .i64 now).wf = true) :
    Calls Try.prog 7 #[.int .i64 now] w fun e w' => e = .returned (.bool true) ∧ Below w.heap.size w w' :=
  nil_walk now w (wf_i64 h).1 (wf_i64 h).2
end Go.Proofs.Ytchkipafjnehfaa
