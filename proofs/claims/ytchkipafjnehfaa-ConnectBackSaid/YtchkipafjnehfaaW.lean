/- connect: the watch's methods. -/
import Derived.Test.YtchkipafjnehfaaW0
namespace Go.Proofs.Ytchkipafjnehfaa
set_option linter.unusedVariables false
set_option linter.unusedSimpArgs false
open Go.RowKit

/-- A watch that is none. -/
def NoWatch (w : World) (p : Option Addr) : Prop := p = none ∨ ∃ b, p = some ⟨b, 0, none⟩ ∧ w.cell? ⟨b, 0, none⟩ = some (.bool false)
theorem NoWatch.below {w w' : World} {p : Option Addr} (h : NoWatch w p) (hb : Below w.heap.size w w') : NoWatch w' p := by
  rcases h with rfl | ⟨b, rfl, hc⟩
  · exact .inl rfl
  · exact .inr ⟨b, rfl, (hb.cell (World.block_lt_of_cell? _ _ hc)).trans hc⟩

set_option maxHeartbeats 400000 in
theorem pass_no (p : Option Addr) (now : Int) (w : World) (h : NoWatch w p) :
    Calls Try.prog 37 #[.pointer p, .int .i64 now] w fun e w' => e = .returned (.int .i64 1) ∧ w = w' := by
  rcases h with rfl | ⟨b, rfl, hc⟩
  · go_enter Try.func37, Try.ntmps37
    go_wp2
    go_ret
    exact ⟨rfl, rfl⟩
  · go_enter Try.func37, Try.ntmps37
    go_wp2
    go_ret
    exact ⟨rfl, rfl⟩

set_option maxHeartbeats 400000 in
theorem touch_no (p : Option Addr) (now : Int) (w : World) (h : NoWatch w p) :
    Calls Try.prog 17 #[.pointer p, .int .i64 now] w fun e w' => e = .returned (.int .i64 1) ∧ w = w' := by
  have H := Lib.hid h
  clear h
  go_enter Try.func17, Try.ntmps17
  go_wp2_with (go_at_call 37; refine (pass_no _ _ _ H.out).mono ?_; rintro e w' ⟨rfl, rfl⟩)
  go_ret
  exact ⟨rfl, rfl⟩

set_option maxHeartbeats 400000 in
theorem expired_no (p : Option Addr) (now : Int) (w : World) (h : NoWatch w p) :
    Calls Try.prog 16 #[.pointer p, .int .i64 now] w fun e w' => e = .returned (.tuple #[.bool false, .int .i64 1]) ∧ w = w' := by
  have H := Lib.hid h
  clear h
  go_enter Try.func16, Try.ntmps16
  go_wp2_with (go_at_call 37; refine (pass_no _ _ _ H.out).mono ?_; rintro e w' ⟨rfl, rfl⟩)
  go_ret2
  exact ⟨rfl, rfl⟩

set_option maxHeartbeats 400000 in
theorem due_no (p : Option Addr) (w : World) (h : NoWatch w p) :
    Calls Try.prog 18 #[.pointer p] w fun e w' => e = .returned (.int .i64 (-1)) ∧ w = w' := by
  rcases h with rfl | ⟨b, rfl, hc⟩
  · go_enter Try.func18, Try.ntmps18
    go_wp2
    go_ret
    exact ⟨rfl, rfl⟩
  · go_enter Try.func18, Try.ntmps18
    go_wp2
    go_ret
    exact ⟨rfl, rfl⟩

set_option maxHeartbeats 400000 in
theorem copy_no (p : Option Addr) (w : World) (h : NoWatch w p) :
    Calls Try.prog 24 #[.pointer p] w fun e w' => e = .returned (.pointer none) ∧ w = w' := by
  rcases h with rfl | ⟨b, rfl, hc⟩
  · go_enter Try.func24, Try.ntmps24
    go_wp2
    go_ret
    exact ⟨rfl, rfl⟩
  · go_enter Try.func24, Try.ntmps24
    go_wp2
    go_ret
    exact ⟨rfl, rfl⟩

set_option maxHeartbeats 400000 in
theorem touch_late (b : Nat) (l n t now m : Int) (o : Bool) (w : World) (h : WatchAt w b l n t o) (hl : 0 ≤ l) (hl' : l ≤ 9223372036854775807) (ht : 0 ≤ t) (htn : t ≤ n) (hn : n ≤ 9223372036854775807) (hw : now ≤ 9223372036854775807) (hm : m = max n now) (hov : ov l m t o = true) :
    Calls Try.prog 17 #[.pointer (some ⟨b, 0, none⟩), .int .i64 now] w fun e w' => e = .returned (.int .i64 8) ∧ Keeps (One b) w w' ∧ WatchAt w' b l m t true := by
  have H := Lib.hid h
  have HM := Lib.hid hm
  have HO := Lib.hid hov
  clear h hm hov
  go_enter Try.func17, Try.ntmps17
  go_wp2_with fail
  refine (pass_ok b l n t now o w H.out hl hl' ht htn hn hw).mono ?_
  rw [← HM.out, HO.out]
  rintro e w1 ⟨rfl, hk, h1⟩
  have c4 := h1.c4
  have H1 := Lib.hid h1
  clear h1
  go_wp2_with fail
  go_ret
  exact ⟨rfl, hk, H1.out⟩

set_option maxHeartbeats 400000 in
theorem touch_ok (b : Nat) (l n t now m : Int) (o : Bool) (w : World) (h : WatchAt w b l n t o) (hl : 0 ≤ l) (hl' : l ≤ 9223372036854775807) (ht : 0 ≤ t) (htn : t ≤ n) (hn : n ≤ 9223372036854775807) (hw : now ≤ 9223372036854775807) (hm : m = max n now) (hov : ov l m t o = false) :
    Calls Try.prog 17 #[.pointer (some ⟨b, 0, none⟩), .int .i64 now] w fun e w' => e = .returned (.int .i64 0) ∧ Keeps (One b) w w' ∧ WatchAt w' b l m m false := by
  have H := Lib.hid h
  have HM := Lib.hid hm
  have HO := Lib.hid hov
  clear h hm hov
  go_enter Try.func17, Try.ntmps17
  go_wp2_with fail
  refine (pass_ok b l n t now o w H.out hl hl' ht htn hn hw).mono ?_
  rw [← HM.out, HO.out]
  rintro e w1 ⟨rfl, hk, h1⟩
  have c4 := h1.c4
  have c2 := h1.c2
  have c3 := h1.c3
  have cf := h1.fr
  have H1 := Lib.hid h1
  clear h1
  go_wp2_with fail
  go_ret
  refine ⟨rfl, hk.set1 _ _, (World.rowIs.set H1.out 3 _).congr fun i hi => ?_⟩
  match i, hi with
  | 0, _ => rfl
  | 1, _ => rfl
  | 2, _ => rfl
  | 3, _ => rfl
  | 4, _ => rfl

set_option maxHeartbeats 400000 in
theorem expired_ok (b : Nat) (l n t now m : Int) (o o' : Bool) (w : World) (h : WatchAt w b l n t o) (hl : 0 ≤ l) (hl' : l ≤ 9223372036854775807) (ht : 0 ≤ t) (htn : t ≤ n) (hn : n ≤ 9223372036854775807) (hw : now ≤ 9223372036854775807) (hm : m = max n now) (hov : ov l m t o = o') :
    Calls Try.prog 16 #[.pointer (some ⟨b, 0, none⟩), .int .i64 now] w fun e w' => e = .returned (.tuple #[.bool o', .int .i64 0]) ∧ Keeps (One b) w w' ∧ WatchAt w' b l m t o' := by
  have H := Lib.hid h
  have HM := Lib.hid hm
  have HO := Lib.hid hov
  clear h hm hov
  go_enter Try.func16, Try.ntmps16
  go_wp2_with fail
  refine (pass_ok b l n t now o w H.out hl hl' ht htn hn hw).mono ?_
  rw [← HM.out, HO.out]
  rintro e w1 ⟨rfl, hk, h1⟩
  have c4 := h1.c4
  have H1 := Lib.hid h1
  clear h1
  go_wp2_with fail
  go_ret2
  exact ⟨rfl, hk, H1.out⟩

theorem drewN_two (w : World) (a b : Nat) : (w.drewN a).drewN b = w.drewN (a + b) := by simp [World.drewN, Nat.add_assoc]

/-- what Due says -/
def dueOf (l t : Int) : Int := if l = 0 then -1 else if 9223372036854775807 - l < t then 9223372036854775807 else t + l

set_option maxHeartbeats 1000000 in
theorem due_ok (b : Nat) (l n t d : Int) (o : Bool) (w : World) (h : WatchAt w b l n t o) (hl : 0 ≤ l) (hl' : l ≤ 9223372036854775807) (ht : 0 ≤ t) (ht' : t ≤ 9223372036854775807) (hd : d = dueOf l t) :
    Calls Try.prog 18 #[.pointer (some ⟨b, 0, none⟩)] w fun e w' => e = .returned (.int .i64 d) ∧ ∃ k, w' = w.drewN k := by
  have c0 := h.c0
  have c1 := h.c1
  have c3 := h.c3
  have HD := Lib.hid hd
  clear h hd
  by_cases h0 : l = 0
  · subst h0
    go_enter Try.func18, Try.ntmps18
    go_wp2
    go_ret
    exact ⟨by rw [HD.out]; rfl, 0, rfl⟩
  · have hb : (l == 0) = false := by simpa using h0
    have h0' : 0 < l := by omega
    have HN := Lib.hid h0
    clear h0
    by_cases h1 : 9223372036854775807 - l < t
    · go_enter Try.func18, Try.ntmps18
      go_wp2
      go_quiet (fail)
      go_wp2
      go_ret
      exact ⟨ret_int (by rw [HD.out]; unfold dueOf; rw [if_neg HN.out, if_pos h1]), _, rfl⟩
    · go_enter Try.func18, Try.ntmps18
      go_wp2
      go_quiet (fail)
      go_wp2
      go_quiet (fail)
      go_wp2
      go_ret
      exact ⟨ret_int (by rw [HD.out]; unfold dueOf; rw [if_neg HN.out, if_neg (by omega)]), _, drewN_two _ _ _⟩

set_option maxHeartbeats 400000 in
theorem wcopy_ok (b : Nat) (l n t : Int) (o : Bool) (w : World) (h : WatchAt w b l n t o) :
    Calls Try.prog 24 #[.pointer (some ⟨b, 0, none⟩)] w fun e w' => ∃ c, e = .returned (.pointer (some ⟨c, 0, none⟩)) ∧ WatchAt w' c l n t o ∧ w.heap.size ≤ c ∧ Below w.heap.size w w' := by
  have c0 := h.c0
  have c1 := h.c1
  have c2 := h.c2
  have c3 := h.c3
  have c4 := h.c4
  have hlt := h.lt
  clear h
  go_enter Try.func24, Try.ntmps24
  go_wp2
  go_ret
  refine ⟨_, rfl, ?_, Nat.le_refl _, (Below.refl _ _).alloc (Nat.le_refl _) _⟩
  exact World.rowIs_alloc w _ _ _ (fun i hi => by match i, hi with | 0, _ => rfl | 1, _ => rfl | 2, _ => rfl | 3, _ => rfl | 4, _ => rfl)
end Go.Proofs.Ytchkipafjnehfaa
