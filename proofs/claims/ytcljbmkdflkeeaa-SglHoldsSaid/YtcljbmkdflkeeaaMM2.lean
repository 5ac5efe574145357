/- memory: bytes.Equal, Same. -/
import Derived.Test.YtcljbmkdflkeeaaMM
import Derived.Test.YtcljbmkdflkeeaaR2
namespace Go.Proofs.Ytcljbmkdflkeeaa
set_option linter.unusedVariables false
set_option linter.unusedSimpArgs false
open Go.RowKit

set_option maxHeartbeats 1000000 in
theorem equal_any (a a' : Addr) (n c n' c' : Nat) (f f' : Nat → Int) (w : World) (h : ∀ j, j < n → w.cell? (a.add j) = some (.int .u8 (f j))) (h' : ∀ j, j < n' → w.cell? (a'.add j) = some (.int .u8 (f' j))) :
   Calls Try.prog 62 #[.slice (some a) n c, .slice (some a') n' c'] w fun e w' => e = .returned (.bool ((strOf n f).toList == (strOf n' f').toList)) ∧ w = w' := by
  have e1 := conv_str w a n c f h
  have e2 := conv_str w a' n' c' f' h'
  clear h h'
  generalize strOf n f = s at *
  generalize strOf n' f' = s' at *
  go_enter Try.func62, Try.ntmps62
  go_wp2_with fail
  go_ret
  exact ⟨rfl, rfl⟩

section
variable (p q : Option Addr) (w : World)
set_option maxHeartbeats 1000000 in
theorem same_no_no (hp : NoMem w p) (hq : NoMem w q) : Calls Try.prog 34 #[.pointer p, .pointer q] w fun e w' => e = .returned (.bool true) ∧ w = w' := by
  have HP := Lib.hid hp
  have HQ := Lib.hid hq
  clear hp hq
  go_enter Try.func34, Try.ntmps34
  go_wp2_with fail
  refine (none_no p _ HP.out).mono ?_
  rintro e w' ⟨rfl, rfl⟩
  go_wp2_with fail
  refine (none_no p _ HP.out).mono ?_
  rintro e w' ⟨rfl, rfl⟩
  go_wp2_with fail
  refine (none_no q _ HQ.out).mono ?_
  rintro e w' ⟨rfl, rfl⟩
  go_wp2_with fail
  go_ret
  exact ⟨rfl, rfl⟩
set_option maxHeartbeats 1000000 in
theorem same_no_ok (hp : NoMem w p) (b B size : Nat) (f : Nat → Int) (L : List (Nat × Nat)) (h : MemAt w b B size f L) : Calls Try.prog 34 #[.pointer p, .pointer (some ⟨b, 0, none⟩)] w fun e w' => e = .returned (.bool false) ∧ w = w' := by
  obtain ⟨cap, hsl, -, -⟩ := h.slice
  have HP := Lib.hid hp
  clear hp h
  go_enter Try.func34, Try.ntmps34
  go_wp2_with fail
  refine (none_no p _ HP.out).mono ?_
  rintro e w' ⟨rfl, rfl⟩
  go_wp2_with fail
  refine (none_no p _ HP.out).mono ?_
  rintro e w' ⟨rfl, rfl⟩
  go_wp2_with fail
  refine (none_some _ _ _ _ _ hsl).mono ?_
  rintro e w' ⟨rfl, rfl⟩
  go_wp2_with fail
  go_ret
  exact ⟨rfl, rfl⟩
set_option maxHeartbeats 1000000 in
theorem same_ok_no (hq : NoMem w q) (b B size : Nat) (f : Nat → Int) (L : List (Nat × Nat)) (h : MemAt w b B size f L) : Calls Try.prog 34 #[.pointer (some ⟨b, 0, none⟩), .pointer q] w fun e w' => e = .returned (.bool false) ∧ w = w' := by
  obtain ⟨cap, hsl, -, -⟩ := h.slice
  have HQ := Lib.hid hq
  clear hq h
  go_enter Try.func34, Try.ntmps34
  go_wp2_with fail
  refine (none_some _ _ _ _ _ hsl).mono ?_
  rintro e w' ⟨rfl, rfl⟩
  go_wp2_with fail
  refine (none_no q _ HQ.out).mono ?_
  rintro e w' ⟨rfl, rfl⟩
  go_wp2_with fail
  refine (none_some _ _ _ _ _ hsl).mono ?_
  rintro e w' ⟨rfl, rfl⟩
  go_wp2_with fail
  go_ret
  exact ⟨rfl, rfl⟩
end

set_option maxHeartbeats 1000000 in
theorem same_ok_ok (b B size b' B' size' : Nat) (f f' : Nat → Int) (L L' : List (Nat × Nat)) (w : World) (h : MemAt w b B size f L) (h' : MemAt w b' B' size' f' L') :
   Calls Try.prog 34 #[.pointer (some ⟨b, 0, none⟩), .pointer (some ⟨b', 0, none⟩)] w fun e w' => e = .returned (.bool ((strOf size f).toList == (strOf size' f').toList)) ∧ Below w.heap.size w w' := by
  obtain ⟨cap, hsl, -, -⟩ := h.slice
  obtain ⟨cap', hsl', -, -⟩ := h'.slice
  have HC := Lib.hid h.cells
  have HC' := Lib.hid h'.cells
  have hQ1 : ∀ p : InC (Below w.heap.size w), p.w.cell? ⟨b, 769, none⟩ = some (.slice (some ⟨B, 0, none⟩) size cap) := fun p => (p.ok.cell (World.block_lt_of_cell? _ _ hsl)).trans hsl
  have hQ2 : ∀ p : InC (Below w.heap.size w), p.w.cell? ⟨b', 769, none⟩ = some (.slice (some ⟨B', 0, none⟩) size' cap') := fun p => (p.ok.cell (World.block_lt_of_cell? _ _ hsl')).trans hsl'
  have HE : Hid (∀ p : InC (Below w.heap.size w), Calls Try.prog 62 #[.slice (some ⟨B, 0, none⟩) size cap, .slice (some ⟨B', 0, none⟩) size' cap'] p.w fun e w' => e = .returned (.bool ((strOf size f).toList == (strOf size' f').toList)) ∧ Below w.heap.size w w') := by
    refine Lib.hid fun p => (equal_any _ _ _ _ _ _ f f' p.w (fun j hj => ?_) (fun j hj => ?_)).mono ?_
    · have := HC.out j hj
      rw [Addr.add_mid, Nat.zero_add]; exact (p.ok.cell (World.block_lt_of_cell? _ _ this)).trans this
    · have := HC'.out j hj
      rw [Addr.add_mid, Nat.zero_add]; exact (p.ok.cell (World.block_lt_of_cell? _ _ this)).trans this
    · rintro e w' ⟨rfl, rfl⟩
      exact ⟨rfl, p.ok⟩
  have hne : Nonempty (InC (Below w.heap.size w)) := ⟨⟨w, Below.refl _ _⟩⟩
  generalize hd : ((strOf size f).toList == (strOf size' f').toList) = d at *
  clear h h' HC HC' hd
  go_enter Try.func34, Try.ntmps34
  go_wp2_with fail
  refine (none_some _ _ _ _ _ hsl).mono ?_
  rintro e w' ⟨rfl, rfl⟩
  go_wp2_with fail
  refine (none_some _ _ _ _ _ hsl').mono ?_
  rintro e w' ⟨rfl, rfl⟩
  go_wp2_with fail
  refine wp_quiet_in (Below w.heap.size w) (Below.refl _ _).drew (by kernel_rfl) (by kernel_rfl) ?_
  repeat (go_big_quiet_step (with_reducible exact calls_in (HE.out _)))
  refine wpQuiet_nil ?_
  intro _ hw'
  obtain ⟨p, hw''⟩ := hw'
  subst hw''
  go_wp2_with fail
  go_ret
  exact ⟨rfl, p.ok⟩
end Go.Proofs.Ytcljbmkdflkeeaa
