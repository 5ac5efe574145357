/- connect: the fields of a property are read. -/
import Derived.Test.YtchkipafjnehfaaDD
import Derived.Deep.CutRange
namespace Go.Proofs.Ytchkipafjnehfaa
set_option linter.unusedVariables false
set_option linter.unusedSimpArgs false
open Go.RowKit

def wideB (B : Nat → Int) : Bool := le B 40 1 == 1
def WideC (B : Nat → Int) : Prop := Zer B 5 40 ∧ le B 40 1 ≤ 1
def PropC (B : Nat → Int) (K I : Int) : Prop := WideC B ∧ Zer B 41 44 ∧ alg ⟨K, I, 0, 0, 0, wideB B, le B 44 4, 0, 0⟩ = true

set_option maxRecDepth 100000 in
set_option maxHeartbeats 4000000 in
theorem wide_r (cb ab fb : Nat) (B : Nat → Int) (K I : Int) (w : World) (hB : ∀ j, 0 ≤ B j ∧ B j ≤ 255) (h : Rdr w cb ab fb 5 B ⟨K, I, 0, 0, 0, false, 0, 0, 0⟩) :
    Calls Try.prog 65 #[.pointer (some ⟨cb, 0, none⟩), .pointer (some ⟨fb, 0, none⟩)] w (ReadPost cb ab fb 41 B (WideC B) ⟨K, I, 0, 0, 0, wideB B, 0, 0, 0⟩ w) := by
  have H0 := Lib.hid h
  have HB := Lib.hid hB
  have g5 : w.cell? ⟨fb, 5, none⟩ = some (.bool false) := h.fc 5 (by omega)
  clear h hB
  go_enter Try.func65, Try.ntmps65
  go_wp2_with fail
  by_cases hz : Zer B 5 40
  · have HZ := Lib.hid hz
    clear hz
    refine (field_good H0.out 40 1 0 HB.out (by omega) (by omega) (by omega) HZ.out).mono ?_
    rintro e w1 ⟨rfl, k1, h1⟩
    have gg : w1.cell? ⟨fb, 5, none⟩ = some (.bool false) := h1.fc 5 (by omega)
    have gf := h1.ff 5
    have H1 := Lib.hid h1
    have K1 := Lib.hid k1
    clear h1 k1 g5
    cases hd : decide (le B 40 1 ≤ 1)
    · have HD := Lib.hid (of_decide_eq_false hd)
      go_wp2_with fail
      refine (must_bad _).mono ?_
      rintro e w' ⟨rfl, rfl⟩
      exact ⟨rfl, K1.out.two1, .inr ⟨rfl, fun h => by have h1 := h.2; have h2 := HD.out; omega, _, H1.out.fab⟩⟩
    · have HD := Lib.hid (of_decide_eq_true hd)
      go_wp2_with fail
      refine (must_ok _).mono ?_
      rintro e w' ⟨rfl, rfl⟩
      go_wp2_with fail
      go_end0
      exact ⟨K1.out.two1.trans ((Keeps.refl (One fb) w1).set1 5 _).two2, .inl ⟨rfl, ⟨HZ.out, HD.out⟩, H1.out.put 5 _ (fun j hj => by unfold fcell wideB; (repeat' split) <;> first | rfl | omega)⟩⟩
  · have HZ := Lib.hid hz
    clear hz
    refine (field_bad H0.out 40 1 0 HB.out (by omega) (by omega) (by omega) HZ.out).mono ?_
    rintro e w1 ⟨rfl, k1, h1⟩
    exact ⟨rfl, k1.two1, .inr ⟨rfl, fun h => HZ.out h.1, _, h1⟩⟩

theorem Rdr.below {w w' : World} {cb ab fb p : Nat} {B : Nat → Int} {f : Fab} (h : Rdr w cb ab fb p B f) (hb : Below w.heap.size w w') : Rdr w' cb ab fb p B f :=
  have k : Keeps (fun _ => False) w w' := Keeps.of_below hb
  ⟨k.rowIs h.cur (fun h => h), k.rowIs h.row (fun h => h), k.rowIs h.fab (fun h => h), h.n1, h.n2, h.n3⟩
theorem Keeps.anyBelow {S : Nat → Prop} {a b : World} (hb : Below a.heap.size a b) : Keeps S a b := (Keeps.of_below (S := fun _ => False) hb).mono (T := S) (fun _ _ h => h.elim)

set_option maxRecDepth 100000 in
set_option maxHeartbeats 4000000 in
theorem prop_r (cb ab fb : Nat) (B : Nat → Int) (K I : Int) (w : World) (hB : ∀ j, 0 ≤ B j ∧ B j ≤ 255) (h : Rdr w cb ab fb 5 B ⟨K, I, 0, 0, 0, false, 0, 0, 0⟩) :
    Calls Try.prog 56 #[.pointer (some ⟨cb, 0, none⟩), .pointer (some ⟨fb, 0, none⟩)] w (ReadPost cb ab fb 48 B (PropC B K I) ⟨K, I, 0, 0, 0, wideB B, le B 44 4, 0, 0⟩ w) := by
  have HWI := Lib.hid (wide_r cb ab fb B K I w hB h)
  have HB := Lib.hid hB
  have ew : IntKind.u32.wrap (le B 44 4) = le B 44 4 := IntWalk.u32_in _ (le4 hB 44)
  have HAL := Lib.hid fun w => aligned_any ⟨K, I, 0, 0, 0, wideB B, le B 44 4, 0, 0⟩ w (le4 hB 44)
  clear h hB
  go_enter Try.func56, Try.ntmps56
  go_wp2_with fail
  refine HWI.out.mono ?_
  rintro e w1 ⟨k1, h⟩
  rcases h with ⟨rfl, hC, h1⟩ | ⟨rfl, hC, g, hg⟩
  case inr => exact ⟨rfl, k1, .inr ⟨rfl, fun h => hC h.1, g, hg⟩⟩
  have HCW := Lib.hid hC
  have K1 := Lib.hid k1
  have H1 := Lib.hid h1
  have g6 : w1.cell? ⟨fb, 6, none⟩ = some (.int .u32 0) := h1.fc 6 (by omega)
  clear hC k1 h1
  go_wp2_with fail
  by_cases hz : Zer B 41 44
  case neg =>
    have HZ := Lib.hid hz
    clear hz
    refine (field_bad H1.out 44 4 0 HB.out (by omega) (by omega) (by omega) HZ.out).mono ?_
    rintro e w2 ⟨rfl, k2, h2⟩
    exact ⟨rfl, K1.out.trans k2.two1, .inr ⟨rfl, fun h => HZ.out h.2.1, _, h2⟩⟩
  have HZ := Lib.hid hz
  clear hz
  refine (field_good H1.out 44 4 0 HB.out (by omega) (by omega) (by omega) HZ.out).mono ?_
  rintro e w2 ⟨rfl, k2, h2⟩
  have gg : w2.cell? ⟨fb, 6, none⟩ = some (.int .u32 0) := h2.fc 6 (by omega)
  have gf := h2.ff 6
  obtain ⟨W3, hW3⟩ : ∃ W3, W3 = w2.setCell ⟨fb, 6, none⟩ (.int .u32 (le B 44 4)) := ⟨_, rfl⟩
  have h3 : Rdr W3 cb ab fb 48 B ⟨K, I, 0, 0, 0, wideB B, le B 44 4, 0, 0⟩ := by
    rw [hW3]
    exact h2.put 6 _ (fun j hj => by unfold fcell; (repeat' split) <;> first | rfl | omega)
  have K3 := Lib.hid (show Keeps (Two cb fb) w W3 by rw [hW3]; exact (K1.out.trans k2.two1).trans ((Keeps.refl (One fb) w2).set1 6 _).two2)
  have HW3 := Lib.hid hW3
  clear hW3 h2 k2 g6
  go_upto_region 2 with (fail)
  rw [← HW3.out]
  clear gg gf
  have q0 : W3.cell? ⟨fb, 0, none⟩ = some (.int .u8 K) := h3.fc 0 (by omega)
  have q1 : W3.cell? ⟨fb, 1, none⟩ = some (.int .u16 I) := h3.fc 1 (by omega)
  have q2 : W3.cell? ⟨fb, 2, none⟩ = some (.int .u16 0) := h3.fc 2 (by omega)
  have q3 : W3.cell? ⟨fb, 3, none⟩ = some (.int .u16 0) := h3.fc 3 (by omega)
  have q4 : W3.cell? ⟨fb, 4, none⟩ = some (.int .u32 0) := h3.fc 4 (by omega)
  have q5 : W3.cell? ⟨fb, 5, none⟩ = some (.bool (wideB B)) := h3.fc 5 (by omega)
  have q6 : W3.cell? ⟨fb, 6, none⟩ = some (.int .u32 (le B 44 4)) := h3.fc 6 (by omega)
  have q7 : W3.cell? ⟨fb, 7, none⟩ = some (.int .u64 0) := h3.fc 7 (by omega)
  have q8 : W3.cell? ⟨fb, 8, none⟩ = some (.int .u32 0) := h3.fc 8 (by omega)
  have H3 := Lib.hid h3
  clear h3
  go_wp2_with fail
  refine (HAL.out W3).mono ?_
  rintro e w4 ⟨rfl, hb4⟩
  have H4 := Lib.hid (H3.out.below hb4)
  have K4 := Lib.hid (K3.out.trans (Keeps.anyBelow hb4))
  clear hb4 q0 q1 q2 q3 q4 q5 q6 q7 q8
  cases hal : alg ⟨K, I, 0, 0, 0, wideB B, le B 44 4, 0, 0⟩
  · have HA := Lib.hid hal
    clear hal
    go_wp2_with fail
    refine (must_bad _).mono ?_
    rintro e w' ⟨rfl, rfl⟩
    exact ⟨rfl, K4.out, .inr ⟨rfl, fun h => by have := h.2.2; rw [HA.out] at this; exact absurd this (by decide), _, H4.out.fab⟩⟩
  · have HA := Lib.hid hal
    clear hal
    go_wp2_with fail
    refine (must_ok _).mono ?_
    rintro e w' ⟨rfl, rfl⟩
    go_wp2_with fail
    go_end0
    exact ⟨K4.out, .inl ⟨rfl, ⟨HCW.out, HZ.out, HA.out⟩, H4.out⟩⟩

set_option maxRecDepth 100000 in
set_option maxHeartbeats 4000000 in
theorem set_r (cb ab fb : Nat) (B : Nat → Int) (K I : Int) (w : World) (hB : ∀ j, 0 ≤ B j ∧ B j ≤ 255) (h : Rdr w cb ab fb 5 B ⟨K, I, 0, 0, 0, false, 0, 0, 0⟩) :
    Calls Try.prog 55 #[.pointer (some ⟨cb, 0, none⟩), .pointer (some ⟨fb, 0, none⟩)] w (ReadPost cb ab fb 56 B (PropC B K I) ⟨K, I, 0, 0, 0, wideB B, le B 44 4, le B 48 8, 0⟩ w) := by
  have HPR := Lib.hid (prop_r cb ab fb B K I w hB h)
  have HB := Lib.hid hB
  clear h hB
  go_enter Try.func55, Try.ntmps55
  go_wp2_with fail
  refine HPR.out.mono ?_
  rintro e w1 ⟨k1, h⟩
  rcases h with ⟨rfl, hC, h1⟩ | ⟨rfl, hC, g, hg⟩
  case inr => exact ⟨rfl, k1, .inr ⟨rfl, hC, g, hg⟩⟩
  have HCW := Lib.hid hC
  have K1 := Lib.hid k1
  have H1 := Lib.hid h1
  have g7 : w1.cell? ⟨fb, 7, none⟩ = some (.int .u64 0) := h1.fc 7 (by omega)
  clear hC k1 h1
  go_wp2_with fail
  refine (field_good H1.out 48 8 0 HB.out (by omega) (by omega) (by omega) (fun j h1 h2 => by omega)).mono ?_
  rintro e w2 ⟨rfl, k2, h2⟩
  have gg : w2.cell? ⟨fb, 7, none⟩ = some (.int .u64 0) := h2.fc 7 (by omega)
  have gf := h2.ff 7
  have H2 := Lib.hid h2
  have K2 := Lib.hid k2
  clear h2 k2 g7
  go_wp2_with fail
  go_end0
  exact ⟨(K1.out.trans K2.out.two1).trans ((Keeps.refl (One fb) w2).set1 7 _).two2, .inl ⟨rfl, HCW.out, H2.out.put 7 _ (fun j hj => by unfold fcell; (repeat' split) <;> first | rfl | omega)⟩⟩
end Go.Proofs.Ytchkipafjnehfaa
