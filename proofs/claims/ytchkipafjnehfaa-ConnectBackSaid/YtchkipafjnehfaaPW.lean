/- connect: the fields of a property are written; nothing is written of a Disconnect. -/
import Derived.Test.YtchkipafjnehfaaJ
import Derived.Deep.CutRange
import Derived.Deep.RegionWith
namespace Go.Proofs.Ytchkipafjnehfaa
set_option linter.unusedVariables false
set_option linter.unusedSimpArgs false
open Go.RowKit

def wv (f : Fab) : Int := if f.wide then 1 else 0

set_option maxRecDepth 100000 in
set_option maxHeartbeats 2000000 in
theorem wide_w (cb ab ty fb : Nat) (F : Nat → Value) (f : Fab) (w : World) (h : Wr w cb ab ty fb F f) :
    Calls Try.prog 65 #[.pointer (some ⟨cb, 0, none⟩), .pointer (some ⟨fb, 0, none⟩)] w fun e w' => e = .returned (.tuple #[]) ∧ Keeps (Two ab fb) w w' ∧ Wr w' cb ab ty fb (putF F 40 1 (wv f)) f := by
  have H0 := Lib.hid h
  obtain ⟨b, hb⟩ : ∃ b, f.wide = b := ⟨_, rfl⟩
  have g5 : w.cell? ⟨fb, 5, none⟩ = some (.bool b) := by rw [← hb]; exact h.fc 5 (by omega)
  have HB := Lib.hid hb
  clear h hb
  have hone : ∀ v : Int, wv f = v → ∀ w1, Keeps (Two ab fb) w w1 ∧ Wr w1 cb ab ty fb (putF F 40 1 v) f → Keeps (Two ab fb) w (w1.setCell ⟨fb, 5, none⟩ (.bool b)) ∧ Wr (w1.setCell ⟨fb, 5, none⟩ (.bool b)) cb ab ty fb (putF F 40 1 (wv f)) f := by
    rintro v hv w1 ⟨k, h1⟩
    rw [hv]
    exact ⟨k.setCell (p := ⟨fb, 5, none⟩) (fun _ => .inr rfl) _, h1.same 5 (.bool b) (by rw [← HB.out]; rfl)⟩
  have HO := Lib.hid hone
  clear hone
  cases b
  · have e : wv f = 0 := by unfold wv; rw [HB.out]; rfl
    have HE := Lib.hid e
    clear e
    go_enter Try.func65, Try.ntmps65
    go_wp2_with fail
    refine (field_wr cb ab ty fb 40 1 0 F f _ H0.out (by omega) (by omega) (by omega) (by omega)).mono ?_
    rintro e w1 ⟨rfl, k1, h1⟩
    have gf := h1.ff 5
    have gg : w1.cell? ⟨fb, 5, none⟩ = some (.bool false) := (h1.fc 5 (by omega)).trans (by rw [← HB.out]; rfl)
    have H1 := Lib.hid h1
    have K1 := Lib.hid k1
    clear h1 k1
    go_wp2_with fail
    refine (must_ok _).mono ?_
    rintro e w' ⟨rfl, rfl⟩
    go_wp2_with fail
    go_end0
    exact ⟨rfl, HO.out 0 HE.out _ ⟨K1.out, H1.out⟩⟩
  · have e : wv f = 1 := by unfold wv; rw [HB.out]; rfl
    have HE := Lib.hid e
    clear e
    go_enter Try.func65, Try.ntmps65
    go_wp2_with fail
    refine (field_wr cb ab ty fb 40 1 1 F f _ H0.out (by omega) (by omega) (by omega) (by omega)).mono ?_
    rintro e w1 ⟨rfl, k1, h1⟩
    have gf := h1.ff 5
    have gg : w1.cell? ⟨fb, 5, none⟩ = some (.bool true) := (h1.fc 5 (by omega)).trans (by rw [← HB.out]; rfl)
    have H1 := Lib.hid h1
    have K1 := Lib.hid k1
    clear h1 k1
    go_wp2_with fail
    refine (must_ok _).mono ?_
    rintro e w' ⟨rfl, rfl⟩
    go_wp2_with fail
    go_end0
    exact ⟨rfl, HO.out 1 HE.out _ ⟨K1.out, H1.out⟩⟩

set_option maxRecDepth 100000 in
set_option maxHeartbeats 2000000 in
theorem prop_w (cb ab ty fb : Nat) (F : Nat → Value) (f : Fab) (w : World) (h : Wr w cb ab ty fb F f) (hok : f.Ok) (ha : alg f = true) :
    Calls Try.prog 56 #[.pointer (some ⟨cb, 0, none⟩), .pointer (some ⟨fb, 0, none⟩)] w fun e w' => e = .returned (.tuple #[]) ∧ Keeps (Two ab fb) w w' ∧ Wr w' cb ab ty fb (putF (putF F 40 1 (wv f)) 44 4 f.offset) f := by
  have H0 := Lib.hid h
  have o1 := hok.offset.1
  have o2 := hok.offset.2
  have HA := Lib.hid fun w => aligned_any f w hok.offset
  have HAG := Lib.hid ha
  clear h hok ha
  go_enter Try.func56, Try.ntmps56
  go_wp2_with fail
  refine (wide_w cb ab ty fb F f _ H0.out).mono ?_
  rintro e w1 ⟨rfl, k1, h1⟩
  have g6 : w1.cell? ⟨fb, 6, none⟩ = some (.int .u32 f.offset) := h1.fc 6 (by omega)
  have H1 := Lib.hid h1
  have K1 := Lib.hid k1
  clear h1 k1
  go_wp2_with fail
  refine (field_wr cb ab ty fb 44 4 f.offset (putF F 40 1 (wv f)) f _ H1.out (by omega) (by omega) (by omega) (by omega)).mono ?_
  rintro e w2 ⟨rfl, k2, h2⟩
  have gg : w2.cell? ⟨fb, 6, none⟩ = some (.int .u32 f.offset) := h2.fc 6 (by omega)
  have gf := h2.ff 6
  have H2 := Lib.hid h2
  have K2 := Lib.hid k2
  have H3 := Lib.hid (h2.same 6 (.int .u32 f.offset) rfl)
  clear h2 k2 g6
  obtain ⟨W3, hW3⟩ : ∃ W3, W3 = w2.setCell ⟨fb, 6, none⟩ (.int .u32 f.offset) := ⟨_, rfl⟩
  have h3 : Wr W3 cb ab ty fb (putF (putF F 40 1 (wv f)) 44 4 f.offset) f := by rw [hW3]; exact H3.out
  have HW3 := Lib.hid hW3
  clear hW3
  go_upto_region 2 with (fail)
  rw [← HW3.out]
  have q0 : W3.cell? ⟨fb, 0, none⟩ = some (.int .u8 f.kind) := h3.fc 0 (by omega)
  have q1 : W3.cell? ⟨fb, 1, none⟩ = some (.int .u16 f.id) := h3.fc 1 (by omega)
  have q2 : W3.cell? ⟨fb, 2, none⟩ = some (.int .u16 f.queue) := h3.fc 2 (by omega)
  have q3 : W3.cell? ⟨fb, 3, none⟩ = some (.int .u16 f.size) := h3.fc 3 (by omega)
  have q4 : W3.cell? ⟨fb, 4, none⟩ = some (.int .u32 f.keep) := h3.fc 4 (by omega)
  have q5 : W3.cell? ⟨fb, 5, none⟩ = some (.bool f.wide) := h3.fc 5 (by omega)
  have q6 : W3.cell? ⟨fb, 6, none⟩ = some (.int .u32 f.offset) := h3.fc 6 (by omega)
  have q7 : W3.cell? ⟨fb, 7, none⟩ = some (.int .u64 f.value) := h3.fc 7 (by omega)
  have q8 : W3.cell? ⟨fb, 8, none⟩ = some (.int .u32 f.length) := h3.fc 8 (by omega)
  have HH3 := Lib.hid h3
  have K3 := Lib.hid (show Keeps (Two ab fb) w W3 by rw [HW3.out]; exact (K1.out.trans K2.out).setCell (p := ⟨fb, 6, none⟩) (fun _ => .inr rfl) _)
  clear h3 gg gf
  go_wp2_with fail
  refine (HA.out W3).mono ?_
  rw [HAG.out]
  rintro e w4 ⟨rfl, hb4⟩
  have kk : Keeps (fun _ => False) W3 w4 := Keeps.of_below hb4
  have H4 := Lib.hid (show Wr w4 cb ab ty fb (putF (putF F 40 1 (wv f)) 44 4 f.offset) f from ⟨kk.cell HH3.out.c0 (fun h => h), kk.cell HH3.out.c2 (fun h => h), kk.rowIs HH3.out.row (fun h => h), kk.rowIs HH3.out.fab (fun h => h), HH3.out.n1, HH3.out.n2, HH3.out.n3⟩)
  have K4 := Lib.hid (K3.out.trans (kk.mono (T := Two ab fb) (fun _ _ h => h.elim)))
  clear q0 q1 q2 q3 q4 q5 q6 q7 q8 hb4 kk
  go_wp2_with fail
  refine (must_ok _).mono ?_
  rintro e w' ⟨rfl, rfl⟩
  go_wp2_with fail
  go_end0
  exact ⟨rfl, K4.out, H4.out⟩

set_option maxRecDepth 100000 in
set_option maxHeartbeats 2000000 in
theorem set_w (cb ab ty fb : Nat) (F : Nat → Value) (f : Fab) (w : World) (h : Wr w cb ab ty fb F f) (hok : f.Ok) (ha : alg f = true) :
    Calls Try.prog 55 #[.pointer (some ⟨cb, 0, none⟩), .pointer (some ⟨fb, 0, none⟩)] w fun e w' => e = .returned (.tuple #[]) ∧ Keeps (Two ab fb) w w' ∧ Wr w' cb ab ty fb (putF (putF (putF F 40 1 (wv f)) 44 4 f.offset) 48 8 f.value) f := by
  have H0 := Lib.hid h
  have HP := Lib.hid (prop_w cb ab ty fb F f w h hok ha)
  have v1 := hok.value.1
  have v2 := hok.value.2
  clear h hok ha
  go_enter Try.func55, Try.ntmps55
  go_wp2_with fail
  refine HP.out.mono ?_
  rintro e w1 ⟨rfl, k1, h1⟩
  have g7 : w1.cell? ⟨fb, 7, none⟩ = some (.int .u64 f.value) := h1.fc 7 (by omega)
  have H1 := Lib.hid h1
  have K1 := Lib.hid k1
  clear h1 k1
  go_wp2_with fail
  refine (field_wr cb ab ty fb 48 8 f.value (putF (putF F 40 1 (wv f)) 44 4 f.offset) f _ H1.out (by omega) (by omega) (by omega) (by omega)).mono ?_
  rintro e w2 ⟨rfl, k2, h2⟩
  have gg : w2.cell? ⟨fb, 7, none⟩ = some (.int .u64 f.value) := h2.fc 7 (by omega)
  have gf := h2.ff 7
  have K2 := Lib.hid k2
  have H3 := Lib.hid (h2.same 7 (.int .u64 f.value) rfl)
  clear h2 k2 g7
  go_wp2_with fail
  go_end0
  exact ⟨rfl, (K1.out.trans K2.out).setCell (p := ⟨fb, 7, none⟩) (fun _ => .inr rfl) _, H3.out⟩

set_option maxHeartbeats 1000000 in
theorem disc_w (cb ab ty fb : Nat) (F : Nat → Value) (f : Fab) (w : World) (h : Wr w cb ab ty fb F f) :
    Calls Try.prog 61 #[.pointer (some ⟨cb, 0, none⟩), .pointer (some ⟨fb, 0, none⟩)] w fun e w' => e = .returned (.tuple #[]) ∧ Keeps (Two ab fb) w w' ∧ Wr w' cb ab ty fb F f := by
  have H0 := Lib.hid h
  clear h
  go_enter Try.func61, Try.ntmps61
  go_wp2_with fail
  go_end0
  exact ⟨rfl, Keeps.refl _ _, H0.out⟩
end Go.Proofs.Ytchkipafjnehfaa
