/- connect: the fields of the kinds are read. -/
import Derived.Test.YtchkipafjnehfaaDC
namespace Go.Proofs.Ytchkipafjnehfaa
set_option linter.unusedVariables false
set_option linter.unusedSimpArgs false
open Go.RowKit

/-- A cursor that reads block ab, and the command at fb. -/
structure Rdr (w : World) (cb ab fb p : Nat) (B : Nat → Int) (f : Fab) : Prop where
  cur : w.rowIs cb 84 3 (ccell ab p)
  row : w.rowIs ab 43 64 (bB B)
  fab : FabAt w fb f
  n1 : cb ≠ ab
  n2 : cb ≠ fb
  n3 : ab ≠ fb

theorem Rdr.fc {w : World} {cb ab fb p : Nat} {B : Nat → Int} {f : Fab} (h : Rdr w cb ab fb p B f) (i : Nat) (hi : i < 9) : w.cell? ⟨fb, i, none⟩ = some (fcell f i) := World.rowIs.cell h.fab hi
theorem Rdr.ff {w : World} {cb ab fb p : Nat} {B : Nat → Int} {f : Fab} (h : Rdr w cb ab fb p B f) (i : Nat) : w.frozen? ⟨fb, i, none⟩ = false := World.rowIs.frozen h.fab i
theorem FabAt.put {w : World} {fb : Nat} {f g : Fab} (h : FabAt w fb f) (i : Nat) (u : Value) (hu : ∀ j, j < 9 → (if j = i then u else fcell f j) = fcell g j) : FabAt (w.setCell ⟨fb, i, none⟩ u) fb g :=
  (World.rowIs.set h i u).congr fun j hj => hu j hj
theorem Rdr.put {w : World} {cb ab fb p : Nat} {B : Nat → Int} {f g : Fab} (h : Rdr w cb ab fb p B f) (i : Nat) (u : Value) (hu : ∀ j, j < 9 → (if j = i then u else fcell f j) = fcell g j) : Rdr (w.setCell ⟨fb, i, none⟩ u) cb ab fb p B g :=
  have k : Keeps (One fb) w (w.setCell ⟨fb, i, none⟩ u) := (Keeps.refl _ _).set1 _ _
  ⟨k.rowIs h.cur (fun e => h.n2 e), k.rowIs h.row (fun e => h.n3 e), h.fab.put i u hu, h.n1, h.n2, h.n3⟩

theorem field_good {w : World} {cb ab fb p : Nat} {B : Nat → Int} {f : Fab} (h : Rdr w cb ab fb p B f) (q n : Nat) (v : Int) (hB : ∀ j, 0 ≤ B j ∧ B j ≤ 255) (hp : p ≤ q) (hq : q + n ≤ 64) (hn : n ≤ 8) (hz : Zer B p q) :
    Calls Try.prog 38 #[.pointer (some ⟨cb, 0, none⟩), .int .i64 q, .int .i64 n, .int .u64 v] w fun e w' => e = .returned (.int .u64 (le B q n)) ∧ Keeps (One cb) w w' ∧ Rdr w' cb ab fb (q + n) B f := by
  refine (field_r cb ab p q n v B w hB h.cur h.row hp hq hn h.n1).mono ?_
  rintro e w' ⟨hk, h1⟩
  rcases h1 with ⟨rfl, -, hc⟩ | ⟨-, h1⟩
  · exact ⟨rfl, hk, hc, hk.rowIs h.row (fun e => h.n1 (Eq.symm e)), hk.rowIs h.fab (fun e => h.n2 (Eq.symm e)), h.n1, h.n2, h.n3⟩
  · exact absurd hz h1
theorem field_bad {w : World} {cb ab fb p : Nat} {B : Nat → Int} {f : Fab} (h : Rdr w cb ab fb p B f) (q n : Nat) (v : Int) (hB : ∀ j, 0 ≤ B j ∧ B j ≤ 255) (hp : p ≤ q) (hq : q + n ≤ 64) (hn : n ≤ 8) (hz : ¬ Zer B p q) :
    Calls Try.prog 38 #[.pointer (some ⟨cb, 0, none⟩), .int .i64 q, .int .i64 n, .int .u64 v] w fun e w' => e = .panicked [fmtP] ∧ Keeps (One cb) w w' ∧ FabAt w' fb f := by
  refine (field_r cb ab p q n v B w hB h.cur h.row hp hq hn h.n1).mono ?_
  rintro e w' ⟨hk, h1⟩
  rcases h1 with ⟨-, h1, -⟩ | ⟨rfl, -⟩
  · exact absurd h1 hz
  · exact ⟨rfl, hk, hk.rowIs h.fab (fun e => h.n2 (Eq.symm e))⟩

theorem le1 {B : Nat → Int} (hB : ∀ j, 0 ≤ B j ∧ B j ≤ 255) (q : Nat) : 0 ≤ le B q 1 ∧ le B q 1 ≤ 255 := by have h := le_bd hB q 1; simp at h; omega
theorem le2 {B : Nat → Int} (hB : ∀ j, 0 ≤ B j ∧ B j ≤ 255) (q : Nat) : 0 ≤ le B q 2 ∧ le B q 2 ≤ 65535 := by have h := le_bd hB q 2; simp at h; omega
theorem le4 {B : Nat → Int} (hB : ∀ j, 0 ≤ B j ∧ B j ≤ 255) (q : Nat) : 0 ≤ le B q 4 ∧ le B q 4 ≤ 4294967295 := by have h := le_bd hB q 4; simp at h; omega
theorem le8 {B : Nat → Int} (hB : ∀ j, 0 ≤ B j ∧ B j ≤ 255) (q : Nat) : 0 ≤ le B q 8 ∧ le B q 8 ≤ 18446744073709551615 := by have h := le_bd hB q 8; simp at h; omega

/-- How the reading of a kind's fields ends. -/
def ReadPost (cb ab fb p : Nat) (B : Nat → Int) (C : Prop) (f : Fab) (w : World) (e : Ending) (w' : World) : Prop :=
  Keeps (Two cb fb) w w' ∧ ((e = .returned (.tuple #[]) ∧ C ∧ Rdr w' cb ab fb p B f) ∨ (e = .panicked [fmtP] ∧ ¬ C ∧ ∃ g, FabAt w' fb g))

set_option maxHeartbeats 1000000 in
theorem disc_r (cb ab fb p : Nat) (B : Nat → Int) (f : Fab) (w : World) (h : Rdr w cb ab fb p B f) :
    Calls Try.prog 61 #[.pointer (some ⟨cb, 0, none⟩), .pointer (some ⟨fb, 0, none⟩)] w (ReadPost cb ab fb p B True f w) := by
  have H0 := Lib.hid h
  clear h
  go_enter Try.func61, Try.ntmps61
  go_wp2_with fail
  go_end0
  exact ⟨Keeps.refl _ _, .inl ⟨rfl, trivial, H0.out⟩⟩

set_option maxRecDepth 100000 in
set_option maxHeartbeats 2000000 in
theorem auth_r (cb ab fb : Nat) (B : Nat → Int) (K I : Int) (w : World) (hB : ∀ j, 0 ≤ B j ∧ B j ≤ 255) (h : Rdr w cb ab fb 5 B ⟨K, I, 0, 0, 0, false, 0, 0, 0⟩) :
    Calls Try.prog 53 #[.pointer (some ⟨cb, 0, none⟩), .pointer (some ⟨fb, 0, none⟩)] w (ReadPost cb ab fb 48 B (Zer B 5 44) ⟨K, I, 0, 0, 0, false, 0, 0, le B 44 4⟩ w) := by
  have H0 := Lib.hid h
  have HB := Lib.hid hB
  have g8 : w.cell? ⟨fb, 8, none⟩ = some (.int .u32 0) := h.fc 8 (by omega)
  have ew : IntKind.u32.wrap (le B 44 4) = le B 44 4 := IntWalk.u32_in _ (le4 hB 44)
  clear h hB
  go_enter Try.func53, Try.ntmps53
  go_wp2_with fail
  by_cases hz : Zer B 5 44
  · have HZ := Lib.hid hz
    clear hz
    refine (field_good H0.out 44 4 0 HB.out (by omega) (by omega) (by omega) HZ.out).mono ?_
    rintro e w1 ⟨rfl, k1, h1⟩
    have gg : w1.cell? ⟨fb, 8, none⟩ = some (.int .u32 0) := h1.fc 8 (by omega)
    have gf := h1.ff 8
    have H1 := Lib.hid h1
    have K1 := Lib.hid k1
    clear h1 k1 g8
    go_wp2_with fail
    go_end0
    exact ⟨K1.out.two1.trans ((Keeps.refl (One fb) w1).set1 8 _).two2, .inl ⟨rfl, HZ.out, H1.out.put 8 _ (fun j hj => by unfold fcell; (repeat' split) <;> first | rfl | omega)⟩⟩
  · have HZ := Lib.hid hz
    clear hz
    refine (field_bad H0.out 44 4 0 HB.out (by omega) (by omega) (by omega) HZ.out).mono ?_
    rintro e w1 ⟨rfl, k1, h1⟩
    exact ⟨rfl, k1.two1, .inr ⟨rfl, HZ.out, _, h1⟩⟩

set_option maxRecDepth 100000 in
set_option maxHeartbeats 4000000 in
theorem conn_r (cb ab fb : Nat) (B : Nat → Int) (K I : Int) (w : World) (hB : ∀ j, 0 ≤ B j ∧ B j ≤ 255) (h : Rdr w cb ab fb 5 B ⟨K, I, 0, 0, 0, false, 0, 0, 0⟩) :
    Calls Try.prog 59 #[.pointer (some ⟨cb, 0, none⟩), .pointer (some ⟨fb, 0, none⟩)] w (ReadPost cb ab fb 52 B (Zer B 5 42 ∧ Zer B 46 48) ⟨K, I, le B 42 2, le B 44 2, le B 48 4, false, 0, 0, 0⟩ w) := by
  have H0 := Lib.hid h
  have HB := Lib.hid hB
  have ew2 : IntKind.u16.wrap (le B 42 2) = le B 42 2 := IntWalk.u16_in _ (le2 hB 42)
  have ew3 : IntKind.u16.wrap (le B 44 2) = le B 44 2 := IntWalk.u16_in _ (le2 hB 44)
  have ew4 : IntKind.u32.wrap (le B 48 4) = le B 48 4 := IntWalk.u32_in _ (le4 hB 48)
  have g2 : w.cell? ⟨fb, 2, none⟩ = some (.int .u16 0) := h.fc 2 (by omega)
  clear h hB
  go_enter Try.func59, Try.ntmps59
  go_wp2_with fail
  by_cases hz0 : Zer B 5 42
  · have HZ0 := Lib.hid hz0
    clear hz0
    refine (field_good H0.out 42 2 0 HB.out (by omega) (by omega) (by omega) HZ0.out).mono ?_
    rintro e v0 ⟨rfl, k0, h0⟩
    have gg0 : v0.cell? ⟨fb, 2, none⟩ = some (.int .u16 0) := h0.fc 2 (by omega)
    have gf0 := h0.ff 2
    have gn0 : v0.cell? ⟨fb, 3, none⟩ = some (.int .u16 0) := h0.fc 3 (by omega)
    have HP0 := Lib.hid (h0.put (g := ⟨K, I, le B 42 2, 0, 0, false, 0, 0, 0⟩) 2 (.int .u16 (le B 42 2)) (fun j hj => by unfold fcell; (repeat' split) <;> first | rfl | omega))
    have K0 := Lib.hid ((k0.two1 (c := fb) |>.trans ((Keeps.refl (One fb) v0).set1 2 (.int .u16 (le B 42 2))).two2))
    clear h0 k0 g2
    go_wp2_with fail
    clear gg0 gf0 gn0
    have HZ1 := Lib.hid (show Zer B 44 44 from fun j h1 h2 => by omega)
    refine (field_good HP0.out 44 2 0 HB.out (by omega) (by omega) (by omega) HZ1.out).mono ?_
    rintro e v1 ⟨rfl, k1, h1⟩
    have gg1 : v1.cell? ⟨fb, 3, none⟩ = some (.int .u16 0) := h1.fc 3 (by omega)
    have gf1 := h1.ff 3
    have gn1 : v1.cell? ⟨fb, 4, none⟩ = some (.int .u32 0) := h1.fc 4 (by omega)
    have HP1 := Lib.hid (h1.put (g := ⟨K, I, le B 42 2, le B 44 2, 0, false, 0, 0, 0⟩) 3 (.int .u16 (le B 44 2)) (fun j hj => by unfold fcell; (repeat' split) <;> first | rfl | omega))
    have K1 := Lib.hid (K0.out.trans (k1.two1 (c := fb) |>.trans ((Keeps.refl (One fb) v1).set1 3 (.int .u16 (le B 44 2))).two2))
    clear h1 k1
    go_wp2_with fail
    clear gg1 gf1 gn1
    by_cases hz2 : Zer B 46 48
    · have HZ2 := Lib.hid hz2
      clear hz2
      refine (field_good HP1.out 48 4 0 HB.out (by omega) (by omega) (by omega) HZ2.out).mono ?_
      rintro e v2 ⟨rfl, k2, h2⟩
      have gg2 : v2.cell? ⟨fb, 4, none⟩ = some (.int .u32 0) := h2.fc 4 (by omega)
      have gf2 := h2.ff 4
      have HP2 := Lib.hid (h2.put (g := ⟨K, I, le B 42 2, le B 44 2, le B 48 4, false, 0, 0, 0⟩) 4 (.int .u32 (le B 48 4)) (fun j hj => by unfold fcell; (repeat' split) <;> first | rfl | omega))
      have K2 := Lib.hid (K1.out.trans (k2.two1 (c := fb) |>.trans ((Keeps.refl (One fb) v2).set1 4 (.int .u32 (le B 48 4))).two2))
      clear h2 k2
      go_wp2_with fail
      go_end0
      exact ⟨K2.out, .inl ⟨rfl, ⟨HZ0.out, HZ2.out⟩, HP2.out⟩⟩
    · have HZ2 := Lib.hid hz2
      clear hz2
      refine (field_bad HP1.out 48 4 0 HB.out (by omega) (by omega) (by omega) HZ2.out).mono ?_
      rintro e w9 ⟨rfl, k9, h9⟩
      exact ⟨rfl, K1.out.trans k9.two1, .inr ⟨rfl, fun h => HZ2.out h.2, _, h9⟩⟩
  · have HZ0 := Lib.hid hz0
    clear hz0
    refine (field_bad H0.out 42 2 0 HB.out (by omega) (by omega) (by omega) HZ0.out).mono ?_
    rintro e w9 ⟨rfl, k9, h9⟩
    exact ⟨rfl, k9.two1, .inr ⟨rfl, fun h => HZ0.out h.1, _, h9⟩⟩
end Go.Proofs.Ytchkipafjnehfaa
