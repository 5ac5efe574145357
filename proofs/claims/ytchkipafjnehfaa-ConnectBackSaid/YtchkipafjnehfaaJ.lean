/- connect: the fields of the kinds are written. -/
import Derived.Test.YtchkipafjnehfaaI
namespace Go.Proofs.Ytchkipafjnehfaa
set_option linter.unusedVariables false
set_option linter.unusedSimpArgs false
open Go.RowKit

/-- The cells of a command. -/
def fcell (f : Fab) : Nat → Value := fun i => if i = 0 then .int .u8 f.kind else if i = 1 then .int .u16 f.id else if i = 2 then .int .u16 f.queue else if i = 3 then .int .u16 f.size else if i = 4 then .int .u32 f.keep else if i = 5 then .bool f.wide
  else if i = 6 then .int .u32 f.offset else if i = 7 then .int .u64 f.value else .int .u32 f.length
/-- Block b is a command. -/
def FabAt (w : World) (b : Nat) (f : Fab) : Prop := w.rowIs b 42 9 (fcell f)

/-- A cursor that writes into block ab, and the command at fb. -/
structure Wr (w : World) (cb ab ty fb : Nat) (F : Nat → Value) (f : Fab) : Prop where
  c0 : w.cell? ⟨cb, 0, none⟩ = some (.pointer (some ⟨ab, 0, none⟩))
  c2 : w.cell? ⟨cb, 2, none⟩ = some (.bool false)
  row : w.rowIs ab ty 64 F
  fab : FabAt w fb f
  n1 : cb ≠ ab
  n2 : cb ≠ fb
  n3 : ab ≠ fb

theorem Wr.put {w w' : World} {cb ab ty fb : Nat} {F G : Nat → Value} {f : Fab} (h : Wr w cb ab ty fb F f) (k : Keeps (One ab) w w') (r : w'.rowIs ab ty 64 G) : Wr w' cb ab ty fb G f :=
  ⟨k.cell h.c0 (fun e => h.n1 e), k.cell h.c2 (fun e => h.n1 e), r, k.rowIs h.fab (fun e => h.n3 (Eq.symm e)), h.n1, h.n2, h.n3⟩

/-- A store of what lies there already. -/
theorem FabAt.same {w : World} {fb : Nat} {f : Fab} (h : FabAt w fb f) (i : Nat) (u : Value) (hu : u = fcell f i) : FabAt (w.setCell ⟨fb, i, none⟩ u) fb f := by
  subst hu
  refine (World.rowIs.set h i _).congr fun j _ => ?_
  by_cases e : j = i
  · subst e; rw [if_pos rfl]
  · rw [if_neg e]
theorem Wr.same {w : World} {cb ab ty fb : Nat} {F : Nat → Value} {f : Fab} (h : Wr w cb ab ty fb F f) (i : Nat) (u : Value) (hu : u = fcell f i) : Wr (w.setCell ⟨fb, i, none⟩ u) cb ab ty fb F f :=
  have k : Keeps (One fb) w (w.setCell ⟨fb, i, none⟩ u) := (Keeps.refl _ _).set1 _ _
  ⟨k.cell h.c0 (fun e => h.n2 e), k.cell h.c2 (fun e => h.n2 e), k.rowIs h.row (fun e => h.n3 e), h.fab.same i u hu, h.n1, h.n2, h.n3⟩
theorem Wr.fc {w : World} {cb ab ty fb : Nat} {F : Nat → Value} {f : Fab} (h : Wr w cb ab ty fb F f) (i : Nat) (hi : i < 9) : w.cell? ⟨fb, i, none⟩ = some (fcell f i) := World.rowIs.cell h.fab hi
theorem Wr.ff {w : World} {cb ab ty fb : Nat} {F : Nat → Value} {f : Fab} (h : Wr w cb ab ty fb F f) (i : Nat) : w.frozen? ⟨fb, i, none⟩ = false := World.rowIs.frozen h.fab i

theorem field_wr (cb ab ty fb : Nat) (p n : Nat) (v : Int) (F : Nat → Value) (f : Fab) (w : World) (h : Wr w cb ab ty fb F f) (hn : n ≤ 8) (hp : p + n ≤ 64) (hv : 0 ≤ v) (hv' : v ≤ 18446744073709551615) :
    Calls Try.prog 38 #[.pointer (some ⟨cb, 0, none⟩), .int .i64 p, .int .i64 n, .int .u64 v] w fun e w' => e = .returned (.int .u64 v) ∧ Keeps (Two ab fb) w w' ∧ Wr w' cb ab ty fb (putF F p n v) f :=
  (field_w cb ab ty p n v F w h.c0 h.c2 h.row hn hp hv hv' h.n1).mono fun _ _ ⟨a, b, c⟩ => ⟨a, b.two1, h.put b c⟩

set_option maxRecDepth 100000 in
set_option maxHeartbeats 2000000 in
theorem conn_w (cb ab ty fb : Nat) (F : Nat → Value) (f : Fab) (w : World) (h : Wr w cb ab ty fb F f) (hok : f.Ok) :
    Calls Try.prog 59 #[.pointer (some ⟨cb, 0, none⟩), .pointer (some ⟨fb, 0, none⟩)] w fun e w' => e = .returned (.tuple #[]) ∧ Keeps (Two ab fb) w w' ∧ Wr w' cb ab ty fb (putF (putF (putF F 42 2 f.queue) 44 2 f.size) 48 4 f.keep) f := by
  have H0 := Lib.hid h
  have b2 := hok.queue.1
  have b2' := hok.queue.2
  have b3 := hok.size.1
  have b3' := hok.size.2
  have b4 := hok.keep.1
  have b4' := hok.keep.2
  clear h hok
  have g2 : w.cell? ⟨fb, 2, none⟩ = some (.int .u16 f.queue) := H0.out.fc 2 (by omega)
  go_enter Try.func59, Try.ntmps59
  go_wp2_with fail
  refine (field_wr cb ab ty fb 42 2 f.queue F f _ H0.out (by omega) (by omega) (by omega) (by omega)).mono ?_
  rintro e w0 ⟨rfl, k0, h0⟩
  have gg2 : w0.cell? ⟨fb, 2, none⟩ = some (.int .u16 f.queue) := h0.fc 2 (by omega)
  have gf2 := h0.ff 2
  have H2 := Lib.hid (h0.same 2 (.int .u16 f.queue) rfl)
  clear h0 g2
  have g3 : (w0.setCell ⟨fb, 2, none⟩ (.int .u16 f.queue)).cell? ⟨fb, 3, none⟩ = some (.int .u16 f.size) := H2.out.fc 3 (by omega)
  go_wp2_with fail
  refine (field_wr cb ab ty fb 44 2 f.size (putF F 42 2 f.queue) f _ H2.out (by omega) (by omega) (by omega) (by omega)).mono ?_
  rintro e w1 ⟨rfl, k1, h1⟩
  have gg3 : w1.cell? ⟨fb, 3, none⟩ = some (.int .u16 f.size) := h1.fc 3 (by omega)
  have gf3 := h1.ff 3
  have H4 := Lib.hid (h1.same 3 (.int .u16 f.size) rfl)
  clear h1 g3
  have g4 : (w1.setCell ⟨fb, 3, none⟩ (.int .u16 f.size)).cell? ⟨fb, 4, none⟩ = some (.int .u32 f.keep) := H4.out.fc 4 (by omega)
  go_wp2_with fail
  refine (field_wr cb ab ty fb 48 4 f.keep (putF (putF F 42 2 f.queue) 44 2 f.size) f _ H4.out (by omega) (by omega) (by omega) (by omega)).mono ?_
  rintro e w2 ⟨rfl, k2, h2⟩
  have gg4 : w2.cell? ⟨fb, 4, none⟩ = some (.int .u32 f.keep) := h2.fc 4 (by omega)
  have gf4 := h2.ff 4
  have H6 := Lib.hid (h2.same 4 (.int .u32 f.keep) rfl)
  clear h2 g4
  go_wp2_with fail
  go_end0
  refine ⟨rfl, ?_, H6.out⟩
  exact ((((((Keeps.refl _ w).trans k0).setCell (p := ⟨fb, 2, none⟩) (fun _ => .inr rfl) _).trans k1).setCell (p := ⟨fb, 3, none⟩) (fun _ => .inr rfl) _).trans k2).setCell (p := ⟨fb, 4, none⟩) (fun _ => .inr rfl) _

set_option maxRecDepth 100000 in
set_option maxHeartbeats 2000000 in
theorem auth_w (cb ab ty fb : Nat) (F : Nat → Value) (f : Fab) (w : World) (h : Wr w cb ab ty fb F f) (hok : f.Ok) :
    Calls Try.prog 53 #[.pointer (some ⟨cb, 0, none⟩), .pointer (some ⟨fb, 0, none⟩)] w fun e w' => e = .returned (.tuple #[]) ∧ Keeps (Two ab fb) w w' ∧ Wr w' cb ab ty fb (putF F 44 4 f.length) f := by
  have H0 := Lib.hid h
  have b8 := hok.length.1
  have b8' := hok.length.2
  clear h hok
  have g8 : w.cell? ⟨fb, 8, none⟩ = some (.int .u32 f.length) := H0.out.fc 8 (by omega)
  go_enter Try.func53, Try.ntmps53
  go_wp2_with fail
  refine (field_wr cb ab ty fb 44 4 f.length F f _ H0.out (by omega) (by omega) (by omega) (by omega)).mono ?_
  rintro e w0 ⟨rfl, k0, h0⟩
  have gg8 : w0.cell? ⟨fb, 8, none⟩ = some (.int .u32 f.length) := h0.fc 8 (by omega)
  have gf8 := h0.ff 8
  have H2 := Lib.hid (h0.same 8 (.int .u32 f.length) rfl)
  clear h0 g8
  go_wp2_with fail
  go_end0
  refine ⟨rfl, ?_, H2.out⟩
  exact ((Keeps.refl _ w).trans k0).setCell (p := ⟨fb, 8, none⟩) (fun _ => .inr rfl) _

end Go.Proofs.Ytchkipafjnehfaa
