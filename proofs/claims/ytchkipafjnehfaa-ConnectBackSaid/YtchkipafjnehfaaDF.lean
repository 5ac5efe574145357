/- connect: Decode's deferred function. -/
import Derived.Test.YtchkipafjnehfaaDE
import Derived.Defers
import Derived.Recover
import Derived.BigRegion
namespace Go.Proofs.Ytchkipafjnehfaa
set_option linter.unusedVariables false
set_option linter.unusedSimpArgs false
open Go.RowKit

theorem zeroFab (w : World) : (Instr.build 42 #[]).run Try.prog w = .ok F0.v w := by kernel_rfl

/-- A command set to zero, cell by cell, and then the error. -/
theorem zeroed (fb eb : Nat) (g : Fab) (x : Int) (w : World) (hf : FabAt w fb g) (he : w.cell? ⟨eb, 0, none⟩ = some (.int .i64 x)) (hne : eb ≠ fb) :
    ∃ W', (((((((((w.setCell ⟨fb, 0, none⟩ (.int .u8 0)).setCell ⟨fb, 1, none⟩ (.int .u16 0)).setCell ⟨fb, 2, none⟩ (.int .u16 0)).setCell ⟨fb, 3, none⟩ (.int .u16 0)).setCell ⟨fb, 4, none⟩ (.int .u32 0)).setCell ⟨fb, 5, none⟩ (.bool false)).setCell ⟨fb, 6, none⟩ (.int .u32 0)).setCell ⟨fb, 7, none⟩ (.int .u64 0)).setCell ⟨fb, 8, none⟩ (.int .u32 0)).setCell ⟨eb, 0, none⟩ (.int .i64 6) = W' ∧ Keeps (Two fb eb) w W' ∧ FabAt W' fb F0 ∧ W'.cell? ⟨eb, 0, none⟩ = some (.int .i64 6) := by
  have hK : Keeps (One fb) w (((((((((w.setCell ⟨fb, 0, none⟩ (.int .u8 0)).setCell ⟨fb, 1, none⟩ (.int .u16 0)).setCell ⟨fb, 2, none⟩ (.int .u16 0)).setCell ⟨fb, 3, none⟩ (.int .u16 0)).setCell ⟨fb, 4, none⟩ (.int .u32 0)).setCell ⟨fb, 5, none⟩ (.bool false)).setCell ⟨fb, 6, none⟩ (.int .u32 0)).setCell ⟨fb, 7, none⟩ (.int .u64 0)).setCell ⟨fb, 8, none⟩ (.int .u32 0)) := ((((((((((Keeps.refl _ w).set1 _ _).set1 _ _).set1 _ _).set1 _ _).set1 _ _).set1 _ _).set1 _ _).set1 _ _).set1 _ _)
  have hF : FabAt (((((((((w.setCell ⟨fb, 0, none⟩ (.int .u8 0)).setCell ⟨fb, 1, none⟩ (.int .u16 0)).setCell ⟨fb, 2, none⟩ (.int .u16 0)).setCell ⟨fb, 3, none⟩ (.int .u16 0)).setCell ⟨fb, 4, none⟩ (.int .u32 0)).setCell ⟨fb, 5, none⟩ (.bool false)).setCell ⟨fb, 6, none⟩ (.int .u32 0)).setCell ⟨fb, 7, none⟩ (.int .u64 0)).setCell ⟨fb, 8, none⟩ (.int .u32 0)) fb F0 := by
    refine ((((((((((World.rowIs.set hf 0 _).set 1 _).set 2 _).set 3 _).set 4 _).set 5 _).set 6 _).set 7 _).set 8 _).congr fun j hj => ?_)
    match j, hj with
    | 0, _ => rfl
    | 1, _ => rfl
    | 2, _ => rfl
    | 3, _ => rfl
    | 4, _ => rfl
    | 5, _ => rfl
    | 6, _ => rfl
    | 7, _ => rfl
    | 8, _ => rfl
  obtain ⟨W, hW⟩ : ∃ W, W = (((((((((w.setCell ⟨fb, 0, none⟩ (.int .u8 0)).setCell ⟨fb, 1, none⟩ (.int .u16 0)).setCell ⟨fb, 2, none⟩ (.int .u16 0)).setCell ⟨fb, 3, none⟩ (.int .u16 0)).setCell ⟨fb, 4, none⟩ (.int .u32 0)).setCell ⟨fb, 5, none⟩ (.bool false)).setCell ⟨fb, 6, none⟩ (.int .u32 0)).setCell ⟨fb, 7, none⟩ (.int .u64 0)).setCell ⟨fb, 8, none⟩ (.int .u32 0)) := ⟨_, rfl⟩
  rw [← hW] at hK hF ⊢
  have hk2 : Keeps (One eb) W (W.setCell ⟨eb, 0, none⟩ (.int .i64 6)) := (Keeps.refl _ _).set1 _ _
  refine ⟨_, rfl, hK.two1.trans hk2.two2, hk2.rowIs hF (fun e => hne (Eq.symm e)), ?_⟩
  have hc : W.cell? ⟨eb, 0, none⟩ = some (.int .i64 x) := hK.cell he (fun e => hne e)
  exact World.cell?_setCell_same _ _ _ hc

set_option maxRecDepth 100000 in
set_option maxHeartbeats 4000000 in
theorem catch_panicking (fb eb : Nat) (g : Fab) (x : Int) (w : World) (hf : FabAt w fb g) (he : w.cell? ⟨eb, 0, none⟩ = some (.int .i64 x)) (hz : w.frozen? ⟨eb, 0, none⟩ = false) (hne : eb ≠ fb) :
    CallsD Try.prog 45 #[.pointer (some ⟨fb, 0, none⟩), .pointer (some ⟨eb, 0, none⟩)] (.panicking [fmtP]) w fun e u' w' =>
      e = .returned (.tuple #[]) ∧ u' = .panicking [{ fmtP with recovered := true }] ∧ Keeps (Two fb eb) w w' ∧ FabAt w' fb F0 ∧ w'.cell? ⟨eb, 0, none⟩ = some (.int .i64 6) := by
  have HF := Lib.hid hf
  have HE := Lib.hid he
  unfold fmtP
  refine callsD_of_wpS Try.func45 rfl fun c₀ cs hu => ?_
  apply wpS_seq
  apply wpS_region
  simp [wpOpsS, go_sem, recoverD, hu, Try.ntmps45, Exit.thenS]
  refine wpS_of_wp ?_
  have f0 := World.rowIs.cell hf (i := 0) (by omega)
  have f1 := World.rowIs.cell hf (i := 1) (by omega)
  have f2 := World.rowIs.cell hf (i := 2) (by omega)
  have f3 := World.rowIs.cell hf (i := 3) (by omega)
  have f4 := World.rowIs.cell hf (i := 4) (by omega)
  have f5 := World.rowIs.cell hf (i := 5) (by omega)
  have f6 := World.rowIs.cell hf (i := 6) (by omega)
  have f7 := World.rowIs.cell hf (i := 7) (by omega)
  have f8 := World.rowIs.cell hf (i := 8) (by omega)
  have z0 := World.rowIs.frozen hf 0
  have z1 := World.rowIs.frozen hf 1
  have z2 := World.rowIs.frozen hf 2
  have z3 := World.rowIs.frozen hf 3
  have z4 := World.rowIs.frozen hf 4
  have z5 := World.rowIs.frozen hf 5
  have z6 := World.rowIs.frozen hf 6
  have z7 := World.rowIs.frozen hf 7
  have z8 := World.rowIs.frozen hf 8
  have HU := Lib.hid hu
  clear hf hu
  generalize hq : (bodyPostS Try.prog Try.f45 c₀ cs _) = Q
  have HQ := Lib.hid hq
  clear hq
  show Code.wp _ _ _ ({ tmps := #[.pointer (some ⟨fb, 0, none⟩), .pointer (some ⟨eb, 0, none⟩), .iface 24 (.int .i64 6), .iface 24 (.int .i64 6), undef, undef, undef, undef, undef], defers := [] } : Act) _
  have hta : ∀ w, (Instr.typeAssert (.iface 24 (.int .i64 6)) 20 24 false).run Try.prog w = .ok (.int .i64 6) w := fun w => by kernel_rfl
  go_wp2_with fail
  go_region
  all_goals
    go_step
    rw [← HQ.out]
    obtain ⟨W, hW, z1, z2, z3⟩ := zeroed fb eb g x w HF.out HE.out hne
    rw [hW]
    clear hW
    refine ⟨rfl, _, rfl, .tuple #[], ?_, rfl, rfl, z1.drew, World.rowIs.of_block z2 rfl, z3⟩
    simp [results, Try.results45]

theorem catch_idle (fb eb : Nat) (w : World) :
    CallsD Try.prog 45 #[.pointer (some ⟨fb, 0, none⟩), .pointer (some ⟨eb, 0, none⟩)] .returning w fun e u' w' => e = .returned (.tuple #[]) ∧ u' = .returning ∧ w' = w := by
  refine callsD_of_wpS Try.func45 rfl fun c₀ cs hu => ?_
  apply wpS_seq
  apply wpS_region
  simp [wpOpsS, go_sem, recoverD, hu, Try.ntmps45, Exit.thenS]
  apply wpS_seq
  apply wpS_region
  simp [wpOpsS, go_sem, recoverD, hu, Try.ntmps45, Exit.thenS]
  refine wpS_cond (t := false) (by simp [Act.eval, Array.replicate]) ?_
  simp only [Bool.false_eq_true, if_false]
  refine wpS_of_wp (wp_skip ?_)
  cases c₀
  simp_all [bodyPostS, results, Try.results45]
end Go.Proofs.Ytchkipafjnehfaa
