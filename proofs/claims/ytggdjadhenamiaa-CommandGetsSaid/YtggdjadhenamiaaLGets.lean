/- command: the law CommandGets. -/
import Derived.Test.YtggdjadhenamiaaKn
import Derived.Test.YtggdjadhenamiaaR2
import Derived.Test.YtggdjadhenamiaaTypes
namespace Go.Proofs.Ytggdjadhenamiaa
set_option linter.unusedVariables false
set_option linter.unusedSimpArgs false
open Go.RowKit

set_option maxHeartbeats 2000000 in
theorem eqIo (x : Io) (w : World) : (binOp .eql 43 (.agg x.cells) (.agg x.cells)).run Try.prog w = .ok (.bool true) w := by
  obtain ⟨lba, bl, li, un, ck, rf, app, mask⟩ := x
  unfold Io.cells
  simp only []
  simp [go_sem]
theorem cmd_pos (c : Cmd) : 0 < c.cells.size := Nat.zero_lt_succ 15

set_option maxRecDepth 100000 in
set_option maxHeartbeats 4000000 in
theorem getsLaw (c : Cmd) (w : World) (hc : c.Ok) :
    Calls Try.prog 8 #[c.v] w fun e w' => e = .returned (.bool true) ∧ Below w.heap.size w w' := by
  obtain ⟨w1, hw1⟩ : ∃ w1, w1 = w.alloc (.cells c.cells 28) := ⟨_, rfl⟩
  have AC : ArrAt w1 w.heap.size c.cells := by rw [hw1]; exact ArrAt.fresh _ _ _ (cmd_pos c)
  have B1 : Below w.heap.size w w1 := by rw [hw1]; exact (Below.refl _ _).alloc (Nat.le_refl _) _
  have HG : Hid (∀ p : InC (Below w1.heap.size w1), Calls Try.prog 25 #[c.v] p.w fun e w' => e = .returned (.agg (getIo c).cells) ∧ Below w1.heap.size w1 w') :=
    Lib.hid fun p => (getio_any c hc p.w).mono fun e w' k => ⟨k.1, p.ok.trans (k.2.mono p.ok.size)⟩
  have HG2 : Hid (∀ p : InC (Below w1.heap.size w1), Calls Try.prog 26 #[c.v] p.w fun e w' => e = .returned (.agg (getIo c).cells) ∧ Below w1.heap.size w1 w') :=
    Lib.hid fun p => (rgetio_any c hc p.w).mono fun e w' k => ⟨k.1, p.ok.trans (k.2.mono p.ok.size)⟩
  have HK : Hid (∀ p : InC (Below w1.heap.size w1), Calls Try.prog 12 #[] p.w fun e w' => e = .returned (.bool true) ∧ Below w1.heap.size w1 w') :=
    Lib.hid fun p => (known_any p.w).mono fun e w' k => ⟨k.1, p.ok.trans (k.2.mono p.ok.size)⟩
  obtain ⟨d, hd1, hd2⟩ := underCmd
  have HLD : Hid (∀ W : World, (∃ p : InC (Below w1.heap.size w1), W = p.w) → (Instr.loadAt 28 (.pointer (some ⟨w.heap.size, 0, none⟩))).run Try.prog W = .ok c.v W) := Lib.hid fun W hW => by
    obtain ⟨p, rfl⟩ := hW
    exact (AC.below p.ok).loadAt hd1 hd2 sizeCmd
  have hne : Nonempty (InC (Below w1.heap.size w1)) := ⟨⟨w1, Below.refl _ _⟩⟩
  have HB1 := Lib.hid B1
  have heq := eqIo (getIo c)
  obtain ⟨I, hI⟩ : ∃ I, I = (getIo c).cells := ⟨_, rfl⟩
  rw [← hI] at HG HG2 heq
  obtain ⟨C, hC⟩ : ∃ C, C = c.cells := ⟨_, rfl⟩
  unfold Cmd.v at HG HG2 HLD ⊢
  rw [← hC] at HG HG2 HLD hw1 ⊢
  have HW1 := Lib.hid hw1
  clear AC B1 hC hI hw1 hd1 hd2
  go_enter Try.func8, Try.ntmps8
  go_upto_region 1 with fail
  rw [← HW1.out]
  refine wp_quiet_in (Below w1.heap.size w1) (Below.refl _ _).drew (by kernel_rfl) (by kernel_rfl) ?_
  repeat (first
    | ((with_reducible show wpQuiet _ _ _ _ (⟨some 3, .load _ _, _, _, _, _⟩ :: _) _); refine wpQuiet_load rfl 28 (.tmp 1) rfl (.pointer (some ⟨w.heap.size, 0, none⟩)) rfl HLD.out ?_; simp only [Act.put, List.setIfInBounds_toArray, List.set_cons_succ, List.set_cons_zero])
    | ((with_reducible show wpQuiet _ _ _ _ (⟨some 5, .load _ _, _, _, _, _⟩ :: _) _); refine wpQuiet_load rfl 28 (.tmp 1) rfl (.pointer (some ⟨w.heap.size, 0, none⟩)) rfl HLD.out ?_; simp only [Act.put, List.setIfInBounds_toArray, List.set_cons_succ, List.set_cons_zero])
    | (go_big_quiet_step (first | (with_reducible exact calls_in (HG.out _)) | (with_reducible exact calls_in (HG2.out _)) | (with_reducible exact calls_in (HK.out _)))))
  refine wpQuiet_nil ?_
  intro _ hw'
  obtain ⟨p, hw''⟩ := hw'
  subst hw''
  go_wp2_with fail
  go_ret
  exact ⟨rfl, HB1.out.trans (p.ok.mono HB1.out.size)⟩
end Go.Proofs.Ytggdjadhenamiaa
