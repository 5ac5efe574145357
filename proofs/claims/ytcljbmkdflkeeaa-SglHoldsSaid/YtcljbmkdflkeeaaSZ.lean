/- sgl: check, block, bucket. -/
import Derived.Test.YtcljbmkdflkeeaaSY
namespace Go.Proofs.Ytcljbmkdflkeeaa
set_option linter.unusedVariables false
set_option linter.unusedSimpArgs false
open Go.RowKit

/-- a descriptor boxed -/
theorem box_start (d : Dsc) (w : World) : ∃ W, W = w.alloc (.cells d.cells 26) ∧ Below w.heap.size w W ∧ ArrAt W w.heap.size d.cells ∧ W.heap.size = w.heap.size + 1 :=
  ⟨_, rfl, (Below.refl _ _).alloc (Nat.le_refl _) _, ArrAt.fresh w d.cells _ (by show 0 < 4; omega), by simp⟩

set_option maxRecDepth 100000 in
set_option maxHeartbeats 2000000 in
theorem wcheck_ok (wb b B size : Nat) (f : Nat → Int) (L : List (Nat × Nat)) (d : Dsc) (W : World) (hM : MemAt W b B size f L) (h0 : W.cell? ⟨wb, 0, none⟩ = some (.pointer (some ⟨b, 0, none⟩))) (hd : d.Ok) (hk : chk size d.a d.n = 0) :
    Calls Try.prog 66 #[.pointer (some ⟨wb, 0, none⟩), .agg d.cells] W fun e W' => e = .returned (.tuple #[]) ∧ Below W.heap.size W W' := by
  have hwl := World.block_lt_of_cell? _ _ h0
  simp only [] at hwl
  obtain ⟨W1, hW1, hb1, ha1, hs1⟩ := box_start d W
  have HM := Lib.hid (hM.below hb1)
  have HB1 := Lib.hid hb1
  have c0 := (hb1.cell (p := ⟨wb, 0, none⟩) hwl).trans h0
  have c1 : W1.cell? ⟨W.heap.size, 1, none⟩ = some (.int .u64 d.a) := ha1.cell rfl
  have c2 : W1.cell? ⟨W.heap.size, 2, none⟩ = some (.int .i64 d.n) := ha1.cell rfl
  have l1 : wb < W1.heap.size := by omega
  have l2 : W.heap.size < W1.heap.size := by omega
  have hq0 : ∀ p : InC (Below W1.heap.size W1), p.w.cell? ⟨wb, 0, none⟩ = some (.pointer (some ⟨b, 0, none⟩)) := fun p => (p.ok.cell (p := ⟨wb, 0, none⟩) l1).trans c0
  have hq1 : ∀ p : InC (Below W1.heap.size W1), p.w.cell? ⟨W.heap.size, 1, none⟩ = some (.int .u64 d.a) := fun p => (p.ok.cell (p := ⟨W.heap.size, 1, none⟩) l2).trans c1
  have hq2 : ∀ p : InC (Below W1.heap.size W1), p.w.cell? ⟨W.heap.size, 2, none⟩ = some (.int .i64 d.n) := fun p => (p.ok.cell (p := ⟨W.heap.size, 2, none⟩) l2).trans c2
  have HE : Hid (∀ p : InC (Below W1.heap.size W1), Calls Try.prog 63 #[.pointer (some ⟨b, 0, none⟩), .int .u64 d.a, .int .i64 d.n] p.w fun e w' => e = .returned (.int .i64 0) ∧ Below W1.heap.size W1 w') :=
    Lib.hid fun p => (check_is b B size f L d.a d.n 0 p.w (HM.out.below p.ok) hd.a.1 hd.a.2 hd.n.1 hd.n.2 hk).mono fun e w' k => ⟨k.1, p.ok.trans (k.2.mono p.ok.size)⟩
  have hNE : Nonempty (InC (Below W1.heap.size W1)) := ⟨⟨W1, Below.refl _ _⟩⟩
  have HW1 := Lib.hid hW1
  obtain ⟨k, a, n, key⟩ := d
  unfold Dsc.cells at *
  simp only [] at *
  clear hM h0 hd hk hW1 hb1 ha1 hs1 c0 c1 c2
  go_enter Try.func66, Try.ntmps66
  go_upto_region 1 with (fail)
  rw [← HW1.out]
  refine wp_quiet_in (Below W1.heap.size W1) (Below.refl _ _).drew (by kernel_rfl) (by kernel_rfl) ?_
  repeat (go_big_quiet_step (with_reducible exact calls_in (HE.out _)))
  refine wpQuiet_nil ?_
  intro _ hw'
  obtain ⟨q, hw''⟩ := hw'
  subst hw''
  have HB2 := Lib.hid (HB1.out.trans (q.ok.mono (by omega)))
  generalize q.w = W4 at *
  clear hq0 hq1 hq2 hNE HE
  go_wp2_with (go_at_call 42; refine (must_ok _ _).mono ?_; rintro e w' ⟨rfl, rfl⟩)
  go_end0
  exact ⟨rfl, HB2.out⟩

set_option maxRecDepth 100000 in
set_option maxHeartbeats 2000000 in
theorem wcheck_bad (wb b B size : Nat) (f : Nat → Int) (L : List (Nat × Nat)) (d : Dsc) (W : World) (hM : MemAt W b B size f L) (h0 : W.cell? ⟨wb, 0, none⟩ = some (.pointer (some ⟨b, 0, none⟩))) (hd : d.Ok) (no : Int) (hk : chk size d.a d.n = no) (hne : (no == 0) = false) :
    Calls Try.prog 66 #[.pointer (some ⟨wb, 0, none⟩), .agg d.cells] W fun e W' => e = .panicked [pan no] ∧ Below W.heap.size W W' := by
  have hwl := World.block_lt_of_cell? _ _ h0
  simp only [] at hwl
  obtain ⟨W1, hW1, hb1, ha1, hs1⟩ := box_start d W
  have HM := Lib.hid (hM.below hb1)
  have HB1 := Lib.hid hb1
  have c0 := (hb1.cell (p := ⟨wb, 0, none⟩) hwl).trans h0
  have c1 : W1.cell? ⟨W.heap.size, 1, none⟩ = some (.int .u64 d.a) := ha1.cell rfl
  have c2 : W1.cell? ⟨W.heap.size, 2, none⟩ = some (.int .i64 d.n) := ha1.cell rfl
  have l1 : wb < W1.heap.size := by omega
  have l2 : W.heap.size < W1.heap.size := by omega
  have hq0 : ∀ p : InC (Below W1.heap.size W1), p.w.cell? ⟨wb, 0, none⟩ = some (.pointer (some ⟨b, 0, none⟩)) := fun p => (p.ok.cell (p := ⟨wb, 0, none⟩) l1).trans c0
  have hq1 : ∀ p : InC (Below W1.heap.size W1), p.w.cell? ⟨W.heap.size, 1, none⟩ = some (.int .u64 d.a) := fun p => (p.ok.cell (p := ⟨W.heap.size, 1, none⟩) l2).trans c1
  have hq2 : ∀ p : InC (Below W1.heap.size W1), p.w.cell? ⟨W.heap.size, 2, none⟩ = some (.int .i64 d.n) := fun p => (p.ok.cell (p := ⟨W.heap.size, 2, none⟩) l2).trans c2
  have HE : Hid (∀ p : InC (Below W1.heap.size W1), Calls Try.prog 63 #[.pointer (some ⟨b, 0, none⟩), .int .u64 d.a, .int .i64 d.n] p.w fun e w' => e = .returned (.int .i64 no) ∧ Below W1.heap.size W1 w') :=
    Lib.hid fun p => (check_is b B size f L d.a d.n no p.w (HM.out.below p.ok) hd.a.1 hd.a.2 hd.n.1 hd.n.2 hk).mono fun e w' k => ⟨k.1, p.ok.trans (k.2.mono p.ok.size)⟩
  have hNE : Nonempty (InC (Below W1.heap.size W1)) := ⟨⟨W1, Below.refl _ _⟩⟩
  have HW1 := Lib.hid hW1
  obtain ⟨k, a, n, key⟩ := d
  unfold Dsc.cells at *
  simp only [] at *
  clear hM h0 hd hk hW1 hb1 ha1 hs1 c0 c1 c2
  go_enter Try.func66, Try.ntmps66
  go_upto_region 1 with (fail)
  rw [← HW1.out]
  refine wp_quiet_in (Below W1.heap.size W1) (Below.refl _ _).drew (by kernel_rfl) (by kernel_rfl) ?_
  repeat (go_big_quiet_step (with_reducible exact calls_in (HE.out _)))
  refine wpQuiet_nil ?_
  intro _ hw'
  obtain ⟨q, hw''⟩ := hw'
  subst hw''
  have HB2 := Lib.hid (HB1.out.trans (q.ok.mono (by omega)))
  generalize q.w = W4 at *
  clear hq0 hq1 hq2 hNE HE
  go_wp2_with (go_at_call 42; refine (must_bad _ _).mono ?_; rintro e w' ⟨rfl, rfl⟩)
  skip
  exact ⟨rfl, rfl, HB2.out⟩

end Go.Proofs.Ytcljbmkdflkeeaa
