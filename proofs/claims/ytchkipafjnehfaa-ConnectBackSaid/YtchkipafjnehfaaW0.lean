/- connect: the watch. -/
import Derived.Test.YtchkipafjnehfaaA
import Derived.BigRegion
import Derived.BigQuiet
import Derived.Deep.QuietTactic
import Derived.StillTailTactics
namespace Go.Proofs.Ytchkipafjnehfaa
set_option linter.unusedVariables false
set_option linter.unusedSimpArgs false
open Go.RowKit

/-- The cells of a watch. -/
def wc (l n t : Int) (o : Bool) : Nat → Value := fun i => if i = 0 then .bool true else if i = 1 then .int .i64 l else if i = 2 then .int .i64 n else if i = 3 then .int .i64 t else .bool o
/-- Block b is a watch. -/
def WatchAt (w : World) (b : Nat) (l n t : Int) (o : Bool) : Prop := w.rowIs b 59 5 (wc l n t o)

theorem WatchAt.kept {S : Nat → Prop} {w w' : World} {b : Nat} {l n t : Int} {o : Bool} (h : WatchAt w b l n t o) (k : Keeps S w w') (hb : ¬ S b) : WatchAt w' b l n t o := k.rowIs h hb
theorem WatchAt.below {w w' : World} {b : Nat} {l n t : Int} {o : Bool} (h : WatchAt w b l n t o) (hb : Below w.heap.size w w') : WatchAt w' b l n t o := h.kept (Keeps.of_below (S := fun _ => False) hb) (fun h => h)
theorem WatchAt.lt {w : World} {b : Nat} {l n t : Int} {o : Bool} (h : WatchAt w b l n t o) : b < w.heap.size := World.rowIs.lt h
theorem WatchAt.c0 {w : World} {b : Nat} {l n t : Int} {o : Bool} (h : WatchAt w b l n t o) : w.cell? ⟨b, 0, none⟩ = some (.bool true) := World.rowIs.cell h (by omega)
theorem WatchAt.c1 {w : World} {b : Nat} {l n t : Int} {o : Bool} (h : WatchAt w b l n t o) : w.cell? ⟨b, 1, none⟩ = some (.int .i64 l) := World.rowIs.cell h (by omega)
theorem WatchAt.c2 {w : World} {b : Nat} {l n t : Int} {o : Bool} (h : WatchAt w b l n t o) : w.cell? ⟨b, 2, none⟩ = some (.int .i64 n) := World.rowIs.cell h (by omega)
theorem WatchAt.c3 {w : World} {b : Nat} {l n t : Int} {o : Bool} (h : WatchAt w b l n t o) : w.cell? ⟨b, 3, none⟩ = some (.int .i64 t) := World.rowIs.cell h (by omega)
theorem WatchAt.c4 {w : World} {b : Nat} {l n t : Int} {o : Bool} (h : WatchAt w b l n t o) : w.cell? ⟨b, 4, none⟩ = some (.bool o) := World.rowIs.cell h (by omega)
theorem WatchAt.fr {w : World} {b : Nat} {l n t : Int} {o : Bool} (h : WatchAt w b l n t o) : ∀ i, w.frozen? ⟨b, i, none⟩ = false := World.rowIs.frozen h

set_option maxHeartbeats 400000 in
theorem newwatch_err (l : Int) (w : World) (h : l < 0) :
    Calls Try.prog 15 #[.int .i64 l] w fun e w' => e = .returned (.tuple #[.pointer none, .int .i64 2]) ∧ w = w' := by
  go_enter Try.func15, Try.ntmps15
  go_wp2
  go_ret2
  exact ⟨rfl, rfl⟩

set_option maxHeartbeats 400000 in
theorem newwatch_ok (l : Int) (w : World) (h : 0 ≤ l) :
    Calls Try.prog 15 #[.int .i64 l] w fun e w' => ∃ b, e = .returned (.tuple #[.pointer (some ⟨b, 0, none⟩), .int .i64 0]) ∧ WatchAt w' b l 0 0 false ∧ w.heap.size ≤ b ∧ Below w.heap.size w w' := by
  have d1 : decide (l < 0) = false := by simp; omega
  go_enter Try.func15, Try.ntmps15
  go_wp2
  go_ret2
  refine ⟨_, rfl, ?_, Nat.le_refl _, (Below.refl _ _).alloc (Nat.le_refl _) _⟩
  exact World.rowIs_alloc w _ _ _ (fun i hi => by match i, hi with | 0, _ => rfl | 1, _ => rfl | 2, _ => rfl | 3, _ => rfl | 4, _ => rfl)

/-- what the time does to the flag -/
def ov (l n t : Int) (o : Bool) : Bool := o || decide (0 < l ∧ l ≤ n - t)

set_option maxRecDepth 100000 in
set_option maxHeartbeats 4000000 in
theorem pass_ok (b : Nat) (l n t now : Int) (o : Bool) (w : World) (h : WatchAt w b l n t o) (hl : 0 ≤ l) (hl' : l ≤ 9223372036854775807) (ht : 0 ≤ t) (htn : t ≤ n) (hn : n ≤ 9223372036854775807) (hw : now ≤ 9223372036854775807) :
    Calls Try.prog 37 #[.pointer (some ⟨b, 0, none⟩), .int .i64 now] w fun e w' => e = .returned (.int .i64 0) ∧ Keeps (One b) w w' ∧ WatchAt w' b l (max n now) t (ov l (max n now) t o) := by
  have c0 := h.c0
  have c1 := h.c1
  have c2 := h.c2
  have c3 := h.c3
  have c4 := h.c4
  have hf := h.fr
  have hlt := h.lt
  have H := Lib.hid h
  clear h
  have fin : ∀ (m : Int) (o' : Bool) (w' : World), m = max n now → w' = (((w.setCell ⟨b, 2, none⟩ (.int .i64 m)).drew).setCell ⟨b, 4, none⟩ (.bool o')) → o' = ov l (max n now) t o → Keeps (One b) w w' ∧ WatchAt w' b l (max n now) t (ov l (max n now) t o) := by
    rintro m o' w' rfl rfl rfl
    refine ⟨(((Keeps.refl (One b) w).set1 _ _).drew).set1 _ _, ?_⟩
    refine (((World.rowIs.set H.out 2 _).drew).set 4 _).congr fun i hi => ?_
    match i, hi with
    | 0, _ => rfl
    | 1, _ => rfl
    | 2, _ => rfl
    | 3, _ => rfl
    | 4, _ => rfl
  have FIN := Lib.hid fin
  clear fin
  have go : ∀ m : Int, m = max n now → m ≤ 9223372036854775807 → n ≤ m → (n < now ∧ m = now ∨ now ≤ n ∧ m = n) → Calls Try.prog 37 #[.pointer (some ⟨b, 0, none⟩), .int .i64 now] w fun e w' => e = .returned (.int .i64 0) ∧ Keeps (One b) w w' ∧ WatchAt w' b l (max n now) t (ov l (max n now) t o) := by
    intro m em hm1 hm2 hc
    have EM := Lib.hid em
    clear em
    rcases hc with ⟨hx, hy⟩ | ⟨hx, hy⟩
    all_goals
      subst hy
      cases o
      · by_cases hl0 : 0 < l
        · by_cases hge : l ≤ m - t
          · go_enter Try.func37, Try.ntmps37
            go_wp2
            go_region
            go_wp2
            go_ret
            exact ⟨rfl, FIN.out _ _ _ EM.out rfl (by rw [← EM.out]; unfold ov; simp <;> omega)⟩
          · go_enter Try.func37, Try.ntmps37
            go_wp2
            go_region
            go_wp2
            go_ret
            exact ⟨rfl, FIN.out _ _ _ EM.out rfl (by rw [← EM.out]; unfold ov; simp <;> omega)⟩
        · obtain rfl : l = 0 := by omega
          clear hl0 hl hl'
          go_enter Try.func37, Try.ntmps37
          go_wp2
          go_region
          go_wp2
          go_ret
          exact ⟨rfl, FIN.out _ _ _ EM.out rfl (by rw [← EM.out]; unfold ov; simp <;> omega)⟩
      · go_enter Try.func37, Try.ntmps37
        go_wp2
        go_region
        go_wp2
        go_ret
        exact ⟨rfl, FIN.out _ _ _ EM.out rfl (by rw [← EM.out]; unfold ov; simp <;> omega)⟩
  by_cases hm : n < now
  · exact go now (by omega) hw (by omega) (.inl ⟨hm, rfl⟩)
  · exact go n (by omega) hn (by omega) (.inr ⟨by omega, rfl⟩)
end Go.Proofs.Ytchkipafjnehfaa
