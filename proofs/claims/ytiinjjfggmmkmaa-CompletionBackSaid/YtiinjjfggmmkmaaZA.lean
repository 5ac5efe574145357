/- sort: rows of numbers, cmp.Less, insertion sort. -/
import Derived.Test.YtiinjjfggmmkmaaLib
import Derived.Sort.AssemblyPlain
import Derived.Sort.Row
import Derived.IntWalk
import Derived.BigGuard
import Derived.BigCall
import Derived.BigQuiet
import Derived.Deep.Draws
import Derived.Deep.QuietTactic
import Derived.Deep.CutRange
import Derived.Deep.RegionWith
namespace Go.Proofs.Ytiinjjfggmmkmaa
set_option linter.unusedVariables false
set_option linter.unusedSimpArgs false
open Go.RowKit Go.Sort

/-- From w on, the numbers at ⟨g, o⟩ have become d; all else that was there is as it was. -/
structure Rw (w w' : World) (g o : Nat) (d : Array Int) : Prop where
  keeps : Keeps (One g) w w'
  row : ∀ j, j < d.size → w'.cell? ⟨g, o + j, none⟩ = some (.int .u16 d[j]!) ∧ w'.frozen? ⟨g, o + j, none⟩ = false
namespace Rw
variable {w w1 w2 : World} {g o : Nat} {d d' : Array Int}
theorem cell (h : Rw w w1 g o d) {j : Nat} (hj : j < d.size) : w1.cell? ⟨g, o + j, none⟩ = some (.int .u16 d[j]!) := (h.row j hj).1
theorem frozen (h : Rw w w1 g o d) {j : Nat} (hj : j < d.size) : w1.frozen? ⟨g, o + j, none⟩ = false := (h.row j hj).2
theorem drewN (h : Rw w w1 g o d) (n : Nat) : Rw w (w1.drewN n) g o d := ⟨h.keeps.drewN n, h.row⟩
theorem drew (h : Rw w w1 g o d) : Rw w w1.drew g o d := ⟨h.keeps.drew, h.row⟩
theorem start (h : ∀ j, j < d.size → w.cell? ⟨g, o + j, none⟩ = some (.int .u16 d[j]!) ∧ w.frozen? ⟨g, o + j, none⟩ = false) : Rw w w g o d := ⟨Keeps.refl _ _, h⟩
theorem self (h : Rw w w1 g o d) : Rw w1 w1 g o d := ⟨Keeps.refl _ _, h.row⟩
theorem trans (h : Rw w w1 g o d) (k : Rw w1 w2 g o d') : Rw w w2 g o d' := ⟨h.keeps.trans k.keeps, k.row⟩
theorem below (h : Rw w w1 g o d) (k : Below w1.heap.size w1 w2) : Rw w w2 g o d :=
  ⟨h.keeps.trans (Keeps.of_below k), fun j hj => by
    have hb := World.block_lt_of_cell? _ _ (h.row j hj).1
    exact ⟨(k.cell (p := ⟨g, o + j, none⟩) hb).trans (h.row j hj).1, (k.frozen (p := ⟨g, o + j, none⟩) hb).trans (h.row j hj).2⟩⟩
theorem set (h : Rw w w1 g o d) {i : Nat} (hi : i < d.size) (x : Int) : Rw w (w1.setCell ⟨g, o + i, none⟩ (.int .u16 x)) g o (d.setIfInBounds i x) := by
  refine ⟨h.keeps.set1 _ _, fun j hj => ?_⟩
  rw [Array.size_setIfInBounds] at hj
  obtain ⟨h1, h2⟩ := h.row j hj
  by_cases e : j = i
  · subst e
    rw [getElem!_set_same d j x hi]
    exact ⟨World.cell?_setCell_same _ _ _ h1, by rw [World.frozen?_setCell]; exact h2⟩
  · rw [getElem!_set_other d i j x e]
    refine ⟨?_, by rw [World.frozen?_setCell]; exact h2⟩
    rw [World.cell?_setCell_other _ _ _ _ (fun hc => e (by injection hc with _ hc; omega))]
    exact h1
theorem swap (h : Rw w w1 g o d) {i j : Nat} (hi : i < d.size) (hj : j < d.size) : Rw w ((w1.setCell ⟨g, o + i, none⟩ (.int .u16 d[j]!)).setCell ⟨g, o + j, none⟩ (.int .u16 d[i]!)) g o (swp d i j) :=
  (h.set hi _).set (by simpa using hj) _
end Rw

theorem insInner_go (lt : Int → Int → Bool) (a k : Nat) (d : Array Int) (hk : a < k + 1) (hl : lt d[k + 1]! d[k]! = true) : insInner lt a (k + 1) d = insInner lt a k (swp d (k + 1) k) := by
  rw [insInner]
  simp [hk, hl]
theorem insInner_stop (lt : Int → Int → Bool) (a j : Nat) (d : Array Int) (h : j ≤ a ∨ lt d[j]! d[j - 1]! = false) : insInner lt a j d = d := by
  cases j with
  | zero => rw [insInner]
  | succ k =>
    rw [insInner]
    rcases h with h | h
    · rw [if_neg]
      simp
      omega
    · simp only [Nat.add_sub_cancel] at h
      simp [h]
theorem insOuter_go (lt : Int → Int → Bool) (a b i : Nat) (d : Array Int) (h : i < b) : insOuter lt a b i d = insOuter lt a b (i + 1) (insInner lt a i d) := by
  rw [insOuter, if_pos h]
theorem insOuter_stop (lt : Int → Int → Bool) (a b i : Nat) (d : Array Int) (h : ¬ i < b) : insOuter lt a b i d = d := by
  rw [insOuter, if_neg h]

set_option maxHeartbeats 1000000 in
theorem isNaN_any (x : Int) (w : World) : Calls Try.prog 80 #[.int .u16 x] w fun e w' => e = .returned (.bool false) ∧ w' = w := by
  go_enter Try.func80, Try.ntmps80
  go_wp2
  go_ret
  exact ⟨by simp, rfl⟩
set_option maxHeartbeats 1000000 in
theorem less_any (x y : Int) (w : World) : Calls Try.prog 70 #[.int .u16 x, .int .u16 y] w fun e w' => e = .returned (.bool (ltInt x y)) ∧ w' = w := by
  go_enter Try.func70, Try.ntmps70
  go_wp2_with (go_at_call 80; refine (isNaN_any _ _).mono ?_; rintro e w' ⟨rfl, rfl⟩)
  go_ret
  exact ⟨rfl, rfl⟩

set_option maxRecDepth 100000 in
set_option maxHeartbeats 4000000 in
theorem insertion_any (g o c a b : Nat) (d : Array Int) (w : World) (h : Rw w w g o d) (hab : a ≤ b) (hb : b ≤ d.size) (hN0 : d.size < 4611686018427387904) :
    Calls Try.prog 64 #[.slice (some ⟨g, o, none⟩) d.size c, .int .i64 a, .int .i64 b] w fun e w' => e = .returned (.tuple #[]) ∧ Rw w w' g o (insertionSort ltInt d a b) := by
  have H := Lib.hid h
  have HL := Lib.hid less_any
  clear h
  obtain ⟨N, hN⟩ : ∃ N, N = d.size := ⟨_, rfl⟩
  rw [← hN] at hb hN0 ⊢
  have HN := Lib.hid hN
  clear hN
  have ea : IntKind.i64.wrap ((a : Int) + 1) = (a : Int) + 1 := IntWalk.i64_in _ (by omega)
  go_enter Try.func64, Try.ntmps64
  go_wp2_with fail
  go_loopw [6] (fun vi wr => ∃ (i : Nat) (dk : Array Int), vi = .int .i64 i ∧ a + 1 ≤ i ∧ i ≤ b + 1 ∧ dk.size = N ∧ Rw w wr g o dk ∧ insOuter ltInt a b i dk = insOuter ltInt a b (a + 1) d) (fun vi _ => b - (intOf vi).toNat)
  case atStart => exact ⟨a + 1, d, by go_num, Nat.le_refl _, by omega, HN.out.symm, H.out, rfl⟩
  case round =>
    obtain ⟨i, dk, rfl, hai, hib, hsk, hrw, hO⟩ := hrel
    have R := Lib.hid hrw
    have HO := Lib.hid hO
    have HS := Lib.hid hsk
    clear hrw hO hsk
    by_cases hlt : i < b
    · go_wp2_with fail
      go_loopw [7] (fun vj wr2 => ∃ (j : Nat) (dj : Array Int), vj = .int .i64 j ∧ a ≤ j ∧ j ≤ i ∧ dj.size = N ∧ Rw w wr2 g o dj ∧ insInner ltInt a j dj = insInner ltInt a i dk) (fun vj _ => (intOf vj).toNat)
      case atStart => exact ⟨i, dk, rfl, by omega, Nat.le_refl _, HS.out, R.out, rfl⟩
      case round =>
        obtain ⟨j, dj, rfl, haj, hji, hsj, hrw, hI⟩ := hrel
        have R2 := Lib.hid hrw
        have HI := Lib.hid hI
        have HS2 := Lib.hid hsj
        clear hrw hI hsj
        by_cases hja : a < j
        · obtain ⟨k, rfl⟩ : ∃ k, j = k + 1 := ⟨j - 1, by omega⟩
          have hk1 : k + 1 < dj.size := by have := HS2.out; omega
          have c1 := R2.out.cell hk1
          have c0 := R2.out.cell (j := k) (by omega)
          have f1 := R2.out.frozen hk1
          have f0 := R2.out.frozen (j := k) (by omega)
          have e1 : IntKind.i64.wrap (k : Int) = (k : Int) := IntWalk.i64_in _ (by omega)
          have e2 : ((k : Int) + 1).toNat = k + 1 := by omega
          have d1 : decide ((a : Int) < (k : Int) + 1) = true := by simp; omega
          have hSW := fun n => (R2.out.drewN n).swap hk1 (show k < dj.size by omega)
          obtain ⟨x1, hx1⟩ : ∃ x, x = dj[k + 1]! := ⟨_, rfl⟩
          obtain ⟨x0, hx0⟩ : ∃ x, x = dj[k]! := ⟨_, rfl⟩
          rw [← hx1] at c1
          rw [← hx0] at c0
          rw [← hx1, ← hx0] at hSW
          have HSW := Lib.hid hSW
          have HX1 := Lib.hid hx1
          have HX0 := Lib.hid hx0
          clear hSW hx1 hx0
          go_upto_region 4 with fail
          go_quiet (first | (go_at_call 70; refine Calls.quiet_of_same (HL.out _ _ _)))
          cases hl : ltInt x1 x0 with
          | true =>
            go_upto_region 6 with fail
            go_region_with fail
            all_goals
              go_wp2_with fail
              go_roundw
              case rel =>
                refine ⟨k, swp dj (k + 1) k, by go_num, by omega, by omega, by rw [size_swp]; exact HS2.out, HSW.out _, ?_⟩
                rw [← HI.out, insInner_go ltInt a k dj hja (by rw [← HX1.out, ← HX0.out]; exact hl)]
              case measure => simp [intOf]
          | false =>
            go_wp2_with fail
            go_roundw
            case rel =>
              refine ⟨i + 1, dj, by go_num, by omega, by omega, HS2.out, R2.out.drewN _, ?_⟩
              rw [← HO.out, insOuter_go ltInt a b i dk hlt, ← HI.out, insInner_stop ltInt a (k + 1) dj (.inr (by rw [Nat.add_sub_cancel, ← HX1.out, ← HX0.out]; exact hl))]
            case measure => simp [intOf]; omega
        · have d1 : decide ((a : Int) < (j : Int)) = false := by simp; omega
          have d2 : decide (a < j) = false := by simp; omega
          go_upto_region 4 with fail
          go_quiet (first | (go_at_call 70; refine Calls.quiet_of_same (HL.out _ _ _)))
          go_wp2_with fail
          go_roundw
          case rel =>
            refine ⟨i + 1, dj, by go_num, by omega, by omega, HS2.out, R2.out.drewN _, ?_⟩
            rw [← HO.out, insOuter_go ltInt a b i dk hlt, ← HI.out, insInner_stop ltInt a j dj (.inl (by omega))]
          case measure => simp [intOf]; omega
    · go_wp2_with fail
      go_end0
      refine ⟨rfl, ?_⟩
      unfold insertionSort
      rw [← HO.out, insOuter_stop ltInt a b i dk hlt]
      exact R.out
end Go.Proofs.Ytiinjjfggmmkmaa
