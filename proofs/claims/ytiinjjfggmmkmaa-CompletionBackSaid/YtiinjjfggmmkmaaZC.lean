/- sort: reverse, the choice of a pivot: the data is a permutation within its range. -/
import Derived.Test.YtiinjjfggmmkmaaZA
namespace Go.Proofs.Ytiinjjfggmmkmaa
set_option linter.unusedVariables false
set_option linter.unusedSimpArgs false
open Go.RowKit Go.Sort

theorem Rw.alloc {w w1 : World} {g o : Nat} {d : Array Int} (h : Rw w w1 g o d) (ob : Obj) : Rw w (w1.alloc ob) g o d := h.below ((Below.refl _ w1).alloc (Nat.le_refl _) _)
theorem Rw.other {w w1 : World} {g o : Nat} {d : Array Int} (h : Rw w w1 g o d) (b i : Nat) (u : Value) (hb : w.heap.size ≤ b) (hg : b ≠ g) : Rw w (w1.setCell ⟨b, i, none⟩ u) g o d := by
  refine ⟨h.keeps.setCell (p := ⟨b, i, none⟩) (fun hc => by have hc : b < w.heap.size := hc; omega) u, fun j hj => ?_⟩
  obtain ⟨h1, h2⟩ := h.row j hj
  exact ⟨by rw [World.cell?_setCell_other _ _ _ _ (fun hc => hg (show b = g from congrArg Addr.block hc))]; exact h1, by rw [World.frozen?_setCell]; exact h2⟩

set_option maxRecDepth 100000 in
set_option maxHeartbeats 4000000 in
theorem reverse_any (g o c a b : Nat) (d : Array Int) (w : World) (h : Rw w w g o d) (hab : a < b) (hb : b ≤ d.size) (hN0 : d.size < 2305843009213693952) :
    Calls Try.prog 68 #[.slice (some ⟨g, o, none⟩) d.size c, .int .i64 a, .int .i64 b] w fun e w' => e = .returned (.tuple #[]) ∧ ∃ d', PermIn a b d d' ∧ Rw w w' g o d' := by
  have H := Lib.hid h
  clear h
  obtain ⟨N, hN⟩ : ∃ N, N = d.size := ⟨_, rfl⟩
  rw [← hN] at hb hN0 ⊢
  have HN := Lib.hid hN
  clear hN
  have e0 : IntKind.i64.wrap ((b : Int) - 1) = ((b - 1 : Nat) : Int) := by rw [IntWalk.i64_in _ (by omega)]; omega
  go_enter Try.func68, Try.ntmps68
  go_wp2_with fail
  go_loopw [6, 7] (fun vi vj wr => ∃ (i j : Nat) (dk : Array Int), vi = .int .i64 i ∧ vj = .int .i64 j ∧ a ≤ i ∧ i ≤ N ∧ j < b ∧ dk.size = N ∧ PermIn a b d dk ∧ Rw w wr g o dk) (fun vi vj _ => (intOf vj - intOf vi).toNat)
  case atStart => exact ⟨a, b - 1, d, rfl, rfl, Nat.le_refl _, by omega, by omega, HN.out.symm, permIn_refl d a b, H.out⟩
  case round =>
    obtain ⟨i, j, dk, rfl, rfl, hai, hiN, hjb, hsk, hP, hrw⟩ := hrel
    have R := Lib.hid hrw
    have HP := Lib.hid hP
    have HS := Lib.hid hsk
    clear hrw hP hsk
    by_cases hlt : i < j
    · have hsz := HS.out
      have h1 : i < dk.size := by omega
      have h2 : j < dk.size := by omega
      have ci := R.out.cell h1
      have cj := R.out.cell h2
      have fi := R.out.frozen h1
      have fj := R.out.frozen h2
      obtain ⟨xi, hxi⟩ : ∃ x, x = dk[i]! := ⟨_, rfl⟩
      obtain ⟨xj, hxj⟩ : ∃ x, x = dk[j]! := ⟨_, rfl⟩
      have hSW := fun n => (R.out.drewN n).swap h1 h2
      rw [← hxi] at ci
      rw [← hxj] at cj
      rw [← hxj, ← hxi] at hSW
      have HSW := Lib.hid hSW
      have e1 : IntKind.i64.wrap ((i : Int) + 1) = (i : Int) + 1 := IntWalk.i64_in _ (by omega)
      have e2 : IntKind.i64.wrap ((j : Int) - 1) = ((j - 1 : Nat) : Int) := by rw [IntWalk.i64_in _ (by omega)]; omega
      have hne : ¬ (o + j = o + i) := by omega
      have hne2 : ¬ (j = i) := by omega
      clear hxi hxj hSW hsz
      go_upto_region 3 with fail
      go_region_with fail
      all_goals
        go_wp2_with fail
        go_roundw
        case rel => exact ⟨i + 1, j - 1, swp dk i j, by go_num, rfl, by omega, by omega, by omega, by rw [size_swp]; exact HS.out, permIn_trans _ _ _ a b HP.out (swp_permIn dk a b i j hai (by omega) (by omega) hjb (by have := HS.out; omega)), HSW.out _⟩
        case measure => simp [intOf]; omega
    · go_wp2_with fail
      go_end0
      exact ⟨rfl, dk, HP.out, R.out⟩

theorem Keeps.fresh {S : Nat → Prop} {a b c : World} (h : Keeps S a b) {T : Nat → Prop} (k : Keeps T b c) (hT : ∀ x, x < a.heap.size → ¬ T x) : Keeps S a c :=
  ⟨k.os.trans h.os, k.tape.trans h.tape, k.output.trans h.output, Nat.le_trans h.size k.size,
    fun i hi hS => (k.block i (Nat.lt_of_lt_of_le hi h.size) (hT i hi)).trans (h.block i hi hS)⟩

/-- The count at sb has become something; the row is as it was. -/
structure Med (w w' : World) (g o sb : Nat) (d : Array Int) : Prop where
  keeps : Keeps (One sb) w w'
  row : Rw w' w' g o d
  cnt : ∃ s, w'.cell? ⟨sb, 0, none⟩ = some (.int .i64 s) ∧ w'.frozen? ⟨sb, 0, none⟩ = false
theorem Med.trans {w w1 w2 : World} {g o sb : Nat} {d : Array Int} (h : Med w w1 g o sb d) (k : Med w1 w2 g o sb d) : Med w w2 g o sb d := ⟨h.keeps.trans k.keeps, k.row, k.cnt⟩

set_option maxRecDepth 100000 in
set_option maxHeartbeats 2000000 in
/-- One of two ways; the count has become something. -/
theorem order2_any (g o c a b sb : Nat) (d : Array Int) (w : World) (h : Med w w g o sb d) (ha : a < d.size) (hb : b < d.size) (hsb : sb ≠ g) :
    Calls Try.prog 81 #[.slice (some ⟨g, o, none⟩) d.size c, .int .i64 a, .int .i64 b, .pointer (some ⟨sb, 0, none⟩)] w fun e w' =>
      (∃ p q : Nat, e = .returned (.tuple #[.int .i64 p, .int .i64 q]) ∧ ((p = a ∧ q = b) ∨ (p = b ∧ q = a))) ∧ Med w w' g o sb d := by
  obtain ⟨s, hc, hf⟩ := h.cnt
  have H := Lib.hid h.row
  have HL := Lib.hid less_any
  have ca := h.row.cell ha
  have cb := h.row.cell hb
  obtain ⟨xa, hxa⟩ : ∃ x, x = d[a]! := ⟨_, rfl⟩
  obtain ⟨xb, hxb⟩ : ∃ x, x = d[b]! := ⟨_, rfl⟩
  rw [← hxa] at ca
  rw [← hxb] at cb
  have HC := Lib.hid hc
  have HF := Lib.hid hf
  clear h hxa hxb
  go_enter Try.func81, Try.ntmps81
  go_upto_region 1 with fail
  go_quiet (first | (go_at_call 70; refine Calls.quiet_of_same (HL.out _ _ _)))
  cases hl : ltInt xb xa with
  | true =>
    go_wp2_with fail
    go_ret2
    refine ⟨⟨b, a, rfl, .inr ⟨rfl, rfl⟩⟩, ((Keeps.refl _ _).drewN _).set1 _ _, ⟨Keeps.refl _ _, fun j hj => ?_⟩, _, World.cell?_setCell_same _ _ _ HC.out, ?_⟩
    · obtain ⟨h1, h2⟩ := H.out.row j hj
      refine ⟨?_, ?_⟩
      · rw [World.cell?_setCell_other _ _ _ _ (fun hc => hsb (show sb = g from congrArg Addr.block hc))]; exact h1
      · rw [World.frozen?_setCell]; exact h2
    · rw [World.frozen?_setCell]; exact HF.out
  | false =>
    go_wp2_with fail
    go_ret2
    exact ⟨⟨a, b, rfl, .inl ⟨rfl, rfl⟩⟩, (Keeps.refl _ _).drewN _, ⟨Keeps.refl _ _, (H.out.drewN _).row⟩, s, HC.out, HF.out⟩

set_option maxRecDepth 100000 in
set_option maxHeartbeats 2000000 in
theorem median_any (g o n c i j k sb : Nat) (d : Array Int) (w : World) (h : Med w w g o sb d) (hn : n = d.size) (hi : i < n) (hj : j < n) (hk : k < n) (hsb : sb ≠ g) :
    Calls Try.prog 79 #[.slice (some ⟨g, o, none⟩) n c, .int .i64 i, .int .i64 j, .int .i64 k, .pointer (some ⟨sb, 0, none⟩)] w fun e w' =>
      (∃ p : Nat, e = .returned (.int .i64 p) ∧ (p = i ∨ p = j ∨ p = k)) ∧ Med w w' g o sb d := by
  have H := Lib.hid h
  have HO := Lib.hid (show ∀ (a b : Nat) W, Med W W g o sb d → a < n → b < n → Calls Try.prog 81 #[.slice (some ⟨g, o, none⟩) n c, .int .i64 a, .int .i64 b, .pointer (some ⟨sb, 0, none⟩)] W fun e w' =>
      (∃ p q : Nat, e = .returned (.tuple #[.int .i64 p, .int .i64 q]) ∧ ((p = a ∧ q = b) ∨ (p = b ∧ q = a))) ∧ Med W w' g o sb d from fun a b W hm h1 h2 => by
    subst hn; exact order2_any g o c a b sb d W hm h1 h2 hsb)
  clear h hn
  go_enter Try.func79, Try.ntmps79
  go_wp2_with fail
  refine (HO.out i j _ H.out hi hj).mono ?_
  rintro e w1 ⟨⟨p1, q1, rfl, h1⟩, m1⟩
  have M1 := Lib.hid m1
  clear m1
  go_wp2_with fail
  refine (HO.out q1 k _ ⟨Keeps.refl _ _, M1.out.row, M1.out.cnt⟩ (by omega) hk).mono ?_
  rintro e w2 ⟨⟨p2, q2, rfl, h2⟩, m2⟩
  have M2 := Lib.hid (M1.out.trans m2)
  clear m2
  go_wp2_with fail
  refine (HO.out p1 p2 _ ⟨Keeps.refl _ _, M2.out.row, M2.out.cnt⟩ (by omega) (by omega)).mono ?_
  rintro e w3 ⟨⟨p3, q3, rfl, h3⟩, m3⟩
  have M3 := Lib.hid (M2.out.trans m3)
  clear m3
  go_wp2_with fail
  go_ret
  exact ⟨⟨q3, rfl, by omega⟩, M3.out⟩

set_option maxRecDepth 100000 in
set_option maxHeartbeats 2000000 in
theorem medianAdjacent_any (g o n c i sb : Nat) (d : Array Int) (w : World) (h : Med w w g o sb d) (hn : n = d.size) (h1 : 1 ≤ i) (hi : i + 1 < n) (hN0 : n < 2305843009213693952) (hsb : sb ≠ g) :
    Calls Try.prog 78 #[.slice (some ⟨g, o, none⟩) n c, .int .i64 i, .pointer (some ⟨sb, 0, none⟩)] w fun e w' =>
      (∃ p : Nat, e = .returned (.int .i64 p) ∧ i - 1 ≤ p ∧ p ≤ i + 1) ∧ Med w w' g o sb d := by
  have e1 : IntKind.i64.wrap ((i : Int) + 1) = (i : Int) + 1 := IntWalk.i64_in _ (by omega)
  have e2 : IntKind.i64.wrap ((i : Int) - 1) = ((i - 1 : Nat) : Int) := by rw [IntWalk.i64_in _ (by omega)]; omega
  have HM := Lib.hid (median_any g o n c (i - 1) i (i + 1) sb d w h hn (by omega) (by omega) hi hsb)
  clear h hn
  go_enter Try.func78, Try.ntmps78
  go_wp2_with fail
  refine HM.out.mono ?_
  rintro e w1 ⟨⟨p, rfl, hp⟩, m1⟩
  have M1 := Lib.hid m1
  clear m1
  go_wp2_with fail
  go_ret
  exact ⟨⟨p, rfl, by rcases hp with hp | hp | hp <;> omega, by rcases hp with hp | hp | hp <;> omega⟩, M1.out⟩

set_option maxRecDepth 100000 in
set_option maxHeartbeats 4000000 in
theorem pivot_any (g o c a b : Nat) (d : Array Int) (w : World) (h : Rw w w g o d) (hab : a + 12 < b) (hb : b ≤ d.size) (hN0 : d.size < 2305843009213693952) :
    Calls Try.prog 67 #[.slice (some ⟨g, o, none⟩) d.size c, .int .i64 a, .int .i64 b] w fun e w' =>
      (∃ (p : Nat) (hint : Int), e = .returned (.tuple #[.int .i64 p, .int .i64 hint]) ∧ a ≤ p ∧ p < b) ∧ Rw w w' g o d := by
  have hg : g < w.heap.size := World.block_lt_of_cell? _ _ (h.cell (j := 0) (by omega))
  have H := Lib.hid h
  obtain ⟨sb, hsb⟩ : ∃ sb, sb = w.heap.size := ⟨_, rfl⟩
  have hsg : sb ≠ g := by omega
  have hm0 : Med (w.alloc (.cells #[.int .i64 0] 3)) (w.alloc (.cells #[.int .i64 0] 3)) g o sb d := by
    refine ⟨Keeps.refl _ _, (h.alloc _).self, 0, ?_, ?_⟩
    · rw [hsb, World.cell?_alloc_new]; rfl
    · rw [hsb]; go_simp
  obtain ⟨W0, hW⟩ : ∃ W, W = w.alloc (.cells #[.int .i64 0] 3) := ⟨_, rfl⟩
  have HR0 := Lib.hid (show Rw w W0 g o d by rw [hW]; exact h.alloc _)
  have HB0 := Lib.hid (show Below w.heap.size w W0 by rw [hW]; exact (Below.refl _ w).alloc (Nat.le_refl _) _)
  rw [← hW] at hm0
  have M0 := Lib.hid hm0
  have HW := Lib.hid hW
  have HSB := Lib.hid hsb
  obtain ⟨N, hN⟩ : ∃ N, N = d.size := ⟨_, rfl⟩
  rw [← hN] at hb hN0 ⊢
  have HME := Lib.hid (show ∀ (i j k : Nat) W, Med W W g o sb d → i < N → j < N → k < N → Calls Try.prog 79 #[.slice (some ⟨g, o, none⟩) N c, .int .i64 i, .int .i64 j, .int .i64 k, .pointer (some ⟨sb, 0, none⟩)] W fun e w' =>
      (∃ p : Nat, e = .returned (.int .i64 p) ∧ (p = i ∨ p = j ∨ p = k)) ∧ Med W w' g o sb d from fun i j k W hm h1 h2 h3 => median_any g o N c i j k sb d W hm hN h1 h2 h3 hsg)
  have HMA := Lib.hid (show ∀ (i : Nat) W, Med W W g o sb d → 1 ≤ i → i + 1 < N → Calls Try.prog 78 #[.slice (some ⟨g, o, none⟩) N c, .int .i64 i, .pointer (some ⟨sb, 0, none⟩)] W fun e w' =>
      (∃ p : Nat, e = .returned (.int .i64 p) ∧ i - 1 ≤ p ∧ p ≤ i + 1) ∧ Med W w' g o sb d from fun i W hm h1 h2 => medianAdjacent_any g o N c i sb d W hm hN h1 h2 hN0 hsg)
  obtain ⟨l, hl⟩ : ∃ l, l = b - a := ⟨_, rfl⟩
  obtain ⟨i, hi⟩ : ∃ i, i = a + l / 4 * 1 := ⟨_, rfl⟩
  obtain ⟨j, hj⟩ : ∃ j, j = a + l / 4 * 2 := ⟨_, rfl⟩
  obtain ⟨k, hk⟩ : ∃ k, k = a + l / 4 * 3 := ⟨_, rfl⟩
  have e0 : IntKind.i64.wrap ((b : Int) - (a : Int)) = (l : Int) := by rw [IntWalk.i64_in _ (by omega)]; omega
  have q0 : IntKind.i64.wrap ((l : Int) / 4) = ((l / 4 : Nat) : Int) := by rw [IntWalk.i64_in _ (by omega)]; omega
  obtain ⟨q, hq⟩ : ∃ q, q = l / 4 := ⟨_, rfl⟩
  rw [← hq] at q0 hi hj hk
  have m1 : IntKind.i64.wrap (q : Int) = (q : Int) := IntWalk.i64_in _ (by omega)
  have m2 : IntKind.i64.wrap ((q : Int) * 2) = (q : Int) * 2 := IntWalk.i64_in _ (by omega)
  have m3 : IntKind.i64.wrap ((q : Int) * 3) = (q : Int) * 3 := IntWalk.i64_in _ (by omega)
  have a1 : IntKind.i64.wrap ((a : Int) + (q : Int)) = (i : Int) := by rw [IntWalk.i64_in _ (by omega)]; omega
  have a2 : IntKind.i64.wrap ((a : Int) + (q : Int) * 2) = (j : Int) := by rw [IntWalk.i64_in _ (by omega)]; omega
  have a3 : IntKind.i64.wrap ((a : Int) + (q : Int) * 3) = (k : Int) := by rw [IntWalk.i64_in _ (by omega)]; omega
  have d8 : decide ((8 : Int) ≤ (l : Int)) = true := by simp; omega
  have b1 : a ≤ i ∧ 1 ≤ i ∧ i < b := by omega
  have b2 : a ≤ j ∧ j < b := by omega
  have b3 : a ≤ k ∧ k + 1 < b := by omega
  have HAB := Lib.hid (show a < i ∧ i < j ∧ j < k ∧ k + 1 < b by omega)
  clear h hm0 hW hsb hN hi hj hk hq hl b1 b2 b3
  go_enter Try.func67, Try.ntmps67
  go_upto_region 3 with fail
  rw [← HW.out, ← HSB.out]
  go_upto_region 7 with fail
  obtain ⟨b1, b2, b3, b4⟩ := HAB.out
  by_cases h50 : 50 ≤ l
  · have d50 : decide ((50 : Int) ≤ (l : Int)) = true := by simp; omega
    go_wp2_with fail
    refine (HMA.out i _ M0.out (by omega) (by omega)).mono ?_
    rintro e w1 ⟨⟨p1, rfl, h11, h12⟩, m1⟩
    have M1 := Lib.hid m1
    clear m1
    go_wp2_with fail
    refine (HMA.out j _ ⟨Keeps.refl _ _, M1.out.row, M1.out.cnt⟩ (by omega) (by omega)).mono ?_
    rintro e w2 ⟨⟨p2, rfl, h21, h22⟩, m2⟩
    have M2 := Lib.hid (M1.out.trans m2)
    clear m2
    go_wp2_with fail
    refine (HMA.out k _ ⟨Keeps.refl _ _, M2.out.row, M2.out.cnt⟩ (by omega) (by omega)).mono ?_
    rintro e w3 ⟨⟨p3, rfl, h31, h32⟩, m3⟩
    have M3 := Lib.hid (M2.out.trans m3)
    clear m3
    go_wp2_with fail
    refine (HME.out p1 p2 p3 _ ⟨Keeps.refl _ _, M3.out.row, M3.out.cnt⟩ (by omega) (by omega) (by omega)).mono ?_
    rintro e W9 ⟨⟨p9, rfl, hp⟩, m4⟩
    have M9 := Lib.hid (M3.out.trans m4)
    have hp9 : a ≤ p9 ∧ p9 < b := by rcases hp with hp | hp | hp <;> omega
    clear m4
    obtain ⟨s, hc, hf⟩ := M9.out.cnt
    have HR9 := Lib.hid (show Rw w W9 g o d from ⟨Keeps.fresh HR0.out.keeps M9.out.keeps (fun x hx e => by have e : x = sb := e; have := HSB.out; omega), M9.out.row.row⟩)
    by_cases hs0 : s = 0
    · have hs0' : (s == 0) = true := by simpa using hs0
      go_wp2_with fail
      go_ret2
      exact ⟨⟨p9, _, rfl, hp9.1, hp9.2⟩, HR9.out⟩
    · have hs0' : (s == 0) = false := by simpa using hs0
      by_cases hs12 : s = 12
      · have hs12' : (s == 12) = true := by simpa using hs12
        go_wp2_with fail
        go_ret2
        exact ⟨⟨p9, _, rfl, hp9.1, hp9.2⟩, HR9.out⟩
      · have hs12' : (s == 12) = false := by simpa using hs12
        go_wp2_with fail
        go_ret2
        exact ⟨⟨p9, _, rfl, hp9.1, hp9.2⟩, HR9.out⟩
  · have d50 : decide ((50 : Int) ≤ (l : Int)) = false := by simp; omega
    go_wp2_with fail
    refine (HME.out i j k _ M0.out (by omega) (by omega) (by omega)).mono ?_
    rintro e W9 ⟨⟨p9, rfl, hp⟩, m4⟩
    have M9 := Lib.hid m4
    have hp9 : a ≤ p9 ∧ p9 < b := by rcases hp with hp | hp | hp <;> omega
    clear m4
    obtain ⟨s, hc, hf⟩ := M9.out.cnt
    have HR9 := Lib.hid (show Rw w W9 g o d from ⟨Keeps.fresh HR0.out.keeps M9.out.keeps (fun x hx e => by have e : x = sb := e; have := HSB.out; omega), M9.out.row.row⟩)
    by_cases hs0 : s = 0
    · have hs0' : (s == 0) = true := by simpa using hs0
      go_wp2_with fail
      go_ret2
      exact ⟨⟨p9, _, rfl, hp9.1, hp9.2⟩, HR9.out⟩
    · have hs0' : (s == 0) = false := by simpa using hs0
      by_cases hs12 : s = 12
      · have hs12' : (s == 12) = true := by simpa using hs12
        go_wp2_with fail
        go_ret2
        exact ⟨⟨p9, _, rfl, hp9.1, hp9.2⟩, HR9.out⟩
      · have hs12' : (s == 12) = false := by simpa using hs12
        go_wp2_with fail
        go_ret2
        exact ⟨⟨p9, _, rfl, hp9.1, hp9.2⟩, HR9.out⟩
end Go.Proofs.Ytiinjjfggmmkmaa
