/- the reference's codes and names. -/
import Derived.Test.YtiinjjfggmmkmaaNc
import Derived.Test.YtiinjjfggmmkmaaRow
namespace Go.Proofs.Ytiinjjfggmmkmaa
set_option linter.unusedVariables false
set_option linter.unusedSimpArgs false
open Go.RowKit

theorem row_lit (w : World) (c : Array Value) (t : TypeId) (n : Nat) (f : Nat → Value) (h : c = arr n f) : (w.alloc (.cells c t)).rowIs w.heap.size t n f := by
  subst h
  have := World.rowIs_alloc w (arr n f) t f (fun i hi => by rw [arr_size] at hi; exact arr_get n f i hi)
  rwa [arr_size] at this
set_option maxRecDepth 100000 in
set_option maxHeartbeats 4000000 in
theorem rcodes_any (w : World) : Calls Try.prog 14 #[] w fun e w' =>
    (∃ g, e = .returned (.slice (some ⟨g, 0, none⟩) 84 84) ∧ w.heap.size ≤ g ∧ w'.rowIs g 3 84 (fun i => .int .i64 (codeAt i))) ∧ Below w.heap.size w w' := by
  go_enter Try.func14, Try.ntmps14
  go_wp2_with fail
  go_ret
  exact ⟨⟨_, rfl, Nat.le_refl _, row_lit _ _ _ _ _ (by kernel_rfl)⟩, (Below.refl _ _).alloc (Nat.le_refl _) _⟩
set_option maxRecDepth 100000 in
set_option maxHeartbeats 4000000 in
theorem rnames_any (w : World) : Calls Try.prog 38 #[] w fun e w' =>
    (∃ g, e = .returned (.slice (some ⟨g, 0, none⟩) 84 84) ∧ w'.rowIs g 9 84 (fun i => strV (nameOf (codeAt i)))) ∧ Below w.heap.size w w' := by
  go_enter Try.func38, Try.ntmps38
  go_wp2_with fail
  go_ret
  exact ⟨⟨_, rfl, row_lit _ _ _ _ _ (by kernel_rfl)⟩, (Below.refl _ _).alloc (Nat.le_refl _) _⟩

/-- the index of a code, or -1 -/
def ixB (k : Int) : Int := match (List.range 84).find? fun i => codeAt i == k with | some i => (i : Nat) | none => -1
theorem ix_some {k : Int} {i : Nat} (hi : i < 84) (h : ∀ j, j < i → codeAt j ≠ k) (hk : codeAt i = k) : ixB k = (i : Nat) := by
  have : (List.range 84).find? (fun i => codeAt i == k) = some i := by
    rw [List.find?_range_eq_some]
    exact ⟨by simpa using hk, List.mem_range.2 hi, fun j hj => by simpa using h j hj⟩
  unfold ixB
  rw [this]
theorem ix_none {k : Int} (h : ∀ j, j < 84 → codeAt j ≠ k) : ixB k = -1 := by
  have : (List.range 84).find? (fun i => codeAt i == k) = none := by
    rw [List.find?_eq_none]
    intro i hi
    simpa using h i (List.mem_range.1 hi)
  unfold ixB
  rw [this]
theorem codeAt_mem {i : Nat} (hi : i < 84) : codeAt i ∈ codesL := by
  unfold codeAt
  have h : i < codesL.length := by rw [codes_len]; exact hi
  rw [List.getD_eq_getElem?_getD, List.getElem?_eq_getElem h]
  exact List.getElem_mem h
theorem mem_codeAt {k : Int} (h : k ∈ codesL) : ∃ i, i < 84 ∧ codeAt i = k := by
  obtain ⟨j, hj, he⟩ := List.mem_iff_getElem.1 h
  exact ⟨j, by rw [← codes_len]; exact hj, by unfold codeAt; rw [List.getD_eq_getElem?_getD, List.getElem?_eq_getElem hj]; exact he⟩
/-- the two ways of an index -/
theorem ix_spec (k : Int) : (∃ i : Nat, i < 84 ∧ ixB k = (i : Nat) ∧ codeAt i = k ∧ lstB k = true) ∨ (ixB k = -1 ∧ lstB k = false ∧ nameOf k = []) := by
  by_cases h : k ∈ codesL
  · left
    cases hf : (List.range 84).find? (fun i => codeAt i == k) with
    | none =>
      obtain ⟨i, hi, he⟩ := mem_codeAt h
      rw [List.find?_eq_none] at hf
      exact absurd (by simpa using he) (hf i (List.mem_range.2 hi))
    | some i =>
      have h1 := List.mem_range.1 (List.mem_of_find?_eq_some hf)
      have h2 := List.find?_some hf
      refine ⟨i, h1, ?_, by simpa using h2, decide_eq_true h⟩
      unfold ixB
      rw [hf]
  · right
    refine ⟨ix_none fun j hj e => h (e ▸ codeAt_mem hj), decide_eq_false h, (nameOf_not k h).1⟩

set_option maxHeartbeats 2000000 in
theorem rindex_any (k : Int) (w : World) : Calls Try.prog 39 #[.int .i64 k] w fun e w' => e = .returned (.int .i64 (ixB k)) ∧ Below w.heap.size w w' := by
  have H := Lib.hid (rcodes_any w)
  go_enter Try.func39, Try.ntmps39
  go_wp2_with (go_at_call 14; refine H.out.mono ?_; rintro e w1 ⟨⟨g, rfl, hg, hc⟩, hb⟩; have HB := Lib.hid hb; have HC := Lib.hid hc; clear hc hb hg)
  go_loop [4] (fun vi => ∃ i : Nat, vi = .int .i64 i ∧ i ≤ 84 ∧ ∀ j, j < i → codeAt j ≠ k) (fun vi => 84 - (intOf vi).toNat)
  case atStart => exact ⟨0, rfl, Nat.zero_le _, fun j hj => by omega⟩
  case round =>
    obtain ⟨i, rfl, hi, hno⟩ := hrel
    have HNO := Lib.hid hno
    clear hno
    by_cases hlt : i < 84
    · have c1 := HC.out.cell (i := i) hlt
      obtain ⟨x, hx⟩ : ∃ x, x = codeAt i := ⟨_, rfl⟩
      rw [← hx] at c1
      have HX := Lib.hid hx
      have e1 : IntKind.i64.wrap ((i : Int) + 1) = (i : Int) + 1 := IntWalk.i64_in _ (by omega)
      clear hx
      by_cases hxk : x = k
      · have hb : (x == k) = true := by simpa using hxk
        have HXK := Lib.hid hxk
        clear hxk
        go_wp2_with fail
        go_ret
        rw [ix_some hlt HNO.out (HX.out.symm.trans HXK.out)]
        exact ⟨rfl, HB.out⟩
      · have hb : (x == k) = false := by simpa using hxk
        have HXK := Lib.hid hxk
        clear hxk
        go_wp2_with fail
        go_round
        case rel => exact ⟨i + 1, by go_num, by omega, fun j hj => by
          by_cases hji : j = i
          · subst hji; rw [← HX.out]; exact HXK.out
          · exact HNO.out j (by omega)⟩
        case measure => simp [intOf]; omega
    · obtain rfl : i = 84 := by omega
      go_wp2_with fail
      go_ret
      rw [ix_none HNO.out]
      exact ⟨rfl, HB.out⟩
set_option maxHeartbeats 2000000 in
theorem rname_any (k : Int) (w : World) : Calls Try.prog 21 #[.int .i64 k] w fun e w' => e = .returned (strV (nameOf k)) ∧ Below w.heap.size w w' := by
  have H := Lib.hid (rindex_any k w)
  have HN := Lib.hid rnames_any
  rcases ix_spec k with ⟨i, hi, e1, e2, -⟩ | ⟨e1, -, e3⟩
  · have q : decide ((i : Int) < 0) = false := decide_eq_false (by omega)
    rw [e1] at H
    have E2 := Lib.hid e2
    clear e1 e2
    go_enter Try.func21, Try.ntmps21
    go_wp2_with (first
      | (go_at_call 39; refine H.out.mono ?_; rintro e w1 ⟨rfl, hb⟩; have HB := Lib.hid hb; clear hb)
      | (go_at_call 38; refine (HN.out _).mono ?_; rintro e w2 ⟨⟨g, rfl, hc⟩, hb⟩; have HB2 := Lib.hid (HB.out.trans (hb.mono HB.out.size)); have c2 := hc.cell (i := i) hi; clear hc hb))
    go_ret
    rw [E2.out]
    exact ⟨rfl, HB2.out⟩
  · rw [e1] at H
    have E3 := Lib.hid e3
    clear e1 e3
    go_enter Try.func21, Try.ntmps21
    go_wp2_with (go_at_call 39; refine H.out.mono ?_; rintro e w1 ⟨rfl, hb⟩; have HB := Lib.hid hb; clear hb)
    go_ret
    rw [E3.out]
    exact ⟨rfl, HB.out⟩
set_option maxHeartbeats 2000000 in
theorem rlisted_any (k : Int) (w : World) : Calls Try.prog 23 #[.int .i64 k] w fun e w' => e = .returned (.bool (lstB k)) ∧ Below w.heap.size w w' := by
  have H := Lib.hid (rindex_any k w)
  rcases ix_spec k with ⟨i, hi, e1, -, e2⟩ | ⟨e1, e2, -⟩
  · have q : decide ((0 : Int) ≤ (i : Int)) = true := decide_eq_true (by omega)
    rw [e1] at H
    rw [e2]
    clear e1 e2
    go_enter Try.func23, Try.ntmps23
    go_wp2_with (go_at_call 39; refine H.out.mono ?_; rintro e w1 ⟨rfl, hb⟩; have HB := Lib.hid hb; clear hb)
    go_ret
    exact ⟨rfl, HB.out⟩
  · rw [e1] at H
    rw [e2]
    clear e1 e2
    go_enter Try.func23, Try.ntmps23
    go_wp2_with (go_at_call 39; refine H.out.mono ?_; rintro e w1 ⟨rfl, hb⟩; have HB := Lib.hid hb; clear hb)
    go_ret
    exact ⟨rfl, HB.out⟩
set_option maxHeartbeats 2000000 in
theorem rfind_any (s : ByteArray) (w : World) : Calls Try.prog 19 #[.string s] w fun e w' => e = .returned (.tuple #[.int .i64 (opcOf s.toList), .int .i64 (opcErr s.toList)]) ∧ Below w.heap.size w w' := by
  have H := Lib.hid (rnames_any w)
  have HCO := Lib.hid rcodes_any
  go_enter Try.func19, Try.ntmps19
  go_wp2_with (go_at_call 38; refine H.out.mono ?_; rintro e w1 ⟨⟨g, rfl, hc⟩, hb⟩; have HB := Lib.hid hb; have HC := Lib.hid hc; clear hc hb)
  go_loop [5] (fun vi => ∃ i : Nat, vi = .int .i64 i ∧ i ≤ 84 ∧ ∀ j, j < i → nameOf (codeAt j) ≠ s.toList) (fun vi => 84 - (intOf vi).toNat)
  case atStart => exact ⟨0, rfl, Nat.zero_le _, fun j hj => by omega⟩
  case round =>
    obtain ⟨i, rfl, hi, hno⟩ := hrel
    have HNO := Lib.hid hno
    clear hno
    by_cases hlt : i < 84
    · have c1 := HC.out.cell (i := i) hlt
      obtain ⟨x, hx⟩ : ∃ x, x = codeAt i := ⟨_, rfl⟩
      rw [← hx] at c1
      unfold strV at c1
      have HX := Lib.hid hx
      have e1 : IntKind.i64.wrap ((i : Int) + 1) = (i : Int) + 1 := IntWalk.i64_in _ (by omega)
      clear hx
      by_cases hxk : nameOf x = s.toList
      · have hb : (nameOf x == s.toList) = true := by simpa using hxk
        have HXK := Lib.hid hxk
        clear hxk
        go_wp2_with (go_at_call 14; refine (HCO.out _).mono ?_; rintro e w2 ⟨⟨g2, rfl, hg2, hc2⟩, hb2⟩; have HB2 := Lib.hid (HB.out.trans (hb2.mono HB.out.size)); have c2 := hc2.cell (i := i) hlt; clear hc2 hb2 hg2)
        go_ret2
        obtain ⟨q1, q2⟩ := opc_some (s := s.toList) (k := i) hlt HNO.out (by rw [← HX.out]; exact HXK.out)
        rw [q1, q2]
        exact ⟨rfl, HB2.out⟩
      · have hb : (nameOf x == s.toList) = false := by simpa using hxk
        have HXK := Lib.hid hxk
        clear hxk
        go_wp2_with fail
        go_round
        case rel => exact ⟨i + 1, by go_num, by omega, fun j hj => by
          by_cases hji : j = i
          · subst hji; rw [← HX.out]; exact HXK.out
          · exact HNO.out j (by omega)⟩
        case measure => simp [intOf]; omega
    · obtain rfl : i = 84 := by omega
      go_wp2_with fail
      go_ret2
      obtain ⟨q1, q2⟩ := opc_none (s := s.toList) HNO.out
      rw [q1, q2]
      exact ⟨rfl, HB.out⟩
end Go.Proofs.Ytiinjjfggmmkmaa
