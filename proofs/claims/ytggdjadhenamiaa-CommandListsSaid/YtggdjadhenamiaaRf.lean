/- the reference's names of opcodes. -/
import Derived.Test.YtggdjadhenamiaaNc
import Derived.Test.YtggdjadhenamiaaRow
namespace Go.Proofs.Ytggdjadhenamiaa
set_option linter.unusedVariables false
set_option linter.unusedSimpArgs false
open Go.RowKit

theorem row_lit (w : World) (c : Array Value) (t : TypeId) (n : Nat) (f : Nat → Value) (h : c = arr n f) : (w.alloc (.cells c t)).rowIs w.heap.size t n f := by
  subst h
  have := World.rowIs_alloc w (arr n f) t f (fun i hi => by rw [arr_size] at hi; exact arr_get n f i hi)
  rwa [arr_size] at this

theorem row_lit2 (w : World) (o : Obj) (c : Array Value) (t : TypeId) (n : Nat) (f : Nat → Value) (h : c = arr n f) : ((w.alloc o).alloc (.cells c t)).rowIs (w.heap.size + 1) t n f := by
  have := row_lit (w.alloc o) c t n f h
  rwa [World.size_alloc] at this
/-- The two lists. -/
structure CodesAt (W : World) (a : Bool) (g h : Nat) : Prop where
  r1 : W.rowIs g 5 (nCodes a) (fun i => .int .u8 (codeAt a i))
  r2 : W.rowIs h 9 (nCodes a) (fun i => strV (nameOf a (codeAt a i)))
set_option maxRecDepth 100000 in
set_option maxHeartbeats 4000000 in
theorem rcodes_any (a : Bool) (w : World) : Calls Try.prog 35 #[.bool a] w fun e w' =>
    (∃ g h, e = .returned (.tuple #[.slice (some ⟨g, 0, none⟩) (nCodes a) (nCodes a), .slice (some ⟨h, 0, none⟩) (nCodes a) (nCodes a)]) ∧ CodesAt w' a g h) ∧ Below w.heap.size w w' := by
  go_enter Try.func35, Try.ntmps35
  cases a <;>
    (go_wp2_with fail
     go_ret2
     exact ⟨⟨_, _, rfl, ⟨(row_lit _ _ _ _ _ (by kernel_rfl)).alloc _, row_lit2 _ _ _ _ _ _ (by kernel_rfl)⟩⟩, ((Below.refl _ _).alloc (Nat.le_refl _) _).alloc (by simp) _⟩)

set_option maxHeartbeats 1000000 in
theorem rcount_any (a : Bool) (w : World) : Calls Try.prog 23 #[.bool a] w fun e w' => e = .returned (.int .i64 (nCodes a)) ∧ Below w.heap.size w w' := by
  have H := Lib.hid (rcodes_any a w)
  go_enter Try.func23, Try.ntmps23
  go_wp2_with (go_at_call 35; refine H.out.mono ?_; rintro e w1 ⟨⟨g, h, rfl, hc⟩, hb⟩; have HB := Lib.hid hb; clear hc hb)
  go_ret
  exact ⟨rfl, HB.out⟩
set_option maxHeartbeats 1000000 in
theorem rat_any (a : Bool) (i : Nat) (hi : i < nCodes a) (w : World) : Calls Try.prog 24 #[.bool a, .int .i64 i] w fun e w' => e = .returned (.tuple #[.int .u8 (codeAt a i), strV (nameOf a (codeAt a i))]) ∧ Below w.heap.size w w' := by
  have H := Lib.hid (rcodes_any a w)
  have hn := nCodes_le a
  obtain ⟨n, hnn⟩ : ∃ n, n = nCodes a := ⟨_, rfl⟩
  rw [← hnn] at hi H hn
  have HNN := Lib.hid hnn
  clear hnn
  go_enter Try.func24, Try.ntmps24
  go_wp2_with (go_at_call 35; refine H.out.mono ?_; rintro e w1 ⟨⟨g, h, rfl, hc⟩, hb⟩; have HB := Lib.hid hb; have c1 := hc.r1.cell (i := i) (by rw [← HNN.out]; exact hi); have c2 := hc.r2.cell (i := i) (by rw [← HNN.out]; exact hi); clear hc hb)
  go_quiet (fail)
  go_wp2_with fail
  go_ret2
  exact ⟨rfl, below_drewN HB.out _⟩

set_option maxHeartbeats 2000000 in
theorem rname_any (a : Bool) (k : Int) (w : World) : Calls Try.prog 20 #[.bool a, .int .u8 k] w fun e w' => e = .returned (strV (nameOf a k)) ∧ Below w.heap.size w w' := by
  have H := Lib.hid (rcodes_any a w)
  have hn := nCodes_le a
  obtain ⟨n, hnn⟩ : ∃ n, n = nCodes a := ⟨_, rfl⟩
  rw [← hnn] at H hn
  have HNN := Lib.hid hnn
  clear hnn
  go_enter Try.func20, Try.ntmps20
  go_wp2_with (go_at_call 35; refine H.out.mono ?_; rintro e w1 ⟨⟨g, h, rfl, hc⟩, hb⟩; have HB := Lib.hid hb; have HC := Lib.hid hc; clear hc hb)
  go_loop [7] (fun vi => ∃ i : Nat, vi = .int .i64 i ∧ i ≤ n ∧ ∀ j, j < i → codeAt a j ≠ k) (fun vi => n - (intOf vi).toNat)
  case atStart => exact ⟨0, rfl, Nat.zero_le _, fun j hj => by omega⟩
  case round =>
    obtain ⟨i, rfl, hi, hno⟩ := hrel
    have HNO := Lib.hid hno
    clear hno
    by_cases hlt : i < n
    · have c1 := HC.out.r1.cell (i := i) (by rw [← HNN.out]; exact hlt)
      have c2 := HC.out.r2.cell (i := i) (by rw [← HNN.out]; exact hlt)
      obtain ⟨x, hx⟩ : ∃ x, x = codeAt a i := ⟨_, rfl⟩
      rw [← hx] at c1 c2
      have HX := Lib.hid hx
      have e1 : IntKind.i64.wrap ((i : Int) + 1) = (i : Int) + 1 := IntWalk.i64_in _ (by omega)
      clear hx
      by_cases hxk : x = k
      · have hb : (x == k) = true := by simpa using hxk
        subst hxk
        go_wp2_with fail
        go_ret
        exact ⟨rfl, HB.out⟩
      · have hb : (x == k) = false := by simpa using hxk
        have HXK := Lib.hid hxk
        clear hxk
        go_wp2_with fail
        go_round
        case rel => exact ⟨i + 1, by go_num, by omega, fun j hj => by
          by_cases hji : j = i
          · subst hji; rw [← HX.out]; exact HXK.out
          · exact HNO.out j (by omega)⟩
        case measure => simp [intOf]; omega
    · go_wp2_with fail
      go_ret
      refine ⟨?_, HB.out⟩
      have : k ∉ codesL a := fun hk => by
        obtain ⟨j, hj, he⟩ := List.mem_iff_getElem.1 hk
        have hjn : j < n := by rw [HNN.out]; exact hj
        exact HNO.out j (by omega) (by unfold codeAt; rw [List.getD_eq_getElem?_getD, List.getElem?_eq_getElem hj]; exact he)
      rw [(nameOf_not a k this).1]
      rfl
set_option maxHeartbeats 2000000 in
theorem ropcode_any (a : Bool) (s : ByteArray) (w : World) : Calls Try.prog 18 #[.bool a, .string s] w fun e w' => e = .returned (.tuple #[.int .u8 (opcOf a s.toList), .int .i64 (opcErr a s.toList)]) ∧ Below w.heap.size w w' := by
  have H := Lib.hid (rcodes_any a w)
  have hn := nCodes_le a
  obtain ⟨n, hnn⟩ : ∃ n, n = nCodes a := ⟨_, rfl⟩
  rw [← hnn] at H hn
  have HNN := Lib.hid hnn
  clear hnn
  go_enter Try.func18, Try.ntmps18
  go_wp2_with (go_at_call 35; refine H.out.mono ?_; rintro e w1 ⟨⟨g, h, rfl, hc⟩, hb⟩; have HB := Lib.hid hb; have HC := Lib.hid hc; clear hc hb)
  go_loop [8] (fun vi => ∃ i : Nat, vi = .int .i64 i ∧ i ≤ n ∧ ∀ j, j < i → nameOf a (codeAt a j) ≠ s.toList) (fun vi => n - (intOf vi).toNat)
  case atStart => exact ⟨0, rfl, Nat.zero_le _, fun j hj => by omega⟩
  case round =>
    obtain ⟨i, rfl, hi, hno⟩ := hrel
    have HNO := Lib.hid hno
    clear hno
    by_cases hlt : i < n
    · have c1 := HC.out.r1.cell (i := i) (by rw [← HNN.out]; exact hlt)
      have c2 := HC.out.r2.cell (i := i) (by rw [← HNN.out]; exact hlt)
      obtain ⟨x, hx⟩ : ∃ x, x = codeAt a i := ⟨_, rfl⟩
      rw [← hx] at c1 c2
      unfold strV at c2
      have HX := Lib.hid hx
      have e1 : IntKind.i64.wrap ((i : Int) + 1) = (i : Int) + 1 := IntWalk.i64_in _ (by omega)
      clear hx
      by_cases hxk : nameOf a x = s.toList
      · have hb : (nameOf a x == s.toList) = true := by simpa using hxk
        have HXK := Lib.hid hxk
        clear hxk
        go_wp2_with fail
        go_ret2
        obtain ⟨q1, q2⟩ := opc_some (a := a) (s := s.toList) (k := i) (by rw [← HNN.out]; exact hlt) HNO.out (by rw [← HX.out]; exact HXK.out)
        rw [q1, q2, ← HX.out]
        exact ⟨rfl, HB.out⟩
      · have hb : (nameOf a x == s.toList) = false := by simpa using hxk
        have HXK := Lib.hid hxk
        clear hxk
        go_wp2_with fail
        go_round
        case rel => exact ⟨i + 1, by go_num, by omega, fun j hj => by
          by_cases hji : j = i
          · subst hji; rw [← HX.out]; exact HXK.out
          · exact HNO.out j (by omega)⟩
        case measure => simp [intOf]; omega
    · go_wp2_with fail
      go_ret2
      obtain ⟨q1, q2⟩ := opc_none (a := a) (s := s.toList) (fun j hj => HNO.out j (by have := HNN.out; omega))
      rw [q1, q2]
      exact ⟨rfl, HB.out⟩
end Go.Proofs.Ytggdjadhenamiaa
