/- prp: Spans of any arguments; the chapter's examples. -/
import Derived.Test.YtfploifafpifnaaEA
import Derived.Test.YtfploifafpifnaaBH
import Derived.Test.YtfploifafpifnaaRA
namespace Go.Proofs.Ytfploifafpifnaa
set_option linter.unusedVariables false
set_option linter.unusedSimpArgs false
open Go.RowKit

theorem spans_all (x y n : Int) (b B size : Nat) (f : Nat → Int) (L : List (Nat × Nat)) (w : World) (hM : MemAt w b B size f L) (hs : 0 < size) (hx0 : 0 ≤ x) (hx1 : x ≤ 18446744073709551615) (hy0 : 0 ≤ y) (hy1 : y ≤ 18446744073709551615) (hby : Bytes f) :
    Calls Try.prog 16 #[.pointer (some ⟨b, 0, none⟩), .int .u64 x, .int .u64 y, .int .i64 n] w (SpPost w (spansP f size x y n)) := by
  by_cases h0 : n < 0 ∨ 1048576 < n
  · have e : spansP f size x y n = .error 2 := by unfold spansP; rw [if_pos h0]
    rw [e]
    exact spans_arg x y n b B size f L w hM hs h0
  · by_cases hz : n = 0
    · have e : spansP f size x y n = .ok [] := by unfold spansP; rw [if_neg h0, if_pos hz]
      rw [e]
      exact spans_zero x y n b B size f L w hM hs hz
    · exact spans_pos x y n b B size f L w hM hs hx0 hx1 hy0 hy1 hby (by omega) (by omega) _ rfl
theorem new4 (w : World) : Calls Try.prog 15 #[.int .i64 4] w fun e w' => ∃ b B, e = .returned (.tuple #[.pointer (some ⟨b, 0, none⟩), .int .i64 0]) ∧ w.heap.size ≤ b ∧ w.heap.size ≤ B ∧ Below w.heap.size w w' ∧ MemAt w' b B 16384 (fun _ => 0) [] := by
  have h := new_ok 4 w (by omega) (by omega)
  rw [show 4 * 4096 = 16384 by omega] at h
  exact h
theorem bytes_wB (g : Nat → Int) : Bytes (wB g) := wB_bd g
theorem spAt_fresh (w : World) (l : List Spn) (T : TypeId) : SpAt (w.alloc (.cells (spC l).toArray T)) (some ⟨w.heap.size, 0, none⟩) l := by
  intro i hi
  refine ⟨_, 0, rfl, fun j v hv => ?_⟩
  have h1 := spC_get l i hi j v hv
  have h0 : 0 < (spC l).toArray.size := by
    have := (List.getElem?_eq_some_iff.1 h1).1
    simpa using Nat.lt_of_le_of_lt (Nat.zero_le _) this
  have h2 := (ArrAt.fresh w (spC l).toArray T h0).cell (i := i * 3 + j) (v := v) (by simpa using h1)
  rw [Nat.zero_add]
  exact h2
theorem wkSp (x y n no : Int) (b B : Nat) (f : Nat → Int) (L : List (Nat × Nat)) (R : Except Int (List Spn)) (hR : spansP f 16384 x y n = R) (hx : 0 ≤ x ∧ x ≤ 100000) (hy : 0 ≤ y ∧ y ≤ 100000) (hb : Bytes f) (ao : Option Addr) (m c : Nat) (w : World) (hM : MemAt w b B 16384 f L) (hW : SpW R no m ao w) :
    Calls Try.prog 20 #[.pointer (some ⟨b, 0, none⟩), .int .u64 x, .int .u64 y, .int .i64 n, .int .i64 no, .slice ao m c] w fun e w' => e = .returned (.bool true) ∧ Below w.heap.size w w' :=
  spansL_of _ x y n no R ao m c w (by rw [← hR]; exact spans_all x y n b B 16384 f L w hM (by omega) hx.1 (by omega) hy.1 (by omega) hb) hW
/-- the pages of the examples -/
def wkP (i : Nat) : Int := if i = 1 then 4096 else if i = 2 then 8192 else if i = 3 then 4096 else 0
theorem wkP_bd (i : Nat) : wkP i % 4096 = 0 ∧ 0 ≤ wkP i ∧ wkP i ≤ 18446744073709551615 := by
  unfold wkP
  repeat' split
  all_goals omega
def wkF : Nat → Int := upd (fun _ => 0) 12272 16 (wB fun e => wkP (1 + e))
theorem wk1 (f : Nat → Int) : spansP f 16384 100 0 50 = .ok [⟨100, 50, false⟩] := by rfl
theorem wk2 (f : Nat → Int) : spansP f 16384 4000 8192 200 = .ok [⟨4000, 96, false⟩, ⟨8192, 104, false⟩] := by rfl
theorem wk3 (f : Nat → Int) : spansP f 16384 102 0 4 = .error 150 := by rfl
theorem wk4 (f : Nat → Int) : spansP f 16384 4000 8200 200 = .error 150 := by rfl
theorem wk5 (f : Nat → Int) : spansP f 16384 16380 4 5 = .error 150 := by rfl
theorem wk6 : spansP wkF 16384 0 12272 9000 = .ok [⟨0, 4096, false⟩, ⟨4096, 4096, false⟩, ⟨8192, 808, false⟩] := by rfl
theorem wkC1 (b B : Nat) (x : World) (hM : MemAt x b B 16384 (fun _ => 0) []) :
    Calls Try.prog 20 #[.pointer (some ⟨b, 0, none⟩), .int .u64 100, .int .u64 0, .int .i64 50, .int .i64 0, .slice (some ⟨x.heap.size, 0, none⟩) 1 1] (x.alloc (.cells #[.int .u64 100, .int .i64 50, .bool false] 49)) fun e w' => e = .returned (.bool true) ∧ Below x.heap.size x w' := by
  have hb : Below x.heap.size x (x.alloc (.cells #[.int .u64 100, .int .i64 50, .bool false] 49)) := (Below.refl _ _).alloc (Nat.le_refl _) _
  refine (wkSp 100 0 50 0 b B (fun _ => 0) [] _ (wk1 _) (by omega) (by omega) bytes0 _ 1 1 (x.alloc (.cells #[.int .u64 100, .int .i64 50, .bool false] 49)) (hM.below hb) (⟨rfl, rfl, by decide, spAt_fresh x [⟨100, 50, false⟩] 49⟩)).mono ?_
  rintro e w' ⟨rfl, h⟩
  exact ⟨rfl, hb.trans (h.mono hb.size)⟩
theorem wkC2 (b B : Nat) (x : World) (hM : MemAt x b B 16384 (fun _ => 0) []) :
    Calls Try.prog 20 #[.pointer (some ⟨b, 0, none⟩), .int .u64 4000, .int .u64 8192, .int .i64 200, .int .i64 0, .slice (some ⟨x.heap.size, 0, none⟩) 2 2] (x.alloc (.cells #[.int .u64 4000, .int .i64 96, .bool false, .int .u64 8192, .int .i64 104, .bool false] 49)) fun e w' => e = .returned (.bool true) ∧ Below x.heap.size x w' := by
  have hb : Below x.heap.size x (x.alloc (.cells #[.int .u64 4000, .int .i64 96, .bool false, .int .u64 8192, .int .i64 104, .bool false] 49)) := (Below.refl _ _).alloc (Nat.le_refl _) _
  refine (wkSp 4000 8192 200 0 b B (fun _ => 0) [] _ (wk2 _) (by omega) (by omega) bytes0 _ 2 2 (x.alloc (.cells #[.int .u64 4000, .int .i64 96, .bool false, .int .u64 8192, .int .i64 104, .bool false] 49)) (hM.below hb) (⟨rfl, rfl, by decide, spAt_fresh x [⟨4000, 96, false⟩, ⟨8192, 104, false⟩] 49⟩)).mono ?_
  rintro e w' ⟨rfl, h⟩
  exact ⟨rfl, hb.trans (h.mono hb.size)⟩
theorem wkC3 (b B : Nat) (x : World) (hM : MemAt x b B 16384 (fun _ => 0) []) :
    Calls Try.prog 20 #[.pointer (some ⟨b, 0, none⟩), .int .u64 102, .int .u64 0, .int .i64 4, .int .i64 150, .slice none 0 0] x fun e w' => e = .returned (.bool true) ∧ Below x.heap.size x w' := by
  have hb : Below x.heap.size x x := Below.refl _ _
  refine (wkSp 102 0 4 150 b B (fun _ => 0) [] _ (wk3 _) (by omega) (by omega) bytes0 _ 0 0 x (hM.below hb) (⟨rfl, rfl⟩)).mono ?_
  rintro e w' ⟨rfl, h⟩
  exact ⟨rfl, hb.trans (h.mono hb.size)⟩
theorem wkC4 (b B : Nat) (x : World) (hM : MemAt x b B 16384 (fun _ => 0) []) :
    Calls Try.prog 20 #[.pointer (some ⟨b, 0, none⟩), .int .u64 4000, .int .u64 8200, .int .i64 200, .int .i64 150, .slice none 0 0] x fun e w' => e = .returned (.bool true) ∧ Below x.heap.size x w' := by
  have hb : Below x.heap.size x x := Below.refl _ _
  refine (wkSp 4000 8200 200 150 b B (fun _ => 0) [] _ (wk4 _) (by omega) (by omega) bytes0 _ 0 0 x (hM.below hb) (⟨rfl, rfl⟩)).mono ?_
  rintro e w' ⟨rfl, h⟩
  exact ⟨rfl, hb.trans (h.mono hb.size)⟩
theorem wkC5 (b B : Nat) (x : World) (hM : MemAt x b B 16384 (fun _ => 0) []) :
    Calls Try.prog 20 #[.pointer (some ⟨b, 0, none⟩), .int .u64 16380, .int .u64 4, .int .i64 5, .int .i64 150, .slice none 0 0] x fun e w' => e = .returned (.bool true) ∧ Below x.heap.size x w' := by
  have hb : Below x.heap.size x x := Below.refl _ _
  refine (wkSp 16380 4 5 150 b B (fun _ => 0) [] _ (wk5 _) (by omega) (by omega) bytes0 _ 0 0 x (hM.below hb) (⟨rfl, rfl⟩)).mono ?_
  rintro e w' ⟨rfl, h⟩
  exact ⟨rfl, hb.trans (h.mono hb.size)⟩
theorem wkC6 (b B : Nat) (x : World) (hM : MemAt x b B 16384 wkF [(12272, 16)]) :
    Calls Try.prog 20 #[.pointer (some ⟨b, 0, none⟩), .int .u64 0, .int .u64 12272, .int .i64 9000, .int .i64 0, .slice (some ⟨x.heap.size, 0, none⟩) 3 3] (x.alloc (.cells #[.int .u64 0, .int .i64 4096, .bool false, .int .u64 4096, .int .i64 4096, .bool false, .int .u64 8192, .int .i64 808, .bool false] 49)) fun e w' => e = .returned (.bool true) ∧ Below x.heap.size x w' := by
  have hb : Below x.heap.size x (x.alloc (.cells #[.int .u64 0, .int .i64 4096, .bool false, .int .u64 4096, .int .i64 4096, .bool false, .int .u64 8192, .int .i64 808, .bool false] 49)) := (Below.refl _ _).alloc (Nat.le_refl _) _
  refine (wkSp 0 12272 9000 0 b B wkF [(12272, 16)] _ wk6 (by omega) (by omega) (bytes_upd bytes0 (bytes_wB _)) _ 3 3 (x.alloc (.cells #[.int .u64 0, .int .i64 4096, .bool false, .int .u64 4096, .int .i64 4096, .bool false, .int .u64 8192, .int .i64 808, .bool false] 49)) (hM.below hb) (⟨rfl, rfl, by decide, spAt_fresh x [⟨0, 4096, false⟩, ⟨4096, 4096, false⟩, ⟨8192, 808, false⟩] 49⟩)).mono ?_
  rintro e w' ⟨rfl, h⟩
  exact ⟨rfl, hb.trans (h.mono hb.size)⟩
theorem uAt_fresh (w : World) (A : Array Value) (n : Nat) (l : Nat → Int) (T : TypeId) (h : ∀ i, i < n → A[i]? = some (.int .u64 (l i))) : UAt (w.alloc (.cells A T)) (some ⟨w.heap.size, 0, none⟩) n l := fun h0 => by
  have hp : 0 < A.size := by
    have := (Array.getElem?_eq_some_iff.1 (h 0 h0)).1
    omega
  refine ⟨_, 0, rfl, fun i hi => ?_⟩
  rw [Nat.zero_add]
  exact (ArrAt.fresh w A T hp).cell (h i hi)
theorem wkB1 (b B : Nat) (x : World) (hM : MemAt x b B 16384 (fun _ => 0) []) :
    Calls Try.prog 10 #[.pointer (some ⟨b, 0, none⟩), .slice (some ⟨x.heap.size, 0, none⟩) 1 1, .slice (some ⟨x.heap.size + 1, 0, none⟩) 3 3, .int .i64 0, .int .i64 9000] ((x.alloc (.cells #[.int .u64 12272] 31)).alloc (.cells #[.int .u64 0, .int .u64 4096, .int .u64 8192] 31)) fun e w' => e = .returned (.tuple #[.int .u64 0, .int .u64 12272, .int .i64 0]) ∧ Keeps (Two b B) x w' ∧ MemAt w' b B 16384 wkF [(12272, 16)] := by
  obtain ⟨W1, h1⟩ : ∃ z, z = x.alloc (.cells #[.int .u64 12272] 31) := ⟨_, rfl⟩
  have s1 : x.heap.size + 1 = W1.heap.size := by rw [h1]; simp
  have u1 : UAt W1 (some ⟨x.heap.size, 0, none⟩) 1 (fun _ => 12272) := by rw [h1]; exact uAt_fresh x _ 1 _ _ (fun i hi => by match i, hi with | 0, _ => rfl)
  have b1 : Below x.heap.size x W1 := by rw [h1]; exact (Below.refl _ _).alloc (Nat.le_refl _) _
  rw [← h1, s1]
  obtain ⟨W2, h2⟩ : ∃ z, z = W1.alloc (.cells #[.int .u64 0, .int .u64 4096, .int .u64 8192] 31) := ⟨_, rfl⟩
  have u2 : UAt W2 (some ⟨W1.heap.size, 0, none⟩) 3 wkP := by
    rw [h2]
    exact uAt_fresh W1 _ 3 _ _ (fun i hi => by match i, hi with | 0, _ => rfl | 1, _ => rfl | 2, _ => rfl)
  have b2 : Below W1.heap.size W1 W2 := by rw [h2]; exact (Below.refl _ _).alloc (Nat.le_refl _) _
  rw [← h2]
  have b3 := b1.trans (b2.mono b1.size)
  have hM2 := hM.below b3
  have hX : planP (fun _ => 12272) wkP 3 16384 2 0 1 [] = .ok [⟨12272, fun e => wkP (1 + e), 2⟩] := by rfl
  refine (bld_lists (some ⟨x.heap.size, 0, none⟩) (some ⟨W1.heap.size, 0, none⟩) 1 3 1 3 (fun _ => 12272) wkP 0 9000 b B 16384 (fun _ => 0) [] W2 hM2 (by omega) (u1.below b2) u2 (fun i hi => by show (0 : Int) ≤ 12272 ∧ (12272 : Int) ≤ _; omega) (fun i hi => ⟨(wkP_bd i).2.1, (wkP_bd i).2.2⟩) (by omega) (by omega) (by omega) (by omega) (by omega) (by omega) ⟨by omega, by omega, by omega, by omega, by omega, by decide, fun i hi => ?_, fun i hi => ?_⟩ (by omega) (by omega) (by omega) (by omega) (by simp) ?_ 1 (by decide) (by omega) _ hX).mono ?_
  · exact (wkP_bd i).1
  · exact ⟨by show (12272 : Int) % 8 = 0; omega, .inl (by omega)⟩
  · intro a e hb
    cases e
    rcases hb with e | e
    · have := hM.lt; have e : x.heap.size = b := e; omega
    · have := hM.lt'; have e : x.heap.size = B := e; omega
  · rintro e w' (⟨D, hD, rfl, hk, hm⟩ | ⟨hD, -⟩)
    · cases hD
      exact ⟨rfl, (Keeps.of_below b3).trans hk, hm⟩
    · cases hD
theorem wkB2 (b B : Nat) (f : Nat → Int) (L : List (Nat × Nat)) (x : World) (hM : MemAt x b B 16384 f L) :
    Calls Try.prog 10 #[.pointer (some ⟨b, 0, none⟩), .slice (some ⟨x.heap.size, 0, none⟩) 1 1, .slice (some ⟨x.heap.size + 1, 0, none⟩) 4 4, .int .i64 0, .int .i64 13000] ((x.alloc (.cells #[.int .u64 12280] 31)).alloc (.cells #[.int .u64 0, .int .u64 4096, .int .u64 8192, .int .u64 4096] 31)) fun e w' => e = .returned (.tuple #[.int .u64 0, .int .u64 0, .int .i64 7]) ∧ Below x.heap.size x w' := by
  obtain ⟨W1, h1⟩ : ∃ z, z = x.alloc (.cells #[.int .u64 12280] 31) := ⟨_, rfl⟩
  have s1 : x.heap.size + 1 = W1.heap.size := by rw [h1]; simp
  have u1 : UAt W1 (some ⟨x.heap.size, 0, none⟩) 1 (fun _ => 12280) := by rw [h1]; exact uAt_fresh x _ 1 _ _ (fun i hi => by match i, hi with | 0, _ => rfl)
  have b1 : Below x.heap.size x W1 := by rw [h1]; exact (Below.refl _ _).alloc (Nat.le_refl _) _
  rw [← h1, s1]
  obtain ⟨W2, h2⟩ : ∃ z, z = W1.alloc (.cells #[.int .u64 0, .int .u64 4096, .int .u64 8192, .int .u64 4096] 31) := ⟨_, rfl⟩
  have u2 : UAt W2 (some ⟨W1.heap.size, 0, none⟩) 4 wkP := by
    rw [h2]
    exact uAt_fresh W1 _ 4 _ _ (fun i hi => by match i, hi with | 0, _ => rfl | 1, _ => rfl | 2, _ => rfl | 3, _ => rfl)
  have b2 : Below W1.heap.size W1 W2 := by rw [h2]; exact (Below.refl _ _).alloc (Nat.le_refl _) _
  rw [← h2]
  have b3 := b1.trans (b2.mono b1.size)
  have hM2 := hM.below b3
  refine (bld_full (some ⟨x.heap.size, 0, none⟩) (some ⟨W1.heap.size, 0, none⟩) 1 4 1 4 (fun _ => 12280) wkP 0 13000 b B 16384 f L W2 hM2 (by omega) (u1.below b2) u2 (fun i hi => by show (0 : Int) ≤ 12280 ∧ (12280 : Int) ≤ _; omega) (fun i hi => ⟨(wkP_bd i).2.1, (wkP_bd i).2.2⟩) (by omega) (by omega) (by omega) (by omega) (by omega) (by omega) ⟨by omega, by omega, by omega, by omega, by omega, by decide, fun i hi => ?_, fun i hi => ?_⟩ (by omega) (.inr (by decide))).mono ?_
  · exact (wkP_bd i).1
  · exact ⟨by show (12280 : Int) % 8 = 0; omega, .inl (by omega)⟩
  · rintro e w' ⟨rfl, h⟩
    exact ⟨rfl, b3.trans (h.mono b3.size)⟩
/-- The examples so far: nothing older is touched, the memory is there. -/
structure Wk (w : World) (b B : Nat) (f : Nat → Int) (L : List (Nat × Nat)) (W : World) : Prop where
  below : Below w.heap.size w W
  mem : MemAt W b B 16384 f L
theorem Wk.go {w : World} {b B : Nat} {f : Nat → Int} {L : List (Nat × Nat)} {W W' : World} (h : Wk w b B f L W) (hb : Below W.heap.size W W') : Wk w b B f L W' := ⟨h.below.trans (hb.mono h.below.size), h.mem.below hb⟩
set_option maxRecDepth 100000 in
set_option maxHeartbeats 8000000 in
theorem works_ok (w : World) : Calls Try.prog 9 #[] w fun e w' => e = .returned (.bool true) ∧ Below w.heap.size w w' := by
  have hsp : ∀ (a n : Int) (w : World), (Instr.build 49 #[(0, .int .u64 a), (1, .int .i64 n)]).run Try.prog w = .ok (.agg #[.int .u64 a, .int .i64 n, .bool false]) w := fun a n w => by kernel_rfl
  go_enter Try.func9, Try.ntmps9
  go_upto_region 2 with (go_at_call 15; refine (new4 _).mono ?_; rintro e W1 ⟨b, B, rfl, hb1, hB1, hbl1, hM1⟩; have K1 := Lib.hid (show Wk w b B (fun _ => 0) [] W1 from ⟨hbl1, hM1⟩); clear hbl1 hM1)
  go_upto_region 4 with (first
    | (go_at_call 14; refine (num_any _ _).mono ?_; rintro e w' ⟨rfl, rfl⟩)
    | (go_at_call 17; (with_reducible refine (count_any 0 0 0 _ (by omega) (by omega) (by decide)).mono ?_); rintro e w' ⟨rfl, rfl⟩)
    | (go_at_call 17; (with_reducible refine (count_any 4092 4 1 _ (by omega) (by omega) (by decide)).mono ?_); rintro e w' ⟨rfl, rfl⟩)
    | (go_at_call 17; (with_reducible refine (count_any 4 4096 2 _ (by omega) (by omega) (by decide)).mono ?_); rintro e w' ⟨rfl, rfl⟩)
    | (go_at_call 17; (with_reducible refine (count_any 0 4096 1 _ (by omega) (by omega) (by decide)).mono ?_); rintro e w' ⟨rfl, rfl⟩)
    | (go_at_call 24; refine (lists_any 12280 4 2 _ (by omega) (by omega) (by omega) (by omega) (by decide)).mono ?_; rintro e w' ⟨rfl, rfl⟩))
  go_upto_region 6 with (first
    | (go_at_call 20; refine (wkC5 b B x56 KX56.out.mem).mono ?_; rintro e x61 ⟨rfl, hx⟩; have KX61 := Lib.hid (KX56.out.go hx); clear hx)
    | (go_at_call 20; refine (wkC4 b B x51 KX51.out.mem).mono ?_; rintro e x56 ⟨rfl, hx⟩; have KX56 := Lib.hid (KX51.out.go hx); clear hx)
    | (go_at_call 20; refine (wkC3 b B x46 KX46.out.mem).mono ?_; rintro e x51 ⟨rfl, hx⟩; have KX51 := Lib.hid (KX46.out.go hx); clear hx)
    | (go_at_call 20; refine (wkC2 b B x39 KX39.out.mem).mono ?_; rintro e x46 ⟨rfl, hx⟩; have KX46 := Lib.hid (KX39.out.go hx); clear hx)
    | (go_at_call 20; refine (wkC1 b B W1 K1.out.mem).mono ?_; rintro e x39 ⟨rfl, hx⟩; have KX39 := Lib.hid (K1.out.go hx); clear hx))
  go_upto_region 7 with (go_at_call 10; refine (wkB1 b B x61 KX61.out.mem).mono ?_; rintro e x68 ⟨rfl, hk, hm⟩; have KX68 := Lib.hid (show Wk w b B _ _ x68 from ⟨KX61.out.below.trans (hk.below (B := w.heap.size) KX61.out.below.size (fun j hj e => by rcases e with e | e <;> omega)), hm⟩); clear hk hm)
  go_upto_region 8 with (go_at_call 10; refine (wkB2 b B _ _ x68 KX68.out.mem).mono ?_; rintro e x76 ⟨rfl, hx⟩; have KX76 := Lib.hid (KX68.out.go hx); clear hx)
  go_wp2_with (first
    | (go_at_call 14; refine (num_any _ _).mono ?_; rintro e w' ⟨rfl, rfl⟩)
    | (go_at_call 20; refine (wkC6 b B x76 KX76.out.mem).mono ?_; rintro e x102 ⟨rfl, hx⟩; have KX102 := Lib.hid (KX76.out.go hx); clear hx))
  go_ret
  exact ⟨rfl, KX102.out.below⟩
end Go.Proofs.Ytfploifafpifnaa
