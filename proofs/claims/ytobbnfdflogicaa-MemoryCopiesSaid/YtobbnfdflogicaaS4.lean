/- memory: the specification's Fill. -/
import Derived.Test.YtobbnfdflogicaaS3
namespace Go.Proofs.Ytobbnfdflogicaa
open Go.RowKit

set_option maxHeartbeats 1000000 in
theorem rfill_err (S : Nat → Prop) (v : Value) (n : Nat) (f : Nat → Int) (L : List (Nat × Nat)) (addr k x : Int) (w : World) (h : RefAt S w v n f L) (hn : n ≤ 4194304)
    (ha : 0 ≤ addr) (ha' : addr ≤ 18446744073709551615) (hk : -9223372036854775808 ≤ k) (hk' : k ≤ 9223372036854775807) (hc : (chk n addr k != 0) = true) :
   Calls Try.prog 36 #[v, .int .u64 addr, .int .i64 k, .int .u8 x] w fun e w' => e = .returned (.tuple #[v, .int .i64 (chk n addr k)]) ∧ Below w.heap.size w w' := by
  obtain ⟨ao, c, al, cl, rfl, h2, h3, h4, h5, h6, h7, h8⟩ := h
  generalize hx : chk n addr k = z at *
  have HX := Lib.hid hx
  clear h7 h8 h6 hx
  go_enter Try.func36, Try.ntmps36
  go_wp2_with (go_at_call 38; refine (rcheck_any (some ao) n c _ addr k _ hn ha ha' hk hk').mono ?_; rw [HX.out]; rintro e w1 ⟨rfl, hb⟩; have HB := Lib.hid hb; have q0 : w1.cell? ⟨w.heap.size, 0, none⟩ = some (.slice (some ao) n c) := (hb.cell (p := ⟨w.heap.size, 0, none⟩) (by simp; omega)).trans (by go_simp); have q1 : w1.cell? ⟨w.heap.size, 1, none⟩ = some (.slice al L.length cl) := (hb.cell (p := ⟨w.heap.size, 1, none⟩) (by simp; omega)).trans (by go_simp); have y0 : w1.cell? ⟨w.heap.size + 1, 0, none⟩ = some (.slice none 0 0) := (hb.cell (p := ⟨w.heap.size + 1, 0, none⟩) (by simp)).trans (by go_simp); have y1 : w1.cell? ⟨w.heap.size + 1, 1, none⟩ = some (.slice none 0 0) := (hb.cell (p := ⟨w.heap.size + 1, 1, none⟩) (by simp)).trans (by go_simp); have z0 : w1.frozen? ⟨w.heap.size + 1, 0, none⟩ = false := (hb.frozen (p := ⟨w.heap.size + 1, 0, none⟩) (by simp)).trans (by go_simp); have z1 : w1.frozen? ⟨w.heap.size + 1, 1, none⟩ = false := (hb.frozen (p := ⟨w.heap.size + 1, 1, none⟩) (by simp)).trans (by go_simp); have hl2 : w.heap.size + 1 < w1.heap.size := (by have := hb.size; simp at this; omega); clear hb)
  refine bodyPost_ret (v := .tuple #[.agg #[.slice (some ao) n c, .slice al L.length cl], .int .i64 z]) (by simp [results, Try.results36, go_sem, y0, y1]) rfl ⟨rfl, ?_⟩
  exact (((((Below.refl w.heap.size w).alloc (Nat.le_refl _) _).alloc (by simp) _).trans (HB.out.mono (by simp; omega))).setCell (p := ⟨w.heap.size + 1, 0, none⟩) (by simp) _).setCell (p := ⟨w.heap.size + 1, 1, none⟩) (by simp) _

set_option maxRecDepth 100000 in
set_option maxHeartbeats 2000000 in
theorem rfill_ok (S : Nat → Prop) (v : Value) (n : Nat) (f : Nat → Int) (L : List (Nat × Nat)) (addr m : Nat) (x : Int) (w : World) (h : RefAt S w v n f L) (hn : n ≤ 4194304) (hf : addr + m ≤ n) (hL : L.length ≤ 1000) (hS : ∀ j, S j → j < w.heap.size) :
   Calls Try.prog 36 #[v, .int .u64 addr, .int .i64 m, .int .u8 x] w (RW S n f L addr m (fun _ => x) w) := by
  have HREF := Lib.hid h
  have hc : chk n addr m = 0 := by unfold chk; rw [if_neg (by omega), if_pos (by omega)]
  obtain ⟨ao, c, al, cl, rfl, h2, h3, h4, h5, h6, h7, h8⟩ := h
  have HC := Lib.hid hc
  have hmk := run_make_row' (P := Try.prog) 33 5 (.int .u8 0) 1 Try.underlying33 infoU8 rfl .i64 .i64 m (by omega) (by omega)
  clear h7 h8 h6 hc
  go_enter Try.func36, Try.ntmps36
  go_wp2_with (go_at_call 38; refine (rcheck_any (some ao) n c _ addr m _ hn (by omega) (by omega) (by omega) (by omega)).mono ?_; rw [HC.out]; rintro e w1 ⟨rfl, hb⟩; have HB := Lib.hid hb; have hl2 : w.heap.size + 1 < w1.heap.size := (by have := hb.size; simp at this; omega); clear hb)
  have hr2 : (w1.alloc (.cells (madeCells #[.int .u8 0] m) 5)).rowIs w1.heap.size 5 m (fun q => if q < 0 then .int .u8 x else .int .u8 0) := (World.rowIs_made w1 (.int .u8 0) m 5).congr fun i _ => by rw [if_neg (by omega)]
  have hb2 : Below w.heap.size w (w1.alloc (.cells (madeCells #[.int .u8 0] m) 5)) := ((((Below.refl w.heap.size w).alloc (Nat.le_refl _) _).alloc (by simp) _).trans (HB.out.mono (by simp; omega))).alloc (by omega) _
  have hrow : (w1.alloc (.cells (madeCells #[.int .u8 0] m) 5)).rowIs (w.heap.size + 1) 52 2 (fun _ => .slice none 0 0) := by
    have h0 := World.rowIs_alloc (w.alloc (.cells #[.slice (some ao) n c, .slice al L.length cl] 52)) #[.slice none 0 0, .slice none 0 0] 52 (fun _ => .slice none 0 0) (fun i hi => by match i, hi with | 0, _ => rfl | 1, _ => rfl)
    rw [World.size_alloc] at h0
    exact World.rowIs.alloc (h0.of_block (HB.out.block _ (by simp))) _
  have hhr : (w1.alloc (.cells (madeCells #[.int .u8 0] m) 5)).rowIs w.heap.size 52 2 (fun i => if i = 0 then .slice (some ao) n c else .slice al L.length cl) := by
    have h0 := World.rowIs_alloc w #[.slice (some ao) n c, .slice al L.length cl] 52 (fun i => if i = 0 then .slice (some ao) n c else .slice al L.length cl) (fun i hi => by match i, hi with | 0, _ => rfl | 1, _ => rfl)
    exact World.rowIs.alloc ((World.rowIs.alloc h0 (.cells #[.slice none 0 0, .slice none 0 0] 52)).of_block (HB.out.block _ (by simp; omega))) _
  obtain ⟨W2, hW2⟩ : ∃ W2, W2 = w1.alloc (.cells (madeCells #[.int .u8 0] m) 5) := ⟨_, rfl⟩
  rw [← hW2] at hr2 hb2 hrow hhr ⊢
  have HR2 := Lib.hid hr2
  have HB2 := Lib.hid hb2
  have HROW := Lib.hid hrow
  have HHR := Lib.hid hhr
  clear hW2 hr2 hb2 hrow hhr hmk
  go_loopw [12] (fun i wr => ∃ j : Nat, j ≤ m ∧ i = .int .i64 j ∧ Keeps (One w1.heap.size) W2 wr ∧ wr.rowIs w1.heap.size 5 m (fun q => if q < j then .int .u8 x else .int .u8 0)) (fun i _ => m - (intOf i).toNat)
  case atStart => exact ⟨0, by omega, rfl, Keeps.refl _ _, HR2.out⟩
  case round =>
    obtain ⟨j, hj, rfl, hk, hr⟩ := hrel
    have HK := Lib.hid hk
    have HR := Lib.hid hr
    clear hk hr
    by_cases hlt : j < m
    · have c0 := HR.out.cell (i := j) hlt
      have z0 := HR.out.frozen j
      have e1 : IntKind.i64.wrap ((j : Int) + 1) = ((j + 1 : Nat) : Int) := by rw [IntWalk.i64_in _ (by omega)]; rfl
      rw [if_neg (by omega)] at c0
      go_wp2_with fail
      go_roundw
      case rel => exact ⟨j + 1, by omega, by go_num, HK.out.set1 _ _, (HR.out.set j _).congr fun i hi => by by_cases e : i = j <;> by_cases e2 : i < j <;> by_cases e3 : i < j + 1 <;> simp [e, e2, e3] <;> omega⟩
      case measure => simp [intOf]; omega
    · obtain rfl : j = m := by omega
      have hrr := HK.out.rowIs HHR.out (fun e => by have e : w.heap.size = w1.heap.size := e; omega)
      have hrv := HK.out.rowIs HROW.out (fun e => by have e : w.heap.size + 1 = w1.heap.size := e; omega)
      have q0 : wr.cell? ⟨w.heap.size, 0, none⟩ = some (.slice (some ao) n c) := hrr.cell (i := 0) (by omega)
      have q1 : wr.cell? ⟨w.heap.size, 1, none⟩ = some (.slice al L.length cl) := hrr.cell (i := 1) (by omega)
      have HBR := Lib.hid (HB2.out.trans (HK.out.below (B := w.heap.size) HB2.out.size (fun k hk e => by have e : k = w1.heap.size := e; omega)))
      have HRV := Lib.hid hrv
      clear hrr hrv
      go_wp2_with fail
      refine (rwrite_any (fun k => S k ∨ k = w.heap.size + 1) _ n f L addr j j (some ⟨w1.heap.size, 0, none⟩) (fun _ => x) wr ((HREF.out.more (T := fun k => S k ∨ k = w.heap.size + 1) (fun b hb h => h.elim id (fun e => by omega))).below HBR.out) hn (by omega) (by omega) ⟨by omega, fun h0 => ⟨w1.heap.size, 0, rfl, fun h => h.elim (fun h => by have := hS _ h; omega) (fun e => by omega), fun i hi => by have h := HR.out.cell (i := i) hi; rw [if_pos hi] at h; rw [Nat.zero_add]; exact h⟩⟩ hL (fun k hk => hk.elim (fun h => Nat.lt_of_lt_of_le (hS k h) HBR.out.size) (fun e => by have := HRV.out.lt; omega))).mono ?_
      rintro e w4 ⟨v', rfl, hr4, hb4⟩
      have hrr := hr4
      obtain ⟨ao4, c4, al4, cl4, rfl, -⟩ := hrr
      have HR4 := Lib.hid hr4
      have HB4 := Lib.hid hb4
      have hrv := HRV.out.of_block (hb4.block _ HRV.out.lt)
      have t3 : w4.cell? ⟨w.heap.size + 1, 0, none⟩ = some (.slice none 0 0) := hrv.cell (i := 0) (by omega)
      have t4 : w4.cell? ⟨w.heap.size + 1, 1, none⟩ = some (.slice none 0 0) := hrv.cell (i := 1) (by omega)
      have t5 := hrv.frozen 0
      have t6 := hrv.frozen 1
      clear hr4 hb4 hrv
      go_wp2_with fail
      obtain ⟨w7, hw7⟩ : ∃ w7, w7 = (w4.setCell ⟨w.heap.size + 1, 0, none⟩ (.slice (some ao4) n c4)).setCell ⟨w.heap.size + 1, 1, none⟩ (.slice al4 (wl' n L addr j).length cl4) := ⟨_, rfl⟩
      have k7 : Keeps (One (w.heap.size + 1)) w4 w7 := by rw [hw7]; exact ((Keeps.refl _ w4).set1 _ _).set1 _ _
      have u0 : w7.cell? ⟨w.heap.size + 1, 0, none⟩ = some (.slice (some ao4) n c4) := by rw [hw7]; go_simp
      have u1 : w7.cell? ⟨w.heap.size + 1, 1, none⟩ = some (.slice al4 (wl' n L addr j).length cl4) := by rw [hw7]; go_simp
      rw [← hw7]
      clear hw7
      refine bodyPost_ret (v := .tuple #[.agg #[.slice (some ao4) n c4, .slice al4 (wl' n L addr j).length cl4], .int .i64 (chk n addr j)]) (by simp [results, Try.results36, go_sem, u0, u1]) rfl ⟨_, rfl, ?_, ?_⟩
      · exact (HR4.out.kept k7 (fun b hb => .inr hb)).more (fun b _ h => .inl h)
      · exact (HBR.out.trans (HB4.out.mono HBR.out.size)).trans (k7.below (B := w.heap.size) (Nat.le_trans HBR.out.size HB4.out.size) (fun k hk e => by have e : k = w.heap.size + 1 := e; omega))

theorem rfill_any (S : Nat → Prop) (v : Value) (n : Nat) (f : Nat → Int) (L : List (Nat × Nat)) (addr k x : Int) (w : World) (h : RefAt S w v n f L) (hn : n ≤ 4194304)
    (ha : 0 ≤ addr) (ha' : addr ≤ 18446744073709551615) (hk : -9223372036854775808 ≤ k) (hk' : k ≤ 9223372036854775807) (hL : L.length ≤ 1000) (hS : ∀ j, S j → j < w.heap.size) :
   Calls Try.prog 36 #[v, .int .u64 addr, .int .i64 k, .int .u8 x] w (RW S n f L addr k (fun _ => x) w) := by
  by_cases hc : chk n addr k = 0
  · obtain ⟨a, m, rfl, rfl, hf⟩ := chk_ok ha hc
    exact rfill_ok S v n f L a m x w h hn hf hL hS
  · refine (rfill_err S v n f L addr k x w h hn ha ha' hk hk' (by simpa using hc)).mono ?_
    rintro e w' ⟨rfl, hb⟩
    refine ⟨v, rfl, ?_, hb⟩
    unfold wf' wl'
    rw [if_neg hc, if_neg hc]
    exact h.below hb

/-- The program's Write and Fill, whatever is written. -/
def PW (b B n : Nat) (f : Nat → Int) (L : List (Nat × Nat)) (addr k : Int) (s : Nat → Int) (w : World) (e : Ending) (w' : World) : Prop :=
  e = .returned (.int .i64 (chk n addr k)) ∧ MemAt w' b B n (wf' n f addr k s) (wl' n L addr k) ∧ Keeps (Two b B) w w'

theorem pwrite_any (b B n : Nat) (f : Nat → Int) (L : List (Nat × Nat)) (addr : Int) (k bc : Nat) (bo : Option Addr) (s : Nat → Int) (w : World) (h : MemAt w b B n f L)
    (ha : 0 ≤ addr) (ha' : addr ≤ 18446744073709551615) (hs : Src (Two b B) w bo k s) (hL : L.length ≤ 1000) :
   Calls Try.prog 12 #[.pointer (some ⟨b, 0, none⟩), .int .u64 addr, .slice bo k bc] w (PW b B n f L addr k s w) := by
  by_cases hc : chk n addr k = 0
  · obtain ⟨a, m, rfl, hm, hf⟩ := chk_ok ha hc
    obtain rfl : k = m := by omega
    refine (write_ok b B n f L a k bc bo s w h (by omega) hf hs).mono ?_
    rintro e w' ⟨rfl, hk, hm⟩
    refine ⟨by rw [hc], ?_, hk⟩
    unfold wf' wl'
    rw [if_pos hc, if_pos hc, Int.toNat_natCast, Int.toNat_natCast]
    exact hm
  · obtain ⟨a, rfl⟩ := Int.eq_ofNat_of_zero_le ha
    have h3 : chk n a k = 3 := by
      unfold chk at hc ⊢
      rw [if_neg (by omega)] at hc ⊢
      split at hc
      · exact absurd rfl hc
      · rename_i h; rw [if_neg h]
    have hlt : n < a + k := by
      unfold chk at h3
      rw [if_neg (by omega)] at h3
      split at h3
      · omega
      · omega
    refine (write_err b B n f L a k bc bo w h (by omega) (by have := hs.small; omega) hlt).mono ?_
    rintro e w' ⟨rfl, hb⟩
    refine ⟨by rw [h3], ?_, (Keeps.of_below (S := fun _ => False) hb).mono (fun _ _ h => h.elim)⟩
    unfold wf' wl'
    rw [if_neg hc, if_neg hc]
    exact h.below hb

theorem pfill_any (b B n : Nat) (f : Nat → Int) (L : List (Nat × Nat)) (addr k x : Int) (w : World) (h : MemAt w b B n f L)
    (ha : 0 ≤ addr) (ha' : addr ≤ 18446744073709551615) (hk : -9223372036854775808 ≤ k) (hk' : k ≤ 9223372036854775807) (hL : L.length ≤ 1000) :
   Calls Try.prog 26 #[.pointer (some ⟨b, 0, none⟩), .int .u64 addr, .int .i64 k, .int .u8 x] w (PW b B n f L addr k (fun _ => x) w) := by
  by_cases hc : chk n addr k = 0
  · obtain ⟨a, m, rfl, rfl, hf⟩ := chk_ok ha hc
    refine (fill_ok b B n f L a m x w h (by omega) hf).mono ?_
    rintro e w' ⟨rfl, hk, hm⟩
    refine ⟨by rw [hc], ?_, hk⟩
    unfold wf' wl'
    rw [if_pos hc, if_pos hc, Int.toNat_natCast, Int.toNat_natCast]
    exact hm
  · refine (fill_err b B n f L addr k x w h ha ha' hk hk' (by simpa using hc)).mono ?_
    rintro e w' ⟨rfl, hb⟩
    refine ⟨rfl, ?_, (Keeps.of_below (S := fun _ => False) hb).mono (fun _ _ h => h.elim)⟩
    unfold wf' wl'
    rw [if_neg hc, if_neg hc]
    exact h.below hb
end Go.Proofs.Ytobbnfdflogicaa
