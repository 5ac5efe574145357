/- sort: bits.Len, the generator, breaking patterns. -/
import Derived.Test.YtiinjjfggmmkmaaZC
import Derived.Laws.MathBits
import Derived.Laws.BitsAllLaws
import Derived.Laws.Bits64
import Derived.Laws.Bits64b
namespace Go.Proofs.Ytiinjjfggmmkmaa
set_option linter.unusedVariables false
set_option linter.unusedSimpArgs false
open Go.RowKit Go.Sort

theorem bl (m : Nat) (h : m < 256) : m < 2 ^ bitLen m ∧ (0 < m → 2 ^ bitLen m ≤ 2 * m) ∧ bitLen m ≤ 8 := by
  have all : ∀ m : Fin 256, m.val < 2 ^ bitLen m.val ∧ (0 < m.val → 2 ^ bitLen m.val ≤ 2 * m.val) ∧ bitLen m.val ≤ 8 := by decide +kernel
  exact all ⟨m, h⟩

set_option maxRecDepth 100000 in
set_option maxHeartbeats 4000000 in
/-- bits.Len64 of a number below 2^24: some L with n < 2^L ≤ 2 n. -/
theorem len64_any (n : Nat) (hn : n < 16777216) (w : World) : Calls Try.prog 74 #[.int .u64 n] w fun e w' => (∃ L : Nat, e = .returned (.int .i64 L) ∧ L ≤ 24 ∧ n < 2 ^ L ∧ (0 < n → 2 ^ L ≤ 2 * n)) ∧ w' = w := by
  have d0 : decide ((4294967296 : Int) ≤ (n : Int)) = false := by simp; omega
  by_cases h1 : 65536 ≤ n
  · have d1 : decide ((65536 : Int) ≤ (n : Int)) = true := by simp; omega
    have d2 : decide ((256 : Int) ≤ (n : Int) / 65536) = false := by simp; omega
    go_enter Try.func74, Try.ntmps74
    go_wp2_with fail
    go_ret
    obtain ⟨b1, b2, b3⟩ := bl (n / 65536) (by omega)
    have w1 : wrap64 ((bitLen (n / 65536) : Nat) : Int) = ((bitLen (n / 65536) : Nat) : Int) := IntWalk.wrap64_in _ (by omega)
    have w2 : wrap64 (16 + ((bitLen (n / 65536) : Nat) : Int)) = ((16 + bitLen (n / 65536) : Nat) : Int) := (IntWalk.wrap64_in _ (by omega)).trans (by omega)
    refine ⟨⟨16 + bitLen (n / 65536), ?_, by omega, ?_, fun h0 => ?_⟩, rfl⟩
    · simp only [len8tab_get]
      rw [w1, w2]
      rfl
    · rw [Nat.pow_add, show (2 : Nat) ^ 16 = 65536 from rfl]; omega
    · rw [Nat.pow_add, show (2 : Nat) ^ 16 = 65536 from rfl]; omega
  · have d1 : decide ((65536 : Int) ≤ (n : Int)) = false := by simp; omega
    by_cases h2 : 256 ≤ n
    · have d2 : decide ((256 : Int) ≤ (n : Int)) = true := by simp; omega
      go_enter Try.func74, Try.ntmps74
      go_wp2_with fail
      go_ret
      obtain ⟨b1, b2, b3⟩ := bl (n / 256) (by omega)
      have w1 : wrap64 ((bitLen (n / 256) : Nat) : Int) = ((bitLen (n / 256) : Nat) : Int) := IntWalk.wrap64_in _ (by omega)
      have w2 : wrap64 (8 + ((bitLen (n / 256) : Nat) : Int)) = ((8 + bitLen (n / 256) : Nat) : Int) := (IntWalk.wrap64_in _ (by omega)).trans (by omega)
      refine ⟨⟨8 + bitLen (n / 256), ?_, by omega, ?_, fun h0 => ?_⟩, rfl⟩
      · simp only [len8tab_get]
        rw [w1, w2]
        rfl
      · rw [Nat.pow_add, show (2 : Nat) ^ 8 = 256 from rfl]; omega
      · rw [Nat.pow_add, show (2 : Nat) ^ 8 = 256 from rfl]; omega
    · have d2 : decide ((256 : Int) ≤ (n : Int)) = false := by simp; omega
      go_enter Try.func74, Try.ntmps74
      go_wp2_with fail
      go_ret
      obtain ⟨b1, b2, b3⟩ := bl n (by omega)
      have w1 : wrap64 ((bitLen n : Nat) : Int) = ((bitLen n : Nat) : Int) := IntWalk.wrap64_in _ (by omega)
      refine ⟨⟨bitLen n, ?_, by omega, b1, b2⟩, rfl⟩
      simp only [len8tab_get]
      simp [w1]

set_option maxHeartbeats 1000000 in
theorem len_any (n : Nat) (hn : n < 16777216) (w : World) : Calls Try.prog 60 #[.int .u64 n] w fun e w' => (∃ L : Nat, e = .returned (.int .i64 L) ∧ L ≤ 24 ∧ n < 2 ^ L ∧ (0 < n → 2 ^ L ≤ 2 * n)) ∧ w' = w := by
  have H := Lib.hid (len64_any n hn w)
  go_enter Try.func60, Try.ntmps60
  go_wp2_with fail
  refine H.out.mono ?_
  rintro e w' ⟨⟨L, rfl, h1, h2, h3⟩, rfl⟩
  go_wp2_with fail
  go_ret
  exact ⟨⟨L, rfl, h1, h2, h3⟩, rfl⟩

set_option maxHeartbeats 1000000 in
/-- A power of two above n, at most 2 n. -/
theorem nextPow_any (n : Nat) (h0 : 0 < n) (hn : n < 16777216) (w : World) : Calls Try.prog 76 #[.int .i64 n] w fun e w' => (∃ m : Nat, e = .returned (.int .u64 m) ∧ n < m ∧ m ≤ 2 * n) ∧ w' = w := by
  have H := Lib.hid (len_any n hn w)
  have e0 : IntKind.u64.wrap (n : Int) = (n : Int) := IntWalk.u64_in _ (by omega)
  go_enter Try.func76, Try.ntmps76
  go_wp2_with fail
  refine H.out.mono ?_
  rintro e w' ⟨⟨L, rfl, h1, h2, h3⟩, rfl⟩
  have h4 := h3 h0
  go_wp2_with fail
  go_ret
  obtain ⟨p, hp⟩ : ∃ p, p = 2 ^ L := ⟨_, rfl⟩
  rw [← hp] at h2 h4
  refine ⟨⟨p, ?_, h2, h4⟩, rfl⟩
  have : IntKind.u64.wrap ((2 : Int) ^ L) = (p : Int) := by
    rw [show (2 : Int) ^ L = ((2 ^ L : Nat) : Int) by push_cast; rfl, ← hp]
    exact IntWalk.u64_in _ (by omega)
  show Ending.returned (.int .u64 (IntKind.u64.wrap ((2 : Int) ^ L))) = _
  rw [this]

/-- The generator at rb holds some number. -/
structure Gen (w w' : World) (g o rb : Nat) (d : Array Int) : Prop where
  row : Rw w w' g o d
  cell : ∃ s : Int, w'.cell? ⟨rb, 0, none⟩ = some (.int .u64 s) ∧ (0 ≤ s ∧ s < 18446744073709551616)
  frozen : w'.frozen? ⟨rb, 0, none⟩ = false

theorem xor_bd (a b : Int) (h1 : 0 ≤ a) (h2 : a < 18446744073709551616) (h3 : 0 ≤ b) (h4 : b < 18446744073709551616) : 0 ≤ bits .xor .u64 a b ∧ bits .xor .u64 a b < 18446744073709551616 := by
  rw [u64_xor a b h1 h2 h3 h4]
  have := Nat.xor_lt_two_pow (x := a.toNat) (y := b.toNat) (n := 64) (by omega) (by omega)
  omega
theorem u64_wrap_bd (x : Int) : 0 ≤ IntKind.u64.wrap x ∧ IntKind.u64.wrap x < 18446744073709551616 := by
  rw [IntKind.wrap_u64]; omega

set_option maxRecDepth 100000 in
set_option maxHeartbeats 4000000 in
theorem next_any (rb : Nat) (X : Int) (w : World) (hX : 0 ≤ X ∧ X < 18446744073709551616) (hc : w.cell? ⟨rb, 0, none⟩ = some (.int .u64 X)) (hf : w.frozen? ⟨rb, 0, none⟩ = false) :
    Calls Try.prog 77 #[.pointer (some ⟨rb, 0, none⟩)] w fun e w' => (∃ Y : Int, e = .returned (.int .u64 Y) ∧ (0 ≤ Y ∧ Y < 18446744073709551616) ∧ w'.cell? ⟨rb, 0, none⟩ = some (.int .u64 Y) ∧ w'.frozen? ⟨rb, 0, none⟩ = false) ∧ Keeps (One rb) w w' := by
  obtain ⟨A, hA⟩ : ∃ A, A = bits .xor .u64 X (IntKind.u64.wrap (X * 8192)) := ⟨_, rfl⟩
  have bA := xor_bd X (IntKind.u64.wrap (X * 8192)) hX.1 hX.2 (u64_wrap_bd _).1 (u64_wrap_bd _).2
  rw [← hA] at bA
  obtain ⟨B, hB⟩ : ∃ B, B = bits .xor .u64 A (A / 128) := ⟨_, rfl⟩
  have bB := xor_bd A (A / 128) bA.1 bA.2 (by omega) (by omega)
  rw [← hB] at bB
  obtain ⟨C, hC⟩ : ∃ C, C = bits .xor .u64 B (IntKind.u64.wrap (B * 131072)) := ⟨_, rfl⟩
  have bC := xor_bd B (IntKind.u64.wrap (B * 131072)) bB.1 bB.2 (u64_wrap_bd _).1 (u64_wrap_bd _).2
  rw [← hC] at bC
  have eA := hA.symm
  have eB := hB.symm
  have eC := hC.symm
  have HF := Lib.hid hf
  have HC := Lib.hid hc
  clear hA hB hC
  go_enter Try.func77, Try.ntmps77
  go_wp2
  go_region_with fail
  all_goals
    obtain ⟨W1, hW1⟩ : ∃ W, W = (w.setCell ⟨rb, 0, none⟩ (.int .u64 A)).drew := ⟨_, rfl⟩
    rw [← hW1]
    have k1 : Keeps (One rb) w W1 := by rw [hW1]; exact ((Keeps.refl _ _).set1 _ _).drew
    have c1 : W1.cell? ⟨rb, 0, none⟩ = some (.int .u64 A) := by rw [hW1]; exact World.cell?_setCell_same _ _ _ HC.out
    have f1 : W1.frozen? ⟨rb, 0, none⟩ = false := by rw [hW1]; exact (World.frozen?_setCell _ _ _ _).trans HF.out
    have C1 := Lib.hid c1
    have F1 := Lib.hid f1
    clear hW1
    go_wp2
    go_region_with fail
    all_goals
      obtain ⟨W2, hW2⟩ : ∃ W, W = (W1.setCell ⟨rb, 0, none⟩ (.int .u64 B)).drew := ⟨_, rfl⟩
      rw [← hW2]
      have k2 : Keeps (One rb) w W2 := by rw [hW2]; exact (k1.set1 _ _).drew
      have c2 : W2.cell? ⟨rb, 0, none⟩ = some (.int .u64 B) := by rw [hW2]; exact World.cell?_setCell_same _ _ _ C1.out
      have f2 : W2.frozen? ⟨rb, 0, none⟩ = false := by rw [hW2]; exact (World.frozen?_setCell _ _ _ _).trans F1.out
      have C2 := Lib.hid c2
      have F2 := Lib.hid f2
      clear hW2
      go_wp2
      go_region_with fail
      all_goals
        obtain ⟨W3, hW3⟩ : ∃ W, W = (W2.setCell ⟨rb, 0, none⟩ (.int .u64 C)).drew := ⟨_, rfl⟩
        rw [← hW3]
        have k3 : Keeps (One rb) w W3 := by rw [hW3]; exact (k2.set1 _ _).drew
        have c3 : W3.cell? ⟨rb, 0, none⟩ = some (.int .u64 C) := by rw [hW3]; exact World.cell?_setCell_same _ _ _ C2.out
        have f3 : W3.frozen? ⟨rb, 0, none⟩ = false := by rw [hW3]; exact (World.frozen?_setCell _ _ _ _).trans F2.out
        clear hW3
        go_wp2
        go_ret
        exact ⟨⟨C, rfl, bC, c3, f3⟩, k3⟩

set_option maxRecDepth 100000 in
set_option maxHeartbeats 8000000 in
theorem break_any (g o c a b : Nat) (d : Array Int) (w : World) (h : Rw w w g o d) (hab : a + 12 < b) (hb : b ≤ d.size) (hN0 : d.size < 16777216) :
    Calls Try.prog 66 #[.slice (some ⟨g, o, none⟩) d.size c, .int .i64 a, .int .i64 b] w fun e w' => e = .returned (.tuple #[]) ∧ ∃ d', PermIn a b d d' ∧ Rw w w' g o d' := by
  have hg : g < w.heap.size := World.block_lt_of_cell? _ _ (h.cell (j := 0) (by omega))
  obtain ⟨rb, hrb⟩ : ∃ rb, rb = w.heap.size := ⟨_, rfl⟩
  obtain ⟨l, hl⟩ : ∃ l, l = b - a := ⟨_, rfl⟩
  obtain ⟨W0, hW⟩ : ∃ W, W = w.alloc (.cells #[.int .u64 l] 130) := ⟨_, rfl⟩
  have hrg : rb ≠ g := by omega
  have HR0 := Lib.hid (show Rw w W0 g o d by rw [hW]; exact h.alloc _)
  have HC0 := Lib.hid (show W0.cell? ⟨rb, 0, none⟩ = some (.int .u64 l) by rw [hW, hrb, World.cell?_alloc_new]; rfl)
  have HF0 := Lib.hid (show W0.frozen? ⟨rb, 0, none⟩ = false by rw [hW, hrb]; go_simp)
  obtain ⟨N, hN⟩ : ∃ N, N = d.size := ⟨_, rfl⟩
  have HNX := Lib.hid next_any
  have HNP := Lib.hid (fun W => nextPow_any l (by omega) (by omega) W)
  rw [← hN] at hb hN0 ⊢
  obtain ⟨q, hq⟩ : ∃ q, q = l / 4 := ⟨_, rfl⟩
  obtain ⟨I0, hI0⟩ : ∃ I, I = a + q * 2 - 1 := ⟨_, rfl⟩
  have e0 : IntKind.i64.wrap ((b : Int) - (a : Int)) = (l : Int) := by rw [IntWalk.i64_in _ (by omega)]; omega
  have eu : IntKind.u64.wrap (l : Int) = (l : Int) := IntWalk.u64_in _ (by omega)
  have d8 : decide ((8 : Int) ≤ (l : Int)) = true := by simp; omega
  have q0 : IntKind.i64.wrap ((l : Int) / 4) = (q : Int) := by rw [IntWalk.i64_in _ (by omega)]; omega
  have q1 : IntKind.i64.wrap (q : Int) = (q : Int) := IntWalk.i64_in _ (by omega)
  have m2 : IntKind.i64.wrap ((q : Int) * 2) = (q : Int) * 2 := IntWalk.i64_in _ (by omega)
  have a2 : IntKind.i64.wrap ((a : Int) + (q : Int) * 2) = (I0 : Int) + 1 := by rw [IntWalk.i64_in _ (by omega)]; omega
  have a3 : IntKind.i64.wrap ((I0 : Int) + 1 - 1) = (I0 : Int) := by rw [IntWalk.i64_in _ (by omega)]; omega
  have a4 : IntKind.i64.wrap ((I0 : Int) + 1 + 1) = (I0 : Int) + 2 := by rw [IntWalk.i64_in _ (by omega)]; omega
  have a5 : IntKind.i64.wrap (I0 : Int) = (I0 : Int) := IntWalk.i64_in _ (by omega)
  have HI := Lib.hid (show a ≤ I0 ∧ I0 + 2 < b by omega)
  have HN := Lib.hid hN
  have HW := Lib.hid hW
  have HRB := Lib.hid hrb
  have hl8 : 8 ≤ l := by omega
  have hlN : a + l = b := by omega
  clear h hW hN hq hI0 hrb hl
  go_enter Try.func66, Try.ntmps66
  go_upto_region 3 with fail
  rw [← HRB.out]
  rw [← HW.out]
  go_wp2_with fail
  refine (HNP.out _).mono ?_
  rintro e w' ⟨⟨m, rfl, hm1, hm2⟩, rfl⟩
  go_wp2_with fail
  go_loopw [9] (fun vi wr => ∃ (t : Nat) (dk : Array Int) (s : Int), vi = .int .i64 ((I0 + t : Nat) : Int) ∧ t ≤ 3 ∧ dk.size = N ∧ PermIn a b d dk ∧ Rw w wr g o dk ∧ wr.cell? ⟨rb, 0, none⟩ = some (.int .u64 s) ∧ (0 ≤ s ∧ s < 18446744073709551616) ∧ wr.frozen? ⟨rb, 0, none⟩ = false) (fun vi _ => ((I0 : Int) + 3 - intOf vi).toNat)
  case atStart => exact ⟨0, d, l, rfl, by omega, HN.out.symm, permIn_refl d a b, HR0.out, HC0.out, by omega, HF0.out⟩
  case round =>
    obtain ⟨t, dk, s, rfl, ht, hsk, hP, hrw, hcs, hs, hfs⟩ := hrel
    have R := Lib.hid hrw
    have HP := Lib.hid hP
    have HS := Lib.hid hsk
    have HCS := Lib.hid hcs
    have HFS := Lib.hid hfs
    have HSB := Lib.hid hs
    clear hrw hP hsk hcs hs hfs
    obtain ⟨idx, hidx⟩ : ∃ x, x = I0 + t := ⟨_, rfl⟩
    rw [← hidx]
    by_cases h3 : t < 3
    · have dle : decide ((idx : Int) ≤ (I0 : Int) + 2) = true := by simp; omega
      have hia : a ≤ idx ∧ idx < b := by have := HI.out; omega
      go_wp2_with fail
      refine (HNX.out rb s _ HSB.out HCS.out HFS.out).mono ?_
      rintro e w1 ⟨⟨Y, rfl, hY, hcY, hfY⟩, kY⟩
      have hrw2 : Rw w w1 g o dk := ⟨Keeps.fresh R.out.keeps kY (fun x hx e => by have e : x = rb := e; have := HRB.out; omega), fun j hj => by
        obtain ⟨x1, x2⟩ := R.out.row j hj
        have hb1 := World.block_lt_of_cell? _ _ x1
        have hne : ¬ One rb g := fun e => hrg (Eq.symm e)
        exact ⟨(World.cell?_of_block (w := wr) (kY.block g hb1 hne)).trans x1, (World.frozen?_of_block (w := wr) (kY.block g hb1 hne)).trans x2⟩⟩
      have R2 := Lib.hid hrw2
      have HCY := Lib.hid hcY
      have HFY := Lib.hid hfY
      have HY := Lib.hid hY
      obtain ⟨r, hr⟩ : ∃ r, r = Y.toNat &&& (m - 1) := ⟨_, rfl⟩
      have hrm : r ≤ m - 1 := by rw [hr]; exact Nat.and_le_right
      have eand : bits .and .u64 Y ((m : Int) - 1) = (r : Int) := by
        rw [u64_and Y ((m : Int) - 1) hY.1 hY.2 (by omega) (by omega), hr]
        rw [show ((m : Int) - 1).toNat = m - 1 by omega]
      have em : IntKind.u64.wrap ((m : Int) - 1) = (m : Int) - 1 := IntWalk.u64_in _ (by omega)
      have er : IntKind.i64.wrap (r : Int) = (r : Int) := IntWalk.i64_in _ (by omega)
      clear hr hY hcY hfY hrw2 kY
      obtain ⟨q2, hq2⟩ : ∃ q2, q2 = if l ≤ r then r - l else r := ⟨_, rfl⟩
      have hq2l : q2 < l := by rw [hq2]; split <;> omega
      have HQ := Lib.hid hq2
      have hsz := HS.out
      have h1 : idx < dk.size := by omega
      have h2 : a + q2 < dk.size := by omega
      have ci := R2.out.cell h1
      have cq := R2.out.cell h2
      have fi := R2.out.frozen h1
      have fq := R2.out.frozen h2
      obtain ⟨xi, hxi⟩ : ∃ x, x = dk[idx]! := ⟨_, rfl⟩
      obtain ⟨xq, hxq⟩ : ∃ x, x = dk[a + q2]! := ⟨_, rfl⟩
      have hSW := fun n => (R2.out.drewN n).swap h1 h2
      rw [← hxi] at ci
      rw [← hxq] at cq
      rw [← hxq, ← hxi] at hSW
      have HSW := Lib.hid hSW
      have HPS := Lib.hid (swp_permIn dk a b idx (a + q2) hia.1 hia.2 (by omega) (by omega) (by omega))
      have HCW := Lib.hid (show ∀ (n p1 p2 : Nat) u v, (((w1.drewN n).setCell ⟨g, p1, none⟩ u).setCell ⟨g, p2, none⟩ v).cell? ⟨rb, 0, none⟩ = some (.int .u64 Y) from fun n p1 p2 u v => by
        rw [World.cell?_setCell_other _ _ _ _ (fun hc => hrg (show rb = g from congrArg Addr.block (Eq.symm hc))), World.cell?_setCell_other _ _ _ _ (fun hc => hrg (show rb = g from congrArg Addr.block (Eq.symm hc)))]
        exact HCY.out)
      have HFW := Lib.hid (show ∀ (n p1 p2 : Nat) u v, (((w1.drewN n).setCell ⟨g, p1, none⟩ u).setCell ⟨g, p2, none⟩ v).frozen? ⟨rb, 0, none⟩ = false from fun n p1 p2 u v => by
        rw [World.frozen?_setCell, World.frozen?_setCell]; exact HFY.out)
      have e5 : IntKind.i64.wrap ((a : Int) + (q2 : Int)) = (a : Int) + (q2 : Int) := IntWalk.i64_in _ (by omega)
      have e6 : ((a : Int) + (q2 : Int)).toNat = a + q2 := by omega
      have e7 : (0 : Int) ≤ (a : Int) + (q2 : Int) := by omega
      have e8 : (a : Int) + (q2 : Int) < (N : Int) := by omega
      have e9 : IntKind.i64.wrap ((idx : Int) + 1) = (idx : Int) + 1 := IntWalk.i64_in _ (by omega)
      go_upto_region 8 with fail
      rw [show ((I0 : Int) + (t : Int)) = (idx : Int) by omega]
      have HIDX := Lib.hid hidx
      clear hxi hxq hSW hsz hq2 hidx
      by_cases hge : l ≤ r
      · have dge : decide ((l : Int) ≤ (r : Int)) = true := by simp; omega
        have erl : IntKind.i64.wrap ((r : Int) - (l : Int)) = (q2 : Int) := by
          have := HQ.out
          rw [if_pos hge] at this
          rw [IntWalk.i64_in _ (by omega)]; omega
        by_cases he0 : a + q2 = idx
        · have he : o + (a + q2) = o + idx := by omega
          have hax : xq = xi := by
            have := cq
            rw [he, ci] at this
            injection this with this
            injection this with _ this
            exact this.symm
          have HSW0 := Lib.hid (show ∀ n, Rw w (((w1.drewN n).setCell ⟨g, o + idx, none⟩ (.int .u16 xi)).setCell ⟨g, o + idx, none⟩ (.int .u16 xi)) g o (swp dk idx (a + q2)) from fun n => by
            have := HSW.out n
            rw [hax, he] at this
            exact this)
          clear cq fq hax he0
          go_upto_region 10 with fail
          go_region_with fail
          all_goals
            go_wp2_with fail
            go_roundw
            case rel => exact ⟨t + 1, swp dk idx (a + q2), Y, by have := HIDX.out; go_num, by omega, by rw [size_swp]; exact HS.out, permIn_trans _ _ _ a b HP.out HPS.out, (HSW0.out _), (HCW.out _ _ _ _ _), HY.out, (HFW.out _ _ _ _ _)⟩
            case measure => have := HIDX.out; simp [intOf]; omega
        · have hne : ¬ (o + (a + q2) = o + idx) := by omega
          go_upto_region 10 with fail
          go_region_with fail
          all_goals
            go_wp2_with fail
            go_roundw
            case rel => exact ⟨t + 1, swp dk idx (a + q2), Y, by have := HIDX.out; go_num, by omega, by rw [size_swp]; exact HS.out, permIn_trans _ _ _ a b HP.out HPS.out, (HSW.out _), (HCW.out _ _ _ _ _), HY.out, (HFW.out _ _ _ _ _)⟩
            case measure => have := HIDX.out; simp [intOf]; omega
      · have dge : decide ((l : Int) ≤ (r : Int)) = false := by simp; omega
        have hrq : r = q2 := by have := HQ.out; rw [if_neg hge] at this; exact this.symm
        clear HQ eand
        subst hrq
        by_cases he0 : a + r = idx
        · have he : o + (a + r) = o + idx := by omega
          have hax : xq = xi := by
            have := cq
            rw [he, ci] at this
            injection this with this
            injection this with _ this
            exact this.symm
          have HSW0 := Lib.hid (show ∀ n, Rw w (((w1.drewN n).setCell ⟨g, o + idx, none⟩ (.int .u16 xi)).setCell ⟨g, o + idx, none⟩ (.int .u16 xi)) g o (swp dk idx (a + r)) from fun n => by
            have := HSW.out n
            rw [hax, he] at this
            exact this)
          clear cq fq hax he0
          go_upto_region 10 with fail
          go_region_with fail
          all_goals
            go_wp2_with fail
            go_roundw
            case rel => exact ⟨t + 1, swp dk idx (a + r), Y, by have := HIDX.out; go_num, by omega, by rw [size_swp]; exact HS.out, permIn_trans _ _ _ a b HP.out HPS.out, (HSW0.out _), (HCW.out _ _ _ _ _), HY.out, (HFW.out _ _ _ _ _)⟩
            case measure => have := HIDX.out; simp [intOf]; omega
        · have hne : ¬ (o + (a + r) = o + idx) := by omega
          go_upto_region 10 with fail
          go_region_with fail
          all_goals
            go_wp2_with fail
            go_roundw
            case rel => exact ⟨t + 1, swp dk idx (a + r), Y, by have := HIDX.out; go_num, by omega, by rw [size_swp]; exact HS.out, permIn_trans _ _ _ a b HP.out HPS.out, (HSW.out _), (HCW.out _ _ _ _ _), HY.out, (HFW.out _ _ _ _ _)⟩
            case measure => have := HIDX.out; simp [intOf]; omega
    · have dle : decide ((idx : Int) ≤ (I0 : Int) + 2) = false := by simp; omega
      go_wp2_with fail
      go_end0
      exact ⟨rfl, dk, HP.out, R.out⟩
end Go.Proofs.Ytiinjjfggmmkmaa
