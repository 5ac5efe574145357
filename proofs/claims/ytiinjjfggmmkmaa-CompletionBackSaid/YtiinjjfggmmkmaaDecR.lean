/- completion: the reference's Decode. -/
import Derived.Test.YtiinjjfggmmkmaaArr
import Derived.Test.YtiinjjfggmmkmaaDec
import Derived.BigRegion
namespace Go.Proofs.Ytiinjjfggmmkmaa
set_option linter.unusedVariables false
set_option linter.unusedSimpArgs false
open Go.RowKit

/-- a number out of its first k bytes from above -/
def hiB (B : Nat → Int) (p : Nat) : Nat → Int
  | 0 => 0
  | k + 1 => hiB B p k * 256 + B (p + (3 - k))
theorem hiB_bd {B : Nat → Int} (hB : ∀ j, 0 ≤ B j ∧ B j ≤ 255) (p k : Nat) : 0 ≤ hiB B p k ∧ hiB B p k < 256 ^ k := by
  induction k with
  | zero => exact ⟨by simp [hiB], by simp [hiB]⟩
  | succ k ih =>
    obtain ⟨h1, h2⟩ := hB (p + (3 - k))
    obtain ⟨h3, h4⟩ := ih
    unfold hiB
    have e : (256 : Int) ^ (k + 1) = 256 ^ k * 256 := Int.pow_succ ..
    rw [e]
    omega
theorem hiB_four (B : Nat → Int) (p : Nat) : hiB B p 4 = le B p 4 := by
  simp only [hiB, le]
  rw [show p + (3 - 0) = p + 3 from rfl, show p + (3 - 1) = p + 2 from rfl, show p + (3 - 2) = p + 1 from rfl, show p + (3 - 3) = p from rfl]
  have e0 : (2 : Int) ^ (8 * 0) = 1 := rfl
  have e1 : (2 : Int) ^ (8 * 1) = 256 := rfl
  have e2 : (2 : Int) ^ (8 * 2) = 65536 := rfl
  have e3 : (2 : Int) ^ (8 * 3) = 16777216 := rfl
  simp only [e0, e1, e2, e3]
  omega
/-- a completion of which only the result is set -/
def cArr (a b : Int) : Array Value := #[.int .u32 a, .int .u32 b, .int .u16 0, .int .u16 0, .int .u16 0, .bool false, .int .u8 0, .int .u8 0, .bool false, .bool false]
theorem zeroCpl (w : World) : (zeroValue 40).run Try.prog w = .ok (.agg (cArr 0 0)) w := by kernel_rfl
theorem buildCpl (w : World) : (Instr.build 40 #[]).run Try.prog w = .ok (.agg (cArr 0 0)) w := by kernel_rfl
theorem under16 : ∃ d, Try.prog.underlying 40 = some d ∧ d.isRow = true := ⟨_, Try.underlying40, rfl⟩
theorem cArr_one (a b : Int) : (cArr a b).all (·.oneCell') = true := by simp [cArr, Value.oneCell']

/-- The blocks that the reference's Decode makes first. -/
theorem rdec_start (A : Array Value) (w W : World) (hA : A.size = 16) (hW : W = (w.alloc (.cells A 41)).alloc (.cells (cArr 0 0) 40)) :
    ArrAt W w.heap.size A ∧ ArrAt W (w.heap.size + 1) (cArr 0 0) ∧ Below w.heap.size w W ∧ W.heap.size = w.heap.size + 2 := by
  subst hW
  obtain ⟨w1, h1⟩ : ∃ w1, w1 = w.alloc (.cells A 41) := ⟨_, rfl⟩
  obtain ⟨w2, h2⟩ : ∃ w2, w2 = w1.alloc (.cells (cArr 0 0) 40) := ⟨_, rfl⟩
  have s1 : w1.heap.size = w.heap.size + 1 := by rw [h1]; simp
  have s2 : w2.heap.size = w.heap.size + 2 := by rw [h2]; simp [s1]
  rw [← h1, ← h2]
  refine ⟨?_, ?_, ?_, s2⟩
  · rw [h2]; refine ArrAt.alloc ?_ _; rw [h1]; exact ArrAt.fresh _ _ _ (by omega)
  · rw [h2, ← s1]; exact ArrAt.fresh _ _ _ (by simp [cArr])
  · rw [h2]; refine Below.alloc ?_ (by omega) _; rw [h1]; exact (Below.refl _ _).alloc (Nat.le_refl _) _

set_option maxRecDepth 100000 in
set_option maxHeartbeats 2000000 in
theorem rdec_bad (B : Nat → Int) (w : World) (hB : ∀ j, 0 ≤ B j ∧ B j ≤ 255) (h : B 15 / 16 % 4 ≠ 0) :
    Calls Try.prog 30 #[arrB B] w fun e w' => e = .returned (.tuple #[zCpl.v, .int .i64 6]) ∧ Below w.heap.size w w' := by
  obtain ⟨hb1, hb2⟩ := hB 15
  unfold arrB
  obtain ⟨A16, hA⟩ : ∃ A, A = arr 16 fun j => Value.int .u8 (B j) := ⟨_, rfl⟩
  have hAs : A16.size = 16 := by rw [hA, arr_size]
  have ha15 : A16[15]? = some (.int .u8 (B 15)) := by rw [hA]; exact arr_get 16 _ 15 (by omega)
  rw [← hA]
  obtain ⟨b, hb⟩ : ∃ b, b = B 15 := ⟨_, rfl⟩
  rw [← hb] at ha15 h hb1 hb2
  have e1 : (b / 16 % 4 != 0) = true := by simp; exact h
  have HST := Lib.hid (rdec_start A16 w)
  have HAS := Lib.hid hAs
  have HA15 := Lib.hid ha15
  have HSC := Lib.hid size10
  have HC1 := Lib.hid (cArr_one 0 0)
  clear hA hAs ha15 hb h hB
  go_enter Try.func30, Try.ntmps30
  go_upto_region 1 with ((with_reducible show wpList _ _ _ (⟨some 2, _, _, _, _, _⟩ :: _) _ _); refine wpList_alloc rfl 40 rfl zeroCpl ?_; rw [show (Value.agg (cArr 0 0)).cells = cArr 0 0 from rfl])
  obtain ⟨W, hW⟩ : ∃ W, W = (w.alloc (.cells A16 41)).alloc (.cells (cArr 0 0) 40) := ⟨_, rfl⟩
  rw [← hW]
  obtain ⟨a1, a2, hbW, hsW⟩ := HST.out W HAS.out hW
  have c15 := a1.cell HA15.out
  have A2 := Lib.hid a2
  have HB := Lib.hid hbW
  clear a1 a2 hbW hsW hW
  go_wp2_with (first
    | ((with_reducible show wpList _ _ _ (⟨some 12, _, _, _, _, _⟩ :: _) _ _); refine wpList_build0 rfl 40 rfl (buildCpl _) ?_)
    | ((with_reducible show wpList _ _ _ (⟨none, _, _, _, _, _⟩ :: _) _ _); refine wpList_storeA rfl (b := w.heap.size + 1) (A := cArr 0 0) (A' := cArr 0 0) A2.out 40 (.tmp 2) (.tmp 12) rfl (by simp [Act.eval, Act.put]) (by simp [Act.eval, Act.put]) HSC.out rfl HC1.out ?_))
  have AF := Lib.hid (A2.out.store (cArr 0 0) rfl)
  obtain ⟨d, hd1, hd2⟩ := under16
  exact bodyPost_ret (results_ct rfl _ _ _ AF.out rfl hd1 hd2 HSC.out) rfl ⟨rfl, bstore HB.out _ (by omega) _ _⟩

set_option maxRecDepth 100000 in
set_option maxHeartbeats 4000000 in
theorem rdec_ok (B : Nat → Int) (w : World) (hB : ∀ j, 0 ≤ B j ∧ B j ≤ 255) (h : B 15 / 16 % 4 = 0) :
    Calls Try.prog 30 #[arrB B] w fun e w' => e = .returned (.tuple #[(dCpl B).v, .int .i64 0]) ∧ Below w.heap.size w w' := by
  have HB := Lib.hid hB
  obtain ⟨hb1, hb2⟩ := hB 15
  unfold arrB
  obtain ⟨A16, hA⟩ : ∃ A, A = arr 16 fun j => Value.int .u8 (B j) := ⟨_, rfl⟩
  have hAs : A16.size = 16 := by rw [hA, arr_size]
  have HAG := Lib.hid (show ∀ i, i < 16 → A16[i]? = some (.int .u8 (B i)) by intro i hi; rw [hA]; exact arr_get 16 _ i hi)
  rw [← hA]
  have e1 : (B 15 / 16 % 4 != 0) = false := by simp; exact h
  have HST := Lib.hid (rdec_start A16 w)
  have HAS := Lib.hid hAs
  have HSC := Lib.hid size10
  have c15' := HAG.out 15 (by omega)
  have HC15 := Lib.hid c15'
  clear hA hAs h hB c15'
  go_enter Try.func30, Try.ntmps30
  go_upto_region 1 with ((with_reducible show wpList _ _ _ (⟨some 2, _, _, _, _, _⟩ :: _) _ _); refine wpList_alloc rfl 40 rfl zeroCpl ?_; rw [show (Value.agg (cArr 0 0)).cells = cArr 0 0 from rfl])
  obtain ⟨W, hW⟩ : ∃ W, W = (w.alloc (.cells A16 41)).alloc (.cells (cArr 0 0) 40) := ⟨_, rfl⟩
  rw [← hW]
  obtain ⟨a1, a2, hbW, hsW⟩ := HST.out W HAS.out hW
  have c15 := a1.cell HC15.out
  have A1 := Lib.hid a1
  have A2 := Lib.hid a2
  have HBW := Lib.hid hbW
  have HSW := Lib.hid hsW
  clear a1 a2 hbW hsW hW
  go_upto_region 4 with ((with_reducible show wpList _ _ _ (⟨some 4, _, _, _, _, _⟩ :: _) _ _); refine wpList_alloc rfl 40 rfl zeroCpl ?_; rw [show (Value.agg (cArr 0 0)).cells = cArr 0 0 from rfl])
  obtain ⟨W1, hW1⟩ : ∃ W1, W1 = W.alloc (.cells (cArr 0 0) 40) := ⟨_, rfl⟩
  rw [← hW1]
  have A11 := Lib.hid (show ArrAt W1 w.heap.size A16 by rw [hW1]; exact A1.out.alloc _)
  have A21 := Lib.hid (show ArrAt W1 (w.heap.size + 1) (cArr 0 0) by rw [hW1]; exact A2.out.alloc _)
  have A41 := Lib.hid (show ArrAt W1 W.heap.size (cArr 0 0) by rw [hW1]; exact ArrAt.fresh _ _ _ (by simp [cArr]))
  have HB1 := Lib.hid (show Below w.heap.size w W1 by rw [hW1]; exact HBW.out.alloc HBW.out.size _)
  obtain ⟨g, hg⟩ : ∃ g, g = W.heap.size := ⟨_, rfl⟩
  have hg2 : w.heap.size + 1 < g := by rw [hg, HSW.out]; omega
  rw [← hg] at A41 ⊢
  clear hW1 hg c15
  go_wp2_with fail
  go_loopw [5] (fun i wr => ∃ k : Nat, k ≤ 4 ∧ i = .int .i64 (3 - (k : Int)) ∧ Keeps (One g) W1 wr ∧ ArrAt wr g (cArr (hiB B 0 k) (hiB B 4 k))) (fun i _ => (intOf i + 1).toNat)
  case atStart => exact ⟨0, by omega, by simp, Keeps.refl _ _, A41.out⟩
  case round =>
    obtain ⟨k, hk, rfl, hkp, ha⟩ := hrel
    have HK := Lib.hid hkp
    have HA := Lib.hid ha
    have A1r := Lib.hid (A11.out.kept hkp (fun e => by have e : w.heap.size = g := e; omega))
    clear hkp ha
    by_cases hlt : k < 4
    · obtain ⟨m, hm⟩ : ∃ m : Nat, 3 - (k : Int) = (m : Int) := ⟨3 - k, by omega⟩
      rw [hm]
      have hm2 : m = 3 - k := by omega
      have m0 : (0 : Int) ≤ (m : Int) := by omega
      have m1 : (m : Int) < 16 := by omega
      have m2 : (4 : Int) + (m : Int) < 16 := by omega
      have m3 : decide ((0 : Int) ≤ (m : Int)) = true := by simp
      have m4 : IntKind.i64.wrap (4 + (m : Int)) = 4 + (m : Int) := IntWalk.i64_in _ (by omega)
      have m5 : (4 + (m : Int)).toNat = 4 + m := by omega
      obtain ⟨p1, p2⟩ := hiB_bd HB.out 0 k
      obtain ⟨q1, q2⟩ := hiB_bd HB.out 4 k
      have hpk : (256 : Int) ^ k ≤ 16777216 := by
        have : k = 0 ∨ k = 1 ∨ k = 2 ∨ k = 3 := by omega
        rcases this with rfl | rfl | rfl | rfl <;> decide
      have ea : hiB B 0 (k + 1) = hiB B 0 k * 256 + B m := by show _ * 256 + B (0 + (3 - k)) = _; rw [Nat.zero_add, ← hm2]
      have eb : hiB B 4 (k + 1) = hiB B 4 k * 256 + B (4 + m) := by show _ * 256 + B (4 + (3 - k)) = _; rw [← hm2]
      obtain ⟨a, haa⟩ : ∃ a, a = hiB B 0 k := ⟨_, rfl⟩
      obtain ⟨b, hbb⟩ : ∃ b, b = hiB B 4 k := ⟨_, rfl⟩
      rw [← haa] at p1 p2 HA ea
      rw [← hbb] at q1 q2 HA eb
      have p3 : a ≤ 16777215 := by omega
      have q3 : b ≤ 16777215 := by omega
      have x0 := A1r.out.cell (HAG.out m (by omega))
      have x1 := A1r.out.cell (HAG.out (4 + m) (by omega))
      obtain ⟨u1, u2⟩ := HB.out m
      obtain ⟨v1, v2⟩ := HB.out (4 + m)
      obtain ⟨u, hu⟩ : ∃ u, u = B m := ⟨_, rfl⟩
      obtain ⟨v, hv⟩ : ∃ v, v = B (4 + m) := ⟨_, rfl⟩
      rw [← hu] at x0 u1 u2 ea
      rw [← hv] at x1 v1 v2 eb
      have EA := Lib.hid ea
      have EB := Lib.hid eb
      have c0 : wr.cell? ⟨g, 0, none⟩ = some (.int .u32 a) := HA.out.cell rfl
      have c1 : wr.cell? ⟨g, 1, none⟩ = some (.int .u32 b) := HA.out.cell rfl
      have f0 : wr.frozen? ⟨g, 0, none⟩ = false := HA.out.frozen (by simp [cArr])
      have f1 : wr.frozen? ⟨g, 1, none⟩ = false := HA.out.frozen (by simp [cArr])
      have HM := Lib.hid hm
      have hgne : w.heap.size ≠ g := by omega
      clear ea eb haa hbb hu hv hpk p2 q2 hm2 hm
      go_wp2_with fail
      go_region
      go_wp2_with fail
      go_region
      go_wp2_with fail
      go_roundw
      case rel =>
        refine ⟨k + 1, by omega, by have := HM.out; congr 1; push_cast; omega, (((HK.out.set1 _ _).set1 _ _).drew).drew, ?_⟩
        rw [EA.out, EB.out]
        exact (((HA.out.set 0 (.int .u32 (a * 256 + u)) (by simp [cArr])).set 1 (.int .u32 (b * 256 + v)) (by simp [cArr])).drew).drew
      case measure => first | (simp [intOf]; done) | (simp [intOf]; omega)
    · obtain rfl : k = 4 := by omega
      have e4 : (3 - ((4 : Nat) : Int)) = -1 := rfl
      rw [e4]
      rw [hiB_four, hiB_four] at HA
      obtain ⟨a0, a1⟩ := le_bd HB.out 0 4
      obtain ⟨b0, b1⟩ := le_bd HB.out 4 4
      have b8 := HB.out 8
      have b9 := HB.out 9
      have b10 := HB.out 10
      have b11 := HB.out 11
      have b12 := HB.out 12
      have b13 := HB.out 13
      have b14 := HB.out 14
      have x8 := A1r.out.cell (HAG.out 8 (by omega))
      have x9 := A1r.out.cell (HAG.out 9 (by omega))
      have x10 := A1r.out.cell (HAG.out 10 (by omega))
      have x11 := A1r.out.cell (HAG.out 11 (by omega))
      have x12 := A1r.out.cell (HAG.out 12 (by omega))
      have x13 := A1r.out.cell (HAG.out 13 (by omega))
      have x14 := A1r.out.cell (HAG.out 14 (by omega))
      have x15 := A1r.out.cell (HAG.out 15 (by omega))
      have HD := Lib.hid (show (dCpl B).v = .agg #[.int .u32 (le B 0 4), .int .u32 (le B 4 4), .int .u16 (B 8 + 256 * B 9), .int .u16 (B 10 + 256 * B 11), .int .u16 (B 12 + 256 * B 13), .bool (decide (sw B % 2 = 1)), .int .u8 (sw B / 512 % 8), .int .u8 (sw B / 2 % 256), .bool (decide (sw B / 16384 % 2 = 1)), .bool (decide (sw B / 32768 = 1))] by
        have h8 : le B 8 2 = B 8 + 256 * B 9 := by simp [le]; omega
        have h10 : le B 10 2 = B 10 + 256 * B 11 := by simp [le]; omega
        have h12 : le B 12 2 = B 12 + 256 * B 13 := by simp [le]; omega
        rw [← h8, ← h10, ← h12]; rfl)
      have hs : sw B = B 14 + 256 * B 15 := by unfold sw; omega
      rw [hs] at HD
      generalize le B 0 4 = y0 at *
      generalize le B 4 4 = y1 at *
      generalize B 8 = y8 at *
      generalize B 9 = y9 at *
      generalize B 10 = y10 at *
      generalize B 11 = y11 at *
      generalize B 12 = y12 at *
      generalize B 13 = y13 at *
      generalize B 14 = y14 at *
      generalize B 15 = y15 at *
      obtain ⟨b8, b8'⟩ := b8
      obtain ⟨b9, b9'⟩ := b9
      obtain ⟨b10, b10'⟩ := b10
      obtain ⟨b11, b11'⟩ := b11
      obtain ⟨b12, b12'⟩ := b12
      obtain ⟨b13, b13'⟩ := b13
      obtain ⟨b14, b14'⟩ := b14
      have z2 : wr.cell? ⟨g, 2, none⟩ = some (.int .u16 0) := HA.out.cell rfl
      have z3 : wr.cell? ⟨g, 3, none⟩ = some (.int .u16 0) := HA.out.cell rfl
      have z4 : wr.cell? ⟨g, 4, none⟩ = some (.int .u16 0) := HA.out.cell rfl
      have z5 : wr.cell? ⟨g, 5, none⟩ = some (.bool false) := HA.out.cell rfl
      have z6 : wr.cell? ⟨g, 6, none⟩ = some (.int .u8 0) := HA.out.cell rfl
      have z7 : wr.cell? ⟨g, 7, none⟩ = some (.int .u8 0) := HA.out.cell rfl
      have z8 : wr.cell? ⟨g, 8, none⟩ = some (.bool false) := HA.out.cell rfl
      have z9 : wr.cell? ⟨g, 9, none⟩ = some (.bool false) := HA.out.cell rfl
      have f2 : wr.frozen? ⟨g, 2, none⟩ = false := HA.out.frozen (by simp [cArr])
      have f3 : wr.frozen? ⟨g, 3, none⟩ = false := HA.out.frozen (by simp [cArr])
      have f4 : wr.frozen? ⟨g, 4, none⟩ = false := HA.out.frozen (by simp [cArr])
      have f5 : wr.frozen? ⟨g, 5, none⟩ = false := HA.out.frozen (by simp [cArr])
      have f6 : wr.frozen? ⟨g, 6, none⟩ = false := HA.out.frozen (by simp [cArr])
      have f7 : wr.frozen? ⟨g, 7, none⟩ = false := HA.out.frozen (by simp [cArr])
      have f8 : wr.frozen? ⟨g, 8, none⟩ = false := HA.out.frozen (by simp [cArr])
      have f9 : wr.frozen? ⟨g, 9, none⟩ = false := HA.out.frozen (by simp [cArr])
      have hgne : w.heap.size ≠ g := by omega
      clear hs
      go_upto_region 13 with (fail)
      obtain ⟨s, hs⟩ : ∃ s, s = y14 + 256 * y15 := ⟨_, rfl⟩
      have s0 : 0 ≤ s := by omega
      have s1 : s ≤ 65535 := by omega
      rw [← hs]
      rw [← hs] at HD
      clear hs
      go_upto_region 15 with (fail)
      obtain ⟨wF, hwF⟩ : ∃ wF, wF = ((((((((wr.setCell ⟨g, 2, none⟩ (.int .u16 (y8 + 256 * y9))).setCell ⟨g, 3, none⟩ (.int .u16 (y10 + 256 * y11))).setCell ⟨g, 4, none⟩ (.int .u16 (y12 + 256 * y13))).setCell ⟨g, 5, none⟩ (.bool (s % 2 == 1))).setCell ⟨g, 6, none⟩ (.int .u8 (s / 512 % 8))).setCell ⟨g, 7, none⟩ (.int .u8 (s / 2 % 256))).setCell ⟨g, 8, none⟩ (.bool (s / 16384 % 2 == 1))).setCell ⟨g, 9, none⟩ (.bool (s / 32768 == 1))) := ⟨_, rfl⟩
      rw [← hwF]
      obtain ⟨AF, hAF⟩ : ∃ AF : Array Value, AF = #[.int .u32 y0, .int .u32 y1, .int .u16 (y8 + 256 * y9), .int .u16 (y10 + 256 * y11), .int .u16 (y12 + 256 * y13), .bool (s % 2 == 1), .int .u8 (s / 512 % 8), .int .u8 (s / 2 % 256), .bool (s / 16384 % 2 == 1), .bool (s / 32768 == 1)] := ⟨_, rfl⟩
      have AG := Lib.hid (show ArrAt wF g AF by
        rw [hwF, hAF]
        exact (((((((HA.out.set 2 _ (by simp [cArr])).set 3 _ (by simp [cArr])).set 4 _ (by simp [cArr])).set 5 _ (by simp [cArr])).set 6 _ (by simp [cArr])).set 7 _ (by simp [cArr])).set 8 _ (by simp [cArr])).set 9 _ (by simp [cArr]))
      have kk : Keeps (One g) W1 wF := by rw [hwF]; exact (((((((HK.out.set1 _ _).set1 _ _).set1 _ _).set1 _ _).set1 _ _).set1 _ _).set1 _ _).set1 _ _
      have A2F := Lib.hid (A21.out.kept kk (fun e => by have e : w.heap.size + 1 = g := e; omega))
      have HBF := Lib.hid (HB1.out.trans (kk.below (B := w.heap.size) HB1.out.size (fun j hj e => by have e : j = g := e; omega)))
      have HSA := Lib.hid (show (Try.prog.info? 40).map (·.size) = some AF.size by rw [hAF]; exact HSC.out)
      have HOA := Lib.hid (show AF.all (·.oneCell') = true by rw [hAF]; simp [Value.oneCell'])
      have HSZ := Lib.hid (show AF.size = (cArr 0 0).size by rw [hAF]; rfl)
      have HAF := Lib.hid hAF
      obtain ⟨d, hd1, hd2⟩ := under16
      clear kk hwF hAF z2 z3 z4 z5 z6 z7 z8 z9 f2 f3 f4 f5 f6 f7 f8 f9 x8 x9 x10 x11 x12 x13 x14 x15
      go_wp2_with (first
        | ((with_reducible show wpList _ _ _ (⟨some 96, _, _, _, _, _⟩ :: _) _ _); refine wpList_loadA rfl AG.out 40 (.tmp 4) rfl rfl hd1 hd2 HSA.out ?_)
        | ((with_reducible show wpList _ _ _ (⟨none, _, _, _, _, _⟩ :: _) _ _); refine wpList_storeA rfl (b := w.heap.size + 1) (A := cArr 0 0) (A' := AF) A2F.out 40 (.tmp 2) (.tmp 96) rfl (by simp [Act.eval, Act.put]) (by simp [Act.eval, Act.put]) HSC.out HSZ.out HOA.out ?_))
      have AZ := Lib.hid (A2F.out.store AF HSZ.out)
      refine bodyPost_ret (results_ct rfl _ _ _ AZ.out rfl hd1 hd2 HSA.out) rfl ⟨?_, bstore HBF.out _ (by omega) _ _⟩
      rw [HD.out, HAF.out]
      rfl
end Go.Proofs.Ytiinjjfggmmkmaa
