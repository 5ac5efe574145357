/- connect: text, bytes.Equal, until; the two tests of data. -/
import Derived.Test.YtchkipafjnehfaaTB
import Derived.Test.YtchkipafjnehfaaLEncodes
namespace Go.Proofs.Ytchkipafjnehfaa
set_option linter.unusedVariables false
set_option linter.unusedSimpArgs false
open Go.RowKit

theorem run_bs0 (w : World) : (Instr.buildSlice 70 1 #[(0, .int .u8 0)]).run Try.prog w = .ok (.slice (some ⟨w.heap.size, 0, none⟩) 1 1) (w.alloc (.cells #[.int .u8 0] 5)) := by kernel_rfl

set_option maxRecDepth 100000 in
set_option maxHeartbeats 1000000 in
theorem text_any (g o n c : Nat) (f : Nat → Int) (w : World) (h : BytesAt w g o n f) (hf : ∀ i, 0 ≤ f i ∧ f i ≤ 255) (hn : n ≤ c) (hc : c ≤ 9223372036854775807) :
    Calls Try.prog 50 #[.slice (some ⟨g, o, none⟩) n c] w fun e w' => e = .returned (.string (strOf (fz f n) f)) ∧ Below w.heap.size w w' := by
  have hz := World.cell?_alloc_new w #[.int .u8 0] 5
  have HC := fun W hW (h0 : W.cell? ⟨w.heap.size, 0, none⟩ = some (.int .u8 0)) => cut_any g o n c w.heap.size f W hW hf h0 hn hc
  obtain ⟨k1, -, -⟩ := fz_spec f n
  generalize fz f n = k at HC k1 ⊢
  have HC := Lib.hid HC
  have h0 : (w.alloc (.cells #[.int .u8 0] 5)).cell? ⟨w.heap.size, 0, none⟩ = some (.int .u8 0) := by rw [World.cell?_alloc_new]; rfl
  have hb0 : Below w.heap.size w (w.alloc (.cells #[.int .u8 0] 5)) := (Below.refl _ w).alloc (Nat.le_refl _) _
  have H := Lib.hid (h.below hb0)
  have HF := Lib.hid hf
  clear h hf hz
  go_enter Try.func50, Try.ntmps50
  go_wp2_with fail
  refine (HC.out _ H.out h0).mono ?_
  rintro e w1 ⟨⟨y, b, rfl⟩, hb⟩
  have HB := Lib.hid (hb0.trans (hb.mono (by simp)))
  have hcv := ((H.out.below hb).sub 0 k (by omega)).conv c
  rw [show strOf k (fun j => f (0 + j)) = strOf k f from strOf_congr fun i _ => by rw [Nat.zero_add]] at hcv
  rw [Nat.add_zero] at hcv
  clear hb0 hb h0
  go_wp2_with fail
  go_ret
  exact ⟨rfl, HB.out⟩

set_option maxHeartbeats 1000000 in
theorem equal_any (g o g2 o2 n c c2 : Nat) (f f2 : Nat → Int) (b : Bool) (w : World) (h : BytesAt w g o n f) (h2 : BytesAt w g2 o2 n f2) (hb : (strOf n f == strOf n f2) = b) :
    Calls Try.prog 51 #[.slice (some ⟨g, o, none⟩) n c, .slice (some ⟨g2, o2, none⟩) n c2] w fun e w' => e = .returned (.bool b) ∧ w = w' := by
  have e1 := h.conv c
  have e2 := h2.conv c2
  generalize strOf n f = s at *
  generalize strOf n f2 = s2 at *
  clear h h2
  go_enter Try.func51, Try.ntmps51
  go_wp2
  go_ret
  exact ⟨by rw [← hb, beq_toListBytes]; rfl, rfl⟩

set_option maxHeartbeats 1000000 in
theorem until_any (g o n c : Nat) (f : Nat → Int) (w : World) (h : BytesAt w g o n f) (hn : n ≤ c) (hc : c ≤ 9223372036854775807) :
    Calls Try.prog 52 #[.slice (some ⟨g, o, none⟩) n c] w fun e w' => e = .returned (.string (strOf (fz f n) f)) ∧ w = w' := by
  have H := Lib.hid h
  clear h
  go_enter Try.func52, Try.ntmps52
  go_wp2
  go_loop [3] (fun i => ∃ k : Nat, k ≤ n ∧ i = .int .i64 k ∧ ∀ j, j < k → f j ≠ 0) (fun i => n - (intOf i).toNat)
  case atStart => exact ⟨0, Nat.zero_le _, rfl, fun i h0 => by omega⟩
  case round =>
    obtain ⟨k, hk, rfl, hall⟩ := hrel
    have HALL := Lib.hid hall
    clear hall
    by_cases hlt : k < n
    · have hck := H.out k hlt
      by_cases hz : f k = 0
      · have HEQ := Lib.hid (fz_uniq hk HALL.out (fun _ => hz))
        have hcv := (H.out.sub 0 k (by omega)).conv c
        rw [show strOf k (fun j => f (0 + j)) = strOf k f from strOf_congr fun i _ => by rw [Nat.zero_add]] at hcv
        rw [Nat.add_zero] at hcv
        rw [hz] at hck
        clear hz
        go_wp2
        go_ret
        exact ⟨by rw [HEQ.out]; rfl, rfl⟩
      · have hq : (f k == 0) = false := by simpa using hz
        have HZ := Lib.hid hz
        clear hz
        go_wp2
        go_round
        case rel =>
          refine ⟨k + 1, by omega, by go_num, fun j hj => ?_⟩
          by_cases e : j = k
          · subst e; exact HZ.out
          · exact HALL.out j (by omega)
        case measure => simp [intOf]; omega
    · obtain rfl : k = n := by omega
      have HEQ := Lib.hid (fz_uniq hk HALL.out (fun h => absurd h (Nat.lt_irrefl _)))
      have hcv := H.out.conv c
      go_wp2
      go_ret
      exact ⟨by rw [HEQ.out]; rfl, rfl⟩

set_option maxRecDepth 100000 in
set_option maxHeartbeats 1000000 in
theorem validData_any (d : Dat) (w : World) (hok : d.Ok) : Calls Try.prog 49 #[d.v] w fun e w' => e = .returned (.bool (vDat d)) ∧ Below w.heap.size w w' := by
  have HOK := Lib.hid hok
  have hd := DatAt.fresh w d
  have hb0 : Below w.heap.size w (w.alloc (.cells (arr 19 (dcell d)) 69)) := (Below.refl _ w).alloc (Nat.le_refl _) _
  have HN1 := Lib.hid fun W => validName_any d.sub W hok.s
  have HN2 := Lib.hid fun W => validName_any d.hst W hok.t
  have HZ := Lib.hid fun W => hostz d W
  have HBU := Lib.hid fun W => build16 W
  have e0 : Hid (vDat d = (vName d.sub && (vName d.hst && !hz d))) := Lib.hid rfl
  generalize vDat d = r at e0 ⊢
  generalize vName d.sub = b1 at HN1 e0
  generalize vName d.hst = b2 at HN2 e0
  generalize hz d = b3 at HZ e0
  have c2 : (w.alloc (.cells (arr 19 (dcell d)) 69)).cell? ⟨w.heap.size, 17, none⟩ = some (.string d.sub) := World.rowIs.cell hd (by omega)
  have HD := Lib.hid hd
  have HB0 := Lib.hid hb0
  unfold Dat.v
  clear hok hd hb0
  go_enter Try.func49, Try.ntmps49
  go_wp2_with fail
  refine (HN1.out _).mono ?_
  obtain ⟨W0, hW0⟩ : ∃ W0, W0 = w.alloc (.cells (arr 19 (dcell d)) 69) := ⟨_, rfl⟩
  rw [← hW0]
  have HWD := Lib.hid (show DatAt W0 w.heap.size d by rw [hW0]; exact HD.out)
  have HB := Lib.hid (show Below w.heap.size w W0 by rw [hW0]; exact HB0.out)
  clear hW0 HD HB0 c2
  rintro e w1 ⟨rfl, hb1⟩
  have HB1 := Lib.hid (HB.out.trans (hb1.mono HB.out.size))
  have HD1 := Lib.hid (World.rowIs.of_block HWD.out (hb1.block _ (World.rowIs.lt HWD.out)))
  cases b1
  · have : r = false := by rw [e0.out]; rfl
    subst this
    go_wp2_with fail
    go_ret
    exact ⟨rfl, HB1.out⟩
  have c3 : w1.cell? ⟨w.heap.size, 18, none⟩ = some (.string d.hst) := World.rowIs.cell HD1.out (by omega)
  go_wp2_with fail
  refine (HN2.out _).mono ?_
  rintro e w2 ⟨rfl, hb2⟩
  have HB2 := Lib.hid (HB1.out.trans (hb2.mono HB1.out.size))
  have HD2 := Lib.hid (World.rowIs.of_block HD1.out (hb2.block _ (World.rowIs.lt HD1.out)))
  clear c3
  cases b2
  · have : r = false := by rw [e0.out]; rfl
    subst this
    go_wp2_with fail
    go_ret
    exact ⟨rfl, HB2.out⟩
  have : r = !b3 := by rw [e0.out]; cases b3 <;> rfl
  subst this
  have hN := HZ.out w2
  have hra := rowIs_range HD2.out 0 16 (by omega)
  simp only [Nat.zero_add] at hra
  have HRA := Lib.hid (show World.rangeAt w2 w.heap.size 0 (arr 16 (dcell d)).toList by rw [arr_list]; exact hra)
  clear hra
  go_wp2_with (first
    | ((with_reducible show wpList _ _ _ (⟨some 13, .load _ _, _, _, _, _⟩ :: _) _ _); refine wpList_load_midG rfl 67 (.tmp 12) rfl w.heap.size 0 rfl (arr 16 (dcell d)).toList _ HRA.out Try.underlying67 rfl (by rw [size16]; simp [arr]) ?_)
    | ((with_reducible show wpList _ _ _ (⟨some 14, .build _ _, _, _, _, _⟩ :: _) _ _); refine wpList_build0G rfl 67 rfl (HBU.out _) ?_))
  go_ret
  exact ⟨rfl, HB2.out⟩

set_option maxRecDepth 100000 in
set_option maxHeartbeats 1000000 in
theorem refData_any (d : Dat) (w : World) (hok : d.Ok) : Calls Try.prog 33 #[d.v] w fun e w' => e = .returned (.bool (vDat d)) ∧ Below w.heap.size w w' := by
  have HOK := Lib.hid hok
  have hd := DatAt.fresh w d
  have hb0 : Below w.heap.size w (w.alloc (.cells (arr 19 (dcell d)) 69)) := (Below.refl _ w).alloc (Nat.le_refl _) _
  have HN1 := Lib.hid fun W => refName_any d.sub W hok.s
  have HN2 := Lib.hid fun W => refName_any d.hst W hok.t
  have HZ := Lib.hid fun W => hostz d W
  have HBU := Lib.hid fun W => build16 W
  have e0 : Hid (vDat d = (vName d.sub && (vName d.hst && !hz d))) := Lib.hid rfl
  generalize vDat d = r at e0 ⊢
  generalize vName d.sub = b1 at HN1 e0
  generalize vName d.hst = b2 at HN2 e0
  generalize hz d = b3 at HZ e0
  have c2 : (w.alloc (.cells (arr 19 (dcell d)) 69)).cell? ⟨w.heap.size, 17, none⟩ = some (.string d.sub) := World.rowIs.cell hd (by omega)
  have HD := Lib.hid hd
  have HB0 := Lib.hid hb0
  unfold Dat.v
  clear hok hd hb0
  go_enter Try.func33, Try.ntmps33
  go_wp2_with fail
  refine (HN1.out _).mono ?_
  obtain ⟨W0, hW0⟩ : ∃ W0, W0 = w.alloc (.cells (arr 19 (dcell d)) 69) := ⟨_, rfl⟩
  rw [← hW0]
  have HWD := Lib.hid (show DatAt W0 w.heap.size d by rw [hW0]; exact HD.out)
  have HB := Lib.hid (show Below w.heap.size w W0 by rw [hW0]; exact HB0.out)
  clear hW0 HD HB0 c2
  rintro e w1 ⟨rfl, rfl⟩
  have HB1 := HB
  have HD1 := HWD
  cases b1
  · have : r = false := by rw [e0.out]; rfl
    subst this
    go_wp2_with fail
    go_ret
    exact ⟨rfl, HB1.out⟩
  have c3 : W0.cell? ⟨w.heap.size, 18, none⟩ = some (.string d.hst) := World.rowIs.cell HD1.out (by omega)
  go_wp2_with fail
  refine (HN2.out _).mono ?_
  rintro e w2 ⟨rfl, rfl⟩
  have HB2 := HB1
  have HD2 := HD1
  clear c3
  cases b2
  · have : r = false := by rw [e0.out]; rfl
    subst this
    go_wp2_with fail
    go_ret
    exact ⟨rfl, HB2.out⟩
  have : r = !b3 := by rw [e0.out]; cases b3 <;> rfl
  subst this
  have hN := HZ.out W0
  have hra := rowIs_range HD2.out 0 16 (by omega)
  simp only [Nat.zero_add] at hra
  have HRA := Lib.hid (show World.rangeAt W0 w.heap.size 0 (arr 16 (dcell d)).toList by rw [arr_list]; exact hra)
  clear hra
  go_wp2_with (first
    | ((with_reducible show wpList _ _ _ (⟨some 13, .load _ _, _, _, _, _⟩ :: _) _ _); refine wpList_load_midG rfl 67 (.tmp 12) rfl w.heap.size 0 rfl (arr 16 (dcell d)).toList _ HRA.out Try.underlying67 rfl (by rw [size16]; simp [arr]) ?_)
    | ((with_reducible show wpList _ _ _ (⟨some 14, .build _ _, _, _, _, _⟩ :: _) _ _); refine wpList_build0G rfl 67 rfl (HBU.out _) ?_))
  go_ret
  exact ⟨rfl, HB2.out⟩
end Go.Proofs.Ytchkipafjnehfaa
