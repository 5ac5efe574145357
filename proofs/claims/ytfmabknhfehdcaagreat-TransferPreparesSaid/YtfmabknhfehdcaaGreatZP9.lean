/- sgl: Decode. -/
import Derived.Test.YtfmabknhfehdcaaGreatZP8
namespace Go.Proofs.YtfmabknhfehdcaaGreat
set_option linter.unusedSimpArgs false
set_option linter.unusedVariables false
open Go.RowKit
def decE (x1 : Int) : Int :=
 if 5 ≤ x1 / 1152921504606846976 ∨ x1 % 1152921504606846976 / 72057594037927936 ≠ 0 then 160
 else if x1 / 1152921504606846976 = 4 then 0 else if x1 % 1152921504606846976 / 4294967296 ≠ 0 then 160 else 0
def zDsc : Dsc := ⟨0, 0, 0, 0⟩
def decD (x0 x1 : Int) : Dsc :=
 if decE x1 = 160 then zDsc else if x1 / 1152921504606846976 = 4 then ⟨5, x0, x1 % 1152921504606846976 % 16777216, x1 % 1152921504606846976 / 16777216⟩
 else ⟨x1 / 1152921504606846976 + 1, x0, x1 % 1152921504606846976, 0⟩
theorem sizeD : (Tryz.prog.info? 72).map (·.size) = some 4 := by kernel_rfl
theorem zeroD (w : World) : (zeroValue 72).run Tryz.prog w = .ok (.agg zDsc.cells) w := by kernel_rfl
theorem buildDz (w : World) : (Instr.build 72 #[]).run Tryz.prog w = .ok (.agg zDsc.cells) w := by kernel_rfl
theorem Dsc.one (d : Dsc) : d.cells.all (·.oneCell') = true := by simp [Dsc.cells, Value.oneCell']
theorem Dsc.size (d : Dsc) : d.cells.size = 4 := rfl
theorem sizeDs (d : Dsc) : (Tryz.prog.info? 72).map (·.size) = some d.cells.size := sizeD
theorem index_kinds (i r : Int) (h0 : 0 ≤ i) (h5 : i < 5) (hr : i + 1 = r) (w : World) : (Instr.index 117 (.agg kinds5) (.int .i64 i)).run Tryz.prog w = .ok (.int .i64 r) w := by
 subst hr
 obtain rfl | rfl | rfl | rfl | rfl : i = 0 ∨ i = 1 ∨ i = 2 ∨ i = 3 ∨ i = 4 := by omega
 all_goals kernel_rfl
theorem and_low (x : Int) (k : Nat) (m : Int) (hm : m = 2 ^ k - 1) (h0 : 0 ≤ x) (h1 : x ≤ 18446744073709551615) (hk : k ≤ 63) : bits .and .u64 x m = x % 2 ^ k := by
 obtain ⟨n, rfl⟩ := Int.eq_ofNat_of_zero_le h0
 have hp : (2 : Int) ^ k = ((2 ^ k : Nat) : Int) := by push_cast; rfl
 have h2 : 0 < 2 ^ k := Nat.pow_pos (by omega)
 have h3 : 2 ^ k ≤ 2 ^ 63 := Nat.pow_le_pow_right (by omega) hk
 have em : m = ((2 ^ k - 1 : Nat) : Int) := by rw [hm, hp]; omega
 rw [show (2 : Nat) ^ 63 = 9223372036854775808 by decide] at h3
 have h4 : 2 ^ k - 1 < 18446744073709551616 := by omega
 rw [em, u64_and_nat n (2 ^ k - 1) (by omega) h4, Nat.and_two_pow_sub_one_eq_mod, hp]
 omega
/-- the words boxed, and the result beside them -/
theorem dec_start (x0 x1 : Int) (w : World) : ∃ W, W = (w.alloc (.cells #[.int .u64 x0, .int .u64 x1] 25)).alloc (.cells zDsc.cells 72) ∧ Below w.heap.size w W ∧ W.heap.size = w.heap.size + 2 ∧
  W.cell? ⟨w.heap.size, 0, none⟩ = some (.int .u64 x0) ∧ W.cell? ⟨w.heap.size, 1, none⟩ = some (.int .u64 x1) ∧ ArrAt W (w.heap.size + 1) zDsc.cells := by
 refine ⟨_, rfl, ((Below.refl _ w).alloc (Nat.le_refl _) _).alloc (by simp) _, by simp, by go_simp, by go_simp, ?_⟩
 have h := ArrAt.fresh (w.alloc (.cells #[.int .u64 x0, .int .u64 x1] 25)) zDsc.cells 72 (by decide)
 rw [show (w.alloc (.cells #[.int .u64 x0, .int .u64 x1] 25)).heap.size = w.heap.size + 1 by simp] at h
 exact h
set_option maxRecDepth 100000 in
set_option maxHeartbeats 2000000 in
theorem decode_err1 (x0 x1 k r : Int) (d : Dsc) (no : Int) (w : World) (h0 : 0 ≤ x1) (h1 : x1 ≤ 18446744073709551615) (hk : x1 / 1152921504606846976 = k) (hr : x1 % 1152921504606846976 = r) (q1 : decide (5 ≤ k) = true) (hd : d = zDsc) (hn : no = 160) :
  Calls Tryz.prog 88 #[.agg #[.int .u64 x0, .int .u64 x1]] w fun e w' => e = .returned (.tuple #[.agg d.cells, .int .i64 no]) ∧ Below w.heap.size w w' := by
 have e1 : bits .and .u64 x1 1152921504606846975 = r := by rw [and_low x1 60 _ (by decide) h0 h1 (by omega), ← hr]; rfl
 have k0 : 0 ≤ k := by omega
 have k16 : k < 16 := by omega
 have r0 : 0 ≤ r := by omega
 have r60 : r < 1152921504606846976 := by omega
 have ek : x1 / 1152921504606846976 = k := hk
 clear hr
 clear hk
 obtain ⟨W, hW, hb0, hs0, c0, c1, ha⟩ := dec_start x0 x1 w
 have HA := Lib.hid ha
 have HB := Lib.hid hb0
 have HW := Lib.hid hW
 have HS := Lib.hid hs0
 have hs : w.heap.size + 2 ≤ W.heap.size := by omega
 clear hW hb0 hs0 ha
 go_enter Tryz.func88, Tryz.ntmps88
 go_upto_region 1 with ((with_reducible show wpList _ _ _ (⟨some 2, _, _, _, _, _⟩ :: _) _ _); refine wpList_alloc rfl 72 rfl zeroD ?_; rw [show (Value.agg zDsc.cells).cells = zDsc.cells from rfl])
 rw [show (w.alloc (.cells #[.int .u64 x0, .int .u64 x1] 25)).alloc (.cells zDsc.cells 72) = W from HW.out.symm]
 try simp only [Act.put, List.setIfInBounds_toArray, List.set_cons_succ, List.set_cons_zero]
 go_quiet (fail)
 obtain ⟨W2, hW2⟩ : ∃ z, z = W.drewN nq := ⟨_, rfl⟩
 rw [← hW2]
 have hN : Below W.heap.size W W2 := by rw [hW2]; exact belowN (Below.refl _ _) _
 have A2 := Lib.hid (HA.out.below hN)
 have B2 := Lib.hid (HB.out.trans (hN.mono (by omega)))
 have g0 : W2.cell? ⟨w.heap.size, 0, none⟩ = some (.int .u64 x0) := by rw [hW2]; exact c0
 have hs2 : w.heap.size + 2 ≤ W2.heap.size := by have := hN.size; omega
 clear hW2 hN c0 c1 HA HB HW HS hs
 go_wp2_with (first
  | (go_at_call 64; (refine (types_any _).mono ?_; rintro e w1 ⟨rfl, hb⟩; have A3 := Lib.hid (A2.out.below hb); have B3 := Lib.hid (B2.out.trans (hb.mono (by omega))); have g1 := (hb.cell (p := ⟨w.heap.size, 0, none⟩) (show w.heap.size < _ by omega)).trans g0; have hs3 : w.heap.size + 2 ≤ w1.heap.size := (by have := hb.size; omega); clear hb))
  | ((with_reducible show wpList _ _ _ (⟨some 23, _, _, _, _, _⟩ :: _) _ _); refine wpList_build0 rfl 72 rfl (buildDz _) ?_)
  | ((with_reducible show wpList _ _ _ (⟨none, .store _ (.tmp 2) _, _, _, _, _⟩ :: _) _ _); refine wpList_storeA rfl (b := w.heap.size + 1) (A := zDsc.cells) (A' := zDsc.cells) A3.out 72 (.tmp 2) (.tmp 23) rfl (by simp [Act.eval, Act.put]) (by simp [Act.eval, Act.put]) (sizeDs _) rfl (Dsc.one _) ?_))
 subst hd hn
 exact bodyPost_ret (results_ct rfl _ _ _ (A3.out.store zDsc.cells rfl) rfl Tryz.underlying72 rfl (sizeDs _)) rfl ⟨rfl, bstore B3.out _ (by omega) _ _⟩
set_option maxRecDepth 100000 in
set_option maxHeartbeats 2000000 in
theorem decode_err2 (x0 x1 k r : Int) (d : Dsc) (no : Int) (w : World) (h0 : 0 ≤ x1) (h1 : x1 ≤ 18446744073709551615) (hk : x1 / 1152921504606846976 = k) (hr : x1 % 1152921504606846976 = r) (q1 : decide (5 ≤ k) = false) (q2 : (r / 72057594037927936 != 0) = true) (hd : d = zDsc) (hn : no = 160) :
  Calls Tryz.prog 88 #[.agg #[.int .u64 x0, .int .u64 x1]] w fun e w' => e = .returned (.tuple #[.agg d.cells, .int .i64 no]) ∧ Below w.heap.size w w' := by
 have e1 : bits .and .u64 x1 1152921504606846975 = r := by rw [and_low x1 60 _ (by decide) h0 h1 (by omega), ← hr]; rfl
 have k0 : 0 ≤ k := by omega
 have k16 : k < 16 := by omega
 have r0 : 0 ≤ r := by omega
 have r60 : r < 1152921504606846976 := by omega
 have ek : x1 / 1152921504606846976 = k := hk
 clear hr
 clear hk
 obtain ⟨W, hW, hb0, hs0, c0, c1, ha⟩ := dec_start x0 x1 w
 have HA := Lib.hid ha
 have HB := Lib.hid hb0
 have HW := Lib.hid hW
 have HS := Lib.hid hs0
 have hs : w.heap.size + 2 ≤ W.heap.size := by omega
 clear hW hb0 hs0 ha
 go_enter Tryz.func88, Tryz.ntmps88
 go_upto_region 1 with ((with_reducible show wpList _ _ _ (⟨some 2, _, _, _, _, _⟩ :: _) _ _); refine wpList_alloc rfl 72 rfl zeroD ?_; rw [show (Value.agg zDsc.cells).cells = zDsc.cells from rfl])
 rw [show (w.alloc (.cells #[.int .u64 x0, .int .u64 x1] 25)).alloc (.cells zDsc.cells 72) = W from HW.out.symm]
 try simp only [Act.put, List.setIfInBounds_toArray, List.set_cons_succ, List.set_cons_zero]
 go_quiet (fail)
 obtain ⟨W2, hW2⟩ : ∃ z, z = W.drewN nq := ⟨_, rfl⟩
 rw [← hW2]
 have hN : Below W.heap.size W W2 := by rw [hW2]; exact belowN (Below.refl _ _) _
 have A2 := Lib.hid (HA.out.below hN)
 have B2 := Lib.hid (HB.out.trans (hN.mono (by omega)))
 have g0 : W2.cell? ⟨w.heap.size, 0, none⟩ = some (.int .u64 x0) := by rw [hW2]; exact c0
 have hs2 : w.heap.size + 2 ≤ W2.heap.size := by have := hN.size; omega
 clear hW2 hN c0 c1 HA HB HW HS hs
 go_wp2_with (first
  | (go_at_call 64; (refine (types_any _).mono ?_; rintro e w1 ⟨rfl, hb⟩; have A3 := Lib.hid (A2.out.below hb); have B3 := Lib.hid (B2.out.trans (hb.mono (by omega))); have g1 := (hb.cell (p := ⟨w.heap.size, 0, none⟩) (show w.heap.size < _ by omega)).trans g0; have hs3 : w.heap.size + 2 ≤ w1.heap.size := (by have := hb.size; omega); clear hb))
  | ((with_reducible show wpList _ _ _ (⟨some 23, _, _, _, _, _⟩ :: _) _ _); refine wpList_build0 rfl 72 rfl (buildDz _) ?_)
  | ((with_reducible show wpList _ _ _ (⟨none, .store _ (.tmp 2) _, _, _, _, _⟩ :: _) _ _); refine wpList_storeA rfl (b := w.heap.size + 1) (A := zDsc.cells) (A' := zDsc.cells) A3.out 72 (.tmp 2) (.tmp 23) rfl (by simp [Act.eval, Act.put]) (by simp [Act.eval, Act.put]) (sizeDs _) rfl (Dsc.one _) ?_))
 subst hd hn
 exact bodyPost_ret (results_ct rfl _ _ _ (A3.out.store zDsc.cells rfl) rfl Tryz.underlying72 rfl (sizeDs _)) rfl ⟨rfl, bstore B3.out _ (by omega) _ _⟩
/-- a new descriptor of a kind and an address -/
def LaidD (w : World) (k x0 : Int) (p : Value) (wc : World) : Prop := ∃ lb, p = .pointer (some ⟨lb, 0, none⟩) ∧ w.heap.size ≤ lb ∧ ArrAt wc lb (Dsc.cells ⟨k, x0, 0, 0⟩) ∧ Below w.heap.size w wc
set_option maxRecDepth 100000 in
set_option maxHeartbeats 2000000 in
theorem decode_keyed (x0 x1 k r : Int) (d : Dsc) (no : Int) (w : World) (h0 : 0 ≤ x1) (h1 : x1 ≤ 18446744073709551615) (hk : x1 / 1152921504606846976 = k) (hr : x1 % 1152921504606846976 = r) (q1 : decide (5 ≤ k) = false) (q2 : (r / 72057594037927936 != 0) = false) (q3 : (k + 1 == 5) = true) (n1 y : Int) (hn1 : r % 16777216 = n1) (hy : r / 16777216 = y) (hd : d = ⟨k + 1, x0, n1, y⟩) (hn : no = 0) :
  Calls Tryz.prog 88 #[.agg #[.int .u64 x0, .int .u64 x1]] w fun e w' => e = .returned (.tuple #[.agg d.cells, .int .i64 no]) ∧ Below w.heap.size w w' := by
 have e1 : bits .and .u64 x1 1152921504606846975 = r := by rw [and_low x1 60 _ (by decide) h0 h1 (by omega), ← hr]; rfl
 have k0 : 0 ≤ k := by omega
 have k16 : k < 16 := by omega
 have r0 : 0 ≤ r := by omega
 have r60 : r < 1152921504606846976 := by omega
 have ek : x1 / 1152921504606846976 = k := hk
 clear hr
 have e2 : bits .and .u64 r 16777215 = n1 := by rw [and_low r 24 _ (by decide) r0 (by omega) (by omega), ← hn1]; rfl
 have r56 : r < 72057594037927936 := by have := q2; simp at this; omega
 have n10 : 0 ≤ n1 := by omega
 have n11 : n1 < 16777216 := by omega
 have y0 : 0 ≤ y := by omega
 have y1 : y < 4294967296 := by omega
 have e4 : y % 4294967296 = y := by omega
 clear hn1
 clear hk
 obtain ⟨W, hW, hb0, hs0, c0, c1, ha⟩ := dec_start x0 x1 w
 have HA := Lib.hid ha
 have HB := Lib.hid hb0
 have HW := Lib.hid hW
 have HS := Lib.hid hs0
 have hs : w.heap.size + 2 ≤ W.heap.size := by omega
 clear hW hb0 hs0 ha
 go_enter Tryz.func88, Tryz.ntmps88
 go_upto_region 1 with ((with_reducible show wpList _ _ _ (⟨some 2, _, _, _, _, _⟩ :: _) _ _); refine wpList_alloc rfl 72 rfl zeroD ?_; rw [show (Value.agg zDsc.cells).cells = zDsc.cells from rfl])
 rw [show (w.alloc (.cells #[.int .u64 x0, .int .u64 x1] 25)).alloc (.cells zDsc.cells 72) = W from HW.out.symm]
 try simp only [Act.put, List.setIfInBounds_toArray, List.set_cons_succ, List.set_cons_zero]
 go_quiet (fail)
 obtain ⟨W2, hW2⟩ : ∃ z, z = W.drewN nq := ⟨_, rfl⟩
 rw [← hW2]
 have hN : Below W.heap.size W W2 := by rw [hW2]; exact belowN (Below.refl _ _) _
 have A2 := Lib.hid (HA.out.below hN)
 have B2 := Lib.hid (HB.out.trans (hN.mono (by omega)))
 have g0 : W2.cell? ⟨w.heap.size, 0, none⟩ = some (.int .u64 x0) := by rw [hW2]; exact c0
 have hs2 : w.heap.size + 2 ≤ W2.heap.size := by have := hN.size; omega
 clear hW2 hN c0 c1 HA HB HW HS hs
 go_upto_region 4 with (first
  | (go_at_call 64; (refine (types_any _).mono ?_; rintro e w1 ⟨rfl, hb⟩; have A3 := Lib.hid (A2.out.below hb); have B3 := Lib.hid (B2.out.trans (hb.mono (by omega))); have g1 := (hb.cell (p := ⟨w.heap.size, 0, none⟩) (show w.heap.size < _ by omega)).trans g0; have hs3 : w.heap.size + 2 ≤ w1.heap.size := (by have := hb.size; omega); clear hb)))
 have hk4 : k < 5 := by simpa using q1
 have hl1 : w.heap.size < w1.heap.size := by omega
 have hl2 : w.heap.size < w1.heap.size + 1 := by omega
 have HI := Lib.hid fun w => index_kinds k (k + 1) k0 hk4 rfl w
 have hi := HI.out
 have D1 := Lib.hid (Dsc.one ⟨k + 1, x0, 0, 0⟩)
 go_cut [6] from 24 to 30 (fun p wc => LaidD w1 (k + 1) x0 p wc)
 case first =>
  refine wp_region_held_drew (S := fun w' => Below w1.heap.size w1 w') (by kernel_rfl) (Below.refl _ _).drew (fun hS0 => ?_)
  refine takeD 25 (i := 1) (v := .int .i64 k) rfl rfl (by kernel_rfl) (by kernel_rfl) (by kernel_rfl) (fun _ _ _ h => h) (Or.inl ⟨by rfl, by (intro w' _; go_simp)⟩) (by assumption) ?_
  try simp only [Act.put, List.setIfInBounds_toArray, List.set_cons_zero, List.set_cons_succ]
  refine takeD 27 (i := 3) (v := .pointer (some ⟨w.heap.size, 0, none⟩)) rfl rfl (by kernel_rfl) (by kernel_rfl) (by kernel_rfl) (fun _ _ _ h => h) (Or.inl ⟨by rfl, by (intro w' _; go_simp)⟩) (by assumption) ?_
  try simp only [Act.put, List.setIfInBounds_toArray, List.set_cons_zero, List.set_cons_succ]
  refine takeD 28 (i := 4) (v := .int .u64 x0) rfl rfl (by kernel_rfl) (by kernel_rfl) (by kernel_rfl) (fun _ _ _ h => h) (Or.inl ⟨by rfl, by (intro w' h; have h2 := (h.cell (p := ⟨w.heap.size, 0, none⟩) hl1).trans g1; clear h; go_simp)⟩) (by assumption) ?_
  try simp only [Act.put, List.setIfInBounds_toArray, List.set_cons_zero, List.set_cons_succ]
  refine wpAnyH_ready (rs := [0, 6]) (by kernel_rfl) (by simp) (AllReadyH.cons rfl (fun K hK => ?_) (AllReadyH.cons rfl (fun K hK => ?_) AllReadyH.nil))
  ·rw [if_pos (by rfl)]
   go_simp
   refine (types_any _).mono ?_
   rintro e wt ⟨rfl, hb⟩
   have hSN : Below w1.heap.size w1 wt := hS0.trans (hb.mono hS0.size)
   refine hK.out _ _ hSN (fun hS0 => ?_)
   clear hK K hb hSN
   try simp only [Act.put, List.setIfInBounds_toArray, List.set_cons_zero, List.set_cons_succ]
   refine takeD 26 (i := 2) (v := .int .i64 (k + 1)) rfl rfl (by kernel_rfl) (by kernel_rfl) (by kernel_rfl) (fun _ _ _ h => h) (Or.inl ⟨by rfl, by (intro w' _; go_simp)⟩) (by assumption) ?_
   try simp only [Act.put, List.setIfInBounds_toArray, List.set_cons_zero, List.set_cons_succ]
   refine takeD 29 (i := 5) (v := .agg #[.int .i64 (k + 1), .int .u64 x0, .int .i64 0, .int .u32 0]) rfl rfl (by kernel_rfl) (by kernel_rfl) (by kernel_rfl) (fun _ _ _ h => h) (Or.inl ⟨by rfl, by (intro w' _; go_simp)⟩) (by assumption) ?_
   try simp only [Act.put, List.setIfInBounds_toArray, List.set_cons_zero, List.set_cons_succ]
   refine wpAnyH_ready (rs := [6]) (by kernel_rfl) (by simp) (AllReadyH.cons rfl (fun K hK => ?_) AllReadyH.nil)
   ·rw [if_pos (by rfl)]
    refine wp_allocN 72 6 rfl rfl zeroD (A := zDsc.cells) rfl ?_
    obtain ⟨wta, hw⟩ : ∃ x, x = (wt).alloc (.cells zDsc.cells 72) := ⟨_, rfl⟩
    rw [← hw]
    have hb : Below (wt).heap.size (wt) wta := by rw [hw]; exact (Below.refl _ _).alloc (Nat.le_refl _) _
    have ADta := Lib.hid (show ArrAt wta (wt).heap.size zDsc.cells by rw [hw]; exact (fun w => ArrAt.fresh w zDsc.cells 72 (by decide)) _)
    obtain ⟨lb, hbk⟩ : ∃ x, x = (wt).heap.size := ⟨_, rfl⟩
    rw [← hbk] at ADta
    have hlolb : w1.heap.size ≤ lb := by rw [hbk]; exact hS0.size
    have hhilb : lb < wta.heap.size := ADta.out.lt
    have hSN : Below w1.heap.size w1 wta := hS0.trans (hb.mono hS0.size)
    rw [← hbk]
    clear hw hbk
    refine hK.out _ _ hSN (fun hS0 => ?_)
    clear hK K hb hSN
    try simp only [Act.put, List.setIfInBounds_toArray, List.set_cons_zero, List.set_cons_succ]
    refine wpAnyH_ready (rs := [7]) (by kernel_rfl) (by simp) (AllReadyH.cons rfl (fun K hK => ?_) AllReadyH.nil)
    rw [if_pos (by rfl)]
    refine wp_storeN 72 (.tmp 6) (.tmp 29) rfl rfl (lb) 0 #[.int .i64 (k + 1), .int .u64 x0, .int .i64 0, .int .u32 0] (by first | rfl | simp [Act.eval, Act.put]) (by first | rfl | simp [Act.eval, Act.put]) ADta.out.th sizeD D1.out ?_
    refine hK.out _ _ (bstore hS0 _ hlolb _ _) (fun hS0 => ?_)
    clear hK K
    try simp only [Act.put, List.setIfInBounds_toArray, List.set_cons_zero, List.set_cons_succ]
    refine wpAnyH_done (by kernel_rfl) ?_ _
    go_wp2_with fail
    go_meet
    exact ⟨_, rfl, hlolb, ADta.out.store #[.int .i64 (k + 1), .int .u64 x0, .int .i64 0, .int .u32 0] rfl, hS0⟩
  ·rw [if_pos (by rfl)]
   refine wp_allocN 72 6 rfl rfl zeroD (A := zDsc.cells) rfl ?_
   obtain ⟨wa, hw⟩ : ∃ x, x = (w1.drew).alloc (.cells zDsc.cells 72) := ⟨_, rfl⟩
   rw [← hw]
   have hb : Below (w1.drew).heap.size (w1.drew) wa := by rw [hw]; exact (Below.refl _ _).alloc (Nat.le_refl _) _
   have ADa := Lib.hid (show ArrAt wa (w1.drew).heap.size zDsc.cells by rw [hw]; exact (fun w => ArrAt.fresh w zDsc.cells 72 (by decide)) _)
   obtain ⟨lb, hbk⟩ : ∃ x, x = (w1.drew).heap.size := ⟨_, rfl⟩
   rw [← hbk] at ADa
   have hlolb : w1.heap.size ≤ lb := by rw [hbk]; exact hS0.size
   have hhilb : lb < wa.heap.size := ADa.out.lt
   have hSN : Below w1.heap.size w1 wa := hS0.trans (hb.mono hS0.size)
   rw [← hbk]
   clear hw hbk
   refine hK.out _ _ hSN (fun hS0 => ?_)
   clear hK K hb hSN
   try simp only [Act.put, List.setIfInBounds_toArray, List.set_cons_zero, List.set_cons_succ]
   refine wpAnyH_ready (rs := [0]) (by kernel_rfl) (by simp) (AllReadyH.cons rfl (fun K hK => ?_) AllReadyH.nil)
   ·rw [if_pos (by rfl)]
    go_simp
    refine (types_any _).mono ?_
    rintro e wat ⟨rfl, hb⟩
    have hSN : Below w1.heap.size w1 wat := hS0.trans (hb.mono hS0.size)
    have ADat := Lib.hid (ADa.out.below hb)
    have hhilb : lb < wat.heap.size := Nat.lt_of_lt_of_le hhilb hb.size
    refine hK.out _ _ hSN (fun hS0 => ?_)
    clear hK K hb hSN
    try simp only [Act.put, List.setIfInBounds_toArray, List.set_cons_zero, List.set_cons_succ]
    refine takeD 26 (i := 2) (v := .int .i64 (k + 1)) rfl rfl (by kernel_rfl) (by kernel_rfl) (by kernel_rfl) (fun _ _ _ h => h) (Or.inl ⟨by rfl, by (intro w' _; go_simp)⟩) (by assumption) ?_
    try simp only [Act.put, List.setIfInBounds_toArray, List.set_cons_zero, List.set_cons_succ]
    refine takeD 29 (i := 5) (v := .agg #[.int .i64 (k + 1), .int .u64 x0, .int .i64 0, .int .u32 0]) rfl rfl (by kernel_rfl) (by kernel_rfl) (by kernel_rfl) (fun _ _ _ h => h) (Or.inl ⟨by rfl, by (intro w' _; go_simp)⟩) (by assumption) ?_
    try simp only [Act.put, List.setIfInBounds_toArray, List.set_cons_zero, List.set_cons_succ]
    refine wpAnyH_ready (rs := [7]) (by kernel_rfl) (by simp) (AllReadyH.cons rfl (fun K hK => ?_) AllReadyH.nil)
    rw [if_pos (by rfl)]
    refine wp_storeN 72 (.tmp 6) (.tmp 29) rfl rfl (lb) 0 #[.int .i64 (k + 1), .int .u64 x0, .int .i64 0, .int .u32 0] (by first | rfl | simp [Act.eval, Act.put]) (by first | rfl | simp [Act.eval, Act.put]) ADat.out.th sizeD D1.out ?_
    refine hK.out _ _ (bstore hS0 _ hlolb _ _) (fun hS0 => ?_)
    clear hK K
    try simp only [Act.put, List.setIfInBounds_toArray, List.set_cons_zero, List.set_cons_succ]
    refine wpAnyH_done (by kernel_rfl) ?_ _
    go_wp2_with fail
    go_meet
    exact ⟨_, rfl, hlolb, ADat.out.store #[.int .i64 (k + 1), .int .u64 x0, .int .i64 0, .int .u32 0] rfl, hS0⟩
 case rest =>
  obtain ⟨lb, rfl, hlb, ha, hb⟩ := hcut
  have A5 := Lib.hid ha
  have A4 := Lib.hid (A3.out.below hb)
  have B4 := Lib.hid (B3.out.trans (hb.mono (by omega)))
  have l0 : wc.cell? ⟨lb, 0, none⟩ = some (.int .i64 (k + 1)) := ha.cell rfl
  have hs4 := hb.size
  clear ha hb
  have l2 : wc.cell? ⟨lb, 2, none⟩ = some (.int .i64 0) := A5.out.cell rfl
  have l3 : wc.cell? ⟨lb, 3, none⟩ = some (.int .u32 0) := A5.out.cell rfl
  have f2 := A5.out.frozen (i := 2) (show 2 < 4 by omega)
  have f3 := A5.out.frozen (i := 3) (show 3 < 4 by omega)
  have A6 := Lib.hid ((A5.out.set 2 (.int .i64 n1) (show 2 < 4 by omega)).set 3 (.int .u32 y) (show 3 < 4 by omega))
  have A7 := Lib.hid (A4.out.kept (S := One lb) (((Keeps.refl (One lb) wc).set1 2 (.int .i64 n1)).set1 3 (.int .u32 y)) (fun e => by have e : w.heap.size + 1 = lb := e; omega))
  have B7 := Lib.hid (B4.out.trans ((((Keeps.refl (One lb) wc).set1 2 (.int .i64 n1)).set1 3 (.int .u32 y)).below (B := w.heap.size) (by omega) (fun j hj e => by have e : j = lb := e; omega)))
  go_wp2_with (first
   | ((with_reducible show wpList _ _ _ (⟨some 50, _, _, _, _, _⟩ :: _) _ _); refine wpList_loadA rfl A6.out 72 (.tmp 6) rfl (by first | rfl | simp [Act.eval, Act.put]) Tryz.underlying72 rfl sizeD ?_)
   | ((with_reducible show wpList _ _ _ (⟨none, .store _ (.tmp 2) _, _, _, _, _⟩ :: _) _ _); refine wpList_storeA rfl (b := w.heap.size + 1) (A := zDsc.cells) (A' := #[.int .i64 (k + 1), .int .u64 x0, .int .i64 n1, .int .u32 y]) A7.out 72 (.tmp 2) (.tmp 50) rfl (by simp [Act.eval, Act.put]) (by simp [Act.eval, Act.put, Dsc.cells]) (sizeDs _) rfl (Dsc.one ⟨_, _, _, _⟩) ?_))
  subst hd hn
  exact bodyPost_ret (results_ct rfl _ _ _ (A7.out.store #[.int .i64 (k + 1), .int .u64 x0, .int .i64 n1, .int .u32 y] rfl) rfl Tryz.underlying72 rfl sizeD) rfl ⟨rfl, bstore B7.out _ (by omega) _ _⟩
set_option maxRecDepth 100000 in
set_option maxHeartbeats 2000000 in
theorem decode_long (x0 x1 k r : Int) (d : Dsc) (no : Int) (w : World) (h0 : 0 ≤ x1) (h1 : x1 ≤ 18446744073709551615) (hk : x1 / 1152921504606846976 = k) (hr : x1 % 1152921504606846976 = r) (q1 : decide (5 ≤ k) = false) (q2 : (r / 72057594037927936 != 0) = false) (q3 : (k + 1 == 5) = false) (q4 : (r / 4294967296 != 0) = true) (hd : d = zDsc) (hn : no = 160) :
  Calls Tryz.prog 88 #[.agg #[.int .u64 x0, .int .u64 x1]] w fun e w' => e = .returned (.tuple #[.agg d.cells, .int .i64 no]) ∧ Below w.heap.size w w' := by
 have e1 : bits .and .u64 x1 1152921504606846975 = r := by rw [and_low x1 60 _ (by decide) h0 h1 (by omega), ← hr]; rfl
 have k0 : 0 ≤ k := by omega
 have k16 : k < 16 := by omega
 have r0 : 0 ≤ r := by omega
 have r60 : r < 1152921504606846976 := by omega
 have ek : x1 / 1152921504606846976 = k := hk
 clear hr
 clear hk
 obtain ⟨W, hW, hb0, hs0, c0, c1, ha⟩ := dec_start x0 x1 w
 have HA := Lib.hid ha
 have HB := Lib.hid hb0
 have HW := Lib.hid hW
 have HS := Lib.hid hs0
 have hs : w.heap.size + 2 ≤ W.heap.size := by omega
 clear hW hb0 hs0 ha
 go_enter Tryz.func88, Tryz.ntmps88
 go_upto_region 1 with ((with_reducible show wpList _ _ _ (⟨some 2, _, _, _, _, _⟩ :: _) _ _); refine wpList_alloc rfl 72 rfl zeroD ?_; rw [show (Value.agg zDsc.cells).cells = zDsc.cells from rfl])
 rw [show (w.alloc (.cells #[.int .u64 x0, .int .u64 x1] 25)).alloc (.cells zDsc.cells 72) = W from HW.out.symm]
 try simp only [Act.put, List.setIfInBounds_toArray, List.set_cons_succ, List.set_cons_zero]
 go_quiet (fail)
 obtain ⟨W2, hW2⟩ : ∃ z, z = W.drewN nq := ⟨_, rfl⟩
 rw [← hW2]
 have hN : Below W.heap.size W W2 := by rw [hW2]; exact belowN (Below.refl _ _) _
 have A2 := Lib.hid (HA.out.below hN)
 have B2 := Lib.hid (HB.out.trans (hN.mono (by omega)))
 have g0 : W2.cell? ⟨w.heap.size, 0, none⟩ = some (.int .u64 x0) := by rw [hW2]; exact c0
 have hs2 : w.heap.size + 2 ≤ W2.heap.size := by have := hN.size; omega
 clear hW2 hN c0 c1 HA HB HW HS hs
 go_upto_region 4 with (first
  | (go_at_call 64; (refine (types_any _).mono ?_; rintro e w1 ⟨rfl, hb⟩; have A3 := Lib.hid (A2.out.below hb); have B3 := Lib.hid (B2.out.trans (hb.mono (by omega))); have g1 := (hb.cell (p := ⟨w.heap.size, 0, none⟩) (show w.heap.size < _ by omega)).trans g0; have hs3 : w.heap.size + 2 ≤ w1.heap.size := (by have := hb.size; omega); clear hb)))
 have hk4 : k < 5 := by simpa using q1
 have hl1 : w.heap.size < w1.heap.size := by omega
 have hl2 : w.heap.size < w1.heap.size + 1 := by omega
 have HI := Lib.hid fun w => index_kinds k (k + 1) k0 hk4 rfl w
 have hi := HI.out
 have D1 := Lib.hid (Dsc.one ⟨k + 1, x0, 0, 0⟩)
 go_cut [6] from 24 to 30 (fun p wc => LaidD w1 (k + 1) x0 p wc)
 case first =>
  refine wp_region_held_drew (S := fun w' => Below w1.heap.size w1 w') (by kernel_rfl) (Below.refl _ _).drew (fun hS0 => ?_)
  refine takeD 25 (i := 1) (v := .int .i64 k) rfl rfl (by kernel_rfl) (by kernel_rfl) (by kernel_rfl) (fun _ _ _ h => h) (Or.inl ⟨by rfl, by (intro w' _; go_simp)⟩) (by assumption) ?_
  try simp only [Act.put, List.setIfInBounds_toArray, List.set_cons_zero, List.set_cons_succ]
  refine takeD 27 (i := 3) (v := .pointer (some ⟨w.heap.size, 0, none⟩)) rfl rfl (by kernel_rfl) (by kernel_rfl) (by kernel_rfl) (fun _ _ _ h => h) (Or.inl ⟨by rfl, by (intro w' _; go_simp)⟩) (by assumption) ?_
  try simp only [Act.put, List.setIfInBounds_toArray, List.set_cons_zero, List.set_cons_succ]
  refine takeD 28 (i := 4) (v := .int .u64 x0) rfl rfl (by kernel_rfl) (by kernel_rfl) (by kernel_rfl) (fun _ _ _ h => h) (Or.inl ⟨by rfl, by (intro w' h; have h2 := (h.cell (p := ⟨w.heap.size, 0, none⟩) hl1).trans g1; clear h; go_simp)⟩) (by assumption) ?_
  try simp only [Act.put, List.setIfInBounds_toArray, List.set_cons_zero, List.set_cons_succ]
  refine wpAnyH_ready (rs := [0, 6]) (by kernel_rfl) (by simp) (AllReadyH.cons rfl (fun K hK => ?_) (AllReadyH.cons rfl (fun K hK => ?_) AllReadyH.nil))
  ·rw [if_pos (by rfl)]
   go_simp
   refine (types_any _).mono ?_
   rintro e wt ⟨rfl, hb⟩
   have hSN : Below w1.heap.size w1 wt := hS0.trans (hb.mono hS0.size)
   refine hK.out _ _ hSN (fun hS0 => ?_)
   clear hK K hb hSN
   try simp only [Act.put, List.setIfInBounds_toArray, List.set_cons_zero, List.set_cons_succ]
   refine takeD 26 (i := 2) (v := .int .i64 (k + 1)) rfl rfl (by kernel_rfl) (by kernel_rfl) (by kernel_rfl) (fun _ _ _ h => h) (Or.inl ⟨by rfl, by (intro w' _; go_simp)⟩) (by assumption) ?_
   try simp only [Act.put, List.setIfInBounds_toArray, List.set_cons_zero, List.set_cons_succ]
   refine takeD 29 (i := 5) (v := .agg #[.int .i64 (k + 1), .int .u64 x0, .int .i64 0, .int .u32 0]) rfl rfl (by kernel_rfl) (by kernel_rfl) (by kernel_rfl) (fun _ _ _ h => h) (Or.inl ⟨by rfl, by (intro w' _; go_simp)⟩) (by assumption) ?_
   try simp only [Act.put, List.setIfInBounds_toArray, List.set_cons_zero, List.set_cons_succ]
   refine wpAnyH_ready (rs := [6]) (by kernel_rfl) (by simp) (AllReadyH.cons rfl (fun K hK => ?_) AllReadyH.nil)
   ·rw [if_pos (by rfl)]
    refine wp_allocN 72 6 rfl rfl zeroD (A := zDsc.cells) rfl ?_
    obtain ⟨wta, hw⟩ : ∃ x, x = (wt).alloc (.cells zDsc.cells 72) := ⟨_, rfl⟩
    rw [← hw]
    have hb : Below (wt).heap.size (wt) wta := by rw [hw]; exact (Below.refl _ _).alloc (Nat.le_refl _) _
    have ADta := Lib.hid (show ArrAt wta (wt).heap.size zDsc.cells by rw [hw]; exact (fun w => ArrAt.fresh w zDsc.cells 72 (by decide)) _)
    obtain ⟨lb, hbk⟩ : ∃ x, x = (wt).heap.size := ⟨_, rfl⟩
    rw [← hbk] at ADta
    have hlolb : w1.heap.size ≤ lb := by rw [hbk]; exact hS0.size
    have hhilb : lb < wta.heap.size := ADta.out.lt
    have hSN : Below w1.heap.size w1 wta := hS0.trans (hb.mono hS0.size)
    rw [← hbk]
    clear hw hbk
    refine hK.out _ _ hSN (fun hS0 => ?_)
    clear hK K hb hSN
    try simp only [Act.put, List.setIfInBounds_toArray, List.set_cons_zero, List.set_cons_succ]
    refine wpAnyH_ready (rs := [7]) (by kernel_rfl) (by simp) (AllReadyH.cons rfl (fun K hK => ?_) AllReadyH.nil)
    rw [if_pos (by rfl)]
    refine wp_storeN 72 (.tmp 6) (.tmp 29) rfl rfl (lb) 0 #[.int .i64 (k + 1), .int .u64 x0, .int .i64 0, .int .u32 0] (by first | rfl | simp [Act.eval, Act.put]) (by first | rfl | simp [Act.eval, Act.put]) ADta.out.th sizeD D1.out ?_
    refine hK.out _ _ (bstore hS0 _ hlolb _ _) (fun hS0 => ?_)
    clear hK K
    try simp only [Act.put, List.setIfInBounds_toArray, List.set_cons_zero, List.set_cons_succ]
    refine wpAnyH_done (by kernel_rfl) ?_ _
    go_wp2_with fail
    go_meet
    exact ⟨_, rfl, hlolb, ADta.out.store #[.int .i64 (k + 1), .int .u64 x0, .int .i64 0, .int .u32 0] rfl, hS0⟩
  ·rw [if_pos (by rfl)]
   refine wp_allocN 72 6 rfl rfl zeroD (A := zDsc.cells) rfl ?_
   obtain ⟨wa, hw⟩ : ∃ x, x = (w1.drew).alloc (.cells zDsc.cells 72) := ⟨_, rfl⟩
   rw [← hw]
   have hb : Below (w1.drew).heap.size (w1.drew) wa := by rw [hw]; exact (Below.refl _ _).alloc (Nat.le_refl _) _
   have ADa := Lib.hid (show ArrAt wa (w1.drew).heap.size zDsc.cells by rw [hw]; exact (fun w => ArrAt.fresh w zDsc.cells 72 (by decide)) _)
   obtain ⟨lb, hbk⟩ : ∃ x, x = (w1.drew).heap.size := ⟨_, rfl⟩
   rw [← hbk] at ADa
   have hlolb : w1.heap.size ≤ lb := by rw [hbk]; exact hS0.size
   have hhilb : lb < wa.heap.size := ADa.out.lt
   have hSN : Below w1.heap.size w1 wa := hS0.trans (hb.mono hS0.size)
   rw [← hbk]
   clear hw hbk
   refine hK.out _ _ hSN (fun hS0 => ?_)
   clear hK K hb hSN
   try simp only [Act.put, List.setIfInBounds_toArray, List.set_cons_zero, List.set_cons_succ]
   refine wpAnyH_ready (rs := [0]) (by kernel_rfl) (by simp) (AllReadyH.cons rfl (fun K hK => ?_) AllReadyH.nil)
   ·rw [if_pos (by rfl)]
    go_simp
    refine (types_any _).mono ?_
    rintro e wat ⟨rfl, hb⟩
    have hSN : Below w1.heap.size w1 wat := hS0.trans (hb.mono hS0.size)
    have ADat := Lib.hid (ADa.out.below hb)
    have hhilb : lb < wat.heap.size := Nat.lt_of_lt_of_le hhilb hb.size
    refine hK.out _ _ hSN (fun hS0 => ?_)
    clear hK K hb hSN
    try simp only [Act.put, List.setIfInBounds_toArray, List.set_cons_zero, List.set_cons_succ]
    refine takeD 26 (i := 2) (v := .int .i64 (k + 1)) rfl rfl (by kernel_rfl) (by kernel_rfl) (by kernel_rfl) (fun _ _ _ h => h) (Or.inl ⟨by rfl, by (intro w' _; go_simp)⟩) (by assumption) ?_
    try simp only [Act.put, List.setIfInBounds_toArray, List.set_cons_zero, List.set_cons_succ]
    refine takeD 29 (i := 5) (v := .agg #[.int .i64 (k + 1), .int .u64 x0, .int .i64 0, .int .u32 0]) rfl rfl (by kernel_rfl) (by kernel_rfl) (by kernel_rfl) (fun _ _ _ h => h) (Or.inl ⟨by rfl, by (intro w' _; go_simp)⟩) (by assumption) ?_
    try simp only [Act.put, List.setIfInBounds_toArray, List.set_cons_zero, List.set_cons_succ]
    refine wpAnyH_ready (rs := [7]) (by kernel_rfl) (by simp) (AllReadyH.cons rfl (fun K hK => ?_) AllReadyH.nil)
    rw [if_pos (by rfl)]
    refine wp_storeN 72 (.tmp 6) (.tmp 29) rfl rfl (lb) 0 #[.int .i64 (k + 1), .int .u64 x0, .int .i64 0, .int .u32 0] (by first | rfl | simp [Act.eval, Act.put]) (by first | rfl | simp [Act.eval, Act.put]) ADat.out.th sizeD D1.out ?_
    refine hK.out _ _ (bstore hS0 _ hlolb _ _) (fun hS0 => ?_)
    clear hK K
    try simp only [Act.put, List.setIfInBounds_toArray, List.set_cons_zero, List.set_cons_succ]
    refine wpAnyH_done (by kernel_rfl) ?_ _
    go_wp2_with fail
    go_meet
    exact ⟨_, rfl, hlolb, ADat.out.store #[.int .i64 (k + 1), .int .u64 x0, .int .i64 0, .int .u32 0] rfl, hS0⟩
 case rest =>
  obtain ⟨lb, rfl, hlb, ha, hb⟩ := hcut
  have A5 := Lib.hid ha
  have A4 := Lib.hid (A3.out.below hb)
  have B4 := Lib.hid (B3.out.trans (hb.mono (by omega)))
  have l0 : wc.cell? ⟨lb, 0, none⟩ = some (.int .i64 (k + 1)) := ha.cell rfl
  have hs4 := hb.size
  clear ha hb
  go_wp2_with (first
  | ((with_reducible show wpList _ _ _ (⟨some 49, _, _, _, _, _⟩ :: _) _ _); refine wpList_build0 rfl 72 rfl (buildDz _) ?_)
   | ((with_reducible show wpList _ _ _ (⟨none, .store _ (.tmp 2) _, _, _, _, _⟩ :: _) _ _); refine wpList_storeA rfl (b := w.heap.size + 1) (A := zDsc.cells) (A' := zDsc.cells) A4.out 72 (.tmp 2) (.tmp 49) rfl (by simp [Act.eval, Act.put]) (by simp [Act.eval, Act.put]) (sizeDs _) rfl (Dsc.one _) ?_))
  subst hd hn
  exact bodyPost_ret (results_ct rfl _ _ _ (A4.out.store zDsc.cells rfl) rfl Tryz.underlying72 rfl (sizeDs _)) rfl ⟨rfl, bstore B4.out _ (by omega) _ _⟩
set_option maxRecDepth 100000 in
set_option maxHeartbeats 2000000 in
theorem decode_plain (x0 x1 k r : Int) (d : Dsc) (no : Int) (w : World) (h0 : 0 ≤ x1) (h1 : x1 ≤ 18446744073709551615) (hk : x1 / 1152921504606846976 = k) (hr : x1 % 1152921504606846976 = r) (q1 : decide (5 ≤ k) = false) (q2 : (r / 72057594037927936 != 0) = false) (q3 : (k + 1 == 5) = false) (q4 : (r / 4294967296 != 0) = false) (r32 : r < 4294967296) (hd : d = ⟨k + 1, x0, r, 0⟩) (hn : no = 0) :
  Calls Tryz.prog 88 #[.agg #[.int .u64 x0, .int .u64 x1]] w fun e w' => e = .returned (.tuple #[.agg d.cells, .int .i64 no]) ∧ Below w.heap.size w w' := by
 have e1 : bits .and .u64 x1 1152921504606846975 = r := by rw [and_low x1 60 _ (by decide) h0 h1 (by omega), ← hr]; rfl
 have k0 : 0 ≤ k := by omega
 have k16 : k < 16 := by omega
 have r0 : 0 ≤ r := by omega
 have r60 : r < 1152921504606846976 := by omega
 have ek : x1 / 1152921504606846976 = k := hk
 clear hr
 clear hk
 obtain ⟨W, hW, hb0, hs0, c0, c1, ha⟩ := dec_start x0 x1 w
 have HA := Lib.hid ha
 have HB := Lib.hid hb0
 have HW := Lib.hid hW
 have HS := Lib.hid hs0
 have hs : w.heap.size + 2 ≤ W.heap.size := by omega
 clear hW hb0 hs0 ha
 go_enter Tryz.func88, Tryz.ntmps88
 go_upto_region 1 with ((with_reducible show wpList _ _ _ (⟨some 2, _, _, _, _, _⟩ :: _) _ _); refine wpList_alloc rfl 72 rfl zeroD ?_; rw [show (Value.agg zDsc.cells).cells = zDsc.cells from rfl])
 rw [show (w.alloc (.cells #[.int .u64 x0, .int .u64 x1] 25)).alloc (.cells zDsc.cells 72) = W from HW.out.symm]
 try simp only [Act.put, List.setIfInBounds_toArray, List.set_cons_succ, List.set_cons_zero]
 go_quiet (fail)
 obtain ⟨W2, hW2⟩ : ∃ z, z = W.drewN nq := ⟨_, rfl⟩
 rw [← hW2]
 have hN : Below W.heap.size W W2 := by rw [hW2]; exact belowN (Below.refl _ _) _
 have A2 := Lib.hid (HA.out.below hN)
 have B2 := Lib.hid (HB.out.trans (hN.mono (by omega)))
 have g0 : W2.cell? ⟨w.heap.size, 0, none⟩ = some (.int .u64 x0) := by rw [hW2]; exact c0
 have hs2 : w.heap.size + 2 ≤ W2.heap.size := by have := hN.size; omega
 clear hW2 hN c0 c1 HA HB HW HS hs
 go_upto_region 4 with (first
  | (go_at_call 64; (refine (types_any _).mono ?_; rintro e w1 ⟨rfl, hb⟩; have A3 := Lib.hid (A2.out.below hb); have B3 := Lib.hid (B2.out.trans (hb.mono (by omega))); have g1 := (hb.cell (p := ⟨w.heap.size, 0, none⟩) (show w.heap.size < _ by omega)).trans g0; have hs3 : w.heap.size + 2 ≤ w1.heap.size := (by have := hb.size; omega); clear hb)))
 have hk4 : k < 5 := by simpa using q1
 have hl1 : w.heap.size < w1.heap.size := by omega
 have hl2 : w.heap.size < w1.heap.size + 1 := by omega
 have HI := Lib.hid fun w => index_kinds k (k + 1) k0 hk4 rfl w
 have hi := HI.out
 have D1 := Lib.hid (Dsc.one ⟨k + 1, x0, 0, 0⟩)
 go_cut [6] from 24 to 30 (fun p wc => LaidD w1 (k + 1) x0 p wc)
 case first =>
  refine wp_region_held_drew (S := fun w' => Below w1.heap.size w1 w') (by kernel_rfl) (Below.refl _ _).drew (fun hS0 => ?_)
  refine takeD 25 (i := 1) (v := .int .i64 k) rfl rfl (by kernel_rfl) (by kernel_rfl) (by kernel_rfl) (fun _ _ _ h => h) (Or.inl ⟨by rfl, by (intro w' _; go_simp)⟩) (by assumption) ?_
  try simp only [Act.put, List.setIfInBounds_toArray, List.set_cons_zero, List.set_cons_succ]
  refine takeD 27 (i := 3) (v := .pointer (some ⟨w.heap.size, 0, none⟩)) rfl rfl (by kernel_rfl) (by kernel_rfl) (by kernel_rfl) (fun _ _ _ h => h) (Or.inl ⟨by rfl, by (intro w' _; go_simp)⟩) (by assumption) ?_
  try simp only [Act.put, List.setIfInBounds_toArray, List.set_cons_zero, List.set_cons_succ]
  refine takeD 28 (i := 4) (v := .int .u64 x0) rfl rfl (by kernel_rfl) (by kernel_rfl) (by kernel_rfl) (fun _ _ _ h => h) (Or.inl ⟨by rfl, by (intro w' h; have h2 := (h.cell (p := ⟨w.heap.size, 0, none⟩) hl1).trans g1; clear h; go_simp)⟩) (by assumption) ?_
  try simp only [Act.put, List.setIfInBounds_toArray, List.set_cons_zero, List.set_cons_succ]
  refine wpAnyH_ready (rs := [0, 6]) (by kernel_rfl) (by simp) (AllReadyH.cons rfl (fun K hK => ?_) (AllReadyH.cons rfl (fun K hK => ?_) AllReadyH.nil))
  ·rw [if_pos (by rfl)]
   go_simp
   refine (types_any _).mono ?_
   rintro e wt ⟨rfl, hb⟩
   have hSN : Below w1.heap.size w1 wt := hS0.trans (hb.mono hS0.size)
   refine hK.out _ _ hSN (fun hS0 => ?_)
   clear hK K hb hSN
   try simp only [Act.put, List.setIfInBounds_toArray, List.set_cons_zero, List.set_cons_succ]
   refine takeD 26 (i := 2) (v := .int .i64 (k + 1)) rfl rfl (by kernel_rfl) (by kernel_rfl) (by kernel_rfl) (fun _ _ _ h => h) (Or.inl ⟨by rfl, by (intro w' _; go_simp)⟩) (by assumption) ?_
   try simp only [Act.put, List.setIfInBounds_toArray, List.set_cons_zero, List.set_cons_succ]
   refine takeD 29 (i := 5) (v := .agg #[.int .i64 (k + 1), .int .u64 x0, .int .i64 0, .int .u32 0]) rfl rfl (by kernel_rfl) (by kernel_rfl) (by kernel_rfl) (fun _ _ _ h => h) (Or.inl ⟨by rfl, by (intro w' _; go_simp)⟩) (by assumption) ?_
   try simp only [Act.put, List.setIfInBounds_toArray, List.set_cons_zero, List.set_cons_succ]
   refine wpAnyH_ready (rs := [6]) (by kernel_rfl) (by simp) (AllReadyH.cons rfl (fun K hK => ?_) AllReadyH.nil)
   ·rw [if_pos (by rfl)]
    refine wp_allocN 72 6 rfl rfl zeroD (A := zDsc.cells) rfl ?_
    obtain ⟨wta, hw⟩ : ∃ x, x = (wt).alloc (.cells zDsc.cells 72) := ⟨_, rfl⟩
    rw [← hw]
    have hb : Below (wt).heap.size (wt) wta := by rw [hw]; exact (Below.refl _ _).alloc (Nat.le_refl _) _
    have ADta := Lib.hid (show ArrAt wta (wt).heap.size zDsc.cells by rw [hw]; exact (fun w => ArrAt.fresh w zDsc.cells 72 (by decide)) _)
    obtain ⟨lb, hbk⟩ : ∃ x, x = (wt).heap.size := ⟨_, rfl⟩
    rw [← hbk] at ADta
    have hlolb : w1.heap.size ≤ lb := by rw [hbk]; exact hS0.size
    have hhilb : lb < wta.heap.size := ADta.out.lt
    have hSN : Below w1.heap.size w1 wta := hS0.trans (hb.mono hS0.size)
    rw [← hbk]
    clear hw hbk
    refine hK.out _ _ hSN (fun hS0 => ?_)
    clear hK K hb hSN
    try simp only [Act.put, List.setIfInBounds_toArray, List.set_cons_zero, List.set_cons_succ]
    refine wpAnyH_ready (rs := [7]) (by kernel_rfl) (by simp) (AllReadyH.cons rfl (fun K hK => ?_) AllReadyH.nil)
    rw [if_pos (by rfl)]
    refine wp_storeN 72 (.tmp 6) (.tmp 29) rfl rfl (lb) 0 #[.int .i64 (k + 1), .int .u64 x0, .int .i64 0, .int .u32 0] (by first | rfl | simp [Act.eval, Act.put]) (by first | rfl | simp [Act.eval, Act.put]) ADta.out.th sizeD D1.out ?_
    refine hK.out _ _ (bstore hS0 _ hlolb _ _) (fun hS0 => ?_)
    clear hK K
    try simp only [Act.put, List.setIfInBounds_toArray, List.set_cons_zero, List.set_cons_succ]
    refine wpAnyH_done (by kernel_rfl) ?_ _
    go_wp2_with fail
    go_meet
    exact ⟨_, rfl, hlolb, ADta.out.store #[.int .i64 (k + 1), .int .u64 x0, .int .i64 0, .int .u32 0] rfl, hS0⟩
  ·rw [if_pos (by rfl)]
   refine wp_allocN 72 6 rfl rfl zeroD (A := zDsc.cells) rfl ?_
   obtain ⟨wa, hw⟩ : ∃ x, x = (w1.drew).alloc (.cells zDsc.cells 72) := ⟨_, rfl⟩
   rw [← hw]
   have hb : Below (w1.drew).heap.size (w1.drew) wa := by rw [hw]; exact (Below.refl _ _).alloc (Nat.le_refl _) _
   have ADa := Lib.hid (show ArrAt wa (w1.drew).heap.size zDsc.cells by rw [hw]; exact (fun w => ArrAt.fresh w zDsc.cells 72 (by decide)) _)
   obtain ⟨lb, hbk⟩ : ∃ x, x = (w1.drew).heap.size := ⟨_, rfl⟩
   rw [← hbk] at ADa
   have hlolb : w1.heap.size ≤ lb := by rw [hbk]; exact hS0.size
   have hhilb : lb < wa.heap.size := ADa.out.lt
   have hSN : Below w1.heap.size w1 wa := hS0.trans (hb.mono hS0.size)
   rw [← hbk]
   clear hw hbk
   refine hK.out _ _ hSN (fun hS0 => ?_)
   clear hK K hb hSN
   try simp only [Act.put, List.setIfInBounds_toArray, List.set_cons_zero, List.set_cons_succ]
   refine wpAnyH_ready (rs := [0]) (by kernel_rfl) (by simp) (AllReadyH.cons rfl (fun K hK => ?_) AllReadyH.nil)
   ·rw [if_pos (by rfl)]
    go_simp
    refine (types_any _).mono ?_
    rintro e wat ⟨rfl, hb⟩
    have hSN : Below w1.heap.size w1 wat := hS0.trans (hb.mono hS0.size)
    have ADat := Lib.hid (ADa.out.below hb)
    have hhilb : lb < wat.heap.size := Nat.lt_of_lt_of_le hhilb hb.size
    refine hK.out _ _ hSN (fun hS0 => ?_)
    clear hK K hb hSN
    try simp only [Act.put, List.setIfInBounds_toArray, List.set_cons_zero, List.set_cons_succ]
    refine takeD 26 (i := 2) (v := .int .i64 (k + 1)) rfl rfl (by kernel_rfl) (by kernel_rfl) (by kernel_rfl) (fun _ _ _ h => h) (Or.inl ⟨by rfl, by (intro w' _; go_simp)⟩) (by assumption) ?_
    try simp only [Act.put, List.setIfInBounds_toArray, List.set_cons_zero, List.set_cons_succ]
    refine takeD 29 (i := 5) (v := .agg #[.int .i64 (k + 1), .int .u64 x0, .int .i64 0, .int .u32 0]) rfl rfl (by kernel_rfl) (by kernel_rfl) (by kernel_rfl) (fun _ _ _ h => h) (Or.inl ⟨by rfl, by (intro w' _; go_simp)⟩) (by assumption) ?_
    try simp only [Act.put, List.setIfInBounds_toArray, List.set_cons_zero, List.set_cons_succ]
    refine wpAnyH_ready (rs := [7]) (by kernel_rfl) (by simp) (AllReadyH.cons rfl (fun K hK => ?_) AllReadyH.nil)
    rw [if_pos (by rfl)]
    refine wp_storeN 72 (.tmp 6) (.tmp 29) rfl rfl (lb) 0 #[.int .i64 (k + 1), .int .u64 x0, .int .i64 0, .int .u32 0] (by first | rfl | simp [Act.eval, Act.put]) (by first | rfl | simp [Act.eval, Act.put]) ADat.out.th sizeD D1.out ?_
    refine hK.out _ _ (bstore hS0 _ hlolb _ _) (fun hS0 => ?_)
    clear hK K
    try simp only [Act.put, List.setIfInBounds_toArray, List.set_cons_zero, List.set_cons_succ]
    refine wpAnyH_done (by kernel_rfl) ?_ _
    go_wp2_with fail
    go_meet
    exact ⟨_, rfl, hlolb, ADat.out.store #[.int .i64 (k + 1), .int .u64 x0, .int .i64 0, .int .u32 0] rfl, hS0⟩
 case rest =>
  obtain ⟨lb, rfl, hlb, ha, hb⟩ := hcut
  have A5 := Lib.hid ha
  have A4 := Lib.hid (A3.out.below hb)
  have B4 := Lib.hid (B3.out.trans (hb.mono (by omega)))
  have l0 : wc.cell? ⟨lb, 0, none⟩ = some (.int .i64 (k + 1)) := ha.cell rfl
  have hs4 := hb.size
  clear ha hb
  have l2 : wc.cell? ⟨lb, 2, none⟩ = some (.int .i64 0) := A5.out.cell rfl
  have f2 := A5.out.frozen (i := 2) (show 2 < 4 by omega)
  have A6 := Lib.hid (A5.out.set 2 (.int .i64 r) (show 2 < 4 by omega))
  have A7 := Lib.hid (A4.out.kept (S := One lb) ((Keeps.refl (One lb) wc).set1 2 (.int .i64 r)) (fun e => by have e : w.heap.size + 1 = lb := e; omega))
  have B7 := Lib.hid (B4.out.trans (((Keeps.refl (One lb) wc).set1 2 (.int .i64 r)).below (B := w.heap.size) (by omega) (fun j hj e => by have e : j = lb := e; omega)))
  go_wp2_with (first
   | ((with_reducible show wpList _ _ _ (⟨some 50, _, _, _, _, _⟩ :: _) _ _); refine wpList_loadA rfl A6.out 72 (.tmp 6) rfl (by first | rfl | simp [Act.eval, Act.put]) Tryz.underlying72 rfl sizeD ?_)
   | ((with_reducible show wpList _ _ _ (⟨none, .store _ (.tmp 2) _, _, _, _, _⟩ :: _) _ _); refine wpList_storeA rfl (b := w.heap.size + 1) (A := zDsc.cells) (A' := #[.int .i64 (k + 1), .int .u64 x0, .int .i64 r, .int .u32 0]) A7.out 72 (.tmp 2) (.tmp 50) rfl (by simp [Act.eval, Act.put]) (by simp [Act.eval, Act.put, Dsc.cells]) (sizeDs _) rfl (Dsc.one ⟨_, _, _, _⟩) ?_))
  subst hd hn
  exact bodyPost_ret (results_ct rfl _ _ _ (A7.out.store #[.int .i64 (k + 1), .int .u64 x0, .int .i64 r, .int .u32 0] rfl) rfl Tryz.underlying72 rfl sizeD) rfl ⟨rfl, bstore B7.out _ (by omega) _ _⟩
theorem decode_any (x0 x1 : Int) (w : World) (h0 : 0 ≤ x1) (h1 : x1 ≤ 18446744073709551615) :
  Calls Tryz.prog 88 #[.agg #[.int .u64 x0, .int .u64 x1]] w fun e w' => e = .returned (.tuple #[.agg (decD x0 x1).cells, .int .i64 (decE x1)]) ∧ Below w.heap.size w w' := by
 obtain ⟨k, hk⟩ : ∃ k, x1 / 1152921504606846976 = k := ⟨_, rfl⟩
 obtain ⟨r, hr⟩ : ∃ r, x1 % 1152921504606846976 = r := ⟨_, rfl⟩
 have k0 : 0 ≤ k := by omega
 by_cases c1 : 5 ≤ k
 ·have e : decE x1 = 160 := by unfold decE; rw [if_pos (.inl (by omega))]
  exact decode_err1 x0 x1 k r _ _ w h0 h1 hk hr (decide_eq_true c1) (by unfold decD; rw [if_pos e]) e
 ·by_cases c2 : r / 72057594037927936 = 0
  ·by_cases c3 : k = 4
   ·have e : decE x1 = 0 := by unfold decE; rw [if_neg (by rw [hk, hr]; omega), if_pos (by omega)]
    exact decode_keyed x0 x1 k r _ _ w h0 h1 hk hr (decide_eq_false c1) (by simp [c2]) (by simp [c3]) _ _ rfl rfl (by unfold decD; rw [if_neg (by omega), if_pos (by omega), hr, c3]; rfl) e
   ·by_cases c4 : r / 4294967296 = 0
    ·have e : decE x1 = 0 := by unfold decE; rw [if_neg (by rw [hk, hr]; omega), if_neg (by omega), if_neg (by rw [hr]; omega)]
     exact decode_plain x0 x1 k r _ _ w h0 h1 hk hr (decide_eq_false c1) (by simp [c2]) (beq_eq_false_iff_ne.2 (by omega)) (by simp [c4]) (by omega) (by unfold decD; rw [if_neg (by omega), if_neg (by omega), hk, hr]) e
    ·have e : decE x1 = 160 := by unfold decE; rw [if_neg (by rw [hk, hr]; omega), if_neg (by omega), if_pos (by rw [hr]; omega)]
     exact decode_long x0 x1 k r _ _ w h0 h1 hk hr (decide_eq_false c1) (by simp [c2]) (beq_eq_false_iff_ne.2 (by omega)) (by rw [bne_iff_ne]; omega) (by unfold decD; rw [if_pos e]) e
  ·have e : decE x1 = 160 := by unfold decE; rw [if_pos (.inr (by rw [hr]; exact c2))]
   exact decode_err2 x0 x1 k r _ _ w h0 h1 hk hr (decide_eq_false c1) (by rw [bne_iff_ne]; exact c2) (by unfold decD; rw [if_pos e]) e
end Go.Proofs.YtfmabknhfehdcaaGreat
