/- sgl: the law SglCodes. -/
import Derived.Test.YtcljbmkdflkeeaaWK
import Derived.Test.YtcljbmkdflkeeaaDW
import Derived.Test.YtcljbmkdflkeeaaDV
namespace Go.Proofs.Ytcljbmkdflkeeaa
open Go.RowKit

theorem num_b (x : Int) (w : World) : Calls Try.prog 13 #[.int .i64 x] w fun e w' => e = .returned (.int .i64 x) ∧ Below w.heap.size w w' := (num_any x w).mono fun _ _ h => ⟨h.1, h.2 ▸ Below.refl _ _⟩
theorem guardWe (i j : Nat) (X Y : Array Value) (w : World) : (eqGuard .eql 27 (.tmp i) (.tmp j) (.agg X) (.agg Y)).run Try.prog w = .ok () w := by kernel_rfl
theorem plU64 : Try.prog.plainKey 23 = true := by kernel_rfl
theorem ceU64 : Try.prog.cellsOf 23 = 1 := by kernel_rfl
theorem inU64 : ∃ i, Try.prog.info? 23 = some i := Option.isSome_iff_exists.1 (by kernel_rfl)
theorem equalW (a b : Int) (w : World) : (Op.equalIn 10000 27 (.agg #[.int .u64 a, .int .u64 b]) (.agg #[.int .u64 a, .int .u64 b])).run Try.prog w = .ok true w := by
  obtain ⟨i, hi⟩ := inU64
  refine (run_equalIn_array (P := Try.prog) (w := w) 9999 #[.int .u64 a, .int .u64 b] #[.int .u64 a, .int .u64 b] Try.underlying27 hi).trans ?_
  have e1 : (part 23 #[.int .u64 a, .int .u64 b] 0).run Try.prog w = .ok (.int .u64 a) w := run_part_plain (P := Try.prog) (w := w) plU64 rfl
  have e2 : (part 23 #[.int .u64 a, .int .u64 b] 1).run Try.prog w = .ok (.int .u64 b) w := run_part_plain (P := Try.prog) (w := w) plU64 rfl
  have e3 : (Op.equalIn 9999 23 (.int .u64 a) (.int .u64 a)).run Try.prog w = .ok (a == a) w := run_equalIn_int (P := Try.prog) w 9998 23 .u64 _ a a Try.underlying23
  have e4 : (Op.equalIn 9999 23 (.int .u64 b) (.int .u64 b)).run Try.prog w = .ok (b == b) w := run_equalIn_int (P := Try.prog) w 9998 23 .u64 _ b b Try.underlying23
  rw [ceU64]
  rw [show List.range 2 = [0, 1] from rfl]
  simp [Op.eqItems, e1, e2, e3, e4]
theorem eqlW (a b : Int) (w : World) : (binOp .eql 27 (.agg #[.int .u64 a, .int .u64 b]) (.agg #[.int .u64 a, .int .u64 b])).run Try.prog w = .ok (.bool true) w := by
  rw [run_eql_struct, equalW]; rfl
theorem neqDsc (d : Dsc) (w : World) : (binOp .neq 26 (.agg d.cells) (.agg d.cells)).run Try.prog w = .ok (.bool false) w := by
  unfold Dsc.cells
  simp [go_sem]
theorem eqlDsc (d : Dsc) (w : World) : (binOp .eql 26 (.agg d.cells) (.agg d.cells)).run Try.prog w = .ok (.bool true) w := by
  unfold Dsc.cells
  simp [go_sem]

set_option maxRecDepth 100000 in
set_option maxHeartbeats 8000000 in
theorem codes_no (d : Dsc) (a b : Int) (w : World) (hok : d.Ok) (a0 : 0 ≤ a) (a1 : a ≤ 18446744073709551615) (b0 : 0 ≤ b) (b1 : b ≤ 18446744073709551615) (hv : ¬ Vld d) :
    Calls Try.prog 3 #[.agg d.cells, .int .u64 a, .int .u64 b] w fun e w' => e = .returned (.bool true) ∧ Below w.heap.size w w' := by
  obtain ⟨E, hE⟩ : ∃ A : Array Value, A = #[.int .u64 0, .int .u64 0] := ⟨_, rfl⟩
  obtain ⟨X, hX⟩ : ∃ A : Array Value, A = (decD a b).cells := ⟨_, rfl⟩
  obtain ⟨D, hD⟩ : ∃ A : Array Value, A = d.cells := ⟨_, rfl⟩
  obtain ⟨no, hno⟩ : ∃ z, z = decE b := ⟨_, rfl⟩
  have HE := Lib.hid fun w => encode_no d w hok hv
  have HDE := Lib.hid fun w => decode_any a b w b0 b1
  have HFW := Lib.hid fun w => fromwords_any a b w a0 a1 b0 b1
  have HVA := Lib.hid fun w => valid_any d false (decide_eq_false hv) w hok
  have HRV := Lib.hid fun w => rvalid_any d false (decide_eq_false hv) w hok
  have SE := Lib.hid (show E.size = 2 by rw [hE]; rfl)
  have OE := Lib.hid (show E.all (·.oneCell') = true by rw [hE]; exact u64s_one _ _)
  have IE := Lib.hid (show (Try.prog.info? 27).map (·.size) = some E.size by rw [SE.out]; exact size2w)
  have SX := Lib.hid (show X.size = 4 by rw [hX]; rfl)
  have OX := Lib.hid (show X.all (·.oneCell') = true by rw [hX]; exact Dsc.one _)
  have IX := Lib.hid (show (Try.prog.info? 26).map (·.size) = some X.size by rw [SX.out]; exact sizeD)
  have SD := Lib.hid (show D.size = 4 by rw [hD]; rfl)
  have ID := Lib.hid (show (Try.prog.info? 26).map (·.size) = some D.size by rw [SD.out]; exact sizeD)
  have NX := Lib.hid (show ∀ w, (binOp .neq 26 (.agg X) (.agg X)).run Try.prog w = .ok (.bool false) w by rw [hX]; exact neqDsc _)
  have QE := Lib.hid (show ∀ w, (binOp .eql 27 (.agg E) (.agg #[.int .u64 0, .int .u64 0])).run Try.prog w = .ok (.bool true) w by rw [hE]; exact eqlW _ _)
  rw [← hD] at HE HVA HRV ⊢
  rw [← hE] at HE
  rw [← hX, ← hno] at HDE HFW
  clear hE hX hD hno hok hv
  go_enter Try.func3, Try.ntmps3
  go_upto_region 1 with fail
  obtain ⟨W0, hW⟩ : ∃ z, z = w.alloc (.cells D 26) := ⟨_, rfl⟩
  have B0 := Lib.hid (show Below w.heap.size w W0 by rw [hW]; exact (Below.refl _ _).alloc (Nat.le_refl _) _)
  have R3 := Lib.hid (show ArrAt W0 w.heap.size D by rw [hW]; exact ArrAt.fresh w D _ (by rw [SD.out]; omega))
  rw [← hW]
  clear hW
  go_upto_region 2 with (first
    | ((with_reducible show wpList _ _ _ (⟨some 14, _, _, _, _, _⟩ :: _) _ _); refine wpList_loadA rfl R3.out 26 (.tmp 3) rfl (by first | rfl | simp [Act.eval, Act.put]) Try.underlying26 rfl ID.out ?_)
    | (go_at_call 10; refine (HE.out _).mono ?_; rintro e y1 ⟨rfl, hy⟩; have HY := Lib.hid hy; clear hy)
    | ((with_reducible show wpList _ _ _ (⟨some 7, _, _, _, _, _⟩ :: _) _ _); refine wpList_alloc rfl 27 rfl zero2 ?_; rw [show (Value.agg zer2).cells = zer2 from rfl])
    | ((with_reducible show wpList _ _ _ (⟨none, .store _ (.tmp 7) _, _, _, _, _⟩ :: _) _ _); refine wpList_storeA rfl (b := y1.heap.size) (A := zer2) (A' := E) (ArrAt.fresh y1 zer2 _ (by decide)) 27 (.tmp 7) (.tmp 16) rfl (by simp [Act.eval, Act.put]) (by simp [Act.eval, Act.put]) size2z (by rw [SE.out]; rfl) OE.out ?_))
  obtain ⟨W1, hW⟩ : ∃ z, z = (y1.alloc (.cells zer2 27)).setCells y1.heap.size 0 E.toList := ⟨_, rfl⟩
  obtain ⟨hb, ha⟩ := stored_at (by decide) (by rw [SE.out]; rfl) hW
  have hb2 := HY.out.trans (hb.mono HY.out.size)
  have B1 := Lib.hid (B0.out.trans (hb2.mono B0.out.size))
  rw [← hW]
  obtain ⟨g7, hg⟩ : ∃ z, z = y1.heap.size := ⟨_, rfl⟩
  rw [← hg] at ha ⊢
  have R3 := Lib.hid (R3.out.below hb2)
  have R7 := Lib.hid ha
  clear hW hb hb2 ha hg HY
  go_upto_region 3 with (first
    | ((with_reducible show wpList _ _ _ (⟨some 21, _, _, _, _, _⟩ :: _) _ _); refine wpList_valG (by rfl) (v := .agg #[.int .u64 a, .int .u64 b]) (by kernel_rfl) ?_)
    | (go_at_call 11; refine (HDE.out _).mono ?_; rintro e y2 ⟨rfl, hy⟩; have HY := Lib.hid hy; clear hy)
    | ((with_reducible show wpList _ _ _ (⟨some 9, _, _, _, _, _⟩ :: _) _ _); refine wpList_alloc rfl 26 rfl zeroD ?_; rw [show (Value.agg zDsc.cells).cells = zDsc.cells from rfl])
    | ((with_reducible show wpList _ _ _ (⟨none, .store _ (.tmp 9) _, _, _, _, _⟩ :: _) _ _); refine wpList_storeA rfl (b := y2.heap.size) (A := zDsc.cells) (A' := X) (ArrAt.fresh y2 zDsc.cells _ (by decide)) 26 (.tmp 9) (.tmp 23) rfl (by simp [Act.eval, Act.put]) (by simp [Act.eval, Act.put]) (sizeDs _) (by rw [SX.out]; rfl) OX.out ?_))
  obtain ⟨W2, hW⟩ : ∃ z, z = (y2.alloc (.cells zDsc.cells 26)).setCells y2.heap.size 0 X.toList := ⟨_, rfl⟩
  obtain ⟨hb, ha⟩ := stored_at (by decide) (by rw [SX.out]; rfl) hW
  have hb2 := HY.out.trans (hb.mono HY.out.size)
  have B2 := Lib.hid (B1.out.trans (hb2.mono B1.out.size))
  rw [← hW]
  obtain ⟨g9, hg⟩ : ∃ z, z = y2.heap.size := ⟨_, rfl⟩
  rw [← hg] at ha ⊢
  have R3 := Lib.hid (R3.out.below hb2)
  have R7 := Lib.hid (R7.out.below hb2)
  have R9 := Lib.hid ha
  clear hW hb hb2 ha hg HY
  go_upto_region 4 with (first
    | ((with_reducible show wpList _ _ _ (⟨some 28, _, _, _, _, _⟩ :: _) _ _); refine wpList_valG (by rfl) (v := .agg #[.int .u64 a, .int .u64 b]) (by kernel_rfl) ?_)
    | (go_at_call 12; refine (HFW.out _).mono ?_; rintro e y3 ⟨rfl, hy⟩; have HY := Lib.hid hy; clear hy)
    | ((with_reducible show wpList _ _ _ (⟨some 11, _, _, _, _, _⟩ :: _) _ _); refine wpList_alloc rfl 26 rfl zeroD ?_; rw [show (Value.agg zDsc.cells).cells = zDsc.cells from rfl])
    | ((with_reducible show wpList _ _ _ (⟨none, .store _ (.tmp 11) _, _, _, _, _⟩ :: _) _ _); refine wpList_storeA rfl (b := y3.heap.size) (A := zDsc.cells) (A' := X) (ArrAt.fresh y3 zDsc.cells _ (by decide)) 26 (.tmp 11) (.tmp 30) rfl (by simp [Act.eval, Act.put]) (by simp [Act.eval, Act.put]) (sizeDs _) (by rw [SX.out]; rfl) OX.out ?_))
  obtain ⟨W3, hW⟩ : ∃ z, z = (y3.alloc (.cells zDsc.cells 26)).setCells y3.heap.size 0 X.toList := ⟨_, rfl⟩
  obtain ⟨hb, ha⟩ := stored_at (by decide) (by rw [SX.out]; rfl) hW
  have hb2 := HY.out.trans (hb.mono HY.out.size)
  have B3 := Lib.hid (B2.out.trans (hb2.mono B2.out.size))
  rw [← hW]
  obtain ⟨g11, hg⟩ : ∃ z, z = y3.heap.size := ⟨_, rfl⟩
  rw [← hg] at ha ⊢
  have R3 := Lib.hid (R3.out.below hb2)
  have R7 := Lib.hid (R7.out.below hb2)
  have R9 := Lib.hid (R9.out.below hb2)
  have R11 := Lib.hid ha
  clear hW hb hb2 ha hg HY
  refine wp_region_held_drew (S := fun w' => Below W3.heap.size W3 w') (by kernel_rfl) (Below.refl _ _).drew (fun hS0 => ?_)
  refine takeD 32 (i := 0) (v := .agg X) rfl rfl (by kernel_rfl) (by kernel_rfl) (by kernel_rfl) (fun _ _ _ h => h) (yieldsA (by rfl) 26 (.tmp 9) rfl (g9) (by first | rfl | simp [Act.eval, Act.put]) X (fun w h => (R9.out.below h).rng) Try.underlying26 rfl IX.out) (by assumption) ?_
  try simp only [Act.put, List.setIfInBounds_toArray, List.set_cons_zero, List.set_cons_succ]
  refine takeD 33 (i := 1) (v := .agg X) rfl rfl (by kernel_rfl) (by kernel_rfl) (by kernel_rfl) (fun _ _ _ h => h) (yieldsA (by rfl) 26 (.tmp 11) rfl (g11) (by first | rfl | simp [Act.eval, Act.put]) X (fun w h => (R11.out.below h).rng) Try.underlying26 rfl IX.out) (by assumption) ?_
  try simp only [Act.put, List.setIfInBounds_toArray, List.set_cons_zero, List.set_cons_succ]
  refine takeD 34 (i := 2) (v := .bool false) rfl rfl (by kernel_rfl) (by kernel_rfl) (by kernel_rfl) (fun _ _ _ h => h) (Or.inl ⟨by rfl, by (intro w' _; exact exec_neq 26 (.tmp 32) (.tmp 33) _ rfl _ _ rfl rfl (guardD _ _ _ _ _) (NX.out _))⟩) (by assumption) ?_
  try simp only [Act.put, List.setIfInBounds_toArray, List.set_cons_zero, List.set_cons_succ]
  refine takeD 35 (i := 3) (v := .bool false) rfl rfl (by kernel_rfl) (by kernel_rfl) (by kernel_rfl) (fun _ _ _ h => h) (Or.inl ⟨by rfl, by (intro w' _; go_simp)⟩) (by assumption) ?_
  try simp only [Act.put, List.setIfInBounds_toArray, List.set_cons_zero, List.set_cons_succ]
  refine takeD 36 (i := 4) (v := .int .i64 no) rfl rfl (by kernel_rfl) (by kernel_rfl) (by kernel_rfl) (fun _ _ _ h => h) (Or.inl ⟨by rfl, by (intro w' _; go_simp)⟩) (by assumption) ?_
  try simp only [Act.put, List.setIfInBounds_toArray, List.set_cons_zero, List.set_cons_succ]
  refine takeD 38 (i := 6) (v := .int .i64 no) rfl rfl (by kernel_rfl) (by kernel_rfl) (by kernel_rfl) (fun _ _ _ h => h) (Or.inl ⟨by rfl, by (intro w' _; go_simp)⟩) (by assumption) ?_
  try simp only [Act.put, List.setIfInBounds_toArray, List.set_cons_zero, List.set_cons_succ]
  refine wpAnyH_ready (rs := [5]) (by kernel_rfl) (by simp) (AllReadyH.cons rfl (fun K hK => ?_) AllReadyH.nil)
  · rw [if_pos (by rfl)]
    go_simp
    refine (num_b _ _).mono ?_
    rintro e wp ⟨rfl, hb⟩
    have hSN : Below W3.heap.size W3 wp := hS0.trans (hb.mono hS0.size)
    refine hK.out _ _ hSN (fun hS0 => ?_)
    clear hK K hb hSN
    try simp only [Act.put, List.setIfInBounds_toArray, List.set_cons_zero, List.set_cons_succ]
    refine takeD 39 (i := 7) (v := .bool false) rfl rfl (by kernel_rfl) (by kernel_rfl) (by kernel_rfl) (fun _ _ _ h => h) (Or.inl ⟨by rfl, by (intro w' _; go_simp)⟩) (by assumption) ?_
    try simp only [Act.put, List.setIfInBounds_toArray, List.set_cons_zero, List.set_cons_succ]
    refine takeD 40 (i := 8) (v := .bool false) rfl rfl (by kernel_rfl) (by kernel_rfl) (by kernel_rfl) (fun _ _ _ h => h) (Or.inl ⟨by rfl, by (intro w' _; go_simp)⟩) (by assumption) ?_
    try simp only [Act.put, List.setIfInBounds_toArray, List.set_cons_zero, List.set_cons_succ]
    refine takeD 41 (i := 9) (v := .bool false) rfl rfl (by kernel_rfl) (by kernel_rfl) (by kernel_rfl) (fun _ _ _ h => h) (Or.inl ⟨by rfl, by (intro w' _; go_simp)⟩) (by assumption) ?_
    try simp only [Act.put, List.setIfInBounds_toArray, List.set_cons_zero, List.set_cons_succ]
    refine takeD 42 (i := 10) (v := .agg D) rfl rfl (by kernel_rfl) (by kernel_rfl) (by kernel_rfl) (fun _ _ _ h => h) (yieldsA (by rfl) 26 (.tmp 3) rfl (w.heap.size) (by first | rfl | simp [Act.eval, Act.put]) D (fun w h => (R3.out.below h).rng) Try.underlying26 rfl ID.out) (by assumption) ?_
    try simp only [Act.put, List.setIfInBounds_toArray, List.set_cons_zero, List.set_cons_succ]
    refine takeD 44 (i := 12) (v := .agg D) rfl rfl (by kernel_rfl) (by kernel_rfl) (by kernel_rfl) (fun _ _ _ h => h) (yieldsA (by rfl) 26 (.tmp 3) rfl (w.heap.size) (by first | rfl | simp [Act.eval, Act.put]) D (fun w h => (R3.out.below h).rng) Try.underlying26 rfl ID.out) (by assumption) ?_
    try simp only [Act.put, List.setIfInBounds_toArray, List.set_cons_zero, List.set_cons_succ]
    refine wpAnyH_ready (rs := [11]) (by kernel_rfl) (by simp) (AllReadyH.cons rfl (fun K hK => ?_) AllReadyH.nil)
    · rw [if_pos (by rfl)]
      go_simp
      refine (HVA.out _).mono ?_
      rintro e wpq ⟨rfl, hb⟩
      have hSN : Below W3.heap.size W3 wpq := hS0.trans (hb.mono hS0.size)
      refine hK.out _ _ hSN (fun hS0 => ?_)
      clear hK K hb hSN
      try simp only [Act.put, List.setIfInBounds_toArray, List.set_cons_zero, List.set_cons_succ]
      refine wpAnyH_ready (rs := [13]) (by kernel_rfl) (by simp) (AllReadyH.cons rfl (fun K hK => ?_) AllReadyH.nil)
      · rw [if_pos (by rfl)]
        go_simp
        refine (HRV.out _).mono ?_
        rintro e wpqr ⟨rfl, hb⟩
        have hSN : Below W3.heap.size W3 wpqr := hS0.trans (hb.mono hS0.size)
        refine hK.out _ _ hSN (fun hS0 => ?_)
        clear hK K hb hSN
        try simp only [Act.put, List.setIfInBounds_toArray, List.set_cons_zero, List.set_cons_succ]
        refine takeD 46 (i := 14) (v := .bool false) rfl rfl (by kernel_rfl) (by kernel_rfl) (by kernel_rfl) (fun _ _ _ h => h) (Or.inl ⟨by rfl, by (intro w' _; go_simp)⟩) (by assumption) ?_
        try simp only [Act.put, List.setIfInBounds_toArray, List.set_cons_zero, List.set_cons_succ]
        refine takeD 47 (i := 15) (v := .bool false) rfl rfl (by kernel_rfl) (by kernel_rfl) (by kernel_rfl) (fun _ _ _ h => h) (Or.inl ⟨by rfl, by (intro w' _; go_simp)⟩) (by assumption) ?_
        try simp only [Act.put, List.setIfInBounds_toArray, List.set_cons_zero, List.set_cons_succ]
        refine wpAnyH_done (by kernel_rfl) ?_ _
        have B4 := Lib.hid (B3.out.trans (hS0.mono B3.out.size))
        have R3 := Lib.hid (R3.out.below hS0)
        have R7 := Lib.hid (R7.out.below hS0)
        go_wp2_with (first
          | ((with_reducible show wpList _ _ _ (⟨some 48, _, _, _, _, _⟩ :: _) _ _); refine wpList_loadA rfl R3.out 26 (.tmp 3) rfl (by first | rfl | simp [Act.eval, Act.put]) Try.underlying26 rfl ID.out ?_)
          | (go_at_call 15; refine (HRV.out _).mono ?_; rintro e W6 ⟨rfl, hb⟩; have B6 := Lib.hid (B4.out.trans (hb.mono B4.out.size)); have R3 := Lib.hid (R3.out.below hb); have R7 := Lib.hid (R7.out.below hb); clear hb)
          | ((with_reducible show wpList _ _ _ (⟨some 55, _, _, _, _, _⟩ :: _) _ _); refine wpList_loadAG (by rfl) R7.out 27 (.tmp 7) rfl (by first | rfl | simp [Act.eval, Act.put]) Try.underlying27 rfl IE.out ?_)
          | ((with_reducible show wpList _ _ _ (⟨some 56, _, _, _, _, _⟩ :: _) _ _); refine wpList_valG (by rfl) (v := .agg #[.int .u64 0, .int .u64 0]) (by kernel_rfl) ?_)
          | ((with_reducible show wpList _ _ _ (⟨some 57, _, _, _, _, _⟩ :: _) _ _); refine wpList_valG (by rfl) (v := .bool true) (exec_eql 27 (.tmp 55) (.tmp 56) _ rfl _ _ rfl rfl (guardWe _ _ _ _ _) (QE.out _)) ?_)
          | (go_at_call 13; refine (num_any _ _).mono ?_; rintro e w' ⟨rfl, rfl⟩)
          | (go_at_call 16; refine (works_ok _).mono ?_; rintro e W7 ⟨rfl, hb⟩; have B7 := Lib.hid (B6.out.trans (hb.mono B6.out.size)); clear hb))
        go_ret
        exact ⟨rfl, B7.out⟩
set_option maxRecDepth 100000 in
set_option maxHeartbeats 8000000 in
theorem codes_ok (d : Dsc) (a b : Int) (w : World) (hok : d.Ok) (a0 : 0 ≤ a) (a1 : a ≤ 18446744073709551615) (b0 : 0 ≤ b) (b1 : b ≤ 18446744073709551615) (hv : Vld d) :
    Calls Try.prog 3 #[.agg d.cells, .int .u64 a, .int .u64 b] w fun e w' => e = .returned (.bool true) ∧ Below w.heap.size w w' := by
  obtain ⟨E, hE⟩ : ∃ A : Array Value, A = #[.int .u64 d.a, .int .u64 (word1 d)] := ⟨_, rfl⟩
  obtain ⟨X, hX⟩ : ∃ A : Array Value, A = (decD a b).cells := ⟨_, rfl⟩
  obtain ⟨D, hD⟩ : ∃ A : Array Value, A = d.cells := ⟨_, rfl⟩
  obtain ⟨no, hno⟩ : ∃ z, z = decE b := ⟨_, rfl⟩
  have HE := Lib.hid fun w => encode_ok d w hok hv
  have HDE := Lib.hid fun w => decode_any a b w b0 b1
  have HFW := Lib.hid fun w => fromwords_any a b w a0 a1 b0 b1
  have HVA := Lib.hid fun w => valid_any d true (decide_eq_true hv) w hok
  have HRV := Lib.hid fun w => rvalid_any d true (decide_eq_true hv) w hok
  have SE := Lib.hid (show E.size = 2 by rw [hE]; rfl)
  have OE := Lib.hid (show E.all (·.oneCell') = true by rw [hE]; exact u64s_one _ _)
  have IE := Lib.hid (show (Try.prog.info? 27).map (·.size) = some E.size by rw [SE.out]; exact size2w)
  have SX := Lib.hid (show X.size = 4 by rw [hX]; rfl)
  have OX := Lib.hid (show X.all (·.oneCell') = true by rw [hX]; exact Dsc.one _)
  have IX := Lib.hid (show (Try.prog.info? 26).map (·.size) = some X.size by rw [SX.out]; exact sizeD)
  have SD := Lib.hid (show D.size = 4 by rw [hD]; rfl)
  have ID := Lib.hid (show (Try.prog.info? 26).map (·.size) = some D.size by rw [SD.out]; exact sizeD)
  have NX := Lib.hid (show ∀ w, (binOp .neq 26 (.agg X) (.agg X)).run Try.prog w = .ok (.bool false) w by rw [hX]; exact neqDsc _)
  have QE := Lib.hid (show ∀ w, (binOp .eql 27 (.agg E) (.agg E)).run Try.prog w = .ok (.bool true) w by rw [hE]; exact eqlW _ _)
  have HWO := Lib.hid fun w => words_any d w hok
  rw [words_lo d hv hok, words_hi d hv hok, ← hE, ← hD] at HWO
  rw [← hD] at HE HVA HRV ⊢
  rw [← hE] at HE
  rw [← hX, ← hno] at HDE HFW
  clear hE hX hD hno hok hv
  go_enter Try.func3, Try.ntmps3
  go_upto_region 1 with fail
  obtain ⟨W0, hW⟩ : ∃ z, z = w.alloc (.cells D 26) := ⟨_, rfl⟩
  have B0 := Lib.hid (show Below w.heap.size w W0 by rw [hW]; exact (Below.refl _ _).alloc (Nat.le_refl _) _)
  have R3 := Lib.hid (show ArrAt W0 w.heap.size D by rw [hW]; exact ArrAt.fresh w D _ (by rw [SD.out]; omega))
  rw [← hW]
  clear hW
  go_upto_region 2 with (first
    | ((with_reducible show wpList _ _ _ (⟨some 14, _, _, _, _, _⟩ :: _) _ _); refine wpList_loadA rfl R3.out 26 (.tmp 3) rfl (by first | rfl | simp [Act.eval, Act.put]) Try.underlying26 rfl ID.out ?_)
    | (go_at_call 10; refine (HE.out _).mono ?_; rintro e y1 ⟨rfl, hy⟩; have HY := Lib.hid hy; clear hy)
    | ((with_reducible show wpList _ _ _ (⟨some 7, _, _, _, _, _⟩ :: _) _ _); refine wpList_alloc rfl 27 rfl zero2 ?_; rw [show (Value.agg zer2).cells = zer2 from rfl])
    | ((with_reducible show wpList _ _ _ (⟨none, .store _ (.tmp 7) _, _, _, _, _⟩ :: _) _ _); refine wpList_storeA rfl (b := y1.heap.size) (A := zer2) (A' := E) (ArrAt.fresh y1 zer2 _ (by decide)) 27 (.tmp 7) (.tmp 16) rfl (by simp [Act.eval, Act.put]) (by simp [Act.eval, Act.put]) size2z (by rw [SE.out]; rfl) OE.out ?_))
  obtain ⟨W1, hW⟩ : ∃ z, z = (y1.alloc (.cells zer2 27)).setCells y1.heap.size 0 E.toList := ⟨_, rfl⟩
  obtain ⟨hb, ha⟩ := stored_at (by decide) (by rw [SE.out]; rfl) hW
  have hb2 := HY.out.trans (hb.mono HY.out.size)
  have B1 := Lib.hid (B0.out.trans (hb2.mono B0.out.size))
  rw [← hW]
  obtain ⟨g7, hg⟩ : ∃ z, z = y1.heap.size := ⟨_, rfl⟩
  rw [← hg] at ha ⊢
  have R3 := Lib.hid (R3.out.below hb2)
  have R7 := Lib.hid ha
  clear hW hb hb2 ha hg HY
  go_upto_region 3 with (first
    | ((with_reducible show wpList _ _ _ (⟨some 21, _, _, _, _, _⟩ :: _) _ _); refine wpList_valG (by rfl) (v := .agg #[.int .u64 a, .int .u64 b]) (by kernel_rfl) ?_)
    | (go_at_call 11; refine (HDE.out _).mono ?_; rintro e y2 ⟨rfl, hy⟩; have HY := Lib.hid hy; clear hy)
    | ((with_reducible show wpList _ _ _ (⟨some 9, _, _, _, _, _⟩ :: _) _ _); refine wpList_alloc rfl 26 rfl zeroD ?_; rw [show (Value.agg zDsc.cells).cells = zDsc.cells from rfl])
    | ((with_reducible show wpList _ _ _ (⟨none, .store _ (.tmp 9) _, _, _, _, _⟩ :: _) _ _); refine wpList_storeA rfl (b := y2.heap.size) (A := zDsc.cells) (A' := X) (ArrAt.fresh y2 zDsc.cells _ (by decide)) 26 (.tmp 9) (.tmp 23) rfl (by simp [Act.eval, Act.put]) (by simp [Act.eval, Act.put]) (sizeDs _) (by rw [SX.out]; rfl) OX.out ?_))
  obtain ⟨W2, hW⟩ : ∃ z, z = (y2.alloc (.cells zDsc.cells 26)).setCells y2.heap.size 0 X.toList := ⟨_, rfl⟩
  obtain ⟨hb, ha⟩ := stored_at (by decide) (by rw [SX.out]; rfl) hW
  have hb2 := HY.out.trans (hb.mono HY.out.size)
  have B2 := Lib.hid (B1.out.trans (hb2.mono B1.out.size))
  rw [← hW]
  obtain ⟨g9, hg⟩ : ∃ z, z = y2.heap.size := ⟨_, rfl⟩
  rw [← hg] at ha ⊢
  have R3 := Lib.hid (R3.out.below hb2)
  have R7 := Lib.hid (R7.out.below hb2)
  have R9 := Lib.hid ha
  clear hW hb hb2 ha hg HY
  go_upto_region 4 with (first
    | ((with_reducible show wpList _ _ _ (⟨some 28, _, _, _, _, _⟩ :: _) _ _); refine wpList_valG (by rfl) (v := .agg #[.int .u64 a, .int .u64 b]) (by kernel_rfl) ?_)
    | (go_at_call 12; refine (HFW.out _).mono ?_; rintro e y3 ⟨rfl, hy⟩; have HY := Lib.hid hy; clear hy)
    | ((with_reducible show wpList _ _ _ (⟨some 11, _, _, _, _, _⟩ :: _) _ _); refine wpList_alloc rfl 26 rfl zeroD ?_; rw [show (Value.agg zDsc.cells).cells = zDsc.cells from rfl])
    | ((with_reducible show wpList _ _ _ (⟨none, .store _ (.tmp 11) _, _, _, _, _⟩ :: _) _ _); refine wpList_storeA rfl (b := y3.heap.size) (A := zDsc.cells) (A' := X) (ArrAt.fresh y3 zDsc.cells _ (by decide)) 26 (.tmp 11) (.tmp 30) rfl (by simp [Act.eval, Act.put]) (by simp [Act.eval, Act.put]) (sizeDs _) (by rw [SX.out]; rfl) OX.out ?_))
  obtain ⟨W3, hW⟩ : ∃ z, z = (y3.alloc (.cells zDsc.cells 26)).setCells y3.heap.size 0 X.toList := ⟨_, rfl⟩
  obtain ⟨hb, ha⟩ := stored_at (by decide) (by rw [SX.out]; rfl) hW
  have hb2 := HY.out.trans (hb.mono HY.out.size)
  have B3 := Lib.hid (B2.out.trans (hb2.mono B2.out.size))
  rw [← hW]
  obtain ⟨g11, hg⟩ : ∃ z, z = y3.heap.size := ⟨_, rfl⟩
  rw [← hg] at ha ⊢
  have R3 := Lib.hid (R3.out.below hb2)
  have R7 := Lib.hid (R7.out.below hb2)
  have R9 := Lib.hid (R9.out.below hb2)
  have R11 := Lib.hid ha
  clear hW hb hb2 ha hg HY
  refine wp_region_held_drew (S := fun w' => Below W3.heap.size W3 w') (by kernel_rfl) (Below.refl _ _).drew (fun hS0 => ?_)
  refine takeD 32 (i := 0) (v := .agg X) rfl rfl (by kernel_rfl) (by kernel_rfl) (by kernel_rfl) (fun _ _ _ h => h) (yieldsA (by rfl) 26 (.tmp 9) rfl (g9) (by first | rfl | simp [Act.eval, Act.put]) X (fun w h => (R9.out.below h).rng) Try.underlying26 rfl IX.out) (by assumption) ?_
  try simp only [Act.put, List.setIfInBounds_toArray, List.set_cons_zero, List.set_cons_succ]
  refine takeD 33 (i := 1) (v := .agg X) rfl rfl (by kernel_rfl) (by kernel_rfl) (by kernel_rfl) (fun _ _ _ h => h) (yieldsA (by rfl) 26 (.tmp 11) rfl (g11) (by first | rfl | simp [Act.eval, Act.put]) X (fun w h => (R11.out.below h).rng) Try.underlying26 rfl IX.out) (by assumption) ?_
  try simp only [Act.put, List.setIfInBounds_toArray, List.set_cons_zero, List.set_cons_succ]
  refine takeD 34 (i := 2) (v := .bool false) rfl rfl (by kernel_rfl) (by kernel_rfl) (by kernel_rfl) (fun _ _ _ h => h) (Or.inl ⟨by rfl, by (intro w' _; exact exec_neq 26 (.tmp 32) (.tmp 33) _ rfl _ _ rfl rfl (guardD _ _ _ _ _) (NX.out _))⟩) (by assumption) ?_
  try simp only [Act.put, List.setIfInBounds_toArray, List.set_cons_zero, List.set_cons_succ]
  refine takeD 35 (i := 3) (v := .bool false) rfl rfl (by kernel_rfl) (by kernel_rfl) (by kernel_rfl) (fun _ _ _ h => h) (Or.inl ⟨by rfl, by (intro w' _; go_simp)⟩) (by assumption) ?_
  try simp only [Act.put, List.setIfInBounds_toArray, List.set_cons_zero, List.set_cons_succ]
  refine takeD 36 (i := 4) (v := .int .i64 no) rfl rfl (by kernel_rfl) (by kernel_rfl) (by kernel_rfl) (fun _ _ _ h => h) (Or.inl ⟨by rfl, by (intro w' _; go_simp)⟩) (by assumption) ?_
  try simp only [Act.put, List.setIfInBounds_toArray, List.set_cons_zero, List.set_cons_succ]
  refine takeD 38 (i := 6) (v := .int .i64 no) rfl rfl (by kernel_rfl) (by kernel_rfl) (by kernel_rfl) (fun _ _ _ h => h) (Or.inl ⟨by rfl, by (intro w' _; go_simp)⟩) (by assumption) ?_
  try simp only [Act.put, List.setIfInBounds_toArray, List.set_cons_zero, List.set_cons_succ]
  refine wpAnyH_ready (rs := [5]) (by kernel_rfl) (by simp) (AllReadyH.cons rfl (fun K hK => ?_) AllReadyH.nil)
  · rw [if_pos (by rfl)]
    go_simp
    refine (num_b _ _).mono ?_
    rintro e wp ⟨rfl, hb⟩
    have hSN : Below W3.heap.size W3 wp := hS0.trans (hb.mono hS0.size)
    refine hK.out _ _ hSN (fun hS0 => ?_)
    clear hK K hb hSN
    try simp only [Act.put, List.setIfInBounds_toArray, List.set_cons_zero, List.set_cons_succ]
    refine takeD 39 (i := 7) (v := .bool false) rfl rfl (by kernel_rfl) (by kernel_rfl) (by kernel_rfl) (fun _ _ _ h => h) (Or.inl ⟨by rfl, by (intro w' _; go_simp)⟩) (by assumption) ?_
    try simp only [Act.put, List.setIfInBounds_toArray, List.set_cons_zero, List.set_cons_succ]
    refine takeD 40 (i := 8) (v := .bool false) rfl rfl (by kernel_rfl) (by kernel_rfl) (by kernel_rfl) (fun _ _ _ h => h) (Or.inl ⟨by rfl, by (intro w' _; go_simp)⟩) (by assumption) ?_
    try simp only [Act.put, List.setIfInBounds_toArray, List.set_cons_zero, List.set_cons_succ]
    refine takeD 41 (i := 9) (v := .bool false) rfl rfl (by kernel_rfl) (by kernel_rfl) (by kernel_rfl) (fun _ _ _ h => h) (Or.inl ⟨by rfl, by (intro w' _; go_simp)⟩) (by assumption) ?_
    try simp only [Act.put, List.setIfInBounds_toArray, List.set_cons_zero, List.set_cons_succ]
    refine takeD 42 (i := 10) (v := .agg D) rfl rfl (by kernel_rfl) (by kernel_rfl) (by kernel_rfl) (fun _ _ _ h => h) (yieldsA (by rfl) 26 (.tmp 3) rfl (w.heap.size) (by first | rfl | simp [Act.eval, Act.put]) D (fun w h => (R3.out.below h).rng) Try.underlying26 rfl ID.out) (by assumption) ?_
    try simp only [Act.put, List.setIfInBounds_toArray, List.set_cons_zero, List.set_cons_succ]
    refine takeD 44 (i := 12) (v := .agg D) rfl rfl (by kernel_rfl) (by kernel_rfl) (by kernel_rfl) (fun _ _ _ h => h) (yieldsA (by rfl) 26 (.tmp 3) rfl (w.heap.size) (by first | rfl | simp [Act.eval, Act.put]) D (fun w h => (R3.out.below h).rng) Try.underlying26 rfl ID.out) (by assumption) ?_
    try simp only [Act.put, List.setIfInBounds_toArray, List.set_cons_zero, List.set_cons_succ]
    refine wpAnyH_ready (rs := [11]) (by kernel_rfl) (by simp) (AllReadyH.cons rfl (fun K hK => ?_) AllReadyH.nil)
    · rw [if_pos (by rfl)]
      go_simp
      refine (HVA.out _).mono ?_
      rintro e wpq ⟨rfl, hb⟩
      have hSN : Below W3.heap.size W3 wpq := hS0.trans (hb.mono hS0.size)
      refine hK.out _ _ hSN (fun hS0 => ?_)
      clear hK K hb hSN
      try simp only [Act.put, List.setIfInBounds_toArray, List.set_cons_zero, List.set_cons_succ]
      refine wpAnyH_ready (rs := [13]) (by kernel_rfl) (by simp) (AllReadyH.cons rfl (fun K hK => ?_) AllReadyH.nil)
      · rw [if_pos (by rfl)]
        go_simp
        refine (HRV.out _).mono ?_
        rintro e wpqr ⟨rfl, hb⟩
        have hSN : Below W3.heap.size W3 wpqr := hS0.trans (hb.mono hS0.size)
        refine hK.out _ _ hSN (fun hS0 => ?_)
        clear hK K hb hSN
        try simp only [Act.put, List.setIfInBounds_toArray, List.set_cons_zero, List.set_cons_succ]
        refine takeD 46 (i := 14) (v := .bool false) rfl rfl (by kernel_rfl) (by kernel_rfl) (by kernel_rfl) (fun _ _ _ h => h) (Or.inl ⟨by rfl, by (intro w' _; go_simp)⟩) (by assumption) ?_
        try simp only [Act.put, List.setIfInBounds_toArray, List.set_cons_zero, List.set_cons_succ]
        refine takeD 47 (i := 15) (v := .bool false) rfl rfl (by kernel_rfl) (by kernel_rfl) (by kernel_rfl) (fun _ _ _ h => h) (Or.inl ⟨by rfl, by (intro w' _; go_simp)⟩) (by assumption) ?_
        try simp only [Act.put, List.setIfInBounds_toArray, List.set_cons_zero, List.set_cons_succ]
        refine wpAnyH_done (by kernel_rfl) ?_ _
        have B4 := Lib.hid (B3.out.trans (hS0.mono B3.out.size))
        have R3 := Lib.hid (R3.out.below hS0)
        have R7 := Lib.hid (R7.out.below hS0)
        go_upto_region 8 with (first
          | ((with_reducible show wpList _ _ _ (⟨some 48, _, _, _, _, _⟩ :: _) _ _); refine wpList_loadA rfl R3.out 26 (.tmp 3) rfl (by first | rfl | simp [Act.eval, Act.put]) Try.underlying26 rfl ID.out ?_)
          | (go_at_call 15; refine (HRV.out _).mono ?_; rintro e W6 ⟨rfl, hb⟩; have B6 := Lib.hid (B4.out.trans (hb.mono B4.out.size)); have R3 := Lib.hid (R3.out.below hb); have R7 := Lib.hid (R7.out.below hb); clear hb))
        refine wp_region_held_drew (S := fun w' => Below W6.heap.size W6 w') (by kernel_rfl) (Below.refl _ _).drew (fun hS0 => ?_)
        refine takeD 62 (i := 0) (v := .int .i64 0) rfl rfl (by kernel_rfl) (by kernel_rfl) (by kernel_rfl) (fun _ _ _ h => h) (Or.inl ⟨by rfl, by (intro w' _; go_simp)⟩) (by assumption) ?_
        try simp only [Act.put, List.setIfInBounds_toArray, List.set_cons_zero, List.set_cons_succ]
        refine wpAnyH_ready (rs := [1]) (by kernel_rfl) (by simp) (AllReadyH.cons rfl (fun K hK => ?_) AllReadyH.nil)
        · rw [if_pos (by rfl)]
          go_simp
          refine (num_b _ _).mono ?_
          rintro e wn ⟨rfl, hb⟩
          have hSN : Below W6.heap.size W6 wn := hS0.trans (hb.mono hS0.size)
          refine hK.out _ _ hSN (fun hS0 => ?_)
          clear hK K hb hSN
          try simp only [Act.put, List.setIfInBounds_toArray, List.set_cons_zero, List.set_cons_succ]
          refine takeD 64 (i := 2) (v := .bool true) rfl rfl (by kernel_rfl) (by kernel_rfl) (by kernel_rfl) (fun _ _ _ h => h) (Or.inl ⟨by rfl, by (intro w' _; go_simp)⟩) (by assumption) ?_
          try simp only [Act.put, List.setIfInBounds_toArray, List.set_cons_zero, List.set_cons_succ]
          refine takeD 65 (i := 3) (v := .bool true) rfl rfl (by kernel_rfl) (by kernel_rfl) (by kernel_rfl) (fun _ _ _ h => h) (Or.inl ⟨by rfl, by (intro w' _; go_simp)⟩) (by assumption) ?_
          try simp only [Act.put, List.setIfInBounds_toArray, List.set_cons_zero, List.set_cons_succ]
          refine takeD 66 (i := 4) (v := .agg E) rfl rfl (by kernel_rfl) (by kernel_rfl) (by kernel_rfl) (fun _ _ _ h => h) (yieldsA (by rfl) 27 (.tmp 7) rfl (g7) (by first | rfl | simp [Act.eval, Act.put]) E (fun w h => (R7.out.below h).rng) Try.underlying27 rfl IE.out) (by assumption) ?_
          try simp only [Act.put, List.setIfInBounds_toArray, List.set_cons_zero, List.set_cons_succ]
          refine takeD 67 (i := 5) (v := .agg D) rfl rfl (by kernel_rfl) (by kernel_rfl) (by kernel_rfl) (fun _ _ _ h => h) (yieldsA (by rfl) 26 (.tmp 3) rfl (w.heap.size) (by first | rfl | simp [Act.eval, Act.put]) D (fun w h => (R3.out.below h).rng) Try.underlying26 rfl ID.out) (by assumption) ?_
          try simp only [Act.put, List.setIfInBounds_toArray, List.set_cons_zero, List.set_cons_succ]
          refine wpAnyH_ready (rs := [6]) (by kernel_rfl) (by simp) (AllReadyH.cons rfl (fun K hK => ?_) AllReadyH.nil)
          · rw [if_pos (by rfl)]
            go_simp
            refine (HWO.out _).mono ?_
            rintro e wnm ⟨rfl, hb⟩
            have hSN : Below W6.heap.size W6 wnm := hS0.trans (hb.mono hS0.size)
            refine hK.out _ _ hSN (fun hS0 => ?_)
            clear hK K hb hSN
            try simp only [Act.put, List.setIfInBounds_toArray, List.set_cons_zero, List.set_cons_succ]
            refine takeD 69 (i := 7) (v := .bool true) rfl rfl (by kernel_rfl) (by kernel_rfl) (by kernel_rfl) (fun _ _ _ h => h) (Or.inl ⟨by rfl, by (intro w' _; exact exec_eql 27 (.tmp 66) (.tmp 68) _ rfl _ _ rfl rfl (guardWe _ _ _ _ _) (QE.out _))⟩) (by assumption) ?_
            try simp only [Act.put, List.setIfInBounds_toArray, List.set_cons_zero, List.set_cons_succ]
            refine takeD 70 (i := 8) (v := .bool true) rfl rfl (by kernel_rfl) (by kernel_rfl) (by kernel_rfl) (fun _ _ _ h => h) (Or.inl ⟨by rfl, by (intro w' _; go_simp)⟩) (by assumption) ?_
            try simp only [Act.put, List.setIfInBounds_toArray, List.set_cons_zero, List.set_cons_succ]
            refine takeD 71 (i := 9) (v := .bool true) rfl rfl (by kernel_rfl) (by kernel_rfl) (by kernel_rfl) (fun _ _ _ h => h) (Or.inl ⟨by rfl, by (intro w' _; go_simp)⟩) (by assumption) ?_
            try simp only [Act.put, List.setIfInBounds_toArray, List.set_cons_zero, List.set_cons_succ]
            refine wpAnyH_ready (rs := [10]) (by kernel_rfl) (by simp) (AllReadyH.cons rfl (fun K hK => ?_) AllReadyH.nil)
            · rw [if_pos (by rfl)]
              go_simp
              refine (works_ok _).mono ?_
              rintro e wnmk ⟨rfl, hb⟩
              have hSN : Below W6.heap.size W6 wnmk := hS0.trans (hb.mono hS0.size)
              refine hK.out _ _ hSN (fun hS0 => ?_)
              clear hK K hb hSN
              try simp only [Act.put, List.setIfInBounds_toArray, List.set_cons_zero, List.set_cons_succ]
              refine takeD 73 (i := 11) (v := .bool true) rfl rfl (by kernel_rfl) (by kernel_rfl) (by kernel_rfl) (fun _ _ _ h => h) (Or.inl ⟨by rfl, by (intro w' _; go_simp)⟩) (by assumption) ?_
              try simp only [Act.put, List.setIfInBounds_toArray, List.set_cons_zero, List.set_cons_succ]
              refine takeD 6 (i := 12) (v := .bool true) rfl rfl (by kernel_rfl) (by kernel_rfl) (by kernel_rfl) (fun _ _ _ h => h) (Or.inl ⟨by rfl, by (intro w' _; go_simp)⟩) (by assumption) ?_
              try simp only [Act.put, List.setIfInBounds_toArray, List.set_cons_zero, List.set_cons_succ]
              refine wpAnyH_done (by kernel_rfl) ?_ _
              go_wp2_with fail
              go_ret
              exact ⟨rfl, B6.out.trans (hS0.mono B6.out.size)⟩
theorem codes_any (d : Dsc) (a b : Int) (w : World) (hok : d.Ok) (ha : (Lit.int .u64 a).wf = true) (hb : (Lit.int .u64 b).wf = true) :
    Calls Try.prog 3 #[.agg d.cells, .int .u64 a, .int .u64 b] w fun e w' => e = .returned (.bool true) ∧ Below w.heap.size w w' := by
  obtain ⟨a0, a1⟩ := wf_u64 ha
  obtain ⟨b0, b1⟩ := wf_u64 hb
  by_cases hv : Vld d
  · exact codes_ok d a b w hok a0 a1 b0 b1 hv
  · exact codes_no d a b w hok a0 a1 b0 b1 hv
end Go.Proofs.Ytcljbmkdflkeeaa
