/- connect: DecodeData. -/
import Derived.Test.YtchkipafjnehfaaTE
import Derived.Deep.RegionHeld3
import Derived.Test.YtchkipafjnehfaaArr
import Derived.Test.YtchkipafjnehfaaBits
namespace Go.Proofs.Ytchkipafjnehfaa
set_option linter.unusedVariables false
set_option linter.unusedSimpArgs false
open Go.RowKit

theorem baeq_self (a : ByteArray) : (a == a) = true := by rw [beq_toListBytes]; simp
theorem baeq_ne {a b : ByteArray} (h : a ≠ b) : (a == b) = false := by
  rw [beq_toListBytes, beq_eq_false_iff_ne]
  intro e
  rw [ByteArray.toList_eq, ByteArray.toList_eq] at e
  exact h (ByteArray.ext (Array.toList_inj.1 e))

theorem or16 (x y : Int) (hx : 0 ≤ x) (hx' : x ≤ 255) (hy : 0 ≤ y) (hy' : y ≤ 255) : bits .or .u16 x (y * 256) = x + 256 * y := by
  obtain ⟨a, rfl⟩ := Int.eq_ofNat_of_zero_le hx
  obtain ⟨b, rfl⟩ := Int.eq_ofNat_of_zero_le hy
  have e : (b : Int) * (256 : Int) = ((b <<< 8 : Nat) : Int) := by rw [Nat.shiftLeft_eq, show (2 : Nat) ^ 8 = 256 from rfl, Int.natCast_mul]; rfl
  have hb : b <<< 8 = b * 256 := Nat.shiftLeft_eq b 8
  rw [e, u16_or _ _ (by omega) (by omega) (by omega) (by omega)]
  have h := Nat.shiftLeft_add_eq_or_of_lt (i := 8) (show a < 2 ^ 8 by omega) b
  rw [Nat.or_comm] at h
  simp only [Int.toNat_natCast]
  omega

theorem results69 {f : Func} (hf : f.results = #[.cell 2 69, .tmp 3]) (tmps : Array Value) (w : World) (b : Nat) (d : Dat) (e : Value) (h : DatAt w b d) (h2 : tmps.getD 2 undef = .pointer (some ⟨b, 0, none⟩)) (h3 : tmps.getD 3 undef = e) :
    (results f tmps).run Try.prog w = .ok (.tuple #[d.v, e]) w := by
  rw [results_cell_tmp (p := 2) (u := 3) (ty := 69) hf, h2, h3]
  have hl := run_loadVar_mid (P := Try.prog) w b 0 69 (arr 19 (dcell d)).toList _ (rowIs_range0 h) Try.underlying69 rfl (by rw [size69]; simp [arr])
  simp only [asAddr, Sem.run_pure, Result.andThen_ok, hl, Array.toArray_toList]
  rfl

/-- What lies in memory while bytes are decoded: the data so far at b, the bytes at ⟨sg, so⟩. -/
structure DS (w W : World) (b : Nat) (d : Dat) (sg so : Nat) (B : Nat → Int) : Prop where
  dat : DatAt W b d
  src : BytesAt W sg so 1024 B
  below : Below w.heap.size w W
  hb : w.heap.size ≤ b
  hs : sg < w.heap.size
namespace DS
variable {w W : World} {b sg so : Nat} {d : Dat} {B : Nat → Int}
theorem after (h : DS w W b d sg so B) {W' : World} (k : Below W.heap.size W W') : DS w W' b d sg so B :=
  ⟨World.rowIs.of_block h.dat (k.block _ (World.rowIs.lt h.dat)), h.src.below k, h.below.trans (k.mono h.below.size), h.hb, h.hs⟩
theorem drew (h : DS w W b d sg so B) : DS w W.drew b d sg so B := ⟨World.rowIs.drew h.dat, h.src, h.below.drew, h.hb, h.hs⟩
theorem cells (h : DS w W b d sg so B) {W' : World} {d' : Dat} (k : Keeps (One b) W W') (hd : DatAt W' b d') : DS w W' b d' sg so B :=
  ⟨hd, fun j hj => k.cell (h.src j hj) (fun e => by have e : sg = b := e; have := h.hb; have := h.hs; omega),
    h.below.trans (k.below h.below.size (fun j hj e => by have e : j = b := e; have := h.hb; omega)), h.hb, h.hs⟩
theorem put (h : DS w W b d sg so B) (i : Nat) (u : Value) {d' : Dat} (hu : ∀ j, j < 19 → (if j = i then u else dcell d j) = dcell d' j) : DS w (W.setCell ⟨b, i, none⟩ u) b d' sg so B :=
  h.cells ((Keeps.refl _ _).set1 _ _) ((World.rowIs.set h.dat i u).congr fun j hj => hu j hj)
theorem put17 (h : DS w W b d sg so B) (s : ByteArray) : DS w (W.setCell ⟨b, 17, none⟩ (.string s)) b ⟨d.host, d.ctl, s, d.hst⟩ sg so B :=
  h.put 17 _ fun j hj => by
    unfold dcell
    simp only []
    by_cases h1 : j = 17
    · rw [if_pos h1, if_neg (by omega), if_neg (by omega), if_pos h1]
    · rw [if_neg h1, if_neg h1, if_neg h1]
theorem put18 (h : DS w W b d sg so B) (s : ByteArray) : DS w (W.setCell ⟨b, 18, none⟩ (.string s)) b ⟨d.host, d.ctl, d.sub, s⟩ sg so B :=
  h.put 18 _ fun j hj => by
    unfold dcell
    simp only []
    by_cases h1 : j = 18
    · rw [if_pos h1, if_neg (by omega), if_neg (by omega), if_neg (by omega)]
    · by_cases h2 : j = 17
      · rw [if_neg h1, if_neg (by omega), if_neg (by omega), if_pos h2, if_neg (by omega), if_neg (by omega), if_pos h2]
      · rw [if_neg h1, if_neg h2, if_neg h2]
        by_cases h3 : j < 16
        · rw [if_pos h3, if_pos h3]
        · rw [if_neg h3, if_neg h3, if_pos (by omega), if_pos (by omega)]
theorem start (w : World) (hs : sg < w.heap.size) (h : BytesAt w sg so 1024 B) : DS w (w.alloc (.cells (arr 19 (dcell D0)) 69)) w.heap.size D0 sg so B :=
  ⟨DatAt.fresh w D0, h.below ((Below.refl _ w).alloc (Nat.le_refl _) _), (Below.refl _ w).alloc (Nat.le_refl _) _, Nat.le_refl _, hs⟩
end DS

theorem copyIn (W : World) (b sg so n c : Nat) (d : Dat) (B : Nat → Int) (hd : DatAt W b d) (hs : BytesAt W sg so n B) (hn : 16 ≤ n) (ty : TypeId) :
    (Builtin.copy_ #[70, 70] ty #[.slice (some ⟨b, 0, none⟩) 16 16, .slice (some ⟨sg, so, none⟩) n c]).run Try.prog W = .ok (goInt 16) (W.setCells b 0 (arr 16 (rowB B)).toList) := by
  have hl : (arr 16 (rowB B)).toList.length = 16 := by simp [arr]
  have h := run_copy_cells (P := Try.prog) W 70 70 ty 5 b 0 16 16 ⟨sg, so, none⟩ n c (arr 16 (rowB B)).toList Try.underlying70 info1 (by rw [hl]; exact (Nat.min_eq_right hn).symm)
    (fun j v hj => by
      rw [arr_list, List.getElem?_map, Option.map_eq_some_iff] at hj
      obtain ⟨k, hk, rfl⟩ := hj
      have hj' : j < 16 := by have := (List.getElem?_eq_some_iff.1 hk).1; simpa using this
      rw [List.getElem?_range hj'] at hk
      cases hk
      rw [Addr.add_mid]
      exact hs j (by omega))
    (fun j hj => by rw [hl] at hj; rw [World.rowIs.cell hd (by omega)]; rfl) (fun j hj => World.rowIs.frozen hd _) (fun v hv => by
      rw [arr_list] at hv
      obtain ⟨i, -, rfl⟩ := List.mem_map.1 hv
      rfl)
  rw [hl] at h
  exact h
theorem copyIn_dat {W : World} {b : Nat} {d : Dat} {B : Nat → Int} (hd : DatAt W b d) : DatAt (W.setCells b 0 (arr 16 (rowB B)).toList) b ⟨B, d.ctl, d.sub, d.hst⟩ := by
  have hl : (arr 16 (rowB B)).toList.length = 16 := by simp [arr]
  refine (rowIs_setCells hd _ 0).congr fun j hj => ?_
  rw [hl]
  unfold dcell
  by_cases h : j < 16
  · rw [if_pos (by omega), if_pos h, Nat.sub_zero, List.getD_eq_getElem?_getD, arr_list, List.getElem?_map, List.getElem?_range h]
    rfl
  · rw [if_neg (by omega), if_neg h, if_neg h]

set_option maxRecDepth 100000 in
set_option maxHeartbeats 4000000 in
theorem decodeData_len (ao : Option Addr) (n c : Nat) (w : World) (hn : n ≠ 1024) (hn' : n ≤ 9223372036854775807) :
    Calls Try.prog 35 #[.slice ao n c] w fun e w' => e = .returned (.tuple #[D0.v, .int .i64 (if n < 1024 then 4 else 5)]) ∧ Below w.heap.size w w' := by
  obtain ⟨W0, hW⟩ : ∃ W0, W0 = w.alloc (.cells (arr 19 (dcell D0)) 69) := ⟨_, rfl⟩
  have hd0 : DatAt W0 w.heap.size D0 := by rw [hW]; exact DatAt.fresh w D0
  have HD := Lib.hid hd0
  have HR := Lib.hid (rowIs_range0 hd0)
  have HT := Lib.hid (rowIs_there hd0 0 19 (by omega))
  have HB := Lib.hid (show Below w.heap.size w W0 by rw [hW]; exact (Below.refl _ w).alloc (Nat.le_refl _) _)
  have HONE := Lib.hid (arr_one (n := 19) (fun j _ => dcell_one D0 j))
  have HW := Lib.hid hW
  clear hW hd0
  by_cases hl : n < 1024
  · have d1 : decide ((n : Int) < 1024) = true := by simp; omega
    rw [if_pos hl]
    go_enter Try.func35, Try.ntmps35
    go_upto_region 1 with ((with_reducible show wpList _ _ _ (⟨some 2, .alloc _, _, _, _, _⟩ :: _) _ _); refine wpList_alloc rfl 69 rfl zero69 ?_; rw [show D0.v.cells = arr 19 (dcell D0) from rfl])
    rw [← HW.out]
    go_wp2_with (first
      | ((with_reducible show wpList _ _ _ (⟨some 10, .load _ _, _, _, _, _⟩ :: _) _ _); refine wpList_load_mid rfl 69 (.tmp 2) rfl w.heap.size 0 rfl (arr 19 (dcell D0)).toList _ HR.out Try.underlying69 rfl (by rw [size69]; simp [arr]) ?_)
      | ((with_reducible show wpList _ _ _ (⟨none, .store _ _ _, _, _, _, _⟩ :: _) _ _); refine wpList_store_mid rfl 69 (.tmp 2) (.tmp 10) rfl w.heap.size 0 (arr 19 (dcell D0)) (by simp [Act.eval, Act.put]) (by simp [Act.eval, Act.put]) (by rw [arr_size]; exact HT.out) (by rw [size69, arr_size]) HONE.out ?_))
    refine bodyPost_ret (results69 rfl _ _ w.heap.size D0 _ (rowIs_store HD.out) rfl rfl) rfl ⟨rfl, ?_⟩
    exact HB.out.trans ((Keeps.setCells _ (Keeps.refl (One w.heap.size) W0) 0).below (B := w.heap.size) HB.out.size (fun k hk e => by have e : k = w.heap.size := e; omega))
  · have d1 : decide ((n : Int) < 1024) = false := by simp; omega
    have d2 : decide ((1024 : Int) < (n : Int)) = true := by simp; omega
    rw [if_neg hl]
    go_enter Try.func35, Try.ntmps35
    go_upto_region 1 with ((with_reducible show wpList _ _ _ (⟨some 2, .alloc _, _, _, _, _⟩ :: _) _ _); refine wpList_alloc rfl 69 rfl zero69 ?_; rw [show D0.v.cells = arr 19 (dcell D0) from rfl])
    rw [← HW.out]
    go_wp2_with (first
      | ((with_reducible show wpList _ _ _ (⟨some 15, .load _ _, _, _, _, _⟩ :: _) _ _); refine wpList_load_mid rfl 69 (.tmp 2) rfl w.heap.size 0 rfl (arr 19 (dcell D0)).toList _ HR.out Try.underlying69 rfl (by rw [size69]; simp [arr]) ?_)
      | ((with_reducible show wpList _ _ _ (⟨none, .store _ _ _, _, _, _, _⟩ :: _) _ _); refine wpList_store_mid rfl 69 (.tmp 2) (.tmp 15) rfl w.heap.size 0 (arr 19 (dcell D0)) (by simp [Act.eval, Act.put]) (by simp [Act.eval, Act.put]) (by rw [arr_size]; exact HT.out) (by rw [size69, arr_size]) HONE.out ?_))
    refine bodyPost_ret (results69 rfl _ _ w.heap.size D0 _ (rowIs_store HD.out) rfl rfl) rfl ⟨rfl, ?_⟩
    exact HB.out.trans ((Keeps.setCells _ (Keeps.refl (One w.heap.size) W0) 0).below (B := w.heap.size) HB.out.size (fun k hk e => by have e : k = w.heap.size := e; omega))

/-- What is made of 1024 bytes. -/
def DecD (B : Nat → Int) (ok bad : Value) (w : World) (e : Ending) (w' : World) : Prop :=
  ((AccD B ∧ e = .returned (.tuple #[(dDec B).v, ok])) ∨ (¬ AccD B ∧ e = .returned (.tuple #[D0.v, bad]))) ∧ Below w.heap.size w w'

set_option maxRecDepth 100000 in
set_option maxHeartbeats 4000000 in
theorem decodeData_any (sg so c : Nat) (B : Nat → Int) (w : World) (hB : ∀ j, 0 ≤ B j ∧ B j ≤ 255) (hsrc : BytesAt w sg so 1024 B) (hc : 1024 ≤ c) (hc' : c ≤ 9223372036854775807) :
    Calls Try.prog 35 #[.slice (some ⟨sg, so, none⟩) 1024 c] w (DecD B (.int .i64 0) (.int .i64 6) w) := by
  have hsg : sg < w.heap.size := World.block_lt_of_cell? _ _ (hsrc 0 (by omega))
  have HBB := Lib.hid hB
  have H0 := Lib.hid (DS.start w hsg hsrc)
  obtain ⟨b, hb⟩ : ∃ b, b = w.heap.size := ⟨_, rfl⟩
  rw [← hb] at H0
  obtain ⟨W0, hW⟩ : ∃ W0, W0 = w.alloc (.cells (arr 19 (dcell D0)) 69) := ⟨_, rfl⟩
  have HW := Lib.hid hW
  rw [← hW] at H0
  have HBE := Lib.hid hb
  clear hW hB hb hsrc
  go_enter Try.func35, Try.ntmps35
  go_upto_region 1 with ((with_reducible show wpList _ _ _ (⟨some 2, .alloc _, _, _, _, _⟩ :: _) _ _); refine wpList_alloc rfl 69 rfl zero69 ?_; rw [show D0.v.cells = arr 19 (dcell D0) from rfl])
  rw [← HW.out, ← HBE.out]
  have hcp := copyIn W0 b sg so 1024 c D0 B H0.out.dat H0.out.src (by omega)
  have k1 : Keeps (One b) W0 (W0.setCells b 0 (arr 16 (rowB B)).toList) := Keeps.setCells _ (Keeps.refl _ _) 0
  have H1 := Lib.hid (H0.out.cells k1 (copyIn_dat H0.out.dat))
  obtain ⟨W1, hW1⟩ : ∃ W1, W1 = W0.setCells b 0 (arr 16 (rowB B)).toList := ⟨_, rfl⟩
  rw [← hW1] at hcp H1
  have HCP := Lib.hid hcp
  clear k1 hW1 hcp HW H0
  go_upto_region 6 with ((with_reducible show wpList _ _ _ (⟨some 19, _, _, _, _, _⟩ :: _) _ _); refine Lib.wpList_copy_run _ rfl (.tmp 17) (.tmp 18) 70 70 rfl _ _ rfl rfl (HCP.out _) ?_)
  clear HCP
  have g16 : W1.cell? ⟨sg, so + 16, none⟩ = some (.int .u8 (B 16)) := H1.out.src 16 (by omega)
  have g17 : W1.cell? ⟨sg, so + 17, none⟩ = some (.int .u8 (B 17)) := H1.out.src 17 (by omega)
  have c16 : W1.cell? ⟨b, 16, none⟩ = some (.int .u16 0) := World.rowIs.cell H1.out.dat (by omega)
  have f16 := World.rowIs.frozen H1.out.dat 16
  have b16 := HBB.out 16
  have b17 := HBB.out 17
  have b16a := b16.1
  have b16b := b16.2
  have b17a := b17.1
  have b17b := b17.2
  have e16 : IntKind.u16.wrap (B 16) = B 16 := IntWalk.u16_in _ (by omega)
  have e17 : IntKind.u16.wrap (B 17) = B 17 := IntWalk.u16_in _ (by omega)
  have e18 : IntKind.u16.wrap (B 17 * 256) = B 17 * 256 := IntWalk.u16_in _ (by omega)
  have eor := or16 (B 16) (B 17) b16a b16b b17a b17b
  obtain ⟨C, hC⟩ : ∃ C, C = B 16 + 256 * B 17 := ⟨_, rfl⟩
  have H2 := Lib.hid (show DS w (W1.setCell ⟨b, 16, none⟩ (.int .u16 C)).drew b ⟨B, C, D0.sub, D0.hst⟩ sg so B from (H1.out.put 16 _ (d' := ⟨B, C, D0.sub, D0.hst⟩) (fun j hj => by
    unfold dcell
    simp only []
    by_cases h : j < 16
    · rw [if_neg (by omega), if_pos h, if_pos h]
    · by_cases h2 : j = 16
      · rw [if_pos h2, if_neg h, if_pos h2]
      · rw [if_neg h2, if_neg h, if_neg h2, if_neg h, if_neg h2])).drew)
  obtain ⟨W2, hW2⟩ : ∃ W2, W2 = (W1.setCell ⟨b, 16, none⟩ (.int .u16 C)).drew := ⟨_, rfl⟩
  rw [← hW2] at H2
  have HW2 := Lib.hid hW2
  have HC := Lib.hid hC
  clear hW2
  try simp only [Act.put, List.setIfInBounds_toArray, List.set_cons_zero, List.set_cons_succ]
  go_cut [4] from 20 to 30 (fun v wc => v = undef ∧ wc = W2)
  case first =>
    refine wp_normal ?_
    clear hC
    go_region_with fail
    all_goals
      refine NormalOnly.intro ?_
      rw [← HC.out]
      go_wp2_with fail
      go_meet
      exact ⟨rfl, HW2.out.symm⟩
  case rest =>
    obtain ⟨rfl, rfl⟩ := hcut
    clear g16 g17 c16 f16 b16 b17 b16a b16b b17a b17b e16 e17 e18 eor H1 HW2 hC
    go_upto_region 7 with fail
    have HS := Lib.hid hsg
    clear hsg
    go_cut [4] from 31 to 38 (fun v wc => v = undef ∧ DS w wc b ⟨B, C, txt B 256, txt B 512⟩ sg so B)
    case first =>
      refine wp_normal ?_
      refine wp_region_held_drew (S := fun _ => True) (by kernel_rfl) trivial (fun hS0 => ?_)
      have hc5 : (512 : Int) ≤ (c : Int) := by omega
      have hc7 : (768 : Int) ≤ (c : Int) := by omega
      have hn2 : ¬ c = 256 := by omega
      have hn5 : ¬ c = 512 := by omega
      have D := Lib.hid H2.out.drew
      refine takeD 31 (i := 0) (v := .slice (some ⟨sg, so, none⟩) 1024 c) rfl rfl (by kernel_rfl) (by kernel_rfl) (by kernel_rfl) (fun _ _ _ h => h) (Or.inl ⟨by rfl, by (intro w' _; go_simp)⟩) trivial ?_
      try simp only [Act.put, List.setIfInBounds_toArray, List.set_cons_zero, List.set_cons_succ]
      refine takeD 32 (i := 1) (v := .slice (some ⟨sg, so + 256, none⟩) 256 (c - 256)) rfl rfl (by kernel_rfl) (by kernel_rfl) (by kernel_rfl) (fun _ _ _ h => h) (Or.inl ⟨by rfl, by (intro w' _; go_simp)⟩) trivial ?_
      try simp only [Act.put, List.setIfInBounds_toArray, List.set_cons_zero, List.set_cons_succ]
      refine takeD 34 (i := 3) (v := .slice (some ⟨sg, so, none⟩) 1024 c) rfl rfl (by kernel_rfl) (by kernel_rfl) (by kernel_rfl) (fun _ _ _ h => h) (Or.inl ⟨by rfl, by (intro w' _; go_simp)⟩) trivial ?_
      try simp only [Act.put, List.setIfInBounds_toArray, List.set_cons_zero, List.set_cons_succ]
      refine takeD 35 (i := 4) (v := .slice (some ⟨sg, so + 512, none⟩) 256 (c - 512)) rfl rfl (by kernel_rfl) (by kernel_rfl) (by kernel_rfl) (fun _ _ _ h => h) (Or.inl ⟨by rfl, by (intro w' _; go_simp)⟩) trivial ?_
      try simp only [Act.put, List.setIfInBounds_toArray, List.set_cons_zero, List.set_cons_succ]
      refine wpAnyH_ready (rs := [2]) (by kernel_rfl) (by simp) (AllReadyH.cons rfl (fun K hK => ?_) AllReadyH.nil)
      · rw [if_pos (by rfl)]
        go_simp
        refine (text_any sg (so + 256) 256 (c - 256) (fun j => B (256 + j)) _ (D.out.src.sub 256 256 (by omega)) (fun j => HBB.out _) (by omega) (by omega)).mono ?_
        rintro e wc1 ⟨rfl, hb⟩
        have Dc1 := Lib.hid (D.out.after hb)
        rw [show strOf (fz (fun j => B (256 + j)) 256) (fun j => B (256 + j)) = txt B 256 from rfl]
        clear hb
        refine hK.out _ _ trivial (fun hS0 => ?_)
        clear hK K
        try simp only [Act.put, List.setIfInBounds_toArray, List.set_cons_zero, List.set_cons_succ]
        refine wpAnyH_ready (rs := [5]) (by kernel_rfl) (by simp) (AllReadyH.cons rfl (fun K hK => ?_) AllReadyH.nil)
        · rw [if_pos (by rfl)]
          go_simp
          refine (text_any sg (so + 512) 256 (c - 512) (fun j => B (512 + j)) _ (Dc1.out.src.sub 512 256 (by omega)) (fun j => HBB.out _) (by omega) (by omega)).mono ?_
          rintro e wc1c2 ⟨rfl, hb⟩
          have Dc1c2 := Lib.hid (Dc1.out.after hb)
          rw [show strOf (fz (fun j => B (512 + j)) 256) (fun j => B (512 + j)) = txt B 512 from rfl]
          clear hb
          refine hK.out _ _ trivial (fun hS0 => ?_)
          clear hK K
          try simp only [Act.put, List.setIfInBounds_toArray, List.set_cons_zero, List.set_cons_succ]
          refine takeD 37 (i := 6) (v := .pointer (some ⟨b, 17, none⟩)) rfl rfl (by kernel_rfl) (by kernel_rfl) (by kernel_rfl) (fun _ _ _ h => h) (Or.inl ⟨by rfl, by (intro w' _; go_simp)⟩) trivial ?_
          try simp only [Act.put, List.setIfInBounds_toArray, List.set_cons_zero, List.set_cons_succ]
          refine wpAnyH_ready (rs := [7]) (by kernel_rfl) (by simp) (AllReadyH.cons rfl (fun K hK => ?_) AllReadyH.nil)
          · rw [if_pos (by rfl)]
            have q1 := World.rowIs.cell Dc1c2.out.dat (i := 17) (by omega)
            have q2 := World.rowIs.frozen Dc1c2.out.dat 17
            go_simp
            have Dc1c2s1 := Lib.hid (Dc1c2.out.put17 (txt B 256))
            clear q1 q2
            refine hK.out _ _ trivial (fun hS0 => ?_)
            clear hK K
            try simp only [Act.put, List.setIfInBounds_toArray, List.set_cons_zero, List.set_cons_succ]
            refine takeD 38 (i := 8) (v := .pointer (some ⟨b, 18, none⟩)) rfl rfl (by kernel_rfl) (by kernel_rfl) (by kernel_rfl) (fun _ _ _ h => h) (Or.inl ⟨by rfl, by (intro w' _; go_simp)⟩) trivial ?_
            try simp only [Act.put, List.setIfInBounds_toArray, List.set_cons_zero, List.set_cons_succ]
            refine wpAnyH_ready (rs := [9]) (by kernel_rfl) (by simp) (AllReadyH.cons rfl (fun K hK => ?_) AllReadyH.nil)
            · rw [if_pos (by rfl)]
              have q1 := World.rowIs.cell Dc1c2s1.out.dat (i := 18) (by omega)
              have q2 := World.rowIs.frozen Dc1c2s1.out.dat 18
              go_simp
              have Dc1c2s1s2 := Lib.hid (Dc1c2s1.out.put18 (txt B 512))
              clear q1 q2
              refine hK.out _ _ trivial (fun hS0 => ?_)
              clear hK K
              try simp only [Act.put, List.setIfInBounds_toArray, List.set_cons_zero, List.set_cons_succ]
              refine wpAnyH_done (by kernel_rfl) ?_ _
              refine NormalOnly.intro ?_
              go_wp2_with fail
              go_meet
              exact ⟨rfl, Dc1c2s1s2.out⟩
    case rest =>
      obtain ⟨rfl, hD⟩ := hcut
      have e0 : (⟨B, C, txt B 256, txt B 512⟩ : Dat) = dDec B := by rw [HC.out]; rfl
      rw [e0] at hD
      clear e0 H2
      have HO := Lib.hid (dDec_ok HBB.out)
      have HAC := Lib.hid (show AccD B ↔ vDat (dDec B) = true ∧ ∀ j, j < 1024 → dB (dDec B) j = B j from Iff.rfl)
      obtain ⟨d, hd⟩ : ∃ d, d = dDec B := ⟨_, rfl⟩
      rw [← hd] at hD HO HAC
      have HDD := Lib.hid hd
      have D := Lib.hid hD
      have HR := Lib.hid (rowIs_range0 hD.dat)
      have HONE := Lib.hid (arr_one (n := 19) (fun j _ => dcell_one d j))
      have HONE0 := Lib.hid (arr_one (n := 19) (fun j _ => dcell_one D0 j))
      have HBU := Lib.hid fun W => build69 W
      clear hD hd
      cases hv : vDat d with
      | false =>
        have HNA := Lib.hid (show ¬ AccD B from fun h => by have h2 := (HAC.out.1 h).1; rw [hv] at h2; cases h2)
        have HE := Lib.hid fun W => encodeData_bad d W HO.out hv
        unfold Dat.v at HE HBU
        go_wp2_with ((with_reducible show wpList _ _ _ (⟨some 40, .load _ _, _, _, _, _⟩ :: _) _ _); refine wpList_load_mid rfl 69 (.tmp 2) rfl b 0 rfl (arr 19 (dcell d)).toList _ HR.out Try.underlying69 rfl (by rw [size69]; simp [arr]) ?_)
        refine (HE.out _).mono ?_
        rintro e w2 ⟨rfl, hb2⟩
        have D2 := Lib.hid (D.out.after hb2)
        have HT := Lib.hid (rowIs_there D2.out.dat 0 19 (by omega))
        clear hb2
        go_wp2_with (first
          | ((with_reducible show wpList _ _ _ (⟨some 52, .build _ _, _, _, _, _⟩ :: _) _ _); refine wpList_build0 rfl 69 rfl (HBU.out _) ?_)
          | ((with_reducible show wpList _ _ _ (⟨none, .store _ _ _, _, _, _, _⟩ :: _) _ _); refine wpList_store_mid rfl 69 (.tmp 2) (.tmp 52) rfl b 0 (arr 19 (dcell D0)) (by simp [Act.eval, Act.put]) (by simp [Act.eval, Act.put]) (by rw [arr_size]; exact HT.out) (by rw [size69, arr_size]) HONE0.out ?_))
        have D3 := Lib.hid (D2.out.cells (Keeps.setCells _ (Keeps.refl (One b) w2) 0) (rowIs_store D2.out.dat (g := dcell D0)))
        exact bodyPost_ret (results69 rfl _ _ b D0 _ D3.out.dat rfl rfl) rfl ⟨.inr ⟨HNA.out, rfl⟩, D3.out.below⟩
      | true =>
        have HE := Lib.hid fun W => encodeData_ok d W HO.out hv
        have HDB := Lib.hid (dB_bd HO.out)
        unfold Dat.v at HE HBU
        go_wp2_with ((with_reducible show wpList _ _ _ (⟨some 40, .load _ _, _, _, _, _⟩ :: _) _ _); refine wpList_load_mid rfl 69 (.tmp 2) rfl b 0 rfl (arr 19 (dcell d)).toList _ HR.out Try.underlying69 rfl (by rw [size69]; simp [arr]) ?_)
        refine (HE.out _).mono ?_
        rintro e w2 ⟨g, rfl, hg, hb2, hrow⟩
        have D2 := Lib.hid (D.out.after hb2)
        have HT := Lib.hid (rowIs_there D2.out.dat 0 19 (by omega))
        have HR2 := Lib.hid (rowIs_range0 D2.out.dat)
        have HG := Lib.hid (show BytesAt w2 g 0 1024 (dB d) from fun j hj => by rw [Nat.zero_add]; exact hrow.cell hj)
        clear hb2 hrow hg
        by_cases heq : strOf 1024 (dB d) = strOf 1024 B
        · have HA := Lib.hid (HAC.out.2 ⟨hv, fun j hj => strOf_inj HDB.out HBB.out heq j hj⟩)
          have HQ := Lib.hid fun W h1 h2 => equal_any g 0 sg so 1024 1024 c (dB d) B true W h1 h2 (by rw [heq]; exact baeq_self _)
          clear heq
          go_wp2_with fail
          refine (HQ.out _ HG.out D2.out.src).mono ?_
          rintro e w' ⟨rfl, rfl⟩
          go_wp2_with (first
            | ((with_reducible show wpList _ _ _ (⟨some 53, .load _ _, _, _, _, _⟩ :: _) _ _); refine wpList_load_mid rfl 69 (.tmp 2) rfl b 0 rfl (arr 19 (dcell d)).toList _ HR2.out Try.underlying69 rfl (by rw [size69]; simp [arr]) ?_)
            | ((with_reducible show wpList _ _ _ (⟨none, .store _ _ _, _, _, _, _⟩ :: _) _ _); refine wpList_store_mid rfl 69 (.tmp 2) (.tmp 53) rfl b 0 (arr 19 (dcell d)) (by simp [Act.eval, Act.put]) (by simp [Act.eval, Act.put]) (by rw [arr_size]; exact HT.out) (by rw [size69, arr_size]) HONE.out ?_))
          have D3 := Lib.hid (D2.out.cells (Keeps.setCells _ (Keeps.refl (One b) w2) 0) (rowIs_store D2.out.dat (g := dcell d)))
          exact bodyPost_ret (results69 rfl _ _ b d _ D3.out.dat rfl rfl) rfl ⟨.inl ⟨HA.out, by rw [HDD.out]; rfl⟩, D3.out.below⟩
        · have HNA := Lib.hid (show ¬ AccD B from fun h => heq (strOf_congr (HAC.out.1 h).2))
          have HQ := Lib.hid fun W h1 h2 => equal_any g 0 sg so 1024 1024 c (dB d) B false W h1 h2 (baeq_ne heq)
          clear heq
          go_wp2_with fail
          refine (HQ.out _ HG.out D2.out.src).mono ?_
          rintro e w' ⟨rfl, rfl⟩
          go_wp2_with (first
            | ((with_reducible show wpList _ _ _ (⟨some 52, .build _ _, _, _, _, _⟩ :: _) _ _); refine wpList_build0 rfl 69 rfl (HBU.out _) ?_)
            | ((with_reducible show wpList _ _ _ (⟨none, .store _ _ _, _, _, _, _⟩ :: _) _ _); refine wpList_store_mid rfl 69 (.tmp 2) (.tmp 52) rfl b 0 (arr 19 (dcell D0)) (by simp [Act.eval, Act.put]) (by simp [Act.eval, Act.put]) (by rw [arr_size]; exact HT.out) (by rw [size69, arr_size]) HONE0.out ?_))
          have D3 := Lib.hid (D2.out.cells (Keeps.setCells _ (Keeps.refl (One b) w2) 0) (rowIs_store D2.out.dat (g := dcell D0)))
          exact bodyPost_ret (results69 rfl _ _ b D0 _ D3.out.dat rfl rfl) rfl ⟨.inr ⟨HNA.out, rfl⟩, D3.out.below⟩
end Go.Proofs.Ytchkipafjnehfaa
