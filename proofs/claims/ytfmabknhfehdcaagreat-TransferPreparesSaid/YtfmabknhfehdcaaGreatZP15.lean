/- sgl: read: the descriptor at an address. -/
import Derived.Test.YtfmabknhfehdcaaGreatZP14
import Derived.Test.YtfmabknhfehdcaaGreatZP11
namespace Go.Proofs.YtfmabknhfehdcaaGreat
set_option linter.unusedSimpArgs false
set_option linter.unusedVariables false
open Go.RowKit
theorem sle_lo (F : Nat → Int) : le F 0 8 = hz F 7 8 := by simp [le, hz]; omega
theorem le_hi (F : Nat → Int) : le F 8 8 = hiW F := by rw [hiW_eq]; simp [le]; omega
theorem decD_ok (x0 x1 : Int) (h0 : 0 ≤ x0 ∧ x0 ≤ 18446744073709551615) (h1 : 0 ≤ x1 ∧ x1 ≤ 18446744073709551615) : (decD x0 x1).Ok := by
 unfold decD
 split
 ·exact ⟨by show -9223372036854775808 ≤ (0 : Int) ∧ (0 : Int) ≤ _; omega, by show (0 : Int) ≤ 0 ∧ (0 : Int) ≤ _; omega, by show -9223372036854775808 ≤ (0 : Int) ∧ (0 : Int) ≤ _; omega, by show (0 : Int) ≤ 0 ∧ (0 : Int) ≤ _; omega⟩
 ·rename_i he
  unfold decE at he
  split at he
  ·exact absurd rfl he
  ·rename_i hc
   split
   ·exact ⟨by simp only []; omega, h0, by simp only []; omega, by simp only []; omega⟩
   ·exact ⟨by simp only []; omega, h0, by simp only []; omega, by simp only []; omega⟩
set_option maxRecDepth 100000 in
set_option maxHeartbeats 4000000 in
theorem rd_ok (wb b B size : Nat) (f : Nat → Int) (L : List (Nat × Nat)) (at' : Nat) (W : World) (hM : MemAt W b B size f L) (h0 : W.cell? ⟨wb, 0, none⟩ = some (.pointer (some ⟨b, 0, none⟩))) (hf : Bytes fun i => f (at' + i)) (hs : at' + 16 ≤ size)
  (d : Dsc) (no : Int) (D : Array Value) (hd : decD (hz (fun i => f (at' + i)) 7 8) (hiW fun i => f (at' + i)) = d) (hD : D = d.cells) (hno : decE (hiW fun i => f (at' + i)) = no) (hn0 : no = 0) (hv : vldD d = true) :
  Calls Tryz.prog 100 #[.pointer (some ⟨wb, 0, none⟩), .int .u64 (at' : Nat)] W fun e W' => e = .returned (.agg D) ∧ Below W.heap.size W W' := by
 have hsm := hM.small
 have hwl := World.block_lt_of_cell? _ _ h0
 simp only [] at hwl
 obtain ⟨W1, hW1, hb1, ha1, hs1⟩ : ∃ W1, W1 = W.alloc (.cells (dA 0 0 0 0) 72) ∧ Below W.heap.size W W1 ∧ ArrAt W1 W.heap.size (dA 0 0 0 0) ∧ W1.heap.size = W.heap.size + 1 := box_start zDsc W
 have c0 := (hb1.cell (p := ⟨wb, 0, none⟩) hwl).trans h0
 have HRD := Lib.hid (read_ok b B size f L at' 16 W1 (hM.below hb1) hs)
 have HA := Lib.hid ha1
 have HB1 := Lib.hid hb1
 have HW1 := Lib.hid hW1
 have hz1 : W.heap.size < W1.heap.size := by omega
 obtain ⟨F, hF⟩ : ∃ F, F = fun i => f (at' + i) := ⟨_, rfl⟩
 rw [← hF] at HRD hf hd hno
 have HF := Lib.hid hf
 obtain ⟨x0, hx0⟩ : ∃ x, x = hz F 7 8 := ⟨_, rfl⟩
 obtain ⟨x1, hx1⟩ : ∃ x, x = hiW F := ⟨_, rfl⟩
 have b0 := loW_bd hf
 have b1 := hiW_bd hf
 rw [← hx0] at hd b0
 rw [← hx1] at hd hno b1
 have HX0 : Hid (∀ g c w, Six w g 0 F → Calls Tryz.prog 106 #[.slice (some ⟨g, 0, none⟩) 8 c] w fun e w' => e = .returned (.tuple #[.int .u64 x0, .int .i64 0]) ∧ Below w.heap.size w w') := Lib.hid fun g c w h6 => by
  have := get_ok g 0 8 c F w HF.out (by omega) (by omega) (fun j hj => by simpa using h6 j (by omega))
  rw [sle_lo, ← hx0] at this
  exact this.mono fun e w' k => ⟨k.1, by rw [← k.2]; exact Below.refl _ _⟩
 have HX1 : Hid (∀ g c w, Six w g 0 F → Calls Tryz.prog 106 #[.slice (some ⟨g, 8, none⟩) 8 c] w fun e w' => e = .returned (.tuple #[.int .u64 x1, .int .i64 0]) ∧ Below w.heap.size w w') := Lib.hid fun g c w h6 => by
  have := get_ok g 8 8 c F w HF.out (by omega) (by omega) (fun j hj => by have := h6 (8 + j) (by omega); rw [Nat.zero_add] at this; exact this)
  rw [le_hi, ← hx1] at this
  exact this.mono fun e w' k => ⟨k.1, by rw [← k.2]; exact Below.refl _ _⟩
 have HGU : Hid (∀ (v : Value) w, Calls Tryz.prog 105 #[v, .int .i64 0] w fun e w' => e = .returned v ∧ Below w.heap.size w w') := Lib.hid fun v w => (got_u64 v w).mono fun e w' k => ⟨k.1, by rw [← k.2]; exact Below.refl _ _⟩
 have HDE : Hid (∀ w, Calls Tryz.prog 88 #[.agg #[.int .u64 x0, .int .u64 x1]] w fun e w' => e = .returned (.tuple #[.agg D, .int .i64 no]) ∧ Below w.heap.size w w') := Lib.hid fun w => by
  have := decode_any x0 x1 w b1.1 b1.2
  rw [hd, hno, ← hD] at this
  exact this
 have hdok : d.Ok := by rw [← hd]; exact decD_ok x0 x1 b0 b1
 have HD4 := Lib.hid (show D.size = 4 by rw [hD]; rfl)
 have HSZ := Lib.hid (show (Tryz.prog.info? 72).map (·.size) = some D.size by rw [hD]; exact sizeD)
 have HD1 := Lib.hid (show D.all (·.oneCell') = true by rw [hD]; exact d.one)
 have HGD : Hid (∀ w, Calls Tryz.prog 104 #[.agg D, .int .i64 0] w fun e w' => e = .returned (.agg D) ∧ Below w.heap.size w w') := Lib.hid fun w => by rw [hD]; exact got_dsc d w
 have HVA : Hid (∀ w, Calls Tryz.prog 63 #[.agg D] w fun e w' => e = .returned (.bool true) ∧ Below w.heap.size w w') := Lib.hid fun w => by rw [hD]; exact svalid_any d true hv w hdok
 clear hM h0 hf hs hsm hW1 hb1 ha1 hs1 hF hx0 hx1 b0 b1 hd hno hdok hD
 subst hn0
 clear hv
 go_enter Tryz.func100, Tryz.ntmps100
 go_upto_region 1 with ((with_reducible show wpList _ _ _ (⟨some 4, _, _, _, _, _⟩ :: _) _ _); refine wpList_alloc rfl 72 rfl zeroD ?_; rw [show (Value.agg zDsc.cells).cells = dA 0 0 0 0 from rfl])
 rw [show W.alloc (.cells (dA 0 0 0 0) 72) = W1 from HW1.out.symm]
 try simp only [Act.put, List.setIfInBounds_toArray, List.set_cons_succ, List.set_cons_zero]
 go_upto_region 2 with (first
  | (go_at_call 15; refine HRD.out.mono ?_; rintro e w2 ⟨v, rfl, ⟨g, cap, G, rfl, hg, hr, hc1, hc2, hG⟩, hb2⟩)
  | (go_at_call 61; refine (got_bytes _ _).mono ?_; rintro e w3 ⟨rfl, rfl⟩))
 have S0 := Lib.hid (show Six w2 g 0 F from fun i hi => by rw [Nat.zero_add, hr.cell (by omega), hG i hi])
 have A2 := Lib.hid (HA.out.below hb2)
 have B2 := Lib.hid (HB1.out.trans (hb2.mono (by omega)))
 have hz2 := hb2.size
 have hc3 : (16 : Int) ≤ (cap : Int) := by omega
 have hc4 : (8 : Int) ≤ (cap : Int) := by omega
 have hc5 : (cap : Int) ≤ 9223372036854775807 := by omega
 have hc6 : ((cap : Int) - 8).toNat = cap - 8 := by omega
 have hc7 : ¬ cap = 8 := by omega
 clear hr hG hb2 c0 HRD HA HB1 HW1
 go_cut [5, 6] from 16 to 32 (fun _ p wc => ∃ lb, p = .pointer (some ⟨lb, 0, none⟩) ∧ W.heap.size < lb ∧ ArrAt wc lb D ∧ Below w2.heap.size w2 wc)
 case first =>
  refine wp_region_held_drew (S := fun w' => Below w2.heap.size w2 w') (by kernel_rfl) (Below.refl _ _).drew (fun hS0 => ?_)
  refine takeD 16 (i := 0) (v := .slice (some ⟨g, 0, none⟩) 16 cap) rfl rfl (by kernel_rfl) (by kernel_rfl) (by kernel_rfl) (fun _ _ _ h => h) (Or.inl ⟨by rfl, by (intro w' _; go_simp)⟩) (by assumption) ?_
  try simp only [Act.put, List.setIfInBounds_toArray, List.set_cons_zero, List.set_cons_succ]
  refine takeD 17 (i := 1) (v := .slice (some ⟨g, 0, none⟩) 8 8) rfl rfl (by kernel_rfl) (by kernel_rfl) (by kernel_rfl) (fun _ _ _ h => h) (Or.inl ⟨by rfl, by (intro w' _; go_simp)⟩) (by assumption) ?_
  try simp only [Act.put, List.setIfInBounds_toArray, List.set_cons_zero, List.set_cons_succ]
  refine takeD 22 (i := 6) (v := .slice (some ⟨g, 0, none⟩) 16 cap) rfl rfl (by kernel_rfl) (by kernel_rfl) (by kernel_rfl) (fun _ _ _ h => h) (Or.inl ⟨by rfl, by (intro w' _; go_simp)⟩) (by assumption) ?_
  try simp only [Act.put, List.setIfInBounds_toArray, List.set_cons_zero, List.set_cons_succ]
  refine takeD 23 (i := 7) (v := .slice (some ⟨g, 8, none⟩) 8 (cap - 8)) rfl rfl (by kernel_rfl) (by kernel_rfl) (by kernel_rfl) (fun _ _ _ h => h) (Or.inl ⟨by rfl, by (intro w' _; go_simp)⟩) (by assumption) ?_
  try simp only [Act.put, List.setIfInBounds_toArray, List.set_cons_zero, List.set_cons_succ]
  refine wpAnyH_ready (rs := [2, 17]) (by kernel_rfl) (by simp) (AllReadyH.cons rfl (fun K hK => ?_) (AllReadyH.cons rfl (fun K hK => ?_) AllReadyH.nil))
  ·rw [if_pos (by rfl)]
   go_simp
   refine (HX0.out _ _ _ (S0.out.below hS0)).mono ?_
   rintro e wp ⟨rfl, hb⟩
   have hSN : Below w2.heap.size w2 wp := hS0.trans (hb.mono hS0.size)
   refine hK.out _ _ hSN (fun hS0 => ?_)
   clear hK K hb hSN
   try simp only [Act.put, List.setIfInBounds_toArray, List.set_cons_zero, List.set_cons_succ]
   refine takeD 19 (i := 3) (v := .int .u64 x0) rfl rfl (by kernel_rfl) (by kernel_rfl) (by kernel_rfl) (fun _ _ _ h => h) (Or.inl ⟨by rfl, by (intro w' _; go_simp)⟩) (by assumption) ?_
   try simp only [Act.put, List.setIfInBounds_toArray, List.set_cons_zero, List.set_cons_succ]
   refine takeD 20 (i := 4) (v := .int .i64 0) rfl rfl (by kernel_rfl) (by kernel_rfl) (by kernel_rfl) (fun _ _ _ h => h) (Or.inl ⟨by rfl, by (intro w' _; go_simp)⟩) (by assumption) ?_
   try simp only [Act.put, List.setIfInBounds_toArray, List.set_cons_zero, List.set_cons_succ]
   refine wpAnyH_ready (rs := [5, 17]) (by kernel_rfl) (by simp) (AllReadyH.cons rfl (fun K hK => ?_) (AllReadyH.cons rfl (fun K hK => ?_) AllReadyH.nil))
   ·rw [if_pos (by rfl)]
    go_simp
    refine (HGU.out _ _).mono ?_
    rintro e wpq ⟨rfl, hb⟩
    have hSN : Below w2.heap.size w2 wpq := hS0.trans (hb.mono hS0.size)
    refine hK.out _ _ hSN (fun hS0 => ?_)
    clear hK K hb hSN
    try simp only [Act.put, List.setIfInBounds_toArray, List.set_cons_zero, List.set_cons_succ]
    refine wpAnyH_ready (rs := [8, 17]) (by kernel_rfl) (by simp) (AllReadyH.cons rfl (fun K hK => ?_) (AllReadyH.cons rfl (fun K hK => ?_) AllReadyH.nil))
    ·rw [if_pos (by rfl)]
     go_simp
     refine (HX1.out _ _ _ (S0.out.below hS0)).mono ?_
     rintro e wpqr ⟨rfl, hb⟩
     have hSN : Below w2.heap.size w2 wpqr := hS0.trans (hb.mono hS0.size)
     refine hK.out _ _ hSN (fun hS0 => ?_)
     clear hK K hb hSN
     try simp only [Act.put, List.setIfInBounds_toArray, List.set_cons_zero, List.set_cons_succ]
     refine takeD 25 (i := 9) (v := .int .u64 x1) rfl rfl (by kernel_rfl) (by kernel_rfl) (by kernel_rfl) (fun _ _ _ h => h) (Or.inl ⟨by rfl, by (intro w' _; go_simp)⟩) (by assumption) ?_
     try simp only [Act.put, List.setIfInBounds_toArray, List.set_cons_zero, List.set_cons_succ]
     refine takeD 26 (i := 10) (v := .int .i64 0) rfl rfl (by kernel_rfl) (by kernel_rfl) (by kernel_rfl) (fun _ _ _ h => h) (Or.inl ⟨by rfl, by (intro w' _; go_simp)⟩) (by assumption) ?_
     try simp only [Act.put, List.setIfInBounds_toArray, List.set_cons_zero, List.set_cons_succ]
     refine wpAnyH_ready (rs := [11, 17]) (by kernel_rfl) (by simp) (AllReadyH.cons rfl (fun K hK => ?_) (AllReadyH.cons rfl (fun K hK => ?_) AllReadyH.nil))
     ·rw [if_pos (by rfl)]
      go_simp
      refine (HGU.out _ _).mono ?_
      rintro e wpqrs ⟨rfl, hb⟩
      have hSN : Below w2.heap.size w2 wpqrs := hS0.trans (hb.mono hS0.size)
      refine hK.out _ _ hSN (fun hS0 => ?_)
      clear hK K hb hSN
      try simp only [Act.put, List.setIfInBounds_toArray, List.set_cons_zero, List.set_cons_succ]
      refine takeD 28 (i := 12) (v := .agg #[.int .u64 x0, .int .u64 x1]) rfl rfl (by kernel_rfl) (by kernel_rfl) (by kernel_rfl) (fun _ _ _ h => h) (Or.inl ⟨by rfl, by (intro w' _; go_simp)⟩) (by assumption) ?_
      try simp only [Act.put, List.setIfInBounds_toArray, List.set_cons_zero, List.set_cons_succ]
      refine wpAnyH_ready (rs := [13, 17]) (by kernel_rfl) (by simp) (AllReadyH.cons rfl (fun K hK => ?_) (AllReadyH.cons rfl (fun K hK => ?_) AllReadyH.nil))
      ·rw [if_pos (by rfl)]
       go_simp
       refine (HDE.out _).mono ?_
       rintro e wpqrst ⟨rfl, hb⟩
       have hSN : Below w2.heap.size w2 wpqrst := hS0.trans (hb.mono hS0.size)
       refine hK.out _ _ hSN (fun hS0 => ?_)
       clear hK K hb hSN
       try simp only [Act.put, List.setIfInBounds_toArray, List.set_cons_zero, List.set_cons_succ]
       refine takeD 30 (i := 14) (v := .agg D) rfl rfl (by kernel_rfl) (by kernel_rfl) (by kernel_rfl) (fun _ _ _ h => h) (Or.inl ⟨by rfl, by (intro w' _; go_simp)⟩) (by assumption) ?_
       try simp only [Act.put, List.setIfInBounds_toArray, List.set_cons_zero, List.set_cons_succ]
       refine takeD 31 (i := 15) (v := .int .i64 0) rfl rfl (by kernel_rfl) (by kernel_rfl) (by kernel_rfl) (fun _ _ _ h => h) (Or.inl ⟨by rfl, by (intro w' _; go_simp)⟩) (by assumption) ?_
       try simp only [Act.put, List.setIfInBounds_toArray, List.set_cons_zero, List.set_cons_succ]
       refine wpAnyH_ready (rs := [16, 17]) (by kernel_rfl) (by simp) (AllReadyH.cons rfl (fun K hK => ?_) (AllReadyH.cons rfl (fun K hK => ?_) AllReadyH.nil))
       ·rw [if_pos (by rfl)]
        go_simp
        refine (HGD.out _).mono ?_
        rintro e wpqrstu ⟨rfl, hb⟩
        have hSN : Below w2.heap.size w2 wpqrstu := hS0.trans (hb.mono hS0.size)
        refine hK.out _ _ hSN (fun hS0 => ?_)
        clear hK K hb hSN
        try simp only [Act.put, List.setIfInBounds_toArray, List.set_cons_zero, List.set_cons_succ]
        refine wpAnyH_ready (rs := [17]) (by kernel_rfl) (by simp) (AllReadyH.cons rfl (fun K hK => ?_) AllReadyH.nil)
        ·rw [if_pos (by rfl)]
         refine wp_allocN 72 6 rfl rfl zeroD (A := zDsc.cells) rfl ?_
         obtain ⟨wpqrstua, hw⟩ : ∃ x, x = (wpqrstu).alloc (.cells zDsc.cells 72) := ⟨_, rfl⟩
         rw [← hw]
         have hb : Below (wpqrstu).heap.size (wpqrstu) wpqrstua := by rw [hw]; exact (Below.refl _ _).alloc (Nat.le_refl _) _
         have ADpqrstua := Lib.hid (show ArrAt wpqrstua (wpqrstu).heap.size zDsc.cells by rw [hw]; exact (fun w => ArrAt.fresh w zDsc.cells 72 (by decide)) _)
         obtain ⟨lb, hbk⟩ : ∃ x, x = (wpqrstu).heap.size := ⟨_, rfl⟩
         rw [← hbk] at ADpqrstua
         have hlolb : w2.heap.size ≤ lb := by rw [hbk]; exact hS0.size
         have hhilb : lb < wpqrstua.heap.size := ADpqrstua.out.lt
         have hSN : Below w2.heap.size w2 wpqrstua := hS0.trans (hb.mono hS0.size)
         rw [← hbk]
         clear hw hbk
         refine hK.out _ _ hSN (fun hS0 => ?_)
         clear hK K hb hSN
         try simp only [Act.put, List.setIfInBounds_toArray, List.set_cons_zero, List.set_cons_succ]
         refine wpAnyH_ready (rs := [18]) (by kernel_rfl) (by simp) (AllReadyH.cons rfl (fun K hK => ?_) AllReadyH.nil)
         rw [if_pos (by rfl)]
         refine wp_storeN 72 (.tmp 6) (.tmp 32) rfl rfl (lb) 0 D (by first | rfl | simp [Act.eval, Act.put]) (by first | rfl | simp [Act.eval, Act.put]) (by rw [HD4.out]; exact ADpqrstua.out.th) HSZ.out HD1.out ?_
         refine hK.out _ _ (bstore hS0 _ hlolb _ _) (fun hS0 => ?_)
         clear hK K
         try simp only [Act.put, List.setIfInBounds_toArray, List.set_cons_zero, List.set_cons_succ]
         refine wpAnyH_done (by kernel_rfl) ?_ _
         go_wp2_with fail
         go_meet
         exact ⟨_, rfl, by omega, ADpqrstua.out.store D HD4.out, hS0⟩
       ·rw [if_pos (by rfl)]
        refine wp_allocN 72 6 rfl rfl zeroD (A := zDsc.cells) rfl ?_
        obtain ⟨wpqrsta, hw⟩ : ∃ x, x = (wpqrst).alloc (.cells zDsc.cells 72) := ⟨_, rfl⟩
        rw [← hw]
        have hb : Below (wpqrst).heap.size (wpqrst) wpqrsta := by rw [hw]; exact (Below.refl _ _).alloc (Nat.le_refl _) _
        have ADpqrsta := Lib.hid (show ArrAt wpqrsta (wpqrst).heap.size zDsc.cells by rw [hw]; exact (fun w => ArrAt.fresh w zDsc.cells 72 (by decide)) _)
        obtain ⟨lb, hbk⟩ : ∃ x, x = (wpqrst).heap.size := ⟨_, rfl⟩
        rw [← hbk] at ADpqrsta
        have hlolb : w2.heap.size ≤ lb := by rw [hbk]; exact hS0.size
        have hhilb : lb < wpqrsta.heap.size := ADpqrsta.out.lt
        have hSN : Below w2.heap.size w2 wpqrsta := hS0.trans (hb.mono hS0.size)
        rw [← hbk]
        clear hw hbk
        refine hK.out _ _ hSN (fun hS0 => ?_)
        clear hK K hb hSN
        try simp only [Act.put, List.setIfInBounds_toArray, List.set_cons_zero, List.set_cons_succ]
        refine wpAnyH_ready (rs := [16]) (by kernel_rfl) (by simp) (AllReadyH.cons rfl (fun K hK => ?_) AllReadyH.nil)
        ·rw [if_pos (by rfl)]
         go_simp
         refine (HGD.out _).mono ?_
         rintro e wpqrstau ⟨rfl, hb⟩
         have hSN : Below w2.heap.size w2 wpqrstau := hS0.trans (hb.mono hS0.size)
         have ADpqrstau := Lib.hid (ADpqrsta.out.below hb)
         have hhilb : lb < wpqrstau.heap.size := Nat.lt_of_lt_of_le hhilb hb.size
         refine hK.out _ _ hSN (fun hS0 => ?_)
         clear hK K hb hSN
         try simp only [Act.put, List.setIfInBounds_toArray, List.set_cons_zero, List.set_cons_succ]
         refine wpAnyH_ready (rs := [18]) (by kernel_rfl) (by simp) (AllReadyH.cons rfl (fun K hK => ?_) AllReadyH.nil)
         rw [if_pos (by rfl)]
         refine wp_storeN 72 (.tmp 6) (.tmp 32) rfl rfl (lb) 0 D (by first | rfl | simp [Act.eval, Act.put]) (by first | rfl | simp [Act.eval, Act.put]) (by rw [HD4.out]; exact ADpqrstau.out.th) HSZ.out HD1.out ?_
         refine hK.out _ _ (bstore hS0 _ hlolb _ _) (fun hS0 => ?_)
         clear hK K
         try simp only [Act.put, List.setIfInBounds_toArray, List.set_cons_zero, List.set_cons_succ]
         refine wpAnyH_done (by kernel_rfl) ?_ _
         go_wp2_with fail
         go_meet
         exact ⟨_, rfl, by omega, ADpqrstau.out.store D HD4.out, hS0⟩
      ·rw [if_pos (by rfl)]
       refine wp_allocN 72 6 rfl rfl zeroD (A := zDsc.cells) rfl ?_
       obtain ⟨wpqrsa, hw⟩ : ∃ x, x = (wpqrs).alloc (.cells zDsc.cells 72) := ⟨_, rfl⟩
       rw [← hw]
       have hb : Below (wpqrs).heap.size (wpqrs) wpqrsa := by rw [hw]; exact (Below.refl _ _).alloc (Nat.le_refl _) _
       have ADpqrsa := Lib.hid (show ArrAt wpqrsa (wpqrs).heap.size zDsc.cells by rw [hw]; exact (fun w => ArrAt.fresh w zDsc.cells 72 (by decide)) _)
       obtain ⟨lb, hbk⟩ : ∃ x, x = (wpqrs).heap.size := ⟨_, rfl⟩
       rw [← hbk] at ADpqrsa
       have hlolb : w2.heap.size ≤ lb := by rw [hbk]; exact hS0.size
       have hhilb : lb < wpqrsa.heap.size := ADpqrsa.out.lt
       have hSN : Below w2.heap.size w2 wpqrsa := hS0.trans (hb.mono hS0.size)
       rw [← hbk]
       clear hw hbk
       refine hK.out _ _ hSN (fun hS0 => ?_)
       clear hK K hb hSN
       try simp only [Act.put, List.setIfInBounds_toArray, List.set_cons_zero, List.set_cons_succ]
       refine wpAnyH_ready (rs := [13]) (by kernel_rfl) (by simp) (AllReadyH.cons rfl (fun K hK => ?_) AllReadyH.nil)
       ·rw [if_pos (by rfl)]
        go_simp
        refine (HDE.out _).mono ?_
        rintro e wpqrsat ⟨rfl, hb⟩
        have hSN : Below w2.heap.size w2 wpqrsat := hS0.trans (hb.mono hS0.size)
        have ADpqrsat := Lib.hid (ADpqrsa.out.below hb)
        have hhilb : lb < wpqrsat.heap.size := Nat.lt_of_lt_of_le hhilb hb.size
        refine hK.out _ _ hSN (fun hS0 => ?_)
        clear hK K hb hSN
        try simp only [Act.put, List.setIfInBounds_toArray, List.set_cons_zero, List.set_cons_succ]
        refine takeD 30 (i := 14) (v := .agg D) rfl rfl (by kernel_rfl) (by kernel_rfl) (by kernel_rfl) (fun _ _ _ h => h) (Or.inl ⟨by rfl, by (intro w' _; go_simp)⟩) (by assumption) ?_
        try simp only [Act.put, List.setIfInBounds_toArray, List.set_cons_zero, List.set_cons_succ]
        refine takeD 31 (i := 15) (v := .int .i64 0) rfl rfl (by kernel_rfl) (by kernel_rfl) (by kernel_rfl) (fun _ _ _ h => h) (Or.inl ⟨by rfl, by (intro w' _; go_simp)⟩) (by assumption) ?_
        try simp only [Act.put, List.setIfInBounds_toArray, List.set_cons_zero, List.set_cons_succ]
        refine wpAnyH_ready (rs := [16]) (by kernel_rfl) (by simp) (AllReadyH.cons rfl (fun K hK => ?_) AllReadyH.nil)
        ·rw [if_pos (by rfl)]
         go_simp
         refine (HGD.out _).mono ?_
         rintro e wpqrsatu ⟨rfl, hb⟩
         have hSN : Below w2.heap.size w2 wpqrsatu := hS0.trans (hb.mono hS0.size)
         have ADpqrsatu := Lib.hid (ADpqrsat.out.below hb)
         have hhilb : lb < wpqrsatu.heap.size := Nat.lt_of_lt_of_le hhilb hb.size
         refine hK.out _ _ hSN (fun hS0 => ?_)
         clear hK K hb hSN
         try simp only [Act.put, List.setIfInBounds_toArray, List.set_cons_zero, List.set_cons_succ]
         refine wpAnyH_ready (rs := [18]) (by kernel_rfl) (by simp) (AllReadyH.cons rfl (fun K hK => ?_) AllReadyH.nil)
         rw [if_pos (by rfl)]
         refine wp_storeN 72 (.tmp 6) (.tmp 32) rfl rfl (lb) 0 D (by first | rfl | simp [Act.eval, Act.put]) (by first | rfl | simp [Act.eval, Act.put]) (by rw [HD4.out]; exact ADpqrsatu.out.th) HSZ.out HD1.out ?_
         refine hK.out _ _ (bstore hS0 _ hlolb _ _) (fun hS0 => ?_)
         clear hK K
         try simp only [Act.put, List.setIfInBounds_toArray, List.set_cons_zero, List.set_cons_succ]
         refine wpAnyH_done (by kernel_rfl) ?_ _
         go_wp2_with fail
         go_meet
         exact ⟨_, rfl, by omega, ADpqrsatu.out.store D HD4.out, hS0⟩
     ·rw [if_pos (by rfl)]
      refine wp_allocN 72 6 rfl rfl zeroD (A := zDsc.cells) rfl ?_
      obtain ⟨wpqra, hw⟩ : ∃ x, x = (wpqr).alloc (.cells zDsc.cells 72) := ⟨_, rfl⟩
      rw [← hw]
      have hb : Below (wpqr).heap.size (wpqr) wpqra := by rw [hw]; exact (Below.refl _ _).alloc (Nat.le_refl _) _
      have ADpqra := Lib.hid (show ArrAt wpqra (wpqr).heap.size zDsc.cells by rw [hw]; exact (fun w => ArrAt.fresh w zDsc.cells 72 (by decide)) _)
      obtain ⟨lb, hbk⟩ : ∃ x, x = (wpqr).heap.size := ⟨_, rfl⟩
      rw [← hbk] at ADpqra
      have hlolb : w2.heap.size ≤ lb := by rw [hbk]; exact hS0.size
      have hhilb : lb < wpqra.heap.size := ADpqra.out.lt
      have hSN : Below w2.heap.size w2 wpqra := hS0.trans (hb.mono hS0.size)
      rw [← hbk]
      clear hw hbk
      refine hK.out _ _ hSN (fun hS0 => ?_)
      clear hK K hb hSN
      try simp only [Act.put, List.setIfInBounds_toArray, List.set_cons_zero, List.set_cons_succ]
      refine wpAnyH_ready (rs := [11]) (by kernel_rfl) (by simp) (AllReadyH.cons rfl (fun K hK => ?_) AllReadyH.nil)
      ·rw [if_pos (by rfl)]
       go_simp
       refine (HGU.out _ _).mono ?_
       rintro e wpqras ⟨rfl, hb⟩
       have hSN : Below w2.heap.size w2 wpqras := hS0.trans (hb.mono hS0.size)
       have ADpqras := Lib.hid (ADpqra.out.below hb)
       have hhilb : lb < wpqras.heap.size := Nat.lt_of_lt_of_le hhilb hb.size
       refine hK.out _ _ hSN (fun hS0 => ?_)
       clear hK K hb hSN
       try simp only [Act.put, List.setIfInBounds_toArray, List.set_cons_zero, List.set_cons_succ]
       refine takeD 28 (i := 12) (v := .agg #[.int .u64 x0, .int .u64 x1]) rfl rfl (by kernel_rfl) (by kernel_rfl) (by kernel_rfl) (fun _ _ _ h => h) (Or.inl ⟨by rfl, by (intro w' _; go_simp)⟩) (by assumption) ?_
       try simp only [Act.put, List.setIfInBounds_toArray, List.set_cons_zero, List.set_cons_succ]
       refine wpAnyH_ready (rs := [13]) (by kernel_rfl) (by simp) (AllReadyH.cons rfl (fun K hK => ?_) AllReadyH.nil)
       ·rw [if_pos (by rfl)]
        go_simp
        refine (HDE.out _).mono ?_
        rintro e wpqrast ⟨rfl, hb⟩
        have hSN : Below w2.heap.size w2 wpqrast := hS0.trans (hb.mono hS0.size)
        have ADpqrast := Lib.hid (ADpqras.out.below hb)
        have hhilb : lb < wpqrast.heap.size := Nat.lt_of_lt_of_le hhilb hb.size
        refine hK.out _ _ hSN (fun hS0 => ?_)
        clear hK K hb hSN
        try simp only [Act.put, List.setIfInBounds_toArray, List.set_cons_zero, List.set_cons_succ]
        refine takeD 30 (i := 14) (v := .agg D) rfl rfl (by kernel_rfl) (by kernel_rfl) (by kernel_rfl) (fun _ _ _ h => h) (Or.inl ⟨by rfl, by (intro w' _; go_simp)⟩) (by assumption) ?_
        try simp only [Act.put, List.setIfInBounds_toArray, List.set_cons_zero, List.set_cons_succ]
        refine takeD 31 (i := 15) (v := .int .i64 0) rfl rfl (by kernel_rfl) (by kernel_rfl) (by kernel_rfl) (fun _ _ _ h => h) (Or.inl ⟨by rfl, by (intro w' _; go_simp)⟩) (by assumption) ?_
        try simp only [Act.put, List.setIfInBounds_toArray, List.set_cons_zero, List.set_cons_succ]
        refine wpAnyH_ready (rs := [16]) (by kernel_rfl) (by simp) (AllReadyH.cons rfl (fun K hK => ?_) AllReadyH.nil)
        ·rw [if_pos (by rfl)]
         go_simp
         refine (HGD.out _).mono ?_
         rintro e wpqrastu ⟨rfl, hb⟩
         have hSN : Below w2.heap.size w2 wpqrastu := hS0.trans (hb.mono hS0.size)
         have ADpqrastu := Lib.hid (ADpqrast.out.below hb)
         have hhilb : lb < wpqrastu.heap.size := Nat.lt_of_lt_of_le hhilb hb.size
         refine hK.out _ _ hSN (fun hS0 => ?_)
         clear hK K hb hSN
         try simp only [Act.put, List.setIfInBounds_toArray, List.set_cons_zero, List.set_cons_succ]
         refine wpAnyH_ready (rs := [18]) (by kernel_rfl) (by simp) (AllReadyH.cons rfl (fun K hK => ?_) AllReadyH.nil)
         rw [if_pos (by rfl)]
         refine wp_storeN 72 (.tmp 6) (.tmp 32) rfl rfl (lb) 0 D (by first | rfl | simp [Act.eval, Act.put]) (by first | rfl | simp [Act.eval, Act.put]) (by rw [HD4.out]; exact ADpqrastu.out.th) HSZ.out HD1.out ?_
         refine hK.out _ _ (bstore hS0 _ hlolb _ _) (fun hS0 => ?_)
         clear hK K
         try simp only [Act.put, List.setIfInBounds_toArray, List.set_cons_zero, List.set_cons_succ]
         refine wpAnyH_done (by kernel_rfl) ?_ _
         go_wp2_with fail
         go_meet
         exact ⟨_, rfl, by omega, ADpqrastu.out.store D HD4.out, hS0⟩
    ·rw [if_pos (by rfl)]
     refine wp_allocN 72 6 rfl rfl zeroD (A := zDsc.cells) rfl ?_
     obtain ⟨wpqa, hw⟩ : ∃ x, x = (wpq).alloc (.cells zDsc.cells 72) := ⟨_, rfl⟩
     rw [← hw]
     have hb : Below (wpq).heap.size (wpq) wpqa := by rw [hw]; exact (Below.refl _ _).alloc (Nat.le_refl _) _
     have ADpqa := Lib.hid (show ArrAt wpqa (wpq).heap.size zDsc.cells by rw [hw]; exact (fun w => ArrAt.fresh w zDsc.cells 72 (by decide)) _)
     obtain ⟨lb, hbk⟩ : ∃ x, x = (wpq).heap.size := ⟨_, rfl⟩
     rw [← hbk] at ADpqa
     have hlolb : w2.heap.size ≤ lb := by rw [hbk]; exact hS0.size
     have hhilb : lb < wpqa.heap.size := ADpqa.out.lt
     have hSN : Below w2.heap.size w2 wpqa := hS0.trans (hb.mono hS0.size)
     rw [← hbk]
     clear hw hbk
     refine hK.out _ _ hSN (fun hS0 => ?_)
     clear hK K hb hSN
     try simp only [Act.put, List.setIfInBounds_toArray, List.set_cons_zero, List.set_cons_succ]
     refine wpAnyH_ready (rs := [8]) (by kernel_rfl) (by simp) (AllReadyH.cons rfl (fun K hK => ?_) AllReadyH.nil)
     ·rw [if_pos (by rfl)]
      go_simp
      refine (HX1.out _ _ _ (S0.out.below hS0)).mono ?_
      rintro e wpqar ⟨rfl, hb⟩
      have hSN : Below w2.heap.size w2 wpqar := hS0.trans (hb.mono hS0.size)
      have ADpqar := Lib.hid (ADpqa.out.below hb)
      have hhilb : lb < wpqar.heap.size := Nat.lt_of_lt_of_le hhilb hb.size
      refine hK.out _ _ hSN (fun hS0 => ?_)
      clear hK K hb hSN
      try simp only [Act.put, List.setIfInBounds_toArray, List.set_cons_zero, List.set_cons_succ]
      refine takeD 25 (i := 9) (v := .int .u64 x1) rfl rfl (by kernel_rfl) (by kernel_rfl) (by kernel_rfl) (fun _ _ _ h => h) (Or.inl ⟨by rfl, by (intro w' _; go_simp)⟩) (by assumption) ?_
      try simp only [Act.put, List.setIfInBounds_toArray, List.set_cons_zero, List.set_cons_succ]
      refine takeD 26 (i := 10) (v := .int .i64 0) rfl rfl (by kernel_rfl) (by kernel_rfl) (by kernel_rfl) (fun _ _ _ h => h) (Or.inl ⟨by rfl, by (intro w' _; go_simp)⟩) (by assumption) ?_
      try simp only [Act.put, List.setIfInBounds_toArray, List.set_cons_zero, List.set_cons_succ]
      refine wpAnyH_ready (rs := [11]) (by kernel_rfl) (by simp) (AllReadyH.cons rfl (fun K hK => ?_) AllReadyH.nil)
      ·rw [if_pos (by rfl)]
       go_simp
       refine (HGU.out _ _).mono ?_
       rintro e wpqars ⟨rfl, hb⟩
       have hSN : Below w2.heap.size w2 wpqars := hS0.trans (hb.mono hS0.size)
       have ADpqars := Lib.hid (ADpqar.out.below hb)
       have hhilb : lb < wpqars.heap.size := Nat.lt_of_lt_of_le hhilb hb.size
       refine hK.out _ _ hSN (fun hS0 => ?_)
       clear hK K hb hSN
       try simp only [Act.put, List.setIfInBounds_toArray, List.set_cons_zero, List.set_cons_succ]
       refine takeD 28 (i := 12) (v := .agg #[.int .u64 x0, .int .u64 x1]) rfl rfl (by kernel_rfl) (by kernel_rfl) (by kernel_rfl) (fun _ _ _ h => h) (Or.inl ⟨by rfl, by (intro w' _; go_simp)⟩) (by assumption) ?_
       try simp only [Act.put, List.setIfInBounds_toArray, List.set_cons_zero, List.set_cons_succ]
       refine wpAnyH_ready (rs := [13]) (by kernel_rfl) (by simp) (AllReadyH.cons rfl (fun K hK => ?_) AllReadyH.nil)
       ·rw [if_pos (by rfl)]
        go_simp
        refine (HDE.out _).mono ?_
        rintro e wpqarst ⟨rfl, hb⟩
        have hSN : Below w2.heap.size w2 wpqarst := hS0.trans (hb.mono hS0.size)
        have ADpqarst := Lib.hid (ADpqars.out.below hb)
        have hhilb : lb < wpqarst.heap.size := Nat.lt_of_lt_of_le hhilb hb.size
        refine hK.out _ _ hSN (fun hS0 => ?_)
        clear hK K hb hSN
        try simp only [Act.put, List.setIfInBounds_toArray, List.set_cons_zero, List.set_cons_succ]
        refine takeD 30 (i := 14) (v := .agg D) rfl rfl (by kernel_rfl) (by kernel_rfl) (by kernel_rfl) (fun _ _ _ h => h) (Or.inl ⟨by rfl, by (intro w' _; go_simp)⟩) (by assumption) ?_
        try simp only [Act.put, List.setIfInBounds_toArray, List.set_cons_zero, List.set_cons_succ]
        refine takeD 31 (i := 15) (v := .int .i64 0) rfl rfl (by kernel_rfl) (by kernel_rfl) (by kernel_rfl) (fun _ _ _ h => h) (Or.inl ⟨by rfl, by (intro w' _; go_simp)⟩) (by assumption) ?_
        try simp only [Act.put, List.setIfInBounds_toArray, List.set_cons_zero, List.set_cons_succ]
        refine wpAnyH_ready (rs := [16]) (by kernel_rfl) (by simp) (AllReadyH.cons rfl (fun K hK => ?_) AllReadyH.nil)
        ·rw [if_pos (by rfl)]
         go_simp
         refine (HGD.out _).mono ?_
         rintro e wpqarstu ⟨rfl, hb⟩
         have hSN : Below w2.heap.size w2 wpqarstu := hS0.trans (hb.mono hS0.size)
         have ADpqarstu := Lib.hid (ADpqarst.out.below hb)
         have hhilb : lb < wpqarstu.heap.size := Nat.lt_of_lt_of_le hhilb hb.size
         refine hK.out _ _ hSN (fun hS0 => ?_)
         clear hK K hb hSN
         try simp only [Act.put, List.setIfInBounds_toArray, List.set_cons_zero, List.set_cons_succ]
         refine wpAnyH_ready (rs := [18]) (by kernel_rfl) (by simp) (AllReadyH.cons rfl (fun K hK => ?_) AllReadyH.nil)
         rw [if_pos (by rfl)]
         refine wp_storeN 72 (.tmp 6) (.tmp 32) rfl rfl (lb) 0 D (by first | rfl | simp [Act.eval, Act.put]) (by first | rfl | simp [Act.eval, Act.put]) (by rw [HD4.out]; exact ADpqarstu.out.th) HSZ.out HD1.out ?_
         refine hK.out _ _ (bstore hS0 _ hlolb _ _) (fun hS0 => ?_)
         clear hK K
         try simp only [Act.put, List.setIfInBounds_toArray, List.set_cons_zero, List.set_cons_succ]
         refine wpAnyH_done (by kernel_rfl) ?_ _
         go_wp2_with fail
         go_meet
         exact ⟨_, rfl, by omega, ADpqarstu.out.store D HD4.out, hS0⟩
   ·rw [if_pos (by rfl)]
    refine wp_allocN 72 6 rfl rfl zeroD (A := zDsc.cells) rfl ?_
    obtain ⟨wpa, hw⟩ : ∃ x, x = (wp).alloc (.cells zDsc.cells 72) := ⟨_, rfl⟩
    rw [← hw]
    have hb : Below (wp).heap.size (wp) wpa := by rw [hw]; exact (Below.refl _ _).alloc (Nat.le_refl _) _
    have ADpa := Lib.hid (show ArrAt wpa (wp).heap.size zDsc.cells by rw [hw]; exact (fun w => ArrAt.fresh w zDsc.cells 72 (by decide)) _)
    obtain ⟨lb, hbk⟩ : ∃ x, x = (wp).heap.size := ⟨_, rfl⟩
    rw [← hbk] at ADpa
    have hlolb : w2.heap.size ≤ lb := by rw [hbk]; exact hS0.size
    have hhilb : lb < wpa.heap.size := ADpa.out.lt
    have hSN : Below w2.heap.size w2 wpa := hS0.trans (hb.mono hS0.size)
    rw [← hbk]
    clear hw hbk
    refine hK.out _ _ hSN (fun hS0 => ?_)
    clear hK K hb hSN
    try simp only [Act.put, List.setIfInBounds_toArray, List.set_cons_zero, List.set_cons_succ]
    refine wpAnyH_ready (rs := [5]) (by kernel_rfl) (by simp) (AllReadyH.cons rfl (fun K hK => ?_) AllReadyH.nil)
    ·rw [if_pos (by rfl)]
     go_simp
     refine (HGU.out _ _).mono ?_
     rintro e wpaq ⟨rfl, hb⟩
     have hSN : Below w2.heap.size w2 wpaq := hS0.trans (hb.mono hS0.size)
     have ADpaq := Lib.hid (ADpa.out.below hb)
     have hhilb : lb < wpaq.heap.size := Nat.lt_of_lt_of_le hhilb hb.size
     refine hK.out _ _ hSN (fun hS0 => ?_)
     clear hK K hb hSN
     try simp only [Act.put, List.setIfInBounds_toArray, List.set_cons_zero, List.set_cons_succ]
     refine wpAnyH_ready (rs := [8]) (by kernel_rfl) (by simp) (AllReadyH.cons rfl (fun K hK => ?_) AllReadyH.nil)
     ·rw [if_pos (by rfl)]
      go_simp
      refine (HX1.out _ _ _ (S0.out.below hS0)).mono ?_
      rintro e wpaqr ⟨rfl, hb⟩
      have hSN : Below w2.heap.size w2 wpaqr := hS0.trans (hb.mono hS0.size)
      have ADpaqr := Lib.hid (ADpaq.out.below hb)
      have hhilb : lb < wpaqr.heap.size := Nat.lt_of_lt_of_le hhilb hb.size
      refine hK.out _ _ hSN (fun hS0 => ?_)
      clear hK K hb hSN
      try simp only [Act.put, List.setIfInBounds_toArray, List.set_cons_zero, List.set_cons_succ]
      refine takeD 25 (i := 9) (v := .int .u64 x1) rfl rfl (by kernel_rfl) (by kernel_rfl) (by kernel_rfl) (fun _ _ _ h => h) (Or.inl ⟨by rfl, by (intro w' _; go_simp)⟩) (by assumption) ?_
      try simp only [Act.put, List.setIfInBounds_toArray, List.set_cons_zero, List.set_cons_succ]
      refine takeD 26 (i := 10) (v := .int .i64 0) rfl rfl (by kernel_rfl) (by kernel_rfl) (by kernel_rfl) (fun _ _ _ h => h) (Or.inl ⟨by rfl, by (intro w' _; go_simp)⟩) (by assumption) ?_
      try simp only [Act.put, List.setIfInBounds_toArray, List.set_cons_zero, List.set_cons_succ]
      refine wpAnyH_ready (rs := [11]) (by kernel_rfl) (by simp) (AllReadyH.cons rfl (fun K hK => ?_) AllReadyH.nil)
      ·rw [if_pos (by rfl)]
       go_simp
       refine (HGU.out _ _).mono ?_
       rintro e wpaqrs ⟨rfl, hb⟩
       have hSN : Below w2.heap.size w2 wpaqrs := hS0.trans (hb.mono hS0.size)
       have ADpaqrs := Lib.hid (ADpaqr.out.below hb)
       have hhilb : lb < wpaqrs.heap.size := Nat.lt_of_lt_of_le hhilb hb.size
       refine hK.out _ _ hSN (fun hS0 => ?_)
       clear hK K hb hSN
       try simp only [Act.put, List.setIfInBounds_toArray, List.set_cons_zero, List.set_cons_succ]
       refine takeD 28 (i := 12) (v := .agg #[.int .u64 x0, .int .u64 x1]) rfl rfl (by kernel_rfl) (by kernel_rfl) (by kernel_rfl) (fun _ _ _ h => h) (Or.inl ⟨by rfl, by (intro w' _; go_simp)⟩) (by assumption) ?_
       try simp only [Act.put, List.setIfInBounds_toArray, List.set_cons_zero, List.set_cons_succ]
       refine wpAnyH_ready (rs := [13]) (by kernel_rfl) (by simp) (AllReadyH.cons rfl (fun K hK => ?_) AllReadyH.nil)
       ·rw [if_pos (by rfl)]
        go_simp
        refine (HDE.out _).mono ?_
        rintro e wpaqrst ⟨rfl, hb⟩
        have hSN : Below w2.heap.size w2 wpaqrst := hS0.trans (hb.mono hS0.size)
        have ADpaqrst := Lib.hid (ADpaqrs.out.below hb)
        have hhilb : lb < wpaqrst.heap.size := Nat.lt_of_lt_of_le hhilb hb.size
        refine hK.out _ _ hSN (fun hS0 => ?_)
        clear hK K hb hSN
        try simp only [Act.put, List.setIfInBounds_toArray, List.set_cons_zero, List.set_cons_succ]
        refine takeD 30 (i := 14) (v := .agg D) rfl rfl (by kernel_rfl) (by kernel_rfl) (by kernel_rfl) (fun _ _ _ h => h) (Or.inl ⟨by rfl, by (intro w' _; go_simp)⟩) (by assumption) ?_
        try simp only [Act.put, List.setIfInBounds_toArray, List.set_cons_zero, List.set_cons_succ]
        refine takeD 31 (i := 15) (v := .int .i64 0) rfl rfl (by kernel_rfl) (by kernel_rfl) (by kernel_rfl) (fun _ _ _ h => h) (Or.inl ⟨by rfl, by (intro w' _; go_simp)⟩) (by assumption) ?_
        try simp only [Act.put, List.setIfInBounds_toArray, List.set_cons_zero, List.set_cons_succ]
        refine wpAnyH_ready (rs := [16]) (by kernel_rfl) (by simp) (AllReadyH.cons rfl (fun K hK => ?_) AllReadyH.nil)
        ·rw [if_pos (by rfl)]
         go_simp
         refine (HGD.out _).mono ?_
         rintro e wpaqrstu ⟨rfl, hb⟩
         have hSN : Below w2.heap.size w2 wpaqrstu := hS0.trans (hb.mono hS0.size)
         have ADpaqrstu := Lib.hid (ADpaqrst.out.below hb)
         have hhilb : lb < wpaqrstu.heap.size := Nat.lt_of_lt_of_le hhilb hb.size
         refine hK.out _ _ hSN (fun hS0 => ?_)
         clear hK K hb hSN
         try simp only [Act.put, List.setIfInBounds_toArray, List.set_cons_zero, List.set_cons_succ]
         refine wpAnyH_ready (rs := [18]) (by kernel_rfl) (by simp) (AllReadyH.cons rfl (fun K hK => ?_) AllReadyH.nil)
         rw [if_pos (by rfl)]
         refine wp_storeN 72 (.tmp 6) (.tmp 32) rfl rfl (lb) 0 D (by first | rfl | simp [Act.eval, Act.put]) (by first | rfl | simp [Act.eval, Act.put]) (by rw [HD4.out]; exact ADpaqrstu.out.th) HSZ.out HD1.out ?_
         refine hK.out _ _ (bstore hS0 _ hlolb _ _) (fun hS0 => ?_)
         clear hK K
         try simp only [Act.put, List.setIfInBounds_toArray, List.set_cons_zero, List.set_cons_succ]
         refine wpAnyH_done (by kernel_rfl) ?_ _
         go_wp2_with fail
         go_meet
         exact ⟨_, rfl, by omega, ADpaqrstu.out.store D HD4.out, hS0⟩
  ·rw [if_pos (by rfl)]
   refine wp_allocN 72 6 rfl rfl zeroD (A := zDsc.cells) rfl ?_
   obtain ⟨wa, hw⟩ : ∃ x, x = (w2.drew).alloc (.cells zDsc.cells 72) := ⟨_, rfl⟩
   rw [← hw]
   have hb : Below (w2.drew).heap.size (w2.drew) wa := by rw [hw]; exact (Below.refl _ _).alloc (Nat.le_refl _) _
   have ADa := Lib.hid (show ArrAt wa (w2.drew).heap.size zDsc.cells by rw [hw]; exact (fun w => ArrAt.fresh w zDsc.cells 72 (by decide)) _)
   obtain ⟨lb, hbk⟩ : ∃ x, x = (w2.drew).heap.size := ⟨_, rfl⟩
   rw [← hbk] at ADa
   have hlolb : w2.heap.size ≤ lb := by rw [hbk]; exact hS0.size
   have hhilb : lb < wa.heap.size := ADa.out.lt
   have hSN : Below w2.heap.size w2 wa := hS0.trans (hb.mono hS0.size)
   rw [← hbk]
   clear hw hbk
   refine hK.out _ _ hSN (fun hS0 => ?_)
   clear hK K hb hSN
   try simp only [Act.put, List.setIfInBounds_toArray, List.set_cons_zero, List.set_cons_succ]
   refine wpAnyH_ready (rs := [2]) (by kernel_rfl) (by simp) (AllReadyH.cons rfl (fun K hK => ?_) AllReadyH.nil)
   ·rw [if_pos (by rfl)]
    go_simp
    refine (HX0.out _ _ _ (S0.out.below hS0)).mono ?_
    rintro e wap ⟨rfl, hb⟩
    have hSN : Below w2.heap.size w2 wap := hS0.trans (hb.mono hS0.size)
    have ADap := Lib.hid (ADa.out.below hb)
    have hhilb : lb < wap.heap.size := Nat.lt_of_lt_of_le hhilb hb.size
    refine hK.out _ _ hSN (fun hS0 => ?_)
    clear hK K hb hSN
    try simp only [Act.put, List.setIfInBounds_toArray, List.set_cons_zero, List.set_cons_succ]
    refine takeD 19 (i := 3) (v := .int .u64 x0) rfl rfl (by kernel_rfl) (by kernel_rfl) (by kernel_rfl) (fun _ _ _ h => h) (Or.inl ⟨by rfl, by (intro w' _; go_simp)⟩) (by assumption) ?_
    try simp only [Act.put, List.setIfInBounds_toArray, List.set_cons_zero, List.set_cons_succ]
    refine takeD 20 (i := 4) (v := .int .i64 0) rfl rfl (by kernel_rfl) (by kernel_rfl) (by kernel_rfl) (fun _ _ _ h => h) (Or.inl ⟨by rfl, by (intro w' _; go_simp)⟩) (by assumption) ?_
    try simp only [Act.put, List.setIfInBounds_toArray, List.set_cons_zero, List.set_cons_succ]
    refine wpAnyH_ready (rs := [5]) (by kernel_rfl) (by simp) (AllReadyH.cons rfl (fun K hK => ?_) AllReadyH.nil)
    ·rw [if_pos (by rfl)]
     go_simp
     refine (HGU.out _ _).mono ?_
     rintro e wapq ⟨rfl, hb⟩
     have hSN : Below w2.heap.size w2 wapq := hS0.trans (hb.mono hS0.size)
     have ADapq := Lib.hid (ADap.out.below hb)
     have hhilb : lb < wapq.heap.size := Nat.lt_of_lt_of_le hhilb hb.size
     refine hK.out _ _ hSN (fun hS0 => ?_)
     clear hK K hb hSN
     try simp only [Act.put, List.setIfInBounds_toArray, List.set_cons_zero, List.set_cons_succ]
     refine wpAnyH_ready (rs := [8]) (by kernel_rfl) (by simp) (AllReadyH.cons rfl (fun K hK => ?_) AllReadyH.nil)
     ·rw [if_pos (by rfl)]
      go_simp
      refine (HX1.out _ _ _ (S0.out.below hS0)).mono ?_
      rintro e wapqr ⟨rfl, hb⟩
      have hSN : Below w2.heap.size w2 wapqr := hS0.trans (hb.mono hS0.size)
      have ADapqr := Lib.hid (ADapq.out.below hb)
      have hhilb : lb < wapqr.heap.size := Nat.lt_of_lt_of_le hhilb hb.size
      refine hK.out _ _ hSN (fun hS0 => ?_)
      clear hK K hb hSN
      try simp only [Act.put, List.setIfInBounds_toArray, List.set_cons_zero, List.set_cons_succ]
      refine takeD 25 (i := 9) (v := .int .u64 x1) rfl rfl (by kernel_rfl) (by kernel_rfl) (by kernel_rfl) (fun _ _ _ h => h) (Or.inl ⟨by rfl, by (intro w' _; go_simp)⟩) (by assumption) ?_
      try simp only [Act.put, List.setIfInBounds_toArray, List.set_cons_zero, List.set_cons_succ]
      refine takeD 26 (i := 10) (v := .int .i64 0) rfl rfl (by kernel_rfl) (by kernel_rfl) (by kernel_rfl) (fun _ _ _ h => h) (Or.inl ⟨by rfl, by (intro w' _; go_simp)⟩) (by assumption) ?_
      try simp only [Act.put, List.setIfInBounds_toArray, List.set_cons_zero, List.set_cons_succ]
      refine wpAnyH_ready (rs := [11]) (by kernel_rfl) (by simp) (AllReadyH.cons rfl (fun K hK => ?_) AllReadyH.nil)
      ·rw [if_pos (by rfl)]
       go_simp
       refine (HGU.out _ _).mono ?_
       rintro e wapqrs ⟨rfl, hb⟩
       have hSN : Below w2.heap.size w2 wapqrs := hS0.trans (hb.mono hS0.size)
       have ADapqrs := Lib.hid (ADapqr.out.below hb)
       have hhilb : lb < wapqrs.heap.size := Nat.lt_of_lt_of_le hhilb hb.size
       refine hK.out _ _ hSN (fun hS0 => ?_)
       clear hK K hb hSN
       try simp only [Act.put, List.setIfInBounds_toArray, List.set_cons_zero, List.set_cons_succ]
       refine takeD 28 (i := 12) (v := .agg #[.int .u64 x0, .int .u64 x1]) rfl rfl (by kernel_rfl) (by kernel_rfl) (by kernel_rfl) (fun _ _ _ h => h) (Or.inl ⟨by rfl, by (intro w' _; go_simp)⟩) (by assumption) ?_
       try simp only [Act.put, List.setIfInBounds_toArray, List.set_cons_zero, List.set_cons_succ]
       refine wpAnyH_ready (rs := [13]) (by kernel_rfl) (by simp) (AllReadyH.cons rfl (fun K hK => ?_) AllReadyH.nil)
       ·rw [if_pos (by rfl)]
        go_simp
        refine (HDE.out _).mono ?_
        rintro e wapqrst ⟨rfl, hb⟩
        have hSN : Below w2.heap.size w2 wapqrst := hS0.trans (hb.mono hS0.size)
        have ADapqrst := Lib.hid (ADapqrs.out.below hb)
        have hhilb : lb < wapqrst.heap.size := Nat.lt_of_lt_of_le hhilb hb.size
        refine hK.out _ _ hSN (fun hS0 => ?_)
        clear hK K hb hSN
        try simp only [Act.put, List.setIfInBounds_toArray, List.set_cons_zero, List.set_cons_succ]
        refine takeD 30 (i := 14) (v := .agg D) rfl rfl (by kernel_rfl) (by kernel_rfl) (by kernel_rfl) (fun _ _ _ h => h) (Or.inl ⟨by rfl, by (intro w' _; go_simp)⟩) (by assumption) ?_
        try simp only [Act.put, List.setIfInBounds_toArray, List.set_cons_zero, List.set_cons_succ]
        refine takeD 31 (i := 15) (v := .int .i64 0) rfl rfl (by kernel_rfl) (by kernel_rfl) (by kernel_rfl) (fun _ _ _ h => h) (Or.inl ⟨by rfl, by (intro w' _; go_simp)⟩) (by assumption) ?_
        try simp only [Act.put, List.setIfInBounds_toArray, List.set_cons_zero, List.set_cons_succ]
        refine wpAnyH_ready (rs := [16]) (by kernel_rfl) (by simp) (AllReadyH.cons rfl (fun K hK => ?_) AllReadyH.nil)
        ·rw [if_pos (by rfl)]
         go_simp
         refine (HGD.out _).mono ?_
         rintro e wapqrstu ⟨rfl, hb⟩
         have hSN : Below w2.heap.size w2 wapqrstu := hS0.trans (hb.mono hS0.size)
         have ADapqrstu := Lib.hid (ADapqrst.out.below hb)
         have hhilb : lb < wapqrstu.heap.size := Nat.lt_of_lt_of_le hhilb hb.size
         refine hK.out _ _ hSN (fun hS0 => ?_)
         clear hK K hb hSN
         try simp only [Act.put, List.setIfInBounds_toArray, List.set_cons_zero, List.set_cons_succ]
         refine wpAnyH_ready (rs := [18]) (by kernel_rfl) (by simp) (AllReadyH.cons rfl (fun K hK => ?_) AllReadyH.nil)
         rw [if_pos (by rfl)]
         refine wp_storeN 72 (.tmp 6) (.tmp 32) rfl rfl (lb) 0 D (by first | rfl | simp [Act.eval, Act.put]) (by first | rfl | simp [Act.eval, Act.put]) (by rw [HD4.out]; exact ADapqrstu.out.th) HSZ.out HD1.out ?_
         refine hK.out _ _ (bstore hS0 _ hlolb _ _) (fun hS0 => ?_)
         clear hK K
         try simp only [Act.put, List.setIfInBounds_toArray, List.set_cons_zero, List.set_cons_succ]
         refine wpAnyH_done (by kernel_rfl) ?_ _
         go_wp2_with fail
         go_meet
         exact ⟨_, rfl, by omega, ADapqrstu.out.store D HD4.out, hS0⟩
 case rest =>
  obtain ⟨lb, rfl, hlb, ha, hb⟩ := hcut
  have A4 := Lib.hid ha
  have A5 := Lib.hid (A2.out.below hb)
  have B4 := Lib.hid (B2.out.trans (hb.mono (by omega)))
  have hz4 := hb.size
  clear ha hb
  go_wp2_with (first
   | ((with_reducible show wpList _ _ _ (⟨some 33, _, _, _, _, _⟩ :: _) _ _); refine wpList_loadA rfl A4.out 72 (.tmp 6) rfl (by first | rfl | simp [Act.eval, Act.put]) Tryz.underlying72 rfl HSZ.out ?_)
   | (go_at_call 63; refine (HVA.out _).mono ?_; rintro e w5 ⟨rfl, hb⟩; have B5 := Lib.hid (B4.out.trans (hb.mono (by omega))); have A6 := Lib.hid (A4.out.below hb); have A7 := Lib.hid (A5.out.below hb); clear hb)
   | (go_at_call 58; refine (must_ok _ _).mono ?_; rintro e w6 ⟨rfl, rfl⟩)
   | ((with_reducible show wpList _ _ _ (⟨some 36, _, _, _, _, _⟩ :: _) _ _); refine wpList_loadA rfl A6.out 72 (.tmp 6) rfl (by first | rfl | simp [Act.eval, Act.put]) Tryz.underlying72 rfl HSZ.out ?_)
   | ((with_reducible show wpList _ _ _ (⟨none, .store _ (.tmp 4) _, _, _, _, _⟩ :: _) _ _); refine wpList_storeA rfl (b := W.heap.size) (A := dA 0 0 0 0) (A' := D) A7.out 72 (.tmp 4) (.tmp 36) rfl (by simp [Act.eval, Act.put]) (by simp [Act.eval, Act.put]) (dA_size _ _ _ _) HD4.out HD1.out ?_))
  have A8 := Lib.hid (A7.out.store D HD4.out)
  exact bodyPost_ret (results_c rfl _ _ _ A8.out rfl Tryz.underlying72 rfl HSZ.out) rfl ⟨rfl, bstore B5.out _ (Nat.le_refl _) _ _⟩
set_option maxRecDepth 100000 in
set_option maxHeartbeats 4000000 in
theorem rd_inv (wb b B size : Nat) (f : Nat → Int) (L : List (Nat × Nat)) (at' : Nat) (W : World) (hM : MemAt W b B size f L) (h0 : W.cell? ⟨wb, 0, none⟩ = some (.pointer (some ⟨b, 0, none⟩))) (hf : Bytes fun i => f (at' + i)) (hs : at' + 16 ≤ size)
  (d : Dsc) (no : Int) (D : Array Value) (hd : decD (hz (fun i => f (at' + i)) 7 8) (hiW fun i => f (at' + i)) = d) (hD : D = d.cells) (hno : decE (hiW fun i => f (at' + i)) = no) (hn0 : no = 0) (hv : vldD d = false) :
  Calls Tryz.prog 100 #[.pointer (some ⟨wb, 0, none⟩), .int .u64 (at' : Nat)] W fun e W' => e = .panicked [pan 2] ∧ Below W.heap.size W W' := by
 have hsm := hM.small
 have hwl := World.block_lt_of_cell? _ _ h0
 simp only [] at hwl
 obtain ⟨W1, hW1, hb1, ha1, hs1⟩ : ∃ W1, W1 = W.alloc (.cells (dA 0 0 0 0) 72) ∧ Below W.heap.size W W1 ∧ ArrAt W1 W.heap.size (dA 0 0 0 0) ∧ W1.heap.size = W.heap.size + 1 := box_start zDsc W
 have c0 := (hb1.cell (p := ⟨wb, 0, none⟩) hwl).trans h0
 have HRD := Lib.hid (read_ok b B size f L at' 16 W1 (hM.below hb1) hs)
 have HA := Lib.hid ha1
 have HB1 := Lib.hid hb1
 have HW1 := Lib.hid hW1
 have hz1 : W.heap.size < W1.heap.size := by omega
 obtain ⟨F, hF⟩ : ∃ F, F = fun i => f (at' + i) := ⟨_, rfl⟩
 rw [← hF] at HRD hf hd hno
 have HF := Lib.hid hf
 obtain ⟨x0, hx0⟩ : ∃ x, x = hz F 7 8 := ⟨_, rfl⟩
 obtain ⟨x1, hx1⟩ : ∃ x, x = hiW F := ⟨_, rfl⟩
 have b0 := loW_bd hf
 have b1 := hiW_bd hf
 rw [← hx0] at hd b0
 rw [← hx1] at hd hno b1
 have HX0 : Hid (∀ g c w, Six w g 0 F → Calls Tryz.prog 106 #[.slice (some ⟨g, 0, none⟩) 8 c] w fun e w' => e = .returned (.tuple #[.int .u64 x0, .int .i64 0]) ∧ Below w.heap.size w w') := Lib.hid fun g c w h6 => by
  have := get_ok g 0 8 c F w HF.out (by omega) (by omega) (fun j hj => by simpa using h6 j (by omega))
  rw [sle_lo, ← hx0] at this
  exact this.mono fun e w' k => ⟨k.1, by rw [← k.2]; exact Below.refl _ _⟩
 have HX1 : Hid (∀ g c w, Six w g 0 F → Calls Tryz.prog 106 #[.slice (some ⟨g, 8, none⟩) 8 c] w fun e w' => e = .returned (.tuple #[.int .u64 x1, .int .i64 0]) ∧ Below w.heap.size w w') := Lib.hid fun g c w h6 => by
  have := get_ok g 8 8 c F w HF.out (by omega) (by omega) (fun j hj => by have := h6 (8 + j) (by omega); rw [Nat.zero_add] at this; exact this)
  rw [le_hi, ← hx1] at this
  exact this.mono fun e w' k => ⟨k.1, by rw [← k.2]; exact Below.refl _ _⟩
 have HGU : Hid (∀ (v : Value) w, Calls Tryz.prog 105 #[v, .int .i64 0] w fun e w' => e = .returned v ∧ Below w.heap.size w w') := Lib.hid fun v w => (got_u64 v w).mono fun e w' k => ⟨k.1, by rw [← k.2]; exact Below.refl _ _⟩
 have HDE : Hid (∀ w, Calls Tryz.prog 88 #[.agg #[.int .u64 x0, .int .u64 x1]] w fun e w' => e = .returned (.tuple #[.agg D, .int .i64 no]) ∧ Below w.heap.size w w') := Lib.hid fun w => by
  have := decode_any x0 x1 w b1.1 b1.2
  rw [hd, hno, ← hD] at this
  exact this
 have hdok : d.Ok := by rw [← hd]; exact decD_ok x0 x1 b0 b1
 have HD4 := Lib.hid (show D.size = 4 by rw [hD]; rfl)
 have HSZ := Lib.hid (show (Tryz.prog.info? 72).map (·.size) = some D.size by rw [hD]; exact sizeD)
 have HD1 := Lib.hid (show D.all (·.oneCell') = true by rw [hD]; exact d.one)
 have HGD : Hid (∀ w, Calls Tryz.prog 104 #[.agg D, .int .i64 0] w fun e w' => e = .returned (.agg D) ∧ Below w.heap.size w w') := Lib.hid fun w => by rw [hD]; exact got_dsc d w
 have HVA : Hid (∀ w, Calls Tryz.prog 63 #[.agg D] w fun e w' => e = .returned (.bool false) ∧ Below w.heap.size w w') := Lib.hid fun w => by rw [hD]; exact svalid_any d false hv w hdok
 clear hM h0 hf hs hsm hW1 hb1 ha1 hs1 hF hx0 hx1 b0 b1 hd hno hdok hD
 subst hn0
 clear hv
 go_enter Tryz.func100, Tryz.ntmps100
 go_upto_region 1 with ((with_reducible show wpList _ _ _ (⟨some 4, _, _, _, _, _⟩ :: _) _ _); refine wpList_alloc rfl 72 rfl zeroD ?_; rw [show (Value.agg zDsc.cells).cells = dA 0 0 0 0 from rfl])
 rw [show W.alloc (.cells (dA 0 0 0 0) 72) = W1 from HW1.out.symm]
 try simp only [Act.put, List.setIfInBounds_toArray, List.set_cons_succ, List.set_cons_zero]
 go_upto_region 2 with (first
  | (go_at_call 15; refine HRD.out.mono ?_; rintro e w2 ⟨v, rfl, ⟨g, cap, G, rfl, hg, hr, hc1, hc2, hG⟩, hb2⟩)
  | (go_at_call 61; refine (got_bytes _ _).mono ?_; rintro e w3 ⟨rfl, rfl⟩))
 have S0 := Lib.hid (show Six w2 g 0 F from fun i hi => by rw [Nat.zero_add, hr.cell (by omega), hG i hi])
 have A2 := Lib.hid (HA.out.below hb2)
 have B2 := Lib.hid (HB1.out.trans (hb2.mono (by omega)))
 have hz2 := hb2.size
 have hc3 : (16 : Int) ≤ (cap : Int) := by omega
 have hc4 : (8 : Int) ≤ (cap : Int) := by omega
 have hc5 : (cap : Int) ≤ 9223372036854775807 := by omega
 have hc6 : ((cap : Int) - 8).toNat = cap - 8 := by omega
 have hc7 : ¬ cap = 8 := by omega
 clear hr hG hb2 c0 HRD HA HB1 HW1
 go_cut [5, 6] from 16 to 32 (fun _ p wc => ∃ lb, p = .pointer (some ⟨lb, 0, none⟩) ∧ W.heap.size < lb ∧ ArrAt wc lb D ∧ Below w2.heap.size w2 wc)
 case first =>
  refine wp_region_held_drew (S := fun w' => Below w2.heap.size w2 w') (by kernel_rfl) (Below.refl _ _).drew (fun hS0 => ?_)
  refine takeD 16 (i := 0) (v := .slice (some ⟨g, 0, none⟩) 16 cap) rfl rfl (by kernel_rfl) (by kernel_rfl) (by kernel_rfl) (fun _ _ _ h => h) (Or.inl ⟨by rfl, by (intro w' _; go_simp)⟩) (by assumption) ?_
  try simp only [Act.put, List.setIfInBounds_toArray, List.set_cons_zero, List.set_cons_succ]
  refine takeD 17 (i := 1) (v := .slice (some ⟨g, 0, none⟩) 8 8) rfl rfl (by kernel_rfl) (by kernel_rfl) (by kernel_rfl) (fun _ _ _ h => h) (Or.inl ⟨by rfl, by (intro w' _; go_simp)⟩) (by assumption) ?_
  try simp only [Act.put, List.setIfInBounds_toArray, List.set_cons_zero, List.set_cons_succ]
  refine takeD 22 (i := 6) (v := .slice (some ⟨g, 0, none⟩) 16 cap) rfl rfl (by kernel_rfl) (by kernel_rfl) (by kernel_rfl) (fun _ _ _ h => h) (Or.inl ⟨by rfl, by (intro w' _; go_simp)⟩) (by assumption) ?_
  try simp only [Act.put, List.setIfInBounds_toArray, List.set_cons_zero, List.set_cons_succ]
  refine takeD 23 (i := 7) (v := .slice (some ⟨g, 8, none⟩) 8 (cap - 8)) rfl rfl (by kernel_rfl) (by kernel_rfl) (by kernel_rfl) (fun _ _ _ h => h) (Or.inl ⟨by rfl, by (intro w' _; go_simp)⟩) (by assumption) ?_
  try simp only [Act.put, List.setIfInBounds_toArray, List.set_cons_zero, List.set_cons_succ]
  refine wpAnyH_ready (rs := [2, 17]) (by kernel_rfl) (by simp) (AllReadyH.cons rfl (fun K hK => ?_) (AllReadyH.cons rfl (fun K hK => ?_) AllReadyH.nil))
  ·rw [if_pos (by rfl)]
   go_simp
   refine (HX0.out _ _ _ (S0.out.below hS0)).mono ?_
   rintro e wp ⟨rfl, hb⟩
   have hSN : Below w2.heap.size w2 wp := hS0.trans (hb.mono hS0.size)
   refine hK.out _ _ hSN (fun hS0 => ?_)
   clear hK K hb hSN
   try simp only [Act.put, List.setIfInBounds_toArray, List.set_cons_zero, List.set_cons_succ]
   refine takeD 19 (i := 3) (v := .int .u64 x0) rfl rfl (by kernel_rfl) (by kernel_rfl) (by kernel_rfl) (fun _ _ _ h => h) (Or.inl ⟨by rfl, by (intro w' _; go_simp)⟩) (by assumption) ?_
   try simp only [Act.put, List.setIfInBounds_toArray, List.set_cons_zero, List.set_cons_succ]
   refine takeD 20 (i := 4) (v := .int .i64 0) rfl rfl (by kernel_rfl) (by kernel_rfl) (by kernel_rfl) (fun _ _ _ h => h) (Or.inl ⟨by rfl, by (intro w' _; go_simp)⟩) (by assumption) ?_
   try simp only [Act.put, List.setIfInBounds_toArray, List.set_cons_zero, List.set_cons_succ]
   refine wpAnyH_ready (rs := [5, 17]) (by kernel_rfl) (by simp) (AllReadyH.cons rfl (fun K hK => ?_) (AllReadyH.cons rfl (fun K hK => ?_) AllReadyH.nil))
   ·rw [if_pos (by rfl)]
    go_simp
    refine (HGU.out _ _).mono ?_
    rintro e wpq ⟨rfl, hb⟩
    have hSN : Below w2.heap.size w2 wpq := hS0.trans (hb.mono hS0.size)
    refine hK.out _ _ hSN (fun hS0 => ?_)
    clear hK K hb hSN
    try simp only [Act.put, List.setIfInBounds_toArray, List.set_cons_zero, List.set_cons_succ]
    refine wpAnyH_ready (rs := [8, 17]) (by kernel_rfl) (by simp) (AllReadyH.cons rfl (fun K hK => ?_) (AllReadyH.cons rfl (fun K hK => ?_) AllReadyH.nil))
    ·rw [if_pos (by rfl)]
     go_simp
     refine (HX1.out _ _ _ (S0.out.below hS0)).mono ?_
     rintro e wpqr ⟨rfl, hb⟩
     have hSN : Below w2.heap.size w2 wpqr := hS0.trans (hb.mono hS0.size)
     refine hK.out _ _ hSN (fun hS0 => ?_)
     clear hK K hb hSN
     try simp only [Act.put, List.setIfInBounds_toArray, List.set_cons_zero, List.set_cons_succ]
     refine takeD 25 (i := 9) (v := .int .u64 x1) rfl rfl (by kernel_rfl) (by kernel_rfl) (by kernel_rfl) (fun _ _ _ h => h) (Or.inl ⟨by rfl, by (intro w' _; go_simp)⟩) (by assumption) ?_
     try simp only [Act.put, List.setIfInBounds_toArray, List.set_cons_zero, List.set_cons_succ]
     refine takeD 26 (i := 10) (v := .int .i64 0) rfl rfl (by kernel_rfl) (by kernel_rfl) (by kernel_rfl) (fun _ _ _ h => h) (Or.inl ⟨by rfl, by (intro w' _; go_simp)⟩) (by assumption) ?_
     try simp only [Act.put, List.setIfInBounds_toArray, List.set_cons_zero, List.set_cons_succ]
     refine wpAnyH_ready (rs := [11, 17]) (by kernel_rfl) (by simp) (AllReadyH.cons rfl (fun K hK => ?_) (AllReadyH.cons rfl (fun K hK => ?_) AllReadyH.nil))
     ·rw [if_pos (by rfl)]
      go_simp
      refine (HGU.out _ _).mono ?_
      rintro e wpqrs ⟨rfl, hb⟩
      have hSN : Below w2.heap.size w2 wpqrs := hS0.trans (hb.mono hS0.size)
      refine hK.out _ _ hSN (fun hS0 => ?_)
      clear hK K hb hSN
      try simp only [Act.put, List.setIfInBounds_toArray, List.set_cons_zero, List.set_cons_succ]
      refine takeD 28 (i := 12) (v := .agg #[.int .u64 x0, .int .u64 x1]) rfl rfl (by kernel_rfl) (by kernel_rfl) (by kernel_rfl) (fun _ _ _ h => h) (Or.inl ⟨by rfl, by (intro w' _; go_simp)⟩) (by assumption) ?_
      try simp only [Act.put, List.setIfInBounds_toArray, List.set_cons_zero, List.set_cons_succ]
      refine wpAnyH_ready (rs := [13, 17]) (by kernel_rfl) (by simp) (AllReadyH.cons rfl (fun K hK => ?_) (AllReadyH.cons rfl (fun K hK => ?_) AllReadyH.nil))
      ·rw [if_pos (by rfl)]
       go_simp
       refine (HDE.out _).mono ?_
       rintro e wpqrst ⟨rfl, hb⟩
       have hSN : Below w2.heap.size w2 wpqrst := hS0.trans (hb.mono hS0.size)
       refine hK.out _ _ hSN (fun hS0 => ?_)
       clear hK K hb hSN
       try simp only [Act.put, List.setIfInBounds_toArray, List.set_cons_zero, List.set_cons_succ]
       refine takeD 30 (i := 14) (v := .agg D) rfl rfl (by kernel_rfl) (by kernel_rfl) (by kernel_rfl) (fun _ _ _ h => h) (Or.inl ⟨by rfl, by (intro w' _; go_simp)⟩) (by assumption) ?_
       try simp only [Act.put, List.setIfInBounds_toArray, List.set_cons_zero, List.set_cons_succ]
       refine takeD 31 (i := 15) (v := .int .i64 0) rfl rfl (by kernel_rfl) (by kernel_rfl) (by kernel_rfl) (fun _ _ _ h => h) (Or.inl ⟨by rfl, by (intro w' _; go_simp)⟩) (by assumption) ?_
       try simp only [Act.put, List.setIfInBounds_toArray, List.set_cons_zero, List.set_cons_succ]
       refine wpAnyH_ready (rs := [16, 17]) (by kernel_rfl) (by simp) (AllReadyH.cons rfl (fun K hK => ?_) (AllReadyH.cons rfl (fun K hK => ?_) AllReadyH.nil))
       ·rw [if_pos (by rfl)]
        go_simp
        refine (HGD.out _).mono ?_
        rintro e wpqrstu ⟨rfl, hb⟩
        have hSN : Below w2.heap.size w2 wpqrstu := hS0.trans (hb.mono hS0.size)
        refine hK.out _ _ hSN (fun hS0 => ?_)
        clear hK K hb hSN
        try simp only [Act.put, List.setIfInBounds_toArray, List.set_cons_zero, List.set_cons_succ]
        refine wpAnyH_ready (rs := [17]) (by kernel_rfl) (by simp) (AllReadyH.cons rfl (fun K hK => ?_) AllReadyH.nil)
        ·rw [if_pos (by rfl)]
         refine wp_allocN 72 6 rfl rfl zeroD (A := zDsc.cells) rfl ?_
         obtain ⟨wpqrstua, hw⟩ : ∃ x, x = (wpqrstu).alloc (.cells zDsc.cells 72) := ⟨_, rfl⟩
         rw [← hw]
         have hb : Below (wpqrstu).heap.size (wpqrstu) wpqrstua := by rw [hw]; exact (Below.refl _ _).alloc (Nat.le_refl _) _
         have ADpqrstua := Lib.hid (show ArrAt wpqrstua (wpqrstu).heap.size zDsc.cells by rw [hw]; exact (fun w => ArrAt.fresh w zDsc.cells 72 (by decide)) _)
         obtain ⟨lb, hbk⟩ : ∃ x, x = (wpqrstu).heap.size := ⟨_, rfl⟩
         rw [← hbk] at ADpqrstua
         have hlolb : w2.heap.size ≤ lb := by rw [hbk]; exact hS0.size
         have hhilb : lb < wpqrstua.heap.size := ADpqrstua.out.lt
         have hSN : Below w2.heap.size w2 wpqrstua := hS0.trans (hb.mono hS0.size)
         rw [← hbk]
         clear hw hbk
         refine hK.out _ _ hSN (fun hS0 => ?_)
         clear hK K hb hSN
         try simp only [Act.put, List.setIfInBounds_toArray, List.set_cons_zero, List.set_cons_succ]
         refine wpAnyH_ready (rs := [18]) (by kernel_rfl) (by simp) (AllReadyH.cons rfl (fun K hK => ?_) AllReadyH.nil)
         rw [if_pos (by rfl)]
         refine wp_storeN 72 (.tmp 6) (.tmp 32) rfl rfl (lb) 0 D (by first | rfl | simp [Act.eval, Act.put]) (by first | rfl | simp [Act.eval, Act.put]) (by rw [HD4.out]; exact ADpqrstua.out.th) HSZ.out HD1.out ?_
         refine hK.out _ _ (bstore hS0 _ hlolb _ _) (fun hS0 => ?_)
         clear hK K
         try simp only [Act.put, List.setIfInBounds_toArray, List.set_cons_zero, List.set_cons_succ]
         refine wpAnyH_done (by kernel_rfl) ?_ _
         go_wp2_with fail
         go_meet
         exact ⟨_, rfl, by omega, ADpqrstua.out.store D HD4.out, hS0⟩
       ·rw [if_pos (by rfl)]
        refine wp_allocN 72 6 rfl rfl zeroD (A := zDsc.cells) rfl ?_
        obtain ⟨wpqrsta, hw⟩ : ∃ x, x = (wpqrst).alloc (.cells zDsc.cells 72) := ⟨_, rfl⟩
        rw [← hw]
        have hb : Below (wpqrst).heap.size (wpqrst) wpqrsta := by rw [hw]; exact (Below.refl _ _).alloc (Nat.le_refl _) _
        have ADpqrsta := Lib.hid (show ArrAt wpqrsta (wpqrst).heap.size zDsc.cells by rw [hw]; exact (fun w => ArrAt.fresh w zDsc.cells 72 (by decide)) _)
        obtain ⟨lb, hbk⟩ : ∃ x, x = (wpqrst).heap.size := ⟨_, rfl⟩
        rw [← hbk] at ADpqrsta
        have hlolb : w2.heap.size ≤ lb := by rw [hbk]; exact hS0.size
        have hhilb : lb < wpqrsta.heap.size := ADpqrsta.out.lt
        have hSN : Below w2.heap.size w2 wpqrsta := hS0.trans (hb.mono hS0.size)
        rw [← hbk]
        clear hw hbk
        refine hK.out _ _ hSN (fun hS0 => ?_)
        clear hK K hb hSN
        try simp only [Act.put, List.setIfInBounds_toArray, List.set_cons_zero, List.set_cons_succ]
        refine wpAnyH_ready (rs := [16]) (by kernel_rfl) (by simp) (AllReadyH.cons rfl (fun K hK => ?_) AllReadyH.nil)
        ·rw [if_pos (by rfl)]
         go_simp
         refine (HGD.out _).mono ?_
         rintro e wpqrstau ⟨rfl, hb⟩
         have hSN : Below w2.heap.size w2 wpqrstau := hS0.trans (hb.mono hS0.size)
         have ADpqrstau := Lib.hid (ADpqrsta.out.below hb)
         have hhilb : lb < wpqrstau.heap.size := Nat.lt_of_lt_of_le hhilb hb.size
         refine hK.out _ _ hSN (fun hS0 => ?_)
         clear hK K hb hSN
         try simp only [Act.put, List.setIfInBounds_toArray, List.set_cons_zero, List.set_cons_succ]
         refine wpAnyH_ready (rs := [18]) (by kernel_rfl) (by simp) (AllReadyH.cons rfl (fun K hK => ?_) AllReadyH.nil)
         rw [if_pos (by rfl)]
         refine wp_storeN 72 (.tmp 6) (.tmp 32) rfl rfl (lb) 0 D (by first | rfl | simp [Act.eval, Act.put]) (by first | rfl | simp [Act.eval, Act.put]) (by rw [HD4.out]; exact ADpqrstau.out.th) HSZ.out HD1.out ?_
         refine hK.out _ _ (bstore hS0 _ hlolb _ _) (fun hS0 => ?_)
         clear hK K
         try simp only [Act.put, List.setIfInBounds_toArray, List.set_cons_zero, List.set_cons_succ]
         refine wpAnyH_done (by kernel_rfl) ?_ _
         go_wp2_with fail
         go_meet
         exact ⟨_, rfl, by omega, ADpqrstau.out.store D HD4.out, hS0⟩
      ·rw [if_pos (by rfl)]
       refine wp_allocN 72 6 rfl rfl zeroD (A := zDsc.cells) rfl ?_
       obtain ⟨wpqrsa, hw⟩ : ∃ x, x = (wpqrs).alloc (.cells zDsc.cells 72) := ⟨_, rfl⟩
       rw [← hw]
       have hb : Below (wpqrs).heap.size (wpqrs) wpqrsa := by rw [hw]; exact (Below.refl _ _).alloc (Nat.le_refl _) _
       have ADpqrsa := Lib.hid (show ArrAt wpqrsa (wpqrs).heap.size zDsc.cells by rw [hw]; exact (fun w => ArrAt.fresh w zDsc.cells 72 (by decide)) _)
       obtain ⟨lb, hbk⟩ : ∃ x, x = (wpqrs).heap.size := ⟨_, rfl⟩
       rw [← hbk] at ADpqrsa
       have hlolb : w2.heap.size ≤ lb := by rw [hbk]; exact hS0.size
       have hhilb : lb < wpqrsa.heap.size := ADpqrsa.out.lt
       have hSN : Below w2.heap.size w2 wpqrsa := hS0.trans (hb.mono hS0.size)
       rw [← hbk]
       clear hw hbk
       refine hK.out _ _ hSN (fun hS0 => ?_)
       clear hK K hb hSN
       try simp only [Act.put, List.setIfInBounds_toArray, List.set_cons_zero, List.set_cons_succ]
       refine wpAnyH_ready (rs := [13]) (by kernel_rfl) (by simp) (AllReadyH.cons rfl (fun K hK => ?_) AllReadyH.nil)
       ·rw [if_pos (by rfl)]
        go_simp
        refine (HDE.out _).mono ?_
        rintro e wpqrsat ⟨rfl, hb⟩
        have hSN : Below w2.heap.size w2 wpqrsat := hS0.trans (hb.mono hS0.size)
        have ADpqrsat := Lib.hid (ADpqrsa.out.below hb)
        have hhilb : lb < wpqrsat.heap.size := Nat.lt_of_lt_of_le hhilb hb.size
        refine hK.out _ _ hSN (fun hS0 => ?_)
        clear hK K hb hSN
        try simp only [Act.put, List.setIfInBounds_toArray, List.set_cons_zero, List.set_cons_succ]
        refine takeD 30 (i := 14) (v := .agg D) rfl rfl (by kernel_rfl) (by kernel_rfl) (by kernel_rfl) (fun _ _ _ h => h) (Or.inl ⟨by rfl, by (intro w' _; go_simp)⟩) (by assumption) ?_
        try simp only [Act.put, List.setIfInBounds_toArray, List.set_cons_zero, List.set_cons_succ]
        refine takeD 31 (i := 15) (v := .int .i64 0) rfl rfl (by kernel_rfl) (by kernel_rfl) (by kernel_rfl) (fun _ _ _ h => h) (Or.inl ⟨by rfl, by (intro w' _; go_simp)⟩) (by assumption) ?_
        try simp only [Act.put, List.setIfInBounds_toArray, List.set_cons_zero, List.set_cons_succ]
        refine wpAnyH_ready (rs := [16]) (by kernel_rfl) (by simp) (AllReadyH.cons rfl (fun K hK => ?_) AllReadyH.nil)
        ·rw [if_pos (by rfl)]
         go_simp
         refine (HGD.out _).mono ?_
         rintro e wpqrsatu ⟨rfl, hb⟩
         have hSN : Below w2.heap.size w2 wpqrsatu := hS0.trans (hb.mono hS0.size)
         have ADpqrsatu := Lib.hid (ADpqrsat.out.below hb)
         have hhilb : lb < wpqrsatu.heap.size := Nat.lt_of_lt_of_le hhilb hb.size
         refine hK.out _ _ hSN (fun hS0 => ?_)
         clear hK K hb hSN
         try simp only [Act.put, List.setIfInBounds_toArray, List.set_cons_zero, List.set_cons_succ]
         refine wpAnyH_ready (rs := [18]) (by kernel_rfl) (by simp) (AllReadyH.cons rfl (fun K hK => ?_) AllReadyH.nil)
         rw [if_pos (by rfl)]
         refine wp_storeN 72 (.tmp 6) (.tmp 32) rfl rfl (lb) 0 D (by first | rfl | simp [Act.eval, Act.put]) (by first | rfl | simp [Act.eval, Act.put]) (by rw [HD4.out]; exact ADpqrsatu.out.th) HSZ.out HD1.out ?_
         refine hK.out _ _ (bstore hS0 _ hlolb _ _) (fun hS0 => ?_)
         clear hK K
         try simp only [Act.put, List.setIfInBounds_toArray, List.set_cons_zero, List.set_cons_succ]
         refine wpAnyH_done (by kernel_rfl) ?_ _
         go_wp2_with fail
         go_meet
         exact ⟨_, rfl, by omega, ADpqrsatu.out.store D HD4.out, hS0⟩
     ·rw [if_pos (by rfl)]
      refine wp_allocN 72 6 rfl rfl zeroD (A := zDsc.cells) rfl ?_
      obtain ⟨wpqra, hw⟩ : ∃ x, x = (wpqr).alloc (.cells zDsc.cells 72) := ⟨_, rfl⟩
      rw [← hw]
      have hb : Below (wpqr).heap.size (wpqr) wpqra := by rw [hw]; exact (Below.refl _ _).alloc (Nat.le_refl _) _
      have ADpqra := Lib.hid (show ArrAt wpqra (wpqr).heap.size zDsc.cells by rw [hw]; exact (fun w => ArrAt.fresh w zDsc.cells 72 (by decide)) _)
      obtain ⟨lb, hbk⟩ : ∃ x, x = (wpqr).heap.size := ⟨_, rfl⟩
      rw [← hbk] at ADpqra
      have hlolb : w2.heap.size ≤ lb := by rw [hbk]; exact hS0.size
      have hhilb : lb < wpqra.heap.size := ADpqra.out.lt
      have hSN : Below w2.heap.size w2 wpqra := hS0.trans (hb.mono hS0.size)
      rw [← hbk]
      clear hw hbk
      refine hK.out _ _ hSN (fun hS0 => ?_)
      clear hK K hb hSN
      try simp only [Act.put, List.setIfInBounds_toArray, List.set_cons_zero, List.set_cons_succ]
      refine wpAnyH_ready (rs := [11]) (by kernel_rfl) (by simp) (AllReadyH.cons rfl (fun K hK => ?_) AllReadyH.nil)
      ·rw [if_pos (by rfl)]
       go_simp
       refine (HGU.out _ _).mono ?_
       rintro e wpqras ⟨rfl, hb⟩
       have hSN : Below w2.heap.size w2 wpqras := hS0.trans (hb.mono hS0.size)
       have ADpqras := Lib.hid (ADpqra.out.below hb)
       have hhilb : lb < wpqras.heap.size := Nat.lt_of_lt_of_le hhilb hb.size
       refine hK.out _ _ hSN (fun hS0 => ?_)
       clear hK K hb hSN
       try simp only [Act.put, List.setIfInBounds_toArray, List.set_cons_zero, List.set_cons_succ]
       refine takeD 28 (i := 12) (v := .agg #[.int .u64 x0, .int .u64 x1]) rfl rfl (by kernel_rfl) (by kernel_rfl) (by kernel_rfl) (fun _ _ _ h => h) (Or.inl ⟨by rfl, by (intro w' _; go_simp)⟩) (by assumption) ?_
       try simp only [Act.put, List.setIfInBounds_toArray, List.set_cons_zero, List.set_cons_succ]
       refine wpAnyH_ready (rs := [13]) (by kernel_rfl) (by simp) (AllReadyH.cons rfl (fun K hK => ?_) AllReadyH.nil)
       ·rw [if_pos (by rfl)]
        go_simp
        refine (HDE.out _).mono ?_
        rintro e wpqrast ⟨rfl, hb⟩
        have hSN : Below w2.heap.size w2 wpqrast := hS0.trans (hb.mono hS0.size)
        have ADpqrast := Lib.hid (ADpqras.out.below hb)
        have hhilb : lb < wpqrast.heap.size := Nat.lt_of_lt_of_le hhilb hb.size
        refine hK.out _ _ hSN (fun hS0 => ?_)
        clear hK K hb hSN
        try simp only [Act.put, List.setIfInBounds_toArray, List.set_cons_zero, List.set_cons_succ]
        refine takeD 30 (i := 14) (v := .agg D) rfl rfl (by kernel_rfl) (by kernel_rfl) (by kernel_rfl) (fun _ _ _ h => h) (Or.inl ⟨by rfl, by (intro w' _; go_simp)⟩) (by assumption) ?_
        try simp only [Act.put, List.setIfInBounds_toArray, List.set_cons_zero, List.set_cons_succ]
        refine takeD 31 (i := 15) (v := .int .i64 0) rfl rfl (by kernel_rfl) (by kernel_rfl) (by kernel_rfl) (fun _ _ _ h => h) (Or.inl ⟨by rfl, by (intro w' _; go_simp)⟩) (by assumption) ?_
        try simp only [Act.put, List.setIfInBounds_toArray, List.set_cons_zero, List.set_cons_succ]
        refine wpAnyH_ready (rs := [16]) (by kernel_rfl) (by simp) (AllReadyH.cons rfl (fun K hK => ?_) AllReadyH.nil)
        ·rw [if_pos (by rfl)]
         go_simp
         refine (HGD.out _).mono ?_
         rintro e wpqrastu ⟨rfl, hb⟩
         have hSN : Below w2.heap.size w2 wpqrastu := hS0.trans (hb.mono hS0.size)
         have ADpqrastu := Lib.hid (ADpqrast.out.below hb)
         have hhilb : lb < wpqrastu.heap.size := Nat.lt_of_lt_of_le hhilb hb.size
         refine hK.out _ _ hSN (fun hS0 => ?_)
         clear hK K hb hSN
         try simp only [Act.put, List.setIfInBounds_toArray, List.set_cons_zero, List.set_cons_succ]
         refine wpAnyH_ready (rs := [18]) (by kernel_rfl) (by simp) (AllReadyH.cons rfl (fun K hK => ?_) AllReadyH.nil)
         rw [if_pos (by rfl)]
         refine wp_storeN 72 (.tmp 6) (.tmp 32) rfl rfl (lb) 0 D (by first | rfl | simp [Act.eval, Act.put]) (by first | rfl | simp [Act.eval, Act.put]) (by rw [HD4.out]; exact ADpqrastu.out.th) HSZ.out HD1.out ?_
         refine hK.out _ _ (bstore hS0 _ hlolb _ _) (fun hS0 => ?_)
         clear hK K
         try simp only [Act.put, List.setIfInBounds_toArray, List.set_cons_zero, List.set_cons_succ]
         refine wpAnyH_done (by kernel_rfl) ?_ _
         go_wp2_with fail
         go_meet
         exact ⟨_, rfl, by omega, ADpqrastu.out.store D HD4.out, hS0⟩
    ·rw [if_pos (by rfl)]
     refine wp_allocN 72 6 rfl rfl zeroD (A := zDsc.cells) rfl ?_
     obtain ⟨wpqa, hw⟩ : ∃ x, x = (wpq).alloc (.cells zDsc.cells 72) := ⟨_, rfl⟩
     rw [← hw]
     have hb : Below (wpq).heap.size (wpq) wpqa := by rw [hw]; exact (Below.refl _ _).alloc (Nat.le_refl _) _
     have ADpqa := Lib.hid (show ArrAt wpqa (wpq).heap.size zDsc.cells by rw [hw]; exact (fun w => ArrAt.fresh w zDsc.cells 72 (by decide)) _)
     obtain ⟨lb, hbk⟩ : ∃ x, x = (wpq).heap.size := ⟨_, rfl⟩
     rw [← hbk] at ADpqa
     have hlolb : w2.heap.size ≤ lb := by rw [hbk]; exact hS0.size
     have hhilb : lb < wpqa.heap.size := ADpqa.out.lt
     have hSN : Below w2.heap.size w2 wpqa := hS0.trans (hb.mono hS0.size)
     rw [← hbk]
     clear hw hbk
     refine hK.out _ _ hSN (fun hS0 => ?_)
     clear hK K hb hSN
     try simp only [Act.put, List.setIfInBounds_toArray, List.set_cons_zero, List.set_cons_succ]
     refine wpAnyH_ready (rs := [8]) (by kernel_rfl) (by simp) (AllReadyH.cons rfl (fun K hK => ?_) AllReadyH.nil)
     ·rw [if_pos (by rfl)]
      go_simp
      refine (HX1.out _ _ _ (S0.out.below hS0)).mono ?_
      rintro e wpqar ⟨rfl, hb⟩
      have hSN : Below w2.heap.size w2 wpqar := hS0.trans (hb.mono hS0.size)
      have ADpqar := Lib.hid (ADpqa.out.below hb)
      have hhilb : lb < wpqar.heap.size := Nat.lt_of_lt_of_le hhilb hb.size
      refine hK.out _ _ hSN (fun hS0 => ?_)
      clear hK K hb hSN
      try simp only [Act.put, List.setIfInBounds_toArray, List.set_cons_zero, List.set_cons_succ]
      refine takeD 25 (i := 9) (v := .int .u64 x1) rfl rfl (by kernel_rfl) (by kernel_rfl) (by kernel_rfl) (fun _ _ _ h => h) (Or.inl ⟨by rfl, by (intro w' _; go_simp)⟩) (by assumption) ?_
      try simp only [Act.put, List.setIfInBounds_toArray, List.set_cons_zero, List.set_cons_succ]
      refine takeD 26 (i := 10) (v := .int .i64 0) rfl rfl (by kernel_rfl) (by kernel_rfl) (by kernel_rfl) (fun _ _ _ h => h) (Or.inl ⟨by rfl, by (intro w' _; go_simp)⟩) (by assumption) ?_
      try simp only [Act.put, List.setIfInBounds_toArray, List.set_cons_zero, List.set_cons_succ]
      refine wpAnyH_ready (rs := [11]) (by kernel_rfl) (by simp) (AllReadyH.cons rfl (fun K hK => ?_) AllReadyH.nil)
      ·rw [if_pos (by rfl)]
       go_simp
       refine (HGU.out _ _).mono ?_
       rintro e wpqars ⟨rfl, hb⟩
       have hSN : Below w2.heap.size w2 wpqars := hS0.trans (hb.mono hS0.size)
       have ADpqars := Lib.hid (ADpqar.out.below hb)
       have hhilb : lb < wpqars.heap.size := Nat.lt_of_lt_of_le hhilb hb.size
       refine hK.out _ _ hSN (fun hS0 => ?_)
       clear hK K hb hSN
       try simp only [Act.put, List.setIfInBounds_toArray, List.set_cons_zero, List.set_cons_succ]
       refine takeD 28 (i := 12) (v := .agg #[.int .u64 x0, .int .u64 x1]) rfl rfl (by kernel_rfl) (by kernel_rfl) (by kernel_rfl) (fun _ _ _ h => h) (Or.inl ⟨by rfl, by (intro w' _; go_simp)⟩) (by assumption) ?_
       try simp only [Act.put, List.setIfInBounds_toArray, List.set_cons_zero, List.set_cons_succ]
       refine wpAnyH_ready (rs := [13]) (by kernel_rfl) (by simp) (AllReadyH.cons rfl (fun K hK => ?_) AllReadyH.nil)
       ·rw [if_pos (by rfl)]
        go_simp
        refine (HDE.out _).mono ?_
        rintro e wpqarst ⟨rfl, hb⟩
        have hSN : Below w2.heap.size w2 wpqarst := hS0.trans (hb.mono hS0.size)
        have ADpqarst := Lib.hid (ADpqars.out.below hb)
        have hhilb : lb < wpqarst.heap.size := Nat.lt_of_lt_of_le hhilb hb.size
        refine hK.out _ _ hSN (fun hS0 => ?_)
        clear hK K hb hSN
        try simp only [Act.put, List.setIfInBounds_toArray, List.set_cons_zero, List.set_cons_succ]
        refine takeD 30 (i := 14) (v := .agg D) rfl rfl (by kernel_rfl) (by kernel_rfl) (by kernel_rfl) (fun _ _ _ h => h) (Or.inl ⟨by rfl, by (intro w' _; go_simp)⟩) (by assumption) ?_
        try simp only [Act.put, List.setIfInBounds_toArray, List.set_cons_zero, List.set_cons_succ]
        refine takeD 31 (i := 15) (v := .int .i64 0) rfl rfl (by kernel_rfl) (by kernel_rfl) (by kernel_rfl) (fun _ _ _ h => h) (Or.inl ⟨by rfl, by (intro w' _; go_simp)⟩) (by assumption) ?_
        try simp only [Act.put, List.setIfInBounds_toArray, List.set_cons_zero, List.set_cons_succ]
        refine wpAnyH_ready (rs := [16]) (by kernel_rfl) (by simp) (AllReadyH.cons rfl (fun K hK => ?_) AllReadyH.nil)
        ·rw [if_pos (by rfl)]
         go_simp
         refine (HGD.out _).mono ?_
         rintro e wpqarstu ⟨rfl, hb⟩
         have hSN : Below w2.heap.size w2 wpqarstu := hS0.trans (hb.mono hS0.size)
         have ADpqarstu := Lib.hid (ADpqarst.out.below hb)
         have hhilb : lb < wpqarstu.heap.size := Nat.lt_of_lt_of_le hhilb hb.size
         refine hK.out _ _ hSN (fun hS0 => ?_)
         clear hK K hb hSN
         try simp only [Act.put, List.setIfInBounds_toArray, List.set_cons_zero, List.set_cons_succ]
         refine wpAnyH_ready (rs := [18]) (by kernel_rfl) (by simp) (AllReadyH.cons rfl (fun K hK => ?_) AllReadyH.nil)
         rw [if_pos (by rfl)]
         refine wp_storeN 72 (.tmp 6) (.tmp 32) rfl rfl (lb) 0 D (by first | rfl | simp [Act.eval, Act.put]) (by first | rfl | simp [Act.eval, Act.put]) (by rw [HD4.out]; exact ADpqarstu.out.th) HSZ.out HD1.out ?_
         refine hK.out _ _ (bstore hS0 _ hlolb _ _) (fun hS0 => ?_)
         clear hK K
         try simp only [Act.put, List.setIfInBounds_toArray, List.set_cons_zero, List.set_cons_succ]
         refine wpAnyH_done (by kernel_rfl) ?_ _
         go_wp2_with fail
         go_meet
         exact ⟨_, rfl, by omega, ADpqarstu.out.store D HD4.out, hS0⟩
   ·rw [if_pos (by rfl)]
    refine wp_allocN 72 6 rfl rfl zeroD (A := zDsc.cells) rfl ?_
    obtain ⟨wpa, hw⟩ : ∃ x, x = (wp).alloc (.cells zDsc.cells 72) := ⟨_, rfl⟩
    rw [← hw]
    have hb : Below (wp).heap.size (wp) wpa := by rw [hw]; exact (Below.refl _ _).alloc (Nat.le_refl _) _
    have ADpa := Lib.hid (show ArrAt wpa (wp).heap.size zDsc.cells by rw [hw]; exact (fun w => ArrAt.fresh w zDsc.cells 72 (by decide)) _)
    obtain ⟨lb, hbk⟩ : ∃ x, x = (wp).heap.size := ⟨_, rfl⟩
    rw [← hbk] at ADpa
    have hlolb : w2.heap.size ≤ lb := by rw [hbk]; exact hS0.size
    have hhilb : lb < wpa.heap.size := ADpa.out.lt
    have hSN : Below w2.heap.size w2 wpa := hS0.trans (hb.mono hS0.size)
    rw [← hbk]
    clear hw hbk
    refine hK.out _ _ hSN (fun hS0 => ?_)
    clear hK K hb hSN
    try simp only [Act.put, List.setIfInBounds_toArray, List.set_cons_zero, List.set_cons_succ]
    refine wpAnyH_ready (rs := [5]) (by kernel_rfl) (by simp) (AllReadyH.cons rfl (fun K hK => ?_) AllReadyH.nil)
    ·rw [if_pos (by rfl)]
     go_simp
     refine (HGU.out _ _).mono ?_
     rintro e wpaq ⟨rfl, hb⟩
     have hSN : Below w2.heap.size w2 wpaq := hS0.trans (hb.mono hS0.size)
     have ADpaq := Lib.hid (ADpa.out.below hb)
     have hhilb : lb < wpaq.heap.size := Nat.lt_of_lt_of_le hhilb hb.size
     refine hK.out _ _ hSN (fun hS0 => ?_)
     clear hK K hb hSN
     try simp only [Act.put, List.setIfInBounds_toArray, List.set_cons_zero, List.set_cons_succ]
     refine wpAnyH_ready (rs := [8]) (by kernel_rfl) (by simp) (AllReadyH.cons rfl (fun K hK => ?_) AllReadyH.nil)
     ·rw [if_pos (by rfl)]
      go_simp
      refine (HX1.out _ _ _ (S0.out.below hS0)).mono ?_
      rintro e wpaqr ⟨rfl, hb⟩
      have hSN : Below w2.heap.size w2 wpaqr := hS0.trans (hb.mono hS0.size)
      have ADpaqr := Lib.hid (ADpaq.out.below hb)
      have hhilb : lb < wpaqr.heap.size := Nat.lt_of_lt_of_le hhilb hb.size
      refine hK.out _ _ hSN (fun hS0 => ?_)
      clear hK K hb hSN
      try simp only [Act.put, List.setIfInBounds_toArray, List.set_cons_zero, List.set_cons_succ]
      refine takeD 25 (i := 9) (v := .int .u64 x1) rfl rfl (by kernel_rfl) (by kernel_rfl) (by kernel_rfl) (fun _ _ _ h => h) (Or.inl ⟨by rfl, by (intro w' _; go_simp)⟩) (by assumption) ?_
      try simp only [Act.put, List.setIfInBounds_toArray, List.set_cons_zero, List.set_cons_succ]
      refine takeD 26 (i := 10) (v := .int .i64 0) rfl rfl (by kernel_rfl) (by kernel_rfl) (by kernel_rfl) (fun _ _ _ h => h) (Or.inl ⟨by rfl, by (intro w' _; go_simp)⟩) (by assumption) ?_
      try simp only [Act.put, List.setIfInBounds_toArray, List.set_cons_zero, List.set_cons_succ]
      refine wpAnyH_ready (rs := [11]) (by kernel_rfl) (by simp) (AllReadyH.cons rfl (fun K hK => ?_) AllReadyH.nil)
      ·rw [if_pos (by rfl)]
       go_simp
       refine (HGU.out _ _).mono ?_
       rintro e wpaqrs ⟨rfl, hb⟩
       have hSN : Below w2.heap.size w2 wpaqrs := hS0.trans (hb.mono hS0.size)
       have ADpaqrs := Lib.hid (ADpaqr.out.below hb)
       have hhilb : lb < wpaqrs.heap.size := Nat.lt_of_lt_of_le hhilb hb.size
       refine hK.out _ _ hSN (fun hS0 => ?_)
       clear hK K hb hSN
       try simp only [Act.put, List.setIfInBounds_toArray, List.set_cons_zero, List.set_cons_succ]
       refine takeD 28 (i := 12) (v := .agg #[.int .u64 x0, .int .u64 x1]) rfl rfl (by kernel_rfl) (by kernel_rfl) (by kernel_rfl) (fun _ _ _ h => h) (Or.inl ⟨by rfl, by (intro w' _; go_simp)⟩) (by assumption) ?_
       try simp only [Act.put, List.setIfInBounds_toArray, List.set_cons_zero, List.set_cons_succ]
       refine wpAnyH_ready (rs := [13]) (by kernel_rfl) (by simp) (AllReadyH.cons rfl (fun K hK => ?_) AllReadyH.nil)
       ·rw [if_pos (by rfl)]
        go_simp
        refine (HDE.out _).mono ?_
        rintro e wpaqrst ⟨rfl, hb⟩
        have hSN : Below w2.heap.size w2 wpaqrst := hS0.trans (hb.mono hS0.size)
        have ADpaqrst := Lib.hid (ADpaqrs.out.below hb)
        have hhilb : lb < wpaqrst.heap.size := Nat.lt_of_lt_of_le hhilb hb.size
        refine hK.out _ _ hSN (fun hS0 => ?_)
        clear hK K hb hSN
        try simp only [Act.put, List.setIfInBounds_toArray, List.set_cons_zero, List.set_cons_succ]
        refine takeD 30 (i := 14) (v := .agg D) rfl rfl (by kernel_rfl) (by kernel_rfl) (by kernel_rfl) (fun _ _ _ h => h) (Or.inl ⟨by rfl, by (intro w' _; go_simp)⟩) (by assumption) ?_
        try simp only [Act.put, List.setIfInBounds_toArray, List.set_cons_zero, List.set_cons_succ]
        refine takeD 31 (i := 15) (v := .int .i64 0) rfl rfl (by kernel_rfl) (by kernel_rfl) (by kernel_rfl) (fun _ _ _ h => h) (Or.inl ⟨by rfl, by (intro w' _; go_simp)⟩) (by assumption) ?_
        try simp only [Act.put, List.setIfInBounds_toArray, List.set_cons_zero, List.set_cons_succ]
        refine wpAnyH_ready (rs := [16]) (by kernel_rfl) (by simp) (AllReadyH.cons rfl (fun K hK => ?_) AllReadyH.nil)
        ·rw [if_pos (by rfl)]
         go_simp
         refine (HGD.out _).mono ?_
         rintro e wpaqrstu ⟨rfl, hb⟩
         have hSN : Below w2.heap.size w2 wpaqrstu := hS0.trans (hb.mono hS0.size)
         have ADpaqrstu := Lib.hid (ADpaqrst.out.below hb)
         have hhilb : lb < wpaqrstu.heap.size := Nat.lt_of_lt_of_le hhilb hb.size
         refine hK.out _ _ hSN (fun hS0 => ?_)
         clear hK K hb hSN
         try simp only [Act.put, List.setIfInBounds_toArray, List.set_cons_zero, List.set_cons_succ]
         refine wpAnyH_ready (rs := [18]) (by kernel_rfl) (by simp) (AllReadyH.cons rfl (fun K hK => ?_) AllReadyH.nil)
         rw [if_pos (by rfl)]
         refine wp_storeN 72 (.tmp 6) (.tmp 32) rfl rfl (lb) 0 D (by first | rfl | simp [Act.eval, Act.put]) (by first | rfl | simp [Act.eval, Act.put]) (by rw [HD4.out]; exact ADpaqrstu.out.th) HSZ.out HD1.out ?_
         refine hK.out _ _ (bstore hS0 _ hlolb _ _) (fun hS0 => ?_)
         clear hK K
         try simp only [Act.put, List.setIfInBounds_toArray, List.set_cons_zero, List.set_cons_succ]
         refine wpAnyH_done (by kernel_rfl) ?_ _
         go_wp2_with fail
         go_meet
         exact ⟨_, rfl, by omega, ADpaqrstu.out.store D HD4.out, hS0⟩
  ·rw [if_pos (by rfl)]
   refine wp_allocN 72 6 rfl rfl zeroD (A := zDsc.cells) rfl ?_
   obtain ⟨wa, hw⟩ : ∃ x, x = (w2.drew).alloc (.cells zDsc.cells 72) := ⟨_, rfl⟩
   rw [← hw]
   have hb : Below (w2.drew).heap.size (w2.drew) wa := by rw [hw]; exact (Below.refl _ _).alloc (Nat.le_refl _) _
   have ADa := Lib.hid (show ArrAt wa (w2.drew).heap.size zDsc.cells by rw [hw]; exact (fun w => ArrAt.fresh w zDsc.cells 72 (by decide)) _)
   obtain ⟨lb, hbk⟩ : ∃ x, x = (w2.drew).heap.size := ⟨_, rfl⟩
   rw [← hbk] at ADa
   have hlolb : w2.heap.size ≤ lb := by rw [hbk]; exact hS0.size
   have hhilb : lb < wa.heap.size := ADa.out.lt
   have hSN : Below w2.heap.size w2 wa := hS0.trans (hb.mono hS0.size)
   rw [← hbk]
   clear hw hbk
   refine hK.out _ _ hSN (fun hS0 => ?_)
   clear hK K hb hSN
   try simp only [Act.put, List.setIfInBounds_toArray, List.set_cons_zero, List.set_cons_succ]
   refine wpAnyH_ready (rs := [2]) (by kernel_rfl) (by simp) (AllReadyH.cons rfl (fun K hK => ?_) AllReadyH.nil)
   ·rw [if_pos (by rfl)]
    go_simp
    refine (HX0.out _ _ _ (S0.out.below hS0)).mono ?_
    rintro e wap ⟨rfl, hb⟩
    have hSN : Below w2.heap.size w2 wap := hS0.trans (hb.mono hS0.size)
    have ADap := Lib.hid (ADa.out.below hb)
    have hhilb : lb < wap.heap.size := Nat.lt_of_lt_of_le hhilb hb.size
    refine hK.out _ _ hSN (fun hS0 => ?_)
    clear hK K hb hSN
    try simp only [Act.put, List.setIfInBounds_toArray, List.set_cons_zero, List.set_cons_succ]
    refine takeD 19 (i := 3) (v := .int .u64 x0) rfl rfl (by kernel_rfl) (by kernel_rfl) (by kernel_rfl) (fun _ _ _ h => h) (Or.inl ⟨by rfl, by (intro w' _; go_simp)⟩) (by assumption) ?_
    try simp only [Act.put, List.setIfInBounds_toArray, List.set_cons_zero, List.set_cons_succ]
    refine takeD 20 (i := 4) (v := .int .i64 0) rfl rfl (by kernel_rfl) (by kernel_rfl) (by kernel_rfl) (fun _ _ _ h => h) (Or.inl ⟨by rfl, by (intro w' _; go_simp)⟩) (by assumption) ?_
    try simp only [Act.put, List.setIfInBounds_toArray, List.set_cons_zero, List.set_cons_succ]
    refine wpAnyH_ready (rs := [5]) (by kernel_rfl) (by simp) (AllReadyH.cons rfl (fun K hK => ?_) AllReadyH.nil)
    ·rw [if_pos (by rfl)]
     go_simp
     refine (HGU.out _ _).mono ?_
     rintro e wapq ⟨rfl, hb⟩
     have hSN : Below w2.heap.size w2 wapq := hS0.trans (hb.mono hS0.size)
     have ADapq := Lib.hid (ADap.out.below hb)
     have hhilb : lb < wapq.heap.size := Nat.lt_of_lt_of_le hhilb hb.size
     refine hK.out _ _ hSN (fun hS0 => ?_)
     clear hK K hb hSN
     try simp only [Act.put, List.setIfInBounds_toArray, List.set_cons_zero, List.set_cons_succ]
     refine wpAnyH_ready (rs := [8]) (by kernel_rfl) (by simp) (AllReadyH.cons rfl (fun K hK => ?_) AllReadyH.nil)
     ·rw [if_pos (by rfl)]
      go_simp
      refine (HX1.out _ _ _ (S0.out.below hS0)).mono ?_
      rintro e wapqr ⟨rfl, hb⟩
      have hSN : Below w2.heap.size w2 wapqr := hS0.trans (hb.mono hS0.size)
      have ADapqr := Lib.hid (ADapq.out.below hb)
      have hhilb : lb < wapqr.heap.size := Nat.lt_of_lt_of_le hhilb hb.size
      refine hK.out _ _ hSN (fun hS0 => ?_)
      clear hK K hb hSN
      try simp only [Act.put, List.setIfInBounds_toArray, List.set_cons_zero, List.set_cons_succ]
      refine takeD 25 (i := 9) (v := .int .u64 x1) rfl rfl (by kernel_rfl) (by kernel_rfl) (by kernel_rfl) (fun _ _ _ h => h) (Or.inl ⟨by rfl, by (intro w' _; go_simp)⟩) (by assumption) ?_
      try simp only [Act.put, List.setIfInBounds_toArray, List.set_cons_zero, List.set_cons_succ]
      refine takeD 26 (i := 10) (v := .int .i64 0) rfl rfl (by kernel_rfl) (by kernel_rfl) (by kernel_rfl) (fun _ _ _ h => h) (Or.inl ⟨by rfl, by (intro w' _; go_simp)⟩) (by assumption) ?_
      try simp only [Act.put, List.setIfInBounds_toArray, List.set_cons_zero, List.set_cons_succ]
      refine wpAnyH_ready (rs := [11]) (by kernel_rfl) (by simp) (AllReadyH.cons rfl (fun K hK => ?_) AllReadyH.nil)
      ·rw [if_pos (by rfl)]
       go_simp
       refine (HGU.out _ _).mono ?_
       rintro e wapqrs ⟨rfl, hb⟩
       have hSN : Below w2.heap.size w2 wapqrs := hS0.trans (hb.mono hS0.size)
       have ADapqrs := Lib.hid (ADapqr.out.below hb)
       have hhilb : lb < wapqrs.heap.size := Nat.lt_of_lt_of_le hhilb hb.size
       refine hK.out _ _ hSN (fun hS0 => ?_)
       clear hK K hb hSN
       try simp only [Act.put, List.setIfInBounds_toArray, List.set_cons_zero, List.set_cons_succ]
       refine takeD 28 (i := 12) (v := .agg #[.int .u64 x0, .int .u64 x1]) rfl rfl (by kernel_rfl) (by kernel_rfl) (by kernel_rfl) (fun _ _ _ h => h) (Or.inl ⟨by rfl, by (intro w' _; go_simp)⟩) (by assumption) ?_
       try simp only [Act.put, List.setIfInBounds_toArray, List.set_cons_zero, List.set_cons_succ]
       refine wpAnyH_ready (rs := [13]) (by kernel_rfl) (by simp) (AllReadyH.cons rfl (fun K hK => ?_) AllReadyH.nil)
       ·rw [if_pos (by rfl)]
        go_simp
        refine (HDE.out _).mono ?_
        rintro e wapqrst ⟨rfl, hb⟩
        have hSN : Below w2.heap.size w2 wapqrst := hS0.trans (hb.mono hS0.size)
        have ADapqrst := Lib.hid (ADapqrs.out.below hb)
        have hhilb : lb < wapqrst.heap.size := Nat.lt_of_lt_of_le hhilb hb.size
        refine hK.out _ _ hSN (fun hS0 => ?_)
        clear hK K hb hSN
        try simp only [Act.put, List.setIfInBounds_toArray, List.set_cons_zero, List.set_cons_succ]
        refine takeD 30 (i := 14) (v := .agg D) rfl rfl (by kernel_rfl) (by kernel_rfl) (by kernel_rfl) (fun _ _ _ h => h) (Or.inl ⟨by rfl, by (intro w' _; go_simp)⟩) (by assumption) ?_
        try simp only [Act.put, List.setIfInBounds_toArray, List.set_cons_zero, List.set_cons_succ]
        refine takeD 31 (i := 15) (v := .int .i64 0) rfl rfl (by kernel_rfl) (by kernel_rfl) (by kernel_rfl) (fun _ _ _ h => h) (Or.inl ⟨by rfl, by (intro w' _; go_simp)⟩) (by assumption) ?_
        try simp only [Act.put, List.setIfInBounds_toArray, List.set_cons_zero, List.set_cons_succ]
        refine wpAnyH_ready (rs := [16]) (by kernel_rfl) (by simp) (AllReadyH.cons rfl (fun K hK => ?_) AllReadyH.nil)
        ·rw [if_pos (by rfl)]
         go_simp
         refine (HGD.out _).mono ?_
         rintro e wapqrstu ⟨rfl, hb⟩
         have hSN : Below w2.heap.size w2 wapqrstu := hS0.trans (hb.mono hS0.size)
         have ADapqrstu := Lib.hid (ADapqrst.out.below hb)
         have hhilb : lb < wapqrstu.heap.size := Nat.lt_of_lt_of_le hhilb hb.size
         refine hK.out _ _ hSN (fun hS0 => ?_)
         clear hK K hb hSN
         try simp only [Act.put, List.setIfInBounds_toArray, List.set_cons_zero, List.set_cons_succ]
         refine wpAnyH_ready (rs := [18]) (by kernel_rfl) (by simp) (AllReadyH.cons rfl (fun K hK => ?_) AllReadyH.nil)
         rw [if_pos (by rfl)]
         refine wp_storeN 72 (.tmp 6) (.tmp 32) rfl rfl (lb) 0 D (by first | rfl | simp [Act.eval, Act.put]) (by first | rfl | simp [Act.eval, Act.put]) (by rw [HD4.out]; exact ADapqrstu.out.th) HSZ.out HD1.out ?_
         refine hK.out _ _ (bstore hS0 _ hlolb _ _) (fun hS0 => ?_)
         clear hK K
         try simp only [Act.put, List.setIfInBounds_toArray, List.set_cons_zero, List.set_cons_succ]
         refine wpAnyH_done (by kernel_rfl) ?_ _
         go_wp2_with fail
         go_meet
         exact ⟨_, rfl, by omega, ADapqrstu.out.store D HD4.out, hS0⟩
 case rest =>
  obtain ⟨lb, rfl, hlb, ha, hb⟩ := hcut
  have A4 := Lib.hid ha
  have A5 := Lib.hid (A2.out.below hb)
  have B4 := Lib.hid (B2.out.trans (hb.mono (by omega)))
  have hz4 := hb.size
  clear ha hb
  go_wp2_with (first
   | ((with_reducible show wpList _ _ _ (⟨some 33, _, _, _, _, _⟩ :: _) _ _); refine wpList_loadA rfl A4.out 72 (.tmp 6) rfl (by first | rfl | simp [Act.eval, Act.put]) Tryz.underlying72 rfl HSZ.out ?_)
   | (go_at_call 63; refine (HVA.out _).mono ?_; rintro e w5 ⟨rfl, hb⟩; have B5 := Lib.hid (B4.out.trans (hb.mono (by omega))); clear hb)
   | (go_at_call 58; refine (must_bad _ _).mono ?_; rintro e w6 ⟨rfl, rfl⟩))
  exact ⟨rfl, rfl, B5.out⟩
set_option maxRecDepth 100000 in
set_option maxHeartbeats 4000000 in
theorem rd_err (wb b B size : Nat) (f : Nat → Int) (L : List (Nat × Nat)) (at' : Nat) (W : World) (hM : MemAt W b B size f L) (h0 : W.cell? ⟨wb, 0, none⟩ = some (.pointer (some ⟨b, 0, none⟩))) (hf : Bytes fun i => f (at' + i)) (hs : at' + 16 ≤ size)
  (d : Dsc) (no : Int) (D : Array Value) (hd : decD (hz (fun i => f (at' + i)) 7 8) (hiW fun i => f (at' + i)) = d) (hD : D = d.cells) (hno : decE (hiW fun i => f (at' + i)) = no) (hne : (no == 0) = false) :
  Calls Tryz.prog 100 #[.pointer (some ⟨wb, 0, none⟩), .int .u64 (at' : Nat)] W fun e W' => e = .panicked [pan no] ∧ Below W.heap.size W W' := by
 have hsm := hM.small
 have hwl := World.block_lt_of_cell? _ _ h0
 simp only [] at hwl
 obtain ⟨W1, hW1, hb1, ha1, hs1⟩ : ∃ W1, W1 = W.alloc (.cells (dA 0 0 0 0) 72) ∧ Below W.heap.size W W1 ∧ ArrAt W1 W.heap.size (dA 0 0 0 0) ∧ W1.heap.size = W.heap.size + 1 := box_start zDsc W
 have c0 := (hb1.cell (p := ⟨wb, 0, none⟩) hwl).trans h0
 have HRD := Lib.hid (read_ok b B size f L at' 16 W1 (hM.below hb1) hs)
 have HA := Lib.hid ha1
 have HB1 := Lib.hid hb1
 have HW1 := Lib.hid hW1
 have hz1 : W.heap.size < W1.heap.size := by omega
 obtain ⟨F, hF⟩ : ∃ F, F = fun i => f (at' + i) := ⟨_, rfl⟩
 rw [← hF] at HRD hf hd hno
 have HF := Lib.hid hf
 obtain ⟨x0, hx0⟩ : ∃ x, x = hz F 7 8 := ⟨_, rfl⟩
 obtain ⟨x1, hx1⟩ : ∃ x, x = hiW F := ⟨_, rfl⟩
 have b0 := loW_bd hf
 have b1 := hiW_bd hf
 rw [← hx0] at hd b0
 rw [← hx1] at hd hno b1
 have HX0 : Hid (∀ g c w, Six w g 0 F → Calls Tryz.prog 106 #[.slice (some ⟨g, 0, none⟩) 8 c] w fun e w' => e = .returned (.tuple #[.int .u64 x0, .int .i64 0]) ∧ Below w.heap.size w w') := Lib.hid fun g c w h6 => by
  have := get_ok g 0 8 c F w HF.out (by omega) (by omega) (fun j hj => by simpa using h6 j (by omega))
  rw [sle_lo, ← hx0] at this
  exact this.mono fun e w' k => ⟨k.1, by rw [← k.2]; exact Below.refl _ _⟩
 have HX1 : Hid (∀ g c w, Six w g 0 F → Calls Tryz.prog 106 #[.slice (some ⟨g, 8, none⟩) 8 c] w fun e w' => e = .returned (.tuple #[.int .u64 x1, .int .i64 0]) ∧ Below w.heap.size w w') := Lib.hid fun g c w h6 => by
  have := get_ok g 8 8 c F w HF.out (by omega) (by omega) (fun j hj => by have := h6 (8 + j) (by omega); rw [Nat.zero_add] at this; exact this)
  rw [le_hi, ← hx1] at this
  exact this.mono fun e w' k => ⟨k.1, by rw [← k.2]; exact Below.refl _ _⟩
 have HGU : Hid (∀ (v : Value) w, Calls Tryz.prog 105 #[v, .int .i64 0] w fun e w' => e = .returned v ∧ Below w.heap.size w w') := Lib.hid fun v w => (got_u64 v w).mono fun e w' k => ⟨k.1, by rw [← k.2]; exact Below.refl _ _⟩
 have HDE : Hid (∀ w, Calls Tryz.prog 88 #[.agg #[.int .u64 x0, .int .u64 x1]] w fun e w' => e = .returned (.tuple #[.agg D, .int .i64 no]) ∧ Below w.heap.size w w') := Lib.hid fun w => by
  have := decode_any x0 x1 w b1.1 b1.2
  rw [hd, hno, ← hD] at this
  exact this
 have hdok : d.Ok := by rw [← hd]; exact decD_ok x0 x1 b0 b1
 have HD4 := Lib.hid (show D.size = 4 by rw [hD]; rfl)
 have HSZ := Lib.hid (show (Tryz.prog.info? 72).map (·.size) = some D.size by rw [hD]; exact sizeD)
 have HD1 := Lib.hid (show D.all (·.oneCell') = true by rw [hD]; exact d.one)
 have HGD : Hid (∀ w, Calls Tryz.prog 104 #[.agg D, .int .i64 no] w fun e w' => e = .panicked [pan no] ∧ Below w.heap.size w w') := Lib.hid fun w => by rw [hD]; exact got_dsc_bad d no hne w
 clear hM h0 hf hs hsm hW1 hb1 ha1 hs1 hF hx0 hx1 b0 b1 hd hno hdok hD
 skip
 clear hne
 go_enter Tryz.func100, Tryz.ntmps100
 go_upto_region 1 with ((with_reducible show wpList _ _ _ (⟨some 4, _, _, _, _, _⟩ :: _) _ _); refine wpList_alloc rfl 72 rfl zeroD ?_; rw [show (Value.agg zDsc.cells).cells = dA 0 0 0 0 from rfl])
 rw [show W.alloc (.cells (dA 0 0 0 0) 72) = W1 from HW1.out.symm]
 try simp only [Act.put, List.setIfInBounds_toArray, List.set_cons_succ, List.set_cons_zero]
 go_upto_region 2 with (first
  | (go_at_call 15; refine HRD.out.mono ?_; rintro e w2 ⟨v, rfl, ⟨g, cap, G, rfl, hg, hr, hc1, hc2, hG⟩, hb2⟩)
  | (go_at_call 61; refine (got_bytes _ _).mono ?_; rintro e w3 ⟨rfl, rfl⟩))
 have S0 := Lib.hid (show Six w2 g 0 F from fun i hi => by rw [Nat.zero_add, hr.cell (by omega), hG i hi])
 have A2 := Lib.hid (HA.out.below hb2)
 have B2 := Lib.hid (HB1.out.trans (hb2.mono (by omega)))
 have hz2 := hb2.size
 have hc3 : (16 : Int) ≤ (cap : Int) := by omega
 have hc4 : (8 : Int) ≤ (cap : Int) := by omega
 have hc5 : (cap : Int) ≤ 9223372036854775807 := by omega
 have hc6 : ((cap : Int) - 8).toNat = cap - 8 := by omega
 have hc7 : ¬ cap = 8 := by omega
 clear hr hG hb2 c0 HRD HA HB1 HW1
 refine wp_region_held_drew (S := fun w' => Below w2.heap.size w2 w') (by kernel_rfl) (Below.refl _ _).drew (fun hS0 => ?_)
 refine takeD 16 (i := 0) (v := .slice (some ⟨g, 0, none⟩) 16 cap) rfl rfl (by kernel_rfl) (by kernel_rfl) (by kernel_rfl) (fun _ _ _ h => h) (Or.inl ⟨by rfl, by (intro w' _; go_simp)⟩) (by assumption) ?_
 try simp only [Act.put, List.setIfInBounds_toArray, List.set_cons_zero, List.set_cons_succ]
 refine takeD 17 (i := 1) (v := .slice (some ⟨g, 0, none⟩) 8 8) rfl rfl (by kernel_rfl) (by kernel_rfl) (by kernel_rfl) (fun _ _ _ h => h) (Or.inl ⟨by rfl, by (intro w' _; go_simp)⟩) (by assumption) ?_
 try simp only [Act.put, List.setIfInBounds_toArray, List.set_cons_zero, List.set_cons_succ]
 refine takeD 22 (i := 6) (v := .slice (some ⟨g, 0, none⟩) 16 cap) rfl rfl (by kernel_rfl) (by kernel_rfl) (by kernel_rfl) (fun _ _ _ h => h) (Or.inl ⟨by rfl, by (intro w' _; go_simp)⟩) (by assumption) ?_
 try simp only [Act.put, List.setIfInBounds_toArray, List.set_cons_zero, List.set_cons_succ]
 refine takeD 23 (i := 7) (v := .slice (some ⟨g, 8, none⟩) 8 (cap - 8)) rfl rfl (by kernel_rfl) (by kernel_rfl) (by kernel_rfl) (fun _ _ _ h => h) (Or.inl ⟨by rfl, by (intro w' _; go_simp)⟩) (by assumption) ?_
 try simp only [Act.put, List.setIfInBounds_toArray, List.set_cons_zero, List.set_cons_succ]
 refine wpAnyH_ready (rs := [2, 17]) (by kernel_rfl) (by simp) (AllReadyH.cons rfl (fun K hK => ?_) (AllReadyH.cons rfl (fun K hK => ?_) AllReadyH.nil))
 ·rw [if_pos (by rfl)]
  go_simp
  refine (HX0.out _ _ _ (S0.out.below hS0)).mono ?_
  rintro e wp ⟨rfl, hb⟩
  have hSN : Below w2.heap.size w2 wp := hS0.trans (hb.mono hS0.size)
  refine hK.out _ _ hSN (fun hS0 => ?_)
  clear hK K hb hSN
  try simp only [Act.put, List.setIfInBounds_toArray, List.set_cons_zero, List.set_cons_succ]
  refine takeD 19 (i := 3) (v := .int .u64 x0) rfl rfl (by kernel_rfl) (by kernel_rfl) (by kernel_rfl) (fun _ _ _ h => h) (Or.inl ⟨by rfl, by (intro w' _; go_simp)⟩) (by assumption) ?_
  try simp only [Act.put, List.setIfInBounds_toArray, List.set_cons_zero, List.set_cons_succ]
  refine takeD 20 (i := 4) (v := .int .i64 0) rfl rfl (by kernel_rfl) (by kernel_rfl) (by kernel_rfl) (fun _ _ _ h => h) (Or.inl ⟨by rfl, by (intro w' _; go_simp)⟩) (by assumption) ?_
  try simp only [Act.put, List.setIfInBounds_toArray, List.set_cons_zero, List.set_cons_succ]
  refine wpAnyH_ready (rs := [5, 17]) (by kernel_rfl) (by simp) (AllReadyH.cons rfl (fun K hK => ?_) (AllReadyH.cons rfl (fun K hK => ?_) AllReadyH.nil))
  ·rw [if_pos (by rfl)]
   go_simp
   refine (HGU.out _ _).mono ?_
   rintro e wpq ⟨rfl, hb⟩
   have hSN : Below w2.heap.size w2 wpq := hS0.trans (hb.mono hS0.size)
   refine hK.out _ _ hSN (fun hS0 => ?_)
   clear hK K hb hSN
   try simp only [Act.put, List.setIfInBounds_toArray, List.set_cons_zero, List.set_cons_succ]
   refine wpAnyH_ready (rs := [8, 17]) (by kernel_rfl) (by simp) (AllReadyH.cons rfl (fun K hK => ?_) (AllReadyH.cons rfl (fun K hK => ?_) AllReadyH.nil))
   ·rw [if_pos (by rfl)]
    go_simp
    refine (HX1.out _ _ _ (S0.out.below hS0)).mono ?_
    rintro e wpqr ⟨rfl, hb⟩
    have hSN : Below w2.heap.size w2 wpqr := hS0.trans (hb.mono hS0.size)
    refine hK.out _ _ hSN (fun hS0 => ?_)
    clear hK K hb hSN
    try simp only [Act.put, List.setIfInBounds_toArray, List.set_cons_zero, List.set_cons_succ]
    refine takeD 25 (i := 9) (v := .int .u64 x1) rfl rfl (by kernel_rfl) (by kernel_rfl) (by kernel_rfl) (fun _ _ _ h => h) (Or.inl ⟨by rfl, by (intro w' _; go_simp)⟩) (by assumption) ?_
    try simp only [Act.put, List.setIfInBounds_toArray, List.set_cons_zero, List.set_cons_succ]
    refine takeD 26 (i := 10) (v := .int .i64 0) rfl rfl (by kernel_rfl) (by kernel_rfl) (by kernel_rfl) (fun _ _ _ h => h) (Or.inl ⟨by rfl, by (intro w' _; go_simp)⟩) (by assumption) ?_
    try simp only [Act.put, List.setIfInBounds_toArray, List.set_cons_zero, List.set_cons_succ]
    refine wpAnyH_ready (rs := [11, 17]) (by kernel_rfl) (by simp) (AllReadyH.cons rfl (fun K hK => ?_) (AllReadyH.cons rfl (fun K hK => ?_) AllReadyH.nil))
    ·rw [if_pos (by rfl)]
     go_simp
     refine (HGU.out _ _).mono ?_
     rintro e wpqrs ⟨rfl, hb⟩
     have hSN : Below w2.heap.size w2 wpqrs := hS0.trans (hb.mono hS0.size)
     refine hK.out _ _ hSN (fun hS0 => ?_)
     clear hK K hb hSN
     try simp only [Act.put, List.setIfInBounds_toArray, List.set_cons_zero, List.set_cons_succ]
     refine takeD 28 (i := 12) (v := .agg #[.int .u64 x0, .int .u64 x1]) rfl rfl (by kernel_rfl) (by kernel_rfl) (by kernel_rfl) (fun _ _ _ h => h) (Or.inl ⟨by rfl, by (intro w' _; go_simp)⟩) (by assumption) ?_
     try simp only [Act.put, List.setIfInBounds_toArray, List.set_cons_zero, List.set_cons_succ]
     refine wpAnyH_ready (rs := [13, 17]) (by kernel_rfl) (by simp) (AllReadyH.cons rfl (fun K hK => ?_) (AllReadyH.cons rfl (fun K hK => ?_) AllReadyH.nil))
     ·rw [if_pos (by rfl)]
      go_simp
      refine (HDE.out _).mono ?_
      rintro e wpqrst ⟨rfl, hb⟩
      have hSN : Below w2.heap.size w2 wpqrst := hS0.trans (hb.mono hS0.size)
      refine hK.out _ _ hSN (fun hS0 => ?_)
      clear hK K hb hSN
      try simp only [Act.put, List.setIfInBounds_toArray, List.set_cons_zero, List.set_cons_succ]
      refine takeD 30 (i := 14) (v := .agg D) rfl rfl (by kernel_rfl) (by kernel_rfl) (by kernel_rfl) (fun _ _ _ h => h) (Or.inl ⟨by rfl, by (intro w' _; go_simp)⟩) (by assumption) ?_
      try simp only [Act.put, List.setIfInBounds_toArray, List.set_cons_zero, List.set_cons_succ]
      refine takeD 31 (i := 15) (v := .int .i64 no) rfl rfl (by kernel_rfl) (by kernel_rfl) (by kernel_rfl) (fun _ _ _ h => h) (Or.inl ⟨by rfl, by (intro w' _; go_simp)⟩) (by assumption) ?_
      try simp only [Act.put, List.setIfInBounds_toArray, List.set_cons_zero, List.set_cons_succ]
      refine wpAnyH_ready (rs := [16, 17]) (by kernel_rfl) (by simp) (AllReadyH.cons rfl (fun K hK => ?_) (AllReadyH.cons rfl (fun K hK => ?_) AllReadyH.nil))
      ·rw [if_pos (by rfl)]
       go_simp
       refine (HGD.out _).mono ?_
       rintro e w9 ⟨rfl, hb⟩
       exact ⟨rfl, rfl, (B2.out.trans (hS0.mono (by omega))).trans (hb.mono (by have := hS0.size; omega))⟩
      ·rw [if_pos (by rfl)]
       refine wp_allocN 72 6 rfl rfl zeroD (A := zDsc.cells) rfl ?_
       obtain ⟨wpqrsta, hw⟩ : ∃ x, x = (wpqrst).alloc (.cells zDsc.cells 72) := ⟨_, rfl⟩
       rw [← hw]
       have hb : Below (wpqrst).heap.size (wpqrst) wpqrsta := by rw [hw]; exact (Below.refl _ _).alloc (Nat.le_refl _) _
       have ADpqrsta := Lib.hid (show ArrAt wpqrsta (wpqrst).heap.size zDsc.cells by rw [hw]; exact (fun w => ArrAt.fresh w zDsc.cells 72 (by decide)) _)
       obtain ⟨lb, hbk⟩ : ∃ x, x = (wpqrst).heap.size := ⟨_, rfl⟩
       rw [← hbk] at ADpqrsta
       have hlolb : w2.heap.size ≤ lb := by rw [hbk]; exact hS0.size
       have hhilb : lb < wpqrsta.heap.size := ADpqrsta.out.lt
       have hSN : Below w2.heap.size w2 wpqrsta := hS0.trans (hb.mono hS0.size)
       rw [← hbk]
       clear hw hbk
       refine hK.out _ _ hSN (fun hS0 => ?_)
       clear hK K hb hSN
       try simp only [Act.put, List.setIfInBounds_toArray, List.set_cons_zero, List.set_cons_succ]
       refine wpAnyH_ready (rs := [16]) (by kernel_rfl) (by simp) (AllReadyH.cons rfl (fun K hK => ?_) AllReadyH.nil)
       ·rw [if_pos (by rfl)]
        go_simp
        refine (HGD.out _).mono ?_
        rintro e w9 ⟨rfl, hb⟩
        exact ⟨rfl, rfl, (B2.out.trans (hS0.mono (by omega))).trans (hb.mono (by have := hS0.size; omega))⟩
     ·rw [if_pos (by rfl)]
      refine wp_allocN 72 6 rfl rfl zeroD (A := zDsc.cells) rfl ?_
      obtain ⟨wpqrsa, hw⟩ : ∃ x, x = (wpqrs).alloc (.cells zDsc.cells 72) := ⟨_, rfl⟩
      rw [← hw]
      have hb : Below (wpqrs).heap.size (wpqrs) wpqrsa := by rw [hw]; exact (Below.refl _ _).alloc (Nat.le_refl _) _
      have ADpqrsa := Lib.hid (show ArrAt wpqrsa (wpqrs).heap.size zDsc.cells by rw [hw]; exact (fun w => ArrAt.fresh w zDsc.cells 72 (by decide)) _)
      obtain ⟨lb, hbk⟩ : ∃ x, x = (wpqrs).heap.size := ⟨_, rfl⟩
      rw [← hbk] at ADpqrsa
      have hlolb : w2.heap.size ≤ lb := by rw [hbk]; exact hS0.size
      have hhilb : lb < wpqrsa.heap.size := ADpqrsa.out.lt
      have hSN : Below w2.heap.size w2 wpqrsa := hS0.trans (hb.mono hS0.size)
      rw [← hbk]
      clear hw hbk
      refine hK.out _ _ hSN (fun hS0 => ?_)
      clear hK K hb hSN
      try simp only [Act.put, List.setIfInBounds_toArray, List.set_cons_zero, List.set_cons_succ]
      refine wpAnyH_ready (rs := [13]) (by kernel_rfl) (by simp) (AllReadyH.cons rfl (fun K hK => ?_) AllReadyH.nil)
      ·rw [if_pos (by rfl)]
       go_simp
       refine (HDE.out _).mono ?_
       rintro e wpqrsat ⟨rfl, hb⟩
       have hSN : Below w2.heap.size w2 wpqrsat := hS0.trans (hb.mono hS0.size)
       have ADpqrsat := Lib.hid (ADpqrsa.out.below hb)
       have hhilb : lb < wpqrsat.heap.size := Nat.lt_of_lt_of_le hhilb hb.size
       refine hK.out _ _ hSN (fun hS0 => ?_)
       clear hK K hb hSN
       try simp only [Act.put, List.setIfInBounds_toArray, List.set_cons_zero, List.set_cons_succ]
       refine takeD 30 (i := 14) (v := .agg D) rfl rfl (by kernel_rfl) (by kernel_rfl) (by kernel_rfl) (fun _ _ _ h => h) (Or.inl ⟨by rfl, by (intro w' _; go_simp)⟩) (by assumption) ?_
       try simp only [Act.put, List.setIfInBounds_toArray, List.set_cons_zero, List.set_cons_succ]
       refine takeD 31 (i := 15) (v := .int .i64 no) rfl rfl (by kernel_rfl) (by kernel_rfl) (by kernel_rfl) (fun _ _ _ h => h) (Or.inl ⟨by rfl, by (intro w' _; go_simp)⟩) (by assumption) ?_
       try simp only [Act.put, List.setIfInBounds_toArray, List.set_cons_zero, List.set_cons_succ]
       refine wpAnyH_ready (rs := [16]) (by kernel_rfl) (by simp) (AllReadyH.cons rfl (fun K hK => ?_) AllReadyH.nil)
       ·rw [if_pos (by rfl)]
        go_simp
        refine (HGD.out _).mono ?_
        rintro e w9 ⟨rfl, hb⟩
        exact ⟨rfl, rfl, (B2.out.trans (hS0.mono (by omega))).trans (hb.mono (by have := hS0.size; omega))⟩
    ·rw [if_pos (by rfl)]
     refine wp_allocN 72 6 rfl rfl zeroD (A := zDsc.cells) rfl ?_
     obtain ⟨wpqra, hw⟩ : ∃ x, x = (wpqr).alloc (.cells zDsc.cells 72) := ⟨_, rfl⟩
     rw [← hw]
     have hb : Below (wpqr).heap.size (wpqr) wpqra := by rw [hw]; exact (Below.refl _ _).alloc (Nat.le_refl _) _
     have ADpqra := Lib.hid (show ArrAt wpqra (wpqr).heap.size zDsc.cells by rw [hw]; exact (fun w => ArrAt.fresh w zDsc.cells 72 (by decide)) _)
     obtain ⟨lb, hbk⟩ : ∃ x, x = (wpqr).heap.size := ⟨_, rfl⟩
     rw [← hbk] at ADpqra
     have hlolb : w2.heap.size ≤ lb := by rw [hbk]; exact hS0.size
     have hhilb : lb < wpqra.heap.size := ADpqra.out.lt
     have hSN : Below w2.heap.size w2 wpqra := hS0.trans (hb.mono hS0.size)
     rw [← hbk]
     clear hw hbk
     refine hK.out _ _ hSN (fun hS0 => ?_)
     clear hK K hb hSN
     try simp only [Act.put, List.setIfInBounds_toArray, List.set_cons_zero, List.set_cons_succ]
     refine wpAnyH_ready (rs := [11]) (by kernel_rfl) (by simp) (AllReadyH.cons rfl (fun K hK => ?_) AllReadyH.nil)
     ·rw [if_pos (by rfl)]
      go_simp
      refine (HGU.out _ _).mono ?_
      rintro e wpqras ⟨rfl, hb⟩
      have hSN : Below w2.heap.size w2 wpqras := hS0.trans (hb.mono hS0.size)
      have ADpqras := Lib.hid (ADpqra.out.below hb)
      have hhilb : lb < wpqras.heap.size := Nat.lt_of_lt_of_le hhilb hb.size
      refine hK.out _ _ hSN (fun hS0 => ?_)
      clear hK K hb hSN
      try simp only [Act.put, List.setIfInBounds_toArray, List.set_cons_zero, List.set_cons_succ]
      refine takeD 28 (i := 12) (v := .agg #[.int .u64 x0, .int .u64 x1]) rfl rfl (by kernel_rfl) (by kernel_rfl) (by kernel_rfl) (fun _ _ _ h => h) (Or.inl ⟨by rfl, by (intro w' _; go_simp)⟩) (by assumption) ?_
      try simp only [Act.put, List.setIfInBounds_toArray, List.set_cons_zero, List.set_cons_succ]
      refine wpAnyH_ready (rs := [13]) (by kernel_rfl) (by simp) (AllReadyH.cons rfl (fun K hK => ?_) AllReadyH.nil)
      ·rw [if_pos (by rfl)]
       go_simp
       refine (HDE.out _).mono ?_
       rintro e wpqrast ⟨rfl, hb⟩
       have hSN : Below w2.heap.size w2 wpqrast := hS0.trans (hb.mono hS0.size)
       have ADpqrast := Lib.hid (ADpqras.out.below hb)
       have hhilb : lb < wpqrast.heap.size := Nat.lt_of_lt_of_le hhilb hb.size
       refine hK.out _ _ hSN (fun hS0 => ?_)
       clear hK K hb hSN
       try simp only [Act.put, List.setIfInBounds_toArray, List.set_cons_zero, List.set_cons_succ]
       refine takeD 30 (i := 14) (v := .agg D) rfl rfl (by kernel_rfl) (by kernel_rfl) (by kernel_rfl) (fun _ _ _ h => h) (Or.inl ⟨by rfl, by (intro w' _; go_simp)⟩) (by assumption) ?_
       try simp only [Act.put, List.setIfInBounds_toArray, List.set_cons_zero, List.set_cons_succ]
       refine takeD 31 (i := 15) (v := .int .i64 no) rfl rfl (by kernel_rfl) (by kernel_rfl) (by kernel_rfl) (fun _ _ _ h => h) (Or.inl ⟨by rfl, by (intro w' _; go_simp)⟩) (by assumption) ?_
       try simp only [Act.put, List.setIfInBounds_toArray, List.set_cons_zero, List.set_cons_succ]
       refine wpAnyH_ready (rs := [16]) (by kernel_rfl) (by simp) (AllReadyH.cons rfl (fun K hK => ?_) AllReadyH.nil)
       ·rw [if_pos (by rfl)]
        go_simp
        refine (HGD.out _).mono ?_
        rintro e w9 ⟨rfl, hb⟩
        exact ⟨rfl, rfl, (B2.out.trans (hS0.mono (by omega))).trans (hb.mono (by have := hS0.size; omega))⟩
   ·rw [if_pos (by rfl)]
    refine wp_allocN 72 6 rfl rfl zeroD (A := zDsc.cells) rfl ?_
    obtain ⟨wpqa, hw⟩ : ∃ x, x = (wpq).alloc (.cells zDsc.cells 72) := ⟨_, rfl⟩
    rw [← hw]
    have hb : Below (wpq).heap.size (wpq) wpqa := by rw [hw]; exact (Below.refl _ _).alloc (Nat.le_refl _) _
    have ADpqa := Lib.hid (show ArrAt wpqa (wpq).heap.size zDsc.cells by rw [hw]; exact (fun w => ArrAt.fresh w zDsc.cells 72 (by decide)) _)
    obtain ⟨lb, hbk⟩ : ∃ x, x = (wpq).heap.size := ⟨_, rfl⟩
    rw [← hbk] at ADpqa
    have hlolb : w2.heap.size ≤ lb := by rw [hbk]; exact hS0.size
    have hhilb : lb < wpqa.heap.size := ADpqa.out.lt
    have hSN : Below w2.heap.size w2 wpqa := hS0.trans (hb.mono hS0.size)
    rw [← hbk]
    clear hw hbk
    refine hK.out _ _ hSN (fun hS0 => ?_)
    clear hK K hb hSN
    try simp only [Act.put, List.setIfInBounds_toArray, List.set_cons_zero, List.set_cons_succ]
    refine wpAnyH_ready (rs := [8]) (by kernel_rfl) (by simp) (AllReadyH.cons rfl (fun K hK => ?_) AllReadyH.nil)
    ·rw [if_pos (by rfl)]
     go_simp
     refine (HX1.out _ _ _ (S0.out.below hS0)).mono ?_
     rintro e wpqar ⟨rfl, hb⟩
     have hSN : Below w2.heap.size w2 wpqar := hS0.trans (hb.mono hS0.size)
     have ADpqar := Lib.hid (ADpqa.out.below hb)
     have hhilb : lb < wpqar.heap.size := Nat.lt_of_lt_of_le hhilb hb.size
     refine hK.out _ _ hSN (fun hS0 => ?_)
     clear hK K hb hSN
     try simp only [Act.put, List.setIfInBounds_toArray, List.set_cons_zero, List.set_cons_succ]
     refine takeD 25 (i := 9) (v := .int .u64 x1) rfl rfl (by kernel_rfl) (by kernel_rfl) (by kernel_rfl) (fun _ _ _ h => h) (Or.inl ⟨by rfl, by (intro w' _; go_simp)⟩) (by assumption) ?_
     try simp only [Act.put, List.setIfInBounds_toArray, List.set_cons_zero, List.set_cons_succ]
     refine takeD 26 (i := 10) (v := .int .i64 0) rfl rfl (by kernel_rfl) (by kernel_rfl) (by kernel_rfl) (fun _ _ _ h => h) (Or.inl ⟨by rfl, by (intro w' _; go_simp)⟩) (by assumption) ?_
     try simp only [Act.put, List.setIfInBounds_toArray, List.set_cons_zero, List.set_cons_succ]
     refine wpAnyH_ready (rs := [11]) (by kernel_rfl) (by simp) (AllReadyH.cons rfl (fun K hK => ?_) AllReadyH.nil)
     ·rw [if_pos (by rfl)]
      go_simp
      refine (HGU.out _ _).mono ?_
      rintro e wpqars ⟨rfl, hb⟩
      have hSN : Below w2.heap.size w2 wpqars := hS0.trans (hb.mono hS0.size)
      have ADpqars := Lib.hid (ADpqar.out.below hb)
      have hhilb : lb < wpqars.heap.size := Nat.lt_of_lt_of_le hhilb hb.size
      refine hK.out _ _ hSN (fun hS0 => ?_)
      clear hK K hb hSN
      try simp only [Act.put, List.setIfInBounds_toArray, List.set_cons_zero, List.set_cons_succ]
      refine takeD 28 (i := 12) (v := .agg #[.int .u64 x0, .int .u64 x1]) rfl rfl (by kernel_rfl) (by kernel_rfl) (by kernel_rfl) (fun _ _ _ h => h) (Or.inl ⟨by rfl, by (intro w' _; go_simp)⟩) (by assumption) ?_
      try simp only [Act.put, List.setIfInBounds_toArray, List.set_cons_zero, List.set_cons_succ]
      refine wpAnyH_ready (rs := [13]) (by kernel_rfl) (by simp) (AllReadyH.cons rfl (fun K hK => ?_) AllReadyH.nil)
      ·rw [if_pos (by rfl)]
       go_simp
       refine (HDE.out _).mono ?_
       rintro e wpqarst ⟨rfl, hb⟩
       have hSN : Below w2.heap.size w2 wpqarst := hS0.trans (hb.mono hS0.size)
       have ADpqarst := Lib.hid (ADpqars.out.below hb)
       have hhilb : lb < wpqarst.heap.size := Nat.lt_of_lt_of_le hhilb hb.size
       refine hK.out _ _ hSN (fun hS0 => ?_)
       clear hK K hb hSN
       try simp only [Act.put, List.setIfInBounds_toArray, List.set_cons_zero, List.set_cons_succ]
       refine takeD 30 (i := 14) (v := .agg D) rfl rfl (by kernel_rfl) (by kernel_rfl) (by kernel_rfl) (fun _ _ _ h => h) (Or.inl ⟨by rfl, by (intro w' _; go_simp)⟩) (by assumption) ?_
       try simp only [Act.put, List.setIfInBounds_toArray, List.set_cons_zero, List.set_cons_succ]
       refine takeD 31 (i := 15) (v := .int .i64 no) rfl rfl (by kernel_rfl) (by kernel_rfl) (by kernel_rfl) (fun _ _ _ h => h) (Or.inl ⟨by rfl, by (intro w' _; go_simp)⟩) (by assumption) ?_
       try simp only [Act.put, List.setIfInBounds_toArray, List.set_cons_zero, List.set_cons_succ]
       refine wpAnyH_ready (rs := [16]) (by kernel_rfl) (by simp) (AllReadyH.cons rfl (fun K hK => ?_) AllReadyH.nil)
       ·rw [if_pos (by rfl)]
        go_simp
        refine (HGD.out _).mono ?_
        rintro e w9 ⟨rfl, hb⟩
        exact ⟨rfl, rfl, (B2.out.trans (hS0.mono (by omega))).trans (hb.mono (by have := hS0.size; omega))⟩
  ·rw [if_pos (by rfl)]
   refine wp_allocN 72 6 rfl rfl zeroD (A := zDsc.cells) rfl ?_
   obtain ⟨wpa, hw⟩ : ∃ x, x = (wp).alloc (.cells zDsc.cells 72) := ⟨_, rfl⟩
   rw [← hw]
   have hb : Below (wp).heap.size (wp) wpa := by rw [hw]; exact (Below.refl _ _).alloc (Nat.le_refl _) _
   have ADpa := Lib.hid (show ArrAt wpa (wp).heap.size zDsc.cells by rw [hw]; exact (fun w => ArrAt.fresh w zDsc.cells 72 (by decide)) _)
   obtain ⟨lb, hbk⟩ : ∃ x, x = (wp).heap.size := ⟨_, rfl⟩
   rw [← hbk] at ADpa
   have hlolb : w2.heap.size ≤ lb := by rw [hbk]; exact hS0.size
   have hhilb : lb < wpa.heap.size := ADpa.out.lt
   have hSN : Below w2.heap.size w2 wpa := hS0.trans (hb.mono hS0.size)
   rw [← hbk]
   clear hw hbk
   refine hK.out _ _ hSN (fun hS0 => ?_)
   clear hK K hb hSN
   try simp only [Act.put, List.setIfInBounds_toArray, List.set_cons_zero, List.set_cons_succ]
   refine wpAnyH_ready (rs := [5]) (by kernel_rfl) (by simp) (AllReadyH.cons rfl (fun K hK => ?_) AllReadyH.nil)
   ·rw [if_pos (by rfl)]
    go_simp
    refine (HGU.out _ _).mono ?_
    rintro e wpaq ⟨rfl, hb⟩
    have hSN : Below w2.heap.size w2 wpaq := hS0.trans (hb.mono hS0.size)
    have ADpaq := Lib.hid (ADpa.out.below hb)
    have hhilb : lb < wpaq.heap.size := Nat.lt_of_lt_of_le hhilb hb.size
    refine hK.out _ _ hSN (fun hS0 => ?_)
    clear hK K hb hSN
    try simp only [Act.put, List.setIfInBounds_toArray, List.set_cons_zero, List.set_cons_succ]
    refine wpAnyH_ready (rs := [8]) (by kernel_rfl) (by simp) (AllReadyH.cons rfl (fun K hK => ?_) AllReadyH.nil)
    ·rw [if_pos (by rfl)]
     go_simp
     refine (HX1.out _ _ _ (S0.out.below hS0)).mono ?_
     rintro e wpaqr ⟨rfl, hb⟩
     have hSN : Below w2.heap.size w2 wpaqr := hS0.trans (hb.mono hS0.size)
     have ADpaqr := Lib.hid (ADpaq.out.below hb)
     have hhilb : lb < wpaqr.heap.size := Nat.lt_of_lt_of_le hhilb hb.size
     refine hK.out _ _ hSN (fun hS0 => ?_)
     clear hK K hb hSN
     try simp only [Act.put, List.setIfInBounds_toArray, List.set_cons_zero, List.set_cons_succ]
     refine takeD 25 (i := 9) (v := .int .u64 x1) rfl rfl (by kernel_rfl) (by kernel_rfl) (by kernel_rfl) (fun _ _ _ h => h) (Or.inl ⟨by rfl, by (intro w' _; go_simp)⟩) (by assumption) ?_
     try simp only [Act.put, List.setIfInBounds_toArray, List.set_cons_zero, List.set_cons_succ]
     refine takeD 26 (i := 10) (v := .int .i64 0) rfl rfl (by kernel_rfl) (by kernel_rfl) (by kernel_rfl) (fun _ _ _ h => h) (Or.inl ⟨by rfl, by (intro w' _; go_simp)⟩) (by assumption) ?_
     try simp only [Act.put, List.setIfInBounds_toArray, List.set_cons_zero, List.set_cons_succ]
     refine wpAnyH_ready (rs := [11]) (by kernel_rfl) (by simp) (AllReadyH.cons rfl (fun K hK => ?_) AllReadyH.nil)
     ·rw [if_pos (by rfl)]
      go_simp
      refine (HGU.out _ _).mono ?_
      rintro e wpaqrs ⟨rfl, hb⟩
      have hSN : Below w2.heap.size w2 wpaqrs := hS0.trans (hb.mono hS0.size)
      have ADpaqrs := Lib.hid (ADpaqr.out.below hb)
      have hhilb : lb < wpaqrs.heap.size := Nat.lt_of_lt_of_le hhilb hb.size
      refine hK.out _ _ hSN (fun hS0 => ?_)
      clear hK K hb hSN
      try simp only [Act.put, List.setIfInBounds_toArray, List.set_cons_zero, List.set_cons_succ]
      refine takeD 28 (i := 12) (v := .agg #[.int .u64 x0, .int .u64 x1]) rfl rfl (by kernel_rfl) (by kernel_rfl) (by kernel_rfl) (fun _ _ _ h => h) (Or.inl ⟨by rfl, by (intro w' _; go_simp)⟩) (by assumption) ?_
      try simp only [Act.put, List.setIfInBounds_toArray, List.set_cons_zero, List.set_cons_succ]
      refine wpAnyH_ready (rs := [13]) (by kernel_rfl) (by simp) (AllReadyH.cons rfl (fun K hK => ?_) AllReadyH.nil)
      ·rw [if_pos (by rfl)]
       go_simp
       refine (HDE.out _).mono ?_
       rintro e wpaqrst ⟨rfl, hb⟩
       have hSN : Below w2.heap.size w2 wpaqrst := hS0.trans (hb.mono hS0.size)
       have ADpaqrst := Lib.hid (ADpaqrs.out.below hb)
       have hhilb : lb < wpaqrst.heap.size := Nat.lt_of_lt_of_le hhilb hb.size
       refine hK.out _ _ hSN (fun hS0 => ?_)
       clear hK K hb hSN
       try simp only [Act.put, List.setIfInBounds_toArray, List.set_cons_zero, List.set_cons_succ]
       refine takeD 30 (i := 14) (v := .agg D) rfl rfl (by kernel_rfl) (by kernel_rfl) (by kernel_rfl) (fun _ _ _ h => h) (Or.inl ⟨by rfl, by (intro w' _; go_simp)⟩) (by assumption) ?_
       try simp only [Act.put, List.setIfInBounds_toArray, List.set_cons_zero, List.set_cons_succ]
       refine takeD 31 (i := 15) (v := .int .i64 no) rfl rfl (by kernel_rfl) (by kernel_rfl) (by kernel_rfl) (fun _ _ _ h => h) (Or.inl ⟨by rfl, by (intro w' _; go_simp)⟩) (by assumption) ?_
       try simp only [Act.put, List.setIfInBounds_toArray, List.set_cons_zero, List.set_cons_succ]
       refine wpAnyH_ready (rs := [16]) (by kernel_rfl) (by simp) (AllReadyH.cons rfl (fun K hK => ?_) AllReadyH.nil)
       ·rw [if_pos (by rfl)]
        go_simp
        refine (HGD.out _).mono ?_
        rintro e w9 ⟨rfl, hb⟩
        exact ⟨rfl, rfl, (B2.out.trans (hS0.mono (by omega))).trans (hb.mono (by have := hS0.size; omega))⟩
 ·rw [if_pos (by rfl)]
  refine wp_allocN 72 6 rfl rfl zeroD (A := zDsc.cells) rfl ?_
  obtain ⟨wa, hw⟩ : ∃ x, x = (w2.drew).alloc (.cells zDsc.cells 72) := ⟨_, rfl⟩
  rw [← hw]
  have hb : Below (w2.drew).heap.size (w2.drew) wa := by rw [hw]; exact (Below.refl _ _).alloc (Nat.le_refl _) _
  have ADa := Lib.hid (show ArrAt wa (w2.drew).heap.size zDsc.cells by rw [hw]; exact (fun w => ArrAt.fresh w zDsc.cells 72 (by decide)) _)
  obtain ⟨lb, hbk⟩ : ∃ x, x = (w2.drew).heap.size := ⟨_, rfl⟩
  rw [← hbk] at ADa
  have hlolb : w2.heap.size ≤ lb := by rw [hbk]; exact hS0.size
  have hhilb : lb < wa.heap.size := ADa.out.lt
  have hSN : Below w2.heap.size w2 wa := hS0.trans (hb.mono hS0.size)
  rw [← hbk]
  clear hw hbk
  refine hK.out _ _ hSN (fun hS0 => ?_)
  clear hK K hb hSN
  try simp only [Act.put, List.setIfInBounds_toArray, List.set_cons_zero, List.set_cons_succ]
  refine wpAnyH_ready (rs := [2]) (by kernel_rfl) (by simp) (AllReadyH.cons rfl (fun K hK => ?_) AllReadyH.nil)
  ·rw [if_pos (by rfl)]
   go_simp
   refine (HX0.out _ _ _ (S0.out.below hS0)).mono ?_
   rintro e wap ⟨rfl, hb⟩
   have hSN : Below w2.heap.size w2 wap := hS0.trans (hb.mono hS0.size)
   have ADap := Lib.hid (ADa.out.below hb)
   have hhilb : lb < wap.heap.size := Nat.lt_of_lt_of_le hhilb hb.size
   refine hK.out _ _ hSN (fun hS0 => ?_)
   clear hK K hb hSN
   try simp only [Act.put, List.setIfInBounds_toArray, List.set_cons_zero, List.set_cons_succ]
   refine takeD 19 (i := 3) (v := .int .u64 x0) rfl rfl (by kernel_rfl) (by kernel_rfl) (by kernel_rfl) (fun _ _ _ h => h) (Or.inl ⟨by rfl, by (intro w' _; go_simp)⟩) (by assumption) ?_
   try simp only [Act.put, List.setIfInBounds_toArray, List.set_cons_zero, List.set_cons_succ]
   refine takeD 20 (i := 4) (v := .int .i64 0) rfl rfl (by kernel_rfl) (by kernel_rfl) (by kernel_rfl) (fun _ _ _ h => h) (Or.inl ⟨by rfl, by (intro w' _; go_simp)⟩) (by assumption) ?_
   try simp only [Act.put, List.setIfInBounds_toArray, List.set_cons_zero, List.set_cons_succ]
   refine wpAnyH_ready (rs := [5]) (by kernel_rfl) (by simp) (AllReadyH.cons rfl (fun K hK => ?_) AllReadyH.nil)
   ·rw [if_pos (by rfl)]
    go_simp
    refine (HGU.out _ _).mono ?_
    rintro e wapq ⟨rfl, hb⟩
    have hSN : Below w2.heap.size w2 wapq := hS0.trans (hb.mono hS0.size)
    have ADapq := Lib.hid (ADap.out.below hb)
    have hhilb : lb < wapq.heap.size := Nat.lt_of_lt_of_le hhilb hb.size
    refine hK.out _ _ hSN (fun hS0 => ?_)
    clear hK K hb hSN
    try simp only [Act.put, List.setIfInBounds_toArray, List.set_cons_zero, List.set_cons_succ]
    refine wpAnyH_ready (rs := [8]) (by kernel_rfl) (by simp) (AllReadyH.cons rfl (fun K hK => ?_) AllReadyH.nil)
    ·rw [if_pos (by rfl)]
     go_simp
     refine (HX1.out _ _ _ (S0.out.below hS0)).mono ?_
     rintro e wapqr ⟨rfl, hb⟩
     have hSN : Below w2.heap.size w2 wapqr := hS0.trans (hb.mono hS0.size)
     have ADapqr := Lib.hid (ADapq.out.below hb)
     have hhilb : lb < wapqr.heap.size := Nat.lt_of_lt_of_le hhilb hb.size
     refine hK.out _ _ hSN (fun hS0 => ?_)
     clear hK K hb hSN
     try simp only [Act.put, List.setIfInBounds_toArray, List.set_cons_zero, List.set_cons_succ]
     refine takeD 25 (i := 9) (v := .int .u64 x1) rfl rfl (by kernel_rfl) (by kernel_rfl) (by kernel_rfl) (fun _ _ _ h => h) (Or.inl ⟨by rfl, by (intro w' _; go_simp)⟩) (by assumption) ?_
     try simp only [Act.put, List.setIfInBounds_toArray, List.set_cons_zero, List.set_cons_succ]
     refine takeD 26 (i := 10) (v := .int .i64 0) rfl rfl (by kernel_rfl) (by kernel_rfl) (by kernel_rfl) (fun _ _ _ h => h) (Or.inl ⟨by rfl, by (intro w' _; go_simp)⟩) (by assumption) ?_
     try simp only [Act.put, List.setIfInBounds_toArray, List.set_cons_zero, List.set_cons_succ]
     refine wpAnyH_ready (rs := [11]) (by kernel_rfl) (by simp) (AllReadyH.cons rfl (fun K hK => ?_) AllReadyH.nil)
     ·rw [if_pos (by rfl)]
      go_simp
      refine (HGU.out _ _).mono ?_
      rintro e wapqrs ⟨rfl, hb⟩
      have hSN : Below w2.heap.size w2 wapqrs := hS0.trans (hb.mono hS0.size)
      have ADapqrs := Lib.hid (ADapqr.out.below hb)
      have hhilb : lb < wapqrs.heap.size := Nat.lt_of_lt_of_le hhilb hb.size
      refine hK.out _ _ hSN (fun hS0 => ?_)
      clear hK K hb hSN
      try simp only [Act.put, List.setIfInBounds_toArray, List.set_cons_zero, List.set_cons_succ]
      refine takeD 28 (i := 12) (v := .agg #[.int .u64 x0, .int .u64 x1]) rfl rfl (by kernel_rfl) (by kernel_rfl) (by kernel_rfl) (fun _ _ _ h => h) (Or.inl ⟨by rfl, by (intro w' _; go_simp)⟩) (by assumption) ?_
      try simp only [Act.put, List.setIfInBounds_toArray, List.set_cons_zero, List.set_cons_succ]
      refine wpAnyH_ready (rs := [13]) (by kernel_rfl) (by simp) (AllReadyH.cons rfl (fun K hK => ?_) AllReadyH.nil)
      ·rw [if_pos (by rfl)]
       go_simp
       refine (HDE.out _).mono ?_
       rintro e wapqrst ⟨rfl, hb⟩
       have hSN : Below w2.heap.size w2 wapqrst := hS0.trans (hb.mono hS0.size)
       have ADapqrst := Lib.hid (ADapqrs.out.below hb)
       have hhilb : lb < wapqrst.heap.size := Nat.lt_of_lt_of_le hhilb hb.size
       refine hK.out _ _ hSN (fun hS0 => ?_)
       clear hK K hb hSN
       try simp only [Act.put, List.setIfInBounds_toArray, List.set_cons_zero, List.set_cons_succ]
       refine takeD 30 (i := 14) (v := .agg D) rfl rfl (by kernel_rfl) (by kernel_rfl) (by kernel_rfl) (fun _ _ _ h => h) (Or.inl ⟨by rfl, by (intro w' _; go_simp)⟩) (by assumption) ?_
       try simp only [Act.put, List.setIfInBounds_toArray, List.set_cons_zero, List.set_cons_succ]
       refine takeD 31 (i := 15) (v := .int .i64 no) rfl rfl (by kernel_rfl) (by kernel_rfl) (by kernel_rfl) (fun _ _ _ h => h) (Or.inl ⟨by rfl, by (intro w' _; go_simp)⟩) (by assumption) ?_
       try simp only [Act.put, List.setIfInBounds_toArray, List.set_cons_zero, List.set_cons_succ]
       refine wpAnyH_ready (rs := [16]) (by kernel_rfl) (by simp) (AllReadyH.cons rfl (fun K hK => ?_) AllReadyH.nil)
       ·rw [if_pos (by rfl)]
        go_simp
        refine (HGD.out _).mono ?_
        rintro e w9 ⟨rfl, hb⟩
        exact ⟨rfl, rfl, (B2.out.trans (hS0.mono (by omega))).trans (hb.mono (by have := hS0.size; omega))⟩
end Go.Proofs.YtfmabknhfehdcaaGreat
