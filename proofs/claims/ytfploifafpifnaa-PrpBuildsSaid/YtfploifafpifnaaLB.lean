/- prp: the law PrpBounds. -/
import Derived.Test.YtfploifafpifnaaBI
namespace Go.Proofs.Ytfploifafpifnaa
set_option linter.unusedVariables false
set_option linter.unusedSimpArgs false
open Go.RowKit

theorem new16 (w : World) : Calls Try.prog 15 #[.int .i64 16] w fun e w' => ∃ b B, e = .returned (.tuple #[.pointer (some ⟨b, 0, none⟩), .int .i64 0]) ∧ w.heap.size ≤ b ∧ w.heap.size ≤ B ∧ Below w.heap.size w w' ∧ MemAt w' b B 65536 (fun _ => 0) [] := by
  have h := new_ok 16 w (by omega) (by omega)
  rw [show 16 * 4096 = 65536 by omega] at h
  exact h
/-- the first k pages of a list -/
def pgL (p : Nat → Int) (k : Nat) : List Value := (List.range k).map fun i => .int .u64 (p i)
theorem pgL_succ (p : Nat → Int) (k : Nat) : pgL p k ++ [.int .u64 (p k)] = pgL p (k + 1) := by
  unfold pgL
  rw [List.range_succ, List.map_append]
  rfl
theorem pgL_get (p : Nat → Int) (k i : Nat) (h : i < k) : (pgL p k)[i]? = some (.int .u64 (p i)) := by simp [pgL, h]
theorem uAt_pgL {W : World} {base k : Nat} {v : Value} {p : Nat → Int} (h : W.ownsRow base 31 1 v k (pgL p k)) : ∃ ao c, v = .slice ao k c ∧ k ≤ c ∧ c ≤ 9223372036854775807 ∧ UAt W ao k p ∧ ∀ g o, ao = some ⟨g, o, none⟩ → base ≤ g ∧ g < W.heap.size := by
  obtain ⟨ao, c, rfl, h1, h2⟩ := ownsRow_shape h
  refine ⟨ao, c, rfl, h1, by unfold maxLen at h2; omega, fun h0 => ?_, fun g o e => ⟨own_ge h g o e, own_lt h g o e⟩⟩
  obtain ⟨g, cap, e, hb, hc⟩ := own_form h h0
  cases e
  refine ⟨g, 0, rfl, fun i hi => ?_⟩
  rw [Nat.zero_add]
  exact hc i _ hi (pgL_get p k i hi)
/-- the pages of the law -/
def pb (i : Nat) : Int := (i : Int) % 8 * 4096
theorem bt_bounds (o at' : Nat) (ho : o < 4096) (h4 : o % 4 = 0) (ha : at' < 4096) (h8 : at' % 8 = 0) (K : Nat) (hK : (K : Int) = (o + 1048576 + 4095) / 4096) : Bt 65536 (32768 + at') 36864 ((4096 - (32768 + at') % 4096) / 8) K pb o 1048576 := by
  refine ⟨by omega, by omega, by omega, by omega, by omega, ?_, fun i hi => ?_, by omega, by omega, rfl, by omega, by omega, by omega, by omega⟩
  · unfold pgs
    rw [if_neg (by omega)]
    omega
  · unfold pb
    omega
section
variable (ofs st : Int) (w : World) (h0 : 0 ≤ ofs ∧ ofs ≤ 65535) (h1 : 0 ≤ st ∧ st ≤ 65535)
include h0 h1
set_option maxRecDepth 100000 in
set_option maxHeartbeats 8000000 in
theorem bounds_in : Calls Try.prog 4 #[.int .u16 ofs, .int .u16 st, .bool false] w fun e w' => e = .returned (.bool true) ∧ Below w.heap.size w w' := by
  obtain ⟨o, ho⟩ : ∃ z : Nat, (z : Int) = ofs % 1024 * 4 := ⟨(ofs % 1024 * 4).toNat, by omega⟩
  obtain ⟨at', hat⟩ : ∃ z : Nat, (z : Int) = st % 512 * 8 := ⟨(st % 512 * 8).toNat, by omega⟩
  obtain ⟨K, hK⟩ : ∃ z : Nat, (z : Int) = (o + 1048576 + 4095) / 4096 := ⟨(((o : Int) + 1048576 + 4095) / 4096).toNat, by omega⟩
  have HBT := Lib.hid (bt_bounds o at' (by omega) (by omega) (by omega) (by omega) K hK)
  have ho4 : o < 4096 := by omega
  have ha4 : at' < 4096 := by omega
  have hK0 : 256 ≤ K ∧ K ≤ 257 := by omega
  have t1 : ofs.tmod 1024 = ofs % 1024 := Int.tmod_eq_emod_of_nonneg h0.1
  have HO := Lib.hid ho
  have HA := Lib.hid hat
  have HK := Lib.hid hK
  obtain ⟨g0, g1⟩ := h0
  obtain ⟨g2, g3⟩ := h1
  obtain ⟨k0, k1⟩ := hK0
  clear ho hat hK t1
  go_enter Try.func4, Try.ntmps4
  go_upto_region 2 with (go_at_call 15; refine (new16 _).mono ?_; rintro e W1 ⟨b, B, rfl, hb1, hB1, hbl1, hM1⟩; have B1 := Lib.hid hbl1; have M1 := Lib.hid hM1; clear hbl1 hM1)
  go_upto_region 8 with fail
  rw [← HO.out, ← HA.out]
  obtain ⟨bs, hbs⟩ : ∃ z, z = W1.heap.size := ⟨_, rfl⟩
  have hbb : b < bs := by rw [hbs]; exact M1.out.lt
  have hBB : B < bs := by rw [hbs]; exact M1.out.lt'
  have hbw : w.heap.size ≤ bs := by rw [hbs]; exact B1.out.size
  have HBS := Lib.hid hbs
  clear hbs
  go_loopw [12, 13] (fun v12 v13 wr => ∃ k : Nat, k ≤ K ∧ v13 = .int .i64 (k : Nat) ∧ wr.ownsRow bs 31 1 v12 k (pgL pb k) ∧ Keeps (fun j => bs ≤ j) W1 wr) (fun _ v13 _ => K - (intOf v13).toNat)
  case atStart => exact ⟨0, by omega, rfl, World.ownsRow_nil _ _ _ _, Keeps.refl _ _⟩
  case round =>
    obtain ⟨k, hk, rfl, hown, hkp⟩ := hrel
    have HOW := Lib.hid hown
    have HKP := Lib.hid hkp
    have hwr : bs ≤ wr.heap.size := by rw [HBS.out]; exact hkp.size
    clear hown hkp
    by_cases hkK : k < K
    · have q1 : decide ((k : Int) < ((o : Int) + 1048576 + 4095) / 4096) = true := decide_eq_true (by have := HK.out; omega)
      obtain ⟨i0, hi0, hz0, hz1, hz2⟩ := info_parts infoU64
      have HS := Lib.hid (show pgL pb k ++ [.int .u64 ((k : Int) % 8 * 4096)] = pgL pb (k + 1) from pgL_succ pb k)
      go_wp2_with (first
        | (at_builtin; refine wpList_append_lies _ rfl _ _ 22 rfl bs 31 i0 _ 1 8 Try.underlying22 hi0 hz0 hz1 hz2 rfl (by decide) u12 k (pgL pb k) rfl (HOW.out.alloc _) ⟨wr.heap.size, 0, none⟩ 1 1 [.int .u64 ((k : Int) % 8 * 4096)] rfl rfl (World.news_of_block (cs := #[.int .u64 ((k : Int) % 8 * 4096)]) (t := 31) (fr := (0, 0)) (heap_alloc_new wr _)) (by simp [Value.oneCell']) (by decide) (by unfold maxLen; omega) (by omega) (by simp; omega) (wr.heap.size + 1) (by simp) ?_; intro gg cap w6 hown6 hgr6 hat6 hlt6; rw [HS.out] at hown6; have O6 := Lib.hid hown6; have K6 := Lib.hid (grown_keeps ((Below.refl _ wr).alloc (Nat.le_refl _) _) HOW.out hwr hgr6); clear hown6 hgr6 hat6))
      exact ⟨⟨k + 1, by omega, by go_num, O6.out, HKP.out.trans K6.out⟩, by simp [intOf]; omega⟩
    · obtain rfl : k = K := by omega
      have q1 : decide ((k : Int) < ((o : Int) + 1048576 + 4095) / 4096) = false := decide_eq_false (by have := HK.out; omega)
      obtain ⟨ao, c, rfl, hc1, hc2, hua, hag⟩ := uAt_pgL HOW.out
      have M2 := Lib.hid (M1.out.kept HKP.out (fun e => by have e : bs ≤ b := e; omega) (fun e => by have e : bs ≤ B := e; omega))
      have HBU := Lib.hid (show Calls Try.prog 10 #[.pointer (some ⟨b, 0, none⟩), .slice (some ⟨wr.heap.size, 0, none⟩) 2 2, .slice ao k c, .int .i64 o, .int .i64 1048576] (wr.alloc (.cells #[.int .u64 (32768 + (at' : Int)), .int .u64 36864] 31)) (fun e w' => ∃ (F : Nat → Int) (L : List (Nat × Nat)), e = .returned (.tuple #[.int .u64 o, .int .u64 (32768 + (at' : Int)), .int .i64 0]) ∧ Keeps (Two b B) wr w' ∧ MemAt w' b B 65536 F L ∧ Bytes F ∧ spansP F 65536 o (32768 + (at' : Int)) 1048576 = .ok (outP pb o 1048576 k)) by
        have h := built_any HBT.out b B _ bytes0 [] (by simp) ao c wr M2.out hua hc1 hc2
        simp only [Int.natCast_add, Int.cast_ofNat_Int] at h
        refine h.mono ?_
        rintro e w' ⟨second, F, L, rfl, hk, hm, hF, -, -, h3, hsp⟩
        have h3 := h3 (by omega)
        simp only [Int.natCast_add, Int.cast_ofNat_Int] at h3
        subst h3
        have e0 : pb 0 + (o : Int) = o := by unfold pb; omega
        rw [e0] at hsp ⊢
        exact ⟨F, L, rfl, hk, hm, hF, hsp⟩)
      have HUA := Lib.hid hua
      have HAG := Lib.hid hag
      clear hua hag
      go_upto_region 12 with (go_at_call 10; refine HBU.out.mono ?_; rintro e w2 ⟨F, L, rfl, hk2, hm2, hF2, hsp2⟩; have K2 := Lib.hid hk2; have M3 := Lib.hid hm2; have BF := Lib.hid hF2; have HSP := Lib.hid hsp2; clear hk2 hm2 hF2 hsp2)
      have HSS := Lib.hid (show Calls Try.prog 16 #[.pointer (some ⟨b, 0, none⟩), .int .u64 o, .int .u64 (32768 + (at' : Int)), .int .i64 1048576] w2 (SpPost w2 (.ok (outP pb o 1048576 k))) by
        have h := spans_all o (32768 + (at' : Int)) 1048576 b B 65536 F L w2 M3.out (by omega) (by omega) (by omega) (by omega) (by omega) BF.out
        rw [HSP.out] at h
        exact h)
      go_upto_region 13 with (go_at_call 16; refine HSS.out.mono ?_; rintro e w3 ⟨hb3, v3, rfl, hown3⟩; have B3 := Lib.hid hb3; have O3 := Lib.hid hown3; clear hb3 hown3)
      have hsa := O3.out
      rw [outP_length] at hsa
      obtain ⟨sa, cs, rfl, hl1, hl2⟩ := ownsRow_shape hsa
      have HSA := Lib.hid (spAt_owns (show w3.ownsRow w2.heap.size 49 3 (.slice sa (outP pb o 1048576 k).length cs) (outP pb o 1048576 k).length (spC (outP pb o 1048576 k)) by rw [outP_length]; exact hsa))
      clear hsa hl1 hl2
      obtain ⟨J, rfl⟩ : ∃ J, k = J + 1 := ⟨k - 1, by omega⟩
      obtain ⟨gs, os, rfl, hsc⟩ := HSA.out J (by rw [outP_length]; omega)
      obtain ⟨gd, od, rfl, hdc⟩ := HUA.out (by omega)
      have x1 := hdc J (by omega)
      have hgd := HAG.out gd od rfl
      have x2 := (K2.out.cell x1 (fun e => by rcases e with e | e <;> (have e : gd = _ := e; omega)))
      have x3 : w3.cell? ⟨gd, od + J, none⟩ = some (.int .u64 (pb J)) := (B3.out.cell (p := ⟨gd, od + J, none⟩) (World.block_lt_of_cell? _ _ x2)).trans x2
      have y0 : w3.cell? ⟨gs, os + J * 3, none⟩ = some (.int .u64 (pb J)) := hsc 0 _ (by
        have e : (outP pb (o : Int) 1048576 (J + 1))[J]'(by rw [outP_length]; omega) = ⟨adP pb o J, lenP o 1048576 J, false⟩ := by simp [outP]
        rw [e]
        unfold Spn.l adP
        rw [if_neg (by omega)]
        rfl)
      have HX := Lib.hid x3
      have HY := Lib.hid y0
      have B13 := Lib.hid (show Below w.heap.size w w3 from ((B1.out.trans (HKP.out.below (B := w.heap.size) B1.out.size (fun j hj e => by have e : bs ≤ j := e; omega))).trans (K2.out.below (B := w.heap.size) (by omega) (fun j hj e => by rcases e with e | e <;> omega))).trans (B3.out.mono (by have := K2.out.size; omega)))
      have lX : gd < w3.heap.size := World.block_lt_of_cell? _ _ x3
      have lY : gs < w3.heap.size := World.block_lt_of_cell? _ _ y0
      have hq0 : ∀ p : InC (Below w3.heap.size w3), p.w.cell? ⟨gd, od + J, none⟩ = some (.int .u64 (pb J)) := fun p => (p.ok.cell (p := ⟨gd, od + J, none⟩) lX).trans HX.out
      have hq1 : ∀ p : InC (Below w3.heap.size w3), p.w.cell? ⟨gs, os + J * 3, none⟩ = some (.int .u64 (pb J)) := fun p => (p.ok.cell (p := ⟨gs, os + J * 3, none⟩) lY).trans HY.out
      have HE1 : Hid (∀ (p : InC (Below w3.heap.size w3)), Calls Try.prog 14 #[.int .i64 0] p.w fun e w' => e = .returned (.int .i64 0) ∧ Below w3.heap.size w3 w') :=
        Lib.hid fun p => (num_any 0 p.w).mono fun e w' k => ⟨k.1, k.2 ▸ p.ok⟩
      have HE2 : Hid (∀ (p : InC (Below w3.heap.size w3)), Calls Try.prog 9 #[] p.w fun e w' => e = .returned (.bool true) ∧ Below w3.heap.size w3 w') :=
        Lib.hid fun p => (works_ok p.w).mono fun e w' k => ⟨k.1, p.ok.trans (k.2.mono p.ok.size)⟩
      have hNE : Nonempty (InC (Below w3.heap.size w3)) := ⟨⟨w3, Below.refl _ _⟩⟩
      have hJ0 : (0 : Int) ≤ (J : Int) := by omega
      have hJ1 : (J : Int) < ((J + 1 : Nat) : Int) := by omega
      clear x1 x2 x3 y0 hsc hdc hgd lX lY
      go_upto_region 15 with fail
      refine wp_quiet_in (Below w3.heap.size w3) (Below.refl _ _).drew (by kernel_rfl) (by kernel_rfl) ?_
      repeat (go_big_quiet_step (first | (with_reducible exact calls_in (HE1.out _)) | (with_reducible exact calls_in (HE2.out _))))
      refine wpQuiet_nil ?_
      intro _ hw'
      obtain ⟨p, hw''⟩ := hw'
      subst hw''
      go_wp2_with fail
      go_ret
      exact ⟨by simp, B13.out.trans (p.ok.mono B13.out.size)⟩
set_option maxRecDepth 100000 in
set_option maxHeartbeats 8000000 in
theorem bounds_past : Calls Try.prog 4 #[.int .u16 ofs, .int .u16 st, .bool true] w fun e w' => e = .returned (.bool true) ∧ Below w.heap.size w w' := by
  obtain ⟨o, ho⟩ : ∃ z : Nat, (z : Int) = ofs % 1024 * 4 := ⟨(ofs % 1024 * 4).toNat, by omega⟩
  obtain ⟨at', hat⟩ : ∃ z : Nat, (z : Int) = st % 512 * 8 := ⟨(st % 512 * 8).toNat, by omega⟩
  obtain ⟨K, hK⟩ : ∃ z : Nat, (z : Int) = (o + 1048577 + 4095) / 4096 := ⟨(((o : Int) + 1048577 + 4095) / 4096).toNat, by omega⟩
  have ho4 : o < 4096 := by omega
  have ha4 : at' < 4096 := by omega
  have hK0 : 256 ≤ K ∧ K ≤ 258 := by omega
  have t1 : ofs.tmod 1024 = ofs % 1024 := Int.tmod_eq_emod_of_nonneg h0.1
  have HO := Lib.hid ho
  have HA := Lib.hid hat
  have HK := Lib.hid hK
  obtain ⟨g0, g1⟩ := h0
  obtain ⟨g2, g3⟩ := h1
  obtain ⟨k0, k1⟩ := hK0
  clear ho hat hK t1
  go_enter Try.func4, Try.ntmps4
  go_upto_region 2 with (go_at_call 15; refine (new16 _).mono ?_; rintro e W1 ⟨b, B, rfl, hb1, hB1, hbl1, hM1⟩; have B1 := Lib.hid hbl1; have M1 := Lib.hid hM1; clear hbl1 hM1)
  go_upto_region 8 with fail
  rw [← HO.out, ← HA.out]
  obtain ⟨bs, hbs⟩ : ∃ z, z = W1.heap.size := ⟨_, rfl⟩
  have hbb : b < bs := by rw [hbs]; exact M1.out.lt
  have hBB : B < bs := by rw [hbs]; exact M1.out.lt'
  have hbw : w.heap.size ≤ bs := by rw [hbs]; exact B1.out.size
  have HBS := Lib.hid hbs
  clear hbs
  go_loopw [12, 13] (fun v12 v13 wr => ∃ k : Nat, k ≤ K ∧ v13 = .int .i64 (k : Nat) ∧ wr.ownsRow bs 31 1 v12 k (pgL pb k) ∧ Keeps (fun j => bs ≤ j) W1 wr) (fun _ v13 _ => K - (intOf v13).toNat)
  case atStart => exact ⟨0, by omega, rfl, World.ownsRow_nil _ _ _ _, Keeps.refl _ _⟩
  case round =>
    obtain ⟨k, hk, rfl, hown, hkp⟩ := hrel
    have HOW := Lib.hid hown
    have HKP := Lib.hid hkp
    have hwr : bs ≤ wr.heap.size := by rw [HBS.out]; exact hkp.size
    clear hown hkp
    by_cases hkK : k < K
    · have q1 : decide ((k : Int) < ((o : Int) + 1048577 + 4095) / 4096) = true := decide_eq_true (by have := HK.out; omega)
      obtain ⟨i0, hi0, hz0, hz1, hz2⟩ := info_parts infoU64
      have HS := Lib.hid (show pgL pb k ++ [.int .u64 ((k : Int) % 8 * 4096)] = pgL pb (k + 1) from pgL_succ pb k)
      go_wp2_with (first
        | (at_builtin; refine wpList_append_lies _ rfl _ _ 22 rfl bs 31 i0 _ 1 8 Try.underlying22 hi0 hz0 hz1 hz2 rfl (by decide) u12 k (pgL pb k) rfl (HOW.out.alloc _) ⟨wr.heap.size, 0, none⟩ 1 1 [.int .u64 ((k : Int) % 8 * 4096)] rfl rfl (World.news_of_block (cs := #[.int .u64 ((k : Int) % 8 * 4096)]) (t := 31) (fr := (0, 0)) (heap_alloc_new wr _)) (by simp [Value.oneCell']) (by decide) (by unfold maxLen; omega) (by omega) (by simp; omega) (wr.heap.size + 1) (by simp) ?_; intro gg cap w6 hown6 hgr6 hat6 hlt6; rw [HS.out] at hown6; have O6 := Lib.hid hown6; have K6 := Lib.hid (grown_keeps ((Below.refl _ wr).alloc (Nat.le_refl _) _) HOW.out hwr hgr6); clear hown6 hgr6 hat6))
      exact ⟨⟨k + 1, by omega, by go_num, O6.out, HKP.out.trans K6.out⟩, by simp [intOf]; omega⟩
    · obtain rfl : k = K := by omega
      have q1 : decide ((k : Int) < ((o : Int) + 1048577 + 4095) / 4096) = false := decide_eq_false (by have := HK.out; omega)
      obtain ⟨ao, c, rfl, hc1, hc2, hua, hag⟩ := uAt_pgL HOW.out
      have M2 := Lib.hid (M1.out.kept HKP.out (fun e => by have e : bs ≤ b := e; omega) (fun e => by have e : bs ≤ B := e; omega))
      have HUA := Lib.hid hua
      clear hua hag
      have HBU := Lib.hid (show Calls Try.prog 10 #[.pointer (some ⟨b, 0, none⟩), .slice (some ⟨wr.heap.size, 0, none⟩) 2 2, .slice ao k c, .int .i64 o, .int .i64 1048577] (wr.alloc (.cells #[.int .u64 (32768 + (at' : Int)), .int .u64 36864] 31)) (BRes wr 0 0 2) by
        obtain ⟨Wa, hWa⟩ : ∃ z, z = wr.alloc (.cells #[.int .u64 (32768 + (at' : Int)), .int .u64 36864] 31) := ⟨_, rfl⟩
        have u2 : UAt Wa (some ⟨wr.heap.size, 0, none⟩) 2 (ls2 (32768 + at') 36864) := by
          rw [hWa]
          refine uAt_fresh wr _ 2 _ _ (fun i hi => by
            match i, hi with
            | 0, _ => simp [ls2]
            | 1, _ => rfl)
        have ba : Below wr.heap.size wr Wa := by rw [hWa]; exact (Below.refl _ _).alloc (Nat.le_refl _) _
        rw [← hWa]
        refine (bld_arg _ ao 2 k 2 c (ls2 (32768 + at') 36864) pb o 1048577 b B 65536 _ [] Wa (M2.out.below ba) (by omega) u2 (HUA.out.below ba) (fun i hi => by unfold ls2; split <;> omega) (fun i hi => by unfold pb; omega) (by omega) (by omega) (by omega) (by omega) (by omega) (by omega) (fun hv => by have := hv.n1; omega)).mono ?_
        rintro e w' ⟨rfl, h⟩
        exact ⟨rfl, ba.trans (h.mono ba.size)⟩)
      have B1r := Lib.hid (B1.out.trans (HKP.out.below (B := w.heap.size) B1.out.size (fun j hj e => by have e : bs ≤ j := e; omega)))
      have hCN : pgs (o : Int) 1048577 = 0 := by unfold pgs; rw [if_pos (.inr (by omega))]
      have HCN := Lib.hid hCN
      clear hCN
      go_wp2_with (first
        | (go_at_call 10; refine HBU.out.mono ?_; rintro e w2 ⟨rfl, hb2⟩; have M3 := Lib.hid (M2.out.below hb2); have B2 := Lib.hid (B1r.out.trans (hb2.mono B1r.out.size)); clear hb2)
        | (go_at_call 16; refine (spans_arg o (32768 + (at' : Int)) 1048577 b B 65536 _ _ w2 M3.out (by omega) (.inr (by omega))).mono ?_; rintro e w3 ⟨hb3, rfl⟩; have B3 := Lib.hid (B2.out.trans (hb3.mono B2.out.size)); clear hb3)
        | (go_at_call 14; refine (num_any _ _).mono ?_; rintro e w' ⟨rfl, rfl⟩)
        | (go_at_call 17; refine (count_any o 1048577 0 _ (by omega) (by omega) HCN.out).mono ?_; rintro e w' ⟨rfl, rfl⟩)
        | (go_at_call 9; refine (works_ok _).mono ?_; rintro e w5 ⟨rfl, hb5⟩; have B5 := Lib.hid (B3.out.trans (hb5.mono B3.out.size)); clear hb5))
      go_ret
      exact ⟨rfl, B5.out⟩
end
theorem boundsLaw (ofs st : Int) (past : Bool) (w : World) (h0 : (Lit.int .u16 ofs).wf = true) (h1 : (Lit.int .u16 st).wf = true) :
    Calls Try.prog 4 #[.int .u16 ofs, .int .u16 st, .bool past] w fun e w' => e = .returned (.bool true) ∧ Below w.heap.size w w' := by
  cases past
  · exact bounds_in ofs st w (wf_u16 h0) (wf_u16 h1)
  · exact bounds_past ofs st w (wf_u16 h0) (wf_u16 h1)
end Go.Proofs.Ytfploifafpifnaa
