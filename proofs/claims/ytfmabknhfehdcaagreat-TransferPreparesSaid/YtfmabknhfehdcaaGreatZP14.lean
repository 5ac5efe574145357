/- sgl: segment. -/
import Derived.Test.YtfmabknhfehdcaaGreatZP13
namespace Go.Proofs.YtfmabknhfehdcaaGreat
set_option linter.unusedSimpArgs false
set_option linter.unusedVariables false
open Go.RowKit
theorem own_set {w : World} {wb : Nat} {v : Value} {n : Nat} {xs : List Value} (h : w.ownsRow (wb + 1) 65 3 v n xs) (i : Nat) (u : Value) : (w.setCell ⟨wb, i, none⟩ u).ownsRow (wb + 1) 65 3 v n xs :=
 h.kept (w' := w.setCell ⟨wb, i, none⟩ u) (row := some wb) ⟨rfl, rfl, rfl, by simp, fun j hj hne => Below.heap_setCell _ _ _ _ (fun e => hne (congrArg some e))⟩ (.inr (fun e => by have := (h.lt wb e).1; omega))
theorem nine_cases {i : Nat} (h : i < 9) : i = 0 ∨ i = 1 ∨ i = 2 ∨ i = 3 ∨ i = 4 ∨ i = 5 ∨ i = 6 ∨ i = 7 ∨ i = 8 := by omega
set_option maxRecDepth 100000 in
set_option maxHeartbeats 4000000 in
theorem seg_n (P : Nat → Prop) (wb b B size : Nat) (f : Nat → Int) (L : List (Nat × Nat)) (th : Bool) (ex : Int) (s : WSt) (d : Dsc) (W : World) (h : sWlk P wb W (.pointer (some ⟨b, 0, none⟩)) th ex s) (hn1 : d.n ≤ 9223372036854775807) (qA : decide (0 < d.n) = false) :
  Calls Tryz.prog 99 #[.pointer (some ⟨wb, 0, none⟩), .agg d.cells] W fun e W' => e = .panicked [pan 161] ∧ Below W.heap.size W W' := by
 obtain ⟨W1, hW1, hb1, ha1, hs1⟩ := box_start d W
 have HW := Lib.hid (h.below hb1)
 have HA := Lib.hid ha1
 have HB1 := Lib.hid hb1
 have HW1 := Lib.hid hW1
 obtain ⟨v, hr, -⟩ := (h.below hb1).ex
 have c5 : W1.cell? ⟨wb, 5, none⟩ = some (.int .u64 s.at') := hr.cell (i := 5) (by omega)
 have c6 : W1.cell? ⟨wb, 6, none⟩ = some (.int .u64 s.en) := hr.cell (i := 6) (by omega)
 have c7 : W1.cell? ⟨wb, 7, none⟩ = some (.bool s.ins) := hr.cell (i := 7) (by omega)
 have c8 : W1.cell? ⟨wb, 8, none⟩ = some (.bool s.las) := hr.cell (i := 8) (by omega)
 have e0 : W1.cell? ⟨W.heap.size, 0, none⟩ = some (.int .i64 d.k) := ha1.cell rfl
 have e1 : W1.cell? ⟨W.heap.size, 1, none⟩ = some (.int .u64 d.a) := ha1.cell rfl
 have e2 : W1.cell? ⟨W.heap.size, 2, none⟩ = some (.int .i64 d.n) := ha1.cell rfl
 have hwlt := h.wlt
 have hlts := hs1
 obtain ⟨A, hA⟩ : ∃ A, A = d.cells := ⟨_, rfl⟩
 have HSZ := Lib.hid (show (Tryz.prog.info? 72).map (·.size) = some A.size by rw [hA]; exact sizeD)
 rw [← hA] at HA HW1 ⊢
 obtain ⟨k, hk0⟩ : ∃ k, k = d.k := ⟨_, rfl⟩
 obtain ⟨a, ha0⟩ : ∃ a, a = d.a := ⟨_, rfl⟩
 obtain ⟨n, hn0⟩ : ∃ n, n = d.n := ⟨_, rfl⟩
 obtain ⟨at0, hat0⟩ : ∃ z, z = s.at' := ⟨_, rfl⟩
 obtain ⟨en0, hen0⟩ : ∃ z, z = s.en := ⟨_, rfl⟩
 rw [← hk0] at e0
 rw [← ha0] at e1
 rw [← hn0] at e2 qA hn1
 rw [← hat0] at c5
 rw [← hen0] at c6
 obtain ⟨sb, hsb⟩ : ∃ z, z = W.heap.size := ⟨_, rfl⟩
 rw [← hsb] at e0 e1 e2 HA
 have hsb1 : sb < W1.heap.size := by omega
 have hwb1 : wb < W1.heap.size := by omega
 have hneq : wb ≠ sb := by omega
 have HSB := Lib.hid hsb
 have HK0 := Lib.hid hk0
 have HA0 := Lib.hid ha0
 have HN0 := Lib.hid hn0
 skip
 skip
 have HH := Lib.hid h
 clear h hW1 hb1 ha1 hs1 hr hA hk0 ha0 hn0 hat0 hen0 hsb hwlt hlts
 go_enter Tryz.func99, Tryz.ntmps99
 go_upto_region 1 with (fail)
 rw [← HW1.out]
 rw [← HSB.out]
 refine wp_region_held_drew (S := fun w' => w' = W1.drew) (by kernel_rfl) rfl (fun hS0 => ?_)
 refine takeD 4 (i := 0) (v := .pointer (some ⟨sb, 2, none⟩)) rfl rfl (by kernel_rfl) (by kernel_rfl) (by kernel_rfl) (fun _ _ _ h => h) (Or.inl ⟨by rfl, by (intro w' hw'; subst hw'; go_simp)⟩) (by assumption) ?_
 try simp only [Act.put, List.setIfInBounds_toArray, List.set_cons_zero, List.set_cons_succ]
 refine takeD 5 (i := 1) (v := .int .i64 n) rfl rfl (by kernel_rfl) (by kernel_rfl) (by kernel_rfl) (fun _ _ _ h => h) (Or.inl ⟨by rfl, by (intro w' hw'; subst hw'; go_simp)⟩) (by assumption) ?_
 try simp only [Act.put, List.setIfInBounds_toArray, List.set_cons_zero, List.set_cons_succ]
 refine takeD 6 (i := 2) (v := .bool false) rfl rfl (by kernel_rfl) (by kernel_rfl) (by kernel_rfl) (fun _ _ _ h => h) (Or.inl ⟨by rfl, by (intro w' hw'; subst hw'; go_simp)⟩) (by assumption) ?_
 try simp only [Act.put, List.setIfInBounds_toArray, List.set_cons_zero, List.set_cons_succ]
 refine takeD 7 (i := 3) (v := .bool false) rfl rfl (by kernel_rfl) (by kernel_rfl) (by kernel_rfl) (fun _ _ _ h => h) (Or.inl ⟨by rfl, by (intro w' hw'; subst hw'; go_simp)⟩) (by assumption) ?_
 try simp only [Act.put, List.setIfInBounds_toArray, List.set_cons_zero, List.set_cons_succ]
 refine takeD 8 (i := 4) (v := undef) rfl rfl (by kernel_rfl) (by kernel_rfl) (by kernel_rfl) (fun _ _ _ h => h) (Or.inr ⟨by rfl, rfl⟩) (by assumption) ?_
 try simp only [Act.put, List.setIfInBounds_toArray, List.set_cons_zero, List.set_cons_succ]
 refine takeD 9 (i := 5) (v := undef) rfl rfl (by kernel_rfl) (by kernel_rfl) (by kernel_rfl) (fun _ _ _ h => h) (Or.inr ⟨by rfl, rfl⟩) (by assumption) ?_
 try simp only [Act.put, List.setIfInBounds_toArray, List.set_cons_zero, List.set_cons_succ]
 refine takeD 10 (i := 6) (v := undef) rfl rfl (by kernel_rfl) (by kernel_rfl) (by kernel_rfl) (fun _ _ _ h => h) (Or.inr ⟨by rfl, rfl⟩) (by assumption) ?_
 try simp only [Act.put, List.setIfInBounds_toArray, List.set_cons_zero, List.set_cons_succ]
 refine takeD 11 (i := 7) (v := undef) rfl rfl (by kernel_rfl) (by kernel_rfl) (by kernel_rfl) (fun _ _ _ h => h) (Or.inr ⟨by rfl, rfl⟩) (by assumption) ?_
 try simp only [Act.put, List.setIfInBounds_toArray, List.set_cons_zero, List.set_cons_succ]
 refine takeD 12 (i := 8) (v := .bool false) rfl rfl (by kernel_rfl) (by kernel_rfl) (by kernel_rfl) (fun _ _ _ h => h) (Or.inl ⟨by rfl, by (intro w' hw'; subst hw'; go_simp)⟩) (by assumption) ?_
 try simp only [Act.put, List.setIfInBounds_toArray, List.set_cons_zero, List.set_cons_succ]
 refine takeD 13 (i := 9) (v := .bool false) rfl rfl (by kernel_rfl) (by kernel_rfl) (by kernel_rfl) (fun _ _ _ h => h) (Or.inl ⟨by rfl, by (intro w' hw'; subst hw'; go_simp)⟩) (by assumption) ?_
 try simp only [Act.put, List.setIfInBounds_toArray, List.set_cons_zero, List.set_cons_succ]
 refine takeD 14 (i := 10) (v := undef) rfl rfl (by kernel_rfl) (by kernel_rfl) (by kernel_rfl) (fun _ _ _ h => h) (Or.inr ⟨by rfl, rfl⟩) (by assumption) ?_
 try simp only [Act.put, List.setIfInBounds_toArray, List.set_cons_zero, List.set_cons_succ]
 refine takeD 15 (i := 11) (v := undef) rfl rfl (by kernel_rfl) (by kernel_rfl) (by kernel_rfl) (fun _ _ _ h => h) (Or.inr ⟨by rfl, rfl⟩) (by assumption) ?_
 try simp only [Act.put, List.setIfInBounds_toArray, List.set_cons_zero, List.set_cons_succ]
 refine takeD 16 (i := 12) (v := undef) rfl rfl (by kernel_rfl) (by kernel_rfl) (by kernel_rfl) (fun _ _ _ h => h) (Or.inr ⟨by rfl, rfl⟩) (by assumption) ?_
 try simp only [Act.put, List.setIfInBounds_toArray, List.set_cons_zero, List.set_cons_succ]
 refine takeD 17 (i := 13) (v := undef) rfl rfl (by kernel_rfl) (by kernel_rfl) (by kernel_rfl) (fun _ _ _ h => h) (Or.inr ⟨by rfl, rfl⟩) (by assumption) ?_
 try simp only [Act.put, List.setIfInBounds_toArray, List.set_cons_zero, List.set_cons_succ]
 refine takeD 18 (i := 14) (v := undef) rfl rfl (by kernel_rfl) (by kernel_rfl) (by kernel_rfl) (fun _ _ _ h => h) (Or.inr ⟨by rfl, rfl⟩) (by assumption) ?_
 try simp only [Act.put, List.setIfInBounds_toArray, List.set_cons_zero, List.set_cons_succ]
 refine takeD 19 (i := 15) (v := undef) rfl rfl (by kernel_rfl) (by kernel_rfl) (by kernel_rfl) (fun _ _ _ h => h) (Or.inr ⟨by rfl, rfl⟩) (by assumption) ?_
 try simp only [Act.put, List.setIfInBounds_toArray, List.set_cons_zero, List.set_cons_succ]
 refine takeD 20 (i := 16) (v := undef) rfl rfl (by kernel_rfl) (by kernel_rfl) (by kernel_rfl) (fun _ _ _ h => h) (Or.inr ⟨by rfl, rfl⟩) (by assumption) ?_
 try simp only [Act.put, List.setIfInBounds_toArray, List.set_cons_zero, List.set_cons_succ]
 refine takeD 21 (i := 17) (v := undef) rfl rfl (by kernel_rfl) (by kernel_rfl) (by kernel_rfl) (fun _ _ _ h => h) (Or.inr ⟨by rfl, rfl⟩) (by assumption) ?_
 try simp only [Act.put, List.setIfInBounds_toArray, List.set_cons_zero, List.set_cons_succ]
 refine takeD 22 (i := 18) (v := undef) rfl rfl (by kernel_rfl) (by kernel_rfl) (by kernel_rfl) (fun _ _ _ h => h) (Or.inr ⟨by rfl, rfl⟩) (by assumption) ?_
 try simp only [Act.put, List.setIfInBounds_toArray, List.set_cons_zero, List.set_cons_succ]
 refine takeD 23 (i := 19) (v := undef) rfl rfl (by kernel_rfl) (by kernel_rfl) (by kernel_rfl) (fun _ _ _ h => h) (Or.inr ⟨by rfl, rfl⟩) (by assumption) ?_
 try simp only [Act.put, List.setIfInBounds_toArray, List.set_cons_zero, List.set_cons_succ]
 refine takeD 24 (i := 20) (v := undef) rfl rfl (by kernel_rfl) (by kernel_rfl) (by kernel_rfl) (fun _ _ _ h => h) (Or.inr ⟨by rfl, rfl⟩) (by assumption) ?_
 try simp only [Act.put, List.setIfInBounds_toArray, List.set_cons_zero, List.set_cons_succ]
 refine takeD 25 (i := 21) (v := undef) rfl rfl (by kernel_rfl) (by kernel_rfl) (by kernel_rfl) (fun _ _ _ h => h) (Or.inr ⟨by rfl, rfl⟩) (by assumption) ?_
 try simp only [Act.put, List.setIfInBounds_toArray, List.set_cons_zero, List.set_cons_succ]
 refine takeD 26 (i := 22) (v := undef) rfl rfl (by kernel_rfl) (by kernel_rfl) (by kernel_rfl) (fun _ _ _ h => h) (Or.inr ⟨by rfl, rfl⟩) (by assumption) ?_
 try simp only [Act.put, List.setIfInBounds_toArray, List.set_cons_zero, List.set_cons_succ]
 refine takeD 27 (i := 23) (v := undef) rfl rfl (by kernel_rfl) (by kernel_rfl) (by kernel_rfl) (fun _ _ _ h => h) (Or.inr ⟨by rfl, rfl⟩) (by assumption) ?_
 try simp only [Act.put, List.setIfInBounds_toArray, List.set_cons_zero, List.set_cons_succ]
 refine takeD 28 (i := 24) (v := undef) rfl rfl (by kernel_rfl) (by kernel_rfl) (by kernel_rfl) (fun _ _ _ h => h) (Or.inr ⟨by rfl, rfl⟩) (by assumption) ?_
 try simp only [Act.put, List.setIfInBounds_toArray, List.set_cons_zero, List.set_cons_succ]
 refine takeD 29 (i := 25) (v := undef) rfl rfl (by kernel_rfl) (by kernel_rfl) (by kernel_rfl) (fun _ _ _ h => h) (Or.inr ⟨by rfl, rfl⟩) (by assumption) ?_
 try simp only [Act.put, List.setIfInBounds_toArray, List.set_cons_zero, List.set_cons_succ]
 refine takeD 30 (i := 26) (v := undef) rfl rfl (by kernel_rfl) (by kernel_rfl) (by kernel_rfl) (fun _ _ _ h => h) (Or.inr ⟨by rfl, rfl⟩) (by assumption) ?_
 try simp only [Act.put, List.setIfInBounds_toArray, List.set_cons_zero, List.set_cons_succ]
 refine takeD 31 (i := 27) (v := undef) rfl rfl (by kernel_rfl) (by kernel_rfl) (by kernel_rfl) (fun _ _ _ h => h) (Or.inr ⟨by rfl, rfl⟩) (by assumption) ?_
 try simp only [Act.put, List.setIfInBounds_toArray, List.set_cons_zero, List.set_cons_succ]
 refine takeD 32 (i := 28) (v := undef) rfl rfl (by kernel_rfl) (by kernel_rfl) (by kernel_rfl) (fun _ _ _ h => h) (Or.inr ⟨by rfl, rfl⟩) (by assumption) ?_
 try simp only [Act.put, List.setIfInBounds_toArray, List.set_cons_zero, List.set_cons_succ]
 refine takeD 33 (i := 29) (v := undef) rfl rfl (by kernel_rfl) (by kernel_rfl) (by kernel_rfl) (fun _ _ _ h => h) (Or.inr ⟨by rfl, rfl⟩) (by assumption) ?_
 try simp only [Act.put, List.setIfInBounds_toArray, List.set_cons_zero, List.set_cons_succ]
 refine takeD 34 (i := 30) (v := undef) rfl rfl (by kernel_rfl) (by kernel_rfl) (by kernel_rfl) (fun _ _ _ h => h) (Or.inr ⟨by rfl, rfl⟩) (by assumption) ?_
 try simp only [Act.put, List.setIfInBounds_toArray, List.set_cons_zero, List.set_cons_succ]
 refine takeD 35 (i := 31) (v := undef) rfl rfl (by kernel_rfl) (by kernel_rfl) (by kernel_rfl) (fun _ _ _ h => h) (Or.inr ⟨by rfl, rfl⟩) (by assumption) ?_
 try simp only [Act.put, List.setIfInBounds_toArray, List.set_cons_zero, List.set_cons_succ]
 refine takeD 36 (i := 32) (v := undef) rfl rfl (by kernel_rfl) (by kernel_rfl) (by kernel_rfl) (fun _ _ _ h => h) (Or.inr ⟨by rfl, rfl⟩) (by assumption) ?_
 try simp only [Act.put, List.setIfInBounds_toArray, List.set_cons_zero, List.set_cons_succ]
 refine takeD 37 (i := 33) (v := .bool false) rfl rfl (by kernel_rfl) (by kernel_rfl) (by kernel_rfl) (fun _ _ _ h => h) (Or.inl ⟨by rfl, by (intro w' hw'; subst hw'; go_simp)⟩) (by assumption) ?_
 try simp only [Act.put, List.setIfInBounds_toArray, List.set_cons_zero, List.set_cons_succ]
 refine wpAnyH_ready (rs := [34]) (by kernel_rfl) (by simp) (AllReadyH.cons rfl (fun K hK => ?_) AllReadyH.nil)
 rw [if_pos (by rfl)]
 go_simp
 refine (must_bad _ _).mono ?_
 rintro e w' ⟨rfl, rfl⟩
 exact ⟨rfl, rfl, HB1.out.drew⟩
set_option maxRecDepth 100000 in
set_option maxHeartbeats 4000000 in
theorem seg_m (P : Nat → Prop) (wb b B size : Nat) (f : Nat → Int) (L : List (Nat × Nat)) (th : Bool) (ex : Int) (s : WSt) (d : Dsc) (W : World) (h : sWlk P wb W (.pointer (some ⟨b, 0, none⟩)) th ex s) (hn1 : d.n ≤ 9223372036854775807) (qA : decide (0 < d.n) = true) (qB : (d.n % 16 == 0) = false) (hpos : 0 < d.n) :
  Calls Tryz.prog 99 #[.pointer (some ⟨wb, 0, none⟩), .agg d.cells] W fun e W' => e = .panicked [pan 161] ∧ Below W.heap.size W W' := by
 obtain ⟨W1, hW1, hb1, ha1, hs1⟩ := box_start d W
 have HW := Lib.hid (h.below hb1)
 have HA := Lib.hid ha1
 have HB1 := Lib.hid hb1
 have HW1 := Lib.hid hW1
 obtain ⟨v, hr, -⟩ := (h.below hb1).ex
 have c5 : W1.cell? ⟨wb, 5, none⟩ = some (.int .u64 s.at') := hr.cell (i := 5) (by omega)
 have c6 : W1.cell? ⟨wb, 6, none⟩ = some (.int .u64 s.en) := hr.cell (i := 6) (by omega)
 have c7 : W1.cell? ⟨wb, 7, none⟩ = some (.bool s.ins) := hr.cell (i := 7) (by omega)
 have c8 : W1.cell? ⟨wb, 8, none⟩ = some (.bool s.las) := hr.cell (i := 8) (by omega)
 have e0 : W1.cell? ⟨W.heap.size, 0, none⟩ = some (.int .i64 d.k) := ha1.cell rfl
 have e1 : W1.cell? ⟨W.heap.size, 1, none⟩ = some (.int .u64 d.a) := ha1.cell rfl
 have e2 : W1.cell? ⟨W.heap.size, 2, none⟩ = some (.int .i64 d.n) := ha1.cell rfl
 have hwlt := h.wlt
 have hlts := hs1
 obtain ⟨A, hA⟩ : ∃ A, A = d.cells := ⟨_, rfl⟩
 have HSZ := Lib.hid (show (Tryz.prog.info? 72).map (·.size) = some A.size by rw [hA]; exact sizeD)
 rw [← hA] at HA HW1 ⊢
 obtain ⟨k, hk0⟩ : ∃ k, k = d.k := ⟨_, rfl⟩
 obtain ⟨a, ha0⟩ : ∃ a, a = d.a := ⟨_, rfl⟩
 obtain ⟨n, hn0⟩ : ∃ n, n = d.n := ⟨_, rfl⟩
 obtain ⟨at0, hat0⟩ : ∃ z, z = s.at' := ⟨_, rfl⟩
 obtain ⟨en0, hen0⟩ : ∃ z, z = s.en := ⟨_, rfl⟩
 rw [← hk0] at e0
 rw [← ha0] at e1
 rw [← hn0] at e2 qA hn1
 rw [← hat0] at c5
 rw [← hen0] at c6
 rw [← hn0] at qB hpos
 obtain ⟨r, hr0⟩ : ∃ r, r = n % 16 := ⟨_, rfl⟩
 rw [← hr0] at qB
 have hm1 : n.tmod 16 = r := by rw [Int.tmod_eq_emod_of_nonneg (by omega), hr0]
 have hm2 : n % 16 = r := hr0.symm
 have hr1 : 0 ≤ r := by omega
 have hr2 : r < 16 := by omega
 obtain ⟨sb, hsb⟩ : ∃ z, z = W.heap.size := ⟨_, rfl⟩
 rw [← hsb] at e0 e1 e2 HA
 have hsb1 : sb < W1.heap.size := by omega
 have hwb1 : wb < W1.heap.size := by omega
 have hneq : wb ≠ sb := by omega
 have HSB := Lib.hid hsb
 have HK0 := Lib.hid hk0
 have HA0 := Lib.hid ha0
 have HN0 := Lib.hid hn0
 skip
 skip
 have HH := Lib.hid h
 clear h hW1 hb1 ha1 hs1 hr hA hk0 ha0 hn0 hat0 hen0 hsb hwlt hlts hr0
 go_enter Tryz.func99, Tryz.ntmps99
 go_upto_region 1 with (fail)
 rw [← HW1.out]
 rw [← HSB.out]
 refine wp_region_held_drew (S := fun w' => w' = W1.drew) (by kernel_rfl) rfl (fun hS0 => ?_)
 refine takeD 4 (i := 0) (v := .pointer (some ⟨sb, 2, none⟩)) rfl rfl (by kernel_rfl) (by kernel_rfl) (by kernel_rfl) (fun _ _ _ h => h) (Or.inl ⟨by rfl, by (intro w' hw'; subst hw'; go_simp)⟩) (by assumption) ?_
 try simp only [Act.put, List.setIfInBounds_toArray, List.set_cons_zero, List.set_cons_succ]
 refine takeD 5 (i := 1) (v := .int .i64 n) rfl rfl (by kernel_rfl) (by kernel_rfl) (by kernel_rfl) (fun _ _ _ h => h) (Or.inl ⟨by rfl, by (intro w' hw'; subst hw'; go_simp)⟩) (by assumption) ?_
 try simp only [Act.put, List.setIfInBounds_toArray, List.set_cons_zero, List.set_cons_succ]
 refine takeD 6 (i := 2) (v := .bool true) rfl rfl (by kernel_rfl) (by kernel_rfl) (by kernel_rfl) (fun _ _ _ h => h) (Or.inl ⟨by rfl, by (intro w' hw'; subst hw'; go_simp)⟩) (by assumption) ?_
 try simp only [Act.put, List.setIfInBounds_toArray, List.set_cons_zero, List.set_cons_succ]
 refine takeD 7 (i := 3) (v := .bool true) rfl rfl (by kernel_rfl) (by kernel_rfl) (by kernel_rfl) (fun _ _ _ h => h) (Or.inl ⟨by rfl, by (intro w' hw'; subst hw'; go_simp)⟩) (by assumption) ?_
 try simp only [Act.put, List.setIfInBounds_toArray, List.set_cons_zero, List.set_cons_succ]
 refine takeD 8 (i := 4) (v := .pointer (some ⟨sb, 2, none⟩)) rfl rfl (by kernel_rfl) (by kernel_rfl) (by kernel_rfl) (fun _ _ _ h => h) (Or.inl ⟨by rfl, by (intro w' hw'; subst hw'; go_simp)⟩) (by assumption) ?_
 try simp only [Act.put, List.setIfInBounds_toArray, List.set_cons_zero, List.set_cons_succ]
 refine takeD 9 (i := 5) (v := .int .i64 n) rfl rfl (by kernel_rfl) (by kernel_rfl) (by kernel_rfl) (fun _ _ _ h => h) (Or.inl ⟨by rfl, by (intro w' hw'; subst hw'; go_simp)⟩) (by assumption) ?_
 try simp only [Act.put, List.setIfInBounds_toArray, List.set_cons_zero, List.set_cons_succ]
 refine takeD 10 (i := 6) (v := .int .i64 r) rfl rfl (by kernel_rfl) (by kernel_rfl) (by kernel_rfl) (fun _ _ _ h => h) (Or.inl ⟨by rfl, by (intro w' hw'; subst hw'; go_simp)⟩) (by assumption) ?_
 try simp only [Act.put, List.setIfInBounds_toArray, List.set_cons_zero, List.set_cons_succ]
 refine takeD 11 (i := 7) (v := .bool false) rfl rfl (by kernel_rfl) (by kernel_rfl) (by kernel_rfl) (fun _ _ _ h => h) (Or.inl ⟨by rfl, by (intro w' hw'; subst hw'; go_simp)⟩) (by assumption) ?_
 try simp only [Act.put, List.setIfInBounds_toArray, List.set_cons_zero, List.set_cons_succ]
 refine takeD 12 (i := 8) (v := .bool false) rfl rfl (by kernel_rfl) (by kernel_rfl) (by kernel_rfl) (fun _ _ _ h => h) (Or.inl ⟨by rfl, by (intro w' hw'; subst hw'; go_simp)⟩) (by assumption) ?_
 try simp only [Act.put, List.setIfInBounds_toArray, List.set_cons_zero, List.set_cons_succ]
 refine takeD 13 (i := 9) (v := .bool false) rfl rfl (by kernel_rfl) (by kernel_rfl) (by kernel_rfl) (fun _ _ _ h => h) (Or.inl ⟨by rfl, by (intro w' hw'; subst hw'; go_simp)⟩) (by assumption) ?_
 try simp only [Act.put, List.setIfInBounds_toArray, List.set_cons_zero, List.set_cons_succ]
 refine takeD 14 (i := 10) (v := undef) rfl rfl (by kernel_rfl) (by kernel_rfl) (by kernel_rfl) (fun _ _ _ h => h) (Or.inr ⟨by rfl, rfl⟩) (by assumption) ?_
 try simp only [Act.put, List.setIfInBounds_toArray, List.set_cons_zero, List.set_cons_succ]
 refine takeD 15 (i := 11) (v := undef) rfl rfl (by kernel_rfl) (by kernel_rfl) (by kernel_rfl) (fun _ _ _ h => h) (Or.inr ⟨by rfl, rfl⟩) (by assumption) ?_
 try simp only [Act.put, List.setIfInBounds_toArray, List.set_cons_zero, List.set_cons_succ]
 refine takeD 16 (i := 12) (v := undef) rfl rfl (by kernel_rfl) (by kernel_rfl) (by kernel_rfl) (fun _ _ _ h => h) (Or.inr ⟨by rfl, rfl⟩) (by assumption) ?_
 try simp only [Act.put, List.setIfInBounds_toArray, List.set_cons_zero, List.set_cons_succ]
 refine takeD 17 (i := 13) (v := undef) rfl rfl (by kernel_rfl) (by kernel_rfl) (by kernel_rfl) (fun _ _ _ h => h) (Or.inr ⟨by rfl, rfl⟩) (by assumption) ?_
 try simp only [Act.put, List.setIfInBounds_toArray, List.set_cons_zero, List.set_cons_succ]
 refine takeD 18 (i := 14) (v := undef) rfl rfl (by kernel_rfl) (by kernel_rfl) (by kernel_rfl) (fun _ _ _ h => h) (Or.inr ⟨by rfl, rfl⟩) (by assumption) ?_
 try simp only [Act.put, List.setIfInBounds_toArray, List.set_cons_zero, List.set_cons_succ]
 refine takeD 19 (i := 15) (v := undef) rfl rfl (by kernel_rfl) (by kernel_rfl) (by kernel_rfl) (fun _ _ _ h => h) (Or.inr ⟨by rfl, rfl⟩) (by assumption) ?_
 try simp only [Act.put, List.setIfInBounds_toArray, List.set_cons_zero, List.set_cons_succ]
 refine takeD 20 (i := 16) (v := undef) rfl rfl (by kernel_rfl) (by kernel_rfl) (by kernel_rfl) (fun _ _ _ h => h) (Or.inr ⟨by rfl, rfl⟩) (by assumption) ?_
 try simp only [Act.put, List.setIfInBounds_toArray, List.set_cons_zero, List.set_cons_succ]
 refine takeD 21 (i := 17) (v := undef) rfl rfl (by kernel_rfl) (by kernel_rfl) (by kernel_rfl) (fun _ _ _ h => h) (Or.inr ⟨by rfl, rfl⟩) (by assumption) ?_
 try simp only [Act.put, List.setIfInBounds_toArray, List.set_cons_zero, List.set_cons_succ]
 refine takeD 22 (i := 18) (v := undef) rfl rfl (by kernel_rfl) (by kernel_rfl) (by kernel_rfl) (fun _ _ _ h => h) (Or.inr ⟨by rfl, rfl⟩) (by assumption) ?_
 try simp only [Act.put, List.setIfInBounds_toArray, List.set_cons_zero, List.set_cons_succ]
 refine takeD 23 (i := 19) (v := undef) rfl rfl (by kernel_rfl) (by kernel_rfl) (by kernel_rfl) (fun _ _ _ h => h) (Or.inr ⟨by rfl, rfl⟩) (by assumption) ?_
 try simp only [Act.put, List.setIfInBounds_toArray, List.set_cons_zero, List.set_cons_succ]
 refine takeD 24 (i := 20) (v := undef) rfl rfl (by kernel_rfl) (by kernel_rfl) (by kernel_rfl) (fun _ _ _ h => h) (Or.inr ⟨by rfl, rfl⟩) (by assumption) ?_
 try simp only [Act.put, List.setIfInBounds_toArray, List.set_cons_zero, List.set_cons_succ]
 refine takeD 25 (i := 21) (v := undef) rfl rfl (by kernel_rfl) (by kernel_rfl) (by kernel_rfl) (fun _ _ _ h => h) (Or.inr ⟨by rfl, rfl⟩) (by assumption) ?_
 try simp only [Act.put, List.setIfInBounds_toArray, List.set_cons_zero, List.set_cons_succ]
 refine takeD 26 (i := 22) (v := undef) rfl rfl (by kernel_rfl) (by kernel_rfl) (by kernel_rfl) (fun _ _ _ h => h) (Or.inr ⟨by rfl, rfl⟩) (by assumption) ?_
 try simp only [Act.put, List.setIfInBounds_toArray, List.set_cons_zero, List.set_cons_succ]
 refine takeD 27 (i := 23) (v := undef) rfl rfl (by kernel_rfl) (by kernel_rfl) (by kernel_rfl) (fun _ _ _ h => h) (Or.inr ⟨by rfl, rfl⟩) (by assumption) ?_
 try simp only [Act.put, List.setIfInBounds_toArray, List.set_cons_zero, List.set_cons_succ]
 refine takeD 28 (i := 24) (v := undef) rfl rfl (by kernel_rfl) (by kernel_rfl) (by kernel_rfl) (fun _ _ _ h => h) (Or.inr ⟨by rfl, rfl⟩) (by assumption) ?_
 try simp only [Act.put, List.setIfInBounds_toArray, List.set_cons_zero, List.set_cons_succ]
 refine takeD 29 (i := 25) (v := undef) rfl rfl (by kernel_rfl) (by kernel_rfl) (by kernel_rfl) (fun _ _ _ h => h) (Or.inr ⟨by rfl, rfl⟩) (by assumption) ?_
 try simp only [Act.put, List.setIfInBounds_toArray, List.set_cons_zero, List.set_cons_succ]
 refine takeD 30 (i := 26) (v := undef) rfl rfl (by kernel_rfl) (by kernel_rfl) (by kernel_rfl) (fun _ _ _ h => h) (Or.inr ⟨by rfl, rfl⟩) (by assumption) ?_
 try simp only [Act.put, List.setIfInBounds_toArray, List.set_cons_zero, List.set_cons_succ]
 refine takeD 31 (i := 27) (v := undef) rfl rfl (by kernel_rfl) (by kernel_rfl) (by kernel_rfl) (fun _ _ _ h => h) (Or.inr ⟨by rfl, rfl⟩) (by assumption) ?_
 try simp only [Act.put, List.setIfInBounds_toArray, List.set_cons_zero, List.set_cons_succ]
 refine takeD 32 (i := 28) (v := undef) rfl rfl (by kernel_rfl) (by kernel_rfl) (by kernel_rfl) (fun _ _ _ h => h) (Or.inr ⟨by rfl, rfl⟩) (by assumption) ?_
 try simp only [Act.put, List.setIfInBounds_toArray, List.set_cons_zero, List.set_cons_succ]
 refine takeD 33 (i := 29) (v := undef) rfl rfl (by kernel_rfl) (by kernel_rfl) (by kernel_rfl) (fun _ _ _ h => h) (Or.inr ⟨by rfl, rfl⟩) (by assumption) ?_
 try simp only [Act.put, List.setIfInBounds_toArray, List.set_cons_zero, List.set_cons_succ]
 refine takeD 34 (i := 30) (v := undef) rfl rfl (by kernel_rfl) (by kernel_rfl) (by kernel_rfl) (fun _ _ _ h => h) (Or.inr ⟨by rfl, rfl⟩) (by assumption) ?_
 try simp only [Act.put, List.setIfInBounds_toArray, List.set_cons_zero, List.set_cons_succ]
 refine takeD 35 (i := 31) (v := undef) rfl rfl (by kernel_rfl) (by kernel_rfl) (by kernel_rfl) (fun _ _ _ h => h) (Or.inr ⟨by rfl, rfl⟩) (by assumption) ?_
 try simp only [Act.put, List.setIfInBounds_toArray, List.set_cons_zero, List.set_cons_succ]
 refine takeD 36 (i := 32) (v := undef) rfl rfl (by kernel_rfl) (by kernel_rfl) (by kernel_rfl) (fun _ _ _ h => h) (Or.inr ⟨by rfl, rfl⟩) (by assumption) ?_
 try simp only [Act.put, List.setIfInBounds_toArray, List.set_cons_zero, List.set_cons_succ]
 refine takeD 37 (i := 33) (v := .bool false) rfl rfl (by kernel_rfl) (by kernel_rfl) (by kernel_rfl) (fun _ _ _ h => h) (Or.inl ⟨by rfl, by (intro w' hw'; subst hw'; go_simp)⟩) (by assumption) ?_
 try simp only [Act.put, List.setIfInBounds_toArray, List.set_cons_zero, List.set_cons_succ]
 refine wpAnyH_ready (rs := [34]) (by kernel_rfl) (by simp) (AllReadyH.cons rfl (fun K hK => ?_) AllReadyH.nil)
 rw [if_pos (by rfl)]
 go_simp
 refine (must_bad _ _).mono ?_
 rintro e w' ⟨rfl, rfl⟩
 exact ⟨rfl, rfl, HB1.out.drew⟩
set_option maxRecDepth 100000 in
set_option maxHeartbeats 4000000 in
theorem seg_last (P : Nat → Prop) (wb b B size : Nat) (f : Nat → Int) (L : List (Nat × Nat)) (th : Bool) (ex : Int) (s : WSt) (d : Dsc) (W : World) (h : sWlk P wb W (.pointer (some ⟨b, 0, none⟩)) th ex s) (hn1 : d.n ≤ 9223372036854775807) (qA : decide (0 < d.n) = true) (qB : (d.n % 16 == 0) = true) (hpos : 0 < d.n) (qC : s.ins = true) (qD : s.las = true) :
  Calls Tryz.prog 99 #[.pointer (some ⟨wb, 0, none⟩), .agg d.cells] W fun e W' => e = .panicked [pan 161] ∧ Below W.heap.size W W' := by
 obtain ⟨W1, hW1, hb1, ha1, hs1⟩ := box_start d W
 have HW := Lib.hid (h.below hb1)
 have HA := Lib.hid ha1
 have HB1 := Lib.hid hb1
 have HW1 := Lib.hid hW1
 obtain ⟨v, hr, -⟩ := (h.below hb1).ex
 have c5 : W1.cell? ⟨wb, 5, none⟩ = some (.int .u64 s.at') := hr.cell (i := 5) (by omega)
 have c6 : W1.cell? ⟨wb, 6, none⟩ = some (.int .u64 s.en) := hr.cell (i := 6) (by omega)
 have c7 : W1.cell? ⟨wb, 7, none⟩ = some (.bool s.ins) := hr.cell (i := 7) (by omega)
 have c8 : W1.cell? ⟨wb, 8, none⟩ = some (.bool s.las) := hr.cell (i := 8) (by omega)
 have e0 : W1.cell? ⟨W.heap.size, 0, none⟩ = some (.int .i64 d.k) := ha1.cell rfl
 have e1 : W1.cell? ⟨W.heap.size, 1, none⟩ = some (.int .u64 d.a) := ha1.cell rfl
 have e2 : W1.cell? ⟨W.heap.size, 2, none⟩ = some (.int .i64 d.n) := ha1.cell rfl
 have hwlt := h.wlt
 have hlts := hs1
 obtain ⟨A, hA⟩ : ∃ A, A = d.cells := ⟨_, rfl⟩
 have HSZ := Lib.hid (show (Tryz.prog.info? 72).map (·.size) = some A.size by rw [hA]; exact sizeD)
 rw [← hA] at HA HW1 ⊢
 obtain ⟨k, hk0⟩ : ∃ k, k = d.k := ⟨_, rfl⟩
 obtain ⟨a, ha0⟩ : ∃ a, a = d.a := ⟨_, rfl⟩
 obtain ⟨n, hn0⟩ : ∃ n, n = d.n := ⟨_, rfl⟩
 obtain ⟨at0, hat0⟩ : ∃ z, z = s.at' := ⟨_, rfl⟩
 obtain ⟨en0, hen0⟩ : ∃ z, z = s.en := ⟨_, rfl⟩
 rw [← hk0] at e0
 rw [← ha0] at e1
 rw [← hn0] at e2 qA hn1
 rw [← hat0] at c5
 rw [← hen0] at c6
 rw [← hn0] at qB hpos
 obtain ⟨r, hr0⟩ : ∃ r, r = n % 16 := ⟨_, rfl⟩
 rw [← hr0] at qB
 have hm1 : n.tmod 16 = r := by rw [Int.tmod_eq_emod_of_nonneg (by omega), hr0]
 have hm2 : n % 16 = r := hr0.symm
 have hr1 : 0 ≤ r := by omega
 have hr2 : r < 16 := by omega
 rw [qC] at c7
 rw [qD] at c8
 obtain ⟨sb, hsb⟩ : ∃ z, z = W.heap.size := ⟨_, rfl⟩
 rw [← hsb] at e0 e1 e2 HA
 have hsb1 : sb < W1.heap.size := by omega
 have hwb1 : wb < W1.heap.size := by omega
 have hneq : wb ≠ sb := by omega
 have HSB := Lib.hid hsb
 have HK0 := Lib.hid hk0
 have HA0 := Lib.hid ha0
 have HN0 := Lib.hid hn0
 skip
 skip
 have HH := Lib.hid h
 clear h hW1 hb1 ha1 hs1 hr hA hk0 ha0 hn0 hat0 hen0 hsb hwlt hlts hr0 qC qD
 go_enter Tryz.func99, Tryz.ntmps99
 go_upto_region 1 with (fail)
 rw [← HW1.out]
 rw [← HSB.out]
 refine wp_region_held_drew (S := fun w' => w' = W1.drew) (by kernel_rfl) rfl (fun hS0 => ?_)
 refine takeD 4 (i := 0) (v := .pointer (some ⟨sb, 2, none⟩)) rfl rfl (by kernel_rfl) (by kernel_rfl) (by kernel_rfl) (fun _ _ _ h => h) (Or.inl ⟨by rfl, by (intro w' hw'; subst hw'; go_simp)⟩) (by assumption) ?_
 try simp only [Act.put, List.setIfInBounds_toArray, List.set_cons_zero, List.set_cons_succ]
 refine takeD 5 (i := 1) (v := .int .i64 n) rfl rfl (by kernel_rfl) (by kernel_rfl) (by kernel_rfl) (fun _ _ _ h => h) (Or.inl ⟨by rfl, by (intro w' hw'; subst hw'; go_simp)⟩) (by assumption) ?_
 try simp only [Act.put, List.setIfInBounds_toArray, List.set_cons_zero, List.set_cons_succ]
 refine takeD 6 (i := 2) (v := .bool true) rfl rfl (by kernel_rfl) (by kernel_rfl) (by kernel_rfl) (fun _ _ _ h => h) (Or.inl ⟨by rfl, by (intro w' hw'; subst hw'; go_simp)⟩) (by assumption) ?_
 try simp only [Act.put, List.setIfInBounds_toArray, List.set_cons_zero, List.set_cons_succ]
 refine takeD 7 (i := 3) (v := .bool true) rfl rfl (by kernel_rfl) (by kernel_rfl) (by kernel_rfl) (fun _ _ _ h => h) (Or.inl ⟨by rfl, by (intro w' hw'; subst hw'; go_simp)⟩) (by assumption) ?_
 try simp only [Act.put, List.setIfInBounds_toArray, List.set_cons_zero, List.set_cons_succ]
 refine takeD 8 (i := 4) (v := .pointer (some ⟨sb, 2, none⟩)) rfl rfl (by kernel_rfl) (by kernel_rfl) (by kernel_rfl) (fun _ _ _ h => h) (Or.inl ⟨by rfl, by (intro w' hw'; subst hw'; go_simp)⟩) (by assumption) ?_
 try simp only [Act.put, List.setIfInBounds_toArray, List.set_cons_zero, List.set_cons_succ]
 refine takeD 9 (i := 5) (v := .int .i64 n) rfl rfl (by kernel_rfl) (by kernel_rfl) (by kernel_rfl) (fun _ _ _ h => h) (Or.inl ⟨by rfl, by (intro w' hw'; subst hw'; go_simp)⟩) (by assumption) ?_
 try simp only [Act.put, List.setIfInBounds_toArray, List.set_cons_zero, List.set_cons_succ]
 refine takeD 10 (i := 6) (v := .int .i64 r) rfl rfl (by kernel_rfl) (by kernel_rfl) (by kernel_rfl) (fun _ _ _ h => h) (Or.inl ⟨by rfl, by (intro w' hw'; subst hw'; go_simp)⟩) (by assumption) ?_
 try simp only [Act.put, List.setIfInBounds_toArray, List.set_cons_zero, List.set_cons_succ]
 refine takeD 11 (i := 7) (v := .bool true) rfl rfl (by kernel_rfl) (by kernel_rfl) (by kernel_rfl) (fun _ _ _ h => h) (Or.inl ⟨by rfl, by (intro w' hw'; subst hw'; go_simp)⟩) (by assumption) ?_
 try simp only [Act.put, List.setIfInBounds_toArray, List.set_cons_zero, List.set_cons_succ]
 refine takeD 12 (i := 8) (v := .bool true) rfl rfl (by kernel_rfl) (by kernel_rfl) (by kernel_rfl) (fun _ _ _ h => h) (Or.inl ⟨by rfl, by (intro w' hw'; subst hw'; go_simp)⟩) (by assumption) ?_
 try simp only [Act.put, List.setIfInBounds_toArray, List.set_cons_zero, List.set_cons_succ]
 refine takeD 13 (i := 9) (v := .bool true) rfl rfl (by kernel_rfl) (by kernel_rfl) (by kernel_rfl) (fun _ _ _ h => h) (Or.inl ⟨by rfl, by (intro w' hw'; subst hw'; go_simp)⟩) (by assumption) ?_
 try simp only [Act.put, List.setIfInBounds_toArray, List.set_cons_zero, List.set_cons_succ]
 refine takeD 14 (i := 10) (v := .pointer (some ⟨wb, 0, none⟩)) rfl rfl (by kernel_rfl) (by kernel_rfl) (by kernel_rfl) (fun _ _ _ h => h) (Or.inl ⟨by rfl, by (intro w' hw'; subst hw'; go_simp)⟩) (by assumption) ?_
 try simp only [Act.put, List.setIfInBounds_toArray, List.set_cons_zero, List.set_cons_succ]
 refine takeD 15 (i := 11) (v := .pointer (some ⟨wb, 0, none⟩)) rfl rfl (by kernel_rfl) (by kernel_rfl) (by kernel_rfl) (fun _ _ _ h => h) (Or.inl ⟨by rfl, by (intro w' hw'; subst hw'; go_simp)⟩) (by assumption) ?_
 try simp only [Act.put, List.setIfInBounds_toArray, List.set_cons_zero, List.set_cons_succ]
 refine takeD 16 (i := 12) (v := .pointer (some ⟨wb, 7, none⟩)) rfl rfl (by kernel_rfl) (by kernel_rfl) (by kernel_rfl) (fun _ _ _ h => h) (Or.inl ⟨by rfl, by (intro w' hw'; subst hw'; go_simp)⟩) (by assumption) ?_
 try simp only [Act.put, List.setIfInBounds_toArray, List.set_cons_zero, List.set_cons_succ]
 refine takeD 17 (i := 13) (v := .bool true) rfl rfl (by kernel_rfl) (by kernel_rfl) (by kernel_rfl) (fun _ _ _ h => h) (Or.inl ⟨by rfl, by (intro w' hw'; subst hw'; go_simp)⟩) (by assumption) ?_
 try simp only [Act.put, List.setIfInBounds_toArray, List.set_cons_zero, List.set_cons_succ]
 refine takeD 18 (i := 14) (v := .bool false) rfl rfl (by kernel_rfl) (by kernel_rfl) (by kernel_rfl) (fun _ _ _ h => h) (Or.inl ⟨by rfl, by (intro w' hw'; subst hw'; go_simp)⟩) (by assumption) ?_
 try simp only [Act.put, List.setIfInBounds_toArray, List.set_cons_zero, List.set_cons_succ]
 refine takeD 19 (i := 15) (v := .bool false) rfl rfl (by kernel_rfl) (by kernel_rfl) (by kernel_rfl) (fun _ _ _ h => h) (Or.inl ⟨by rfl, by (intro w' hw'; subst hw'; go_simp)⟩) (by assumption) ?_
 try simp only [Act.put, List.setIfInBounds_toArray, List.set_cons_zero, List.set_cons_succ]
 refine takeD 20 (i := 16) (v := .pointer (some ⟨wb, 0, none⟩)) rfl rfl (by kernel_rfl) (by kernel_rfl) (by kernel_rfl) (fun _ _ _ h => h) (Or.inl ⟨by rfl, by (intro w' hw'; subst hw'; go_simp)⟩) (by assumption) ?_
 try simp only [Act.put, List.setIfInBounds_toArray, List.set_cons_zero, List.set_cons_succ]
 refine takeD 21 (i := 17) (v := .pointer (some ⟨wb, 0, none⟩)) rfl rfl (by kernel_rfl) (by kernel_rfl) (by kernel_rfl) (fun _ _ _ h => h) (Or.inl ⟨by rfl, by (intro w' hw'; subst hw'; go_simp)⟩) (by assumption) ?_
 try simp only [Act.put, List.setIfInBounds_toArray, List.set_cons_zero, List.set_cons_succ]
 refine takeD 22 (i := 18) (v := .pointer (some ⟨wb, 8, none⟩)) rfl rfl (by kernel_rfl) (by kernel_rfl) (by kernel_rfl) (fun _ _ _ h => h) (Or.inl ⟨by rfl, by (intro w' hw'; subst hw'; go_simp)⟩) (by assumption) ?_
 try simp only [Act.put, List.setIfInBounds_toArray, List.set_cons_zero, List.set_cons_succ]
 refine takeD 23 (i := 19) (v := .bool true) rfl rfl (by kernel_rfl) (by kernel_rfl) (by kernel_rfl) (fun _ _ _ h => h) (Or.inl ⟨by rfl, by (intro w' hw'; subst hw'; go_simp)⟩) (by assumption) ?_
 try simp only [Act.put, List.setIfInBounds_toArray, List.set_cons_zero, List.set_cons_succ]
 refine takeD 24 (i := 20) (v := .bool false) rfl rfl (by kernel_rfl) (by kernel_rfl) (by kernel_rfl) (fun _ _ _ h => h) (Or.inl ⟨by rfl, by (intro w' hw'; subst hw'; go_simp)⟩) (by assumption) ?_
 try simp only [Act.put, List.setIfInBounds_toArray, List.set_cons_zero, List.set_cons_succ]
 refine takeD 25 (i := 21) (v := .bool false) rfl rfl (by kernel_rfl) (by kernel_rfl) (by kernel_rfl) (fun _ _ _ h => h) (Or.inl ⟨by rfl, by (intro w' hw'; subst hw'; go_simp)⟩) (by assumption) ?_
 try simp only [Act.put, List.setIfInBounds_toArray, List.set_cons_zero, List.set_cons_succ]
 refine takeD 26 (i := 22) (v := undef) rfl rfl (by kernel_rfl) (by kernel_rfl) (by kernel_rfl) (fun _ _ _ h => h) (Or.inr ⟨by rfl, rfl⟩) (by assumption) ?_
 try simp only [Act.put, List.setIfInBounds_toArray, List.set_cons_zero, List.set_cons_succ]
 refine takeD 27 (i := 23) (v := undef) rfl rfl (by kernel_rfl) (by kernel_rfl) (by kernel_rfl) (fun _ _ _ h => h) (Or.inr ⟨by rfl, rfl⟩) (by assumption) ?_
 try simp only [Act.put, List.setIfInBounds_toArray, List.set_cons_zero, List.set_cons_succ]
 refine takeD 28 (i := 24) (v := undef) rfl rfl (by kernel_rfl) (by kernel_rfl) (by kernel_rfl) (fun _ _ _ h => h) (Or.inr ⟨by rfl, rfl⟩) (by assumption) ?_
 try simp only [Act.put, List.setIfInBounds_toArray, List.set_cons_zero, List.set_cons_succ]
 refine takeD 29 (i := 25) (v := undef) rfl rfl (by kernel_rfl) (by kernel_rfl) (by kernel_rfl) (fun _ _ _ h => h) (Or.inr ⟨by rfl, rfl⟩) (by assumption) ?_
 try simp only [Act.put, List.setIfInBounds_toArray, List.set_cons_zero, List.set_cons_succ]
 refine takeD 30 (i := 26) (v := undef) rfl rfl (by kernel_rfl) (by kernel_rfl) (by kernel_rfl) (fun _ _ _ h => h) (Or.inr ⟨by rfl, rfl⟩) (by assumption) ?_
 try simp only [Act.put, List.setIfInBounds_toArray, List.set_cons_zero, List.set_cons_succ]
 refine takeD 31 (i := 27) (v := undef) rfl rfl (by kernel_rfl) (by kernel_rfl) (by kernel_rfl) (fun _ _ _ h => h) (Or.inr ⟨by rfl, rfl⟩) (by assumption) ?_
 try simp only [Act.put, List.setIfInBounds_toArray, List.set_cons_zero, List.set_cons_succ]
 refine takeD 32 (i := 28) (v := undef) rfl rfl (by kernel_rfl) (by kernel_rfl) (by kernel_rfl) (fun _ _ _ h => h) (Or.inr ⟨by rfl, rfl⟩) (by assumption) ?_
 try simp only [Act.put, List.setIfInBounds_toArray, List.set_cons_zero, List.set_cons_succ]
 refine takeD 33 (i := 29) (v := undef) rfl rfl (by kernel_rfl) (by kernel_rfl) (by kernel_rfl) (fun _ _ _ h => h) (Or.inr ⟨by rfl, rfl⟩) (by assumption) ?_
 try simp only [Act.put, List.setIfInBounds_toArray, List.set_cons_zero, List.set_cons_succ]
 refine takeD 34 (i := 30) (v := undef) rfl rfl (by kernel_rfl) (by kernel_rfl) (by kernel_rfl) (fun _ _ _ h => h) (Or.inr ⟨by rfl, rfl⟩) (by assumption) ?_
 try simp only [Act.put, List.setIfInBounds_toArray, List.set_cons_zero, List.set_cons_succ]
 refine takeD 35 (i := 31) (v := .bool false) rfl rfl (by kernel_rfl) (by kernel_rfl) (by kernel_rfl) (fun _ _ _ h => h) (Or.inl ⟨by rfl, by (intro w' hw'; subst hw'; go_simp)⟩) (by assumption) ?_
 try simp only [Act.put, List.setIfInBounds_toArray, List.set_cons_zero, List.set_cons_succ]
 refine takeD 36 (i := 32) (v := .bool false) rfl rfl (by kernel_rfl) (by kernel_rfl) (by kernel_rfl) (fun _ _ _ h => h) (Or.inl ⟨by rfl, by (intro w' hw'; subst hw'; go_simp)⟩) (by assumption) ?_
 try simp only [Act.put, List.setIfInBounds_toArray, List.set_cons_zero, List.set_cons_succ]
 refine takeD 37 (i := 33) (v := .bool false) rfl rfl (by kernel_rfl) (by kernel_rfl) (by kernel_rfl) (fun _ _ _ h => h) (Or.inl ⟨by rfl, by (intro w' hw'; subst hw'; go_simp)⟩) (by assumption) ?_
 try simp only [Act.put, List.setIfInBounds_toArray, List.set_cons_zero, List.set_cons_succ]
 refine wpAnyH_ready (rs := [34]) (by kernel_rfl) (by simp) (AllReadyH.cons rfl (fun K hK => ?_) AllReadyH.nil)
 rw [if_pos (by rfl)]
 go_simp
 refine (must_bad _ _).mono ?_
 rintro e w' ⟨rfl, rfl⟩
 exact ⟨rfl, rfl, HB1.out.drew⟩
set_option maxRecDepth 100000 in
set_option maxHeartbeats 4000000 in
theorem seg_mid (P : Nat → Prop) (wb b B size : Nat) (f : Nat → Int) (L : List (Nat × Nat)) (th : Bool) (ex : Int) (s : WSt) (d : Dsc) (W : World) (h : sWlk P wb W (.pointer (some ⟨b, 0, none⟩)) th ex s) (hn1 : d.n ≤ 9223372036854775807) (qA : decide (0 < d.n) = true) (qB : (d.n % 16 == 0) = true) (hpos : 0 < d.n) (qC : s.ins = true) (qD : s.las = false) (qE : (s.at' == s.en) = false) :
  Calls Tryz.prog 99 #[.pointer (some ⟨wb, 0, none⟩), .agg d.cells] W fun e W' => e = .panicked [pan 161] ∧ Below W.heap.size W W' := by
 obtain ⟨W1, hW1, hb1, ha1, hs1⟩ := box_start d W
 have HW := Lib.hid (h.below hb1)
 have HA := Lib.hid ha1
 have HB1 := Lib.hid hb1
 have HW1 := Lib.hid hW1
 obtain ⟨v, hr, -⟩ := (h.below hb1).ex
 have c5 : W1.cell? ⟨wb, 5, none⟩ = some (.int .u64 s.at') := hr.cell (i := 5) (by omega)
 have c6 : W1.cell? ⟨wb, 6, none⟩ = some (.int .u64 s.en) := hr.cell (i := 6) (by omega)
 have c7 : W1.cell? ⟨wb, 7, none⟩ = some (.bool s.ins) := hr.cell (i := 7) (by omega)
 have c8 : W1.cell? ⟨wb, 8, none⟩ = some (.bool s.las) := hr.cell (i := 8) (by omega)
 have e0 : W1.cell? ⟨W.heap.size, 0, none⟩ = some (.int .i64 d.k) := ha1.cell rfl
 have e1 : W1.cell? ⟨W.heap.size, 1, none⟩ = some (.int .u64 d.a) := ha1.cell rfl
 have e2 : W1.cell? ⟨W.heap.size, 2, none⟩ = some (.int .i64 d.n) := ha1.cell rfl
 have hwlt := h.wlt
 have hlts := hs1
 obtain ⟨A, hA⟩ : ∃ A, A = d.cells := ⟨_, rfl⟩
 have HSZ := Lib.hid (show (Tryz.prog.info? 72).map (·.size) = some A.size by rw [hA]; exact sizeD)
 rw [← hA] at HA HW1 ⊢
 obtain ⟨k, hk0⟩ : ∃ k, k = d.k := ⟨_, rfl⟩
 obtain ⟨a, ha0⟩ : ∃ a, a = d.a := ⟨_, rfl⟩
 obtain ⟨n, hn0⟩ : ∃ n, n = d.n := ⟨_, rfl⟩
 obtain ⟨at0, hat0⟩ : ∃ z, z = s.at' := ⟨_, rfl⟩
 obtain ⟨en0, hen0⟩ : ∃ z, z = s.en := ⟨_, rfl⟩
 rw [← hk0] at e0
 rw [← ha0] at e1
 rw [← hn0] at e2 qA hn1
 rw [← hat0] at c5
 rw [← hen0] at c6
 rw [← hn0] at qB hpos
 obtain ⟨r, hr0⟩ : ∃ r, r = n % 16 := ⟨_, rfl⟩
 rw [← hr0] at qB
 have hm1 : n.tmod 16 = r := by rw [Int.tmod_eq_emod_of_nonneg (by omega), hr0]
 have hm2 : n % 16 = r := hr0.symm
 have hr1 : 0 ≤ r := by omega
 have hr2 : r < 16 := by omega
 rw [qC] at c7
 rw [qD] at c8
 rw [← hat0, ← hen0] at qE
 obtain ⟨sb, hsb⟩ : ∃ z, z = W.heap.size := ⟨_, rfl⟩
 rw [← hsb] at e0 e1 e2 HA
 have hsb1 : sb < W1.heap.size := by omega
 have hwb1 : wb < W1.heap.size := by omega
 have hneq : wb ≠ sb := by omega
 have HSB := Lib.hid hsb
 have HK0 := Lib.hid hk0
 have HA0 := Lib.hid ha0
 have HN0 := Lib.hid hn0
 skip
 skip
 have HH := Lib.hid h
 clear h hW1 hb1 ha1 hs1 hr hA hk0 ha0 hn0 hat0 hen0 hsb hwlt hlts hr0 qC qD
 go_enter Tryz.func99, Tryz.ntmps99
 go_upto_region 1 with (fail)
 rw [← HW1.out]
 rw [← HSB.out]
 refine wp_region_held_drew (S := fun w' => w' = W1.drew) (by kernel_rfl) rfl (fun hS0 => ?_)
 refine takeD 4 (i := 0) (v := .pointer (some ⟨sb, 2, none⟩)) rfl rfl (by kernel_rfl) (by kernel_rfl) (by kernel_rfl) (fun _ _ _ h => h) (Or.inl ⟨by rfl, by (intro w' hw'; subst hw'; go_simp)⟩) (by assumption) ?_
 try simp only [Act.put, List.setIfInBounds_toArray, List.set_cons_zero, List.set_cons_succ]
 refine takeD 5 (i := 1) (v := .int .i64 n) rfl rfl (by kernel_rfl) (by kernel_rfl) (by kernel_rfl) (fun _ _ _ h => h) (Or.inl ⟨by rfl, by (intro w' hw'; subst hw'; go_simp)⟩) (by assumption) ?_
 try simp only [Act.put, List.setIfInBounds_toArray, List.set_cons_zero, List.set_cons_succ]
 refine takeD 6 (i := 2) (v := .bool true) rfl rfl (by kernel_rfl) (by kernel_rfl) (by kernel_rfl) (fun _ _ _ h => h) (Or.inl ⟨by rfl, by (intro w' hw'; subst hw'; go_simp)⟩) (by assumption) ?_
 try simp only [Act.put, List.setIfInBounds_toArray, List.set_cons_zero, List.set_cons_succ]
 refine takeD 7 (i := 3) (v := .bool true) rfl rfl (by kernel_rfl) (by kernel_rfl) (by kernel_rfl) (fun _ _ _ h => h) (Or.inl ⟨by rfl, by (intro w' hw'; subst hw'; go_simp)⟩) (by assumption) ?_
 try simp only [Act.put, List.setIfInBounds_toArray, List.set_cons_zero, List.set_cons_succ]
 refine takeD 8 (i := 4) (v := .pointer (some ⟨sb, 2, none⟩)) rfl rfl (by kernel_rfl) (by kernel_rfl) (by kernel_rfl) (fun _ _ _ h => h) (Or.inl ⟨by rfl, by (intro w' hw'; subst hw'; go_simp)⟩) (by assumption) ?_
 try simp only [Act.put, List.setIfInBounds_toArray, List.set_cons_zero, List.set_cons_succ]
 refine takeD 9 (i := 5) (v := .int .i64 n) rfl rfl (by kernel_rfl) (by kernel_rfl) (by kernel_rfl) (fun _ _ _ h => h) (Or.inl ⟨by rfl, by (intro w' hw'; subst hw'; go_simp)⟩) (by assumption) ?_
 try simp only [Act.put, List.setIfInBounds_toArray, List.set_cons_zero, List.set_cons_succ]
 refine takeD 10 (i := 6) (v := .int .i64 r) rfl rfl (by kernel_rfl) (by kernel_rfl) (by kernel_rfl) (fun _ _ _ h => h) (Or.inl ⟨by rfl, by (intro w' hw'; subst hw'; go_simp)⟩) (by assumption) ?_
 try simp only [Act.put, List.setIfInBounds_toArray, List.set_cons_zero, List.set_cons_succ]
 refine takeD 11 (i := 7) (v := .bool true) rfl rfl (by kernel_rfl) (by kernel_rfl) (by kernel_rfl) (fun _ _ _ h => h) (Or.inl ⟨by rfl, by (intro w' hw'; subst hw'; go_simp)⟩) (by assumption) ?_
 try simp only [Act.put, List.setIfInBounds_toArray, List.set_cons_zero, List.set_cons_succ]
 refine takeD 12 (i := 8) (v := .bool true) rfl rfl (by kernel_rfl) (by kernel_rfl) (by kernel_rfl) (fun _ _ _ h => h) (Or.inl ⟨by rfl, by (intro w' hw'; subst hw'; go_simp)⟩) (by assumption) ?_
 try simp only [Act.put, List.setIfInBounds_toArray, List.set_cons_zero, List.set_cons_succ]
 refine takeD 13 (i := 9) (v := .bool true) rfl rfl (by kernel_rfl) (by kernel_rfl) (by kernel_rfl) (fun _ _ _ h => h) (Or.inl ⟨by rfl, by (intro w' hw'; subst hw'; go_simp)⟩) (by assumption) ?_
 try simp only [Act.put, List.setIfInBounds_toArray, List.set_cons_zero, List.set_cons_succ]
 refine takeD 14 (i := 10) (v := .pointer (some ⟨wb, 0, none⟩)) rfl rfl (by kernel_rfl) (by kernel_rfl) (by kernel_rfl) (fun _ _ _ h => h) (Or.inl ⟨by rfl, by (intro w' hw'; subst hw'; go_simp)⟩) (by assumption) ?_
 try simp only [Act.put, List.setIfInBounds_toArray, List.set_cons_zero, List.set_cons_succ]
 refine takeD 15 (i := 11) (v := .pointer (some ⟨wb, 0, none⟩)) rfl rfl (by kernel_rfl) (by kernel_rfl) (by kernel_rfl) (fun _ _ _ h => h) (Or.inl ⟨by rfl, by (intro w' hw'; subst hw'; go_simp)⟩) (by assumption) ?_
 try simp only [Act.put, List.setIfInBounds_toArray, List.set_cons_zero, List.set_cons_succ]
 refine takeD 16 (i := 12) (v := .pointer (some ⟨wb, 7, none⟩)) rfl rfl (by kernel_rfl) (by kernel_rfl) (by kernel_rfl) (fun _ _ _ h => h) (Or.inl ⟨by rfl, by (intro w' hw'; subst hw'; go_simp)⟩) (by assumption) ?_
 try simp only [Act.put, List.setIfInBounds_toArray, List.set_cons_zero, List.set_cons_succ]
 refine takeD 17 (i := 13) (v := .bool true) rfl rfl (by kernel_rfl) (by kernel_rfl) (by kernel_rfl) (fun _ _ _ h => h) (Or.inl ⟨by rfl, by (intro w' hw'; subst hw'; go_simp)⟩) (by assumption) ?_
 try simp only [Act.put, List.setIfInBounds_toArray, List.set_cons_zero, List.set_cons_succ]
 refine takeD 18 (i := 14) (v := .bool false) rfl rfl (by kernel_rfl) (by kernel_rfl) (by kernel_rfl) (fun _ _ _ h => h) (Or.inl ⟨by rfl, by (intro w' hw'; subst hw'; go_simp)⟩) (by assumption) ?_
 try simp only [Act.put, List.setIfInBounds_toArray, List.set_cons_zero, List.set_cons_succ]
 refine takeD 19 (i := 15) (v := .bool false) rfl rfl (by kernel_rfl) (by kernel_rfl) (by kernel_rfl) (fun _ _ _ h => h) (Or.inl ⟨by rfl, by (intro w' hw'; subst hw'; go_simp)⟩) (by assumption) ?_
 try simp only [Act.put, List.setIfInBounds_toArray, List.set_cons_zero, List.set_cons_succ]
 refine takeD 20 (i := 16) (v := .pointer (some ⟨wb, 0, none⟩)) rfl rfl (by kernel_rfl) (by kernel_rfl) (by kernel_rfl) (fun _ _ _ h => h) (Or.inl ⟨by rfl, by (intro w' hw'; subst hw'; go_simp)⟩) (by assumption) ?_
 try simp only [Act.put, List.setIfInBounds_toArray, List.set_cons_zero, List.set_cons_succ]
 refine takeD 21 (i := 17) (v := .pointer (some ⟨wb, 0, none⟩)) rfl rfl (by kernel_rfl) (by kernel_rfl) (by kernel_rfl) (fun _ _ _ h => h) (Or.inl ⟨by rfl, by (intro w' hw'; subst hw'; go_simp)⟩) (by assumption) ?_
 try simp only [Act.put, List.setIfInBounds_toArray, List.set_cons_zero, List.set_cons_succ]
 refine takeD 22 (i := 18) (v := .pointer (some ⟨wb, 8, none⟩)) rfl rfl (by kernel_rfl) (by kernel_rfl) (by kernel_rfl) (fun _ _ _ h => h) (Or.inl ⟨by rfl, by (intro w' hw'; subst hw'; go_simp)⟩) (by assumption) ?_
 try simp only [Act.put, List.setIfInBounds_toArray, List.set_cons_zero, List.set_cons_succ]
 refine takeD 23 (i := 19) (v := .bool false) rfl rfl (by kernel_rfl) (by kernel_rfl) (by kernel_rfl) (fun _ _ _ h => h) (Or.inl ⟨by rfl, by (intro w' hw'; subst hw'; go_simp)⟩) (by assumption) ?_
 try simp only [Act.put, List.setIfInBounds_toArray, List.set_cons_zero, List.set_cons_succ]
 refine takeD 24 (i := 20) (v := .bool true) rfl rfl (by kernel_rfl) (by kernel_rfl) (by kernel_rfl) (fun _ _ _ h => h) (Or.inl ⟨by rfl, by (intro w' hw'; subst hw'; go_simp)⟩) (by assumption) ?_
 try simp only [Act.put, List.setIfInBounds_toArray, List.set_cons_zero, List.set_cons_succ]
 refine takeD 25 (i := 21) (v := .bool true) rfl rfl (by kernel_rfl) (by kernel_rfl) (by kernel_rfl) (fun _ _ _ h => h) (Or.inl ⟨by rfl, by (intro w' hw'; subst hw'; go_simp)⟩) (by assumption) ?_
 try simp only [Act.put, List.setIfInBounds_toArray, List.set_cons_zero, List.set_cons_succ]
 refine takeD 26 (i := 22) (v := .pointer (some ⟨wb, 0, none⟩)) rfl rfl (by kernel_rfl) (by kernel_rfl) (by kernel_rfl) (fun _ _ _ h => h) (Or.inl ⟨by rfl, by (intro w' hw'; subst hw'; go_simp)⟩) (by assumption) ?_
 try simp only [Act.put, List.setIfInBounds_toArray, List.set_cons_zero, List.set_cons_succ]
 refine takeD 27 (i := 23) (v := .pointer (some ⟨wb, 0, none⟩)) rfl rfl (by kernel_rfl) (by kernel_rfl) (by kernel_rfl) (fun _ _ _ h => h) (Or.inl ⟨by rfl, by (intro w' hw'; subst hw'; go_simp)⟩) (by assumption) ?_
 try simp only [Act.put, List.setIfInBounds_toArray, List.set_cons_zero, List.set_cons_succ]
 refine takeD 28 (i := 24) (v := .pointer (some ⟨wb, 5, none⟩)) rfl rfl (by kernel_rfl) (by kernel_rfl) (by kernel_rfl) (fun _ _ _ h => h) (Or.inl ⟨by rfl, by (intro w' hw'; subst hw'; go_simp)⟩) (by assumption) ?_
 try simp only [Act.put, List.setIfInBounds_toArray, List.set_cons_zero, List.set_cons_succ]
 refine takeD 29 (i := 25) (v := .int .u64 at0) rfl rfl (by kernel_rfl) (by kernel_rfl) (by kernel_rfl) (fun _ _ _ h => h) (Or.inl ⟨by rfl, by (intro w' hw'; subst hw'; go_simp)⟩) (by assumption) ?_
 try simp only [Act.put, List.setIfInBounds_toArray, List.set_cons_zero, List.set_cons_succ]
 refine takeD 30 (i := 26) (v := .pointer (some ⟨wb, 0, none⟩)) rfl rfl (by kernel_rfl) (by kernel_rfl) (by kernel_rfl) (fun _ _ _ h => h) (Or.inl ⟨by rfl, by (intro w' hw'; subst hw'; go_simp)⟩) (by assumption) ?_
 try simp only [Act.put, List.setIfInBounds_toArray, List.set_cons_zero, List.set_cons_succ]
 refine takeD 31 (i := 27) (v := .pointer (some ⟨wb, 0, none⟩)) rfl rfl (by kernel_rfl) (by kernel_rfl) (by kernel_rfl) (fun _ _ _ h => h) (Or.inl ⟨by rfl, by (intro w' hw'; subst hw'; go_simp)⟩) (by assumption) ?_
 try simp only [Act.put, List.setIfInBounds_toArray, List.set_cons_zero, List.set_cons_succ]
 refine takeD 32 (i := 28) (v := .pointer (some ⟨wb, 6, none⟩)) rfl rfl (by kernel_rfl) (by kernel_rfl) (by kernel_rfl) (fun _ _ _ h => h) (Or.inl ⟨by rfl, by (intro w' hw'; subst hw'; go_simp)⟩) (by assumption) ?_
 try simp only [Act.put, List.setIfInBounds_toArray, List.set_cons_zero, List.set_cons_succ]
 refine takeD 33 (i := 29) (v := .int .u64 en0) rfl rfl (by kernel_rfl) (by kernel_rfl) (by kernel_rfl) (fun _ _ _ h => h) (Or.inl ⟨by rfl, by (intro w' hw'; subst hw'; go_simp)⟩) (by assumption) ?_
 try simp only [Act.put, List.setIfInBounds_toArray, List.set_cons_zero, List.set_cons_succ]
 refine takeD 34 (i := 30) (v := .bool false) rfl rfl (by kernel_rfl) (by kernel_rfl) (by kernel_rfl) (fun _ _ _ h => h) (Or.inl ⟨by rfl, by (intro w' hw'; subst hw'; go_simp)⟩) (by assumption) ?_
 try simp only [Act.put, List.setIfInBounds_toArray, List.set_cons_zero, List.set_cons_succ]
 refine takeD 35 (i := 31) (v := .bool false) rfl rfl (by kernel_rfl) (by kernel_rfl) (by kernel_rfl) (fun _ _ _ h => h) (Or.inl ⟨by rfl, by (intro w' hw'; subst hw'; go_simp)⟩) (by assumption) ?_
 try simp only [Act.put, List.setIfInBounds_toArray, List.set_cons_zero, List.set_cons_succ]
 refine takeD 36 (i := 32) (v := .bool false) rfl rfl (by kernel_rfl) (by kernel_rfl) (by kernel_rfl) (fun _ _ _ h => h) (Or.inl ⟨by rfl, by (intro w' hw'; subst hw'; go_simp)⟩) (by assumption) ?_
 try simp only [Act.put, List.setIfInBounds_toArray, List.set_cons_zero, List.set_cons_succ]
 refine takeD 37 (i := 33) (v := .bool false) rfl rfl (by kernel_rfl) (by kernel_rfl) (by kernel_rfl) (fun _ _ _ h => h) (Or.inl ⟨by rfl, by (intro w' hw'; subst hw'; go_simp)⟩) (by assumption) ?_
 try simp only [Act.put, List.setIfInBounds_toArray, List.set_cons_zero, List.set_cons_succ]
 refine wpAnyH_ready (rs := [34]) (by kernel_rfl) (by simp) (AllReadyH.cons rfl (fun K hK => ?_) AllReadyH.nil)
 rw [if_pos (by rfl)]
 go_simp
 refine (must_bad _ _).mono ?_
 rintro e w' ⟨rfl, rfl⟩
 exact ⟨rfl, rfl, HB1.out.drew⟩
set_option maxRecDepth 100000 in
set_option maxHeartbeats 4000000 in
theorem seg_first_no (P : Nat → Prop) (wb b B size : Nat) (f : Nat → Int) (L : List (Nat × Nat)) (th : Bool) (ex : Int) (s : WSt) (d : Dsc) (W : World) (h : sWlk P wb W (.pointer (some ⟨b, 0, none⟩)) th ex s) (hn1 : d.n ≤ 9223372036854775807) (qA : decide (0 < d.n) = true) (qB : (d.n % 16 == 0) = true) (hpos : 0 < d.n) (qC : s.ins = false) (hM : MemAt W b B size f L) (hd : d.Ok) (no : Int) (hk : chk size d.a d.n = no) (hne : (no == 0) = false) :
  Calls Tryz.prog 99 #[.pointer (some ⟨wb, 0, none⟩), .agg d.cells] W fun e W' => e = .panicked [pan no] ∧ Below W.heap.size W W' := by
 obtain ⟨W1, hW1, hb1, ha1, hs1⟩ := box_start d W
 have HC := Lib.hid fun w (hb : Below W1.heap.size W1 w) => wcheck_bad wb b B size f L d w ((hM.below hb1).below hb) ((h.below hb1).below hb).c0 hd no hk hne
 have HW := Lib.hid (h.below hb1)
 have HA := Lib.hid ha1
 have HB1 := Lib.hid hb1
 have HW1 := Lib.hid hW1
 obtain ⟨v, hr, -⟩ := (h.below hb1).ex
 have c5 : W1.cell? ⟨wb, 5, none⟩ = some (.int .u64 s.at') := hr.cell (i := 5) (by omega)
 have c6 : W1.cell? ⟨wb, 6, none⟩ = some (.int .u64 s.en) := hr.cell (i := 6) (by omega)
 have c7 : W1.cell? ⟨wb, 7, none⟩ = some (.bool s.ins) := hr.cell (i := 7) (by omega)
 have c8 : W1.cell? ⟨wb, 8, none⟩ = some (.bool s.las) := hr.cell (i := 8) (by omega)
 have e0 : W1.cell? ⟨W.heap.size, 0, none⟩ = some (.int .i64 d.k) := ha1.cell rfl
 have e1 : W1.cell? ⟨W.heap.size, 1, none⟩ = some (.int .u64 d.a) := ha1.cell rfl
 have e2 : W1.cell? ⟨W.heap.size, 2, none⟩ = some (.int .i64 d.n) := ha1.cell rfl
 have hwlt := h.wlt
 have hlts := hs1
 obtain ⟨A, hA⟩ : ∃ A, A = d.cells := ⟨_, rfl⟩
 have HSZ := Lib.hid (show (Tryz.prog.info? 72).map (·.size) = some A.size by rw [hA]; exact sizeD)
 rw [← hA] at HA HW1 ⊢
 rw [← hA] at HC
 have hai := hd.a
 obtain ⟨k, hk0⟩ : ∃ k, k = d.k := ⟨_, rfl⟩
 obtain ⟨a, ha0⟩ : ∃ a, a = d.a := ⟨_, rfl⟩
 obtain ⟨n, hn0⟩ : ∃ n, n = d.n := ⟨_, rfl⟩
 obtain ⟨at0, hat0⟩ : ∃ z, z = s.at' := ⟨_, rfl⟩
 obtain ⟨en0, hen0⟩ : ∃ z, z = s.en := ⟨_, rfl⟩
 rw [← hk0] at e0
 rw [← ha0] at e1
 rw [← hn0] at e2 qA hn1
 rw [← hat0] at c5
 rw [← hen0] at c6
 rw [← hn0] at qB hpos
 obtain ⟨r, hr0⟩ : ∃ r, r = n % 16 := ⟨_, rfl⟩
 rw [← hr0] at qB
 have hm1 : n.tmod 16 = r := by rw [Int.tmod_eq_emod_of_nonneg (by omega), hr0]
 have hm2 : n % 16 = r := hr0.symm
 have hr1 : 0 ≤ r := by omega
 have hr2 : r < 16 := by omega
 rw [qC] at c7
 obtain ⟨sb, hsb⟩ : ∃ z, z = W.heap.size := ⟨_, rfl⟩
 rw [← hsb] at e0 e1 e2 HA
 have hsb1 : sb < W1.heap.size := by omega
 have hwb1 : wb < W1.heap.size := by omega
 have hneq : wb ≠ sb := by omega
 have HSB := Lib.hid hsb
 have HK0 := Lib.hid hk0
 have HA0 := Lib.hid ha0
 have HN0 := Lib.hid hn0
 rw [← ha0] at hai
 skip
 have HH := Lib.hid h
 clear h hW1 hb1 ha1 hs1 hr hA hk0 ha0 hn0 hat0 hen0 hsb hwlt hlts hr0 qC hM hd hk hne
 go_enter Tryz.func99, Tryz.ntmps99
 go_upto_region 1 with (fail)
 rw [← HW1.out]
 rw [← HSB.out]
 refine wp_region_held_drew (S := fun w' => w' = W1.drew) (by kernel_rfl) rfl (fun hS0 => ?_)
 refine takeD 4 (i := 0) (v := .pointer (some ⟨sb, 2, none⟩)) rfl rfl (by kernel_rfl) (by kernel_rfl) (by kernel_rfl) (fun _ _ _ h => h) (Or.inl ⟨by rfl, by (intro w' hw'; subst hw'; go_simp)⟩) (by assumption) ?_
 try simp only [Act.put, List.setIfInBounds_toArray, List.set_cons_zero, List.set_cons_succ]
 refine takeD 5 (i := 1) (v := .int .i64 n) rfl rfl (by kernel_rfl) (by kernel_rfl) (by kernel_rfl) (fun _ _ _ h => h) (Or.inl ⟨by rfl, by (intro w' hw'; subst hw'; go_simp)⟩) (by assumption) ?_
 try simp only [Act.put, List.setIfInBounds_toArray, List.set_cons_zero, List.set_cons_succ]
 refine takeD 6 (i := 2) (v := .bool true) rfl rfl (by kernel_rfl) (by kernel_rfl) (by kernel_rfl) (fun _ _ _ h => h) (Or.inl ⟨by rfl, by (intro w' hw'; subst hw'; go_simp)⟩) (by assumption) ?_
 try simp only [Act.put, List.setIfInBounds_toArray, List.set_cons_zero, List.set_cons_succ]
 refine takeD 7 (i := 3) (v := .bool true) rfl rfl (by kernel_rfl) (by kernel_rfl) (by kernel_rfl) (fun _ _ _ h => h) (Or.inl ⟨by rfl, by (intro w' hw'; subst hw'; go_simp)⟩) (by assumption) ?_
 try simp only [Act.put, List.setIfInBounds_toArray, List.set_cons_zero, List.set_cons_succ]
 refine takeD 8 (i := 4) (v := .pointer (some ⟨sb, 2, none⟩)) rfl rfl (by kernel_rfl) (by kernel_rfl) (by kernel_rfl) (fun _ _ _ h => h) (Or.inl ⟨by rfl, by (intro w' hw'; subst hw'; go_simp)⟩) (by assumption) ?_
 try simp only [Act.put, List.setIfInBounds_toArray, List.set_cons_zero, List.set_cons_succ]
 refine takeD 9 (i := 5) (v := .int .i64 n) rfl rfl (by kernel_rfl) (by kernel_rfl) (by kernel_rfl) (fun _ _ _ h => h) (Or.inl ⟨by rfl, by (intro w' hw'; subst hw'; go_simp)⟩) (by assumption) ?_
 try simp only [Act.put, List.setIfInBounds_toArray, List.set_cons_zero, List.set_cons_succ]
 refine takeD 10 (i := 6) (v := .int .i64 r) rfl rfl (by kernel_rfl) (by kernel_rfl) (by kernel_rfl) (fun _ _ _ h => h) (Or.inl ⟨by rfl, by (intro w' hw'; subst hw'; go_simp)⟩) (by assumption) ?_
 try simp only [Act.put, List.setIfInBounds_toArray, List.set_cons_zero, List.set_cons_succ]
 refine takeD 11 (i := 7) (v := .bool true) rfl rfl (by kernel_rfl) (by kernel_rfl) (by kernel_rfl) (fun _ _ _ h => h) (Or.inl ⟨by rfl, by (intro w' hw'; subst hw'; go_simp)⟩) (by assumption) ?_
 try simp only [Act.put, List.setIfInBounds_toArray, List.set_cons_zero, List.set_cons_succ]
 refine takeD 12 (i := 8) (v := .bool true) rfl rfl (by kernel_rfl) (by kernel_rfl) (by kernel_rfl) (fun _ _ _ h => h) (Or.inl ⟨by rfl, by (intro w' hw'; subst hw'; go_simp)⟩) (by assumption) ?_
 try simp only [Act.put, List.setIfInBounds_toArray, List.set_cons_zero, List.set_cons_succ]
 refine takeD 13 (i := 9) (v := .bool true) rfl rfl (by kernel_rfl) (by kernel_rfl) (by kernel_rfl) (fun _ _ _ h => h) (Or.inl ⟨by rfl, by (intro w' hw'; subst hw'; go_simp)⟩) (by assumption) ?_
 try simp only [Act.put, List.setIfInBounds_toArray, List.set_cons_zero, List.set_cons_succ]
 refine takeD 14 (i := 10) (v := .pointer (some ⟨wb, 0, none⟩)) rfl rfl (by kernel_rfl) (by kernel_rfl) (by kernel_rfl) (fun _ _ _ h => h) (Or.inl ⟨by rfl, by (intro w' hw'; subst hw'; go_simp)⟩) (by assumption) ?_
 try simp only [Act.put, List.setIfInBounds_toArray, List.set_cons_zero, List.set_cons_succ]
 refine takeD 15 (i := 11) (v := .pointer (some ⟨wb, 0, none⟩)) rfl rfl (by kernel_rfl) (by kernel_rfl) (by kernel_rfl) (fun _ _ _ h => h) (Or.inl ⟨by rfl, by (intro w' hw'; subst hw'; go_simp)⟩) (by assumption) ?_
 try simp only [Act.put, List.setIfInBounds_toArray, List.set_cons_zero, List.set_cons_succ]
 refine takeD 16 (i := 12) (v := .pointer (some ⟨wb, 7, none⟩)) rfl rfl (by kernel_rfl) (by kernel_rfl) (by kernel_rfl) (fun _ _ _ h => h) (Or.inl ⟨by rfl, by (intro w' hw'; subst hw'; go_simp)⟩) (by assumption) ?_
 try simp only [Act.put, List.setIfInBounds_toArray, List.set_cons_zero, List.set_cons_succ]
 refine takeD 17 (i := 13) (v := .bool false) rfl rfl (by kernel_rfl) (by kernel_rfl) (by kernel_rfl) (fun _ _ _ h => h) (Or.inl ⟨by rfl, by (intro w' hw'; subst hw'; go_simp)⟩) (by assumption) ?_
 try simp only [Act.put, List.setIfInBounds_toArray, List.set_cons_zero, List.set_cons_succ]
 refine takeD 18 (i := 14) (v := .bool true) rfl rfl (by kernel_rfl) (by kernel_rfl) (by kernel_rfl) (fun _ _ _ h => h) (Or.inl ⟨by rfl, by (intro w' hw'; subst hw'; go_simp)⟩) (by assumption) ?_
 try simp only [Act.put, List.setIfInBounds_toArray, List.set_cons_zero, List.set_cons_succ]
 refine takeD 19 (i := 15) (v := .bool true) rfl rfl (by kernel_rfl) (by kernel_rfl) (by kernel_rfl) (fun _ _ _ h => h) (Or.inl ⟨by rfl, by (intro w' hw'; subst hw'; go_simp)⟩) (by assumption) ?_
 try simp only [Act.put, List.setIfInBounds_toArray, List.set_cons_zero, List.set_cons_succ]
 refine takeD 20 (i := 16) (v := undef) rfl rfl (by kernel_rfl) (by kernel_rfl) (by kernel_rfl) (fun _ _ _ h => h) (Or.inr ⟨by rfl, rfl⟩) (by assumption) ?_
 try simp only [Act.put, List.setIfInBounds_toArray, List.set_cons_zero, List.set_cons_succ]
 refine takeD 21 (i := 17) (v := undef) rfl rfl (by kernel_rfl) (by kernel_rfl) (by kernel_rfl) (fun _ _ _ h => h) (Or.inr ⟨by rfl, rfl⟩) (by assumption) ?_
 try simp only [Act.put, List.setIfInBounds_toArray, List.set_cons_zero, List.set_cons_succ]
 refine takeD 22 (i := 18) (v := undef) rfl rfl (by kernel_rfl) (by kernel_rfl) (by kernel_rfl) (fun _ _ _ h => h) (Or.inr ⟨by rfl, rfl⟩) (by assumption) ?_
 try simp only [Act.put, List.setIfInBounds_toArray, List.set_cons_zero, List.set_cons_succ]
 refine takeD 23 (i := 19) (v := undef) rfl rfl (by kernel_rfl) (by kernel_rfl) (by kernel_rfl) (fun _ _ _ h => h) (Or.inr ⟨by rfl, rfl⟩) (by assumption) ?_
 try simp only [Act.put, List.setIfInBounds_toArray, List.set_cons_zero, List.set_cons_succ]
 refine takeD 24 (i := 20) (v := undef) rfl rfl (by kernel_rfl) (by kernel_rfl) (by kernel_rfl) (fun _ _ _ h => h) (Or.inr ⟨by rfl, rfl⟩) (by assumption) ?_
 try simp only [Act.put, List.setIfInBounds_toArray, List.set_cons_zero, List.set_cons_succ]
 refine takeD 25 (i := 21) (v := undef) rfl rfl (by kernel_rfl) (by kernel_rfl) (by kernel_rfl) (fun _ _ _ h => h) (Or.inr ⟨by rfl, rfl⟩) (by assumption) ?_
 try simp only [Act.put, List.setIfInBounds_toArray, List.set_cons_zero, List.set_cons_succ]
 refine takeD 26 (i := 22) (v := undef) rfl rfl (by kernel_rfl) (by kernel_rfl) (by kernel_rfl) (fun _ _ _ h => h) (Or.inr ⟨by rfl, rfl⟩) (by assumption) ?_
 try simp only [Act.put, List.setIfInBounds_toArray, List.set_cons_zero, List.set_cons_succ]
 refine takeD 27 (i := 23) (v := undef) rfl rfl (by kernel_rfl) (by kernel_rfl) (by kernel_rfl) (fun _ _ _ h => h) (Or.inr ⟨by rfl, rfl⟩) (by assumption) ?_
 try simp only [Act.put, List.setIfInBounds_toArray, List.set_cons_zero, List.set_cons_succ]
 refine takeD 28 (i := 24) (v := undef) rfl rfl (by kernel_rfl) (by kernel_rfl) (by kernel_rfl) (fun _ _ _ h => h) (Or.inr ⟨by rfl, rfl⟩) (by assumption) ?_
 try simp only [Act.put, List.setIfInBounds_toArray, List.set_cons_zero, List.set_cons_succ]
 refine takeD 29 (i := 25) (v := undef) rfl rfl (by kernel_rfl) (by kernel_rfl) (by kernel_rfl) (fun _ _ _ h => h) (Or.inr ⟨by rfl, rfl⟩) (by assumption) ?_
 try simp only [Act.put, List.setIfInBounds_toArray, List.set_cons_zero, List.set_cons_succ]
 refine takeD 30 (i := 26) (v := undef) rfl rfl (by kernel_rfl) (by kernel_rfl) (by kernel_rfl) (fun _ _ _ h => h) (Or.inr ⟨by rfl, rfl⟩) (by assumption) ?_
 try simp only [Act.put, List.setIfInBounds_toArray, List.set_cons_zero, List.set_cons_succ]
 refine takeD 31 (i := 27) (v := undef) rfl rfl (by kernel_rfl) (by kernel_rfl) (by kernel_rfl) (fun _ _ _ h => h) (Or.inr ⟨by rfl, rfl⟩) (by assumption) ?_
 try simp only [Act.put, List.setIfInBounds_toArray, List.set_cons_zero, List.set_cons_succ]
 refine takeD 32 (i := 28) (v := undef) rfl rfl (by kernel_rfl) (by kernel_rfl) (by kernel_rfl) (fun _ _ _ h => h) (Or.inr ⟨by rfl, rfl⟩) (by assumption) ?_
 try simp only [Act.put, List.setIfInBounds_toArray, List.set_cons_zero, List.set_cons_succ]
 refine takeD 33 (i := 29) (v := undef) rfl rfl (by kernel_rfl) (by kernel_rfl) (by kernel_rfl) (fun _ _ _ h => h) (Or.inr ⟨by rfl, rfl⟩) (by assumption) ?_
 try simp only [Act.put, List.setIfInBounds_toArray, List.set_cons_zero, List.set_cons_succ]
 refine takeD 34 (i := 30) (v := undef) rfl rfl (by kernel_rfl) (by kernel_rfl) (by kernel_rfl) (fun _ _ _ h => h) (Or.inr ⟨by rfl, rfl⟩) (by assumption) ?_
 try simp only [Act.put, List.setIfInBounds_toArray, List.set_cons_zero, List.set_cons_succ]
 refine takeD 35 (i := 31) (v := undef) rfl rfl (by kernel_rfl) (by kernel_rfl) (by kernel_rfl) (fun _ _ _ h => h) (Or.inr ⟨by rfl, rfl⟩) (by assumption) ?_
 try simp only [Act.put, List.setIfInBounds_toArray, List.set_cons_zero, List.set_cons_succ]
 refine takeD 36 (i := 32) (v := .bool true) rfl rfl (by kernel_rfl) (by kernel_rfl) (by kernel_rfl) (fun _ _ _ h => h) (Or.inl ⟨by rfl, by (intro w' hw'; subst hw'; go_simp)⟩) (by assumption) ?_
 try simp only [Act.put, List.setIfInBounds_toArray, List.set_cons_zero, List.set_cons_succ]
 refine takeD 37 (i := 33) (v := .bool true) rfl rfl (by kernel_rfl) (by kernel_rfl) (by kernel_rfl) (fun _ _ _ h => h) (Or.inl ⟨by rfl, by (intro w' hw'; subst hw'; go_simp)⟩) (by assumption) ?_
 try simp only [Act.put, List.setIfInBounds_toArray, List.set_cons_zero, List.set_cons_succ]
 refine wpAnyH_ready (rs := [34]) (by kernel_rfl) (by simp) (AllReadyH.cons rfl (fun K hK => ?_) AllReadyH.nil)
 rw [if_pos (by rfl)]
 go_simp
 refine (must_ok _ _).mono ?_
 rintro e w' ⟨rfl, rfl⟩
 refine hK.out _ _ hS0 (fun hS0 => ?_)
 clear hK K
 try simp only [Act.put, List.setIfInBounds_toArray, List.set_cons_zero, List.set_cons_succ]
 refine wpAnyH_done (by kernel_rfl) ?_ _
 go_upto_region 3 with (first
  | ((with_reducible show wpList _ _ _ (⟨some 40, _, _, _, _, _⟩ :: _) _ _); refine wpList_loadA rfl HA.out.drew 72 (.tmp 3) rfl (by first | rfl | simp [Act.eval, Act.put]) Tryz.underlying72 rfl HSZ.out ?_)
  | (go_at_call 102; refine (HC.out _ (Below.refl _ _).drew).mono ?_; rintro e w2 ⟨rfl, hb2⟩))
 exact ⟨rfl, rfl, HB1.out.drew.trans (hb2.mono HB1.out.drew.size)⟩
set_option maxRecDepth 100000 in
set_option maxHeartbeats 4000000 in
theorem seg_next_no (P : Nat → Prop) (wb b B size : Nat) (f : Nat → Int) (L : List (Nat × Nat)) (th : Bool) (ex : Int) (s : WSt) (d : Dsc) (W : World) (h : sWlk P wb W (.pointer (some ⟨b, 0, none⟩)) th ex s) (hn1 : d.n ≤ 9223372036854775807) (qA : decide (0 < d.n) = true) (qB : (d.n % 16 == 0) = true) (hpos : 0 < d.n) (qC : s.ins = true) (qD : s.las = false) (qE : (s.at' == s.en) = true) (hM : MemAt W b B size f L) (hd : d.Ok) (no : Int) (hk : chk size d.a d.n = no) (hne : (no == 0) = false) :
  Calls Tryz.prog 99 #[.pointer (some ⟨wb, 0, none⟩), .agg d.cells] W fun e W' => e = .panicked [pan no] ∧ Below W.heap.size W W' := by
 obtain ⟨W1, hW1, hb1, ha1, hs1⟩ := box_start d W
 have HC := Lib.hid fun w (hb : Below W1.heap.size W1 w) => wcheck_bad wb b B size f L d w ((hM.below hb1).below hb) ((h.below hb1).below hb).c0 hd no hk hne
 have HW := Lib.hid (h.below hb1)
 have HA := Lib.hid ha1
 have HB1 := Lib.hid hb1
 have HW1 := Lib.hid hW1
 obtain ⟨v, hr, -⟩ := (h.below hb1).ex
 have c5 : W1.cell? ⟨wb, 5, none⟩ = some (.int .u64 s.at') := hr.cell (i := 5) (by omega)
 have c6 : W1.cell? ⟨wb, 6, none⟩ = some (.int .u64 s.en) := hr.cell (i := 6) (by omega)
 have c7 : W1.cell? ⟨wb, 7, none⟩ = some (.bool s.ins) := hr.cell (i := 7) (by omega)
 have c8 : W1.cell? ⟨wb, 8, none⟩ = some (.bool s.las) := hr.cell (i := 8) (by omega)
 have e0 : W1.cell? ⟨W.heap.size, 0, none⟩ = some (.int .i64 d.k) := ha1.cell rfl
 have e1 : W1.cell? ⟨W.heap.size, 1, none⟩ = some (.int .u64 d.a) := ha1.cell rfl
 have e2 : W1.cell? ⟨W.heap.size, 2, none⟩ = some (.int .i64 d.n) := ha1.cell rfl
 have hwlt := h.wlt
 have hlts := hs1
 obtain ⟨A, hA⟩ : ∃ A, A = d.cells := ⟨_, rfl⟩
 have HSZ := Lib.hid (show (Tryz.prog.info? 72).map (·.size) = some A.size by rw [hA]; exact sizeD)
 rw [← hA] at HA HW1 ⊢
 rw [← hA] at HC
 have hai := hd.a
 obtain ⟨k, hk0⟩ : ∃ k, k = d.k := ⟨_, rfl⟩
 obtain ⟨a, ha0⟩ : ∃ a, a = d.a := ⟨_, rfl⟩
 obtain ⟨n, hn0⟩ : ∃ n, n = d.n := ⟨_, rfl⟩
 obtain ⟨at0, hat0⟩ : ∃ z, z = s.at' := ⟨_, rfl⟩
 obtain ⟨en0, hen0⟩ : ∃ z, z = s.en := ⟨_, rfl⟩
 rw [← hk0] at e0
 rw [← ha0] at e1
 rw [← hn0] at e2 qA hn1
 rw [← hat0] at c5
 rw [← hen0] at c6
 rw [← hn0] at qB hpos
 obtain ⟨r, hr0⟩ : ∃ r, r = n % 16 := ⟨_, rfl⟩
 rw [← hr0] at qB
 have hm1 : n.tmod 16 = r := by rw [Int.tmod_eq_emod_of_nonneg (by omega), hr0]
 have hm2 : n % 16 = r := hr0.symm
 have hr1 : 0 ≤ r := by omega
 have hr2 : r < 16 := by omega
 rw [qC] at c7
 rw [qD] at c8
 rw [← hat0, ← hen0] at qE
 obtain ⟨sb, hsb⟩ : ∃ z, z = W.heap.size := ⟨_, rfl⟩
 rw [← hsb] at e0 e1 e2 HA
 have hsb1 : sb < W1.heap.size := by omega
 have hwb1 : wb < W1.heap.size := by omega
 have hneq : wb ≠ sb := by omega
 have HSB := Lib.hid hsb
 have HK0 := Lib.hid hk0
 have HA0 := Lib.hid ha0
 have HN0 := Lib.hid hn0
 rw [← ha0] at hai
 skip
 have HH := Lib.hid h
 clear h hW1 hb1 ha1 hs1 hr hA hk0 ha0 hn0 hat0 hen0 hsb hwlt hlts hr0 qC qD hM hd hk hne
 go_enter Tryz.func99, Tryz.ntmps99
 go_upto_region 1 with (fail)
 rw [← HW1.out]
 rw [← HSB.out]
 refine wp_region_held_drew (S := fun w' => w' = W1.drew) (by kernel_rfl) rfl (fun hS0 => ?_)
 refine takeD 4 (i := 0) (v := .pointer (some ⟨sb, 2, none⟩)) rfl rfl (by kernel_rfl) (by kernel_rfl) (by kernel_rfl) (fun _ _ _ h => h) (Or.inl ⟨by rfl, by (intro w' hw'; subst hw'; go_simp)⟩) (by assumption) ?_
 try simp only [Act.put, List.setIfInBounds_toArray, List.set_cons_zero, List.set_cons_succ]
 refine takeD 5 (i := 1) (v := .int .i64 n) rfl rfl (by kernel_rfl) (by kernel_rfl) (by kernel_rfl) (fun _ _ _ h => h) (Or.inl ⟨by rfl, by (intro w' hw'; subst hw'; go_simp)⟩) (by assumption) ?_
 try simp only [Act.put, List.setIfInBounds_toArray, List.set_cons_zero, List.set_cons_succ]
 refine takeD 6 (i := 2) (v := .bool true) rfl rfl (by kernel_rfl) (by kernel_rfl) (by kernel_rfl) (fun _ _ _ h => h) (Or.inl ⟨by rfl, by (intro w' hw'; subst hw'; go_simp)⟩) (by assumption) ?_
 try simp only [Act.put, List.setIfInBounds_toArray, List.set_cons_zero, List.set_cons_succ]
 refine takeD 7 (i := 3) (v := .bool true) rfl rfl (by kernel_rfl) (by kernel_rfl) (by kernel_rfl) (fun _ _ _ h => h) (Or.inl ⟨by rfl, by (intro w' hw'; subst hw'; go_simp)⟩) (by assumption) ?_
 try simp only [Act.put, List.setIfInBounds_toArray, List.set_cons_zero, List.set_cons_succ]
 refine takeD 8 (i := 4) (v := .pointer (some ⟨sb, 2, none⟩)) rfl rfl (by kernel_rfl) (by kernel_rfl) (by kernel_rfl) (fun _ _ _ h => h) (Or.inl ⟨by rfl, by (intro w' hw'; subst hw'; go_simp)⟩) (by assumption) ?_
 try simp only [Act.put, List.setIfInBounds_toArray, List.set_cons_zero, List.set_cons_succ]
 refine takeD 9 (i := 5) (v := .int .i64 n) rfl rfl (by kernel_rfl) (by kernel_rfl) (by kernel_rfl) (fun _ _ _ h => h) (Or.inl ⟨by rfl, by (intro w' hw'; subst hw'; go_simp)⟩) (by assumption) ?_
 try simp only [Act.put, List.setIfInBounds_toArray, List.set_cons_zero, List.set_cons_succ]
 refine takeD 10 (i := 6) (v := .int .i64 r) rfl rfl (by kernel_rfl) (by kernel_rfl) (by kernel_rfl) (fun _ _ _ h => h) (Or.inl ⟨by rfl, by (intro w' hw'; subst hw'; go_simp)⟩) (by assumption) ?_
 try simp only [Act.put, List.setIfInBounds_toArray, List.set_cons_zero, List.set_cons_succ]
 refine takeD 11 (i := 7) (v := .bool true) rfl rfl (by kernel_rfl) (by kernel_rfl) (by kernel_rfl) (fun _ _ _ h => h) (Or.inl ⟨by rfl, by (intro w' hw'; subst hw'; go_simp)⟩) (by assumption) ?_
 try simp only [Act.put, List.setIfInBounds_toArray, List.set_cons_zero, List.set_cons_succ]
 refine takeD 12 (i := 8) (v := .bool true) rfl rfl (by kernel_rfl) (by kernel_rfl) (by kernel_rfl) (fun _ _ _ h => h) (Or.inl ⟨by rfl, by (intro w' hw'; subst hw'; go_simp)⟩) (by assumption) ?_
 try simp only [Act.put, List.setIfInBounds_toArray, List.set_cons_zero, List.set_cons_succ]
 refine takeD 13 (i := 9) (v := .bool true) rfl rfl (by kernel_rfl) (by kernel_rfl) (by kernel_rfl) (fun _ _ _ h => h) (Or.inl ⟨by rfl, by (intro w' hw'; subst hw'; go_simp)⟩) (by assumption) ?_
 try simp only [Act.put, List.setIfInBounds_toArray, List.set_cons_zero, List.set_cons_succ]
 refine takeD 14 (i := 10) (v := .pointer (some ⟨wb, 0, none⟩)) rfl rfl (by kernel_rfl) (by kernel_rfl) (by kernel_rfl) (fun _ _ _ h => h) (Or.inl ⟨by rfl, by (intro w' hw'; subst hw'; go_simp)⟩) (by assumption) ?_
 try simp only [Act.put, List.setIfInBounds_toArray, List.set_cons_zero, List.set_cons_succ]
 refine takeD 15 (i := 11) (v := .pointer (some ⟨wb, 0, none⟩)) rfl rfl (by kernel_rfl) (by kernel_rfl) (by kernel_rfl) (fun _ _ _ h => h) (Or.inl ⟨by rfl, by (intro w' hw'; subst hw'; go_simp)⟩) (by assumption) ?_
 try simp only [Act.put, List.setIfInBounds_toArray, List.set_cons_zero, List.set_cons_succ]
 refine takeD 16 (i := 12) (v := .pointer (some ⟨wb, 7, none⟩)) rfl rfl (by kernel_rfl) (by kernel_rfl) (by kernel_rfl) (fun _ _ _ h => h) (Or.inl ⟨by rfl, by (intro w' hw'; subst hw'; go_simp)⟩) (by assumption) ?_
 try simp only [Act.put, List.setIfInBounds_toArray, List.set_cons_zero, List.set_cons_succ]
 refine takeD 17 (i := 13) (v := .bool true) rfl rfl (by kernel_rfl) (by kernel_rfl) (by kernel_rfl) (fun _ _ _ h => h) (Or.inl ⟨by rfl, by (intro w' hw'; subst hw'; go_simp)⟩) (by assumption) ?_
 try simp only [Act.put, List.setIfInBounds_toArray, List.set_cons_zero, List.set_cons_succ]
 refine takeD 18 (i := 14) (v := .bool false) rfl rfl (by kernel_rfl) (by kernel_rfl) (by kernel_rfl) (fun _ _ _ h => h) (Or.inl ⟨by rfl, by (intro w' hw'; subst hw'; go_simp)⟩) (by assumption) ?_
 try simp only [Act.put, List.setIfInBounds_toArray, List.set_cons_zero, List.set_cons_succ]
 refine takeD 19 (i := 15) (v := .bool false) rfl rfl (by kernel_rfl) (by kernel_rfl) (by kernel_rfl) (fun _ _ _ h => h) (Or.inl ⟨by rfl, by (intro w' hw'; subst hw'; go_simp)⟩) (by assumption) ?_
 try simp only [Act.put, List.setIfInBounds_toArray, List.set_cons_zero, List.set_cons_succ]
 refine takeD 20 (i := 16) (v := .pointer (some ⟨wb, 0, none⟩)) rfl rfl (by kernel_rfl) (by kernel_rfl) (by kernel_rfl) (fun _ _ _ h => h) (Or.inl ⟨by rfl, by (intro w' hw'; subst hw'; go_simp)⟩) (by assumption) ?_
 try simp only [Act.put, List.setIfInBounds_toArray, List.set_cons_zero, List.set_cons_succ]
 refine takeD 21 (i := 17) (v := .pointer (some ⟨wb, 0, none⟩)) rfl rfl (by kernel_rfl) (by kernel_rfl) (by kernel_rfl) (fun _ _ _ h => h) (Or.inl ⟨by rfl, by (intro w' hw'; subst hw'; go_simp)⟩) (by assumption) ?_
 try simp only [Act.put, List.setIfInBounds_toArray, List.set_cons_zero, List.set_cons_succ]
 refine takeD 22 (i := 18) (v := .pointer (some ⟨wb, 8, none⟩)) rfl rfl (by kernel_rfl) (by kernel_rfl) (by kernel_rfl) (fun _ _ _ h => h) (Or.inl ⟨by rfl, by (intro w' hw'; subst hw'; go_simp)⟩) (by assumption) ?_
 try simp only [Act.put, List.setIfInBounds_toArray, List.set_cons_zero, List.set_cons_succ]
 refine takeD 23 (i := 19) (v := .bool false) rfl rfl (by kernel_rfl) (by kernel_rfl) (by kernel_rfl) (fun _ _ _ h => h) (Or.inl ⟨by rfl, by (intro w' hw'; subst hw'; go_simp)⟩) (by assumption) ?_
 try simp only [Act.put, List.setIfInBounds_toArray, List.set_cons_zero, List.set_cons_succ]
 refine takeD 24 (i := 20) (v := .bool true) rfl rfl (by kernel_rfl) (by kernel_rfl) (by kernel_rfl) (fun _ _ _ h => h) (Or.inl ⟨by rfl, by (intro w' hw'; subst hw'; go_simp)⟩) (by assumption) ?_
 try simp only [Act.put, List.setIfInBounds_toArray, List.set_cons_zero, List.set_cons_succ]
 refine takeD 25 (i := 21) (v := .bool true) rfl rfl (by kernel_rfl) (by kernel_rfl) (by kernel_rfl) (fun _ _ _ h => h) (Or.inl ⟨by rfl, by (intro w' hw'; subst hw'; go_simp)⟩) (by assumption) ?_
 try simp only [Act.put, List.setIfInBounds_toArray, List.set_cons_zero, List.set_cons_succ]
 refine takeD 26 (i := 22) (v := .pointer (some ⟨wb, 0, none⟩)) rfl rfl (by kernel_rfl) (by kernel_rfl) (by kernel_rfl) (fun _ _ _ h => h) (Or.inl ⟨by rfl, by (intro w' hw'; subst hw'; go_simp)⟩) (by assumption) ?_
 try simp only [Act.put, List.setIfInBounds_toArray, List.set_cons_zero, List.set_cons_succ]
 refine takeD 27 (i := 23) (v := .pointer (some ⟨wb, 0, none⟩)) rfl rfl (by kernel_rfl) (by kernel_rfl) (by kernel_rfl) (fun _ _ _ h => h) (Or.inl ⟨by rfl, by (intro w' hw'; subst hw'; go_simp)⟩) (by assumption) ?_
 try simp only [Act.put, List.setIfInBounds_toArray, List.set_cons_zero, List.set_cons_succ]
 refine takeD 28 (i := 24) (v := .pointer (some ⟨wb, 5, none⟩)) rfl rfl (by kernel_rfl) (by kernel_rfl) (by kernel_rfl) (fun _ _ _ h => h) (Or.inl ⟨by rfl, by (intro w' hw'; subst hw'; go_simp)⟩) (by assumption) ?_
 try simp only [Act.put, List.setIfInBounds_toArray, List.set_cons_zero, List.set_cons_succ]
 refine takeD 29 (i := 25) (v := .int .u64 at0) rfl rfl (by kernel_rfl) (by kernel_rfl) (by kernel_rfl) (fun _ _ _ h => h) (Or.inl ⟨by rfl, by (intro w' hw'; subst hw'; go_simp)⟩) (by assumption) ?_
 try simp only [Act.put, List.setIfInBounds_toArray, List.set_cons_zero, List.set_cons_succ]
 refine takeD 30 (i := 26) (v := .pointer (some ⟨wb, 0, none⟩)) rfl rfl (by kernel_rfl) (by kernel_rfl) (by kernel_rfl) (fun _ _ _ h => h) (Or.inl ⟨by rfl, by (intro w' hw'; subst hw'; go_simp)⟩) (by assumption) ?_
 try simp only [Act.put, List.setIfInBounds_toArray, List.set_cons_zero, List.set_cons_succ]
 refine takeD 31 (i := 27) (v := .pointer (some ⟨wb, 0, none⟩)) rfl rfl (by kernel_rfl) (by kernel_rfl) (by kernel_rfl) (fun _ _ _ h => h) (Or.inl ⟨by rfl, by (intro w' hw'; subst hw'; go_simp)⟩) (by assumption) ?_
 try simp only [Act.put, List.setIfInBounds_toArray, List.set_cons_zero, List.set_cons_succ]
 refine takeD 32 (i := 28) (v := .pointer (some ⟨wb, 6, none⟩)) rfl rfl (by kernel_rfl) (by kernel_rfl) (by kernel_rfl) (fun _ _ _ h => h) (Or.inl ⟨by rfl, by (intro w' hw'; subst hw'; go_simp)⟩) (by assumption) ?_
 try simp only [Act.put, List.setIfInBounds_toArray, List.set_cons_zero, List.set_cons_succ]
 refine takeD 33 (i := 29) (v := .int .u64 en0) rfl rfl (by kernel_rfl) (by kernel_rfl) (by kernel_rfl) (fun _ _ _ h => h) (Or.inl ⟨by rfl, by (intro w' hw'; subst hw'; go_simp)⟩) (by assumption) ?_
 try simp only [Act.put, List.setIfInBounds_toArray, List.set_cons_zero, List.set_cons_succ]
 refine takeD 34 (i := 30) (v := .bool true) rfl rfl (by kernel_rfl) (by kernel_rfl) (by kernel_rfl) (fun _ _ _ h => h) (Or.inl ⟨by rfl, by (intro w' hw'; subst hw'; go_simp)⟩) (by assumption) ?_
 try simp only [Act.put, List.setIfInBounds_toArray, List.set_cons_zero, List.set_cons_succ]
 refine takeD 35 (i := 31) (v := .bool true) rfl rfl (by kernel_rfl) (by kernel_rfl) (by kernel_rfl) (fun _ _ _ h => h) (Or.inl ⟨by rfl, by (intro w' hw'; subst hw'; go_simp)⟩) (by assumption) ?_
 try simp only [Act.put, List.setIfInBounds_toArray, List.set_cons_zero, List.set_cons_succ]
 refine takeD 36 (i := 32) (v := .bool true) rfl rfl (by kernel_rfl) (by kernel_rfl) (by kernel_rfl) (fun _ _ _ h => h) (Or.inl ⟨by rfl, by (intro w' hw'; subst hw'; go_simp)⟩) (by assumption) ?_
 try simp only [Act.put, List.setIfInBounds_toArray, List.set_cons_zero, List.set_cons_succ]
 refine takeD 37 (i := 33) (v := .bool true) rfl rfl (by kernel_rfl) (by kernel_rfl) (by kernel_rfl) (fun _ _ _ h => h) (Or.inl ⟨by rfl, by (intro w' hw'; subst hw'; go_simp)⟩) (by assumption) ?_
 try simp only [Act.put, List.setIfInBounds_toArray, List.set_cons_zero, List.set_cons_succ]
 refine wpAnyH_ready (rs := [34]) (by kernel_rfl) (by simp) (AllReadyH.cons rfl (fun K hK => ?_) AllReadyH.nil)
 rw [if_pos (by rfl)]
 go_simp
 refine (must_ok _ _).mono ?_
 rintro e w' ⟨rfl, rfl⟩
 refine hK.out _ _ hS0 (fun hS0 => ?_)
 clear hK K
 try simp only [Act.put, List.setIfInBounds_toArray, List.set_cons_zero, List.set_cons_succ]
 refine wpAnyH_done (by kernel_rfl) ?_ _
 go_upto_region 3 with (first
  | ((with_reducible show wpList _ _ _ (⟨some 40, _, _, _, _, _⟩ :: _) _ _); refine wpList_loadA rfl HA.out.drew 72 (.tmp 3) rfl (by first | rfl | simp [Act.eval, Act.put]) Tryz.underlying72 rfl HSZ.out ?_)
  | (go_at_call 102; refine (HC.out _ (Below.refl _ _).drew).mono ?_; rintro e w2 ⟨rfl, hb2⟩))
 exact ⟨rfl, rfl, HB1.out.drew.trans (hb2.mono HB1.out.drew.size)⟩
set_option maxRecDepth 100000 in
set_option maxHeartbeats 4000000 in
theorem seg_first (P : Nat → Prop) (wb b B size : Nat) (f : Nat → Int) (L : List (Nat × Nat)) (th : Bool) (ex : Int) (s : WSt) (d : Dsc) (W : World) (h : sWlk P wb W (.pointer (some ⟨b, 0, none⟩)) th ex s) (hn1 : d.n ≤ 9223372036854775807) (qA : decide (0 < d.n) = true) (qB : (d.n % 16 == 0) = true) (hpos : 0 < d.n) (qC : s.ins = false) (hM : MemAt W b B size f L) (hd : d.Ok) (hk : chk size d.a d.n = 0) (hes : d.a + d.n ≤ 4194304) :
  Calls Tryz.prog 99 #[.pointer (some ⟨wb, 0, none⟩), .agg d.cells] W fun e W' => e = .returned (.tuple #[]) ∧ Keeps (fun k => ¬ P k) W W' ∧ sWlk P wb W' (.pointer (some ⟨b, 0, none⟩)) th ex { s with ins := true, las := decide (d.k = 4), at' := d.a, en := d.a + d.n } := by
 obtain ⟨W1, hW1, hb1, ha1, hs1⟩ := box_start d W
 have HC := Lib.hid fun w (hb : Below W1.heap.size W1 w) => wcheck_ok wb b B size f L d w ((hM.below hb1).below hb) ((h.below hb1).below hb).c0 hd hk
 have HW := Lib.hid (h.below hb1)
 have HA := Lib.hid ha1
 have HB1 := Lib.hid hb1
 have HW1 := Lib.hid hW1
 obtain ⟨v, hr, -⟩ := (h.below hb1).ex
 have c5 : W1.cell? ⟨wb, 5, none⟩ = some (.int .u64 s.at') := hr.cell (i := 5) (by omega)
 have c6 : W1.cell? ⟨wb, 6, none⟩ = some (.int .u64 s.en) := hr.cell (i := 6) (by omega)
 have c7 : W1.cell? ⟨wb, 7, none⟩ = some (.bool s.ins) := hr.cell (i := 7) (by omega)
 have c8 : W1.cell? ⟨wb, 8, none⟩ = some (.bool s.las) := hr.cell (i := 8) (by omega)
 have e0 : W1.cell? ⟨W.heap.size, 0, none⟩ = some (.int .i64 d.k) := ha1.cell rfl
 have e1 : W1.cell? ⟨W.heap.size, 1, none⟩ = some (.int .u64 d.a) := ha1.cell rfl
 have e2 : W1.cell? ⟨W.heap.size, 2, none⟩ = some (.int .i64 d.n) := ha1.cell rfl
 have hwlt := h.wlt
 have hlts := hs1
 obtain ⟨A, hA⟩ : ∃ A, A = d.cells := ⟨_, rfl⟩
 have HSZ := Lib.hid (show (Tryz.prog.info? 72).map (·.size) = some A.size by rw [hA]; exact sizeD)
 rw [← hA] at HA HW1 ⊢
 rw [← hA] at HC
 have hai := hd.a
 obtain ⟨k, hk0⟩ : ∃ k, k = d.k := ⟨_, rfl⟩
 obtain ⟨a, ha0⟩ : ∃ a, a = d.a := ⟨_, rfl⟩
 obtain ⟨n, hn0⟩ : ∃ n, n = d.n := ⟨_, rfl⟩
 obtain ⟨at0, hat0⟩ : ∃ z, z = s.at' := ⟨_, rfl⟩
 obtain ⟨en0, hen0⟩ : ∃ z, z = s.en := ⟨_, rfl⟩
 rw [← hk0] at e0
 rw [← ha0] at e1
 rw [← hn0] at e2 qA hn1
 rw [← hat0] at c5
 rw [← hen0] at c6
 rw [← hn0] at qB hpos
 obtain ⟨r, hr0⟩ : ∃ r, r = n % 16 := ⟨_, rfl⟩
 rw [← hr0] at qB
 have hm1 : n.tmod 16 = r := by rw [Int.tmod_eq_emod_of_nonneg (by omega), hr0]
 have hm2 : n % 16 = r := hr0.symm
 have hr1 : 0 ≤ r := by omega
 have hr2 : r < 16 := by omega
 rw [qC] at c7
 obtain ⟨sb, hsb⟩ : ∃ z, z = W.heap.size := ⟨_, rfl⟩
 rw [← hsb] at e0 e1 e2 HA
 have hsb1 : sb < W1.heap.size := by omega
 have hwb1 : wb < W1.heap.size := by omega
 have hneq : wb ≠ sb := by omega
 have HSB := Lib.hid hsb
 have HK0 := Lib.hid hk0
 have HA0 := Lib.hid ha0
 have HN0 := Lib.hid hn0
 rw [← ha0] at hai
 rw [← ha0, ← hn0] at hes
 have HH := Lib.hid h
 clear h hW1 hb1 ha1 hs1 hr hA hk0 ha0 hn0 hat0 hen0 hsb hwlt hlts hr0 qC hM hd hk
 go_enter Tryz.func99, Tryz.ntmps99
 go_upto_region 1 with (fail)
 rw [← HW1.out]
 rw [← HSB.out]
 refine wp_region_held_drew (S := fun w' => w' = W1.drew) (by kernel_rfl) rfl (fun hS0 => ?_)
 refine takeD 4 (i := 0) (v := .pointer (some ⟨sb, 2, none⟩)) rfl rfl (by kernel_rfl) (by kernel_rfl) (by kernel_rfl) (fun _ _ _ h => h) (Or.inl ⟨by rfl, by (intro w' hw'; subst hw'; go_simp)⟩) (by assumption) ?_
 try simp only [Act.put, List.setIfInBounds_toArray, List.set_cons_zero, List.set_cons_succ]
 refine takeD 5 (i := 1) (v := .int .i64 n) rfl rfl (by kernel_rfl) (by kernel_rfl) (by kernel_rfl) (fun _ _ _ h => h) (Or.inl ⟨by rfl, by (intro w' hw'; subst hw'; go_simp)⟩) (by assumption) ?_
 try simp only [Act.put, List.setIfInBounds_toArray, List.set_cons_zero, List.set_cons_succ]
 refine takeD 6 (i := 2) (v := .bool true) rfl rfl (by kernel_rfl) (by kernel_rfl) (by kernel_rfl) (fun _ _ _ h => h) (Or.inl ⟨by rfl, by (intro w' hw'; subst hw'; go_simp)⟩) (by assumption) ?_
 try simp only [Act.put, List.setIfInBounds_toArray, List.set_cons_zero, List.set_cons_succ]
 refine takeD 7 (i := 3) (v := .bool true) rfl rfl (by kernel_rfl) (by kernel_rfl) (by kernel_rfl) (fun _ _ _ h => h) (Or.inl ⟨by rfl, by (intro w' hw'; subst hw'; go_simp)⟩) (by assumption) ?_
 try simp only [Act.put, List.setIfInBounds_toArray, List.set_cons_zero, List.set_cons_succ]
 refine takeD 8 (i := 4) (v := .pointer (some ⟨sb, 2, none⟩)) rfl rfl (by kernel_rfl) (by kernel_rfl) (by kernel_rfl) (fun _ _ _ h => h) (Or.inl ⟨by rfl, by (intro w' hw'; subst hw'; go_simp)⟩) (by assumption) ?_
 try simp only [Act.put, List.setIfInBounds_toArray, List.set_cons_zero, List.set_cons_succ]
 refine takeD 9 (i := 5) (v := .int .i64 n) rfl rfl (by kernel_rfl) (by kernel_rfl) (by kernel_rfl) (fun _ _ _ h => h) (Or.inl ⟨by rfl, by (intro w' hw'; subst hw'; go_simp)⟩) (by assumption) ?_
 try simp only [Act.put, List.setIfInBounds_toArray, List.set_cons_zero, List.set_cons_succ]
 refine takeD 10 (i := 6) (v := .int .i64 r) rfl rfl (by kernel_rfl) (by kernel_rfl) (by kernel_rfl) (fun _ _ _ h => h) (Or.inl ⟨by rfl, by (intro w' hw'; subst hw'; go_simp)⟩) (by assumption) ?_
 try simp only [Act.put, List.setIfInBounds_toArray, List.set_cons_zero, List.set_cons_succ]
 refine takeD 11 (i := 7) (v := .bool true) rfl rfl (by kernel_rfl) (by kernel_rfl) (by kernel_rfl) (fun _ _ _ h => h) (Or.inl ⟨by rfl, by (intro w' hw'; subst hw'; go_simp)⟩) (by assumption) ?_
 try simp only [Act.put, List.setIfInBounds_toArray, List.set_cons_zero, List.set_cons_succ]
 refine takeD 12 (i := 8) (v := .bool true) rfl rfl (by kernel_rfl) (by kernel_rfl) (by kernel_rfl) (fun _ _ _ h => h) (Or.inl ⟨by rfl, by (intro w' hw'; subst hw'; go_simp)⟩) (by assumption) ?_
 try simp only [Act.put, List.setIfInBounds_toArray, List.set_cons_zero, List.set_cons_succ]
 refine takeD 13 (i := 9) (v := .bool true) rfl rfl (by kernel_rfl) (by kernel_rfl) (by kernel_rfl) (fun _ _ _ h => h) (Or.inl ⟨by rfl, by (intro w' hw'; subst hw'; go_simp)⟩) (by assumption) ?_
 try simp only [Act.put, List.setIfInBounds_toArray, List.set_cons_zero, List.set_cons_succ]
 refine takeD 14 (i := 10) (v := .pointer (some ⟨wb, 0, none⟩)) rfl rfl (by kernel_rfl) (by kernel_rfl) (by kernel_rfl) (fun _ _ _ h => h) (Or.inl ⟨by rfl, by (intro w' hw'; subst hw'; go_simp)⟩) (by assumption) ?_
 try simp only [Act.put, List.setIfInBounds_toArray, List.set_cons_zero, List.set_cons_succ]
 refine takeD 15 (i := 11) (v := .pointer (some ⟨wb, 0, none⟩)) rfl rfl (by kernel_rfl) (by kernel_rfl) (by kernel_rfl) (fun _ _ _ h => h) (Or.inl ⟨by rfl, by (intro w' hw'; subst hw'; go_simp)⟩) (by assumption) ?_
 try simp only [Act.put, List.setIfInBounds_toArray, List.set_cons_zero, List.set_cons_succ]
 refine takeD 16 (i := 12) (v := .pointer (some ⟨wb, 7, none⟩)) rfl rfl (by kernel_rfl) (by kernel_rfl) (by kernel_rfl) (fun _ _ _ h => h) (Or.inl ⟨by rfl, by (intro w' hw'; subst hw'; go_simp)⟩) (by assumption) ?_
 try simp only [Act.put, List.setIfInBounds_toArray, List.set_cons_zero, List.set_cons_succ]
 refine takeD 17 (i := 13) (v := .bool false) rfl rfl (by kernel_rfl) (by kernel_rfl) (by kernel_rfl) (fun _ _ _ h => h) (Or.inl ⟨by rfl, by (intro w' hw'; subst hw'; go_simp)⟩) (by assumption) ?_
 try simp only [Act.put, List.setIfInBounds_toArray, List.set_cons_zero, List.set_cons_succ]
 refine takeD 18 (i := 14) (v := .bool true) rfl rfl (by kernel_rfl) (by kernel_rfl) (by kernel_rfl) (fun _ _ _ h => h) (Or.inl ⟨by rfl, by (intro w' hw'; subst hw'; go_simp)⟩) (by assumption) ?_
 try simp only [Act.put, List.setIfInBounds_toArray, List.set_cons_zero, List.set_cons_succ]
 refine takeD 19 (i := 15) (v := .bool true) rfl rfl (by kernel_rfl) (by kernel_rfl) (by kernel_rfl) (fun _ _ _ h => h) (Or.inl ⟨by rfl, by (intro w' hw'; subst hw'; go_simp)⟩) (by assumption) ?_
 try simp only [Act.put, List.setIfInBounds_toArray, List.set_cons_zero, List.set_cons_succ]
 refine takeD 20 (i := 16) (v := undef) rfl rfl (by kernel_rfl) (by kernel_rfl) (by kernel_rfl) (fun _ _ _ h => h) (Or.inr ⟨by rfl, rfl⟩) (by assumption) ?_
 try simp only [Act.put, List.setIfInBounds_toArray, List.set_cons_zero, List.set_cons_succ]
 refine takeD 21 (i := 17) (v := undef) rfl rfl (by kernel_rfl) (by kernel_rfl) (by kernel_rfl) (fun _ _ _ h => h) (Or.inr ⟨by rfl, rfl⟩) (by assumption) ?_
 try simp only [Act.put, List.setIfInBounds_toArray, List.set_cons_zero, List.set_cons_succ]
 refine takeD 22 (i := 18) (v := undef) rfl rfl (by kernel_rfl) (by kernel_rfl) (by kernel_rfl) (fun _ _ _ h => h) (Or.inr ⟨by rfl, rfl⟩) (by assumption) ?_
 try simp only [Act.put, List.setIfInBounds_toArray, List.set_cons_zero, List.set_cons_succ]
 refine takeD 23 (i := 19) (v := undef) rfl rfl (by kernel_rfl) (by kernel_rfl) (by kernel_rfl) (fun _ _ _ h => h) (Or.inr ⟨by rfl, rfl⟩) (by assumption) ?_
 try simp only [Act.put, List.setIfInBounds_toArray, List.set_cons_zero, List.set_cons_succ]
 refine takeD 24 (i := 20) (v := undef) rfl rfl (by kernel_rfl) (by kernel_rfl) (by kernel_rfl) (fun _ _ _ h => h) (Or.inr ⟨by rfl, rfl⟩) (by assumption) ?_
 try simp only [Act.put, List.setIfInBounds_toArray, List.set_cons_zero, List.set_cons_succ]
 refine takeD 25 (i := 21) (v := undef) rfl rfl (by kernel_rfl) (by kernel_rfl) (by kernel_rfl) (fun _ _ _ h => h) (Or.inr ⟨by rfl, rfl⟩) (by assumption) ?_
 try simp only [Act.put, List.setIfInBounds_toArray, List.set_cons_zero, List.set_cons_succ]
 refine takeD 26 (i := 22) (v := undef) rfl rfl (by kernel_rfl) (by kernel_rfl) (by kernel_rfl) (fun _ _ _ h => h) (Or.inr ⟨by rfl, rfl⟩) (by assumption) ?_
 try simp only [Act.put, List.setIfInBounds_toArray, List.set_cons_zero, List.set_cons_succ]
 refine takeD 27 (i := 23) (v := undef) rfl rfl (by kernel_rfl) (by kernel_rfl) (by kernel_rfl) (fun _ _ _ h => h) (Or.inr ⟨by rfl, rfl⟩) (by assumption) ?_
 try simp only [Act.put, List.setIfInBounds_toArray, List.set_cons_zero, List.set_cons_succ]
 refine takeD 28 (i := 24) (v := undef) rfl rfl (by kernel_rfl) (by kernel_rfl) (by kernel_rfl) (fun _ _ _ h => h) (Or.inr ⟨by rfl, rfl⟩) (by assumption) ?_
 try simp only [Act.put, List.setIfInBounds_toArray, List.set_cons_zero, List.set_cons_succ]
 refine takeD 29 (i := 25) (v := undef) rfl rfl (by kernel_rfl) (by kernel_rfl) (by kernel_rfl) (fun _ _ _ h => h) (Or.inr ⟨by rfl, rfl⟩) (by assumption) ?_
 try simp only [Act.put, List.setIfInBounds_toArray, List.set_cons_zero, List.set_cons_succ]
 refine takeD 30 (i := 26) (v := undef) rfl rfl (by kernel_rfl) (by kernel_rfl) (by kernel_rfl) (fun _ _ _ h => h) (Or.inr ⟨by rfl, rfl⟩) (by assumption) ?_
 try simp only [Act.put, List.setIfInBounds_toArray, List.set_cons_zero, List.set_cons_succ]
 refine takeD 31 (i := 27) (v := undef) rfl rfl (by kernel_rfl) (by kernel_rfl) (by kernel_rfl) (fun _ _ _ h => h) (Or.inr ⟨by rfl, rfl⟩) (by assumption) ?_
 try simp only [Act.put, List.setIfInBounds_toArray, List.set_cons_zero, List.set_cons_succ]
 refine takeD 32 (i := 28) (v := undef) rfl rfl (by kernel_rfl) (by kernel_rfl) (by kernel_rfl) (fun _ _ _ h => h) (Or.inr ⟨by rfl, rfl⟩) (by assumption) ?_
 try simp only [Act.put, List.setIfInBounds_toArray, List.set_cons_zero, List.set_cons_succ]
 refine takeD 33 (i := 29) (v := undef) rfl rfl (by kernel_rfl) (by kernel_rfl) (by kernel_rfl) (fun _ _ _ h => h) (Or.inr ⟨by rfl, rfl⟩) (by assumption) ?_
 try simp only [Act.put, List.setIfInBounds_toArray, List.set_cons_zero, List.set_cons_succ]
 refine takeD 34 (i := 30) (v := undef) rfl rfl (by kernel_rfl) (by kernel_rfl) (by kernel_rfl) (fun _ _ _ h => h) (Or.inr ⟨by rfl, rfl⟩) (by assumption) ?_
 try simp only [Act.put, List.setIfInBounds_toArray, List.set_cons_zero, List.set_cons_succ]
 refine takeD 35 (i := 31) (v := undef) rfl rfl (by kernel_rfl) (by kernel_rfl) (by kernel_rfl) (fun _ _ _ h => h) (Or.inr ⟨by rfl, rfl⟩) (by assumption) ?_
 try simp only [Act.put, List.setIfInBounds_toArray, List.set_cons_zero, List.set_cons_succ]
 refine takeD 36 (i := 32) (v := .bool true) rfl rfl (by kernel_rfl) (by kernel_rfl) (by kernel_rfl) (fun _ _ _ h => h) (Or.inl ⟨by rfl, by (intro w' hw'; subst hw'; go_simp)⟩) (by assumption) ?_
 try simp only [Act.put, List.setIfInBounds_toArray, List.set_cons_zero, List.set_cons_succ]
 refine takeD 37 (i := 33) (v := .bool true) rfl rfl (by kernel_rfl) (by kernel_rfl) (by kernel_rfl) (fun _ _ _ h => h) (Or.inl ⟨by rfl, by (intro w' hw'; subst hw'; go_simp)⟩) (by assumption) ?_
 try simp only [Act.put, List.setIfInBounds_toArray, List.set_cons_zero, List.set_cons_succ]
 refine wpAnyH_ready (rs := [34]) (by kernel_rfl) (by simp) (AllReadyH.cons rfl (fun K hK => ?_) AllReadyH.nil)
 rw [if_pos (by rfl)]
 go_simp
 refine (must_ok _ _).mono ?_
 rintro e w' ⟨rfl, rfl⟩
 refine hK.out _ _ hS0 (fun hS0 => ?_)
 clear hK K
 try simp only [Act.put, List.setIfInBounds_toArray, List.set_cons_zero, List.set_cons_succ]
 refine wpAnyH_done (by kernel_rfl) ?_ _
 go_upto_region 3 with (first
  | ((with_reducible show wpList _ _ _ (⟨some 40, _, _, _, _, _⟩ :: _) _ _); refine wpList_loadA rfl HA.out.drew 72 (.tmp 3) rfl (by first | rfl | simp [Act.eval, Act.put]) Tryz.underlying72 rfl HSZ.out ?_)
  | (go_at_call 102; refine (HC.out _ (Below.refl _ _).drew).mono ?_; rintro e w2 ⟨rfl, hb2⟩))
 have HW2 := Lib.hid ((HW.out.below ((Below.refl _ W1).drew)).below hb2)
 have HB2 := Lib.hid (HB1.out.drew.trans (hb2.mono HB1.out.drew.size))
 have g0 : w2.cell? ⟨sb, 0, none⟩ = some (.int .i64 k) := (hb2.cell (p := ⟨sb, 0, none⟩) hsb1).trans e0
 have g1 : w2.cell? ⟨sb, 1, none⟩ = some (.int .u64 a) := (hb2.cell (p := ⟨sb, 1, none⟩) hsb1).trans e1
 have g2 : w2.cell? ⟨sb, 2, none⟩ = some (.int .i64 n) := (hb2.cell (p := ⟨sb, 2, none⟩) hsb1).trans e2
 clear c5 c6 c7 c8 e0 e1 e2 hb2
 obtain ⟨v2, hr2, ho2, hp2⟩ := HW2.out.ex
 have u5 : w2.cell? ⟨wb, 5, none⟩ = some (.int .u64 s.at') := hr2.cell (i := 5) (by omega)
 have u6 : w2.cell? ⟨wb, 6, none⟩ = some (.int .u64 s.en) := hr2.cell (i := 6) (by omega)
 have u7 : w2.cell? ⟨wb, 7, none⟩ = some (.bool s.ins) := hr2.cell (i := 7) (by omega)
 have u8 : w2.cell? ⟨wb, 8, none⟩ = some (.bool s.las) := hr2.cell (i := 8) (by omega)
 have z5 := hr2.frozen 5
 have z6 := hr2.frozen 6
 have z7 := hr2.frozen 7
 have z8 := hr2.frozen 8
 have R2 := Lib.hid hr2
 have O2 := Lib.hid ho2
 have P2 := Lib.hid hp2
 have n0 : 0 ≤ n := by omega
 have n1 : n ≤ 4194304 := by omega
 have a1 : 0 ≤ a := by omega
 have a2 : a ≤ 4194304 := by omega
 have a3 : a + n ≤ 4194304 := by omega
 clear hr2 ho2 hp2
 go_region
 all_goals
  go_wp2_with fail
  go_region
 all_goals
  go_wp2_with fail
  go_end0
  refine ⟨rfl, (((((kN (P := P) HB2.out).setCell (p := ⟨wb, 7, none⟩) (fun _ => HH.out.notg) _).setCell (p := ⟨wb, 8, none⟩) (fun _ => HH.out.notg) _).setCell (p := ⟨wb, 5, none⟩) (fun _ => HH.out.notg) _).setCell (p := ⟨wb, 6, none⟩) (fun _ => HH.out.notg) _).drew.drew, ⟨⟨v2, ?_, (own_set (own_set (own_set (own_set O2.out 7 _) 8 _) 5 _) 6 _).drew.drew, P2.out⟩, HH.out.notg, fun j hj => Nat.lt_of_lt_of_le (HH.out.lt j hj) (by have := HB2.out.size; simpa using this)⟩⟩
  refine World.rowIs.of_block (((((R2.out.set 7 _).set 8 _).set 5 _).set 6 _).congr fun i hi => ?_) rfl
  rcases nine_cases hi with rfl | rfl | rfl | rfl | rfl | rfl | rfl | rfl | rfl
  all_goals first | rfl | (unfold swcell; simp [HA0.out, HN0.out, HK0.out]; done) | (unfold swcell; simp [HA0.out, HN0.out, HK0.out]; by_cases e : d.k = 4 <;> simp [e])
set_option maxRecDepth 100000 in
set_option maxHeartbeats 4000000 in
theorem seg_next (P : Nat → Prop) (wb b B size : Nat) (f : Nat → Int) (L : List (Nat × Nat)) (th : Bool) (ex : Int) (s : WSt) (d : Dsc) (W : World) (h : sWlk P wb W (.pointer (some ⟨b, 0, none⟩)) th ex s) (hn1 : d.n ≤ 9223372036854775807) (qA : decide (0 < d.n) = true) (qB : (d.n % 16 == 0) = true) (hpos : 0 < d.n) (qC : s.ins = true) (qD : s.las = false) (qE : (s.at' == s.en) = true) (hM : MemAt W b B size f L) (hd : d.Ok) (hk : chk size d.a d.n = 0) (hes : d.a + d.n ≤ 4194304) :
  Calls Tryz.prog 99 #[.pointer (some ⟨wb, 0, none⟩), .agg d.cells] W fun e W' => e = .returned (.tuple #[]) ∧ Keeps (fun k => ¬ P k) W W' ∧ sWlk P wb W' (.pointer (some ⟨b, 0, none⟩)) th ex { s with ins := true, las := decide (d.k = 4), at' := d.a, en := d.a + d.n } := by
 obtain ⟨W1, hW1, hb1, ha1, hs1⟩ := box_start d W
 have HC := Lib.hid fun w (hb : Below W1.heap.size W1 w) => wcheck_ok wb b B size f L d w ((hM.below hb1).below hb) ((h.below hb1).below hb).c0 hd hk
 have HW := Lib.hid (h.below hb1)
 have HA := Lib.hid ha1
 have HB1 := Lib.hid hb1
 have HW1 := Lib.hid hW1
 obtain ⟨v, hr, -⟩ := (h.below hb1).ex
 have c5 : W1.cell? ⟨wb, 5, none⟩ = some (.int .u64 s.at') := hr.cell (i := 5) (by omega)
 have c6 : W1.cell? ⟨wb, 6, none⟩ = some (.int .u64 s.en) := hr.cell (i := 6) (by omega)
 have c7 : W1.cell? ⟨wb, 7, none⟩ = some (.bool s.ins) := hr.cell (i := 7) (by omega)
 have c8 : W1.cell? ⟨wb, 8, none⟩ = some (.bool s.las) := hr.cell (i := 8) (by omega)
 have e0 : W1.cell? ⟨W.heap.size, 0, none⟩ = some (.int .i64 d.k) := ha1.cell rfl
 have e1 : W1.cell? ⟨W.heap.size, 1, none⟩ = some (.int .u64 d.a) := ha1.cell rfl
 have e2 : W1.cell? ⟨W.heap.size, 2, none⟩ = some (.int .i64 d.n) := ha1.cell rfl
 have hwlt := h.wlt
 have hlts := hs1
 obtain ⟨A, hA⟩ : ∃ A, A = d.cells := ⟨_, rfl⟩
 have HSZ := Lib.hid (show (Tryz.prog.info? 72).map (·.size) = some A.size by rw [hA]; exact sizeD)
 rw [← hA] at HA HW1 ⊢
 rw [← hA] at HC
 have hai := hd.a
 obtain ⟨k, hk0⟩ : ∃ k, k = d.k := ⟨_, rfl⟩
 obtain ⟨a, ha0⟩ : ∃ a, a = d.a := ⟨_, rfl⟩
 obtain ⟨n, hn0⟩ : ∃ n, n = d.n := ⟨_, rfl⟩
 obtain ⟨at0, hat0⟩ : ∃ z, z = s.at' := ⟨_, rfl⟩
 obtain ⟨en0, hen0⟩ : ∃ z, z = s.en := ⟨_, rfl⟩
 rw [← hk0] at e0
 rw [← ha0] at e1
 rw [← hn0] at e2 qA hn1
 rw [← hat0] at c5
 rw [← hen0] at c6
 rw [← hn0] at qB hpos
 obtain ⟨r, hr0⟩ : ∃ r, r = n % 16 := ⟨_, rfl⟩
 rw [← hr0] at qB
 have hm1 : n.tmod 16 = r := by rw [Int.tmod_eq_emod_of_nonneg (by omega), hr0]
 have hm2 : n % 16 = r := hr0.symm
 have hr1 : 0 ≤ r := by omega
 have hr2 : r < 16 := by omega
 rw [qC] at c7
 rw [qD] at c8
 rw [← hat0, ← hen0] at qE
 obtain ⟨sb, hsb⟩ : ∃ z, z = W.heap.size := ⟨_, rfl⟩
 rw [← hsb] at e0 e1 e2 HA
 have hsb1 : sb < W1.heap.size := by omega
 have hwb1 : wb < W1.heap.size := by omega
 have hneq : wb ≠ sb := by omega
 have HSB := Lib.hid hsb
 have HK0 := Lib.hid hk0
 have HA0 := Lib.hid ha0
 have HN0 := Lib.hid hn0
 rw [← ha0] at hai
 rw [← ha0, ← hn0] at hes
 have HH := Lib.hid h
 clear h hW1 hb1 ha1 hs1 hr hA hk0 ha0 hn0 hat0 hen0 hsb hwlt hlts hr0 qC qD hM hd hk
 go_enter Tryz.func99, Tryz.ntmps99
 go_upto_region 1 with (fail)
 rw [← HW1.out]
 rw [← HSB.out]
 refine wp_region_held_drew (S := fun w' => w' = W1.drew) (by kernel_rfl) rfl (fun hS0 => ?_)
 refine takeD 4 (i := 0) (v := .pointer (some ⟨sb, 2, none⟩)) rfl rfl (by kernel_rfl) (by kernel_rfl) (by kernel_rfl) (fun _ _ _ h => h) (Or.inl ⟨by rfl, by (intro w' hw'; subst hw'; go_simp)⟩) (by assumption) ?_
 try simp only [Act.put, List.setIfInBounds_toArray, List.set_cons_zero, List.set_cons_succ]
 refine takeD 5 (i := 1) (v := .int .i64 n) rfl rfl (by kernel_rfl) (by kernel_rfl) (by kernel_rfl) (fun _ _ _ h => h) (Or.inl ⟨by rfl, by (intro w' hw'; subst hw'; go_simp)⟩) (by assumption) ?_
 try simp only [Act.put, List.setIfInBounds_toArray, List.set_cons_zero, List.set_cons_succ]
 refine takeD 6 (i := 2) (v := .bool true) rfl rfl (by kernel_rfl) (by kernel_rfl) (by kernel_rfl) (fun _ _ _ h => h) (Or.inl ⟨by rfl, by (intro w' hw'; subst hw'; go_simp)⟩) (by assumption) ?_
 try simp only [Act.put, List.setIfInBounds_toArray, List.set_cons_zero, List.set_cons_succ]
 refine takeD 7 (i := 3) (v := .bool true) rfl rfl (by kernel_rfl) (by kernel_rfl) (by kernel_rfl) (fun _ _ _ h => h) (Or.inl ⟨by rfl, by (intro w' hw'; subst hw'; go_simp)⟩) (by assumption) ?_
 try simp only [Act.put, List.setIfInBounds_toArray, List.set_cons_zero, List.set_cons_succ]
 refine takeD 8 (i := 4) (v := .pointer (some ⟨sb, 2, none⟩)) rfl rfl (by kernel_rfl) (by kernel_rfl) (by kernel_rfl) (fun _ _ _ h => h) (Or.inl ⟨by rfl, by (intro w' hw'; subst hw'; go_simp)⟩) (by assumption) ?_
 try simp only [Act.put, List.setIfInBounds_toArray, List.set_cons_zero, List.set_cons_succ]
 refine takeD 9 (i := 5) (v := .int .i64 n) rfl rfl (by kernel_rfl) (by kernel_rfl) (by kernel_rfl) (fun _ _ _ h => h) (Or.inl ⟨by rfl, by (intro w' hw'; subst hw'; go_simp)⟩) (by assumption) ?_
 try simp only [Act.put, List.setIfInBounds_toArray, List.set_cons_zero, List.set_cons_succ]
 refine takeD 10 (i := 6) (v := .int .i64 r) rfl rfl (by kernel_rfl) (by kernel_rfl) (by kernel_rfl) (fun _ _ _ h => h) (Or.inl ⟨by rfl, by (intro w' hw'; subst hw'; go_simp)⟩) (by assumption) ?_
 try simp only [Act.put, List.setIfInBounds_toArray, List.set_cons_zero, List.set_cons_succ]
 refine takeD 11 (i := 7) (v := .bool true) rfl rfl (by kernel_rfl) (by kernel_rfl) (by kernel_rfl) (fun _ _ _ h => h) (Or.inl ⟨by rfl, by (intro w' hw'; subst hw'; go_simp)⟩) (by assumption) ?_
 try simp only [Act.put, List.setIfInBounds_toArray, List.set_cons_zero, List.set_cons_succ]
 refine takeD 12 (i := 8) (v := .bool true) rfl rfl (by kernel_rfl) (by kernel_rfl) (by kernel_rfl) (fun _ _ _ h => h) (Or.inl ⟨by rfl, by (intro w' hw'; subst hw'; go_simp)⟩) (by assumption) ?_
 try simp only [Act.put, List.setIfInBounds_toArray, List.set_cons_zero, List.set_cons_succ]
 refine takeD 13 (i := 9) (v := .bool true) rfl rfl (by kernel_rfl) (by kernel_rfl) (by kernel_rfl) (fun _ _ _ h => h) (Or.inl ⟨by rfl, by (intro w' hw'; subst hw'; go_simp)⟩) (by assumption) ?_
 try simp only [Act.put, List.setIfInBounds_toArray, List.set_cons_zero, List.set_cons_succ]
 refine takeD 14 (i := 10) (v := .pointer (some ⟨wb, 0, none⟩)) rfl rfl (by kernel_rfl) (by kernel_rfl) (by kernel_rfl) (fun _ _ _ h => h) (Or.inl ⟨by rfl, by (intro w' hw'; subst hw'; go_simp)⟩) (by assumption) ?_
 try simp only [Act.put, List.setIfInBounds_toArray, List.set_cons_zero, List.set_cons_succ]
 refine takeD 15 (i := 11) (v := .pointer (some ⟨wb, 0, none⟩)) rfl rfl (by kernel_rfl) (by kernel_rfl) (by kernel_rfl) (fun _ _ _ h => h) (Or.inl ⟨by rfl, by (intro w' hw'; subst hw'; go_simp)⟩) (by assumption) ?_
 try simp only [Act.put, List.setIfInBounds_toArray, List.set_cons_zero, List.set_cons_succ]
 refine takeD 16 (i := 12) (v := .pointer (some ⟨wb, 7, none⟩)) rfl rfl (by kernel_rfl) (by kernel_rfl) (by kernel_rfl) (fun _ _ _ h => h) (Or.inl ⟨by rfl, by (intro w' hw'; subst hw'; go_simp)⟩) (by assumption) ?_
 try simp only [Act.put, List.setIfInBounds_toArray, List.set_cons_zero, List.set_cons_succ]
 refine takeD 17 (i := 13) (v := .bool true) rfl rfl (by kernel_rfl) (by kernel_rfl) (by kernel_rfl) (fun _ _ _ h => h) (Or.inl ⟨by rfl, by (intro w' hw'; subst hw'; go_simp)⟩) (by assumption) ?_
 try simp only [Act.put, List.setIfInBounds_toArray, List.set_cons_zero, List.set_cons_succ]
 refine takeD 18 (i := 14) (v := .bool false) rfl rfl (by kernel_rfl) (by kernel_rfl) (by kernel_rfl) (fun _ _ _ h => h) (Or.inl ⟨by rfl, by (intro w' hw'; subst hw'; go_simp)⟩) (by assumption) ?_
 try simp only [Act.put, List.setIfInBounds_toArray, List.set_cons_zero, List.set_cons_succ]
 refine takeD 19 (i := 15) (v := .bool false) rfl rfl (by kernel_rfl) (by kernel_rfl) (by kernel_rfl) (fun _ _ _ h => h) (Or.inl ⟨by rfl, by (intro w' hw'; subst hw'; go_simp)⟩) (by assumption) ?_
 try simp only [Act.put, List.setIfInBounds_toArray, List.set_cons_zero, List.set_cons_succ]
 refine takeD 20 (i := 16) (v := .pointer (some ⟨wb, 0, none⟩)) rfl rfl (by kernel_rfl) (by kernel_rfl) (by kernel_rfl) (fun _ _ _ h => h) (Or.inl ⟨by rfl, by (intro w' hw'; subst hw'; go_simp)⟩) (by assumption) ?_
 try simp only [Act.put, List.setIfInBounds_toArray, List.set_cons_zero, List.set_cons_succ]
 refine takeD 21 (i := 17) (v := .pointer (some ⟨wb, 0, none⟩)) rfl rfl (by kernel_rfl) (by kernel_rfl) (by kernel_rfl) (fun _ _ _ h => h) (Or.inl ⟨by rfl, by (intro w' hw'; subst hw'; go_simp)⟩) (by assumption) ?_
 try simp only [Act.put, List.setIfInBounds_toArray, List.set_cons_zero, List.set_cons_succ]
 refine takeD 22 (i := 18) (v := .pointer (some ⟨wb, 8, none⟩)) rfl rfl (by kernel_rfl) (by kernel_rfl) (by kernel_rfl) (fun _ _ _ h => h) (Or.inl ⟨by rfl, by (intro w' hw'; subst hw'; go_simp)⟩) (by assumption) ?_
 try simp only [Act.put, List.setIfInBounds_toArray, List.set_cons_zero, List.set_cons_succ]
 refine takeD 23 (i := 19) (v := .bool false) rfl rfl (by kernel_rfl) (by kernel_rfl) (by kernel_rfl) (fun _ _ _ h => h) (Or.inl ⟨by rfl, by (intro w' hw'; subst hw'; go_simp)⟩) (by assumption) ?_
 try simp only [Act.put, List.setIfInBounds_toArray, List.set_cons_zero, List.set_cons_succ]
 refine takeD 24 (i := 20) (v := .bool true) rfl rfl (by kernel_rfl) (by kernel_rfl) (by kernel_rfl) (fun _ _ _ h => h) (Or.inl ⟨by rfl, by (intro w' hw'; subst hw'; go_simp)⟩) (by assumption) ?_
 try simp only [Act.put, List.setIfInBounds_toArray, List.set_cons_zero, List.set_cons_succ]
 refine takeD 25 (i := 21) (v := .bool true) rfl rfl (by kernel_rfl) (by kernel_rfl) (by kernel_rfl) (fun _ _ _ h => h) (Or.inl ⟨by rfl, by (intro w' hw'; subst hw'; go_simp)⟩) (by assumption) ?_
 try simp only [Act.put, List.setIfInBounds_toArray, List.set_cons_zero, List.set_cons_succ]
 refine takeD 26 (i := 22) (v := .pointer (some ⟨wb, 0, none⟩)) rfl rfl (by kernel_rfl) (by kernel_rfl) (by kernel_rfl) (fun _ _ _ h => h) (Or.inl ⟨by rfl, by (intro w' hw'; subst hw'; go_simp)⟩) (by assumption) ?_
 try simp only [Act.put, List.setIfInBounds_toArray, List.set_cons_zero, List.set_cons_succ]
 refine takeD 27 (i := 23) (v := .pointer (some ⟨wb, 0, none⟩)) rfl rfl (by kernel_rfl) (by kernel_rfl) (by kernel_rfl) (fun _ _ _ h => h) (Or.inl ⟨by rfl, by (intro w' hw'; subst hw'; go_simp)⟩) (by assumption) ?_
 try simp only [Act.put, List.setIfInBounds_toArray, List.set_cons_zero, List.set_cons_succ]
 refine takeD 28 (i := 24) (v := .pointer (some ⟨wb, 5, none⟩)) rfl rfl (by kernel_rfl) (by kernel_rfl) (by kernel_rfl) (fun _ _ _ h => h) (Or.inl ⟨by rfl, by (intro w' hw'; subst hw'; go_simp)⟩) (by assumption) ?_
 try simp only [Act.put, List.setIfInBounds_toArray, List.set_cons_zero, List.set_cons_succ]
 refine takeD 29 (i := 25) (v := .int .u64 at0) rfl rfl (by kernel_rfl) (by kernel_rfl) (by kernel_rfl) (fun _ _ _ h => h) (Or.inl ⟨by rfl, by (intro w' hw'; subst hw'; go_simp)⟩) (by assumption) ?_
 try simp only [Act.put, List.setIfInBounds_toArray, List.set_cons_zero, List.set_cons_succ]
 refine takeD 30 (i := 26) (v := .pointer (some ⟨wb, 0, none⟩)) rfl rfl (by kernel_rfl) (by kernel_rfl) (by kernel_rfl) (fun _ _ _ h => h) (Or.inl ⟨by rfl, by (intro w' hw'; subst hw'; go_simp)⟩) (by assumption) ?_
 try simp only [Act.put, List.setIfInBounds_toArray, List.set_cons_zero, List.set_cons_succ]
 refine takeD 31 (i := 27) (v := .pointer (some ⟨wb, 0, none⟩)) rfl rfl (by kernel_rfl) (by kernel_rfl) (by kernel_rfl) (fun _ _ _ h => h) (Or.inl ⟨by rfl, by (intro w' hw'; subst hw'; go_simp)⟩) (by assumption) ?_
 try simp only [Act.put, List.setIfInBounds_toArray, List.set_cons_zero, List.set_cons_succ]
 refine takeD 32 (i := 28) (v := .pointer (some ⟨wb, 6, none⟩)) rfl rfl (by kernel_rfl) (by kernel_rfl) (by kernel_rfl) (fun _ _ _ h => h) (Or.inl ⟨by rfl, by (intro w' hw'; subst hw'; go_simp)⟩) (by assumption) ?_
 try simp only [Act.put, List.setIfInBounds_toArray, List.set_cons_zero, List.set_cons_succ]
 refine takeD 33 (i := 29) (v := .int .u64 en0) rfl rfl (by kernel_rfl) (by kernel_rfl) (by kernel_rfl) (fun _ _ _ h => h) (Or.inl ⟨by rfl, by (intro w' hw'; subst hw'; go_simp)⟩) (by assumption) ?_
 try simp only [Act.put, List.setIfInBounds_toArray, List.set_cons_zero, List.set_cons_succ]
 refine takeD 34 (i := 30) (v := .bool true) rfl rfl (by kernel_rfl) (by kernel_rfl) (by kernel_rfl) (fun _ _ _ h => h) (Or.inl ⟨by rfl, by (intro w' hw'; subst hw'; go_simp)⟩) (by assumption) ?_
 try simp only [Act.put, List.setIfInBounds_toArray, List.set_cons_zero, List.set_cons_succ]
 refine takeD 35 (i := 31) (v := .bool true) rfl rfl (by kernel_rfl) (by kernel_rfl) (by kernel_rfl) (fun _ _ _ h => h) (Or.inl ⟨by rfl, by (intro w' hw'; subst hw'; go_simp)⟩) (by assumption) ?_
 try simp only [Act.put, List.setIfInBounds_toArray, List.set_cons_zero, List.set_cons_succ]
 refine takeD 36 (i := 32) (v := .bool true) rfl rfl (by kernel_rfl) (by kernel_rfl) (by kernel_rfl) (fun _ _ _ h => h) (Or.inl ⟨by rfl, by (intro w' hw'; subst hw'; go_simp)⟩) (by assumption) ?_
 try simp only [Act.put, List.setIfInBounds_toArray, List.set_cons_zero, List.set_cons_succ]
 refine takeD 37 (i := 33) (v := .bool true) rfl rfl (by kernel_rfl) (by kernel_rfl) (by kernel_rfl) (fun _ _ _ h => h) (Or.inl ⟨by rfl, by (intro w' hw'; subst hw'; go_simp)⟩) (by assumption) ?_
 try simp only [Act.put, List.setIfInBounds_toArray, List.set_cons_zero, List.set_cons_succ]
 refine wpAnyH_ready (rs := [34]) (by kernel_rfl) (by simp) (AllReadyH.cons rfl (fun K hK => ?_) AllReadyH.nil)
 rw [if_pos (by rfl)]
 go_simp
 refine (must_ok _ _).mono ?_
 rintro e w' ⟨rfl, rfl⟩
 refine hK.out _ _ hS0 (fun hS0 => ?_)
 clear hK K
 try simp only [Act.put, List.setIfInBounds_toArray, List.set_cons_zero, List.set_cons_succ]
 refine wpAnyH_done (by kernel_rfl) ?_ _
 go_upto_region 3 with (first
  | ((with_reducible show wpList _ _ _ (⟨some 40, _, _, _, _, _⟩ :: _) _ _); refine wpList_loadA rfl HA.out.drew 72 (.tmp 3) rfl (by first | rfl | simp [Act.eval, Act.put]) Tryz.underlying72 rfl HSZ.out ?_)
  | (go_at_call 102; refine (HC.out _ (Below.refl _ _).drew).mono ?_; rintro e w2 ⟨rfl, hb2⟩))
 have HW2 := Lib.hid ((HW.out.below ((Below.refl _ W1).drew)).below hb2)
 have HB2 := Lib.hid (HB1.out.drew.trans (hb2.mono HB1.out.drew.size))
 have g0 : w2.cell? ⟨sb, 0, none⟩ = some (.int .i64 k) := (hb2.cell (p := ⟨sb, 0, none⟩) hsb1).trans e0
 have g1 : w2.cell? ⟨sb, 1, none⟩ = some (.int .u64 a) := (hb2.cell (p := ⟨sb, 1, none⟩) hsb1).trans e1
 have g2 : w2.cell? ⟨sb, 2, none⟩ = some (.int .i64 n) := (hb2.cell (p := ⟨sb, 2, none⟩) hsb1).trans e2
 clear c5 c6 c7 c8 e0 e1 e2 hb2
 obtain ⟨v2, hr2, ho2, hp2⟩ := HW2.out.ex
 have u5 : w2.cell? ⟨wb, 5, none⟩ = some (.int .u64 s.at') := hr2.cell (i := 5) (by omega)
 have u6 : w2.cell? ⟨wb, 6, none⟩ = some (.int .u64 s.en) := hr2.cell (i := 6) (by omega)
 have u7 : w2.cell? ⟨wb, 7, none⟩ = some (.bool s.ins) := hr2.cell (i := 7) (by omega)
 have u8 : w2.cell? ⟨wb, 8, none⟩ = some (.bool s.las) := hr2.cell (i := 8) (by omega)
 have z5 := hr2.frozen 5
 have z6 := hr2.frozen 6
 have z7 := hr2.frozen 7
 have z8 := hr2.frozen 8
 have R2 := Lib.hid hr2
 have O2 := Lib.hid ho2
 have P2 := Lib.hid hp2
 have n0 : 0 ≤ n := by omega
 have n1 : n ≤ 4194304 := by omega
 have a1 : 0 ≤ a := by omega
 have a2 : a ≤ 4194304 := by omega
 have a3 : a + n ≤ 4194304 := by omega
 clear hr2 ho2 hp2
 go_region
 all_goals
  go_wp2_with fail
  go_region
 all_goals
  go_wp2_with fail
  go_end0
  refine ⟨rfl, (((((kN (P := P) HB2.out).setCell (p := ⟨wb, 7, none⟩) (fun _ => HH.out.notg) _).setCell (p := ⟨wb, 8, none⟩) (fun _ => HH.out.notg) _).setCell (p := ⟨wb, 5, none⟩) (fun _ => HH.out.notg) _).setCell (p := ⟨wb, 6, none⟩) (fun _ => HH.out.notg) _).drew.drew, ⟨⟨v2, ?_, (own_set (own_set (own_set (own_set O2.out 7 _) 8 _) 5 _) 6 _).drew.drew, P2.out⟩, HH.out.notg, fun j hj => Nat.lt_of_lt_of_le (HH.out.lt j hj) (by have := HB2.out.size; simpa using this)⟩⟩
  refine World.rowIs.of_block (((((R2.out.set 7 _).set 8 _).set 5 _).set 6 _).congr fun i hi => ?_) rfl
  rcases nine_cases hi with rfl | rfl | rfl | rfl | rfl | rfl | rfl | rfl | rfl
  all_goals first | rfl | (unfold swcell; simp [HA0.out, HN0.out, HK0.out]; done) | (unfold swcell; simp [HA0.out, HN0.out, HK0.out]; by_cases e : d.k = 4 <;> simp [e])
end Go.Proofs.YtfmabknhfehdcaaGreat
