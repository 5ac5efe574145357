/- connect: the law ConnectData returns true and writes to nothing that was there. -/
import Derived.Test.YtchkipafjnehfaaTG
import Derived.Test.YtchkipafjnehfaaKnown
namespace Go.Proofs.Ytchkipafjnehfaa
set_option linter.unusedVariables false
set_option linter.unusedSimpArgs false
open Go.RowKit

theorem addr_of_cell {w : World} {a : Addr} {v : Value} (h : w.cell? a = some v) : a = ⟨a.block, a.off, none⟩ := by
  obtain ⟨b, o, s⟩ := a
  cases s with
  | none => rfl
  | some s =>
    unfold World.cell? at h
    simp only at h
    split at h <;> simp at h

/-- Where 1024 bytes came in, they are B. -/
def SrcB (w : World) (ao : Option Addr) (n : Nat) (B : Nat → Int) : Prop := n = 1024 → ∃ sg so, ao = some ⟨sg, so, none⟩ ∧ BytesAt w sg so 1024 B
theorem SrcB.below {w w' : World} {ao : Option Addr} {n : Nat} {B : Nat → Int} (h : SrcB w ao n B) (hb : Below w.heap.size w w') : SrcB w' ao n B := fun hn => by
  obtain ⟨sg, so, e, hs⟩ := h hn
  exact ⟨sg, so, e, hs.below hb⟩
theorem srcB_of {w : World} {ao : Option Addr} {len cap : Nat} {zs : List Int} (h : IsRow .u8 w ao len cap zs) :
    SrcB w ao len (fun i => zs.getD i 0) ∧ (∀ i, 0 ≤ zs.getD i 0 ∧ zs.getD i 0 ≤ 255) ∧ len ≤ cap ∧ cap ≤ 9223372036854775807 := by
  rcases h with ⟨rfl, rfl, rfl, rfl⟩ | ⟨x, rfl, h1, h2, h3, h4, h5⟩
  · exact ⟨fun h => by omega, fun i => by simp, by omega, by omega⟩
  · refine ⟨fun hn => ?_, fun i => ?_, h1, by unfold maxLen at h2; omega⟩
    · have e0 := addr_of_cell (h4 0 (by omega))
      have e1 : x.add 0 = x := by obtain ⟨b, o, s⟩ := x; unfold Addr.add; split <;> simp_all
      rw [e1] at e0
      refine ⟨x.block, x.off, congrArg some e0, fun j hj => ?_⟩
      have hc := h4 j (by omega)
      rw [e0, Addr.add_mid] at hc
      exact hc
    · rcases Nat.lt_or_ge i zs.length with c | c
      · have := h5 (zs.getD i 0) (by simp [List.getD_eq_getElem?_getD, c])
        exact wf_u8 this
      · simp [List.getD_eq_getElem?_getD, List.getElem?_eq_none c]

/-- Both decoders answer alike. -/
theorem decode_both (ao : Option Addr) (n c : Nat) (B : Nat → Int) (hB : ∀ j, 0 ≤ B j ∧ B j ≤ 255) (hn : n ≤ c) (hc : c ≤ 9223372036854775807) :
    ∃ (d : Dat) (k : Int), d.Ok ∧ (k = 0 → n = 1024 ∧ AccD B ∧ d = dDec B) ∧ (∀ W, SrcB W ao n B → Calls Try.prog 35 #[.slice ao n c] W fun e w' => e = .returned (.tuple #[d.v, .int .i64 k]) ∧ Below W.heap.size W w') ∧
      ∀ W, SrcB W ao n B → Calls Try.prog 36 #[.slice ao n c] W fun e w' => e = .returned (.tuple #[d.v, .int .i64 k]) ∧ Below W.heap.size W w' := by
  by_cases h : n = 1024
  · subst h
    by_cases ha : AccD B
    · refine ⟨dDec B, 0, dDec_ok hB, fun _ => ⟨rfl, ha, rfl⟩, fun W hs => ?_, fun W hs => ?_⟩
      · obtain ⟨sg, so, rfl, hs2⟩ := hs rfl
        exact (decodeData_any sg so c B W hB hs2 hn hc).mono fun e w' ⟨h, hb⟩ => ⟨h.elim (fun h => h.2) (fun h => absurd ha h.1), hb⟩
      · obtain ⟨sg, so, rfl, hs2⟩ := hs rfl
        exact (refDecodeData_any sg so c B W hB hs2 hn hc).mono fun e w' ⟨h, hb⟩ => ⟨h.elim (fun h => h.2) (fun h => absurd ha h.1), hb⟩
    · refine ⟨D0, 6, D0_ok, fun h => by omega, fun W hs => ?_, fun W hs => ?_⟩
      · obtain ⟨sg, so, rfl, hs2⟩ := hs rfl
        exact (decodeData_any sg so c B W hB hs2 hn hc).mono fun e w' ⟨h, hb⟩ => ⟨h.elim (fun h => absurd h.1 ha) (fun h => h.2), hb⟩
      · obtain ⟨sg, so, rfl, hs2⟩ := hs rfl
        exact (refDecodeData_any sg so c B W hB hs2 hn hc).mono fun e w' ⟨h, hb⟩ => ⟨h.elim (fun h => absurd h.1 ha) (fun h => h.2), hb⟩
  · exact ⟨D0, if n < 1024 then 4 else 5, D0_ok, fun h => by split at h <;> omega, fun W hs => decodeData_len ao n c W h (by omega), fun W hs => refDecodeData_len ao n c W h (by omega)⟩

set_option maxRecDepth 100000 in
set_option maxHeartbeats 4000000 in
/-- Too long: the law looks at nothing. -/
theorem data_long (d : Dat) (ao : Option Addr) (n c : Nat) (w : World) (hok : d.Ok) (hn : n ≤ 9223372036854775807) (hl : 300 < d.sub.size ∨ 300 < d.hst.size ∨ 1100 < n) :
    Calls Try.prog 10 #[d.v, .slice ao n c] w fun e w' => e = .returned (.bool true) ∧ Below w.heap.size w w' := by
  obtain ⟨W0, hW⟩ : ∃ W0, W0 = w.alloc (.cells (arr 19 (dcell d)) 69) := ⟨_, rfl⟩
  obtain ⟨h1, h2, h3⟩ := dstart d w W0 hW
  have HW := Lib.hid hW
  have HB := Lib.hid h2
  have s1 := hok.s
  have s2 := hok.t
  have c17 : W0.cell? ⟨w.heap.size, 17, none⟩ = some (.string d.sub) := World.rowIs.cell h1 (by omega)
  have c18 : W0.cell? ⟨w.heap.size, 18, none⟩ = some (.string d.hst) := World.rowIs.cell h1 (by omega)
  clear hW h1 h2 h3 hok
  unfold Dat.v
  by_cases hs : 300 < d.sub.size
  · have d1 : decide ((300 : Int) < (d.sub.size : Int)) = true := by simp; omega
    go_enter Try.func10, Try.ntmps10
    go_upto_region 1 with fail
    rw [← HW.out]
    go_wp2_with fail
    refine (known_any _).mono ?_
    rintro e w1 ⟨rfl, hb⟩
    go_wp2_with fail
    go_ret
    exact ⟨rfl, HB.out.trans (hb.mono HB.out.size)⟩
  · have d1 : decide ((300 : Int) < (d.sub.size : Int)) = false := by simp; omega
    by_cases ht : 300 < d.hst.size
    · have d2 : decide ((300 : Int) < (d.hst.size : Int)) = true := by simp; omega
      go_enter Try.func10, Try.ntmps10
      go_upto_region 1 with fail
      rw [← HW.out]
      go_wp2_with fail
      refine (known_any _).mono ?_
      rintro e w1 ⟨rfl, hb⟩
      go_wp2_with fail
      go_ret
      exact ⟨rfl, HB.out.trans (hb.mono HB.out.size)⟩
    · have d2 : decide ((300 : Int) < (d.hst.size : Int)) = false := by simp; omega
      have d3 : decide ((1100 : Int) < (n : Int)) = true := by simp; omega
      go_enter Try.func10, Try.ntmps10
      go_upto_region 1 with fail
      rw [← HW.out]
      go_wp2_with fail
      refine (known_any _).mono ?_
      rintro e w1 ⟨rfl, hb⟩
      go_wp2_with fail
      go_ret
      exact ⟨rfl, HB.out.trans (hb.mono HB.out.size)⟩

/-- What lies in memory while the law runs. -/
structure LD (w W : World) (b : Nat) (d : Dat) (ao : Option Addr) (n : Nat) (B : Nat → Int) : Prop where
  dat : DatAt W b d
  src : SrcB W ao n B
  below : Below w.heap.size w W
theorem LD.after {w W W' : World} {b : Nat} {d : Dat} {ao : Option Addr} {n : Nat} {B : Nat → Int} (h : LD w W b d ao n B) (k : Below W.heap.size W W') : LD w W' b d ao n B :=
  ⟨World.rowIs.of_block h.dat (k.block _ (World.rowIs.lt h.dat)), h.src.below k, h.below.trans (k.mono h.below.size)⟩
theorem LD.drew {w W : World} {b : Nat} {d : Dat} {ao : Option Addr} {n : Nat} {B : Nat → Int} (h : LD w W b d ao n B) : LD w W.drew b d ao n B := ⟨World.rowIs.drew h.dat, h.src, h.below.drew⟩

set_option maxRecDepth 100000 in
set_option maxHeartbeats 4000000 in
theorem data_good (d : Dat) (ao : Option Addr) (n c : Nat) (B : Nat → Int) (w : World) (hok : d.Ok) (hB : ∀ j, 0 ≤ B j ∧ B j ≤ 255) (hn : n ≤ c) (hc : c ≤ 9223372036854775807) (hsrc : SrcB w ao n B)
    (hs : d.sub.size ≤ 300) (ht : d.hst.size ≤ 300) (hn2 : n ≤ 1100) (hv : vDat d = true) :
    Calls Try.prog 10 #[d.v, .slice ao n c] w fun e w' => e = .returned (.bool true) ∧ Below w.heap.size w w' := by
  obtain ⟨d2, k, hok2, -, hD1, hD2⟩ := decode_both ao n c B hB hn hc
  have HD1 := Lib.hid hD1
  have HD2 := Lib.hid hD2
  have HEQ := Lib.hid fun W => eq69 d2 W
  obtain ⟨W0, hW⟩ : ∃ W0, W0 = w.alloc (.cells (arr 19 (dcell d)) 69) := ⟨_, rfl⟩
  obtain ⟨h1, h2, h3⟩ := dstart d w W0 hW
  have HW := Lib.hid hW
  obtain ⟨b, hb⟩ : ∃ b, b = w.heap.size := ⟨_, rfl⟩
  rw [← hb] at h1
  have E := Lib.hid (show LD w W0 b d ao n B from ⟨h1, hsrc.below (by rw [hW]; exact (Below.refl _ w).alloc (Nat.le_refl _) _), h2⟩)
  have c17 : W0.cell? ⟨b, 17, none⟩ = some (.string d.sub) := World.rowIs.cell h1 (by omega)
  have c18 : W0.cell? ⟨b, 18, none⟩ = some (.string d.hst) := World.rowIs.cell h1 (by omega)
  have HR := Lib.hid (rowIs_range0 h1)
  have HBE := Lib.hid hb
  have d1 : decide ((300 : Int) < (d.sub.size : Int)) = false := by simp; omega
  have d2' : decide ((300 : Int) < (d.hst.size : Int)) = false := by simp; omega
  have d3 : decide ((1100 : Int) < (n : Int)) = false := by simp; omega
  have HCD := Lib.hid (show ∀ W, Calls Try.prog 33 #[.agg (arr 19 (dcell d))] W fun e w' => e = .returned (.bool true) ∧ Below W.heap.size W w' from fun W => by have := refData_any d W hok; rwa [hv] at this)
  have HE := Lib.hid fun W => encodeData_ok d W hok hv
  have HCE := Lib.hid fun W => refEncodeData d W hok hv
  unfold Dat.v at HCE
  obtain ⟨X, hX⟩ : ∃ X, X = strOf 1024 (dB d) := ⟨_, rfl⟩
  have HX := Lib.hid hX
  have hq : (X.toList == X.toList) = true := by rw [← beq_toListBytes]; exact baeq_self _
  clear hX
  clear hD1 hD2 hW h1 h2 h3 hok hB hsrc hv hb hok2
  unfold Dat.v at HE HD1 HD2 HEQ
  unfold Dat.v
  go_enter Try.func10, Try.ntmps10
  go_upto_region 1 with fail
  rw [← HW.out, ← HBE.out]
  go_wp2_with ((with_reducible show wpList _ _ _ (⟨some 28, .load _ _, _, _, _, _⟩ :: _) _ _); refine wpList_load_mid rfl 69 (.tmp 2) rfl b 0 rfl (arr 19 (dcell d)).toList _ HR.out Try.underlying69 rfl (by rw [size69]; simp [arr]) ?_)
  refine (HE.out _).mono ?_
  rintro e w1 ⟨g, rfl, hg, hb1, hrow⟩
  have E1 := Lib.hid (E.out.after hb1)
  have HG := Lib.hid (show BytesAt w1 g 0 1024 (dB d) from fun j hj => by rw [Nat.zero_add]; exact hrow.cell hj)
  clear hb1 hrow hg c17 c18
  go_upto_region 4 with fail
  refine wp_region_held_drew (S := (fun w' => LD w w' b d ao n B ∧ BytesAt w' g 0 1024 (dB d))) (by kernel_rfl) ⟨E1.out.drew, HG.out⟩ (fun hS0 => ?_)
  refine takeD 32 (i := 0) (v := .agg (arr 19 (dcell d))) rfl rfl (by kernel_rfl) (by kernel_rfl) (by kernel_rfl) (fun _ _ _ h => h) (yieldsA (by rfl) 69 (.tmp 2) rfl (b) (by first | rfl | simp [Act.eval, Act.put]) (arr 19 (dcell d)) (fun w' h => rowIs_range0 h.1.dat) Try.underlying69 rfl (by rw [size69, arr_size])) hS0 ?_
  try simp only [Act.put, List.setIfInBounds_toArray, List.set_cons_zero, List.set_cons_succ]
  refine takeD 34 (i := 2) (v := .int .i64 0) rfl rfl (by kernel_rfl) (by kernel_rfl) (by kernel_rfl) (fun _ _ _ h => h) (Or.inl ⟨by rfl, by (intro w' _; go_simp)⟩) hS0 ?_
  try simp only [Act.put, List.setIfInBounds_toArray, List.set_cons_zero, List.set_cons_succ]
  refine takeD 35 (i := 3) (v := .bool true) rfl rfl (by kernel_rfl) (by kernel_rfl) (by kernel_rfl) (fun _ _ _ h => h) (Or.inl ⟨by rfl, by (intro w' _; go_simp)⟩) hS0 ?_
  try simp only [Act.put, List.setIfInBounds_toArray, List.set_cons_zero, List.set_cons_succ]
  refine wpAnyH_ready (rs := [1]) (by kernel_rfl) (by simp) (AllReadyH.cons rfl (fun K hK => ?_) AllReadyH.nil)
  rw [if_pos (by rfl)]
  go_simp
  refine (HCD.out _).mono ?_
  rintro e w3 ⟨rfl, hb⟩
  have hSN := And.intro (hS0.1.after hb) (hS0.2.below hb)
  refine hK.out _ _ hSN (fun hS0 => ?_)
  clear hK K hSN
  try simp only [Act.put, List.setIfInBounds_toArray, List.set_cons_zero, List.set_cons_succ]
  clear hb
  refine takeD 36 (i := 4) (v := .bool false) rfl rfl (by kernel_rfl) (by kernel_rfl) (by kernel_rfl) (fun _ _ _ h => h) (Or.inl ⟨by rfl, by (intro w' _; go_simp)⟩) hS0 ?_
  try simp only [Act.put, List.setIfInBounds_toArray, List.set_cons_zero, List.set_cons_succ]
  refine takeD 37 (i := 5) (v := .bool false) rfl rfl (by kernel_rfl) (by kernel_rfl) (by kernel_rfl) (fun _ _ _ h => h) (Or.inl ⟨by rfl, by (intro w' _; go_simp)⟩) hS0 ?_
  try simp only [Act.put, List.setIfInBounds_toArray, List.set_cons_zero, List.set_cons_succ]
  refine takeD 38 (i := 6) (v := .int .i64 0) rfl rfl (by kernel_rfl) (by kernel_rfl) (by kernel_rfl) (fun _ _ _ h => h) (Or.inl ⟨by rfl, by (intro w' _; go_simp)⟩) hS0 ?_
  try simp only [Act.put, List.setIfInBounds_toArray, List.set_cons_zero, List.set_cons_succ]
  refine takeD 39 (i := 7) (v := .bool false) rfl rfl (by kernel_rfl) (by kernel_rfl) (by kernel_rfl) (fun _ _ _ h => h) (Or.inl ⟨by rfl, by (intro w' _; go_simp)⟩) hS0 ?_
  try simp only [Act.put, List.setIfInBounds_toArray, List.set_cons_zero, List.set_cons_succ]
  refine takeD 40 (i := 8) (v := .bool false) rfl rfl (by kernel_rfl) (by kernel_rfl) (by kernel_rfl) (fun _ _ _ h => h) (Or.inl ⟨by rfl, by (intro w' _; go_simp)⟩) hS0 ?_
  try simp only [Act.put, List.setIfInBounds_toArray, List.set_cons_zero, List.set_cons_succ]
  refine takeD 41 (i := 9) (v := undef) rfl rfl (by kernel_rfl) (by kernel_rfl) (by kernel_rfl) (fun _ _ _ h => h) (Or.inr ⟨by rfl, rfl⟩) hS0 ?_
  try simp only [Act.put, List.setIfInBounds_toArray, List.set_cons_zero, List.set_cons_succ]
  refine takeD 42 (i := 10) (v := undef) rfl rfl (by kernel_rfl) (by kernel_rfl) (by kernel_rfl) (fun _ _ _ h => h) (Or.inr ⟨by rfl, rfl⟩) hS0 ?_
  try simp only [Act.put, List.setIfInBounds_toArray, List.set_cons_zero, List.set_cons_succ]
  refine takeD 43 (i := 11) (v := undef) rfl rfl (by kernel_rfl) (by kernel_rfl) (by kernel_rfl) (fun _ _ _ h => h) (Or.inr ⟨by rfl, rfl⟩) hS0 ?_
  try simp only [Act.put, List.setIfInBounds_toArray, List.set_cons_zero, List.set_cons_succ]
  refine takeD 44 (i := 12) (v := undef) rfl rfl (by kernel_rfl) (by kernel_rfl) (by kernel_rfl) (fun _ _ _ h => h) (Or.inr ⟨by rfl, rfl⟩) hS0 ?_
  try simp only [Act.put, List.setIfInBounds_toArray, List.set_cons_zero, List.set_cons_succ]
  refine takeD 45 (i := 13) (v := undef) rfl rfl (by kernel_rfl) (by kernel_rfl) (by kernel_rfl) (fun _ _ _ h => h) (Or.inr ⟨by rfl, rfl⟩) hS0 ?_
  try simp only [Act.put, List.setIfInBounds_toArray, List.set_cons_zero, List.set_cons_succ]
  refine takeD 46 (i := 14) (v := undef) rfl rfl (by kernel_rfl) (by kernel_rfl) (by kernel_rfl) (fun _ _ _ h => h) (Or.inr ⟨by rfl, rfl⟩) hS0 ?_
  try simp only [Act.put, List.setIfInBounds_toArray, List.set_cons_zero, List.set_cons_succ]
  refine takeD 47 (i := 15) (v := undef) rfl rfl (by kernel_rfl) (by kernel_rfl) (by kernel_rfl) (fun _ _ _ h => h) (Or.inr ⟨by rfl, rfl⟩) hS0 ?_
  try simp only [Act.put, List.setIfInBounds_toArray, List.set_cons_zero, List.set_cons_succ]
  refine takeD 48 (i := 16) (v := .bool false) rfl rfl (by kernel_rfl) (by kernel_rfl) (by kernel_rfl) (fun _ _ _ h => h) (Or.inl ⟨by rfl, by (intro w' _; go_simp)⟩) hS0 ?_
  try simp only [Act.put, List.setIfInBounds_toArray, List.set_cons_zero, List.set_cons_succ]
  refine takeD 49 (i := 17) (v := .bool false) rfl rfl (by kernel_rfl) (by kernel_rfl) (by kernel_rfl) (fun _ _ _ h => h) (Or.inl ⟨by rfl, by (intro w' _; go_simp)⟩) hS0 ?_
  try simp only [Act.put, List.setIfInBounds_toArray, List.set_cons_zero, List.set_cons_succ]
  refine takeD 50 (i := 18) (v := .bool false) rfl rfl (by kernel_rfl) (by kernel_rfl) (by kernel_rfl) (fun _ _ _ h => h) (Or.inl ⟨by rfl, by (intro w' _; go_simp)⟩) hS0 ?_
  try simp only [Act.put, List.setIfInBounds_toArray, List.set_cons_zero, List.set_cons_succ]
  refine takeD 51 (i := 19) (v := .int .i64 0) rfl rfl (by kernel_rfl) (by kernel_rfl) (by kernel_rfl) (fun _ _ _ h => h) (Or.inl ⟨by rfl, by (intro w' _; go_simp)⟩) hS0 ?_
  try simp only [Act.put, List.setIfInBounds_toArray, List.set_cons_zero, List.set_cons_succ]
  refine takeD 52 (i := 20) (v := .bool true) rfl rfl (by kernel_rfl) (by kernel_rfl) (by kernel_rfl) (fun _ _ _ h => h) (Or.inl ⟨by rfl, by (intro w' _; go_simp)⟩) hS0 ?_
  try simp only [Act.put, List.setIfInBounds_toArray, List.set_cons_zero, List.set_cons_succ]
  refine takeD 53 (i := 21) (v := .bool true) rfl rfl (by kernel_rfl) (by kernel_rfl) (by kernel_rfl) (fun _ _ _ h => h) (Or.inl ⟨by rfl, by (intro w' _; go_simp)⟩) hS0 ?_
  try simp only [Act.put, List.setIfInBounds_toArray, List.set_cons_zero, List.set_cons_succ]
  refine takeD 54 (i := 22) (v := .slice (some ⟨g, 0, none⟩) 1024 1024) rfl rfl (by kernel_rfl) (by kernel_rfl) (by kernel_rfl) (fun _ _ _ h => h) (Or.inl ⟨by rfl, by (intro w' _; go_simp)⟩) hS0 ?_
  try simp only [Act.put, List.setIfInBounds_toArray, List.set_cons_zero, List.set_cons_succ]
  refine takeD 55 (i := 23) (v := .string X) rfl rfl (by kernel_rfl) (by kernel_rfl) (by kernel_rfl) (fun _ _ _ h => h) (Or.inl ⟨by rfl, by (intro w' h; have h2 := (show (convert 70 9 (.slice (some ⟨g, 0, none⟩) 1024 1024)).run Try.prog w' = .ok (.string X) w' by rw [HX.out]; exact h.2.conv 1024); clear h; go_simp)⟩) hS0 ?_
  try simp only [Act.put, List.setIfInBounds_toArray, List.set_cons_zero, List.set_cons_succ]
  refine takeD 56 (i := 24) (v := .agg (arr 19 (dcell d))) rfl rfl (by kernel_rfl) (by kernel_rfl) (by kernel_rfl) (fun _ _ _ h => h) (yieldsA (by rfl) 69 (.tmp 2) rfl (b) (by first | rfl | simp [Act.eval, Act.put]) (arr 19 (dcell d)) (fun w' h => rowIs_range0 h.1.dat) Try.underlying69 rfl (by rw [size69, arr_size])) hS0 ?_
  try simp only [Act.put, List.setIfInBounds_toArray, List.set_cons_zero, List.set_cons_succ]
  refine wpAnyH_ready (rs := [25]) (by kernel_rfl) (by simp) (AllReadyH.cons rfl (fun K hK => ?_) AllReadyH.nil)
  rw [if_pos (by rfl)]
  go_simp
  refine (HCE.out _).mono ?_
  rintro e w4 ⟨g4, rfl, hg, hb, hrow⟩
  have hcv : (convert 70 9 (.slice (some ⟨g4, 0, none⟩) 1024 1024)).run Try.prog w4 = .ok (.string X) w4 := by rw [HX.out]; exact (show BytesAt w4 g4 0 1024 (dB d) from fun j hj => by rw [Nat.zero_add]; exact hrow.cell hj).conv 1024
  have hSN := And.intro (hS0.1.after hb) (hS0.2.below hb)
  refine hK.out _ _ hSN (fun hS0 => ?_)
  clear hK K hSN
  try simp only [Act.put, List.setIfInBounds_toArray, List.set_cons_zero, List.set_cons_succ]
  clear hb hrow hg
  refine wpAnyH_ready (rs := [26]) (by kernel_rfl) (by simp) (AllReadyH.cons rfl (fun K hK => ?_) AllReadyH.nil)
  rw [if_pos (by rfl)]
  go_simp
  have hSN := hS0
  refine hK.out _ _ hSN (fun hS0 => ?_)
  clear hK K hSN
  try simp only [Act.put, List.setIfInBounds_toArray, List.set_cons_zero, List.set_cons_succ]
  clear hcv
  refine takeD 59 (i := 27) (v := .bool false) rfl rfl (by kernel_rfl) (by kernel_rfl) (by kernel_rfl) (fun _ _ _ h => h) (Or.inl ⟨by rfl, by (intro w' _; go_simp)⟩) hS0 ?_
  try simp only [Act.put, List.setIfInBounds_toArray, List.set_cons_zero, List.set_cons_succ]
  refine takeD 60 (i := 28) (v := .bool false) rfl rfl (by kernel_rfl) (by kernel_rfl) (by kernel_rfl) (fun _ _ _ h => h) (Or.inl ⟨by rfl, by (intro w' _; go_simp)⟩) hS0 ?_
  try simp only [Act.put, List.setIfInBounds_toArray, List.set_cons_zero, List.set_cons_succ]
  refine takeD 61 (i := 29) (v := .bool false) rfl rfl (by kernel_rfl) (by kernel_rfl) (by kernel_rfl) (fun _ _ _ h => h) (Or.inl ⟨by rfl, by (intro w' _; go_simp)⟩) hS0 ?_
  try simp only [Act.put, List.setIfInBounds_toArray, List.set_cons_zero, List.set_cons_succ]
  refine wpAnyH_done (by kernel_rfl) ?_ _
  have E4 := Lib.hid hS0.1
  clear hS0 hq HG
  go_upto_region 6 with fail
  go_wp2_with fail
  refine (HD1.out _ E4.out.src).mono ?_
  rintro e w5 ⟨rfl, hb5⟩
  have E5 := Lib.hid (E4.out.after hb5)
  clear hb5
  obtain ⟨b7, hb7⟩ : ∃ x, x = w5.heap.size := ⟨_, rfl⟩
  obtain ⟨W5, hW5⟩ : ∃ x, x = w5.alloc (.cells (arr 19 (dcell D0)) 69) := ⟨_, rfl⟩
  have hbel5 : Below w5.heap.size w5 W5 := by rw [hW5]; exact (Below.refl _ _).alloc (Nat.le_refl _) _
  have R7 := Lib.hid (show DatAt W5 b7 D0 by rw [hW5, hb7]; exact DatAt.fresh w5 D0)
  have T7 := Lib.hid (rowIs_there R7.out 0 19 (by omega))
  have HONE := Lib.hid (arr_one (n := 19) (fun j _ => dcell_one d2 j))
  have k6 : Keeps (One b7) W5 (W5.setCells b7 0 (arr 19 (dcell d2)).toList) := Keeps.setCells _ (Keeps.refl _ _) 0
  have HW5 := Lib.hid hW5
  have HB7 := Lib.hid hb7
  obtain ⟨W6, hW6⟩ : ∃ x, x = W5.setCells b7 0 (arr 19 (dcell d2)).toList := ⟨_, rfl⟩
  have R6 := Lib.hid (show DatAt W6 b7 d2 by rw [hW6]; exact rowIs_store R7.out)
  have E6 := Lib.hid (show LD w W6 b d ao n B from E5.out.after (by rw [hW6]; exact hbel5.trans (k6.below (B := w5.heap.size) hbel5.size (fun j hj e => by have e : j = b7 := e; rw [hb7] at e; omega))))
  have HW6 := Lib.hid hW6
  clear hW5 hbel5 k6 hb7 hW6
  go_upto_region 7 with (first
    | ((with_reducible show wpList _ _ _ (⟨some 7, .alloc _, _, _, _, _⟩ :: _) _ _); refine wpList_alloc rfl 69 rfl zero69 ?_; rw [show D0.v.cells = arr 19 (dcell D0) from rfl, ← HW5.out, ← HB7.out])
    | ((with_reducible show wpList _ _ _ (⟨none, .store _ (.tmp 7) (.tmp 65), _, _, _, _⟩ :: _) _ _); refine wpList_store_mid rfl 69 (.tmp 7) (.tmp 65) rfl b7 0 (arr 19 (dcell d2)) (by simp [Act.eval, Act.put]) (by simp [Act.eval, Act.put]) (by rw [arr_size]; exact T7.out) (by rw [size69, arr_size]) HONE.out ?_))
  rw [← HW6.out]
  clear HW5 HB7 HW6 T7 R7
  go_wp2_with fail
  refine (HD2.out _ E6.out.src).mono ?_
  rintro e w7 ⟨rfl, hb7⟩
  have R67 := Lib.hid (World.rowIs.of_block R6.out (hb7.block _ (World.rowIs.lt R6.out)))
  have hlt7 : b7 < w7.heap.size := Nat.lt_of_lt_of_le (World.rowIs.lt R6.out) hb7.size
  have E7 := Lib.hid (E6.out.after hb7)
  clear hb7 R6 E6
  obtain ⟨b9, hb9⟩ : ∃ x, x = w7.heap.size := ⟨_, rfl⟩
  obtain ⟨W8, hW8⟩ : ∃ x, x = w7.alloc (.cells (arr 19 (dcell D0)) 69) := ⟨_, rfl⟩
  have hbel8 : Below w7.heap.size w7 W8 := by rw [hW8]; exact (Below.refl _ _).alloc (Nat.le_refl _) _
  have R9 := Lib.hid (show DatAt W8 b9 D0 by rw [hW8, hb9]; exact DatAt.fresh w7 D0)
  have T9 := Lib.hid (rowIs_there R9.out 0 19 (by omega))
  have k8 : Keeps (One b9) W8 (W8.setCells b9 0 (arr 19 (dcell d2)).toList) := Keeps.setCells _ (Keeps.refl _ _) 0
  have HW8 := Lib.hid hW8
  have HB9 := Lib.hid hb9
  obtain ⟨W9, hW9⟩ : ∃ x, x = W8.setCells b9 0 (arr 19 (dcell d2)).toList := ⟨_, rfl⟩
  have hbel9 : Below w7.heap.size w7 W9 := by rw [hW9]; exact hbel8.trans (k8.below (B := w7.heap.size) hbel8.size (fun j hj e => by have e : j = b9 := e; rw [hb9] at e; omega))
  have R99 := Lib.hid (rowIs_range0 (show DatAt W9 b9 d2 by rw [hW9]; exact rowIs_store R9.out))
  have R79 := Lib.hid (rowIs_range0 (show DatAt W9 b7 d2 from World.rowIs.of_block R67.out (hbel9.block _ hlt7)))
  have E9 := Lib.hid (E7.out.after hbel9)
  have HW9 := Lib.hid hW9
  clear hW8 hbel8 k8 hb9 hW9 hbel9 hlt7 R67 E7
  go_upto_region 8 with (first
    | ((with_reducible show wpList _ _ _ (⟨some 9, .alloc _, _, _, _, _⟩ :: _) _ _); refine wpList_alloc rfl 69 rfl zero69 ?_; rw [show D0.v.cells = arr 19 (dcell D0) from rfl, ← HW8.out, ← HB9.out])
    | ((with_reducible show wpList _ _ _ (⟨none, .store _ (.tmp 9) (.tmp 70), _, _, _, _⟩ :: _) _ _); refine wpList_store_mid rfl 69 (.tmp 9) (.tmp 70) rfl b9 0 (arr 19 (dcell d2)) (by simp [Act.eval, Act.put]) (by simp [Act.eval, Act.put]) (by rw [arr_size]; exact T9.out) (by rw [size69, arr_size]) HONE.out ?_))
  rw [← HW9.out]
  clear HW8 HB9 HW9 T9 R9
  have hEQ := HEQ.out
  go_wp2_with (first
    | ((with_reducible show wpList _ _ _ (⟨some 72, .load _ _, _, _, _, _⟩ :: _) _ _); refine wpList_load_mid rfl 69 (.tmp 7) rfl b7 0 rfl (arr 19 (dcell d2)).toList _ R79.out Try.underlying69 rfl (by rw [size69]; simp [arr]) ?_)
    | ((with_reducible show wpList _ _ _ (⟨some 73, .load _ _, _, _, _, _⟩ :: _) _ _); refine wpList_load_mid rfl 69 (.tmp 9) rfl b9 0 rfl (arr 19 (dcell d2)).toList _ R99.out Try.underlying69 rfl (by rw [size69]; simp [arr]) ?_))
  refine (known_any _).mono ?_
  rintro e w10 ⟨rfl, hb10⟩
  go_wp2_with fail
  go_ret
  exact ⟨rfl, E9.out.below.trans (hb10.mono E9.out.below.size)⟩

set_option maxRecDepth 100000 in
set_option maxHeartbeats 4000000 in
theorem data_bad (d : Dat) (ao : Option Addr) (n c : Nat) (B : Nat → Int) (w : World) (hok : d.Ok) (hB : ∀ j, 0 ≤ B j ∧ B j ≤ 255) (hn : n ≤ c) (hc : c ≤ 9223372036854775807) (hsrc : SrcB w ao n B)
    (hs : d.sub.size ≤ 300) (ht : d.hst.size ≤ 300) (hn2 : n ≤ 1100) (hv : vDat d = false) :
    Calls Try.prog 10 #[d.v, .slice ao n c] w fun e w' => e = .returned (.bool true) ∧ Below w.heap.size w w' := by
  obtain ⟨d2, k, hok2, -, hD1, hD2⟩ := decode_both ao n c B hB hn hc
  have HD1 := Lib.hid hD1
  have HD2 := Lib.hid hD2
  have HEQ := Lib.hid fun W => eq69 d2 W
  obtain ⟨W0, hW⟩ : ∃ W0, W0 = w.alloc (.cells (arr 19 (dcell d)) 69) := ⟨_, rfl⟩
  obtain ⟨h1, h2, h3⟩ := dstart d w W0 hW
  have HW := Lib.hid hW
  obtain ⟨b, hb⟩ : ∃ b, b = w.heap.size := ⟨_, rfl⟩
  rw [← hb] at h1
  have E := Lib.hid (show LD w W0 b d ao n B from ⟨h1, hsrc.below (by rw [hW]; exact (Below.refl _ w).alloc (Nat.le_refl _) _), h2⟩)
  have c17 : W0.cell? ⟨b, 17, none⟩ = some (.string d.sub) := World.rowIs.cell h1 (by omega)
  have c18 : W0.cell? ⟨b, 18, none⟩ = some (.string d.hst) := World.rowIs.cell h1 (by omega)
  have HR := Lib.hid (rowIs_range0 h1)
  have HBE := Lib.hid hb
  have d1 : decide ((300 : Int) < (d.sub.size : Int)) = false := by simp; omega
  have d2' : decide ((300 : Int) < (d.hst.size : Int)) = false := by simp; omega
  have d3 : decide ((1100 : Int) < (n : Int)) = false := by simp; omega
  have HCD := Lib.hid (show ∀ W, Calls Try.prog 33 #[.agg (arr 19 (dcell d))] W fun e w' => e = .returned (.bool false) ∧ Below W.heap.size W w' from fun W => by have := refData_any d W hok; rwa [hv] at this)
  have HE := Lib.hid fun W => encodeData_bad d W hok hv
  clear hD1 hD2 hW h1 h2 h3 hok hB hsrc hv hb hok2
  unfold Dat.v at HE HD1 HD2 HEQ
  unfold Dat.v
  go_enter Try.func10, Try.ntmps10
  go_upto_region 1 with fail
  rw [← HW.out, ← HBE.out]
  go_wp2_with ((with_reducible show wpList _ _ _ (⟨some 28, .load _ _, _, _, _, _⟩ :: _) _ _); refine wpList_load_mid rfl 69 (.tmp 2) rfl b 0 rfl (arr 19 (dcell d)).toList _ HR.out Try.underlying69 rfl (by rw [size69]; simp [arr]) ?_)
  refine (HE.out _).mono ?_
  rintro e w1 ⟨rfl, hb1⟩
  have E1 := Lib.hid (E.out.after hb1)
  clear hb1 c17 c18
  go_upto_region 4 with fail
  refine wp_region_held_drew (S := (fun w' => LD w w' b d ao n B)) (by kernel_rfl) E1.out.drew (fun hS0 => ?_)
  refine takeD 32 (i := 0) (v := .agg (arr 19 (dcell d))) rfl rfl (by kernel_rfl) (by kernel_rfl) (by kernel_rfl) (fun _ _ _ h => h) (yieldsA (by rfl) 69 (.tmp 2) rfl (b) (by first | rfl | simp [Act.eval, Act.put]) (arr 19 (dcell d)) (fun w' h => rowIs_range0 h.dat) Try.underlying69 rfl (by rw [size69, arr_size])) hS0 ?_
  try simp only [Act.put, List.setIfInBounds_toArray, List.set_cons_zero, List.set_cons_succ]
  refine takeD 34 (i := 2) (v := .int .i64 2) rfl rfl (by kernel_rfl) (by kernel_rfl) (by kernel_rfl) (fun _ _ _ h => h) (Or.inl ⟨by rfl, by (intro w' _; go_simp)⟩) hS0 ?_
  try simp only [Act.put, List.setIfInBounds_toArray, List.set_cons_zero, List.set_cons_succ]
  refine takeD 35 (i := 3) (v := .bool false) rfl rfl (by kernel_rfl) (by kernel_rfl) (by kernel_rfl) (fun _ _ _ h => h) (Or.inl ⟨by rfl, by (intro w' _; go_simp)⟩) hS0 ?_
  try simp only [Act.put, List.setIfInBounds_toArray, List.set_cons_zero, List.set_cons_succ]
  refine wpAnyH_ready (rs := [1]) (by kernel_rfl) (by simp) (AllReadyH.cons rfl (fun K hK => ?_) AllReadyH.nil)
  rw [if_pos (by rfl)]
  go_simp
  refine (HCD.out _).mono ?_
  rintro e w3 ⟨rfl, hb⟩
  have hSN := hS0.after hb
  refine hK.out _ _ hSN (fun hS0 => ?_)
  clear hK K hSN
  try simp only [Act.put, List.setIfInBounds_toArray, List.set_cons_zero, List.set_cons_succ]
  clear hb
  refine takeD 36 (i := 4) (v := .bool false) rfl rfl (by kernel_rfl) (by kernel_rfl) (by kernel_rfl) (fun _ _ _ h => h) (Or.inl ⟨by rfl, by (intro w' _; go_simp)⟩) hS0 ?_
  try simp only [Act.put, List.setIfInBounds_toArray, List.set_cons_zero, List.set_cons_succ]
  refine takeD 37 (i := 5) (v := .bool false) rfl rfl (by kernel_rfl) (by kernel_rfl) (by kernel_rfl) (fun _ _ _ h => h) (Or.inl ⟨by rfl, by (intro w' _; go_simp)⟩) hS0 ?_
  try simp only [Act.put, List.setIfInBounds_toArray, List.set_cons_zero, List.set_cons_succ]
  refine takeD 38 (i := 6) (v := .int .i64 2) rfl rfl (by kernel_rfl) (by kernel_rfl) (by kernel_rfl) (fun _ _ _ h => h) (Or.inl ⟨by rfl, by (intro w' _; go_simp)⟩) hS0 ?_
  try simp only [Act.put, List.setIfInBounds_toArray, List.set_cons_zero, List.set_cons_succ]
  refine takeD 39 (i := 7) (v := .bool true) rfl rfl (by kernel_rfl) (by kernel_rfl) (by kernel_rfl) (fun _ _ _ h => h) (Or.inl ⟨by rfl, by (intro w' _; go_simp)⟩) hS0 ?_
  try simp only [Act.put, List.setIfInBounds_toArray, List.set_cons_zero, List.set_cons_succ]
  refine takeD 40 (i := 8) (v := .bool true) rfl rfl (by kernel_rfl) (by kernel_rfl) (by kernel_rfl) (fun _ _ _ h => h) (Or.inl ⟨by rfl, by (intro w' _; go_simp)⟩) hS0 ?_
  try simp only [Act.put, List.setIfInBounds_toArray, List.set_cons_zero, List.set_cons_succ]
  refine takeD 41 (i := 9) (v := .int .i64 2) rfl rfl (by kernel_rfl) (by kernel_rfl) (by kernel_rfl) (fun _ _ _ h => h) (Or.inl ⟨by rfl, by (intro w' _; go_simp)⟩) hS0 ?_
  try simp only [Act.put, List.setIfInBounds_toArray, List.set_cons_zero, List.set_cons_succ]
  refine takeD 42 (i := 10) (v := .bool false) rfl rfl (by kernel_rfl) (by kernel_rfl) (by kernel_rfl) (fun _ _ _ h => h) (Or.inl ⟨by rfl, by (intro w' _; go_simp)⟩) hS0 ?_
  try simp only [Act.put, List.setIfInBounds_toArray, List.set_cons_zero, List.set_cons_succ]
  refine takeD 43 (i := 11) (v := .bool false) rfl rfl (by kernel_rfl) (by kernel_rfl) (by kernel_rfl) (fun _ _ _ h => h) (Or.inl ⟨by rfl, by (intro w' _; go_simp)⟩) hS0 ?_
  try simp only [Act.put, List.setIfInBounds_toArray, List.set_cons_zero, List.set_cons_succ]
  refine takeD 44 (i := 12) (v := .slice none 0 0) rfl rfl (by kernel_rfl) (by kernel_rfl) (by kernel_rfl) (fun _ _ _ h => h) (Or.inl ⟨by rfl, by (intro w' _; go_simp)⟩) hS0 ?_
  try simp only [Act.put, List.setIfInBounds_toArray, List.set_cons_zero, List.set_cons_succ]
  refine takeD 45 (i := 13) (v := .int .i64 0) rfl rfl (by kernel_rfl) (by kernel_rfl) (by kernel_rfl) (fun _ _ _ h => h) (Or.inl ⟨by rfl, by (intro w' _; go_simp)⟩) hS0 ?_
  try simp only [Act.put, List.setIfInBounds_toArray, List.set_cons_zero, List.set_cons_succ]
  refine takeD 46 (i := 14) (v := .bool false) rfl rfl (by kernel_rfl) (by kernel_rfl) (by kernel_rfl) (fun _ _ _ h => h) (Or.inl ⟨by rfl, by (intro w' _; go_simp)⟩) hS0 ?_
  try simp only [Act.put, List.setIfInBounds_toArray, List.set_cons_zero, List.set_cons_succ]
  refine takeD 47 (i := 15) (v := .bool false) rfl rfl (by kernel_rfl) (by kernel_rfl) (by kernel_rfl) (fun _ _ _ h => h) (Or.inl ⟨by rfl, by (intro w' _; go_simp)⟩) hS0 ?_
  try simp only [Act.put, List.setIfInBounds_toArray, List.set_cons_zero, List.set_cons_succ]
  refine takeD 48 (i := 16) (v := .bool false) rfl rfl (by kernel_rfl) (by kernel_rfl) (by kernel_rfl) (fun _ _ _ h => h) (Or.inl ⟨by rfl, by (intro w' _; go_simp)⟩) hS0 ?_
  try simp only [Act.put, List.setIfInBounds_toArray, List.set_cons_zero, List.set_cons_succ]
  refine takeD 49 (i := 17) (v := .bool false) rfl rfl (by kernel_rfl) (by kernel_rfl) (by kernel_rfl) (fun _ _ _ h => h) (Or.inl ⟨by rfl, by (intro w' _; go_simp)⟩) hS0 ?_
  try simp only [Act.put, List.setIfInBounds_toArray, List.set_cons_zero, List.set_cons_succ]
  refine takeD 50 (i := 18) (v := .bool false) rfl rfl (by kernel_rfl) (by kernel_rfl) (by kernel_rfl) (fun _ _ _ h => h) (Or.inl ⟨by rfl, by (intro w' _; go_simp)⟩) hS0 ?_
  try simp only [Act.put, List.setIfInBounds_toArray, List.set_cons_zero, List.set_cons_succ]
  refine takeD 51 (i := 19) (v := .int .i64 2) rfl rfl (by kernel_rfl) (by kernel_rfl) (by kernel_rfl) (fun _ _ _ h => h) (Or.inl ⟨by rfl, by (intro w' _; go_simp)⟩) hS0 ?_
  try simp only [Act.put, List.setIfInBounds_toArray, List.set_cons_zero, List.set_cons_succ]
  refine takeD 52 (i := 20) (v := .bool false) rfl rfl (by kernel_rfl) (by kernel_rfl) (by kernel_rfl) (fun _ _ _ h => h) (Or.inl ⟨by rfl, by (intro w' _; go_simp)⟩) hS0 ?_
  try simp only [Act.put, List.setIfInBounds_toArray, List.set_cons_zero, List.set_cons_succ]
  refine takeD 53 (i := 21) (v := .bool false) rfl rfl (by kernel_rfl) (by kernel_rfl) (by kernel_rfl) (fun _ _ _ h => h) (Or.inl ⟨by rfl, by (intro w' _; go_simp)⟩) hS0 ?_
  try simp only [Act.put, List.setIfInBounds_toArray, List.set_cons_zero, List.set_cons_succ]
  refine takeD 54 (i := 22) (v := undef) rfl rfl (by kernel_rfl) (by kernel_rfl) (by kernel_rfl) (fun _ _ _ h => h) (Or.inr ⟨by rfl, rfl⟩) hS0 ?_
  try simp only [Act.put, List.setIfInBounds_toArray, List.set_cons_zero, List.set_cons_succ]
  refine takeD 55 (i := 23) (v := undef) rfl rfl (by kernel_rfl) (by kernel_rfl) (by kernel_rfl) (fun _ _ _ h => h) (Or.inr ⟨by rfl, rfl⟩) hS0 ?_
  try simp only [Act.put, List.setIfInBounds_toArray, List.set_cons_zero, List.set_cons_succ]
  refine takeD 56 (i := 24) (v := undef) rfl rfl (by kernel_rfl) (by kernel_rfl) (by kernel_rfl) (fun _ _ _ h => h) (Or.inr ⟨by rfl, rfl⟩) hS0 ?_
  try simp only [Act.put, List.setIfInBounds_toArray, List.set_cons_zero, List.set_cons_succ]
  refine takeD 57 (i := 25) (v := undef) rfl rfl (by kernel_rfl) (by kernel_rfl) (by kernel_rfl) (fun _ _ _ h => h) (Or.inr ⟨by rfl, rfl⟩) hS0 ?_
  try simp only [Act.put, List.setIfInBounds_toArray, List.set_cons_zero, List.set_cons_succ]
  refine takeD 58 (i := 26) (v := undef) rfl rfl (by kernel_rfl) (by kernel_rfl) (by kernel_rfl) (fun _ _ _ h => h) (Or.inr ⟨by rfl, rfl⟩) hS0 ?_
  try simp only [Act.put, List.setIfInBounds_toArray, List.set_cons_zero, List.set_cons_succ]
  refine takeD 59 (i := 27) (v := undef) rfl rfl (by kernel_rfl) (by kernel_rfl) (by kernel_rfl) (fun _ _ _ h => h) (Or.inr ⟨by rfl, rfl⟩) hS0 ?_
  try simp only [Act.put, List.setIfInBounds_toArray, List.set_cons_zero, List.set_cons_succ]
  refine takeD 60 (i := 28) (v := .bool false) rfl rfl (by kernel_rfl) (by kernel_rfl) (by kernel_rfl) (fun _ _ _ h => h) (Or.inl ⟨by rfl, by (intro w' _; go_simp)⟩) hS0 ?_
  try simp only [Act.put, List.setIfInBounds_toArray, List.set_cons_zero, List.set_cons_succ]
  refine takeD 61 (i := 29) (v := .bool false) rfl rfl (by kernel_rfl) (by kernel_rfl) (by kernel_rfl) (fun _ _ _ h => h) (Or.inl ⟨by rfl, by (intro w' _; go_simp)⟩) hS0 ?_
  try simp only [Act.put, List.setIfInBounds_toArray, List.set_cons_zero, List.set_cons_succ]
  refine wpAnyH_done (by kernel_rfl) ?_ _
  have E4 := Lib.hid hS0
  clear hS0
  go_upto_region 6 with fail
  go_wp2_with fail
  refine (HD1.out _ E4.out.src).mono ?_
  rintro e w5 ⟨rfl, hb5⟩
  have E5 := Lib.hid (E4.out.after hb5)
  clear hb5
  obtain ⟨b7, hb7⟩ : ∃ x, x = w5.heap.size := ⟨_, rfl⟩
  obtain ⟨W5, hW5⟩ : ∃ x, x = w5.alloc (.cells (arr 19 (dcell D0)) 69) := ⟨_, rfl⟩
  have hbel5 : Below w5.heap.size w5 W5 := by rw [hW5]; exact (Below.refl _ _).alloc (Nat.le_refl _) _
  have R7 := Lib.hid (show DatAt W5 b7 D0 by rw [hW5, hb7]; exact DatAt.fresh w5 D0)
  have T7 := Lib.hid (rowIs_there R7.out 0 19 (by omega))
  have HONE := Lib.hid (arr_one (n := 19) (fun j _ => dcell_one d2 j))
  have k6 : Keeps (One b7) W5 (W5.setCells b7 0 (arr 19 (dcell d2)).toList) := Keeps.setCells _ (Keeps.refl _ _) 0
  have HW5 := Lib.hid hW5
  have HB7 := Lib.hid hb7
  obtain ⟨W6, hW6⟩ : ∃ x, x = W5.setCells b7 0 (arr 19 (dcell d2)).toList := ⟨_, rfl⟩
  have R6 := Lib.hid (show DatAt W6 b7 d2 by rw [hW6]; exact rowIs_store R7.out)
  have E6 := Lib.hid (show LD w W6 b d ao n B from E5.out.after (by rw [hW6]; exact hbel5.trans (k6.below (B := w5.heap.size) hbel5.size (fun j hj e => by have e : j = b7 := e; rw [hb7] at e; omega))))
  have HW6 := Lib.hid hW6
  clear hW5 hbel5 k6 hb7 hW6
  go_upto_region 7 with (first
    | ((with_reducible show wpList _ _ _ (⟨some 7, .alloc _, _, _, _, _⟩ :: _) _ _); refine wpList_alloc rfl 69 rfl zero69 ?_; rw [show D0.v.cells = arr 19 (dcell D0) from rfl, ← HW5.out, ← HB7.out])
    | ((with_reducible show wpList _ _ _ (⟨none, .store _ (.tmp 7) (.tmp 65), _, _, _, _⟩ :: _) _ _); refine wpList_store_mid rfl 69 (.tmp 7) (.tmp 65) rfl b7 0 (arr 19 (dcell d2)) (by simp [Act.eval, Act.put]) (by simp [Act.eval, Act.put]) (by rw [arr_size]; exact T7.out) (by rw [size69, arr_size]) HONE.out ?_))
  rw [← HW6.out]
  clear HW5 HB7 HW6 T7 R7
  go_wp2_with fail
  refine (HD2.out _ E6.out.src).mono ?_
  rintro e w7 ⟨rfl, hb7⟩
  have R67 := Lib.hid (World.rowIs.of_block R6.out (hb7.block _ (World.rowIs.lt R6.out)))
  have hlt7 : b7 < w7.heap.size := Nat.lt_of_lt_of_le (World.rowIs.lt R6.out) hb7.size
  have E7 := Lib.hid (E6.out.after hb7)
  clear hb7 R6 E6
  obtain ⟨b9, hb9⟩ : ∃ x, x = w7.heap.size := ⟨_, rfl⟩
  obtain ⟨W8, hW8⟩ : ∃ x, x = w7.alloc (.cells (arr 19 (dcell D0)) 69) := ⟨_, rfl⟩
  have hbel8 : Below w7.heap.size w7 W8 := by rw [hW8]; exact (Below.refl _ _).alloc (Nat.le_refl _) _
  have R9 := Lib.hid (show DatAt W8 b9 D0 by rw [hW8, hb9]; exact DatAt.fresh w7 D0)
  have T9 := Lib.hid (rowIs_there R9.out 0 19 (by omega))
  have k8 : Keeps (One b9) W8 (W8.setCells b9 0 (arr 19 (dcell d2)).toList) := Keeps.setCells _ (Keeps.refl _ _) 0
  have HW8 := Lib.hid hW8
  have HB9 := Lib.hid hb9
  obtain ⟨W9, hW9⟩ : ∃ x, x = W8.setCells b9 0 (arr 19 (dcell d2)).toList := ⟨_, rfl⟩
  have hbel9 : Below w7.heap.size w7 W9 := by rw [hW9]; exact hbel8.trans (k8.below (B := w7.heap.size) hbel8.size (fun j hj e => by have e : j = b9 := e; rw [hb9] at e; omega))
  have R99 := Lib.hid (rowIs_range0 (show DatAt W9 b9 d2 by rw [hW9]; exact rowIs_store R9.out))
  have R79 := Lib.hid (rowIs_range0 (show DatAt W9 b7 d2 from World.rowIs.of_block R67.out (hbel9.block _ hlt7)))
  have E9 := Lib.hid (E7.out.after hbel9)
  have HW9 := Lib.hid hW9
  clear hW8 hbel8 k8 hb9 hW9 hbel9 hlt7 R67 E7
  go_upto_region 8 with (first
    | ((with_reducible show wpList _ _ _ (⟨some 9, .alloc _, _, _, _, _⟩ :: _) _ _); refine wpList_alloc rfl 69 rfl zero69 ?_; rw [show D0.v.cells = arr 19 (dcell D0) from rfl, ← HW8.out, ← HB9.out])
    | ((with_reducible show wpList _ _ _ (⟨none, .store _ (.tmp 9) (.tmp 70), _, _, _, _⟩ :: _) _ _); refine wpList_store_mid rfl 69 (.tmp 9) (.tmp 70) rfl b9 0 (arr 19 (dcell d2)) (by simp [Act.eval, Act.put]) (by simp [Act.eval, Act.put]) (by rw [arr_size]; exact T9.out) (by rw [size69, arr_size]) HONE.out ?_))
  rw [← HW9.out]
  clear HW8 HB9 HW9 T9 R9
  have hEQ := HEQ.out
  go_wp2_with (first
    | ((with_reducible show wpList _ _ _ (⟨some 72, .load _ _, _, _, _, _⟩ :: _) _ _); refine wpList_load_mid rfl 69 (.tmp 7) rfl b7 0 rfl (arr 19 (dcell d2)).toList _ R79.out Try.underlying69 rfl (by rw [size69]; simp [arr]) ?_)
    | ((with_reducible show wpList _ _ _ (⟨some 73, .load _ _, _, _, _, _⟩ :: _) _ _); refine wpList_load_mid rfl 69 (.tmp 9) rfl b9 0 rfl (arr 19 (dcell d2)).toList _ R99.out Try.underlying69 rfl (by rw [size69]; simp [arr]) ?_))
  refine (known_any _).mono ?_
  rintro e w10 ⟨rfl, hb10⟩
  go_wp2_with fail
  go_ret
  exact ⟨rfl, E9.out.below.trans (hb10.mono E9.out.below.size)⟩

theorem data_law (d : Dat) (ao : Option Addr) (len cap : Nat) (zs : List Int) (w : World) (hok : d.Ok) (hr : IsRow .u8 w ao len cap zs) :
    Calls Try.prog 10 #[d.v, .slice ao len cap] w fun e w' => e = .returned (.bool true) ∧ Below w.heap.size w w' := by
  obtain ⟨hs, hB, hn, hc⟩ := srcB_of hr
  by_cases hl : 300 < d.sub.size ∨ 300 < d.hst.size ∨ 1100 < len
  · exact data_long d ao len cap w hok (by omega) hl
  · cases hv : vDat d
    · exact data_bad d ao len cap _ w hok hB hn hc hs (by omega) (by omega) (by omega) hv
    · exact data_good d ao len cap _ w hok hB hn hc hs (by omega) (by omega) (by omega) hv
end Go.Proofs.Ytchkipafjnehfaa
