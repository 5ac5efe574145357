/- connect: the reference's DecodeData. -/
import Derived.Test.YtchkipafjnehfaaTF
namespace Go.Proofs.Ytchkipafjnehfaa
set_option linter.unusedVariables false
set_option linter.unusedSimpArgs false
open Go.RowKit

theorem build69p (C : Int) (s t : ByteArray) (w : World) : (Instr.build 69 #[(1, .int .u16 C), (2, .string s), (3, .string t)]).run Try.prog w = .ok (Dat.v ⟨fun _ => 0, C, s, t⟩) w := by kernel_rfl

theorem exec_build {P : Program} {op : Oper} {a : Act} {w : World} (t : Nat) (parts : Array (Nat × Operand)) (ho : op.op = .build t parts) (pv : Array (Nat × Value)) (hp : parts.map (fun p => (p.1, a.eval p.2)) = pv)
    {v : Value} (hb : (Instr.build t pv).run P w = .ok v w) : (execOp a.eval op).run P w = .ok (.value v) w := by
  subst hp
  unfold execOp
  simp only [ho]
  simp only [Sem.run_bind, hb, Result.andThen_ok, Sem.run_pure]

/-- What lies in memory while the reference decodes: the result at b, the data so far at lb, the bytes. -/
structure DE (w W : World) (b lb : Nat) (d : Dat) (sg so : Nat) (B : Nat → Int) : Prop where
  res : DatAt W b D0
  dat : DatAt W lb d
  src : BytesAt W sg so 1024 B
  below : Below w.heap.size w W
  hb : w.heap.size ≤ b
  hlb : b < lb
  hs : sg < w.heap.size
namespace DE
variable {w W : World} {b lb sg so : Nat} {d : Dat} {B : Nat → Int}
theorem after (h : DE w W b lb d sg so B) {W' : World} (k : Below W.heap.size W W') : DE w W' b lb d sg so B :=
  ⟨World.rowIs.of_block h.res (k.block _ (World.rowIs.lt h.res)), World.rowIs.of_block h.dat (k.block _ (World.rowIs.lt h.dat)), h.src.below k, h.below.trans (k.mono h.below.size), h.hb, h.hlb, h.hs⟩
theorem drew (h : DE w W b lb d sg so B) : DE w W.drew b lb d sg so B := ⟨World.rowIs.drew h.res, World.rowIs.drew h.dat, h.src, h.below.drew, h.hb, h.hlb, h.hs⟩
theorem cells (h : DE w W b lb d sg so B) {W' : World} {d' : Dat} (k : Keeps (One lb) W W') (hd : DatAt W' lb d') : DE w W' b lb d' sg so B :=
  ⟨k.rowIs h.res (fun e => by have e : b = lb := e; have := h.hlb; omega), hd, fun j hj => k.cell (h.src j hj) (fun e => by have e : sg = lb := e; have := h.hb; have := h.hlb; have := h.hs; omega),
    h.below.trans (k.below h.below.size (fun j hj e => by have e : j = lb := e; have := h.hb; have := h.hlb; omega)), h.hb, h.hlb, h.hs⟩
theorem host (h : DE w W b lb d sg so B) (k : Nat) (hk : k < 16) (x : Int) : DE w (W.setCell ⟨lb, k, none⟩ (.int .u8 x)) b lb ⟨fun j => if j = k then x else d.host j, d.ctl, d.sub, d.hst⟩ sg so B :=
  h.cells ((Keeps.refl _ _).set1 _ _) ((World.rowIs.set h.dat k _).congr fun j hj => by
    unfold dcell
    simp only []
    by_cases e : j = k
    · subst e; rw [if_pos rfl, if_pos hk, if_pos rfl]
    · rw [if_neg e]
      by_cases h1 : j < 16
      · rw [if_pos h1, if_pos h1, if_neg e]
      · rw [if_neg h1, if_neg h1])
theorem congr (h : DE w W b lb d sg so B) {d' : Dat} (e : ∀ j, j < 16 → d.host j = d'.host j) (e1 : d.ctl = d'.ctl) (e2 : d.sub = d'.sub) (e3 : d.hst = d'.hst) : DE w W b lb d' sg so B :=
  ⟨h.res, World.rowIs.congr h.dat fun j hj => by
    unfold dcell
    by_cases h1 : j < 16
    · rw [if_pos h1, if_pos h1, e j h1]
    · rw [if_neg h1, if_neg h1, e1, e2, e3], h.src, h.below, h.hb, h.hlb, h.hs⟩
end DE

set_option maxRecDepth 100000 in
set_option maxHeartbeats 4000000 in
theorem refDecodeData_len (ao : Option Addr) (n c : Nat) (w : World) (hn : n ≠ 1024) (hn' : n ≤ 9223372036854775807) :
    Calls Try.prog 36 #[.slice ao n c] w fun e w' => e = .returned (.tuple #[D0.v, .int .i64 (if n < 1024 then 4 else 5)]) ∧ Below w.heap.size w w' := by
  obtain ⟨W0, hW⟩ : ∃ W0, W0 = w.alloc (.cells (arr 19 (dcell D0)) 69) := ⟨_, rfl⟩
  have hd0 : DatAt W0 w.heap.size D0 := by rw [hW]; exact DatAt.fresh w D0
  have HD := Lib.hid hd0
  have HT := Lib.hid (rowIs_there hd0 0 19 (by omega))
  have HB := Lib.hid (show Below w.heap.size w W0 by rw [hW]; exact (Below.refl _ w).alloc (Nat.le_refl _) _)
  have HONE := Lib.hid (arr_one (n := 19) (fun j _ => dcell_one D0 j))
  have HBU := Lib.hid fun W => build69 W
  unfold Dat.v at HBU
  have HW := Lib.hid hW
  clear hW hd0
  by_cases hl : n < 1024
  · have d1 : decide ((n : Int) < 1024) = true := by simp; omega
    rw [if_pos hl]
    go_enter Try.func36, Try.ntmps36
    go_upto_region 1 with ((with_reducible show wpList _ _ _ (⟨some 2, .alloc _, _, _, _, _⟩ :: _) _ _); refine wpList_alloc rfl 69 rfl zero69 ?_; rw [show D0.v.cells = arr 19 (dcell D0) from rfl])
    rw [← HW.out]
    go_wp2_with (first
      | ((with_reducible show wpList _ _ _ (⟨some 9, .build _ _, _, _, _, _⟩ :: _) _ _); refine wpList_build0 rfl 69 rfl (HBU.out _) ?_)
      | ((with_reducible show wpList _ _ _ (⟨none, .store _ _ _, _, _, _, _⟩ :: _) _ _); refine wpList_store_mid rfl 69 (.tmp 2) (.tmp 9) rfl w.heap.size 0 (arr 19 (dcell D0)) (by simp [Act.eval, Act.put]) (by simp [Act.eval, Act.put]) (by rw [arr_size]; exact HT.out) (by rw [size69, arr_size]) HONE.out ?_))
    refine bodyPost_ret (results69 rfl _ _ w.heap.size D0 _ (rowIs_store HD.out) rfl rfl) rfl ⟨rfl, ?_⟩
    exact HB.out.trans ((Keeps.setCells _ (Keeps.refl (One w.heap.size) W0) 0).below (B := w.heap.size) HB.out.size (fun k hk e => by have e : k = w.heap.size := e; omega))
  · have d1 : decide ((n : Int) < 1024) = false := by simp; omega
    have d2 : decide ((1024 : Int) < (n : Int)) = true := by simp; omega
    rw [if_neg hl]
    go_enter Try.func36, Try.ntmps36
    go_upto_region 1 with ((with_reducible show wpList _ _ _ (⟨some 2, .alloc _, _, _, _, _⟩ :: _) _ _); refine wpList_alloc rfl 69 rfl zero69 ?_; rw [show D0.v.cells = arr 19 (dcell D0) from rfl])
    rw [← HW.out]
    go_wp2_with (first
      | ((with_reducible show wpList _ _ _ (⟨some 13, .build _ _, _, _, _, _⟩ :: _) _ _); refine wpList_build0 rfl 69 rfl (HBU.out _) ?_)
      | ((with_reducible show wpList _ _ _ (⟨none, .store _ _ _, _, _, _, _⟩ :: _) _ _); refine wpList_store_mid rfl 69 (.tmp 2) (.tmp 13) rfl w.heap.size 0 (arr 19 (dcell D0)) (by simp [Act.eval, Act.put]) (by simp [Act.eval, Act.put]) (by rw [arr_size]; exact HT.out) (by rw [size69, arr_size]) HONE.out ?_))
    refine bodyPost_ret (results69 rfl _ _ w.heap.size D0 _ (rowIs_store HD.out) rfl rfl) rfl ⟨rfl, ?_⟩
    exact HB.out.trans ((Keeps.setCells _ (Keeps.refl (One w.heap.size) W0) 0).below (B := w.heap.size) HB.out.size (fun k hk e => by have e : k = w.heap.size := e; omega))

set_option maxRecDepth 100000 in
set_option maxHeartbeats 4000000 in
theorem refDecodeData_any (sg so c : Nat) (B : Nat → Int) (w : World) (hB : ∀ j, 0 ≤ B j ∧ B j ≤ 255) (hsrc : BytesAt w sg so 1024 B) (hc : 1024 ≤ c) (hc' : c ≤ 9223372036854775807) :
    Calls Try.prog 36 #[.slice (some ⟨sg, so, none⟩) 1024 c] w (DecD B (.int .i64 0) (.int .i64 6) w) := by
  have hsg : sg < w.heap.size := World.block_lt_of_cell? _ _ (hsrc 0 (by omega))
  have HBB := Lib.hid hB
  have H0 := Lib.hid (DS.start w hsg hsrc)
  obtain ⟨b, hb⟩ : ∃ b, b = w.heap.size := ⟨_, rfl⟩
  rw [← hb] at H0
  obtain ⟨W0, hW⟩ : ∃ W0, W0 = w.alloc (.cells (arr 19 (dcell D0)) 69) := ⟨_, rfl⟩
  have HW := Lib.hid hW
  rw [← hW] at H0
  have HBE := Lib.hid hb
  have HONE0 := Lib.hid (arr_one (n := 19) (fun j _ => dcell_one D0 j))
  obtain ⟨C, hC⟩ : ∃ C, C = B 16 + 256 * B 17 := ⟨_, rfl⟩
  have HC := Lib.hid hC
  have b16 := hB 16
  have b17 := hB 17
  have b16a := b16.1
  have b16b := b16.2
  have b17a := b17.1
  have b17b := b17.2
  clear hW hB hb hsrc hC b16 b17
  go_enter Try.func36, Try.ntmps36
  go_upto_region 1 with ((with_reducible show wpList _ _ _ (⟨some 2, .alloc _, _, _, _, _⟩ :: _) _ _); refine wpList_alloc rfl 69 rfl zero69 ?_; rw [show D0.v.cells = arr 19 (dcell D0) from rfl])
  rw [← HW.out, ← HBE.out]
  clear hsg
  go_upto_region 5 with fail
  obtain ⟨lb, hlb⟩ : ∃ x, x = W0.drew.heap.size := ⟨_, rfl⟩
  have HLB := Lib.hid hlb
  have hbl : b < lb := by rw [hlb]; exact World.rowIs.lt H0.out.dat
  obtain ⟨W1, hW1⟩ : ∃ x, x = W0.drew.alloc (.cells (arr 19 (dcell D0)) 69) := ⟨_, rfl⟩
  have HW1 := Lib.hid hW1
  have H1 := Lib.hid (show DE w W1 b lb D0 sg so B from by
    rw [hW1, hlb]
    exact ⟨World.rowIs.alloc H0.out.drew.dat _, DatAt.fresh W0.drew D0, H0.out.drew.src.below ((Below.refl _ _).alloc (Nat.le_refl _) _), H0.out.drew.below.alloc H0.out.drew.below.size _, H0.out.hb, by rw [← hlb]; exact hbl, H0.out.hs⟩)
  clear hlb hW1
  have hc5 : (512 : Int) ≤ (c : Int) := by omega
  have hc7 : (768 : Int) ≤ (c : Int) := by omega
  have hn2 : ¬ c = 256 := by omega
  have hn5 : ¬ c = 512 := by omega
  have HU := Lib.hid (show ∀ W o, BytesAt W sg so 1024 B → o + 256 ≤ 1024 → Calls Try.prog 52 #[.slice (some ⟨sg, so + o, none⟩) 256 (c - o)] W fun e w' => e = .returned (.string (txt B o)) ∧ W = w' from
    fun W o h ho => until_any sg (so + o) 256 (c - o) (fun j => B (o + j)) W (h.sub o 256 ho) (by omega) (by omega))
  go_cut [4, 5] from 14 to 30 (fun p v wc => p = .pointer (some ⟨lb, 0, none⟩) ∧ v = undef ∧ DE w wc b lb ⟨fun _ => 0, C, txt B 256, txt B 512⟩ sg so B)
  case first =>
    have e16 : IntKind.u16.wrap (B 16) = B 16 := IntWalk.u16_in _ (by omega)
    have e17 : IntKind.u16.wrap (B 17) = B 17 := IntWalk.u16_in _ (by omega)
    have e18 : IntKind.u16.wrap (256 * B 17) = 256 * B 17 := IntWalk.u16_in _ (by omega)
    have e19 : IntKind.u16.wrap (B 16 + 256 * B 17) = C := by rw [HC.out]; exact IntWalk.u16_in _ (by omega)
    refine wp_normal ?_
    refine wp_region_held_drew (S := (fun w' => BytesAt w' sg so 1024 B)) (by kernel_rfl) H0.out.drew.src (fun hS0 => ?_)
    refine takeD 14 (i := 0) (v := .slice (some ⟨sg, so, none⟩) 1024 c) rfl rfl (by kernel_rfl) (by kernel_rfl) (by kernel_rfl) (fun _ _ _ h => h) (Or.inl ⟨by rfl, by (intro w' _; go_simp)⟩) hS0 ?_
    try simp only [Act.put, List.setIfInBounds_toArray, List.set_cons_zero, List.set_cons_succ]
    refine takeD 15 (i := 1) (v := .pointer (some ⟨sg, so + 16, none⟩)) rfl rfl (by kernel_rfl) (by kernel_rfl) (by kernel_rfl) (fun _ _ _ h => h) (Or.inl ⟨by rfl, by (intro w' _; go_simp)⟩) hS0 ?_
    try simp only [Act.put, List.setIfInBounds_toArray, List.set_cons_zero, List.set_cons_succ]
    refine takeD 16 (i := 2) (v := .int .u8 (B 16)) rfl rfl (by kernel_rfl) (by kernel_rfl) (by kernel_rfl) (fun _ _ _ h => h) (Or.inl ⟨by rfl, by (intro w' h; have h2 := h 16 (by omega); clear h; go_simp)⟩) hS0 ?_
    try simp only [Act.put, List.setIfInBounds_toArray, List.set_cons_zero, List.set_cons_succ]
    refine takeD 17 (i := 3) (v := .int .u16 (B 16)) rfl rfl (by kernel_rfl) (by kernel_rfl) (by kernel_rfl) (fun _ _ _ h => h) (Or.inl ⟨by rfl, by (intro w' _; go_simp)⟩) hS0 ?_
    try simp only [Act.put, List.setIfInBounds_toArray, List.set_cons_zero, List.set_cons_succ]
    refine takeD 18 (i := 4) (v := .slice (some ⟨sg, so, none⟩) 1024 c) rfl rfl (by kernel_rfl) (by kernel_rfl) (by kernel_rfl) (fun _ _ _ h => h) (Or.inl ⟨by rfl, by (intro w' _; go_simp)⟩) hS0 ?_
    try simp only [Act.put, List.setIfInBounds_toArray, List.set_cons_zero, List.set_cons_succ]
    refine takeD 19 (i := 5) (v := .pointer (some ⟨sg, so + 17, none⟩)) rfl rfl (by kernel_rfl) (by kernel_rfl) (by kernel_rfl) (fun _ _ _ h => h) (Or.inl ⟨by rfl, by (intro w' _; go_simp)⟩) hS0 ?_
    try simp only [Act.put, List.setIfInBounds_toArray, List.set_cons_zero, List.set_cons_succ]
    refine takeD 20 (i := 6) (v := .int .u8 (B 17)) rfl rfl (by kernel_rfl) (by kernel_rfl) (by kernel_rfl) (fun _ _ _ h => h) (Or.inl ⟨by rfl, by (intro w' h; have h2 := h 17 (by omega); clear h; go_simp)⟩) hS0 ?_
    try simp only [Act.put, List.setIfInBounds_toArray, List.set_cons_zero, List.set_cons_succ]
    refine takeD 21 (i := 7) (v := .int .u16 (B 17)) rfl rfl (by kernel_rfl) (by kernel_rfl) (by kernel_rfl) (fun _ _ _ h => h) (Or.inl ⟨by rfl, by (intro w' _; go_simp)⟩) hS0 ?_
    try simp only [Act.put, List.setIfInBounds_toArray, List.set_cons_zero, List.set_cons_succ]
    refine takeD 22 (i := 8) (v := .int .u16 (256 * B 17)) rfl rfl (by kernel_rfl) (by kernel_rfl) (by kernel_rfl) (fun _ _ _ h => h) (Or.inl ⟨by rfl, by (intro w' _; go_simp)⟩) hS0 ?_
    try simp only [Act.put, List.setIfInBounds_toArray, List.set_cons_zero, List.set_cons_succ]
    refine takeD 23 (i := 9) (v := .int .u16 C) rfl rfl (by kernel_rfl) (by kernel_rfl) (by kernel_rfl) (fun _ _ _ h => h) (Or.inl ⟨by rfl, by (intro w' _; go_simp)⟩) hS0 ?_
    try simp only [Act.put, List.setIfInBounds_toArray, List.set_cons_zero, List.set_cons_succ]
    refine takeD 24 (i := 10) (v := .slice (some ⟨sg, so, none⟩) 1024 c) rfl rfl (by kernel_rfl) (by kernel_rfl) (by kernel_rfl) (fun _ _ _ h => h) (Or.inl ⟨by rfl, by (intro w' _; go_simp)⟩) hS0 ?_
    try simp only [Act.put, List.setIfInBounds_toArray, List.set_cons_zero, List.set_cons_succ]
    refine takeD 25 (i := 11) (v := .slice (some ⟨sg, so + 256, none⟩) 256 (c - 256)) rfl rfl (by kernel_rfl) (by kernel_rfl) (by kernel_rfl) (fun _ _ _ h => h) (Or.inl ⟨by rfl, by (intro w' _; go_simp)⟩) hS0 ?_
    try simp only [Act.put, List.setIfInBounds_toArray, List.set_cons_zero, List.set_cons_succ]
    refine takeD 27 (i := 13) (v := .slice (some ⟨sg, so, none⟩) 1024 c) rfl rfl (by kernel_rfl) (by kernel_rfl) (by kernel_rfl) (fun _ _ _ h => h) (Or.inl ⟨by rfl, by (intro w' _; go_simp)⟩) hS0 ?_
    try simp only [Act.put, List.setIfInBounds_toArray, List.set_cons_zero, List.set_cons_succ]
    refine takeD 28 (i := 14) (v := .slice (some ⟨sg, so + 512, none⟩) 256 (c - 512)) rfl rfl (by kernel_rfl) (by kernel_rfl) (by kernel_rfl) (fun _ _ _ h => h) (Or.inl ⟨by rfl, by (intro w' _; go_simp)⟩) hS0 ?_
    try simp only [Act.put, List.setIfInBounds_toArray, List.set_cons_zero, List.set_cons_succ]
    refine wpAnyH_ready (rs := [12, 17]) (by kernel_rfl) (by simp) (AllReadyH.cons rfl (fun K hK => ?_) (AllReadyH.cons rfl (fun K hK => ?_) AllReadyH.nil))
    · rw [if_pos (by rfl)]
      go_simp
      refine (HU.out _ 256 hS0 (by omega)).mono ?_
      rintro e w' ⟨rfl, rfl⟩
      have hSN := hS0
      refine hK.out _ _ hSN (fun hS0 => ?_)
      clear hK K hSN
      try simp only [Act.put, List.setIfInBounds_toArray, List.set_cons_zero, List.set_cons_succ]
      refine wpAnyH_ready (rs := [15, 17]) (by kernel_rfl) (by simp) (AllReadyH.cons rfl (fun K hK => ?_) (AllReadyH.cons rfl (fun K hK => ?_) AllReadyH.nil))
      · rw [if_pos (by rfl)]
        go_simp
        refine (HU.out _ 512 hS0 (by omega)).mono ?_
        rintro e w' ⟨rfl, rfl⟩
        have hSN := hS0
        refine hK.out _ _ hSN (fun hS0 => ?_)
        clear hK K hSN
        try simp only [Act.put, List.setIfInBounds_toArray, List.set_cons_zero, List.set_cons_succ]
        refine takeD 30 (i := 16) (v := (Dat.v ⟨fun _ => 0, C, txt B 256, txt B 512⟩)) rfl rfl (by kernel_rfl) (by kernel_rfl) (by kernel_rfl) (fun _ _ _ h => h) (Or.inl ⟨by rfl, by (intro w' h; exact exec_build 69 #[(1, .tmp 23), (2, .tmp 26), (3, .tmp 29)] rfl #[(1, .int .u16 C), (2, .string (txt B 256)), (3, .string (txt B 512))] (by simp [Act.eval, Act.put]) (build69p C (txt B 256) (txt B 512) w'))⟩) hS0 ?_
        try simp only [Act.put, List.setIfInBounds_toArray, List.set_cons_zero, List.set_cons_succ]
        refine wpAnyH_ready (rs := [17]) (by kernel_rfl) (by simp) (AllReadyH.cons rfl (fun K hK => ?_) AllReadyH.nil)
        rw [if_pos (by rfl)]
        refine wp_allocN 69 4 rfl rfl zero69 (A := (arr 19 (dcell D0))) rfl ?_
        rw [← HW1.out, ← HLB.out]
        have hSN := H1.out.src
        refine hK.out _ _ hSN (fun hS0 => ?_)
        clear hK K hSN
        try simp only [Act.put, List.setIfInBounds_toArray, List.set_cons_zero, List.set_cons_succ]
        refine wpAnyH_ready (rs := [18]) (by kernel_rfl) (by simp) (AllReadyH.cons rfl (fun K hK => ?_) AllReadyH.nil)
        rw [if_pos (by rfl)]
        refine wp_storeN 69 (.tmp 4) (.tmp 30) rfl rfl (lb) 0 (arr 19 (dcell ⟨fun _ => 0, C, txt B 256, txt B 512⟩)) (by first | rfl | simp [Act.eval, Act.put]) (by first | rfl | simp [Act.eval, Act.put]) (by rw [arr_size]; exact rowIs_there H1.out.dat 0 19 (by omega)) (by rw [size69, arr_size]) (arr_one (n := 19) (fun j _ => dcell_one _ j)) ?_
        have hSN := (H1.out.cells (Keeps.setCells _ (Keeps.refl (One lb) W1) 0) (rowIs_store H1.out.dat (g := dcell ⟨fun _ => 0, C, txt B 256, txt B 512⟩))).src
        refine hK.out _ _ hSN (fun hS0 => ?_)
        clear hK K hSN
        try simp only [Act.put, List.setIfInBounds_toArray, List.set_cons_zero, List.set_cons_succ]
        refine wpAnyH_done (by kernel_rfl) ?_ _
        refine NormalOnly.intro ?_
        go_wp2_with fail
        go_meet
        exact ⟨rfl, rfl, H1.out.cells (Keeps.setCells _ (Keeps.refl (One lb) W1) 0) (rowIs_store H1.out.dat (g := dcell ⟨fun _ => 0, C, txt B 256, txt B 512⟩))⟩
      · rw [if_pos (by rfl)]
        refine wp_allocN 69 4 rfl rfl zero69 (A := (arr 19 (dcell D0))) rfl ?_
        rw [← HW1.out, ← HLB.out]
        have hSN := H1.out.src
        refine hK.out _ _ hSN (fun hS0 => ?_)
        clear hK K hSN
        try simp only [Act.put, List.setIfInBounds_toArray, List.set_cons_zero, List.set_cons_succ]
        refine wpAnyH_ready (rs := [15]) (by kernel_rfl) (by simp) (AllReadyH.cons rfl (fun K hK => ?_) AllReadyH.nil)
        rw [if_pos (by rfl)]
        go_simp
        refine (HU.out _ 512 hS0 (by omega)).mono ?_
        rintro e w' ⟨rfl, rfl⟩
        have hSN := hS0
        refine hK.out _ _ hSN (fun hS0 => ?_)
        clear hK K hSN
        try simp only [Act.put, List.setIfInBounds_toArray, List.set_cons_zero, List.set_cons_succ]
        refine takeD 30 (i := 16) (v := (Dat.v ⟨fun _ => 0, C, txt B 256, txt B 512⟩)) rfl rfl (by kernel_rfl) (by kernel_rfl) (by kernel_rfl) (fun _ _ _ h => h) (Or.inl ⟨by rfl, by (intro w' h; exact exec_build 69 #[(1, .tmp 23), (2, .tmp 26), (3, .tmp 29)] rfl #[(1, .int .u16 C), (2, .string (txt B 256)), (3, .string (txt B 512))] (by simp [Act.eval, Act.put]) (build69p C (txt B 256) (txt B 512) w'))⟩) hS0 ?_
        try simp only [Act.put, List.setIfInBounds_toArray, List.set_cons_zero, List.set_cons_succ]
        refine wpAnyH_ready (rs := [18]) (by kernel_rfl) (by simp) (AllReadyH.cons rfl (fun K hK => ?_) AllReadyH.nil)
        rw [if_pos (by rfl)]
        refine wp_storeN 69 (.tmp 4) (.tmp 30) rfl rfl (lb) 0 (arr 19 (dcell ⟨fun _ => 0, C, txt B 256, txt B 512⟩)) (by first | rfl | simp [Act.eval, Act.put]) (by first | rfl | simp [Act.eval, Act.put]) (by rw [arr_size]; exact rowIs_there H1.out.dat 0 19 (by omega)) (by rw [size69, arr_size]) (arr_one (n := 19) (fun j _ => dcell_one _ j)) ?_
        have hSN := (H1.out.cells (Keeps.setCells _ (Keeps.refl (One lb) W1) 0) (rowIs_store H1.out.dat (g := dcell ⟨fun _ => 0, C, txt B 256, txt B 512⟩))).src
        refine hK.out _ _ hSN (fun hS0 => ?_)
        clear hK K hSN
        try simp only [Act.put, List.setIfInBounds_toArray, List.set_cons_zero, List.set_cons_succ]
        refine wpAnyH_done (by kernel_rfl) ?_ _
        refine NormalOnly.intro ?_
        go_wp2_with fail
        go_meet
        exact ⟨rfl, rfl, H1.out.cells (Keeps.setCells _ (Keeps.refl (One lb) W1) 0) (rowIs_store H1.out.dat (g := dcell ⟨fun _ => 0, C, txt B 256, txt B 512⟩))⟩
    · rw [if_pos (by rfl)]
      refine wp_allocN 69 4 rfl rfl zero69 (A := (arr 19 (dcell D0))) rfl ?_
      rw [← HW1.out, ← HLB.out]
      have hSN := H1.out.src
      refine hK.out _ _ hSN (fun hS0 => ?_)
      clear hK K hSN
      try simp only [Act.put, List.setIfInBounds_toArray, List.set_cons_zero, List.set_cons_succ]
      refine wpAnyH_ready (rs := [12]) (by kernel_rfl) (by simp) (AllReadyH.cons rfl (fun K hK => ?_) AllReadyH.nil)
      rw [if_pos (by rfl)]
      go_simp
      refine (HU.out _ 256 hS0 (by omega)).mono ?_
      rintro e w' ⟨rfl, rfl⟩
      have hSN := hS0
      refine hK.out _ _ hSN (fun hS0 => ?_)
      clear hK K hSN
      try simp only [Act.put, List.setIfInBounds_toArray, List.set_cons_zero, List.set_cons_succ]
      refine wpAnyH_ready (rs := [15]) (by kernel_rfl) (by simp) (AllReadyH.cons rfl (fun K hK => ?_) AllReadyH.nil)
      rw [if_pos (by rfl)]
      go_simp
      refine (HU.out _ 512 hS0 (by omega)).mono ?_
      rintro e w' ⟨rfl, rfl⟩
      have hSN := hS0
      refine hK.out _ _ hSN (fun hS0 => ?_)
      clear hK K hSN
      try simp only [Act.put, List.setIfInBounds_toArray, List.set_cons_zero, List.set_cons_succ]
      refine takeD 30 (i := 16) (v := (Dat.v ⟨fun _ => 0, C, txt B 256, txt B 512⟩)) rfl rfl (by kernel_rfl) (by kernel_rfl) (by kernel_rfl) (fun _ _ _ h => h) (Or.inl ⟨by rfl, by (intro w' h; exact exec_build 69 #[(1, .tmp 23), (2, .tmp 26), (3, .tmp 29)] rfl #[(1, .int .u16 C), (2, .string (txt B 256)), (3, .string (txt B 512))] (by simp [Act.eval, Act.put]) (build69p C (txt B 256) (txt B 512) w'))⟩) hS0 ?_
      try simp only [Act.put, List.setIfInBounds_toArray, List.set_cons_zero, List.set_cons_succ]
      refine wpAnyH_ready (rs := [18]) (by kernel_rfl) (by simp) (AllReadyH.cons rfl (fun K hK => ?_) AllReadyH.nil)
      rw [if_pos (by rfl)]
      refine wp_storeN 69 (.tmp 4) (.tmp 30) rfl rfl (lb) 0 (arr 19 (dcell ⟨fun _ => 0, C, txt B 256, txt B 512⟩)) (by first | rfl | simp [Act.eval, Act.put]) (by first | rfl | simp [Act.eval, Act.put]) (by rw [arr_size]; exact rowIs_there H1.out.dat 0 19 (by omega)) (by rw [size69, arr_size]) (arr_one (n := 19) (fun j _ => dcell_one _ j)) ?_
      have hSN := (H1.out.cells (Keeps.setCells _ (Keeps.refl (One lb) W1) 0) (rowIs_store H1.out.dat (g := dcell ⟨fun _ => 0, C, txt B 256, txt B 512⟩))).src
      refine hK.out _ _ hSN (fun hS0 => ?_)
      clear hK K hSN
      try simp only [Act.put, List.setIfInBounds_toArray, List.set_cons_zero, List.set_cons_succ]
      refine wpAnyH_done (by kernel_rfl) ?_ _
      refine NormalOnly.intro ?_
      go_wp2_with fail
      go_meet
      exact ⟨rfl, rfl, H1.out.cells (Keeps.setCells _ (Keeps.refl (One lb) W1) 0) (rowIs_store H1.out.dat (g := dcell ⟨fun _ => 0, C, txt B 256, txt B 512⟩))⟩
  case rest =>
    obtain ⟨rfl, rfl, hD⟩ := hcut
    have H2 := Lib.hid hD
    clear hD H1 HW1 HLB H0 HW b16a b16b b17a b17b
    go_wp2_with fail
    go_loopw [5] (fun i wr => ∃ k : Nat, k ≤ 16 ∧ i = .int .i64 k ∧ DE w wr b lb ⟨fun j => if j < k then B j else 0, C, txt B 256, txt B 512⟩ sg so B) (fun i _ => 16 - (intOf i).toNat)
    case atStart => exact ⟨0, by omega, rfl, H2.out.congr (fun j _ => by simp) rfl rfl rfl⟩
    case round =>
      obtain ⟨k, hk, rfl, hD⟩ := hrel
      have D := Lib.hid hD
      clear hD
      by_cases hlt : k < 16
      · have g1 : wr.cell? ⟨sg, so + k, none⟩ = some (.int .u8 (B k)) := D.out.src k (by omega)
        have g2 := World.rowIs.cell D.out.dat (i := k) (by omega)
        have f2 := World.rowIs.frozen D.out.dat k
        have hk1 : (k : Int) < (c : Int) := by omega
        go_wp2_with fail
        go_roundw
        case rel =>
          refine ⟨k + 1, by omega, by go_num, (D.out.host k hlt (B k)).congr (fun j hj => ?_) rfl rfl rfl⟩
          simp only []
          by_cases e : j = k
          · subst e; rw [if_pos rfl, if_pos (by omega)]
          · rw [if_neg e]
            by_cases h1 : j < k
            · rw [if_pos h1, if_pos (by omega)]
            · rw [if_neg h1, if_neg (by omega)]
        case measure => simp [intOf]; omega
      · obtain rfl : k = 16 := by omega
        have HO := Lib.hid (dDec_ok HBB.out)
        have HAC := Lib.hid (show AccD B ↔ vDat (dDec B) = true ∧ ∀ j, j < 1024 → dB (dDec B) j = B j from Iff.rfl)
        have hd2 : DE w wr b lb (dDec B) sg so B := D.out.congr (fun j hj => by simp only []; rw [if_pos hj]; rfl) (by rw [HC.out]; rfl) rfl rfl
        obtain ⟨d, hd⟩ : ∃ d, d = dDec B := ⟨_, rfl⟩
        rw [← hd] at hd2 HO HAC
        have HDD := Lib.hid hd
        have E := Lib.hid hd2
        have HONE := Lib.hid (arr_one (n := 19) (fun j _ => dcell_one d j))
        have HBU := Lib.hid fun W => build69 W
        unfold Dat.v at HBU
        clear hd2 hd D H2
        go_upto_region 10 with fail
        cases hv : vDat d with
        | false =>
          have HNA := Lib.hid (show ¬ AccD B from fun h => by have h2 := (HAC.out.1 h).1; rw [hv] at h2; cases h2)
          have HCD := Lib.hid (show ∀ W, Calls Try.prog 33 #[.agg (arr 19 (dcell d))] W fun e w' => e = .returned (.bool false) ∧ Below W.heap.size W w' from fun W => by have := refData_any d W HO.out; rwa [hv] at this)
          refine wp_region_held_drew (S := (fun w' => DE w w' b lb d sg so B)) (by kernel_rfl) E.out.drew (fun hS0 => ?_)
          refine takeD 42 (i := 0) (v := .agg (arr 19 (dcell d))) rfl rfl (by kernel_rfl) (by kernel_rfl) (by kernel_rfl) (fun _ _ _ h => h) (yieldsA (by rfl) 69 (.tmp 4) rfl (lb) (by first | rfl | simp [Act.eval, Act.put]) (arr 19 (dcell d)) (fun w' h => rowIs_range0 h.dat) Try.underlying69 rfl (by rw [size69, arr_size])) hS0 ?_
          try simp only [Act.put, List.setIfInBounds_toArray, List.set_cons_zero, List.set_cons_succ]
          refine wpAnyH_ready (rs := [1]) (by kernel_rfl) (by simp) (AllReadyH.cons rfl (fun K hK => ?_) AllReadyH.nil)
          rw [if_pos (by rfl)]
          go_simp
          refine (HCD.out _).mono ?_
          rintro e w3 ⟨rfl, hb⟩
          have hSN := hS0.after hb
          refine hK.out _ _ hSN (fun hS0 => ?_)
          clear hK K hSN
          try simp only [Act.put, List.setIfInBounds_toArray, List.set_cons_zero, List.set_cons_succ]
          clear hb
          refine takeD 44 (i := 2) (v := .bool true) rfl rfl (by kernel_rfl) (by kernel_rfl) (by kernel_rfl) (fun _ _ _ h => h) (Or.inl ⟨by rfl, by (intro w' _; go_simp)⟩) hS0 ?_
          try simp only [Act.put, List.setIfInBounds_toArray, List.set_cons_zero, List.set_cons_succ]
          refine takeD 45 (i := 3) (v := .bool true) rfl rfl (by kernel_rfl) (by kernel_rfl) (by kernel_rfl) (fun _ _ _ h => h) (Or.inl ⟨by rfl, by (intro w' _; go_simp)⟩) hS0 ?_
          try simp only [Act.put, List.setIfInBounds_toArray, List.set_cons_zero, List.set_cons_succ]
          refine takeD 46 (i := 4) (v := undef) rfl rfl (by kernel_rfl) (by kernel_rfl) (by kernel_rfl) (fun _ _ _ h => h) (Or.inr ⟨by rfl, rfl⟩) hS0 ?_
          try simp only [Act.put, List.setIfInBounds_toArray, List.set_cons_zero, List.set_cons_succ]
          refine takeD 47 (i := 5) (v := undef) rfl rfl (by kernel_rfl) (by kernel_rfl) (by kernel_rfl) (fun _ _ _ h => h) (Or.inr ⟨by rfl, rfl⟩) hS0 ?_
          try simp only [Act.put, List.setIfInBounds_toArray, List.set_cons_zero, List.set_cons_succ]
          refine takeD 48 (i := 6) (v := undef) rfl rfl (by kernel_rfl) (by kernel_rfl) (by kernel_rfl) (fun _ _ _ h => h) (Or.inr ⟨by rfl, rfl⟩) hS0 ?_
          try simp only [Act.put, List.setIfInBounds_toArray, List.set_cons_zero, List.set_cons_succ]
          refine takeD 49 (i := 7) (v := undef) rfl rfl (by kernel_rfl) (by kernel_rfl) (by kernel_rfl) (fun _ _ _ h => h) (Or.inr ⟨by rfl, rfl⟩) hS0 ?_
          try simp only [Act.put, List.setIfInBounds_toArray, List.set_cons_zero, List.set_cons_succ]
          refine takeD 50 (i := 8) (v := undef) rfl rfl (by kernel_rfl) (by kernel_rfl) (by kernel_rfl) (fun _ _ _ h => h) (Or.inr ⟨by rfl, rfl⟩) hS0 ?_
          try simp only [Act.put, List.setIfInBounds_toArray, List.set_cons_zero, List.set_cons_succ]
          refine takeD 51 (i := 9) (v := undef) rfl rfl (by kernel_rfl) (by kernel_rfl) (by kernel_rfl) (fun _ _ _ h => h) (Or.inr ⟨by rfl, rfl⟩) hS0 ?_
          try simp only [Act.put, List.setIfInBounds_toArray, List.set_cons_zero, List.set_cons_succ]
          refine takeD 52 (i := 10) (v := .bool true) rfl rfl (by kernel_rfl) (by kernel_rfl) (by kernel_rfl) (fun _ _ _ h => h) (Or.inl ⟨by rfl, by (intro w' _; go_simp)⟩) hS0 ?_
          try simp only [Act.put, List.setIfInBounds_toArray, List.set_cons_zero, List.set_cons_succ]
          refine wpAnyH_done (by kernel_rfl) ?_ _
          have E3 := Lib.hid hS0
          clear hS0
          have HT := Lib.hid (rowIs_there E3.out.res 0 19 (by omega))
          go_wp2_with (first
            | ((with_reducible show wpList _ _ _ (⟨some 53, .build _ _, _, _, _, _⟩ :: _) _ _); refine wpList_build0 rfl 69 rfl (HBU.out _) ?_)
            | ((with_reducible show wpList _ _ _ (⟨none, .store _ _ _, _, _, _, _⟩ :: _) _ _); refine wpList_store_mid rfl 69 (.tmp 2) (.tmp 53) rfl b 0 (arr 19 (dcell D0)) (by simp [Act.eval, Act.put]) (by simp [Act.eval, Act.put]) (by rw [arr_size]; exact HT.out) (by rw [size69, arr_size]) HONE0.out ?_))
          exact bodyPost_ret (results69 rfl _ _ b D0 _ (rowIs_store E3.out.res) rfl rfl) rfl ⟨.inr ⟨HNA.out, rfl⟩, E3.out.below.trans ((Keeps.setCells _ (Keeps.refl (One b) w3) 0).below (B := w.heap.size) E3.out.below.size (fun j hj e => by have e : j = b := e; have := E3.out.hb; omega))⟩
        | true =>
          have HCD := Lib.hid (show ∀ W, Calls Try.prog 33 #[.agg (arr 19 (dcell d))] W fun e w' => e = .returned (.bool true) ∧ Below W.heap.size W w' from fun W => by have := refData_any d W HO.out; rwa [hv] at this)
          have HCE := Lib.hid fun W => refEncodeData d W HO.out hv
          unfold Dat.v at HCE
          have HDB := Lib.hid (dB_bd HO.out)
          obtain ⟨X, hX⟩ : ∃ X, X = strOf 1024 (dB d) := ⟨_, rfl⟩
          obtain ⟨Y, hY⟩ : ∃ Y, Y = strOf 1024 B := ⟨_, rfl⟩
          have HX := Lib.hid hX
          have HY := Lib.hid hY
          by_cases heq : X = Y
          · have hq : (X.toList == Y.toList) = true := by rw [← beq_toListBytes]; rw [heq]; exact baeq_self _
            have HA := Lib.hid (HAC.out.2 ⟨hv, fun j hj => strOf_inj HDB.out HBB.out (by rw [← HX.out, ← HY.out]; exact heq) j hj⟩)
            clear heq hX hY
            refine wp_region_held_drew (S := (fun w' => DE w w' b lb d sg so B)) (by kernel_rfl) E.out.drew (fun hS0 => ?_)
            refine takeD 42 (i := 0) (v := .agg (arr 19 (dcell d))) rfl rfl (by kernel_rfl) (by kernel_rfl) (by kernel_rfl) (fun _ _ _ h => h) (yieldsA (by rfl) 69 (.tmp 4) rfl (lb) (by first | rfl | simp [Act.eval, Act.put]) (arr 19 (dcell d)) (fun w' h => rowIs_range0 h.dat) Try.underlying69 rfl (by rw [size69, arr_size])) hS0 ?_
            try simp only [Act.put, List.setIfInBounds_toArray, List.set_cons_zero, List.set_cons_succ]
            refine wpAnyH_ready (rs := [1]) (by kernel_rfl) (by simp) (AllReadyH.cons rfl (fun K hK => ?_) AllReadyH.nil)
            rw [if_pos (by rfl)]
            go_simp
            refine (HCD.out _).mono ?_
            rintro e w3 ⟨rfl, hb⟩
            have hSN := hS0.after hb
            refine hK.out _ _ hSN (fun hS0 => ?_)
            clear hK K hSN
            try simp only [Act.put, List.setIfInBounds_toArray, List.set_cons_zero, List.set_cons_succ]
            clear hb
            refine takeD 44 (i := 2) (v := .bool false) rfl rfl (by kernel_rfl) (by kernel_rfl) (by kernel_rfl) (fun _ _ _ h => h) (Or.inl ⟨by rfl, by (intro w' _; go_simp)⟩) hS0 ?_
            try simp only [Act.put, List.setIfInBounds_toArray, List.set_cons_zero, List.set_cons_succ]
            refine takeD 45 (i := 3) (v := .bool false) rfl rfl (by kernel_rfl) (by kernel_rfl) (by kernel_rfl) (fun _ _ _ h => h) (Or.inl ⟨by rfl, by (intro w' _; go_simp)⟩) hS0 ?_
            try simp only [Act.put, List.setIfInBounds_toArray, List.set_cons_zero, List.set_cons_succ]
            refine takeD 46 (i := 4) (v := .agg (arr 19 (dcell d))) rfl rfl (by kernel_rfl) (by kernel_rfl) (by kernel_rfl) (fun _ _ _ h => h) (yieldsA (by rfl) 69 (.tmp 4) rfl (lb) (by first | rfl | simp [Act.eval, Act.put]) (arr 19 (dcell d)) (fun w' h => rowIs_range0 h.dat) Try.underlying69 rfl (by rw [size69, arr_size])) hS0 ?_
            try simp only [Act.put, List.setIfInBounds_toArray, List.set_cons_zero, List.set_cons_succ]
            refine takeD 49 (i := 7) (v := .slice (some ⟨sg, so, none⟩) 1024 c) rfl rfl (by kernel_rfl) (by kernel_rfl) (by kernel_rfl) (fun _ _ _ h => h) (Or.inl ⟨by rfl, by (intro w' _; go_simp)⟩) hS0 ?_
            try simp only [Act.put, List.setIfInBounds_toArray, List.set_cons_zero, List.set_cons_succ]
            refine takeD 50 (i := 8) (v := .string Y) rfl rfl (by kernel_rfl) (by kernel_rfl) (by kernel_rfl) (fun _ _ _ h => h) (Or.inl ⟨by rfl, by (intro w' h; have h2 := (show (convert 70 9 (.slice (some ⟨sg, so, none⟩) 1024 c)).run Try.prog w' = .ok (.string Y) w' by rw [HY.out]; exact h.src.conv c); clear h; go_simp)⟩) hS0 ?_
            try simp only [Act.put, List.setIfInBounds_toArray, List.set_cons_zero, List.set_cons_succ]
            refine wpAnyH_ready (rs := [5]) (by kernel_rfl) (by simp) (AllReadyH.cons rfl (fun K hK => ?_) AllReadyH.nil)
            rw [if_pos (by rfl)]
            go_simp
            refine (HCE.out _).mono ?_
            rintro e w4 ⟨g, rfl, hg, hb, hrow⟩
            have hcv : (convert 70 9 (.slice (some ⟨g, 0, none⟩) 1024 1024)).run Try.prog w4 = .ok (.string X) w4 := by rw [HX.out]; exact (show BytesAt w4 g 0 1024 (dB d) from fun j hj => by rw [Nat.zero_add]; exact hrow.cell hj).conv 1024
            have hSN := hS0.after hb
            refine hK.out _ _ hSN (fun hS0 => ?_)
            clear hK K hSN
            try simp only [Act.put, List.setIfInBounds_toArray, List.set_cons_zero, List.set_cons_succ]
            clear hb hrow hg
            refine wpAnyH_ready (rs := [6]) (by kernel_rfl) (by simp) (AllReadyH.cons rfl (fun K hK => ?_) AllReadyH.nil)
            rw [if_pos (by rfl)]
            go_simp
            have hSN := hS0
            refine hK.out _ _ hSN (fun hS0 => ?_)
            clear hK K hSN
            try simp only [Act.put, List.setIfInBounds_toArray, List.set_cons_zero, List.set_cons_succ]
            clear hcv
            refine takeD 51 (i := 9) (v := .bool false) rfl rfl (by kernel_rfl) (by kernel_rfl) (by kernel_rfl) (fun _ _ _ h => h) (Or.inl ⟨by rfl, by (intro w' _; go_simp)⟩) hS0 ?_
            try simp only [Act.put, List.setIfInBounds_toArray, List.set_cons_zero, List.set_cons_succ]
            refine takeD 52 (i := 10) (v := .bool false) rfl rfl (by kernel_rfl) (by kernel_rfl) (by kernel_rfl) (fun _ _ _ h => h) (Or.inl ⟨by rfl, by (intro w' _; go_simp)⟩) hS0 ?_
            try simp only [Act.put, List.setIfInBounds_toArray, List.set_cons_zero, List.set_cons_succ]
            refine wpAnyH_done (by kernel_rfl) ?_ _
            have E3 := Lib.hid hS0
            clear hS0 hq
            have HT := Lib.hid (rowIs_there E3.out.res 0 19 (by omega))
            have HR2 := Lib.hid (rowIs_range0 E3.out.dat)
            go_wp2_with (first
              | ((with_reducible show wpList _ _ _ (⟨some 54, .load _ _, _, _, _, _⟩ :: _) _ _); refine wpList_load_mid rfl 69 (.tmp 4) rfl lb 0 rfl (arr 19 (dcell d)).toList _ HR2.out Try.underlying69 rfl (by rw [size69]; simp [arr]) ?_)
              | ((with_reducible show wpList _ _ _ (⟨none, .store _ _ _, _, _, _, _⟩ :: _) _ _); refine wpList_store_mid rfl 69 (.tmp 2) (.tmp 54) rfl b 0 (arr 19 (dcell d)) (by simp [Act.eval, Act.put]) (by simp [Act.eval, Act.put]) (by rw [arr_size]; exact HT.out) (by rw [size69, arr_size]) HONE.out ?_))
            exact bodyPost_ret (results69 rfl _ _ b d _ (rowIs_store E3.out.res) rfl rfl) rfl ⟨.inl ⟨HA.out, by rw [HDD.out]; rfl⟩, E3.out.below.trans ((Keeps.setCells _ (Keeps.refl (One b) w4) 0).below (B := w.heap.size) E3.out.below.size (fun j hj e => by have e : j = b := e; have := E3.out.hb; omega))⟩
          · have hq : (X.toList == Y.toList) = false := by rw [← beq_toListBytes]; exact baeq_ne heq
            have HNA := Lib.hid (show ¬ AccD B from fun h => heq (by rw [HX.out, HY.out]; exact strOf_congr (HAC.out.1 h).2))
            clear heq hX hY
            refine wp_region_held_drew (S := (fun w' => DE w w' b lb d sg so B)) (by kernel_rfl) E.out.drew (fun hS0 => ?_)
            refine takeD 42 (i := 0) (v := .agg (arr 19 (dcell d))) rfl rfl (by kernel_rfl) (by kernel_rfl) (by kernel_rfl) (fun _ _ _ h => h) (yieldsA (by rfl) 69 (.tmp 4) rfl (lb) (by first | rfl | simp [Act.eval, Act.put]) (arr 19 (dcell d)) (fun w' h => rowIs_range0 h.dat) Try.underlying69 rfl (by rw [size69, arr_size])) hS0 ?_
            try simp only [Act.put, List.setIfInBounds_toArray, List.set_cons_zero, List.set_cons_succ]
            refine wpAnyH_ready (rs := [1]) (by kernel_rfl) (by simp) (AllReadyH.cons rfl (fun K hK => ?_) AllReadyH.nil)
            rw [if_pos (by rfl)]
            go_simp
            refine (HCD.out _).mono ?_
            rintro e w3 ⟨rfl, hb⟩
            have hSN := hS0.after hb
            refine hK.out _ _ hSN (fun hS0 => ?_)
            clear hK K hSN
            try simp only [Act.put, List.setIfInBounds_toArray, List.set_cons_zero, List.set_cons_succ]
            clear hb
            refine takeD 44 (i := 2) (v := .bool false) rfl rfl (by kernel_rfl) (by kernel_rfl) (by kernel_rfl) (fun _ _ _ h => h) (Or.inl ⟨by rfl, by (intro w' _; go_simp)⟩) hS0 ?_
            try simp only [Act.put, List.setIfInBounds_toArray, List.set_cons_zero, List.set_cons_succ]
            refine takeD 45 (i := 3) (v := .bool false) rfl rfl (by kernel_rfl) (by kernel_rfl) (by kernel_rfl) (fun _ _ _ h => h) (Or.inl ⟨by rfl, by (intro w' _; go_simp)⟩) hS0 ?_
            try simp only [Act.put, List.setIfInBounds_toArray, List.set_cons_zero, List.set_cons_succ]
            refine takeD 46 (i := 4) (v := .agg (arr 19 (dcell d))) rfl rfl (by kernel_rfl) (by kernel_rfl) (by kernel_rfl) (fun _ _ _ h => h) (yieldsA (by rfl) 69 (.tmp 4) rfl (lb) (by first | rfl | simp [Act.eval, Act.put]) (arr 19 (dcell d)) (fun w' h => rowIs_range0 h.dat) Try.underlying69 rfl (by rw [size69, arr_size])) hS0 ?_
            try simp only [Act.put, List.setIfInBounds_toArray, List.set_cons_zero, List.set_cons_succ]
            refine takeD 49 (i := 7) (v := .slice (some ⟨sg, so, none⟩) 1024 c) rfl rfl (by kernel_rfl) (by kernel_rfl) (by kernel_rfl) (fun _ _ _ h => h) (Or.inl ⟨by rfl, by (intro w' _; go_simp)⟩) hS0 ?_
            try simp only [Act.put, List.setIfInBounds_toArray, List.set_cons_zero, List.set_cons_succ]
            refine takeD 50 (i := 8) (v := .string Y) rfl rfl (by kernel_rfl) (by kernel_rfl) (by kernel_rfl) (fun _ _ _ h => h) (Or.inl ⟨by rfl, by (intro w' h; have h2 := (show (convert 70 9 (.slice (some ⟨sg, so, none⟩) 1024 c)).run Try.prog w' = .ok (.string Y) w' by rw [HY.out]; exact h.src.conv c); clear h; go_simp)⟩) hS0 ?_
            try simp only [Act.put, List.setIfInBounds_toArray, List.set_cons_zero, List.set_cons_succ]
            refine wpAnyH_ready (rs := [5]) (by kernel_rfl) (by simp) (AllReadyH.cons rfl (fun K hK => ?_) AllReadyH.nil)
            rw [if_pos (by rfl)]
            go_simp
            refine (HCE.out _).mono ?_
            rintro e w4 ⟨g, rfl, hg, hb, hrow⟩
            have hcv : (convert 70 9 (.slice (some ⟨g, 0, none⟩) 1024 1024)).run Try.prog w4 = .ok (.string X) w4 := by rw [HX.out]; exact (show BytesAt w4 g 0 1024 (dB d) from fun j hj => by rw [Nat.zero_add]; exact hrow.cell hj).conv 1024
            have hSN := hS0.after hb
            refine hK.out _ _ hSN (fun hS0 => ?_)
            clear hK K hSN
            try simp only [Act.put, List.setIfInBounds_toArray, List.set_cons_zero, List.set_cons_succ]
            clear hb hrow hg
            refine wpAnyH_ready (rs := [6]) (by kernel_rfl) (by simp) (AllReadyH.cons rfl (fun K hK => ?_) AllReadyH.nil)
            rw [if_pos (by rfl)]
            go_simp
            have hSN := hS0
            refine hK.out _ _ hSN (fun hS0 => ?_)
            clear hK K hSN
            try simp only [Act.put, List.setIfInBounds_toArray, List.set_cons_zero, List.set_cons_succ]
            clear hcv
            refine takeD 51 (i := 9) (v := .bool true) rfl rfl (by kernel_rfl) (by kernel_rfl) (by kernel_rfl) (fun _ _ _ h => h) (Or.inl ⟨by rfl, by (intro w' _; go_simp)⟩) hS0 ?_
            try simp only [Act.put, List.setIfInBounds_toArray, List.set_cons_zero, List.set_cons_succ]
            refine takeD 52 (i := 10) (v := .bool true) rfl rfl (by kernel_rfl) (by kernel_rfl) (by kernel_rfl) (fun _ _ _ h => h) (Or.inl ⟨by rfl, by (intro w' _; go_simp)⟩) hS0 ?_
            try simp only [Act.put, List.setIfInBounds_toArray, List.set_cons_zero, List.set_cons_succ]
            refine wpAnyH_done (by kernel_rfl) ?_ _
            have E3 := Lib.hid hS0
            clear hS0 hq
            have HT := Lib.hid (rowIs_there E3.out.res 0 19 (by omega))
            go_wp2_with (first
              | ((with_reducible show wpList _ _ _ (⟨some 53, .build _ _, _, _, _, _⟩ :: _) _ _); refine wpList_build0 rfl 69 rfl (HBU.out _) ?_)
              | ((with_reducible show wpList _ _ _ (⟨none, .store _ _ _, _, _, _, _⟩ :: _) _ _); refine wpList_store_mid rfl 69 (.tmp 2) (.tmp 53) rfl b 0 (arr 19 (dcell D0)) (by simp [Act.eval, Act.put]) (by simp [Act.eval, Act.put]) (by rw [arr_size]; exact HT.out) (by rw [size69, arr_size]) HONE0.out ?_))
            exact bodyPost_ret (results69 rfl _ _ b D0 _ (rowIs_store E3.out.res) rfl rfl) rfl ⟨.inr ⟨HNA.out, rfl⟩, E3.out.below.trans ((Keeps.setCells _ (Keeps.refl (One b) w4) 0).below (B := w.heap.size) E3.out.below.size (fun j hj e => by have e : j = b := e; have := E3.out.hb; omega))⟩
end Go.Proofs.Ytchkipafjnehfaa
