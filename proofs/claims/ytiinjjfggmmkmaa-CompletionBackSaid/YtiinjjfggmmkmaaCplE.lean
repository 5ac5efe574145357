/- completion: Encode, the walk. -/
import Derived.Test.YtiinjjfggmmkmaaCpl
import Derived.Test.YtiinjjfggmmkmaaR2
namespace Go.Proofs.Ytiinjjfggmmkmaa
set_option linter.unusedVariables false
set_option linter.unusedSimpArgs false
open Go.RowKit

/-- the fields of an entry, and their sizes -/
def pvs (c : Cpl) : Nat → Int
  | 0 => c.r0
  | 1 => c.r1
  | 2 => c.head
  | 3 => c.queue
  | 4 => c.id
  | 5 => sword c
  | _ => 0
def pns (i : Nat) : Nat := if i < 2 then 4 else 2
theorem pns_bd (i : Nat) : 1 ≤ pns i ∧ pns i ≤ 8 := by unfold pns; split <;> omega
theorem sword_bd (c : Cpl) (h : c.Ok) (ht : c.ty ≤ 7) : 0 ≤ sword c ∧ sword c ≤ 65535 := by
  have h1 := h.ty
  have h2 := h.code
  have b1 := bv_bd c.ph 1 (by omega)
  have b2 := bv_bd c.more 16384 (by omega)
  have b3 := bv_bd c.never 32768 (by omega)
  unfold sword
  omega
theorem pvs_bd (c : Cpl) (h : c.Ok) (ht : c.ty ≤ 7) (i : Nat) : 0 ≤ pvs c i ∧ pvs c i ≤ 18446744073709551615 ∧ (pns i = 8 ∨ (pns i < 8 ∧ pvs c i / 2 ^ (8 * pns i) = 0)) := by
  have h0 := h.r0
  have h1 := h.r1
  have h2 := h.head
  have h3 := h.queue
  have h4 := h.id
  have h5 := sword_bd c h ht
  have e4 : (2 : Int) ^ (8 * 4) = 4294967296 := rfl
  have e2 : (2 : Int) ^ (8 * 2) = 65536 := rfl
  have p0 : pns 0 = 4 := rfl
  have p1 : pns 1 = 4 := rfl
  have p2 : ∀ i, 2 ≤ i → pns i = 2 := fun i hi => by unfold pns; rw [if_neg (by omega)]
  unfold pvs
  split
  · rw [p0, e4]; exact ⟨by omega, by omega, .inr ⟨by omega, by omega⟩⟩
  · rw [p1, e4]; exact ⟨by omega, by omega, .inr ⟨by omega, by omega⟩⟩
  · rw [p2 _ (by omega), e2]; exact ⟨by omega, by omega, .inr ⟨by omega, by omega⟩⟩
  · rw [p2 _ (by omega), e2]; exact ⟨by omega, by omega, .inr ⟨by omega, by omega⟩⟩
  · rw [p2 _ (by omega), e2]; exact ⟨by omega, by omega, .inr ⟨by omega, by omega⟩⟩
  · rw [p2 _ (by omega), e2]; exact ⟨by omega, by omega, .inr ⟨by omega, by omega⟩⟩
  · rename_i x hx0 hx1 hx2 hx3 hx4 hx5
    rw [p2 _ (by have q0 : i ≠ 0 := hx0; have q1 : i ≠ 1 := hx1; omega), e2]
    exact ⟨by omega, by omega, .inr ⟨by omega, by omega⟩⟩

/-- the bytes of an entry -/
def cplB (c : Cpl) (j : Nat) : Int :=
  if j < 4 then byteOf c.r0 j else if j < 8 then byteOf c.r1 (j - 4) else if j < 10 then byteOf c.head (j - 8) else if j < 12 then byteOf c.queue (j - 10) else if j < 14 then byteOf c.id (j - 12) else byteOf (sword c) (j - 14)
/-- the entry of a completion as a value -/
def cplA (c : Cpl) : Value := .agg (arr 16 fun j => .int .u8 (cplB c j))

theorem flatV_six (c : Cpl) : flatV (pvs c) pns 6 = bytesL c.r0 4 ++ bytesL c.r1 4 ++ bytesL c.head 2 ++ bytesL c.queue 2 ++ bytesL c.id 2 ++ bytesL (sword c) 2 := rfl
theorem flatV_six_len (c : Cpl) : (flatV (pvs c) pns 6).length = 16 := by rw [flatV_six]; simp [bytesL_length]
theorem flatV_six_get (c : Cpl) (j : Nat) (hj : j < 16) : (flatV (pvs c) pns 6).getD j undef = .int .u8 (cplB c j) := by
  rw [flatV_six]
  match j, hj with
  | 0, _ => exact rfl
  | 1, _ => exact rfl
  | 2, _ => exact rfl
  | 3, _ => exact rfl
  | 4, _ => exact rfl
  | 5, _ => exact rfl
  | 6, _ => exact rfl
  | 7, _ => exact rfl
  | 8, _ => exact rfl
  | 9, _ => exact rfl
  | 10, _ => exact rfl
  | 11, _ => exact rfl
  | 12, _ => exact rfl
  | 13, _ => exact rfl
  | 14, _ => exact rfl
  | 15, _ => exact rfl
  | n + 16, h => exact absurd h (by omega)

set_option maxRecDepth 100000 in
set_option maxHeartbeats 2000000 in
theorem pencode_err (c : Cpl) (w : World) (hf : 7 < c.ty) :
   Calls Try.prog 16 #[c.v] w fun e w' => e = .returned (.tuple #[.agg (arr 16 z16), .int .i64 2]) ∧ Below w.heap.size w w' := by
  have HS := Lib.hid (pencode_start c w)
  have d1 : decide ((7 : Int) < c.ty) = true := by simpa using hf
  obtain ⟨r0, r1, head, queue, id, ph, ty, code, more, never⟩ := c
  unfold Cpl.v Cpl.cells at *
  simp only [] at *
  go_enter Try.func16, Try.ntmps16
  go_upto_region 1 with ((with_reducible show wpList _ _ _ (⟨some 2, _, _, _, _, _⟩ :: _) _ _); refine wpList_alloc rfl 41 rfl zero16 ?_; rw [show (Value.agg (arr 16 z16)).cells = arr 16 z16 from rfl])
  obtain ⟨W, hW⟩ : ∃ W, W = (w.alloc (.cells #[.int .u32 r0, .int .u32 r1, .int .u16 head, .int .u16 queue, .int .u16 id, .bool ph, .int .u8 ty, .int .u8 code, .bool more, .bool never] 40)).alloc (.cells (arr 16 z16) 41) := ⟨_, rfl⟩
  rw [← hW]
  obtain ⟨h1, h2, h3, h4⟩ := HS.out _ hW
  have b6 : W.cell? ⟨w.heap.size, 6, none⟩ = some (.int .u8 ty) := World.rowIs.cell h1 (i := 6) (by omega)
  have H2 := Lib.hid h2
  have HB := Lib.hid h3
  have HRA := Lib.hid (rowIs_range0 h2)
  have HTH := Lib.hid (rowIs_there h2 0 16 (by omega))
  clear h1 h2 h3 h4 hW
  go_wp2_with (first | ((with_reducible show wpList _ _ _ (⟨some 10, _, _, _, _, _⟩ :: _) _ _); refine wpList_load_mid rfl 41 (.tmp 2) rfl (w.heap.size + 1) 0 rfl (arr 16 z16).toList _ HRA.out Try.underlying41 rfl (by rw [size16]; simp [arr]) ?_) |
    ((with_reducible show wpList _ _ _ (⟨none, _, _, _, _, _⟩ :: _) _ _); refine wpList_store_mid rfl 41 (.tmp 2) (.tmp 10) rfl (w.heap.size + 1) 0 (arr 16 z16) rfl (by simp [Act.eval, Act.put]) (by rw [arr_size]; exact HTH.out) (by rw [size16, arr_size]) z16_one ?_))
  refine bodyPost_ret (results16 rfl _ _ _ _ z16 _ (rowIs_store H2.out) rfl rfl) rfl ⟨rfl, ?_⟩
  exact HB.out.trans ((Keeps.setCells _ (Keeps.refl (One (w.heap.size + 1)) W) 0).below (B := w.heap.size) HB.out.size (fun k hk e => by have e : k = w.heap.size + 1 := e; omega))

set_option maxRecDepth 100000 in
set_option maxHeartbeats 2000000 in
theorem pencode_ok (c : Cpl) (w : World) (hok : c.Ok) (hf : c.ty ≤ 7) :
   Calls Try.prog 16 #[c.v] w fun e w' => e = .returned (.tuple #[cplA c, .int .i64 0]) ∧ Below w.heap.size w w' := by
  have HS := Lib.hid (pencode_start c w)
  have HOK := Lib.hid hok
  have d1 : decide ((7 : Int) < c.ty) = false := by simpa using hf
  obtain ⟨r0, r1, head, queue, id, ph, ty, code, more, never⟩ := c
  obtain ⟨C, hC⟩ : ∃ C, C = Cpl.mk r0 r1 head queue id ph ty code more never := ⟨_, rfl⟩
  rw [← hC]
  have hCv : C.v = .agg #[.int .u32 r0, .int .u32 r1, .int .u16 head, .int .u16 queue, .int .u16 id, .bool ph, .int .u8 ty, .int .u8 code, .bool more, .bool never] := by rw [hC]; rfl
  rw [hCv]
  have hf7 : C.ty ≤ 7 := by rw [hC]; exact hf
  have hsw : bv ph 1 + code * 2 + ty * 512 + bv more 16384 + bv never 32768 = sword C := by rw [hC]; rfl
  have hv0 : r0 = pvs C 0 ∧ r1 = pvs C 1 ∧ head = pvs C 2 ∧ queue = pvs C 3 ∧ id = pvs C 4 := by rw [hC]; exact ⟨rfl, rfl, rfl, rfl, rfl⟩
  rw [← hC] at HOK
  unfold Cpl.cells at HS
  simp only [] at *
  obtain ⟨a1, a2⟩ := hok.ty
  obtain ⟨a3, a4⟩ := hok.code
  obtain ⟨n1, n2⟩ := hok.r0
  obtain ⟨n3, n4⟩ := hok.r1
  obtain ⟨n5, n6⟩ := hok.head
  obtain ⟨n7, n8⟩ := hok.queue
  obtain ⟨n9, n10⟩ := hok.id
  simp only [] at a1 a2 a3 a4 n1 n2 n3 n4 n5 n6 n7 n8 n9 n10
  have eo := or_sword ph code ty more never ⟨a3, a4⟩ ⟨a1, hf⟩
  rw [hsw] at eo
  have EO := Lib.hid eo
  have HV0 := Lib.hid hv0
  have HCC := Lib.hid hC
  clear hok hC hCv eo hsw hv0
  go_enter Try.func16, Try.ntmps16
  go_upto_region 1 with ((with_reducible show wpList _ _ _ (⟨some 2, _, _, _, _, _⟩ :: _) _ _); refine wpList_alloc rfl 41 rfl zero16 ?_; rw [show (Value.agg (arr 16 z16)).cells = arr 16 z16 from rfl])
  obtain ⟨W, hW⟩ : ∃ W, W = (w.alloc (.cells #[.int .u32 r0, .int .u32 r1, .int .u16 head, .int .u16 queue, .int .u16 id, .bool ph, .int .u8 ty, .int .u8 code, .bool more, .bool never] 40)).alloc (.cells (arr 16 z16) 41) := ⟨_, rfl⟩
  rw [← hW]
  obtain ⟨h1, h2, h3, h4⟩ := HS.out _ hW
  have b0 : W.cell? ⟨w.heap.size, 0, none⟩ = some (.int .u32 r0) := World.rowIs.cell h1 (i := 0) (by omega)
  have b1 : W.cell? ⟨w.heap.size, 1, none⟩ = some (.int .u32 r1) := World.rowIs.cell h1 (i := 1) (by omega)
  have b2 : W.cell? ⟨w.heap.size, 2, none⟩ = some (.int .u16 head) := World.rowIs.cell h1 (i := 2) (by omega)
  have b3 : W.cell? ⟨w.heap.size, 3, none⟩ = some (.int .u16 queue) := World.rowIs.cell h1 (i := 3) (by omega)
  have b4 : W.cell? ⟨w.heap.size, 4, none⟩ = some (.int .u16 id) := World.rowIs.cell h1 (i := 4) (by omega)
  have b5 : W.cell? ⟨w.heap.size, 5, none⟩ = some (.bool ph) := World.rowIs.cell h1 (i := 5) (by omega)
  have b6 : W.cell? ⟨w.heap.size, 6, none⟩ = some (.int .u8 ty) := World.rowIs.cell h1 (i := 6) (by omega)
  have b7 : W.cell? ⟨w.heap.size, 7, none⟩ = some (.int .u8 code) := World.rowIs.cell h1 (i := 7) (by omega)
  have b8 : W.cell? ⟨w.heap.size, 8, none⟩ = some (.bool more) := World.rowIs.cell h1 (i := 8) (by omega)
  have b9 : W.cell? ⟨w.heap.size, 9, none⟩ = some (.bool never) := World.rowIs.cell h1 (i := 9) (by omega)
  have H2 := Lib.hid h2
  have HB := Lib.hid h3
  have h5 : w.heap.size < W.heap.size := by omega
  have h6 : w.heap.size + 1 < W.heap.size := by omega
  clear h1 h2 h3 h4 hW
  have eo := EO.out
  go_wp2_with fail
  obtain ⟨W1, hW1⟩ : ∃ W1, W1 = W.alloc (.cells #[.slice none 0 0] 76) := ⟨_, rfl⟩
  rw [← hW1]
  have hb1 : Below W.heap.size W W1 := by rw [hW1]; exact (Below.refl _ _).alloc (Nat.le_refl _) _
  have hw1 : Wr (fun k => k < W.heap.size) W.heap.size W1 [] := by
    rw [hW1]
    exact ⟨⟨.slice none 0 0, by go_simp, World.ownsRow_nil _ _ _ _, fun k _ e => by cases e⟩, by go_simp, fun e => by omega, fun k e => by simp; omega⟩
  have k0 : W1.cell? ⟨w.heap.size, 0, none⟩ = some (.int .u32 r0) := (hb1.cell (p := ⟨w.heap.size, 0, none⟩) h5).trans b0
  have k1 : W1.cell? ⟨w.heap.size, 1, none⟩ = some (.int .u32 r1) := (hb1.cell (p := ⟨w.heap.size, 1, none⟩) h5).trans b1
  have k2 : W1.cell? ⟨w.heap.size, 2, none⟩ = some (.int .u16 head) := (hb1.cell (p := ⟨w.heap.size, 2, none⟩) h5).trans b2
  have k3 : W1.cell? ⟨w.heap.size, 3, none⟩ = some (.int .u16 queue) := (hb1.cell (p := ⟨w.heap.size, 3, none⟩) h5).trans b3
  have k4 : W1.cell? ⟨w.heap.size, 4, none⟩ = some (.int .u16 id) := (hb1.cell (p := ⟨w.heap.size, 4, none⟩) h5).trans b4
  have k5 : W1.cell? ⟨w.heap.size, 5, none⟩ = some (.bool ph) := (hb1.cell (p := ⟨w.heap.size, 5, none⟩) h5).trans b5
  have k6 : W1.cell? ⟨w.heap.size, 6, none⟩ = some (.int .u8 ty) := (hb1.cell (p := ⟨w.heap.size, 6, none⟩) h5).trans b6
  have k7 : W1.cell? ⟨w.heap.size, 7, none⟩ = some (.int .u8 code) := (hb1.cell (p := ⟨w.heap.size, 7, none⟩) h5).trans b7
  have k8 : W1.cell? ⟨w.heap.size, 8, none⟩ = some (.bool more) := (hb1.cell (p := ⟨w.heap.size, 8, none⟩) h5).trans b8
  have k9 : W1.cell? ⟨w.heap.size, 9, none⟩ = some (.bool never) := (hb1.cell (p := ⟨w.heap.size, 9, none⟩) h5).trans b9
  have HW1 := Lib.hid hw1
  have HB1 := Lib.hid hb1
  clear hW1 hw1 hb1 b0 b1 b2 b3 b4 b5 b6 b7 b8 b9
  have q5 : ∀ p : InC (Below W1.heap.size W1), p.w.cell? ⟨w.heap.size, 5, none⟩ = some (.bool ph) := fun p => (p.ok.cell (World.block_lt_of_cell? _ _ k5)).trans k5
  have q6 : ∀ p : InC (Below W1.heap.size W1), p.w.cell? ⟨w.heap.size, 6, none⟩ = some (.int .u8 ty) := fun p => (p.ok.cell (World.block_lt_of_cell? _ _ k6)).trans k6
  have q7 : ∀ p : InC (Below W1.heap.size W1), p.w.cell? ⟨w.heap.size, 7, none⟩ = some (.int .u8 code) := fun p => (p.ok.cell (World.block_lt_of_cell? _ _ k7)).trans k7
  have q8 : ∀ p : InC (Below W1.heap.size W1), p.w.cell? ⟨w.heap.size, 8, none⟩ = some (.bool more) := fun p => (p.ok.cell (World.block_lt_of_cell? _ _ k8)).trans k8
  have q9 : ∀ p : InC (Below W1.heap.size W1), p.w.cell? ⟨w.heap.size, 9, none⟩ = some (.bool never) := fun p => (p.ok.cell (World.block_lt_of_cell? _ _ k9)).trans k9
  have HB0 : Hid (∀ p : InC (Below W1.heap.size W1), Calls Try.prog 35 #[.bool ph, .int .i64 0] p.w fun e w' => e = .returned (.int .u64 (bv ph 1)) ∧ Below W1.heap.size W1 w') := Lib.hid fun p => (bit0 ph p.w).mono fun e w' ⟨h1, h2⟩ => ⟨h1, by rw [h2]; exact p.ok⟩
  have HB14 : Hid (∀ p : InC (Below W1.heap.size W1), Calls Try.prog 35 #[.bool more, .int .i64 14] p.w fun e w' => e = .returned (.int .u64 (bv more 16384)) ∧ Below W1.heap.size W1 w') := Lib.hid fun p => (bit14 more p.w).mono fun e w' ⟨h1, h2⟩ => ⟨h1, by rw [h2]; exact p.ok⟩
  have HB15 : Hid (∀ p : InC (Below W1.heap.size W1), Calls Try.prog 35 #[.bool never, .int .i64 15] p.w fun e w' => e = .returned (.int .u64 (bv never 32768)) ∧ Below W1.heap.size W1 w') := Lib.hid fun p => (bit15 never p.w).mono fun e w' ⟨h1, h2⟩ => ⟨h1, by rw [h2]; exact p.ok⟩
  have hne : Nonempty (InC (Below W1.heap.size W1)) := ⟨⟨W1, Below.refl _ _⟩⟩
  go_cut [5] from 11 to 36 (fun s wc => s = .int .u64 (sword C) ∧ Below W1.heap.size W1 wc)
  case first =>
    refine wp_quiet_in (Below W1.heap.size W1) (Below.refl _ _).drew (by kernel_rfl) (by kernel_rfl) ?_
    repeat (go_big_quiet_step (first | (with_reducible exact calls_in (HB0.out _)) | (with_reducible exact calls_in (HB14.out _)) | (with_reducible exact calls_in (HB15.out _))))
    refine wpQuiet_nil ?_
    intro _ hw'
    obtain ⟨p, hw''⟩ := hw'
    subst hw''
    go_wp2_with fail
    go_meet
    exact ⟨rfl, p.ok⟩
  case rest =>
    obtain ⟨rfl, hbc⟩ := hcut
    have b0 : wc.cell? ⟨w.heap.size, 0, none⟩ = some (.int .u32 r0) := (hbc.cell (World.block_lt_of_cell? _ _ k0)).trans k0
    have b1 : wc.cell? ⟨w.heap.size, 1, none⟩ = some (.int .u32 r1) := (hbc.cell (World.block_lt_of_cell? _ _ k1)).trans k1
    have b2 : wc.cell? ⟨w.heap.size, 2, none⟩ = some (.int .u16 head) := (hbc.cell (World.block_lt_of_cell? _ _ k2)).trans k2
    have b3 : wc.cell? ⟨w.heap.size, 3, none⟩ = some (.int .u16 queue) := (hbc.cell (World.block_lt_of_cell? _ _ k3)).trans k3
    have b4 : wc.cell? ⟨w.heap.size, 4, none⟩ = some (.int .u16 id) := (hbc.cell (World.block_lt_of_cell? _ _ k4)).trans k4
    have HBC := Lib.hid hbc
    have hwc := (HW1.out.more hbc).less (Q := fun k => k < W.heap.size) (fun k hk => .inl hk)
    have HWC := Lib.hid hwc
    have hcs := hbc.size
    clear hbc hwc k0 k1 k2 k3 k4 k5 k6 k7 k8 k9 q5 q6 q7 q8 q9 HB0 HB14 HB15 hne
    go_wp2_with fail
    obtain ⟨w2, hw2⟩ : ∃ w2, w2 = wc.alloc (.cells #[.int .u64 r0, .int .i64 4, .int .u64 r1, .int .i64 4, .int .u64 head, .int .i64 2, .int .u64 queue, .int .i64 2, .int .u64 id, .int .i64 2, .int .u64 (sword C), .int .i64 2] 81) := ⟨_, rfl⟩
    rw [← hw2]
    have hb2 : Below wc.heap.size wc w2 := by rw [hw2]; exact (Below.refl _ _).alloc (Nat.le_refl _) _
    have hc2 : ∀ i, i < 6 → w2.cell? ⟨wc.heap.size, i * 2, none⟩ = some (.int .u64 (pvs C i)) ∧ w2.cell? ⟨wc.heap.size, i * 2 + 1, none⟩ = some (.int .i64 (pns i)) := by
      obtain ⟨e0, e1, e2, e3, e4⟩ := HV0.out
      intro i hi
      rw [hw2]
      match i, hi with
      | 0, _ => exact ⟨by rw [← e0]; go_simp, by go_simp; rfl⟩
      | 1, _ => exact ⟨by rw [← e1]; go_simp, by go_simp; rfl⟩
      | 2, _ => exact ⟨by rw [← e2]; go_simp, by go_simp; rfl⟩
      | 3, _ => exact ⟨by rw [← e3]; go_simp, by go_simp; rfl⟩
      | 4, _ => exact ⟨by rw [← e4]; go_simp, by go_simp; rfl⟩
      | 5, _ => exact ⟨by go_simp; rfl, by go_simp; rfl⟩
    clear hw2 b0 b1 b2 b3 b4 eo
    refine (addall_ok (fun k => k < W.heap.size) W.heap.size wc.heap.size 6 6 (pvs C) pns [] w2 ((HWC.out.more hb2).less (fun k hk => .inl hk)) (by omega) (by rw [flatV_six_len]; omega) hc2 pns_bd (pvs_bd C HOK.out hf7) (by simp)).mono ?_
    rintro e w6 ⟨rfl, hk6, hw6⟩
    obtain ⟨L, hL⟩ : ∃ L, L = [] ++ flatV (pvs C) pns 6 := ⟨_, rfl⟩
    rw [← hL] at hw6
    have hLl : L.length = 16 := by rw [hL, List.nil_append, flatV_six_len]
    have hL1 : ∀ u ∈ L, u.oneCell' = true := by rw [hL, List.nil_append]; exact flatV_one _ _ _
    have hLg : ∀ j, j < 16 → L.getD j undef = .int .u8 (cplB C j) := by rw [hL, List.nil_append]; exact flatV_six_get C
    have hKW : Keeps (fun k => ¬ (k < W.heap.size)) W w6 := (((Keeps.of_below HB1.out).trans (HBC.out.mono HB1.out.size |> fun h => Keeps.of_below (S := fun k => ¬ (k < W.heap.size)) (a := W1) (b := wc) HBC.out)).trans (Keeps.of_below hb2)).trans hk6
    have HW6 := Lib.hid hw6
    have HK6 := Lib.hid hKW
    have HLg := Lib.hid hLg
    have HLl := Lib.hid hLl
    have HL1 := Lib.hid hL1
    have HO6 := Lib.hid ((HK6.out.rowIs H2.out (fun e => e h6)))
    have hlt6 := HO6.out.lt
    clear hk6 hw6 hL hLl hL1 hLg hKW hc2 hb2
    go_wp2_with fail
    have hrow7 := HO6.out
    obtain ⟨cu, hcu1, hcu2, hcu3⟩ := hrow7
    have HCU := Lib.hid hcu1
    have hsz1 : (Try.prog.info? 5).map (·.size) = some 1 := by kernel_rfl
    clear hcu1 hcu3
    go_region_law (first
      | (rw [if_pos (by rfl)]; go_simp; refine (wBytes_ok _ W.heap.size L _ (HW6.out.kept (S := fun _ => False) ((Keeps.refl _ w6).drew) (fun e => e) (fun _ _ e => e)) (by rw [HLl.out]; omega) HL1.out (by rw [HLl.out]; omega)).mono ?_; rintro e w7 ⟨v7, rfl, ⟨g7, cap7, F7, rfl, hg7, hr7, hc7, hc7', hx7⟩, hb7⟩; have HR7 := Lib.hid hr7; have HX7 := Lib.hid hx7; have HB7 := Lib.hid hb7; have HSRC : Hid (∀ (j : Nat) u, L[j]? = some u → w7.cell? ((⟨g7, 0, none⟩ : Addr).add j) = some u) := Lib.hid (fun j u hu => by have hj : j < 16 := (by rw [← HLl.out]; exact (List.getElem?_eq_some_iff.1 hu).1); have hxj := HX7.out j (by rw [HLl.out]; exact hj); rw [hu] at hxj; cases hxj; rw [Addr.add_mid, Nat.zero_add]; exact HR7.out.cell (by have := HLl.out; omega)); clear hr7 hx7 hb7; rw [HLl.out])
      | (go_loud (refine step_copy_splice rfl (.tmp 62) (.tmp 63) 66 66 rfl 5 Try.underlying66 hsz1 _ _ _ _ _ _ rfl rfl (w.heap.size + 1) 0 cu.toList 41 ((HB7.out.block _ hlt6).trans (by rw [Array.toArray_toList]; exact HCU.out)) L (by rw [HLl.out]; rfl) (fun _ => ⟨rfl, _, rfl, HSRC.out⟩) (by rw [HLl.out, Array.length_toList]; omega) HL1.out (w.heap.size + 1) _ (Below.refl _ _) (Nat.le_refl _) ?_); intro w8 HG8 hb8))
    have hl8 := hb8.size
    have hl7 := HB7.out.size
    have hr8 : w8.rowIs (w.heap.size + 1) 41 16 (fun j => .int .u8 (cplB C j)) := by
      refine ⟨_, HG8.out, ?_, fun i hi => ?_⟩
      · have := HLl.out
        rw [List.size_toArray, length_splice cu.toList 0 L (by have h1 : cu.toList.length = 16 := hcu2; omega)]; exact hcu2
      · have e : splice cu.toList 0 L = L := by
          unfold splice
          rw [List.take_zero, List.nil_append, List.drop_of_length_le (by have := HLl.out; have h1 : cu.toList.length = 16 := hcu2; omega), List.append_nil]
        rw [e]
        have hi' : i < L.length := by rw [HLl.out]; exact hi
        have := HLg.out i hi
        show L.toArray[i]? = some (Value.int .u8 (cplB C i))
        rw [← this]
        simp [hi']
    have hone : (arr 16 fun j => Value.int .u8 (cplB C j)).all (·.oneCell') = true := arr_one fun _ _ => rfl
    have HONE := Lib.hid hone
    have H8 := Lib.hid hr8
    have HRA := Lib.hid (rowIs_range0 hr8)
    have HTH := Lib.hid (rowIs_there hr8 0 16 (by omega))
    have HB8 : Hid (Below w.heap.size w w8) := by
      refine Lib.hid ?_
      have k6 : Below w.heap.size w w6 := HB.out.trans (HK6.out.below HB.out.size (fun k hk e => e (by omega)))
      have k7 : Below w.heap.size w w7 := (Below.trans (b := w6.drew) k6.drew (HB7.out.mono k6.size))
      exact k7.trans (hb8.mono (by omega))
    clear hr8 hone HG8 HB7 HR7 HX7 HSRC
    go_wp2_with (first | ((with_reducible show wpList _ _ _ (⟨some 65, _, _, _, _, _⟩ :: _) _ _); refine wpList_load_mid rfl 41 (.tmp 2) rfl (w.heap.size + 1) 0 rfl (arr 16 fun j => Value.int .u8 (cplB C j)).toList _ HRA.out Try.underlying41 rfl (by rw [size16]; simp [arr]) ?_) |
      ((with_reducible show wpList _ _ _ (⟨none, _, _, _, _, _⟩ :: _) _ _); refine wpList_store_mid rfl 41 (.tmp 2) (.tmp 65) rfl (w.heap.size + 1) 0 (arr 16 fun j => Value.int .u8 (cplB C j)) rfl (by simp [Act.eval]) (by rw [arr_size]; exact HTH.out) (by rw [size16, arr_size]) HONE.out ?_))
    refine bodyPost_ret (results16 rfl _ _ _ _ (fun j => Value.int .u8 (cplB C j)) _ (rowIs_store H8.out) rfl rfl) rfl ⟨rfl, ?_⟩
    exact HB8.out.trans ((Keeps.setCells _ (Keeps.refl (One (w.heap.size + 1)) w8) 0).below (B := w.heap.size) HB8.out.size (fun k hk e => by have e : k = w.heap.size + 1 := e; omega))
end Go.Proofs.Ytiinjjfggmmkmaa
