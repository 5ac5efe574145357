/- command: the reference's Encode, the walk. -/
import Derived.Test.YtggdjadhenamiaaCmdR
import Derived.BigRegion
namespace Go.Proofs.Ytggdjadhenamiaa
set_option linter.unusedVariables false
set_option linter.unusedSimpArgs false
open Go.RowKit

/-- The three blocks that the reference's Encode makes first. -/
theorem rencode_start (c : Cmd) (w W : World) (hW : W = ((w.alloc (.cells c.cells 28)).alloc (.cells (arr 64 z8) 29)).alloc (.cells (arr 64 z8) 29)) :
    W.rowIs w.heap.size 28 16 (fun i => c.cells.getD i undef) ∧ W.rowIs (w.heap.size + 1) 29 64 z8 ∧ W.rowIs (w.heap.size + 1 + 1) 29 64 z8 ∧ Below w.heap.size w W := by
  obtain ⟨h1, h2, h3, h4⟩ := encode_start c w _ rfl
  have h5 := rowIs_arr ((w.alloc (.cells c.cells 28)).alloc (.cells (arr 64 z8) 29)) 29 64 z8
  rw [h4, ← hW] at h5
  rw [hW]
  exact ⟨World.rowIs.alloc h1 _, h2.alloc _, by rw [← hW]; exact h5, h3.alloc h3.size _⟩

set_option maxRecDepth 100000 in
set_option maxHeartbeats 2000000 in
theorem rcencode_err (c : Cmd) (w : World) (hok : c.Ok) (hf : 2 < c.fused) :
   Calls Try.prog 11 #[c.v] w fun e w' => e = .returned (.tuple #[.agg (arr 64 z8), .int .i64 2]) ∧ Below w.heap.size w w' := by
  have HS := Lib.hid (rencode_start c w)
  have d1 : decide ((2 : Int) < c.fused) = true := by simpa using hf
  obtain ⟨op, fused, sgl, id, nsid, c2, c3, mt, d0, d1', x0, x1, x2, x3, x4, x5⟩ := c
  unfold Cmd.v Cmd.cells at *
  simp only [] at *
  go_enter Try.func11, Try.ntmps11
  go_upto_region 2 with (first | ((with_reducible show wpList _ _ _ (⟨some 2, _, _, _, _, _⟩ :: _) _ _); refine wpList_alloc rfl 29 rfl zero64 ?_; rw [show (Value.agg (arr 64 z8)).cells = arr 64 z8 from rfl]) | ((with_reducible show wpList _ _ _ (⟨some 4, _, _, _, _, _⟩ :: _) _ _); refine wpList_alloc rfl 29 rfl zero64 ?_; rw [show (Value.agg (arr 64 z8)).cells = arr 64 z8 from rfl]))
  obtain ⟨W, hW⟩ : ∃ W, W = ((w.alloc (.cells #[.int .u8 op, .int .u8 fused, .bool sgl, .int .u16 id, .int .u32 nsid, .int .u32 c2, .int .u32 c3, .int .u64 mt, .int .u64 d0, .int .u64 d1', .int .u32 x0, .int .u32 x1, .int .u32 x2, .int .u32 x3, .int .u32 x4, .int .u32 x5] 28)).alloc (.cells (arr 64 z8) 29)).alloc (.cells (arr 64 z8) 29) := ⟨_, rfl⟩
  rw [← hW]
  obtain ⟨h1, h2, h3, h4⟩ := HS.out _ hW
  have b1 : W.cell? ⟨w.heap.size, 1, none⟩ = some (.int .u8 fused) := World.rowIs.cell h1 (i := 1) (by omega)
  have H2 := Lib.hid h2
  have HB := Lib.hid h4
  have HRA := Lib.hid (rowIs_range0 h3)
  have HTH := Lib.hid (rowIs_there h2 0 64 (by omega))
  clear h1 h2 h3 h4 hW
  go_wp2_with (first | ((with_reducible show wpList _ _ _ (⟨some 11, _, _, _, _, _⟩ :: _) _ _); refine wpList_load_mid rfl 29 (.tmp 4) rfl (w.heap.size + 1 + 1) 0 rfl (arr 64 z8).toList _ HRA.out Try.underlying29 rfl (by rw [size64]; simp [arr]) ?_) |
    ((with_reducible show wpList _ _ _ (⟨none, _, _, _, _, _⟩ :: _) _ _); refine wpList_store_mid rfl 29 (.tmp 2) (.tmp 11) rfl (w.heap.size + 1) 0 (arr 64 z8) rfl (by simp [Act.eval, Act.put]) (by rw [arr_size]; exact HTH.out) (by rw [size64, arr_size]) z8_one ?_))
  refine bodyPost_ret (results64 rfl _ _ _ _ z8 _ (rowIs_store H2.out) rfl rfl) rfl ⟨rfl, ?_⟩
  exact HB.out.trans ((Keeps.setCells _ (Keeps.refl (One (w.heap.size + 1)) W) 0).below (B := w.heap.size) HB.out.size (fun k hk e => by have e : k = w.heap.size + 1 := e; omega))

set_option maxRecDepth 100000 in
set_option maxHeartbeats 4000000 in
theorem rcencode_ok (c : Cmd) (w : World) (hok : c.Ok) (hf : c.fused ≤ 2) :
   Calls Try.prog 11 #[c.v] w fun e w' => e = .returned (.tuple #[cmdA c, .int .i64 0]) ∧ Below w.heap.size w w' := by
  have HS := Lib.hid (rencode_start c w)
  have HOK := Lib.hid hok
  have d1 : decide ((2 : Int) < c.fused) = false := by simpa using hf
  obtain ⟨op, fused, sgl, id, nsid, c2, c3, mt, d0, d1', x0, x1, x2, x3, x4, x5⟩ := c
  obtain ⟨C, hC⟩ : ∃ C, C = Cmd.mk op fused sgl id nsid c2 c3 mt d0 d1' x0 x1 x2 x3 x4 x5 := ⟨_, rfl⟩
  rw [← hC]
  have hCv : C.v = .agg #[.int .u8 op, .int .u8 fused, .bool sgl, .int .u16 id, .int .u32 nsid, .int .u32 c2, .int .u32 c3, .int .u64 mt, .int .u64 d0, .int .u64 d1', .int .u32 x0, .int .u32 x1, .int .u32 x2, .int .u32 x3, .int .u32 x4, .int .u32 x5] := by rw [hC]; rfl
  rw [hCv]
  rw [← hC] at HOK
  unfold Cmd.cells at HS
  simp only [] at *
  obtain ⟨a1, a2⟩ := hok.op
  obtain ⟨a3, a4⟩ := hok.fused
  obtain ⟨a5, a6⟩ := hok.id
  obtain ⟨m1, m2⟩ := hok.mt
  obtain ⟨m3, m4⟩ := hok.d0
  obtain ⟨m5, m6⟩ := hok.d1
  simp only [] at a1 a2 a3 a4 a5 a6 m1 m2 m3 m4 m5 m6
  have HCC := Lib.hid hC
  clear hok hC hCv
  cases sgl
  · go_enter Try.func11, Try.ntmps11
    go_upto_region 2 with (first | ((with_reducible show wpList _ _ _ (⟨some 2, _, _, _, _, _⟩ :: _) _ _); refine wpList_alloc rfl 29 rfl zero64 ?_; rw [show (Value.agg (arr 64 z8)).cells = arr 64 z8 from rfl]) | ((with_reducible show wpList _ _ _ (⟨some 4, _, _, _, _, _⟩ :: _) _ _); refine wpList_alloc rfl 29 rfl zero64 ?_; rw [show (Value.agg (arr 64 z8)).cells = arr 64 z8 from rfl]))
    obtain ⟨W, hW⟩ : ∃ W, W = ((w.alloc (.cells #[.int .u8 op, .int .u8 fused, .bool false, .int .u16 id, .int .u32 nsid, .int .u32 c2, .int .u32 c3, .int .u64 mt, .int .u64 d0, .int .u64 d1', .int .u32 x0, .int .u32 x1, .int .u32 x2, .int .u32 x3, .int .u32 x4, .int .u32 x5] 28)).alloc (.cells (arr 64 z8) 29)).alloc (.cells (arr 64 z8) 29) := ⟨_, rfl⟩
    rw [← hW]
    obtain ⟨h1, h2, h3, h4⟩ := HS.out _ hW
    have b0 : W.cell? ⟨w.heap.size, 0, none⟩ = some (.int .u8 op) := World.rowIs.cell h1 (i := 0) (by omega)
    have b1 : W.cell? ⟨w.heap.size, 1, none⟩ = some (.int .u8 fused) := World.rowIs.cell h1 (i := 1) (by omega)
    have b2 : W.cell? ⟨w.heap.size, 2, none⟩ = some (.bool false) := World.rowIs.cell h1 (i := 2) (by omega)
    have b3 : W.cell? ⟨w.heap.size, 3, none⟩ = some (.int .u16 id) := World.rowIs.cell h1 (i := 3) (by omega)
    have b4 : W.cell? ⟨w.heap.size, 4, none⟩ = some (.int .u32 nsid) := World.rowIs.cell h1 (i := 4) (by omega)
    have b5 : W.cell? ⟨w.heap.size, 5, none⟩ = some (.int .u32 c2) := World.rowIs.cell h1 (i := 5) (by omega)
    have b6 : W.cell? ⟨w.heap.size, 6, none⟩ = some (.int .u32 c3) := World.rowIs.cell h1 (i := 6) (by omega)
    have b7 : W.cell? ⟨w.heap.size, 7, none⟩ = some (.int .u64 mt) := World.rowIs.cell h1 (i := 7) (by omega)
    have b8 : W.cell? ⟨w.heap.size, 8, none⟩ = some (.int .u64 d0) := World.rowIs.cell h1 (i := 8) (by omega)
    have b9 : W.cell? ⟨w.heap.size, 9, none⟩ = some (.int .u64 d1') := World.rowIs.cell h1 (i := 9) (by omega)
    have b10 : W.cell? ⟨w.heap.size, 10, none⟩ = some (.int .u32 x0) := World.rowIs.cell h1 (i := 10) (by omega)
    have b11 : W.cell? ⟨w.heap.size, 11, none⟩ = some (.int .u32 x1) := World.rowIs.cell h1 (i := 11) (by omega)
    have b12 : W.cell? ⟨w.heap.size, 12, none⟩ = some (.int .u32 x2) := World.rowIs.cell h1 (i := 12) (by omega)
    have b13 : W.cell? ⟨w.heap.size, 13, none⟩ = some (.int .u32 x3) := World.rowIs.cell h1 (i := 13) (by omega)
    have b14 : W.cell? ⟨w.heap.size, 14, none⟩ = some (.int .u32 x4) := World.rowIs.cell h1 (i := 14) (by omega)
    have b15 : W.cell? ⟨w.heap.size, 15, none⟩ = some (.int .u32 x5) := World.rowIs.cell h1 (i := 15) (by omega)
    have y0 : W.cell? ⟨w.heap.size + 1 + 1, 0, none⟩ = some (.int .u8 0) := World.rowIs.cell h3 (i := 0) (by omega)
    have z0 : W.frozen? ⟨w.heap.size + 1 + 1, 0, none⟩ = false := h3.frozen 0
    have y1 : W.cell? ⟨w.heap.size + 1 + 1, 1, none⟩ = some (.int .u8 0) := World.rowIs.cell h3 (i := 1) (by omega)
    have z1 : W.frozen? ⟨w.heap.size + 1 + 1, 1, none⟩ = false := h3.frozen 1
    have y2 : W.cell? ⟨w.heap.size + 1 + 1, 2, none⟩ = some (.int .u8 0) := World.rowIs.cell h3 (i := 2) (by omega)
    have z2 : W.frozen? ⟨w.heap.size + 1 + 1, 2, none⟩ = false := h3.frozen 2
    have y3 : W.cell? ⟨w.heap.size + 1 + 1, 3, none⟩ = some (.int .u8 0) := World.rowIs.cell h3 (i := 3) (by omega)
    have z3 : W.frozen? ⟨w.heap.size + 1 + 1, 3, none⟩ = false := h3.frozen 3
    have H2 := Lib.hid h2
    have H3 := Lib.hid h3
    have HB := Lib.hid h4
    have h7 : w.heap.size + 1 + 1 < W.heap.size := h3.lt
    clear h1 h2 h3 h4 hW
    have e7 : IntKind.u16.wrap (id.tdiv 256) = id / 256 := by rw [Int.tdiv_eq_ediv_of_nonneg (by omega)]; exact IntWalk.u16_in _ (by omega)
    go_wp2_with fail
    go_region
    go_wp2_with fail
    obtain ⟨W1, hW1⟩ : ∃ W1, W1 = (((((W.setCell ⟨w.heap.size + 1 + 1, 0, none⟩ (.int .u8 op)).setCell ⟨w.heap.size + 1 + 1, 1, none⟩ (.int .u8 fused)).setCell ⟨w.heap.size + 1 + 1, 2, none⟩ (.int .u8 (id % 256))).setCell ⟨w.heap.size + 1 + 1, 3, none⟩ (.int .u8 (id / 256))).alloc (.cells #[.int .u32 nsid, .int .u32 c2, .int .u32 c3, .int .u32 (mt % 4294967296), .int .u32 (mt / 4294967296), .int .u32 (d0 % 4294967296), .int .u32 (d0 / 4294967296), .int .u32 (d1' % 4294967296), .int .u32 (d1' / 4294967296), .int .u32 x0, .int .u32 x1, .int .u32 x2, .int .u32 x3, .int .u32 x4, .int .u32 x5] 23)).drew := ⟨_, rfl⟩
    rw [← hW1]
    have hk1 : Keeps (One (w.heap.size + 1 + 1)) W W1 := by rw [hW1]; exact ((((((Keeps.refl _ W).set1 _ _).set1 _ _).set1 _ _).set1 _ _).alloc _).drew
    have hr1 : W1.rowIs (w.heap.size + 1 + 1) 29 64 (refF C 0) := by
      rw [hW1]
      refine (World.rowIs.drew (World.rowIs.alloc (World.rowIs.set (World.rowIs.set (World.rowIs.set (World.rowIs.set H3.out 0 _) 1 _) 2 _) 3 _) _)).congr fun j hj => ?_
      rw [HCC.out]
      unfold refF hb4 z8
      by_cases e0 : j = 0
      · subst e0; simp
      · by_cases e1 : j = 1
        · subst e1; simp
        · by_cases e2 : j = 2
          · subst e2; simp
          · by_cases e3 : j = 3
            · subst e3; simp
            · have e4 : ¬ j < 4 := by omega
              simp [e0, e1, e2, e3, e4]
    have hl1 : W1.rowIs W.heap.size 23 15 (fun i => .int .u32 (dw C i)) := by
      rw [hW1, HCC.out]
      have hsz : ((((W.setCell ⟨w.heap.size + 1 + 1, 0, none⟩ (.int .u8 op)).setCell ⟨w.heap.size + 1 + 1, 1, none⟩ (.int .u8 fused)).setCell ⟨w.heap.size + 1 + 1, 2, none⟩ (.int .u8 (id % 256))).setCell ⟨w.heap.size + 1 + 1, 3, none⟩ (.int .u8 (id / 256))).heap.size = W.heap.size := by simp
      have := World.rowIs_alloc ((((W.setCell ⟨w.heap.size + 1 + 1, 0, none⟩ (.int .u8 op)).setCell ⟨w.heap.size + 1 + 1, 1, none⟩ (.int .u8 fused)).setCell ⟨w.heap.size + 1 + 1, 2, none⟩ (.int .u8 (id % 256))).setCell ⟨w.heap.size + 1 + 1, 3, none⟩ (.int .u8 (id / 256))) #[.int .u32 nsid, .int .u32 c2, .int .u32 c3, .int .u32 (mt % 4294967296), .int .u32 (mt / 4294967296), .int .u32 (d0 % 4294967296), .int .u32 (d0 / 4294967296), .int .u32 (d1' % 4294967296), .int .u32 (d1' / 4294967296), .int .u32 x0, .int .u32 x1, .int .u32 x2, .int .u32 x3, .int .u32 x4, .int .u32 x5] 23 (fun i => .int .u32 (dw ⟨op, fused, false, id, nsid, c2, c3, mt, d0, d1', x0, x1, x2, x3, x4, x5⟩ i)) (fun i hi => by
        match i, hi with
        | 0, _ => rfl
        | 1, _ => rfl
        | 2, _ => rfl
        | 3, _ => rfl
        | 4, _ => rfl
        | 5, _ => rfl
        | 6, _ => rfl
        | 7, _ => rfl
        | 8, _ => rfl
        | 9, _ => rfl
        | 10, _ => rfl
        | 11, _ => rfl
        | 12, _ => rfl
        | 13, _ => rfl
        | 14, _ => rfl)
      rw [hsz] at this
      exact World.rowIs.drew this
    have HB1 := Lib.hid (HB.out.trans (hk1.below HB.out.size (fun j hj e => by have e : j = w.heap.size + 1 + 1 := e; omega)))
    have HR1 := Lib.hid hr1
    have HL1 := Lib.hid hl1
    have H21 := Lib.hid (hk1.rowIs H2.out (fun e => by have e : w.heap.size + 1 = w.heap.size + 1 + 1 := e; omega))
    clear hW1 hk1 hr1 hl1 b0 b1 b2 b3 b4 b5 b6 b7 b8 b9 b10 b11 b12 b13 b14 b15 y0 z0 y1 z1 y2 z2 y3 z3 e7
    go_loopw [6, 7] (fun i _ wr => ∃ n : Nat, n ≤ 15 ∧ i = .int .i64 n ∧ Keeps (One (w.heap.size + 1 + 1)) W1 wr ∧ wr.rowIs (w.heap.size + 1 + 1) 29 64 (refF C (4 * n))) (fun i _ _ => 15 - (intOf i).toNat)
    case atStart => exact ⟨0, Nat.zero_le _, rfl, Keeps.refl _ _, HR1.out⟩
    case round =>
      obtain ⟨n, hn, rfl, hkn, hrn⟩ := hrel
      obtain ⟨wo, rfl⟩ : ∃ wo : World, wo = wr := ⟨_, rfl⟩
      have HKN := Lib.hid hkn
      have HRN := Lib.hid hrn
      clear hkn hrn
      by_cases hlt : n < 15
      · go_wp2_with fail
        go_loopw [7] (fun i wr => ∃ k : Nat, k ≤ 4 ∧ i = .int .i64 k ∧ Keeps (One (w.heap.size + 1 + 1)) W1 wr ∧ wr.rowIs (w.heap.size + 1 + 1) 29 64 (refF C (4 * n + k))) (fun i _ => 4 - (intOf i).toNat)
        case atStart => exact ⟨0, Nat.zero_le _, rfl, HKN.out, HRN.out⟩
        case round =>
          obtain ⟨k, hk, rfl, hkk, hrk⟩ := hrel
          have HKK := Lib.hid hkk
          have HRK := Lib.hid hrk
          clear hkk hrk
          by_cases hlk : k < 4
          · have c0 := HKK.out.cell (HL1.out.cell (i := n) hlt) (fun e => by have e : W.heap.size = w.heap.size + 1 + 1 := e; omega)
            obtain ⟨v1, v2⟩ := dw_bd C HOK.out n
            obtain ⟨v, hv⟩ : ∃ v, v = dw C n := ⟨_, rfl⟩
            rw [← hv] at c0 v1 v2
            have HV := Lib.hid hv
            clear hv
            have c1 := HRK.out.cell (i := 4 + (4 * n + k)) (by omega)
            have f1 := HRK.out.frozen (4 + (4 * n + k))
            have e1 : IntKind.i64.wrap (4 * (n : Int)) = 4 * (n : Int) := IntWalk.i64_in _ (by omega)
            have e2 : IntKind.i64.wrap (4 + 4 * (n : Int)) = 4 + 4 * (n : Int) := IntWalk.i64_in _ (by omega)
            have e3 : IntKind.i64.wrap (4 + 4 * (n : Int) + (k : Int)) = 4 + 4 * (n : Int) + (k : Int) := IntWalk.i64_in _ (by omega)
            have e4 : IntKind.i64.wrap (8 * (k : Int)) = 8 * (k : Int) := IntWalk.i64_in _ (by omega)
            have e5 : (4 + 4 * (n : Int) + (k : Int)).toNat = 4 + (4 * n + k) := by omega
            go_wp2_with fail
            go_roundw
            case rel =>
              refine ⟨k + 1, by omega, by go_num, HKK.out.set1 _ _, (HRK.out.set (4 + (4 * n + k)) _).congr fun j _ => ?_⟩
              rw [HV.out]
              exact refF_step C n k j hlk
            case measure => simp [intOf]; omega
          · obtain rfl : k = 4 := by omega
            go_wp2_with fail
            go_roundw
            case rel => exact ⟨n + 1, by omega, by go_num, HKK.out, HRK.out⟩
            case measure => simp [intOf]; omega
      · obtain rfl : n = 15 := by omega
        have hkeep := HKN.out.below (B := w.heap.size) HB1.out.size (fun j hj e => by have e : j = w.heap.size + 1 + 1 := e; omega)
        have HBR := Lib.hid (HB1.out.trans hkeep)
        have H2R := Lib.hid (HKN.out.rowIs H21.out (fun e => by have e : w.heap.size + 1 = w.heap.size + 1 + 1 := e; omega))
        have hrow : wo.rowIs (w.heap.size + 1 + 1) 29 64 (fun j => .int .u8 (cmdB C j)) := HRN.out.congr fun j hj => refF_end C j hj
        have hone : (arr 64 fun j => Value.int .u8 (cmdB C j)).all (·.oneCell') = true := arr_one fun _ _ => rfl
        have HRA := Lib.hid (rowIs_range0 hrow)
        have HTH := Lib.hid (rowIs_there H2R.out 0 64 (by omega))
        have HONE := Lib.hid hone
        clear hkeep hrow hone
        go_wp2_with (first | ((with_reducible show wpList _ _ _ (⟨some 109, _, _, _, _, _⟩ :: _) _ _); refine wpList_load_mid rfl 29 (.tmp 4) rfl (w.heap.size + 1 + 1) 0 rfl (arr 64 fun j => Value.int .u8 (cmdB C j)).toList _ HRA.out Try.underlying29 rfl (by rw [size64]; simp [arr]) ?_) |
          ((with_reducible show wpList _ _ _ (⟨none, _, _, _, _, _⟩ :: _) _ _); refine wpList_store_mid rfl 29 (.tmp 2) (.tmp 109) rfl (w.heap.size + 1) 0 (arr 64 fun j => Value.int .u8 (cmdB C j)) rfl (by simp [Act.eval, Act.put]) (by rw [arr_size]; exact HTH.out) (by rw [size64, arr_size]) HONE.out ?_))
        refine bodyPost_ret (results64 rfl _ _ _ _ (fun j => Value.int .u8 (cmdB C j)) _ (rowIs_store H2R.out) rfl rfl) rfl ⟨rfl, ?_⟩
        exact HBR.out.trans ((Keeps.setCells _ (Keeps.refl (One (w.heap.size + 1)) wo) 0).below (B := w.heap.size) HBR.out.size (fun k hk e => by have e : k = w.heap.size + 1 := e; omega))
  · go_enter Try.func11, Try.ntmps11
    go_upto_region 2 with (first | ((with_reducible show wpList _ _ _ (⟨some 2, _, _, _, _, _⟩ :: _) _ _); refine wpList_alloc rfl 29 rfl zero64 ?_; rw [show (Value.agg (arr 64 z8)).cells = arr 64 z8 from rfl]) | ((with_reducible show wpList _ _ _ (⟨some 4, _, _, _, _, _⟩ :: _) _ _); refine wpList_alloc rfl 29 rfl zero64 ?_; rw [show (Value.agg (arr 64 z8)).cells = arr 64 z8 from rfl]))
    obtain ⟨W, hW⟩ : ∃ W, W = ((w.alloc (.cells #[.int .u8 op, .int .u8 fused, .bool true, .int .u16 id, .int .u32 nsid, .int .u32 c2, .int .u32 c3, .int .u64 mt, .int .u64 d0, .int .u64 d1', .int .u32 x0, .int .u32 x1, .int .u32 x2, .int .u32 x3, .int .u32 x4, .int .u32 x5] 28)).alloc (.cells (arr 64 z8) 29)).alloc (.cells (arr 64 z8) 29) := ⟨_, rfl⟩
    rw [← hW]
    obtain ⟨h1, h2, h3, h4⟩ := HS.out _ hW
    have b0 : W.cell? ⟨w.heap.size, 0, none⟩ = some (.int .u8 op) := World.rowIs.cell h1 (i := 0) (by omega)
    have b1 : W.cell? ⟨w.heap.size, 1, none⟩ = some (.int .u8 fused) := World.rowIs.cell h1 (i := 1) (by omega)
    have b2 : W.cell? ⟨w.heap.size, 2, none⟩ = some (.bool true) := World.rowIs.cell h1 (i := 2) (by omega)
    have b3 : W.cell? ⟨w.heap.size, 3, none⟩ = some (.int .u16 id) := World.rowIs.cell h1 (i := 3) (by omega)
    have b4 : W.cell? ⟨w.heap.size, 4, none⟩ = some (.int .u32 nsid) := World.rowIs.cell h1 (i := 4) (by omega)
    have b5 : W.cell? ⟨w.heap.size, 5, none⟩ = some (.int .u32 c2) := World.rowIs.cell h1 (i := 5) (by omega)
    have b6 : W.cell? ⟨w.heap.size, 6, none⟩ = some (.int .u32 c3) := World.rowIs.cell h1 (i := 6) (by omega)
    have b7 : W.cell? ⟨w.heap.size, 7, none⟩ = some (.int .u64 mt) := World.rowIs.cell h1 (i := 7) (by omega)
    have b8 : W.cell? ⟨w.heap.size, 8, none⟩ = some (.int .u64 d0) := World.rowIs.cell h1 (i := 8) (by omega)
    have b9 : W.cell? ⟨w.heap.size, 9, none⟩ = some (.int .u64 d1') := World.rowIs.cell h1 (i := 9) (by omega)
    have b10 : W.cell? ⟨w.heap.size, 10, none⟩ = some (.int .u32 x0) := World.rowIs.cell h1 (i := 10) (by omega)
    have b11 : W.cell? ⟨w.heap.size, 11, none⟩ = some (.int .u32 x1) := World.rowIs.cell h1 (i := 11) (by omega)
    have b12 : W.cell? ⟨w.heap.size, 12, none⟩ = some (.int .u32 x2) := World.rowIs.cell h1 (i := 12) (by omega)
    have b13 : W.cell? ⟨w.heap.size, 13, none⟩ = some (.int .u32 x3) := World.rowIs.cell h1 (i := 13) (by omega)
    have b14 : W.cell? ⟨w.heap.size, 14, none⟩ = some (.int .u32 x4) := World.rowIs.cell h1 (i := 14) (by omega)
    have b15 : W.cell? ⟨w.heap.size, 15, none⟩ = some (.int .u32 x5) := World.rowIs.cell h1 (i := 15) (by omega)
    have y0 : W.cell? ⟨w.heap.size + 1 + 1, 0, none⟩ = some (.int .u8 0) := World.rowIs.cell h3 (i := 0) (by omega)
    have z0 : W.frozen? ⟨w.heap.size + 1 + 1, 0, none⟩ = false := h3.frozen 0
    have y1 : W.cell? ⟨w.heap.size + 1 + 1, 1, none⟩ = some (.int .u8 0) := World.rowIs.cell h3 (i := 1) (by omega)
    have z1 : W.frozen? ⟨w.heap.size + 1 + 1, 1, none⟩ = false := h3.frozen 1
    have y2 : W.cell? ⟨w.heap.size + 1 + 1, 2, none⟩ = some (.int .u8 0) := World.rowIs.cell h3 (i := 2) (by omega)
    have z2 : W.frozen? ⟨w.heap.size + 1 + 1, 2, none⟩ = false := h3.frozen 2
    have y3 : W.cell? ⟨w.heap.size + 1 + 1, 3, none⟩ = some (.int .u8 0) := World.rowIs.cell h3 (i := 3) (by omega)
    have z3 : W.frozen? ⟨w.heap.size + 1 + 1, 3, none⟩ = false := h3.frozen 3
    have H2 := Lib.hid h2
    have H3 := Lib.hid h3
    have HB := Lib.hid h4
    have h7 : w.heap.size + 1 + 1 < W.heap.size := h3.lt
    clear h1 h2 h3 h4 hW
    have e7 : IntKind.u16.wrap (id.tdiv 256) = id / 256 := by rw [Int.tdiv_eq_ediv_of_nonneg (by omega)]; exact IntWalk.u16_in _ (by omega)
    go_wp2_with fail
    go_region
    go_wp2_with fail
    obtain ⟨W1, hW1⟩ : ∃ W1, W1 = ((((((W.setCell ⟨w.heap.size + 1 + 1, 0, none⟩ (.int .u8 op)).setCell ⟨w.heap.size + 1 + 1, 1, none⟩ (.int .u8 fused)).setCell ⟨w.heap.size + 1 + 1, 1, none⟩ (.int .u8 (fused + 64))).setCell ⟨w.heap.size + 1 + 1, 2, none⟩ (.int .u8 (id % 256))).setCell ⟨w.heap.size + 1 + 1, 3, none⟩ (.int .u8 (id / 256))).alloc (.cells #[.int .u32 nsid, .int .u32 c2, .int .u32 c3, .int .u32 (mt % 4294967296), .int .u32 (mt / 4294967296), .int .u32 (d0 % 4294967296), .int .u32 (d0 / 4294967296), .int .u32 (d1' % 4294967296), .int .u32 (d1' / 4294967296), .int .u32 x0, .int .u32 x1, .int .u32 x2, .int .u32 x3, .int .u32 x4, .int .u32 x5] 23)).drew := ⟨_, rfl⟩
    rw [← hW1]
    have hk1 : Keeps (One (w.heap.size + 1 + 1)) W W1 := by rw [hW1]; exact (((((((Keeps.refl _ W).set1 _ _).set1 _ _).set1 _ _).set1 _ _).set1 _ _).alloc _).drew
    have hr1 : W1.rowIs (w.heap.size + 1 + 1) 29 64 (refF C 0) := by
      rw [hW1]
      refine (World.rowIs.drew (World.rowIs.alloc (World.rowIs.set (World.rowIs.set (World.rowIs.set (World.rowIs.set (World.rowIs.set H3.out 0 _) 1 _) 1 _) 2 _) 3 _) _)).congr fun j hj => ?_
      rw [HCC.out]
      unfold refF hb4 z8
      by_cases e0 : j = 0
      · subst e0; simp
      · by_cases e1 : j = 1
        · subst e1; simp
        · by_cases e2 : j = 2
          · subst e2; simp
          · by_cases e3 : j = 3
            · subst e3; simp
            · have e4 : ¬ j < 4 := by omega
              simp [e0, e1, e2, e3, e4]
    have hl1 : W1.rowIs W.heap.size 23 15 (fun i => .int .u32 (dw C i)) := by
      rw [hW1, HCC.out]
      have hsz : (((((W.setCell ⟨w.heap.size + 1 + 1, 0, none⟩ (.int .u8 op)).setCell ⟨w.heap.size + 1 + 1, 1, none⟩ (.int .u8 fused)).setCell ⟨w.heap.size + 1 + 1, 1, none⟩ (.int .u8 (fused + 64))).setCell ⟨w.heap.size + 1 + 1, 2, none⟩ (.int .u8 (id % 256))).setCell ⟨w.heap.size + 1 + 1, 3, none⟩ (.int .u8 (id / 256))).heap.size = W.heap.size := by simp
      have := World.rowIs_alloc (((((W.setCell ⟨w.heap.size + 1 + 1, 0, none⟩ (.int .u8 op)).setCell ⟨w.heap.size + 1 + 1, 1, none⟩ (.int .u8 fused)).setCell ⟨w.heap.size + 1 + 1, 1, none⟩ (.int .u8 (fused + 64))).setCell ⟨w.heap.size + 1 + 1, 2, none⟩ (.int .u8 (id % 256))).setCell ⟨w.heap.size + 1 + 1, 3, none⟩ (.int .u8 (id / 256))) #[.int .u32 nsid, .int .u32 c2, .int .u32 c3, .int .u32 (mt % 4294967296), .int .u32 (mt / 4294967296), .int .u32 (d0 % 4294967296), .int .u32 (d0 / 4294967296), .int .u32 (d1' % 4294967296), .int .u32 (d1' / 4294967296), .int .u32 x0, .int .u32 x1, .int .u32 x2, .int .u32 x3, .int .u32 x4, .int .u32 x5] 23 (fun i => .int .u32 (dw ⟨op, fused, true, id, nsid, c2, c3, mt, d0, d1', x0, x1, x2, x3, x4, x5⟩ i)) (fun i hi => by
        match i, hi with
        | 0, _ => rfl
        | 1, _ => rfl
        | 2, _ => rfl
        | 3, _ => rfl
        | 4, _ => rfl
        | 5, _ => rfl
        | 6, _ => rfl
        | 7, _ => rfl
        | 8, _ => rfl
        | 9, _ => rfl
        | 10, _ => rfl
        | 11, _ => rfl
        | 12, _ => rfl
        | 13, _ => rfl
        | 14, _ => rfl)
      rw [hsz] at this
      exact World.rowIs.drew this
    have HB1 := Lib.hid (HB.out.trans (hk1.below HB.out.size (fun j hj e => by have e : j = w.heap.size + 1 + 1 := e; omega)))
    have HR1 := Lib.hid hr1
    have HL1 := Lib.hid hl1
    have H21 := Lib.hid (hk1.rowIs H2.out (fun e => by have e : w.heap.size + 1 = w.heap.size + 1 + 1 := e; omega))
    clear hW1 hk1 hr1 hl1 b0 b1 b2 b3 b4 b5 b6 b7 b8 b9 b10 b11 b12 b13 b14 b15 y0 z0 y1 z1 y2 z2 y3 z3 e7
    go_loopw [6, 7] (fun i _ wr => ∃ n : Nat, n ≤ 15 ∧ i = .int .i64 n ∧ Keeps (One (w.heap.size + 1 + 1)) W1 wr ∧ wr.rowIs (w.heap.size + 1 + 1) 29 64 (refF C (4 * n))) (fun i _ _ => 15 - (intOf i).toNat)
    case atStart => exact ⟨0, Nat.zero_le _, rfl, Keeps.refl _ _, HR1.out⟩
    case round =>
      obtain ⟨n, hn, rfl, hkn, hrn⟩ := hrel
      obtain ⟨wo, rfl⟩ : ∃ wo : World, wo = wr := ⟨_, rfl⟩
      have HKN := Lib.hid hkn
      have HRN := Lib.hid hrn
      clear hkn hrn
      by_cases hlt : n < 15
      · go_wp2_with fail
        go_loopw [7] (fun i wr => ∃ k : Nat, k ≤ 4 ∧ i = .int .i64 k ∧ Keeps (One (w.heap.size + 1 + 1)) W1 wr ∧ wr.rowIs (w.heap.size + 1 + 1) 29 64 (refF C (4 * n + k))) (fun i _ => 4 - (intOf i).toNat)
        case atStart => exact ⟨0, Nat.zero_le _, rfl, HKN.out, HRN.out⟩
        case round =>
          obtain ⟨k, hk, rfl, hkk, hrk⟩ := hrel
          have HKK := Lib.hid hkk
          have HRK := Lib.hid hrk
          clear hkk hrk
          by_cases hlk : k < 4
          · have c0 := HKK.out.cell (HL1.out.cell (i := n) hlt) (fun e => by have e : W.heap.size = w.heap.size + 1 + 1 := e; omega)
            obtain ⟨v1, v2⟩ := dw_bd C HOK.out n
            obtain ⟨v, hv⟩ : ∃ v, v = dw C n := ⟨_, rfl⟩
            rw [← hv] at c0 v1 v2
            have HV := Lib.hid hv
            clear hv
            have c1 := HRK.out.cell (i := 4 + (4 * n + k)) (by omega)
            have f1 := HRK.out.frozen (4 + (4 * n + k))
            have e1 : IntKind.i64.wrap (4 * (n : Int)) = 4 * (n : Int) := IntWalk.i64_in _ (by omega)
            have e2 : IntKind.i64.wrap (4 + 4 * (n : Int)) = 4 + 4 * (n : Int) := IntWalk.i64_in _ (by omega)
            have e3 : IntKind.i64.wrap (4 + 4 * (n : Int) + (k : Int)) = 4 + 4 * (n : Int) + (k : Int) := IntWalk.i64_in _ (by omega)
            have e4 : IntKind.i64.wrap (8 * (k : Int)) = 8 * (k : Int) := IntWalk.i64_in _ (by omega)
            have e5 : (4 + 4 * (n : Int) + (k : Int)).toNat = 4 + (4 * n + k) := by omega
            go_wp2_with fail
            go_roundw
            case rel =>
              refine ⟨k + 1, by omega, by go_num, HKK.out.set1 _ _, (HRK.out.set (4 + (4 * n + k)) _).congr fun j _ => ?_⟩
              rw [HV.out]
              exact refF_step C n k j hlk
            case measure => simp [intOf]; omega
          · obtain rfl : k = 4 := by omega
            go_wp2_with fail
            go_roundw
            case rel => exact ⟨n + 1, by omega, by go_num, HKK.out, HRK.out⟩
            case measure => simp [intOf]; omega
      · obtain rfl : n = 15 := by omega
        have hkeep := HKN.out.below (B := w.heap.size) HB1.out.size (fun j hj e => by have e : j = w.heap.size + 1 + 1 := e; omega)
        have HBR := Lib.hid (HB1.out.trans hkeep)
        have H2R := Lib.hid (HKN.out.rowIs H21.out (fun e => by have e : w.heap.size + 1 = w.heap.size + 1 + 1 := e; omega))
        have hrow : wo.rowIs (w.heap.size + 1 + 1) 29 64 (fun j => .int .u8 (cmdB C j)) := HRN.out.congr fun j hj => refF_end C j hj
        have hone : (arr 64 fun j => Value.int .u8 (cmdB C j)).all (·.oneCell') = true := arr_one fun _ _ => rfl
        have HRA := Lib.hid (rowIs_range0 hrow)
        have HTH := Lib.hid (rowIs_there H2R.out 0 64 (by omega))
        have HONE := Lib.hid hone
        clear hkeep hrow hone
        go_wp2_with (first | ((with_reducible show wpList _ _ _ (⟨some 109, _, _, _, _, _⟩ :: _) _ _); refine wpList_load_mid rfl 29 (.tmp 4) rfl (w.heap.size + 1 + 1) 0 rfl (arr 64 fun j => Value.int .u8 (cmdB C j)).toList _ HRA.out Try.underlying29 rfl (by rw [size64]; simp [arr]) ?_) |
          ((with_reducible show wpList _ _ _ (⟨none, _, _, _, _, _⟩ :: _) _ _); refine wpList_store_mid rfl 29 (.tmp 2) (.tmp 109) rfl (w.heap.size + 1) 0 (arr 64 fun j => Value.int .u8 (cmdB C j)) rfl (by simp [Act.eval, Act.put]) (by rw [arr_size]; exact HTH.out) (by rw [size64, arr_size]) HONE.out ?_))
        refine bodyPost_ret (results64 rfl _ _ _ _ (fun j => Value.int .u8 (cmdB C j)) _ (rowIs_store H2R.out) rfl rfl) rfl ⟨rfl, ?_⟩
        exact HBR.out.trans ((Keeps.setCells _ (Keeps.refl (One (w.heap.size + 1)) wo) 0).below (B := w.heap.size) HBR.out.size (fun k hk e => by have e : k = w.heap.size + 1 := e; omega))
end Go.Proofs.Ytggdjadhenamiaa
