/- completion: the reference's Encode. -/
import Derived.Test.YtiinjjfggmmkmaaCplE
import Derived.BigRegion
namespace Go.Proofs.Ytiinjjfggmmkmaa
set_option linter.unusedVariables false
set_option linter.unusedSimpArgs false
open Go.RowKit

/-- The three blocks that the reference's Encode makes first. -/
theorem rpencode_start (c : Cpl) (w W : World) (hW : W = ((w.alloc (.cells c.cells 40)).alloc (.cells (arr 16 z16) 41)).alloc (.cells (arr 16 z16) 41)) :
    W.rowIs w.heap.size 40 10 (fun i => c.cells.getD i undef) ∧ W.rowIs (w.heap.size + 1) 41 16 z16 ∧ W.rowIs (w.heap.size + 1 + 1) 41 16 z16 ∧ Below w.heap.size w W := by
  obtain ⟨h1, h2, h3, h4⟩ := pencode_start c w _ rfl
  have h5 := rowIs_arr ((w.alloc (.cells c.cells 40)).alloc (.cells (arr 16 z16) 41)) 41 16 z16
  rw [h4, ← hW] at h5
  rw [hW]
  exact ⟨World.rowIs.alloc h1 _, h2.alloc _, by rw [← hW]; exact h5, h3.alloc h3.size _⟩

set_option maxRecDepth 100000 in
set_option maxHeartbeats 2000000 in
theorem rpencode_err (c : Cpl) (w : World) (hf : 7 < c.ty) :
   Calls Try.prog 17 #[c.v] w fun e w' => e = .returned (.tuple #[.agg (arr 16 z16), .int .i64 2]) ∧ Below w.heap.size w w' := by
  have HS := Lib.hid (rpencode_start c w)
  have d1 : decide ((7 : Int) < c.ty) = true := by simpa using hf
  obtain ⟨r0, r1, head, queue, id, ph, ty, code, more, never⟩ := c
  unfold Cpl.v Cpl.cells at *
  simp only [] at *
  go_enter Try.func17, Try.ntmps17
  go_upto_region 2 with (first | ((with_reducible show wpList _ _ _ (⟨some 2, _, _, _, _, _⟩ :: _) _ _); refine wpList_alloc rfl 41 rfl zero16 ?_; rw [show (Value.agg (arr 16 z16)).cells = arr 16 z16 from rfl]) | ((with_reducible show wpList _ _ _ (⟨some 4, _, _, _, _, _⟩ :: _) _ _); refine wpList_alloc rfl 41 rfl zero16 ?_; rw [show (Value.agg (arr 16 z16)).cells = arr 16 z16 from rfl]))
  obtain ⟨W, hW⟩ : ∃ W, W = ((w.alloc (.cells #[.int .u32 r0, .int .u32 r1, .int .u16 head, .int .u16 queue, .int .u16 id, .bool ph, .int .u8 ty, .int .u8 code, .bool more, .bool never] 40)).alloc (.cells (arr 16 z16) 41)).alloc (.cells (arr 16 z16) 41) := ⟨_, rfl⟩
  rw [← hW]
  obtain ⟨h1, h2, h3, h4⟩ := HS.out _ hW
  have b6 : W.cell? ⟨w.heap.size, 6, none⟩ = some (.int .u8 ty) := World.rowIs.cell h1 (i := 6) (by omega)
  have H2 := Lib.hid h2
  have HB := Lib.hid h4
  have HRA := Lib.hid (rowIs_range0 h3)
  have HTH := Lib.hid (rowIs_there h2 0 16 (by omega))
  clear h1 h2 h3 h4 hW
  go_wp2_with (first | ((with_reducible show wpList _ _ _ (⟨some 11, _, _, _, _, _⟩ :: _) _ _); refine wpList_load_mid rfl 41 (.tmp 4) rfl (w.heap.size + 1 + 1) 0 rfl (arr 16 z16).toList _ HRA.out Try.underlying41 rfl (by rw [size16]; simp [arr]) ?_) |
    ((with_reducible show wpList _ _ _ (⟨none, _, _, _, _, _⟩ :: _) _ _); refine wpList_store_mid rfl 41 (.tmp 2) (.tmp 11) rfl (w.heap.size + 1) 0 (arr 16 z16) rfl (by simp [Act.eval, Act.put]) (by rw [arr_size]; exact HTH.out) (by rw [size16, arr_size]) z16_one ?_))
  refine bodyPost_ret (results16 rfl _ _ _ _ z16 _ (rowIs_store H2.out) rfl rfl) rfl ⟨rfl, ?_⟩
  exact HB.out.trans ((Keeps.setCells _ (Keeps.refl (One (w.heap.size + 1)) W) 0).below (B := w.heap.size) HB.out.size (fun k hk e => by have e : k = w.heap.size + 1 := e; omega))

/-- an entry of which the results' first k bytes have been written -/
def rpF (c : Cpl) (k : Nat) (j : Nat) : Value := if j < k then .int .u8 (byteOf c.r0 j) else if 4 ≤ j ∧ j < 4 + k then .int .u8 (byteOf c.r1 (j - 4)) else .int .u8 0

theorem rpF_step (c : Cpl) (k j : Nat) (hk : k < 4) : (if j = 4 + k then Value.int .u8 (c.r1 / 2 ^ (8 * k) % 256) else if j = k then Value.int .u8 (c.r0 / 2 ^ (8 * k) % 256) else rpF c k j) = rpF c (k + 1) j := by
  unfold rpF byteOf
  by_cases e1 : j = 4 + k
  · subst e1
    have h1 : ¬ 4 + k < k + 1 := by omega
    have h2 : 4 ≤ 4 + k ∧ 4 + k < 4 + (k + 1) := by omega
    have h3 : 4 + k - 4 = k := by omega
    simp [h1, h2, h3]
  · by_cases e2 : j = k
    · subst e2
      have h1 : j < j + 1 := by omega
      simp [h1]
    · by_cases h1 : j < k
      · have h2 : j < k + 1 := by omega
        simp [e1, e2, h1, h2]
      · have h2 : ¬ j < k + 1 := by omega
        by_cases h3 : 4 ≤ j ∧ j < 4 + k
        · have h4 : 4 ≤ j ∧ j < 4 + (k + 1) := by omega
          simp [e1, e2, h1, h2, h3, h4]
        · have h4 : ¬ (4 ≤ j ∧ j < 4 + (k + 1)) := by omega
          simp [e1, e2, h1, h2, h3, h4]

set_option maxRecDepth 100000 in
set_option maxHeartbeats 4000000 in
theorem rpencode_ok (c : Cpl) (w : World) (hok : c.Ok) (hf : c.ty ≤ 7) :
   Calls Try.prog 17 #[c.v] w fun e w' => e = .returned (.tuple #[cplA c, .int .i64 0]) ∧ Below w.heap.size w w' := by
  have HS := Lib.hid (rpencode_start c w)
  have HOK := Lib.hid hok
  have d1 : decide ((7 : Int) < c.ty) = false := by simpa using hf
  obtain ⟨r0, r1, head, queue, id, ph, ty, code, more, never⟩ := c
  obtain ⟨C, hC⟩ : ∃ C, C = Cpl.mk r0 r1 head queue id ph ty code more never := ⟨_, rfl⟩
  rw [← hC]
  have hCv : C.v = .agg #[.int .u32 r0, .int .u32 r1, .int .u16 head, .int .u16 queue, .int .u16 id, .bool ph, .int .u8 ty, .int .u8 code, .bool more, .bool never] := by rw [hC]; rfl
  rw [hCv]
  have hsw : bv ph 1 + code * 2 + ty * 512 + bv more 16384 + bv never 32768 = sword C := by rw [hC]; rfl
  have hf7 : C.ty ≤ 7 := by rw [hC]; exact hf
  have hv0 : C.r0 = r0 ∧ C.r1 = r1 ∧ C.head = head ∧ C.queue = queue ∧ C.id = id := by rw [hC]; exact ⟨rfl, rfl, rfl, rfl, rfl⟩
  rw [← hC] at HOK
  unfold Cpl.cells at HS
  simp only [] at *
  obtain ⟨a1, a2⟩ := hok.ty
  obtain ⟨a3, a4⟩ := hok.code
  obtain ⟨n1, n2⟩ := hok.r0
  obtain ⟨n3, n4⟩ := hok.r1
  obtain ⟨n5, n6⟩ := hok.head
  obtain ⟨n7, n8⟩ := hok.queue
  obtain ⟨n9, n10⟩ := hok.id
  simp only [] at a1 a2 a3 a4 n1 n2 n3 n4 n5 n6 n7 n8 n9 n10
  have HSW := Lib.hid hsw
  have HF7 := Lib.hid hf7
  have HV0 := Lib.hid hv0
  clear hok hC hCv hsw hv0 hf7
  go_enter Try.func17, Try.ntmps17
  go_upto_region 2 with (first | ((with_reducible show wpList _ _ _ (⟨some 2, _, _, _, _, _⟩ :: _) _ _); refine wpList_alloc rfl 41 rfl zero16 ?_; rw [show (Value.agg (arr 16 z16)).cells = arr 16 z16 from rfl]) | ((with_reducible show wpList _ _ _ (⟨some 4, _, _, _, _, _⟩ :: _) _ _); refine wpList_alloc rfl 41 rfl zero16 ?_; rw [show (Value.agg (arr 16 z16)).cells = arr 16 z16 from rfl]))
  obtain ⟨W, hW⟩ : ∃ W, W = ((w.alloc (.cells #[.int .u32 r0, .int .u32 r1, .int .u16 head, .int .u16 queue, .int .u16 id, .bool ph, .int .u8 ty, .int .u8 code, .bool more, .bool never] 40)).alloc (.cells (arr 16 z16) 41)).alloc (.cells (arr 16 z16) 41) := ⟨_, rfl⟩
  rw [← hW]
  obtain ⟨h1, h2, h3, h4⟩ := HS.out _ hW
  have b6 : W.cell? ⟨w.heap.size, 6, none⟩ = some (.int .u8 ty) := World.rowIs.cell h1 (i := 6) (by omega)
  have H1 := Lib.hid h1
  have H2 := Lib.hid h2
  have H3 := Lib.hid h3
  have HB := Lib.hid h4
  clear h1 h2 h3 h4 hW
  go_wp2_with fail
  clear b6
  go_loopw [5] (fun i wr => ∃ k : Nat, k ≤ 4 ∧ i = .int .i64 k ∧ Keeps (One (w.heap.size + 1 + 1)) W wr ∧ wr.rowIs (w.heap.size + 1 + 1) 41 16 (rpF C k)) (fun i _ => 4 - (intOf i).toNat)
  case atStart => exact ⟨0, Nat.zero_le _, rfl, Keeps.refl _ _, H3.out.congr fun j _ => by unfold rpF z16; rw [if_neg (by omega), if_neg (by omega)]⟩
  case round =>
    obtain ⟨k, hk, rfl, hkp, hrow⟩ := hrel
    have HK := Lib.hid hkp
    have HR := Lib.hid hrow
    clear hkp hrow
    have hN : ¬ One (w.heap.size + 1 + 1) w.heap.size := fun e => by have e : w.heap.size = w.heap.size + 1 + 1 := e; omega
    by_cases hlt : k < 4
    · have b0 : wr.cell? ⟨w.heap.size, 0, none⟩ = some (.int .u32 r0) := HK.out.cell (World.rowIs.cell H1.out (i := 0) (by omega)) hN
      have b1 : wr.cell? ⟨w.heap.size, 1, none⟩ = some (.int .u32 r1) := HK.out.cell (World.rowIs.cell H1.out (i := 1) (by omega)) hN
      have c1 := HR.out.cell (i := k) (by omega)
      have f1 := HR.out.frozen k
      have c2 := HR.out.cell (i := 4 + k) (by omega)
      have f2 := HR.out.frozen (4 + k)
      have e1 : IntKind.i64.wrap (4 + (k : Int)) = 4 + (k : Int) := IntWalk.i64_in _ (by omega)
      have e4 : IntKind.i64.wrap (8 * (k : Int)) = 8 * (k : Int) := IntWalk.i64_in _ (by omega)
      have e5 : (4 + (k : Int)).toNat = 4 + k := by omega
      go_wp2_with fail
      go_roundw
      case rel =>
        refine ⟨k + 1, by omega, by go_num, (HK.out.set1 _ _).set1 _ _, ((HR.out.set k _).set (4 + k) _).congr fun j _ => ?_⟩
        obtain ⟨g0, g1, -⟩ := HV0.out
        rw [← g0, ← g1]
        exact rpF_step C k j hlt
      case measure => simp [intOf]; omega
    · obtain rfl : k = 4 := by omega
      have b2 : wr.cell? ⟨w.heap.size, 2, none⟩ = some (.int .u16 head) := HK.out.cell (World.rowIs.cell H1.out (i := 2) (by omega)) hN
      have b3 : wr.cell? ⟨w.heap.size, 3, none⟩ = some (.int .u16 queue) := HK.out.cell (World.rowIs.cell H1.out (i := 3) (by omega)) hN
      have b4 : wr.cell? ⟨w.heap.size, 4, none⟩ = some (.int .u16 id) := HK.out.cell (World.rowIs.cell H1.out (i := 4) (by omega)) hN
      have b5 : wr.cell? ⟨w.heap.size, 5, none⟩ = some (.bool ph) := HK.out.cell (World.rowIs.cell H1.out (i := 5) (by omega)) hN
      have b6 : wr.cell? ⟨w.heap.size, 6, none⟩ = some (.int .u8 ty) := HK.out.cell (World.rowIs.cell H1.out (i := 6) (by omega)) hN
      have b7 : wr.cell? ⟨w.heap.size, 7, none⟩ = some (.int .u8 code) := HK.out.cell (World.rowIs.cell H1.out (i := 7) (by omega)) hN
      have b8 : wr.cell? ⟨w.heap.size, 8, none⟩ = some (.bool more) := HK.out.cell (World.rowIs.cell H1.out (i := 8) (by omega)) hN
      have b9 : wr.cell? ⟨w.heap.size, 9, none⟩ = some (.bool never) := HK.out.cell (World.rowIs.cell H1.out (i := 9) (by omega)) hN
      have y8 := HR.out.cell (i := 8) (by omega)
      have z8 := HR.out.frozen 8
      have y8 : wr.cell? ⟨w.heap.size + 1 + 1, 8, none⟩ = some (.int .u8 0) := y8
      have y9 := HR.out.cell (i := 9) (by omega)
      have z9 := HR.out.frozen 9
      have y9 : wr.cell? ⟨w.heap.size + 1 + 1, 9, none⟩ = some (.int .u8 0) := y9
      have y10 := HR.out.cell (i := 10) (by omega)
      have z10 := HR.out.frozen 10
      have y10 : wr.cell? ⟨w.heap.size + 1 + 1, 10, none⟩ = some (.int .u8 0) := y10
      have y11 := HR.out.cell (i := 11) (by omega)
      have z11 := HR.out.frozen 11
      have y11 : wr.cell? ⟨w.heap.size + 1 + 1, 11, none⟩ = some (.int .u8 0) := y11
      have y12 := HR.out.cell (i := 12) (by omega)
      have z12 := HR.out.frozen 12
      have y12 : wr.cell? ⟨w.heap.size + 1 + 1, 12, none⟩ = some (.int .u8 0) := y12
      have y13 := HR.out.cell (i := 13) (by omega)
      have z13 := HR.out.frozen 13
      have y13 : wr.cell? ⟨w.heap.size + 1 + 1, 13, none⟩ = some (.int .u8 0) := y13
      have y14 := HR.out.cell (i := 14) (by omega)
      have z14 := HR.out.frozen 14
      have y14 : wr.cell? ⟨w.heap.size + 1 + 1, 14, none⟩ = some (.int .u8 0) := y14
      have y15 := HR.out.cell (i := 15) (by omega)
      have z15 := HR.out.frozen 15
      have y15 : wr.cell? ⟨w.heap.size + 1 + 1, 15, none⟩ = some (.int .u8 0) := y15
      have e7 : IntKind.u16.wrap (head.tdiv 256) = head / 256 := by rw [Int.tdiv_eq_ediv_of_nonneg (by omega)]; exact IntWalk.u16_in _ (by omega)
      have e8 : IntKind.u16.wrap (queue.tdiv 256) = queue / 256 := by rw [Int.tdiv_eq_ediv_of_nonneg (by omega)]; exact IntWalk.u16_in _ (by omega)
      have e9 : IntKind.u16.wrap (id.tdiv 256) = id / 256 := by rw [Int.tdiv_eq_ediv_of_nonneg (by omega)]; exact IntWalk.u16_in _ (by omega)
      have hls : w.heap.size + 1 + 1 < wr.heap.size := HR.out.lt
      go_wp2_with fail
      go_region
      go_wp2_with fail
      go_region
      go_wp2_with fail
      go_region
      cases ph <;> cases more <;> cases never
      · go_upto_region 20 with fail
        obtain ⟨w5, hw5⟩ : ∃ w5, w5 = ((((((((wr.setCell ⟨w.heap.size + 1 + 1, 8, none⟩ (.int .u8 (head % 256))).setCell ⟨w.heap.size + 1 + 1, 9, none⟩ (.int .u8 (head / 256))).setCell ⟨w.heap.size + 1 + 1, 10, none⟩ (.int .u8 (queue % 256))).setCell ⟨w.heap.size + 1 + 1, 11, none⟩ (.int .u8 (queue / 256))).setCell ⟨w.heap.size + 1 + 1, 12, none⟩ (.int .u8 (id % 256))).setCell ⟨w.heap.size + 1 + 1, 13, none⟩ (.int .u8 (id / 256))).setCell ⟨w.heap.size + 1 + 1, 14, none⟩ (.int .u8 ((2 * code + 512 * ty) % 256))).setCell ⟨w.heap.size + 1 + 1, 15, none⟩ (.int .u8 ((2 * code + 512 * ty) / 256))).drew.drew.drew := ⟨_, rfl⟩
        rw [← hw5]
        have hk5 : Keeps (One (w.heap.size + 1 + 1)) W w5 := by rw [hw5]; exact ((((((((HK.out.set1 _ _).set1 _ _).set1 _ _).set1 _ _).set1 _ _).set1 _ _).set1 _ _).set1 _ _).drew.drew.drew
        have hs : (2 * code + 512 * ty) = sword C := by rw [← HSW.out]; simp [bv]; omega
        have hr5 : w5.rowIs (w.heap.size + 1 + 1) 41 16 (fun j => .int .u8 (cplB C j)) := by
          obtain ⟨g0, g1, g2, g3, g4⟩ := HV0.out
          rw [hw5, hs]
          have hsb := sword_bd C HOK.out HF7.out
          refine (((((((((HR.out.set 8 _).set 9 _).set 10 _).set 11 _).set 12 _).set 13 _).set 14 _).set 15 _).drew.drew.drew).congr fun j hj => ?_
          rw [← g2, ← g3, ← g4]
          rw [← g2] at n5 n6
          rw [← g3] at n7 n8
          rw [← g4] at n9 n10
          have hj' : j = 0 ∨ j = 1 ∨ j = 2 ∨ j = 3 ∨ j = 4 ∨ j = 5 ∨ j = 6 ∨ j = 7 ∨ j = 8 ∨ j = 9 ∨ j = 10 ∨ j = 11 ∨ j = 12 ∨ j = 13 ∨ j = 14 ∨ j = 15 := by omega
          rcases hj' with rfl | rfl | rfl | rfl | rfl | rfl | rfl | rfl | rfl | rfl | rfl | rfl | rfl | rfl | rfl | rfl
          all_goals first | rfl | (simp [cplB, byteOf]; done) | (simp [cplB, byteOf]; omega)
        have hb5 : Below w.heap.size w w5 := HB.out.trans (hk5.below HB.out.size (fun j hj e => by have e : j = w.heap.size + 1 + 1 := e; omega))
        have h25 := hk5.rowIs H2.out (fun e => by have e : w.heap.size + 1 = w.heap.size + 1 + 1 := e; omega)
        have hone : (arr 16 fun j => Value.int .u8 (cplB C j)).all (·.oneCell') = true := arr_one fun _ _ => rfl
        have HRA := Lib.hid (rowIs_range0 hr5)
        have HTH := Lib.hid (rowIs_there h25 0 16 (by omega))
        have HONE := Lib.hid hone
        have HB5 := Lib.hid hb5
        have H25 := Lib.hid h25
        clear hw5 hk5 hr5 hb5 h25 hone hs
        go_wp2_with (first | ((with_reducible show wpList _ _ _ (⟨some 98, _, _, _, _, _⟩ :: _) _ _); refine wpList_load_mid rfl 41 (.tmp 4) rfl (w.heap.size + 1 + 1) 0 rfl (arr 16 fun j => Value.int .u8 (cplB C j)).toList _ HRA.out Try.underlying41 rfl (by rw [size16]; simp [arr]) ?_) |
          ((with_reducible show wpList _ _ _ (⟨none, _, _, _, _, _⟩ :: _) _ _); refine wpList_store_mid rfl 41 (.tmp 2) (.tmp 98) rfl (w.heap.size + 1) 0 (arr 16 fun j => Value.int .u8 (cplB C j)) rfl (by simp [Act.eval, Act.put]) (by rw [arr_size]; exact HTH.out) (by rw [size16, arr_size]) HONE.out ?_))
        refine bodyPost_ret (results16 rfl _ _ _ _ (fun j => Value.int .u8 (cplB C j)) _ (rowIs_store H25.out) rfl rfl) rfl ⟨rfl, ?_⟩
        exact HB5.out.trans ((Keeps.setCells _ (Keeps.refl (One (w.heap.size + 1)) w5) 0).below (B := w.heap.size) HB5.out.size (fun k hk e => by have e : k = w.heap.size + 1 := e; omega))
      · go_upto_region 20 with fail
        obtain ⟨w5, hw5⟩ : ∃ w5, w5 = ((((((((wr.setCell ⟨w.heap.size + 1 + 1, 8, none⟩ (.int .u8 (head % 256))).setCell ⟨w.heap.size + 1 + 1, 9, none⟩ (.int .u8 (head / 256))).setCell ⟨w.heap.size + 1 + 1, 10, none⟩ (.int .u8 (queue % 256))).setCell ⟨w.heap.size + 1 + 1, 11, none⟩ (.int .u8 (queue / 256))).setCell ⟨w.heap.size + 1 + 1, 12, none⟩ (.int .u8 (id % 256))).setCell ⟨w.heap.size + 1 + 1, 13, none⟩ (.int .u8 (id / 256))).setCell ⟨w.heap.size + 1 + 1, 14, none⟩ (.int .u8 ((2 * code + 512 * ty + 32768) % 256))).setCell ⟨w.heap.size + 1 + 1, 15, none⟩ (.int .u8 ((2 * code + 512 * ty + 32768) / 256))).drew.drew.drew := ⟨_, rfl⟩
        rw [← hw5]
        have hk5 : Keeps (One (w.heap.size + 1 + 1)) W w5 := by rw [hw5]; exact ((((((((HK.out.set1 _ _).set1 _ _).set1 _ _).set1 _ _).set1 _ _).set1 _ _).set1 _ _).set1 _ _).drew.drew.drew
        have hs : (2 * code + 512 * ty + 32768) = sword C := by rw [← HSW.out]; simp [bv]; omega
        have hr5 : w5.rowIs (w.heap.size + 1 + 1) 41 16 (fun j => .int .u8 (cplB C j)) := by
          obtain ⟨g0, g1, g2, g3, g4⟩ := HV0.out
          rw [hw5, hs]
          have hsb := sword_bd C HOK.out HF7.out
          refine (((((((((HR.out.set 8 _).set 9 _).set 10 _).set 11 _).set 12 _).set 13 _).set 14 _).set 15 _).drew.drew.drew).congr fun j hj => ?_
          rw [← g2, ← g3, ← g4]
          rw [← g2] at n5 n6
          rw [← g3] at n7 n8
          rw [← g4] at n9 n10
          have hj' : j = 0 ∨ j = 1 ∨ j = 2 ∨ j = 3 ∨ j = 4 ∨ j = 5 ∨ j = 6 ∨ j = 7 ∨ j = 8 ∨ j = 9 ∨ j = 10 ∨ j = 11 ∨ j = 12 ∨ j = 13 ∨ j = 14 ∨ j = 15 := by omega
          rcases hj' with rfl | rfl | rfl | rfl | rfl | rfl | rfl | rfl | rfl | rfl | rfl | rfl | rfl | rfl | rfl | rfl
          all_goals first | rfl | (simp [cplB, byteOf]; done) | (simp [cplB, byteOf]; omega)
        have hb5 : Below w.heap.size w w5 := HB.out.trans (hk5.below HB.out.size (fun j hj e => by have e : j = w.heap.size + 1 + 1 := e; omega))
        have h25 := hk5.rowIs H2.out (fun e => by have e : w.heap.size + 1 = w.heap.size + 1 + 1 := e; omega)
        have hone : (arr 16 fun j => Value.int .u8 (cplB C j)).all (·.oneCell') = true := arr_one fun _ _ => rfl
        have HRA := Lib.hid (rowIs_range0 hr5)
        have HTH := Lib.hid (rowIs_there h25 0 16 (by omega))
        have HONE := Lib.hid hone
        have HB5 := Lib.hid hb5
        have H25 := Lib.hid h25
        clear hw5 hk5 hr5 hb5 h25 hone hs
        go_wp2_with (first | ((with_reducible show wpList _ _ _ (⟨some 98, _, _, _, _, _⟩ :: _) _ _); refine wpList_load_mid rfl 41 (.tmp 4) rfl (w.heap.size + 1 + 1) 0 rfl (arr 16 fun j => Value.int .u8 (cplB C j)).toList _ HRA.out Try.underlying41 rfl (by rw [size16]; simp [arr]) ?_) |
          ((with_reducible show wpList _ _ _ (⟨none, _, _, _, _, _⟩ :: _) _ _); refine wpList_store_mid rfl 41 (.tmp 2) (.tmp 98) rfl (w.heap.size + 1) 0 (arr 16 fun j => Value.int .u8 (cplB C j)) rfl (by simp [Act.eval, Act.put]) (by rw [arr_size]; exact HTH.out) (by rw [size16, arr_size]) HONE.out ?_))
        refine bodyPost_ret (results16 rfl _ _ _ _ (fun j => Value.int .u8 (cplB C j)) _ (rowIs_store H25.out) rfl rfl) rfl ⟨rfl, ?_⟩
        exact HB5.out.trans ((Keeps.setCells _ (Keeps.refl (One (w.heap.size + 1)) w5) 0).below (B := w.heap.size) HB5.out.size (fun k hk e => by have e : k = w.heap.size + 1 := e; omega))
      · go_upto_region 20 with fail
        obtain ⟨w5, hw5⟩ : ∃ w5, w5 = ((((((((wr.setCell ⟨w.heap.size + 1 + 1, 8, none⟩ (.int .u8 (head % 256))).setCell ⟨w.heap.size + 1 + 1, 9, none⟩ (.int .u8 (head / 256))).setCell ⟨w.heap.size + 1 + 1, 10, none⟩ (.int .u8 (queue % 256))).setCell ⟨w.heap.size + 1 + 1, 11, none⟩ (.int .u8 (queue / 256))).setCell ⟨w.heap.size + 1 + 1, 12, none⟩ (.int .u8 (id % 256))).setCell ⟨w.heap.size + 1 + 1, 13, none⟩ (.int .u8 (id / 256))).setCell ⟨w.heap.size + 1 + 1, 14, none⟩ (.int .u8 ((2 * code + 512 * ty + 16384) % 256))).setCell ⟨w.heap.size + 1 + 1, 15, none⟩ (.int .u8 ((2 * code + 512 * ty + 16384) / 256))).drew.drew.drew := ⟨_, rfl⟩
        rw [← hw5]
        have hk5 : Keeps (One (w.heap.size + 1 + 1)) W w5 := by rw [hw5]; exact ((((((((HK.out.set1 _ _).set1 _ _).set1 _ _).set1 _ _).set1 _ _).set1 _ _).set1 _ _).set1 _ _).drew.drew.drew
        have hs : (2 * code + 512 * ty + 16384) = sword C := by rw [← HSW.out]; simp [bv]; omega
        have hr5 : w5.rowIs (w.heap.size + 1 + 1) 41 16 (fun j => .int .u8 (cplB C j)) := by
          obtain ⟨g0, g1, g2, g3, g4⟩ := HV0.out
          rw [hw5, hs]
          have hsb := sword_bd C HOK.out HF7.out
          refine (((((((((HR.out.set 8 _).set 9 _).set 10 _).set 11 _).set 12 _).set 13 _).set 14 _).set 15 _).drew.drew.drew).congr fun j hj => ?_
          rw [← g2, ← g3, ← g4]
          rw [← g2] at n5 n6
          rw [← g3] at n7 n8
          rw [← g4] at n9 n10
          have hj' : j = 0 ∨ j = 1 ∨ j = 2 ∨ j = 3 ∨ j = 4 ∨ j = 5 ∨ j = 6 ∨ j = 7 ∨ j = 8 ∨ j = 9 ∨ j = 10 ∨ j = 11 ∨ j = 12 ∨ j = 13 ∨ j = 14 ∨ j = 15 := by omega
          rcases hj' with rfl | rfl | rfl | rfl | rfl | rfl | rfl | rfl | rfl | rfl | rfl | rfl | rfl | rfl | rfl | rfl
          all_goals first | rfl | (simp [cplB, byteOf]; done) | (simp [cplB, byteOf]; omega)
        have hb5 : Below w.heap.size w w5 := HB.out.trans (hk5.below HB.out.size (fun j hj e => by have e : j = w.heap.size + 1 + 1 := e; omega))
        have h25 := hk5.rowIs H2.out (fun e => by have e : w.heap.size + 1 = w.heap.size + 1 + 1 := e; omega)
        have hone : (arr 16 fun j => Value.int .u8 (cplB C j)).all (·.oneCell') = true := arr_one fun _ _ => rfl
        have HRA := Lib.hid (rowIs_range0 hr5)
        have HTH := Lib.hid (rowIs_there h25 0 16 (by omega))
        have HONE := Lib.hid hone
        have HB5 := Lib.hid hb5
        have H25 := Lib.hid h25
        clear hw5 hk5 hr5 hb5 h25 hone hs
        go_wp2_with (first | ((with_reducible show wpList _ _ _ (⟨some 98, _, _, _, _, _⟩ :: _) _ _); refine wpList_load_mid rfl 41 (.tmp 4) rfl (w.heap.size + 1 + 1) 0 rfl (arr 16 fun j => Value.int .u8 (cplB C j)).toList _ HRA.out Try.underlying41 rfl (by rw [size16]; simp [arr]) ?_) |
          ((with_reducible show wpList _ _ _ (⟨none, _, _, _, _, _⟩ :: _) _ _); refine wpList_store_mid rfl 41 (.tmp 2) (.tmp 98) rfl (w.heap.size + 1) 0 (arr 16 fun j => Value.int .u8 (cplB C j)) rfl (by simp [Act.eval, Act.put]) (by rw [arr_size]; exact HTH.out) (by rw [size16, arr_size]) HONE.out ?_))
        refine bodyPost_ret (results16 rfl _ _ _ _ (fun j => Value.int .u8 (cplB C j)) _ (rowIs_store H25.out) rfl rfl) rfl ⟨rfl, ?_⟩
        exact HB5.out.trans ((Keeps.setCells _ (Keeps.refl (One (w.heap.size + 1)) w5) 0).below (B := w.heap.size) HB5.out.size (fun k hk e => by have e : k = w.heap.size + 1 := e; omega))
      · go_upto_region 20 with fail
        obtain ⟨w5, hw5⟩ : ∃ w5, w5 = ((((((((wr.setCell ⟨w.heap.size + 1 + 1, 8, none⟩ (.int .u8 (head % 256))).setCell ⟨w.heap.size + 1 + 1, 9, none⟩ (.int .u8 (head / 256))).setCell ⟨w.heap.size + 1 + 1, 10, none⟩ (.int .u8 (queue % 256))).setCell ⟨w.heap.size + 1 + 1, 11, none⟩ (.int .u8 (queue / 256))).setCell ⟨w.heap.size + 1 + 1, 12, none⟩ (.int .u8 (id % 256))).setCell ⟨w.heap.size + 1 + 1, 13, none⟩ (.int .u8 (id / 256))).setCell ⟨w.heap.size + 1 + 1, 14, none⟩ (.int .u8 ((2 * code + 512 * ty + 16384 + 32768) % 256))).setCell ⟨w.heap.size + 1 + 1, 15, none⟩ (.int .u8 ((2 * code + 512 * ty + 16384 + 32768) / 256))).drew.drew.drew := ⟨_, rfl⟩
        rw [← hw5]
        have hk5 : Keeps (One (w.heap.size + 1 + 1)) W w5 := by rw [hw5]; exact ((((((((HK.out.set1 _ _).set1 _ _).set1 _ _).set1 _ _).set1 _ _).set1 _ _).set1 _ _).set1 _ _).drew.drew.drew
        have hs : (2 * code + 512 * ty + 16384 + 32768) = sword C := by rw [← HSW.out]; simp [bv]; omega
        have hr5 : w5.rowIs (w.heap.size + 1 + 1) 41 16 (fun j => .int .u8 (cplB C j)) := by
          obtain ⟨g0, g1, g2, g3, g4⟩ := HV0.out
          rw [hw5, hs]
          have hsb := sword_bd C HOK.out HF7.out
          refine (((((((((HR.out.set 8 _).set 9 _).set 10 _).set 11 _).set 12 _).set 13 _).set 14 _).set 15 _).drew.drew.drew).congr fun j hj => ?_
          rw [← g2, ← g3, ← g4]
          rw [← g2] at n5 n6
          rw [← g3] at n7 n8
          rw [← g4] at n9 n10
          have hj' : j = 0 ∨ j = 1 ∨ j = 2 ∨ j = 3 ∨ j = 4 ∨ j = 5 ∨ j = 6 ∨ j = 7 ∨ j = 8 ∨ j = 9 ∨ j = 10 ∨ j = 11 ∨ j = 12 ∨ j = 13 ∨ j = 14 ∨ j = 15 := by omega
          rcases hj' with rfl | rfl | rfl | rfl | rfl | rfl | rfl | rfl | rfl | rfl | rfl | rfl | rfl | rfl | rfl | rfl
          all_goals first | rfl | (simp [cplB, byteOf]; done) | (simp [cplB, byteOf]; omega)
        have hb5 : Below w.heap.size w w5 := HB.out.trans (hk5.below HB.out.size (fun j hj e => by have e : j = w.heap.size + 1 + 1 := e; omega))
        have h25 := hk5.rowIs H2.out (fun e => by have e : w.heap.size + 1 = w.heap.size + 1 + 1 := e; omega)
        have hone : (arr 16 fun j => Value.int .u8 (cplB C j)).all (·.oneCell') = true := arr_one fun _ _ => rfl
        have HRA := Lib.hid (rowIs_range0 hr5)
        have HTH := Lib.hid (rowIs_there h25 0 16 (by omega))
        have HONE := Lib.hid hone
        have HB5 := Lib.hid hb5
        have H25 := Lib.hid h25
        clear hw5 hk5 hr5 hb5 h25 hone hs
        go_wp2_with (first | ((with_reducible show wpList _ _ _ (⟨some 98, _, _, _, _, _⟩ :: _) _ _); refine wpList_load_mid rfl 41 (.tmp 4) rfl (w.heap.size + 1 + 1) 0 rfl (arr 16 fun j => Value.int .u8 (cplB C j)).toList _ HRA.out Try.underlying41 rfl (by rw [size16]; simp [arr]) ?_) |
          ((with_reducible show wpList _ _ _ (⟨none, _, _, _, _, _⟩ :: _) _ _); refine wpList_store_mid rfl 41 (.tmp 2) (.tmp 98) rfl (w.heap.size + 1) 0 (arr 16 fun j => Value.int .u8 (cplB C j)) rfl (by simp [Act.eval, Act.put]) (by rw [arr_size]; exact HTH.out) (by rw [size16, arr_size]) HONE.out ?_))
        refine bodyPost_ret (results16 rfl _ _ _ _ (fun j => Value.int .u8 (cplB C j)) _ (rowIs_store H25.out) rfl rfl) rfl ⟨rfl, ?_⟩
        exact HB5.out.trans ((Keeps.setCells _ (Keeps.refl (One (w.heap.size + 1)) w5) 0).below (B := w.heap.size) HB5.out.size (fun k hk e => by have e : k = w.heap.size + 1 := e; omega))
      · go_upto_region 20 with fail
        obtain ⟨w5, hw5⟩ : ∃ w5, w5 = ((((((((wr.setCell ⟨w.heap.size + 1 + 1, 8, none⟩ (.int .u8 (head % 256))).setCell ⟨w.heap.size + 1 + 1, 9, none⟩ (.int .u8 (head / 256))).setCell ⟨w.heap.size + 1 + 1, 10, none⟩ (.int .u8 (queue % 256))).setCell ⟨w.heap.size + 1 + 1, 11, none⟩ (.int .u8 (queue / 256))).setCell ⟨w.heap.size + 1 + 1, 12, none⟩ (.int .u8 (id % 256))).setCell ⟨w.heap.size + 1 + 1, 13, none⟩ (.int .u8 (id / 256))).setCell ⟨w.heap.size + 1 + 1, 14, none⟩ (.int .u8 ((2 * code + 512 * ty + 1) % 256))).setCell ⟨w.heap.size + 1 + 1, 15, none⟩ (.int .u8 ((2 * code + 512 * ty + 1) / 256))).drew.drew.drew := ⟨_, rfl⟩
        rw [← hw5]
        have hk5 : Keeps (One (w.heap.size + 1 + 1)) W w5 := by rw [hw5]; exact ((((((((HK.out.set1 _ _).set1 _ _).set1 _ _).set1 _ _).set1 _ _).set1 _ _).set1 _ _).set1 _ _).drew.drew.drew
        have hs : (2 * code + 512 * ty + 1) = sword C := by rw [← HSW.out]; simp [bv]; omega
        have hr5 : w5.rowIs (w.heap.size + 1 + 1) 41 16 (fun j => .int .u8 (cplB C j)) := by
          obtain ⟨g0, g1, g2, g3, g4⟩ := HV0.out
          rw [hw5, hs]
          have hsb := sword_bd C HOK.out HF7.out
          refine (((((((((HR.out.set 8 _).set 9 _).set 10 _).set 11 _).set 12 _).set 13 _).set 14 _).set 15 _).drew.drew.drew).congr fun j hj => ?_
          rw [← g2, ← g3, ← g4]
          rw [← g2] at n5 n6
          rw [← g3] at n7 n8
          rw [← g4] at n9 n10
          have hj' : j = 0 ∨ j = 1 ∨ j = 2 ∨ j = 3 ∨ j = 4 ∨ j = 5 ∨ j = 6 ∨ j = 7 ∨ j = 8 ∨ j = 9 ∨ j = 10 ∨ j = 11 ∨ j = 12 ∨ j = 13 ∨ j = 14 ∨ j = 15 := by omega
          rcases hj' with rfl | rfl | rfl | rfl | rfl | rfl | rfl | rfl | rfl | rfl | rfl | rfl | rfl | rfl | rfl | rfl
          all_goals first | rfl | (simp [cplB, byteOf]; done) | (simp [cplB, byteOf]; omega)
        have hb5 : Below w.heap.size w w5 := HB.out.trans (hk5.below HB.out.size (fun j hj e => by have e : j = w.heap.size + 1 + 1 := e; omega))
        have h25 := hk5.rowIs H2.out (fun e => by have e : w.heap.size + 1 = w.heap.size + 1 + 1 := e; omega)
        have hone : (arr 16 fun j => Value.int .u8 (cplB C j)).all (·.oneCell') = true := arr_one fun _ _ => rfl
        have HRA := Lib.hid (rowIs_range0 hr5)
        have HTH := Lib.hid (rowIs_there h25 0 16 (by omega))
        have HONE := Lib.hid hone
        have HB5 := Lib.hid hb5
        have H25 := Lib.hid h25
        clear hw5 hk5 hr5 hb5 h25 hone hs
        go_wp2_with (first | ((with_reducible show wpList _ _ _ (⟨some 98, _, _, _, _, _⟩ :: _) _ _); refine wpList_load_mid rfl 41 (.tmp 4) rfl (w.heap.size + 1 + 1) 0 rfl (arr 16 fun j => Value.int .u8 (cplB C j)).toList _ HRA.out Try.underlying41 rfl (by rw [size16]; simp [arr]) ?_) |
          ((with_reducible show wpList _ _ _ (⟨none, _, _, _, _, _⟩ :: _) _ _); refine wpList_store_mid rfl 41 (.tmp 2) (.tmp 98) rfl (w.heap.size + 1) 0 (arr 16 fun j => Value.int .u8 (cplB C j)) rfl (by simp [Act.eval, Act.put]) (by rw [arr_size]; exact HTH.out) (by rw [size16, arr_size]) HONE.out ?_))
        refine bodyPost_ret (results16 rfl _ _ _ _ (fun j => Value.int .u8 (cplB C j)) _ (rowIs_store H25.out) rfl rfl) rfl ⟨rfl, ?_⟩
        exact HB5.out.trans ((Keeps.setCells _ (Keeps.refl (One (w.heap.size + 1)) w5) 0).below (B := w.heap.size) HB5.out.size (fun k hk e => by have e : k = w.heap.size + 1 := e; omega))
      · go_upto_region 20 with fail
        obtain ⟨w5, hw5⟩ : ∃ w5, w5 = ((((((((wr.setCell ⟨w.heap.size + 1 + 1, 8, none⟩ (.int .u8 (head % 256))).setCell ⟨w.heap.size + 1 + 1, 9, none⟩ (.int .u8 (head / 256))).setCell ⟨w.heap.size + 1 + 1, 10, none⟩ (.int .u8 (queue % 256))).setCell ⟨w.heap.size + 1 + 1, 11, none⟩ (.int .u8 (queue / 256))).setCell ⟨w.heap.size + 1 + 1, 12, none⟩ (.int .u8 (id % 256))).setCell ⟨w.heap.size + 1 + 1, 13, none⟩ (.int .u8 (id / 256))).setCell ⟨w.heap.size + 1 + 1, 14, none⟩ (.int .u8 ((2 * code + 512 * ty + 1 + 32768) % 256))).setCell ⟨w.heap.size + 1 + 1, 15, none⟩ (.int .u8 ((2 * code + 512 * ty + 1 + 32768) / 256))).drew.drew.drew := ⟨_, rfl⟩
        rw [← hw5]
        have hk5 : Keeps (One (w.heap.size + 1 + 1)) W w5 := by rw [hw5]; exact ((((((((HK.out.set1 _ _).set1 _ _).set1 _ _).set1 _ _).set1 _ _).set1 _ _).set1 _ _).set1 _ _).drew.drew.drew
        have hs : (2 * code + 512 * ty + 1 + 32768) = sword C := by rw [← HSW.out]; simp [bv]; omega
        have hr5 : w5.rowIs (w.heap.size + 1 + 1) 41 16 (fun j => .int .u8 (cplB C j)) := by
          obtain ⟨g0, g1, g2, g3, g4⟩ := HV0.out
          rw [hw5, hs]
          have hsb := sword_bd C HOK.out HF7.out
          refine (((((((((HR.out.set 8 _).set 9 _).set 10 _).set 11 _).set 12 _).set 13 _).set 14 _).set 15 _).drew.drew.drew).congr fun j hj => ?_
          rw [← g2, ← g3, ← g4]
          rw [← g2] at n5 n6
          rw [← g3] at n7 n8
          rw [← g4] at n9 n10
          have hj' : j = 0 ∨ j = 1 ∨ j = 2 ∨ j = 3 ∨ j = 4 ∨ j = 5 ∨ j = 6 ∨ j = 7 ∨ j = 8 ∨ j = 9 ∨ j = 10 ∨ j = 11 ∨ j = 12 ∨ j = 13 ∨ j = 14 ∨ j = 15 := by omega
          rcases hj' with rfl | rfl | rfl | rfl | rfl | rfl | rfl | rfl | rfl | rfl | rfl | rfl | rfl | rfl | rfl | rfl
          all_goals first | rfl | (simp [cplB, byteOf]; done) | (simp [cplB, byteOf]; omega)
        have hb5 : Below w.heap.size w w5 := HB.out.trans (hk5.below HB.out.size (fun j hj e => by have e : j = w.heap.size + 1 + 1 := e; omega))
        have h25 := hk5.rowIs H2.out (fun e => by have e : w.heap.size + 1 = w.heap.size + 1 + 1 := e; omega)
        have hone : (arr 16 fun j => Value.int .u8 (cplB C j)).all (·.oneCell') = true := arr_one fun _ _ => rfl
        have HRA := Lib.hid (rowIs_range0 hr5)
        have HTH := Lib.hid (rowIs_there h25 0 16 (by omega))
        have HONE := Lib.hid hone
        have HB5 := Lib.hid hb5
        have H25 := Lib.hid h25
        clear hw5 hk5 hr5 hb5 h25 hone hs
        go_wp2_with (first | ((with_reducible show wpList _ _ _ (⟨some 98, _, _, _, _, _⟩ :: _) _ _); refine wpList_load_mid rfl 41 (.tmp 4) rfl (w.heap.size + 1 + 1) 0 rfl (arr 16 fun j => Value.int .u8 (cplB C j)).toList _ HRA.out Try.underlying41 rfl (by rw [size16]; simp [arr]) ?_) |
          ((with_reducible show wpList _ _ _ (⟨none, _, _, _, _, _⟩ :: _) _ _); refine wpList_store_mid rfl 41 (.tmp 2) (.tmp 98) rfl (w.heap.size + 1) 0 (arr 16 fun j => Value.int .u8 (cplB C j)) rfl (by simp [Act.eval, Act.put]) (by rw [arr_size]; exact HTH.out) (by rw [size16, arr_size]) HONE.out ?_))
        refine bodyPost_ret (results16 rfl _ _ _ _ (fun j => Value.int .u8 (cplB C j)) _ (rowIs_store H25.out) rfl rfl) rfl ⟨rfl, ?_⟩
        exact HB5.out.trans ((Keeps.setCells _ (Keeps.refl (One (w.heap.size + 1)) w5) 0).below (B := w.heap.size) HB5.out.size (fun k hk e => by have e : k = w.heap.size + 1 := e; omega))
      · go_upto_region 20 with fail
        obtain ⟨w5, hw5⟩ : ∃ w5, w5 = ((((((((wr.setCell ⟨w.heap.size + 1 + 1, 8, none⟩ (.int .u8 (head % 256))).setCell ⟨w.heap.size + 1 + 1, 9, none⟩ (.int .u8 (head / 256))).setCell ⟨w.heap.size + 1 + 1, 10, none⟩ (.int .u8 (queue % 256))).setCell ⟨w.heap.size + 1 + 1, 11, none⟩ (.int .u8 (queue / 256))).setCell ⟨w.heap.size + 1 + 1, 12, none⟩ (.int .u8 (id % 256))).setCell ⟨w.heap.size + 1 + 1, 13, none⟩ (.int .u8 (id / 256))).setCell ⟨w.heap.size + 1 + 1, 14, none⟩ (.int .u8 ((2 * code + 512 * ty + 1 + 16384) % 256))).setCell ⟨w.heap.size + 1 + 1, 15, none⟩ (.int .u8 ((2 * code + 512 * ty + 1 + 16384) / 256))).drew.drew.drew := ⟨_, rfl⟩
        rw [← hw5]
        have hk5 : Keeps (One (w.heap.size + 1 + 1)) W w5 := by rw [hw5]; exact ((((((((HK.out.set1 _ _).set1 _ _).set1 _ _).set1 _ _).set1 _ _).set1 _ _).set1 _ _).set1 _ _).drew.drew.drew
        have hs : (2 * code + 512 * ty + 1 + 16384) = sword C := by rw [← HSW.out]; simp [bv]; omega
        have hr5 : w5.rowIs (w.heap.size + 1 + 1) 41 16 (fun j => .int .u8 (cplB C j)) := by
          obtain ⟨g0, g1, g2, g3, g4⟩ := HV0.out
          rw [hw5, hs]
          have hsb := sword_bd C HOK.out HF7.out
          refine (((((((((HR.out.set 8 _).set 9 _).set 10 _).set 11 _).set 12 _).set 13 _).set 14 _).set 15 _).drew.drew.drew).congr fun j hj => ?_
          rw [← g2, ← g3, ← g4]
          rw [← g2] at n5 n6
          rw [← g3] at n7 n8
          rw [← g4] at n9 n10
          have hj' : j = 0 ∨ j = 1 ∨ j = 2 ∨ j = 3 ∨ j = 4 ∨ j = 5 ∨ j = 6 ∨ j = 7 ∨ j = 8 ∨ j = 9 ∨ j = 10 ∨ j = 11 ∨ j = 12 ∨ j = 13 ∨ j = 14 ∨ j = 15 := by omega
          rcases hj' with rfl | rfl | rfl | rfl | rfl | rfl | rfl | rfl | rfl | rfl | rfl | rfl | rfl | rfl | rfl | rfl
          all_goals first | rfl | (simp [cplB, byteOf]; done) | (simp [cplB, byteOf]; omega)
        have hb5 : Below w.heap.size w w5 := HB.out.trans (hk5.below HB.out.size (fun j hj e => by have e : j = w.heap.size + 1 + 1 := e; omega))
        have h25 := hk5.rowIs H2.out (fun e => by have e : w.heap.size + 1 = w.heap.size + 1 + 1 := e; omega)
        have hone : (arr 16 fun j => Value.int .u8 (cplB C j)).all (·.oneCell') = true := arr_one fun _ _ => rfl
        have HRA := Lib.hid (rowIs_range0 hr5)
        have HTH := Lib.hid (rowIs_there h25 0 16 (by omega))
        have HONE := Lib.hid hone
        have HB5 := Lib.hid hb5
        have H25 := Lib.hid h25
        clear hw5 hk5 hr5 hb5 h25 hone hs
        go_wp2_with (first | ((with_reducible show wpList _ _ _ (⟨some 98, _, _, _, _, _⟩ :: _) _ _); refine wpList_load_mid rfl 41 (.tmp 4) rfl (w.heap.size + 1 + 1) 0 rfl (arr 16 fun j => Value.int .u8 (cplB C j)).toList _ HRA.out Try.underlying41 rfl (by rw [size16]; simp [arr]) ?_) |
          ((with_reducible show wpList _ _ _ (⟨none, _, _, _, _, _⟩ :: _) _ _); refine wpList_store_mid rfl 41 (.tmp 2) (.tmp 98) rfl (w.heap.size + 1) 0 (arr 16 fun j => Value.int .u8 (cplB C j)) rfl (by simp [Act.eval, Act.put]) (by rw [arr_size]; exact HTH.out) (by rw [size16, arr_size]) HONE.out ?_))
        refine bodyPost_ret (results16 rfl _ _ _ _ (fun j => Value.int .u8 (cplB C j)) _ (rowIs_store H25.out) rfl rfl) rfl ⟨rfl, ?_⟩
        exact HB5.out.trans ((Keeps.setCells _ (Keeps.refl (One (w.heap.size + 1)) w5) 0).below (B := w.heap.size) HB5.out.size (fun k hk e => by have e : k = w.heap.size + 1 := e; omega))
      · go_upto_region 20 with fail
        obtain ⟨w5, hw5⟩ : ∃ w5, w5 = ((((((((wr.setCell ⟨w.heap.size + 1 + 1, 8, none⟩ (.int .u8 (head % 256))).setCell ⟨w.heap.size + 1 + 1, 9, none⟩ (.int .u8 (head / 256))).setCell ⟨w.heap.size + 1 + 1, 10, none⟩ (.int .u8 (queue % 256))).setCell ⟨w.heap.size + 1 + 1, 11, none⟩ (.int .u8 (queue / 256))).setCell ⟨w.heap.size + 1 + 1, 12, none⟩ (.int .u8 (id % 256))).setCell ⟨w.heap.size + 1 + 1, 13, none⟩ (.int .u8 (id / 256))).setCell ⟨w.heap.size + 1 + 1, 14, none⟩ (.int .u8 ((2 * code + 512 * ty + 1 + 16384 + 32768) % 256))).setCell ⟨w.heap.size + 1 + 1, 15, none⟩ (.int .u8 ((2 * code + 512 * ty + 1 + 16384 + 32768) / 256))).drew.drew.drew := ⟨_, rfl⟩
        rw [← hw5]
        have hk5 : Keeps (One (w.heap.size + 1 + 1)) W w5 := by rw [hw5]; exact ((((((((HK.out.set1 _ _).set1 _ _).set1 _ _).set1 _ _).set1 _ _).set1 _ _).set1 _ _).set1 _ _).drew.drew.drew
        have hs : (2 * code + 512 * ty + 1 + 16384 + 32768) = sword C := by rw [← HSW.out]; simp [bv]; omega
        have hr5 : w5.rowIs (w.heap.size + 1 + 1) 41 16 (fun j => .int .u8 (cplB C j)) := by
          obtain ⟨g0, g1, g2, g3, g4⟩ := HV0.out
          rw [hw5, hs]
          have hsb := sword_bd C HOK.out HF7.out
          refine (((((((((HR.out.set 8 _).set 9 _).set 10 _).set 11 _).set 12 _).set 13 _).set 14 _).set 15 _).drew.drew.drew).congr fun j hj => ?_
          rw [← g2, ← g3, ← g4]
          rw [← g2] at n5 n6
          rw [← g3] at n7 n8
          rw [← g4] at n9 n10
          have hj' : j = 0 ∨ j = 1 ∨ j = 2 ∨ j = 3 ∨ j = 4 ∨ j = 5 ∨ j = 6 ∨ j = 7 ∨ j = 8 ∨ j = 9 ∨ j = 10 ∨ j = 11 ∨ j = 12 ∨ j = 13 ∨ j = 14 ∨ j = 15 := by omega
          rcases hj' with rfl | rfl | rfl | rfl | rfl | rfl | rfl | rfl | rfl | rfl | rfl | rfl | rfl | rfl | rfl | rfl
          all_goals first | rfl | (simp [cplB, byteOf]; done) | (simp [cplB, byteOf]; omega)
        have hb5 : Below w.heap.size w w5 := HB.out.trans (hk5.below HB.out.size (fun j hj e => by have e : j = w.heap.size + 1 + 1 := e; omega))
        have h25 := hk5.rowIs H2.out (fun e => by have e : w.heap.size + 1 = w.heap.size + 1 + 1 := e; omega)
        have hone : (arr 16 fun j => Value.int .u8 (cplB C j)).all (·.oneCell') = true := arr_one fun _ _ => rfl
        have HRA := Lib.hid (rowIs_range0 hr5)
        have HTH := Lib.hid (rowIs_there h25 0 16 (by omega))
        have HONE := Lib.hid hone
        have HB5 := Lib.hid hb5
        have H25 := Lib.hid h25
        clear hw5 hk5 hr5 hb5 h25 hone hs
        go_wp2_with (first | ((with_reducible show wpList _ _ _ (⟨some 98, _, _, _, _, _⟩ :: _) _ _); refine wpList_load_mid rfl 41 (.tmp 4) rfl (w.heap.size + 1 + 1) 0 rfl (arr 16 fun j => Value.int .u8 (cplB C j)).toList _ HRA.out Try.underlying41 rfl (by rw [size16]; simp [arr]) ?_) |
          ((with_reducible show wpList _ _ _ (⟨none, _, _, _, _, _⟩ :: _) _ _); refine wpList_store_mid rfl 41 (.tmp 2) (.tmp 98) rfl (w.heap.size + 1) 0 (arr 16 fun j => Value.int .u8 (cplB C j)) rfl (by simp [Act.eval, Act.put]) (by rw [arr_size]; exact HTH.out) (by rw [size16, arr_size]) HONE.out ?_))
        refine bodyPost_ret (results16 rfl _ _ _ _ (fun j => Value.int .u8 (cplB C j)) _ (rowIs_store H25.out) rfl rfl) rfl ⟨rfl, ?_⟩
        exact HB5.out.trans ((Keeps.setCells _ (Keeps.refl (One (w.heap.size + 1)) w5) 0).below (B := w.heap.size) HB5.out.size (fun k hk e => by have e : k = w.heap.size + 1 := e; omega))
end Go.Proofs.Ytiinjjfggmmkmaa
