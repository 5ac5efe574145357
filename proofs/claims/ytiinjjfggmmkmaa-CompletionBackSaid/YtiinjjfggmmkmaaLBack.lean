/- completion: the law CompletionBack. -/
import Derived.Test.YtiinjjfggmmkmaaBk
import Derived.Test.YtiinjjfggmmkmaaLDecodes
namespace Go.Proofs.Ytiinjjfggmmkmaa
set_option linter.unusedVariables false
set_option linter.unusedSimpArgs false
open Go.RowKit Go.ChangeShapes Go.WideShapes Go.ChangeAt Go.Deep

set_option maxRecDepth 100000 in
set_option maxHeartbeats 16000000 in
theorem backLaw (c : Cpl) (B : Nat → Int) (k l : Int) (w : World) (hc : c.Ok) (hB : ∀ j, 0 ≤ B j ∧ B j ≤ 255) (hk : (Lit.int .u16 k).wf = true) (hl : (Lit.int .u16 l).wf = true) :
    Calls Try.prog 9 #[c.v, arrB B, .int .u16 k, .int .u16 l] w fun e w' => e = .returned (.bool true) ∧ Below w.heap.size w w' := by
  have HKN := Lib.hid known_any
  obtain ⟨k0, k1⟩ := wf_u16 hk
  obtain ⟨l0, l1⟩ := wf_u16 hl
  obtain ⟨C, hC⟩ : ∃ C, C = c.cells := ⟨_, rfl⟩
  obtain ⟨BA, hBA⟩ : ∃ A, A = arr 16 fun j => Value.int .u8 (B j) := ⟨_, rfl⟩
  have S1 : (∃ Q : Array Value, BytesA 16 Q ∧ (∀ W, Calls Try.prog 16 #[.agg C] W fun e w' => e = .returned (.tuple #[.agg Q, .int .i64 0]) ∧ Below W.heap.size W w') ∧ (∀ W, Calls Try.prog 29 #[.agg Q] W fun e w' => e = .returned (.tuple #[.agg C, .int .i64 0]) ∧ Below W.heap.size W w')) ∨
      (∃ Q : Array Value, BytesA 16 Q ∧ (∀ W, Calls Try.prog 16 #[.agg C] W fun e w' => e = .returned (.tuple #[.agg Q, .int .i64 2]) ∧ Below W.heap.size W w')) := by
    rw [hC]
    by_cases hf : c.ty ≤ 7
    · obtain ⟨b1, b2⟩ := cpl_back c hc hf
      refine .inl ⟨_, ⟨_, rfl⟩, fun W => pencode_ok c W hc hf, fun W => ?_⟩
      have h := dec_ok (cplB c) W (cplB_bd c) b1
      rw [b2] at h
      exact h
    · exact .inr ⟨_, ⟨fun _ => 0, rfl⟩, fun W => pencode_err c W (by omega)⟩
  have S2 : (∃ D : Array Value, D.size = 10 ∧ D.all (·.oneCell') = true ∧ (∀ W, Calls Try.prog 29 #[.agg BA] W fun e w' => e = .returned (.tuple #[.agg D, .int .i64 0]) ∧ Below W.heap.size W w') ∧ (∀ W, Calls Try.prog 16 #[.agg D] W fun e w' => e = .returned (.tuple #[.agg BA, .int .i64 0]) ∧ Below W.heap.size W w')) ∨
      (∃ D : Array Value, D.size = 10 ∧ D.all (·.oneCell') = true ∧ (∀ W, Calls Try.prog 29 #[.agg BA] W fun e w' => e = .returned (.tuple #[.agg D, .int .i64 6]) ∧ Below W.heap.size W w')) := by
    rw [hBA]
    by_cases hg : B 15 / 16 % 4 = 0
    · obtain ⟨h1, h2⟩ := dCpl_ok B hB
      refine .inl ⟨(dCpl B).cells, rfl, Cpl.cells_one _, fun W => dec_ok B W hB hg, fun W => ?_⟩
      have h := pencode_ok (dCpl B) W h1 h2
      unfold cplA at h
      rw [arr_congr (g := fun j => .int .u8 (B j)) (fun j hj => by rw [cplB_dCpl B hB hg j hj])] at h
      exact h
    · exact .inr ⟨zCpl.cells, rfl, Cpl.cells_one _, fun W => dec_bad B W hB hg⟩
  obtain ⟨p, hp⟩ : ∃ p, p = k % 2048 := ⟨_, rfl⟩
  obtain ⟨q, hq⟩ : ∃ q, q = l % 2048 := ⟨_, rfl⟩
  have r1 : k.tmod 2048 = p := by rw [hp]; exact IntWalk.rem_in _ _ k0
  have r2 : l.tmod 2048 = q := by rw [hq]; exact IntWalk.rem_in _ _ l0
  have p0 : 0 ≤ p := by omega
  have p1 : p ≤ 2047 := by omega
  have q0 : 0 ≤ q := by omega
  have q1 : q ≤ 2047 := by omega
  obtain ⟨St, hSt⟩ : ∃ S, S = (mkSt p false).cells := ⟨_, rfl⟩
  have HMK := Lib.hid (show ∀ W, Calls Try.prog 10 #[.int .u16 p, .bool false] W fun e w' => e = .returned (.agg St) ∧ Below W.heap.size W w' from fun W => by rw [hSt]; exact make_any p false p0 (by omega) W)
  have HCO := Lib.hid (show ∀ W, Calls Try.prog 11 #[.agg St] W fun e w' => e = .returned (.int .u16 p) ∧ Below W.heap.size W w' from fun W => by
    have h := code_any (mkSt p false) (mkSt_ok p false) W
    rw [mk_no p p0 (by omega), ← hSt] at h
    exact h)
  have HLP := Lib.hid (fun W => listed_any p W)
  have HLQ := Lib.hid (fun W => listed_any q W)
  have S3 : (lstB p = true ∧ lstB q = true ∧ ∃ (X Y : List UInt8) (eb : Bool), (∀ W, Calls Try.prog 20 #[.int .u16 p] W fun e w' => e = .returned (.string ⟨X.toArray⟩) ∧ Below W.heap.size W w') ∧ (∀ W, Calls Try.prog 20 #[.int .u16 q] W fun e w' => e = .returned (.string ⟨Y.toArray⟩) ∧ Below W.heap.size W w') ∧
      (∀ W, Calls Try.prog 18 #[.string ⟨X.toArray⟩] W fun e w' => e = .returned (.tuple #[.int .u16 p, .int .i64 0]) ∧ Below W.heap.size W w') ∧ (p == q) = eb ∧ (X == Y) = eb) ∨ lstB p = false ∨ (lstB p = true ∧ lstB q = false) := by
    by_cases hlp : p ∈ codesL
    · by_cases hlq : q ∈ codesL
      · refine .inl ⟨decide_eq_true hlp, decide_eq_true hlq, nameOf p, nameOf q, (p == q), fun W => name_any p W, fun W => name_any q W, fun W => ?_, rfl, (names_eq hlp hlq).symm⟩
        have h := find_any ⟨(nameOf p).toArray⟩ W
        rw [ByteArray.toList_eq] at h
        simp only [(finds_all p hlp).1, (finds_all p hlp).2] at h
        exact h
      · exact .inr (.inr ⟨decide_eq_true hlp, decide_eq_false hlq⟩)
    · exact .inr (.inl (decide_eq_false hlp))
  obtain ⟨lp, hlp⟩ : ∃ x, x = lstB p := ⟨_, rfl⟩
  obtain ⟨lq, hlq⟩ : ∃ x, x = lstB q := ⟨_, rfl⟩
  rw [← hlp] at HLP S3
  rw [← hlq] at HLQ S3
  have hq1 := fun w => neqCpl c w
  have hbb : BytesA 16 BA := ⟨B, hBA⟩
  have hq4 := fun w => hbb.neq16 w
  unfold Cpl.v at hq1 ⊢
  unfold arrB
  obtain ⟨w1, hw1⟩ : ∃ w1, w1 = (w.alloc (.cells C 40)).alloc (.cells BA 41) := ⟨_, rfl⟩
  rw [← hC] at hq1 ⊢
  rw [← hBA]
  have hCs : C.size = 10 := by rw [hC]; rfl
  have hBs : BA.size = 16 := hbb.size
  have AC : ArrAt w1 w.heap.size C := by rw [hw1]; exact (ArrAt.fresh _ _ _ (by omega)).alloc _
  have AB : ArrAt w1 (w.heap.size + 1) BA := by
    rw [hw1]
    have := ArrAt.fresh (w.alloc (.cells C 40)) BA 41 (by omega)
    rwa [World.size_alloc] at this
  have B1 : Below w.heap.size w w1 := by rw [hw1]; exact ((Below.refl _ _).alloc (Nat.le_refl _) _).alloc (by simp) _
  have z := zeroCplV
  have z64 := zero16
  obtain ⟨Z, hZ⟩ : ∃ Z, Z = zCpl.cells := ⟨_, rfl⟩
  obtain ⟨Z64, hZ64⟩ : ∃ Z, Z = arr 16 z16 := ⟨_, rfl⟩
  rw [← hZ] at z
  rw [← hZ64] at z64
  have ZS := Lib.hid (show Z.size = 10 by rw [hZ]; rfl)
  have ZS64 := Lib.hid (show Z64.size = 16 by rw [hZ64, arr_size])
  have ZP := Lib.hid (show 0 < Z.size by rw [ZS.out]; omega)
  have ZP64 := Lib.hid (show 0 < Z64.size by rw [ZS64.out]; omega)
  have HSC := Lib.hid (show ∀ A : Array Value, A.size = 10 → (Try.prog.info? 40).map (·.size) = some A.size from fun A h => by rw [h]; exact size10)
  have HSB := Lib.hid (show ∀ A : Array Value, A.size = 16 → (Try.prog.info? 41).map (·.size) = some A.size from fun A h => by rw [h]; exact size16)
  have CS := Lib.hid hCs
  have BS := Lib.hid hBs
  have C1 := Lib.hid (show C.all (·.oneCell') = true by rw [hC]; exact Cpl.cells_one c)
  have BB1 := Lib.hid hbb.one
  have HAC := Lib.hid AC
  have HAB := Lib.hid AB
  have HB1 := Lib.hid B1
  have HW1 := Lib.hid hw1
  have HS2 := Lib.hid S2
  have HS3 := Lib.hid S3
  obtain ⟨d, hd1, hd2⟩ := under16
  obtain ⟨d2, hd5, hd6⟩ := underA16
  clear AC AB B1 hw1 hZ hZ64 hC hBA hbb hCs hBs S2 S3 hB hc hk hl hp hq hlp hlq hSt
  rcases S1 with ⟨Q, hqb, he, hd⟩ | ⟨Q, hqb, he⟩
  · have QS := Lib.hid hqb.size
    have Q1 := Lib.hid hqb.one
    have HE1 := Lib.hid he
    have HD1 := Lib.hid hd
    clear hd
    clear hqb he
    go_enter Try.func9, Try.ntmps9
    go_upto_region 1 with fail
    rw [← HW1.out]
    go_upto_region 2 with (first
      | ((with_reducible show wpList _ _ _ (⟨some 22, _, _, _, _, _⟩ :: _) _ _); refine wpList_loadA rfl HAC.out 40 (.tmp 4) rfl (by first | rfl | simp [Act.eval, Act.put]) hd1 hd2 (HSC.out _ CS.out) ?_)
      | (go_at_call 16; refine (HE1.out _).mono ?_; rintro e w2 ⟨rfl, hb⟩; have AC2 := Lib.hid (HAC.out.below hb); have AB2 := Lib.hid (HAB.out.below hb); have Bw2 := Lib.hid (HB1.out.trans (hb.mono HB1.out.size)); clear hb)
      | ((with_reducible show wpList _ _ _ (⟨some 9, _, _, _, _, _⟩ :: _) _ _); refine wpList_alloc rfl _ rfl z64 ?_)
      | ((with_reducible show wpList _ _ _ (⟨none, .store _ (.tmp 9) _, _, _, _, _⟩ :: _) _ _); refine wpList_storeA rfl (b := w2.heap.size) (A := Z64) (A' := Q) (ArrAt.fresh _ _ _ ZP64.out) 41 (.tmp 9) (.tmp 24) rfl rfl rfl (HSB.out _ ZS64.out) (QS.out.trans ZS64.out.symm) Q1.out ?_))
    obtain ⟨w3, hw3⟩ : ∃ z, z = (w2.alloc (.cells Z64 41)).setCells w2.heap.size 0 Q.toList := ⟨_, rfl⟩
    obtain ⟨b7, hb3⟩ : ∃ z, z = w2.heap.size := ⟨_, rfl⟩
    rw [← hw3, ← hb3]
    have hbw3 : Below w2.heap.size w2 w3 := by rw [hw3]; exact bstore ((Below.refl _ _).alloc (Nat.le_refl _) _) _ (Nat.le_refl _) _ _
    have A7 := Lib.hid (show ArrAt w3 b7 Q by rw [hw3, hb3]; exact (ArrAt.fresh _ _ _ (by rw [ZS64.out]; omega)).store Q (by rw [QS.out, ZS64.out]))
    have AC3 := Lib.hid (AC2.out.below hbw3)
    have AB3 := Lib.hid (AB2.out.below hbw3)
    have Bw3 := Lib.hid (Bw2.out.trans (hbw3.mono Bw2.out.size))
    clear hw3 hbw3 hb3
    clear AC2 AB2 Bw2
    go_upto_region 4 with (first
      | ((with_reducible show wpList _ _ _ (⟨some 29, _, _, _, _, _⟩ :: _) _ _); refine wpList_loadA rfl A7.out 41 (.tmp 9) rfl (by first | rfl | simp [Act.eval, Act.put]) hd5 hd6 (HSB.out _ QS.out) ?_)
      | (go_at_call 29; refine (HD1.out _).mono ?_; rintro e w4 ⟨rfl, hb⟩; have AC4 := Lib.hid (AC3.out.below hb); have AB4 := Lib.hid (AB3.out.below hb); have Bw4 := Lib.hid (Bw3.out.trans (hb.mono Bw3.out.size)); clear hb)
      | ((with_reducible show wpList _ _ _ (⟨some 11, _, _, _, _, _⟩ :: _) _ _); refine wpList_alloc rfl _ rfl z ?_)
      | ((with_reducible show wpList _ _ _ (⟨none, .store _ (.tmp 11) _, _, _, _, _⟩ :: _) _ _); refine wpList_storeA rfl (b := w4.heap.size) (A := Z) (A' := C) (ArrAt.fresh _ _ _ ZP.out) 40 (.tmp 11) (.tmp 31) rfl rfl rfl (HSC.out _ ZS.out) (CS.out.trans ZS.out.symm) C1.out ?_))
    obtain ⟨w5, hw3⟩ : ∃ z, z = (w4.alloc (.cells Z 40)).setCells w4.heap.size 0 C.toList := ⟨_, rfl⟩
    obtain ⟨b9, hb3⟩ : ∃ z, z = w4.heap.size := ⟨_, rfl⟩
    rw [← hw3, ← hb3]
    have hbw3 : Below w4.heap.size w4 w5 := by rw [hw3]; exact bstore ((Below.refl _ _).alloc (Nat.le_refl _) _) _ (Nat.le_refl _) _ _
    have A9 := Lib.hid (show ArrAt w5 b9 C by rw [hw3, hb3]; exact (ArrAt.fresh _ _ _ (by rw [ZS.out]; omega)).store C (by rw [CS.out, ZS.out]))
    have AC5 := Lib.hid (AC4.out.below hbw3)
    have AB5 := Lib.hid (AB4.out.below hbw3)
    have Bw5 := Lib.hid (Bw4.out.trans (hbw3.mono Bw4.out.size))
    clear hw3 hbw3 hb3
    clear AC4 AB4 Bw4 AC3 AB3 Bw3 A7
    go_upto_region 6 with (first
      | ((with_reducible show wpList _ _ _ (⟨some 36, _, _, _, _, _⟩ :: _) _ _); refine wpList_loadAG (by rfl) A9.out 40 (.tmp 11) rfl (by first | rfl | simp [Act.eval, Act.put]) hd1 hd2 (HSC.out _ CS.out) ?_)
      | ((with_reducible show wpList _ _ _ (⟨some 37, _, _, _, _, _⟩ :: _) _ _); refine wpList_loadAG (by rfl) AC5.out 40 (.tmp 4) rfl (by first | rfl | simp [Act.eval, Act.put]) hd1 hd2 (HSC.out _ CS.out) ?_))
    clear A9 hq1
    rcases HS2.out with ⟨D, hds, hdd, hd, he⟩ | ⟨D, hds, hdd, hd⟩
    · have DS := Lib.hid hds
      have D1 := Lib.hid hdd
      have HD2 := Lib.hid hd
      have HE2 := Lib.hid he
      clear he
      clear hds hdd hd HS2
      go_upto_region 7 with (first
        | ((with_reducible show wpList _ _ _ (⟨some 41, _, _, _, _, _⟩ :: _) _ _); refine wpList_loadA rfl AB5.out 41 (.tmp 5) rfl (by first | rfl | simp [Act.eval, Act.put]) hd5 hd6 (HSB.out _ BS.out) ?_)
        | (go_at_call 29; refine (HD2.out _).mono ?_; rintro e w6 ⟨rfl, hb⟩; have AB6 := Lib.hid (AB5.out.below hb); have Bw6 := Lib.hid (Bw5.out.trans (hb.mono Bw5.out.size)); clear hb)
        | ((with_reducible show wpList _ _ _ (⟨some 13, _, _, _, _, _⟩ :: _) _ _); refine wpList_alloc rfl _ rfl z ?_)
        | ((with_reducible show wpList _ _ _ (⟨none, .store _ (.tmp 13) _, _, _, _, _⟩ :: _) _ _); refine wpList_storeA rfl (b := w6.heap.size) (A := Z) (A' := D) (ArrAt.fresh _ _ _ ZP.out) 40 (.tmp 13) (.tmp 43) rfl rfl rfl (HSC.out _ ZS.out) (DS.out.trans ZS.out.symm) D1.out ?_))
      obtain ⟨w7, hw3⟩ : ∃ z, z = (w6.alloc (.cells Z 40)).setCells w6.heap.size 0 D.toList := ⟨_, rfl⟩
      obtain ⟨b11, hb3⟩ : ∃ z, z = w6.heap.size := ⟨_, rfl⟩
      rw [← hw3, ← hb3]
      have hbw3 : Below w6.heap.size w6 w7 := by rw [hw3]; exact bstore ((Below.refl _ _).alloc (Nat.le_refl _) _) _ (Nat.le_refl _) _ _
      have A11 := Lib.hid (show ArrAt w7 b11 D by rw [hw3, hb3]; exact (ArrAt.fresh _ _ _ (by rw [ZS.out]; omega)).store D (by rw [DS.out, ZS.out]))
      have AB7 := Lib.hid (AB6.out.below hbw3)
      have Bw7 := Lib.hid (Bw6.out.trans (hbw3.mono Bw6.out.size))
      clear hw3 hbw3 hb3
      clear AB6 Bw6 AC5 AB5 Bw5
      go_upto_region 9 with (first
        | ((with_reducible show wpList _ _ _ (⟨some 48, _, _, _, _, _⟩ :: _) _ _); refine wpList_loadA rfl A11.out 40 (.tmp 13) rfl (by first | rfl | simp [Act.eval, Act.put]) hd1 hd2 (HSC.out _ DS.out) ?_)
        | (go_at_call 16; refine (HE2.out _).mono ?_; rintro e w8 ⟨rfl, hb⟩; have AB8 := Lib.hid (AB7.out.below hb); have Bw8 := Lib.hid (Bw7.out.trans (hb.mono Bw7.out.size)); clear hb)
        | ((with_reducible show wpList _ _ _ (⟨some 15, _, _, _, _, _⟩ :: _) _ _); refine wpList_alloc rfl _ rfl z64 ?_)
        | ((with_reducible show wpList _ _ _ (⟨none, .store _ (.tmp 15) _, _, _, _, _⟩ :: _) _ _); refine wpList_storeA rfl (b := w8.heap.size) (A := Z64) (A' := BA) (ArrAt.fresh _ _ _ ZP64.out) 41 (.tmp 15) (.tmp 50) rfl rfl rfl (HSB.out _ ZS64.out) (BS.out.trans ZS64.out.symm) BB1.out ?_))
      obtain ⟨w9, hw3⟩ : ∃ z, z = (w8.alloc (.cells Z64 41)).setCells w8.heap.size 0 BA.toList := ⟨_, rfl⟩
      obtain ⟨b13, hb3⟩ : ∃ z, z = w8.heap.size := ⟨_, rfl⟩
      rw [← hw3, ← hb3]
      have hbw3 : Below w8.heap.size w8 w9 := by rw [hw3]; exact bstore ((Below.refl _ _).alloc (Nat.le_refl _) _) _ (Nat.le_refl _) _ _
      have A13 := Lib.hid (show ArrAt w9 b13 BA by rw [hw3, hb3]; exact (ArrAt.fresh _ _ _ (by rw [ZS64.out]; omega)).store BA (by rw [BS.out, ZS64.out]))
      have AB9 := Lib.hid (AB8.out.below hbw3)
      have Bw9 := Lib.hid (Bw8.out.trans (hbw3.mono Bw8.out.size))
      clear hw3 hbw3 hb3
      clear AB8 Bw8 AB7 Bw7 A11
      go_upto_region 11 with (first
        | ((with_reducible show wpList _ _ _ (⟨some 55, _, _, _, _, _⟩ :: _) _ _); refine wpList_loadAG (by rfl) A13.out 41 (.tmp 15) rfl (by first | rfl | simp [Act.eval, Act.put]) hd5 hd6 (HSB.out _ BS.out) ?_)
        | ((with_reducible show wpList _ _ _ (⟨some 56, _, _, _, _, _⟩ :: _) _ _); refine wpList_loadAG (by rfl) AB9.out 41 (.tmp 5) rfl (by first | rfl | simp [Act.eval, Act.put]) hd5 hd6 (HSB.out _ BS.out) ?_))
      clear A13 AB9 hq4 z z64
      rcases HS3.out with ⟨rfl, rfl, X, Y, eb, hnx, hny, hfx, hpq, hxy⟩ | rfl | ⟨rfl, rfl⟩
      · have HNX := Lib.hid hnx
        have HNY := Lib.hid hny
        have HFX := Lib.hid hfx
        clear hnx hny hfx HS3
        go_upto_region 16 with (first
          | (go_at_call 10; refine (HMK.out _).mono ?_; rintro e wM ⟨rfl, hb⟩; have BwM := Lib.hid (Bw9.out.trans (hb.mono Bw9.out.size)); clear hb)
          | (go_at_call 11; refine (HCO.out _).mono ?_; rintro e wC ⟨rfl, hb⟩; have BwC := Lib.hid (BwM.out.trans (hb.mono BwM.out.size)); clear hb)
          | (go_at_call 22; first
            | ((with_reducible refine (HLP.out _).mono ?_); rintro e wL ⟨rfl, hb⟩; have BwL := Lib.hid (BwC.out.trans (hb.mono BwC.out.size)); clear hb)
            | ((with_reducible refine (HLQ.out _).mono ?_); rintro e wQ ⟨rfl, hb⟩; have BwQ := Lib.hid (BwL.out.trans (hb.mono BwL.out.size)); clear hb)))
        go_upto_region 17 with (first
          | (go_at_call 20; refine (HNX.out _).mono ?_; rintro e wN ⟨rfl, hb⟩; have BwN := Lib.hid (BwQ.out.trans (hb.mono BwQ.out.size)); clear hb)
          | (go_at_call 18; refine (HFX.out _).mono ?_; rintro e wF ⟨rfl, hb⟩; have BwF := Lib.hid (BwN.out.trans (hb.mono BwN.out.size)); clear hb))
        go_wp2_with (first
          | (go_at_call 20; first
            | ((with_reducible refine (HNX.out _).mono ?_); rintro e wR ⟨rfl, hb⟩; have BwR := Lib.hid (BwF.out.trans (hb.mono BwF.out.size)); clear hb)
            | ((with_reducible refine (HNY.out _).mono ?_); rintro e wS ⟨rfl, hb⟩; have BwS := Lib.hid (BwR.out.trans (hb.mono BwR.out.size)); clear hb))
          | (go_at_call 13; refine (HKN.out _).mono ?_; rintro e wK ⟨rfl, hb⟩; have BwK := Lib.hid (BwS.out.trans (hb.mono BwS.out.size)); clear hb))
        go_ret
        exact ⟨rfl, BwK.out⟩
      · clear HS3
        go_upto_region 15 with (first
          | (go_at_call 10; refine (HMK.out _).mono ?_; rintro e wM ⟨rfl, hb⟩; have BwM := Lib.hid (Bw9.out.trans (hb.mono Bw9.out.size)); clear hb)
          | (go_at_call 11; refine (HCO.out _).mono ?_; rintro e wC ⟨rfl, hb⟩; have BwC := Lib.hid (BwM.out.trans (hb.mono BwM.out.size)); clear hb)
          | (go_at_call 22; first
            | ((with_reducible refine (HLP.out _).mono ?_); rintro e wL ⟨rfl, hb⟩; have BwL := Lib.hid (BwC.out.trans (hb.mono BwC.out.size)); clear hb)
            | ((with_reducible refine (HLQ.out _).mono ?_); rintro e wQ ⟨rfl, hb⟩; have BwQ := Lib.hid (BwL.out.trans (hb.mono BwL.out.size)); clear hb)))
        go_wp2_with (go_at_call 13; refine (HKN.out _).mono ?_; rintro e wK ⟨rfl, hb⟩; have BwK := Lib.hid (BwL.out.trans (hb.mono BwL.out.size)); clear hb)
        go_ret
        exact ⟨rfl, BwK.out⟩
      · clear HS3
        go_upto_region 15 with (first
          | (go_at_call 10; refine (HMK.out _).mono ?_; rintro e wM ⟨rfl, hb⟩; have BwM := Lib.hid (Bw9.out.trans (hb.mono Bw9.out.size)); clear hb)
          | (go_at_call 11; refine (HCO.out _).mono ?_; rintro e wC ⟨rfl, hb⟩; have BwC := Lib.hid (BwM.out.trans (hb.mono BwM.out.size)); clear hb)
          | (go_at_call 22; first
            | ((with_reducible refine (HLP.out _).mono ?_); rintro e wL ⟨rfl, hb⟩; have BwL := Lib.hid (BwC.out.trans (hb.mono BwC.out.size)); clear hb)
            | ((with_reducible refine (HLQ.out _).mono ?_); rintro e wQ ⟨rfl, hb⟩; have BwQ := Lib.hid (BwL.out.trans (hb.mono BwL.out.size)); clear hb)))
        go_wp2_with (go_at_call 13; refine (HKN.out _).mono ?_; rintro e wK ⟨rfl, hb⟩; have BwK := Lib.hid (BwQ.out.trans (hb.mono BwQ.out.size)); clear hb)
        go_ret
        exact ⟨rfl, BwK.out⟩
    · have DS := Lib.hid hds
      have D1 := Lib.hid hdd
      have HD2 := Lib.hid hd
      clear hds hdd hd HS2
      go_upto_region 7 with (first
        | ((with_reducible show wpList _ _ _ (⟨some 41, _, _, _, _, _⟩ :: _) _ _); refine wpList_loadA rfl AB5.out 41 (.tmp 5) rfl (by first | rfl | simp [Act.eval, Act.put]) hd5 hd6 (HSB.out _ BS.out) ?_)
        | (go_at_call 29; refine (HD2.out _).mono ?_; rintro e w6 ⟨rfl, hb⟩; have AB6 := Lib.hid (AB5.out.below hb); have Bw6 := Lib.hid (Bw5.out.trans (hb.mono Bw5.out.size)); clear hb)
        | ((with_reducible show wpList _ _ _ (⟨some 13, _, _, _, _, _⟩ :: _) _ _); refine wpList_alloc rfl _ rfl z ?_)
        | ((with_reducible show wpList _ _ _ (⟨none, .store _ (.tmp 13) _, _, _, _, _⟩ :: _) _ _); refine wpList_storeA rfl (b := w6.heap.size) (A := Z) (A' := D) (ArrAt.fresh _ _ _ ZP.out) 40 (.tmp 13) (.tmp 43) rfl rfl rfl (HSC.out _ ZS.out) (DS.out.trans ZS.out.symm) D1.out ?_))
      obtain ⟨w7, hw3⟩ : ∃ z, z = (w6.alloc (.cells Z 40)).setCells w6.heap.size 0 D.toList := ⟨_, rfl⟩
      obtain ⟨b11, hb3⟩ : ∃ z, z = w6.heap.size := ⟨_, rfl⟩
      rw [← hw3, ← hb3]
      have hbw3 : Below w6.heap.size w6 w7 := by rw [hw3]; exact bstore ((Below.refl _ _).alloc (Nat.le_refl _) _) _ (Nat.le_refl _) _ _
      have A11 := Lib.hid (show ArrAt w7 b11 D by rw [hw3, hb3]; exact (ArrAt.fresh _ _ _ (by rw [ZS.out]; omega)).store D (by rw [DS.out, ZS.out]))
      have AB7 := Lib.hid (AB6.out.below hbw3)
      have Bw7 := Lib.hid (Bw6.out.trans (hbw3.mono Bw6.out.size))
      clear hw3 hbw3 hb3
      clear AB6 Bw6 AC5 AB5 Bw5
      clear A11 AB7 z z64
      go_upto_region 11 with fail
      rcases HS3.out with ⟨rfl, rfl, X, Y, eb, hnx, hny, hfx, hpq, hxy⟩ | rfl | ⟨rfl, rfl⟩
      · have HNX := Lib.hid hnx
        have HNY := Lib.hid hny
        have HFX := Lib.hid hfx
        clear hnx hny hfx HS3
        go_upto_region 16 with (first
          | (go_at_call 10; refine (HMK.out _).mono ?_; rintro e wM ⟨rfl, hb⟩; have BwM := Lib.hid (Bw7.out.trans (hb.mono Bw7.out.size)); clear hb)
          | (go_at_call 11; refine (HCO.out _).mono ?_; rintro e wC ⟨rfl, hb⟩; have BwC := Lib.hid (BwM.out.trans (hb.mono BwM.out.size)); clear hb)
          | (go_at_call 22; first
            | ((with_reducible refine (HLP.out _).mono ?_); rintro e wL ⟨rfl, hb⟩; have BwL := Lib.hid (BwC.out.trans (hb.mono BwC.out.size)); clear hb)
            | ((with_reducible refine (HLQ.out _).mono ?_); rintro e wQ ⟨rfl, hb⟩; have BwQ := Lib.hid (BwL.out.trans (hb.mono BwL.out.size)); clear hb)))
        go_upto_region 17 with (first
          | (go_at_call 20; refine (HNX.out _).mono ?_; rintro e wN ⟨rfl, hb⟩; have BwN := Lib.hid (BwQ.out.trans (hb.mono BwQ.out.size)); clear hb)
          | (go_at_call 18; refine (HFX.out _).mono ?_; rintro e wF ⟨rfl, hb⟩; have BwF := Lib.hid (BwN.out.trans (hb.mono BwN.out.size)); clear hb))
        go_wp2_with (first
          | (go_at_call 20; first
            | ((with_reducible refine (HNX.out _).mono ?_); rintro e wR ⟨rfl, hb⟩; have BwR := Lib.hid (BwF.out.trans (hb.mono BwF.out.size)); clear hb)
            | ((with_reducible refine (HNY.out _).mono ?_); rintro e wS ⟨rfl, hb⟩; have BwS := Lib.hid (BwR.out.trans (hb.mono BwR.out.size)); clear hb))
          | (go_at_call 13; refine (HKN.out _).mono ?_; rintro e wK ⟨rfl, hb⟩; have BwK := Lib.hid (BwS.out.trans (hb.mono BwS.out.size)); clear hb))
        go_ret
        exact ⟨rfl, BwK.out⟩
      · clear HS3
        go_upto_region 15 with (first
          | (go_at_call 10; refine (HMK.out _).mono ?_; rintro e wM ⟨rfl, hb⟩; have BwM := Lib.hid (Bw7.out.trans (hb.mono Bw7.out.size)); clear hb)
          | (go_at_call 11; refine (HCO.out _).mono ?_; rintro e wC ⟨rfl, hb⟩; have BwC := Lib.hid (BwM.out.trans (hb.mono BwM.out.size)); clear hb)
          | (go_at_call 22; first
            | ((with_reducible refine (HLP.out _).mono ?_); rintro e wL ⟨rfl, hb⟩; have BwL := Lib.hid (BwC.out.trans (hb.mono BwC.out.size)); clear hb)
            | ((with_reducible refine (HLQ.out _).mono ?_); rintro e wQ ⟨rfl, hb⟩; have BwQ := Lib.hid (BwL.out.trans (hb.mono BwL.out.size)); clear hb)))
        go_wp2_with (go_at_call 13; refine (HKN.out _).mono ?_; rintro e wK ⟨rfl, hb⟩; have BwK := Lib.hid (BwL.out.trans (hb.mono BwL.out.size)); clear hb)
        go_ret
        exact ⟨rfl, BwK.out⟩
      · clear HS3
        go_upto_region 15 with (first
          | (go_at_call 10; refine (HMK.out _).mono ?_; rintro e wM ⟨rfl, hb⟩; have BwM := Lib.hid (Bw7.out.trans (hb.mono Bw7.out.size)); clear hb)
          | (go_at_call 11; refine (HCO.out _).mono ?_; rintro e wC ⟨rfl, hb⟩; have BwC := Lib.hid (BwM.out.trans (hb.mono BwM.out.size)); clear hb)
          | (go_at_call 22; first
            | ((with_reducible refine (HLP.out _).mono ?_); rintro e wL ⟨rfl, hb⟩; have BwL := Lib.hid (BwC.out.trans (hb.mono BwC.out.size)); clear hb)
            | ((with_reducible refine (HLQ.out _).mono ?_); rintro e wQ ⟨rfl, hb⟩; have BwQ := Lib.hid (BwL.out.trans (hb.mono BwL.out.size)); clear hb)))
        go_wp2_with (go_at_call 13; refine (HKN.out _).mono ?_; rintro e wK ⟨rfl, hb⟩; have BwK := Lib.hid (BwQ.out.trans (hb.mono BwQ.out.size)); clear hb)
        go_ret
        exact ⟨rfl, BwK.out⟩
  · have QS := Lib.hid hqb.size
    have Q1 := Lib.hid hqb.one
    have HE1 := Lib.hid he
    clear hqb he
    go_enter Try.func9, Try.ntmps9
    go_upto_region 1 with fail
    rw [← HW1.out]
    go_upto_region 2 with (first
      | ((with_reducible show wpList _ _ _ (⟨some 22, _, _, _, _, _⟩ :: _) _ _); refine wpList_loadA rfl HAC.out 40 (.tmp 4) rfl (by first | rfl | simp [Act.eval, Act.put]) hd1 hd2 (HSC.out _ CS.out) ?_)
      | (go_at_call 16; refine (HE1.out _).mono ?_; rintro e w2 ⟨rfl, hb⟩; have AC2 := Lib.hid (HAC.out.below hb); have AB2 := Lib.hid (HAB.out.below hb); have Bw2 := Lib.hid (HB1.out.trans (hb.mono HB1.out.size)); clear hb)
      | ((with_reducible show wpList _ _ _ (⟨some 9, _, _, _, _, _⟩ :: _) _ _); refine wpList_alloc rfl _ rfl z64 ?_)
      | ((with_reducible show wpList _ _ _ (⟨none, .store _ (.tmp 9) _, _, _, _, _⟩ :: _) _ _); refine wpList_storeA rfl (b := w2.heap.size) (A := Z64) (A' := Q) (ArrAt.fresh _ _ _ ZP64.out) 41 (.tmp 9) (.tmp 24) rfl rfl rfl (HSB.out _ ZS64.out) (QS.out.trans ZS64.out.symm) Q1.out ?_))
    obtain ⟨w3, hw3⟩ : ∃ z, z = (w2.alloc (.cells Z64 41)).setCells w2.heap.size 0 Q.toList := ⟨_, rfl⟩
    obtain ⟨b7, hb3⟩ : ∃ z, z = w2.heap.size := ⟨_, rfl⟩
    rw [← hw3, ← hb3]
    have hbw3 : Below w2.heap.size w2 w3 := by rw [hw3]; exact bstore ((Below.refl _ _).alloc (Nat.le_refl _) _) _ (Nat.le_refl _) _ _
    have A7 := Lib.hid (show ArrAt w3 b7 Q by rw [hw3, hb3]; exact (ArrAt.fresh _ _ _ (by rw [ZS64.out]; omega)).store Q (by rw [QS.out, ZS64.out]))
    have AC3 := Lib.hid (AC2.out.below hbw3)
    have AB3 := Lib.hid (AB2.out.below hbw3)
    have Bw3 := Lib.hid (Bw2.out.trans (hbw3.mono Bw2.out.size))
    clear hw3 hbw3 hb3
    clear AC2 AB2 Bw2
    clear A7
    go_upto_region 6 with fail
    rcases HS2.out with ⟨D, hds, hdd, hd, he⟩ | ⟨D, hds, hdd, hd⟩
    · have DS := Lib.hid hds
      have D1 := Lib.hid hdd
      have HD2 := Lib.hid hd
      have HE2 := Lib.hid he
      clear he
      clear hds hdd hd HS2
      go_upto_region 7 with (first
        | ((with_reducible show wpList _ _ _ (⟨some 41, _, _, _, _, _⟩ :: _) _ _); refine wpList_loadA rfl AB3.out 41 (.tmp 5) rfl (by first | rfl | simp [Act.eval, Act.put]) hd5 hd6 (HSB.out _ BS.out) ?_)
        | (go_at_call 29; refine (HD2.out _).mono ?_; rintro e w6 ⟨rfl, hb⟩; have AB6 := Lib.hid (AB3.out.below hb); have Bw6 := Lib.hid (Bw3.out.trans (hb.mono Bw3.out.size)); clear hb)
        | ((with_reducible show wpList _ _ _ (⟨some 13, _, _, _, _, _⟩ :: _) _ _); refine wpList_alloc rfl _ rfl z ?_)
        | ((with_reducible show wpList _ _ _ (⟨none, .store _ (.tmp 13) _, _, _, _, _⟩ :: _) _ _); refine wpList_storeA rfl (b := w6.heap.size) (A := Z) (A' := D) (ArrAt.fresh _ _ _ ZP.out) 40 (.tmp 13) (.tmp 43) rfl rfl rfl (HSC.out _ ZS.out) (DS.out.trans ZS.out.symm) D1.out ?_))
      obtain ⟨w7, hw3⟩ : ∃ z, z = (w6.alloc (.cells Z 40)).setCells w6.heap.size 0 D.toList := ⟨_, rfl⟩
      obtain ⟨b11, hb3⟩ : ∃ z, z = w6.heap.size := ⟨_, rfl⟩
      rw [← hw3, ← hb3]
      have hbw3 : Below w6.heap.size w6 w7 := by rw [hw3]; exact bstore ((Below.refl _ _).alloc (Nat.le_refl _) _) _ (Nat.le_refl _) _ _
      have A11 := Lib.hid (show ArrAt w7 b11 D by rw [hw3, hb3]; exact (ArrAt.fresh _ _ _ (by rw [ZS.out]; omega)).store D (by rw [DS.out, ZS.out]))
      have AB7 := Lib.hid (AB6.out.below hbw3)
      have Bw7 := Lib.hid (Bw6.out.trans (hbw3.mono Bw6.out.size))
      clear hw3 hbw3 hb3
      clear AB6 Bw6 AC3 AB3 Bw3
      go_upto_region 9 with (first
        | ((with_reducible show wpList _ _ _ (⟨some 48, _, _, _, _, _⟩ :: _) _ _); refine wpList_loadA rfl A11.out 40 (.tmp 13) rfl (by first | rfl | simp [Act.eval, Act.put]) hd1 hd2 (HSC.out _ DS.out) ?_)
        | (go_at_call 16; refine (HE2.out _).mono ?_; rintro e w8 ⟨rfl, hb⟩; have AB8 := Lib.hid (AB7.out.below hb); have Bw8 := Lib.hid (Bw7.out.trans (hb.mono Bw7.out.size)); clear hb)
        | ((with_reducible show wpList _ _ _ (⟨some 15, _, _, _, _, _⟩ :: _) _ _); refine wpList_alloc rfl _ rfl z64 ?_)
        | ((with_reducible show wpList _ _ _ (⟨none, .store _ (.tmp 15) _, _, _, _, _⟩ :: _) _ _); refine wpList_storeA rfl (b := w8.heap.size) (A := Z64) (A' := BA) (ArrAt.fresh _ _ _ ZP64.out) 41 (.tmp 15) (.tmp 50) rfl rfl rfl (HSB.out _ ZS64.out) (BS.out.trans ZS64.out.symm) BB1.out ?_))
      obtain ⟨w9, hw3⟩ : ∃ z, z = (w8.alloc (.cells Z64 41)).setCells w8.heap.size 0 BA.toList := ⟨_, rfl⟩
      obtain ⟨b13, hb3⟩ : ∃ z, z = w8.heap.size := ⟨_, rfl⟩
      rw [← hw3, ← hb3]
      have hbw3 : Below w8.heap.size w8 w9 := by rw [hw3]; exact bstore ((Below.refl _ _).alloc (Nat.le_refl _) _) _ (Nat.le_refl _) _ _
      have A13 := Lib.hid (show ArrAt w9 b13 BA by rw [hw3, hb3]; exact (ArrAt.fresh _ _ _ (by rw [ZS64.out]; omega)).store BA (by rw [BS.out, ZS64.out]))
      have AB9 := Lib.hid (AB8.out.below hbw3)
      have Bw9 := Lib.hid (Bw8.out.trans (hbw3.mono Bw8.out.size))
      clear hw3 hbw3 hb3
      clear AB8 Bw8 AB7 Bw7 A11
      go_upto_region 11 with (first
        | ((with_reducible show wpList _ _ _ (⟨some 55, _, _, _, _, _⟩ :: _) _ _); refine wpList_loadAG (by rfl) A13.out 41 (.tmp 15) rfl (by first | rfl | simp [Act.eval, Act.put]) hd5 hd6 (HSB.out _ BS.out) ?_)
        | ((with_reducible show wpList _ _ _ (⟨some 56, _, _, _, _, _⟩ :: _) _ _); refine wpList_loadAG (by rfl) AB9.out 41 (.tmp 5) rfl (by first | rfl | simp [Act.eval, Act.put]) hd5 hd6 (HSB.out _ BS.out) ?_))
      clear A13 AB9 hq4 z z64
      rcases HS3.out with ⟨rfl, rfl, X, Y, eb, hnx, hny, hfx, hpq, hxy⟩ | rfl | ⟨rfl, rfl⟩
      · have HNX := Lib.hid hnx
        have HNY := Lib.hid hny
        have HFX := Lib.hid hfx
        clear hnx hny hfx HS3
        go_upto_region 16 with (first
          | (go_at_call 10; refine (HMK.out _).mono ?_; rintro e wM ⟨rfl, hb⟩; have BwM := Lib.hid (Bw9.out.trans (hb.mono Bw9.out.size)); clear hb)
          | (go_at_call 11; refine (HCO.out _).mono ?_; rintro e wC ⟨rfl, hb⟩; have BwC := Lib.hid (BwM.out.trans (hb.mono BwM.out.size)); clear hb)
          | (go_at_call 22; first
            | ((with_reducible refine (HLP.out _).mono ?_); rintro e wL ⟨rfl, hb⟩; have BwL := Lib.hid (BwC.out.trans (hb.mono BwC.out.size)); clear hb)
            | ((with_reducible refine (HLQ.out _).mono ?_); rintro e wQ ⟨rfl, hb⟩; have BwQ := Lib.hid (BwL.out.trans (hb.mono BwL.out.size)); clear hb)))
        go_upto_region 17 with (first
          | (go_at_call 20; refine (HNX.out _).mono ?_; rintro e wN ⟨rfl, hb⟩; have BwN := Lib.hid (BwQ.out.trans (hb.mono BwQ.out.size)); clear hb)
          | (go_at_call 18; refine (HFX.out _).mono ?_; rintro e wF ⟨rfl, hb⟩; have BwF := Lib.hid (BwN.out.trans (hb.mono BwN.out.size)); clear hb))
        go_wp2_with (first
          | (go_at_call 20; first
            | ((with_reducible refine (HNX.out _).mono ?_); rintro e wR ⟨rfl, hb⟩; have BwR := Lib.hid (BwF.out.trans (hb.mono BwF.out.size)); clear hb)
            | ((with_reducible refine (HNY.out _).mono ?_); rintro e wS ⟨rfl, hb⟩; have BwS := Lib.hid (BwR.out.trans (hb.mono BwR.out.size)); clear hb))
          | (go_at_call 13; refine (HKN.out _).mono ?_; rintro e wK ⟨rfl, hb⟩; have BwK := Lib.hid (BwS.out.trans (hb.mono BwS.out.size)); clear hb))
        go_ret
        exact ⟨rfl, BwK.out⟩
      · clear HS3
        go_upto_region 15 with (first
          | (go_at_call 10; refine (HMK.out _).mono ?_; rintro e wM ⟨rfl, hb⟩; have BwM := Lib.hid (Bw9.out.trans (hb.mono Bw9.out.size)); clear hb)
          | (go_at_call 11; refine (HCO.out _).mono ?_; rintro e wC ⟨rfl, hb⟩; have BwC := Lib.hid (BwM.out.trans (hb.mono BwM.out.size)); clear hb)
          | (go_at_call 22; first
            | ((with_reducible refine (HLP.out _).mono ?_); rintro e wL ⟨rfl, hb⟩; have BwL := Lib.hid (BwC.out.trans (hb.mono BwC.out.size)); clear hb)
            | ((with_reducible refine (HLQ.out _).mono ?_); rintro e wQ ⟨rfl, hb⟩; have BwQ := Lib.hid (BwL.out.trans (hb.mono BwL.out.size)); clear hb)))
        go_wp2_with (go_at_call 13; refine (HKN.out _).mono ?_; rintro e wK ⟨rfl, hb⟩; have BwK := Lib.hid (BwL.out.trans (hb.mono BwL.out.size)); clear hb)
        go_ret
        exact ⟨rfl, BwK.out⟩
      · clear HS3
        go_upto_region 15 with (first
          | (go_at_call 10; refine (HMK.out _).mono ?_; rintro e wM ⟨rfl, hb⟩; have BwM := Lib.hid (Bw9.out.trans (hb.mono Bw9.out.size)); clear hb)
          | (go_at_call 11; refine (HCO.out _).mono ?_; rintro e wC ⟨rfl, hb⟩; have BwC := Lib.hid (BwM.out.trans (hb.mono BwM.out.size)); clear hb)
          | (go_at_call 22; first
            | ((with_reducible refine (HLP.out _).mono ?_); rintro e wL ⟨rfl, hb⟩; have BwL := Lib.hid (BwC.out.trans (hb.mono BwC.out.size)); clear hb)
            | ((with_reducible refine (HLQ.out _).mono ?_); rintro e wQ ⟨rfl, hb⟩; have BwQ := Lib.hid (BwL.out.trans (hb.mono BwL.out.size)); clear hb)))
        go_wp2_with (go_at_call 13; refine (HKN.out _).mono ?_; rintro e wK ⟨rfl, hb⟩; have BwK := Lib.hid (BwQ.out.trans (hb.mono BwQ.out.size)); clear hb)
        go_ret
        exact ⟨rfl, BwK.out⟩
    · have DS := Lib.hid hds
      have D1 := Lib.hid hdd
      have HD2 := Lib.hid hd
      clear hds hdd hd HS2
      go_upto_region 7 with (first
        | ((with_reducible show wpList _ _ _ (⟨some 41, _, _, _, _, _⟩ :: _) _ _); refine wpList_loadA rfl AB3.out 41 (.tmp 5) rfl (by first | rfl | simp [Act.eval, Act.put]) hd5 hd6 (HSB.out _ BS.out) ?_)
        | (go_at_call 29; refine (HD2.out _).mono ?_; rintro e w6 ⟨rfl, hb⟩; have AB6 := Lib.hid (AB3.out.below hb); have Bw6 := Lib.hid (Bw3.out.trans (hb.mono Bw3.out.size)); clear hb)
        | ((with_reducible show wpList _ _ _ (⟨some 13, _, _, _, _, _⟩ :: _) _ _); refine wpList_alloc rfl _ rfl z ?_)
        | ((with_reducible show wpList _ _ _ (⟨none, .store _ (.tmp 13) _, _, _, _, _⟩ :: _) _ _); refine wpList_storeA rfl (b := w6.heap.size) (A := Z) (A' := D) (ArrAt.fresh _ _ _ ZP.out) 40 (.tmp 13) (.tmp 43) rfl rfl rfl (HSC.out _ ZS.out) (DS.out.trans ZS.out.symm) D1.out ?_))
      obtain ⟨w7, hw3⟩ : ∃ z, z = (w6.alloc (.cells Z 40)).setCells w6.heap.size 0 D.toList := ⟨_, rfl⟩
      obtain ⟨b11, hb3⟩ : ∃ z, z = w6.heap.size := ⟨_, rfl⟩
      rw [← hw3, ← hb3]
      have hbw3 : Below w6.heap.size w6 w7 := by rw [hw3]; exact bstore ((Below.refl _ _).alloc (Nat.le_refl _) _) _ (Nat.le_refl _) _ _
      have A11 := Lib.hid (show ArrAt w7 b11 D by rw [hw3, hb3]; exact (ArrAt.fresh _ _ _ (by rw [ZS.out]; omega)).store D (by rw [DS.out, ZS.out]))
      have AB7 := Lib.hid (AB6.out.below hbw3)
      have Bw7 := Lib.hid (Bw6.out.trans (hbw3.mono Bw6.out.size))
      clear hw3 hbw3 hb3
      clear AB6 Bw6 AC3 AB3 Bw3
      clear A11 AB7 z z64
      go_upto_region 11 with fail
      rcases HS3.out with ⟨rfl, rfl, X, Y, eb, hnx, hny, hfx, hpq, hxy⟩ | rfl | ⟨rfl, rfl⟩
      · have HNX := Lib.hid hnx
        have HNY := Lib.hid hny
        have HFX := Lib.hid hfx
        clear hnx hny hfx HS3
        go_upto_region 16 with (first
          | (go_at_call 10; refine (HMK.out _).mono ?_; rintro e wM ⟨rfl, hb⟩; have BwM := Lib.hid (Bw7.out.trans (hb.mono Bw7.out.size)); clear hb)
          | (go_at_call 11; refine (HCO.out _).mono ?_; rintro e wC ⟨rfl, hb⟩; have BwC := Lib.hid (BwM.out.trans (hb.mono BwM.out.size)); clear hb)
          | (go_at_call 22; first
            | ((with_reducible refine (HLP.out _).mono ?_); rintro e wL ⟨rfl, hb⟩; have BwL := Lib.hid (BwC.out.trans (hb.mono BwC.out.size)); clear hb)
            | ((with_reducible refine (HLQ.out _).mono ?_); rintro e wQ ⟨rfl, hb⟩; have BwQ := Lib.hid (BwL.out.trans (hb.mono BwL.out.size)); clear hb)))
        go_upto_region 17 with (first
          | (go_at_call 20; refine (HNX.out _).mono ?_; rintro e wN ⟨rfl, hb⟩; have BwN := Lib.hid (BwQ.out.trans (hb.mono BwQ.out.size)); clear hb)
          | (go_at_call 18; refine (HFX.out _).mono ?_; rintro e wF ⟨rfl, hb⟩; have BwF := Lib.hid (BwN.out.trans (hb.mono BwN.out.size)); clear hb))
        go_wp2_with (first
          | (go_at_call 20; first
            | ((with_reducible refine (HNX.out _).mono ?_); rintro e wR ⟨rfl, hb⟩; have BwR := Lib.hid (BwF.out.trans (hb.mono BwF.out.size)); clear hb)
            | ((with_reducible refine (HNY.out _).mono ?_); rintro e wS ⟨rfl, hb⟩; have BwS := Lib.hid (BwR.out.trans (hb.mono BwR.out.size)); clear hb))
          | (go_at_call 13; refine (HKN.out _).mono ?_; rintro e wK ⟨rfl, hb⟩; have BwK := Lib.hid (BwS.out.trans (hb.mono BwS.out.size)); clear hb))
        go_ret
        exact ⟨rfl, BwK.out⟩
      · clear HS3
        go_upto_region 15 with (first
          | (go_at_call 10; refine (HMK.out _).mono ?_; rintro e wM ⟨rfl, hb⟩; have BwM := Lib.hid (Bw7.out.trans (hb.mono Bw7.out.size)); clear hb)
          | (go_at_call 11; refine (HCO.out _).mono ?_; rintro e wC ⟨rfl, hb⟩; have BwC := Lib.hid (BwM.out.trans (hb.mono BwM.out.size)); clear hb)
          | (go_at_call 22; first
            | ((with_reducible refine (HLP.out _).mono ?_); rintro e wL ⟨rfl, hb⟩; have BwL := Lib.hid (BwC.out.trans (hb.mono BwC.out.size)); clear hb)
            | ((with_reducible refine (HLQ.out _).mono ?_); rintro e wQ ⟨rfl, hb⟩; have BwQ := Lib.hid (BwL.out.trans (hb.mono BwL.out.size)); clear hb)))
        go_wp2_with (go_at_call 13; refine (HKN.out _).mono ?_; rintro e wK ⟨rfl, hb⟩; have BwK := Lib.hid (BwL.out.trans (hb.mono BwL.out.size)); clear hb)
        go_ret
        exact ⟨rfl, BwK.out⟩
      · clear HS3
        go_upto_region 15 with (first
          | (go_at_call 10; refine (HMK.out _).mono ?_; rintro e wM ⟨rfl, hb⟩; have BwM := Lib.hid (Bw7.out.trans (hb.mono Bw7.out.size)); clear hb)
          | (go_at_call 11; refine (HCO.out _).mono ?_; rintro e wC ⟨rfl, hb⟩; have BwC := Lib.hid (BwM.out.trans (hb.mono BwM.out.size)); clear hb)
          | (go_at_call 22; first
            | ((with_reducible refine (HLP.out _).mono ?_); rintro e wL ⟨rfl, hb⟩; have BwL := Lib.hid (BwC.out.trans (hb.mono BwC.out.size)); clear hb)
            | ((with_reducible refine (HLQ.out _).mono ?_); rintro e wQ ⟨rfl, hb⟩; have BwQ := Lib.hid (BwL.out.trans (hb.mono BwL.out.size)); clear hb)))
        go_wp2_with (go_at_call 13; refine (HKN.out _).mono ?_; rintro e wK ⟨rfl, hb⟩; have BwK := Lib.hid (BwQ.out.trans (hb.mono BwQ.out.size)); clear hb)
        go_ret
        exact ⟨rfl, BwK.out⟩
end Go.Proofs.Ytiinjjfggmmkmaa
