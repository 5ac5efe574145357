/- queue: the chapter's examples hold. -/
import Derived.Test.YtpoeepdpoblfcaaEnds
namespace Go.Proofs.Ytpoeepdpoblfcaa
open Go.RowKit
attribute [local go_sem ↓] Go.wp_at_zero Go.wp_at_succ

theorem sNew2 (w : World) : Calls Try.prog 29 #[.int .i64 2] w fun e w' => ∃ v, e = .returned (.tuple #[v, .int .i64 0]) ∧ NewQ 91 3 2 0 0 true w v w' := sNew_ok 2 w (by omega) (by omega)
theorem fNew2 (w : World) : Calls Try.prog 11 #[.int .i64 2] w fun e w' => ∃ v, e = .returned (.tuple #[v, .int .i64 0]) ∧ NewQ 93 3 2 0 0 true w v w' := fNew_ok 2 w (by omega) (by omega)
theorem pNew2 (w : World) : Calls Try.prog 37 #[.int .i64 2] w fun e w' => ∃ v, e = .returned (.tuple #[v, .int .i64 0]) ∧ NewQ 96 4 2 0 0 true w v w' := pNew_ok 2 w (by omega) (by omega)
theorem lNew2 (w : World) : Calls Try.prog 23 #[.int .i64 2] w fun e w' => ∃ v, e = .returned (.tuple #[v, .int .i64 0]) ∧ NewQ 98 4 2 0 0 true w v w' := lNew_ok 2 w (by omega) (by omega)

section
variable (T g : Nat) (w : World)
theorem push1 (q : QAt T 3 w g 2 0 0 true) : Calls Try.prog 30 #[.pointer (some ⟨g, 0, none⟩), zCmd.v] w fun e w' => e = .returned (.tuple #[.int .i64 0, .agg (cmdE zCmd), .int .i64 0]) ∧ Keeps (One g) w w' ∧ QAt T 3 w' g 2 0 1 true := sPush_any T g 2 0 0 true zCmd w q zCmd_ok
theorem push2 (q : QAt T 3 w g 2 0 1 true) : Calls Try.prog 30 #[.pointer (some ⟨g, 0, none⟩), zCmd.v] w fun e w' => e = .returned (.tuple #[.int .i64 0, .agg (arr 64 z8), .int .i64 7]) ∧ Keeps (One g) w w' ∧ QAt T 3 w' g 2 0 1 true := sPush_any T g 2 0 1 true zCmd w q zCmd_ok
theorem head1 (q : QAt T 3 w g 2 0 1 true) : Calls Try.prog 33 #[.pointer (some ⟨g, 0, none⟩), .int .i64 1] w fun e w' => e = .returned (.int .i64 0) ∧ Keeps (One g) w w' ∧ QAt T 3 w' g 2 1 1 true := sHead_ok T 3 g 2 0 1 true 1 w q (by omega) (by decide)
theorem free1 (q : QAt T 3 w g 2 1 1 true) : Calls Try.prog 31 #[.pointer (some ⟨g, 0, none⟩)] w fun e w' => e = .returned (.int .i64 1) ∧ Below w.heap.size w w' := sFree_ok T 3 g 2 1 1 true w q
theorem fnext0 (q : QAt T 3 w g 2 0 0 true) : Calls Try.prog 15 #[.pointer (some ⟨g, 0, none⟩)] w fun e w' => e = .returned (.tuple #[.int .i64 0, .int .i64 9]) ∧ Below w.heap.size w w' := fNext_none T 3 g 2 0 0 true w q rfl
theorem fring2 (q : QAt T 3 w g 2 0 0 true) : Calls Try.prog 18 #[.pointer (some ⟨g, 0, none⟩), .int .i64 2] w fun e w' => e = .returned (.int .i64 3) ∧ Below w.heap.size w w' := fRing_no T 3 g 2 0 0 true 2 w q (.inr (by decide))
theorem fring1 (q : QAt T 3 w g 2 0 0 true) : Calls Try.prog 18 #[.pointer (some ⟨g, 0, none⟩), .int .i64 1] w fun e w' => e = .returned (.int .i64 0) ∧ Keeps (One g) w w' ∧ QAt T 3 w' g 2 0 1 true := fRing_ok T 3 g 2 0 0 true 1 w q (by omega) (by decide)
theorem fwait1 (q : QAt T 3 w g 2 0 1 true) : Calls Try.prog 20 #[.pointer (some ⟨g, 0, none⟩)] w fun e w' => e = .returned (.int .i64 1) ∧ Below w.heap.size w w' := fWaiting_ok T 3 g 2 0 1 true w q
theorem fnext1 (q : QAt T 3 w g 2 0 1 true) : Calls Try.prog 15 #[.pointer (some ⟨g, 0, none⟩)] w fun e w' => e = .returned (.tuple #[.int .i64 0, .int .i64 0]) ∧ Keeps (One g) w w' ∧ QAt T 3 w' g 2 1 1 true := fNext_ok T 3 g 2 0 1 true w q (by decide)
theorem fhead1 (q : QAt T 3 w g 2 1 1 true) : Calls Try.prog 19 #[.pointer (some ⟨g, 0, none⟩)] w fun e w' => e = .returned (.int .i64 1) ∧ Below w.heap.size w w' := fHead_ok T 3 g 2 1 1 true w q
theorem lpoll0 (q : QAt T 4 w g 2 0 0 true) : Calls Try.prog 24 #[.pointer (some ⟨g, 0, none⟩), .agg (arr 16 z16)] w fun e w' => e = .returned (.tuple #[zCpl.v, .bool false, .int .i64 0]) ∧ Keeps (One g) w w' ∧ QAt T 4 w' g 2 0 0 true := lPoll_any T g 2 0 0 true (fun _ => 0) w q (fun _ => by omega)
theorem lslot0 (q : QAt T 4 w g 2 0 0 true) : Calls Try.prog 26 #[.pointer (some ⟨g, 0, none⟩)] w fun e w' => e = .returned (.int .i64 0) ∧ Below w.heap.size w w' := lSlot_ok T 4 g 2 0 0 true w q
end

theorem keepB {S : Nat → Prop} {a b : World} (h : Below a.heap.size a b) : Keeps S a b := Keeps.of_below h
theorem fr64 (w : World) : ArrAt (w.alloc (.cells (arr 64 z8) 69)) w.heap.size (arr 64 z8) := ArrAt.fresh _ _ _ (by rw [arr_size]; omega)
theorem fr16 (w : World) : ArrAt (w.alloc (.cells (arr 16 z16) 44)) w.heap.size (arr 16 z16) := ArrAt.fresh _ _ _ (by rw [arr_size]; omega)
theorem sz64 : (Try.prog.info? 69).map (·.size) = some (arr 64 z8).size := by rw [arr_size]; exact size64
theorem sz16 : (Try.prog.info? 44).map (·.size) = some (arr 16 z16).size := by rw [arr_size]; exact size16
/-- what an array variable that is made and set costs -/
theorem set64 (w : World) (E : Array Value) : Below w.heap.size w ((w.alloc (.cells (arr 64 z8) 69)).setCells w.heap.size 0 E.toList) := bstore ((Below.refl _ _).alloc (Nat.le_refl _) _) _ (Nat.le_refl _) _ _
theorem set16 (w : World) (E : Array Value) : Below w.heap.size w ((w.alloc (.cells (arr 16 z16) 44)).setCells w.heap.size 0 E.toList) := bstore ((Below.refl _ _).alloc (Nat.le_refl _) _) _ (Nat.le_refl _) _ _
theorem setC (w : World) (E : Array Value) : Below w.heap.size w ((w.alloc (.cells (cArr 0 0) 43)).setCells w.heap.size 0 E.toList) := bstore ((Below.refl _ _).alloc (Nat.le_refl _) _) _ (Nat.le_refl _) _ _
theorem frC (w : World) : ArrAt (w.alloc (.cells (cArr 0 0) 43)) w.heap.size (cArr 0 0) := ArrAt.fresh _ _ _ (by simp [cArr])

set_option maxRecDepth 100000 in
set_option maxHeartbeats 8000000 in
theorem known_any (w : World) : Calls Try.prog 13 #[] w fun e w' => e = .returned (.bool true) ∧ Below w.heap.size w w' := by
  go_enter Try.func13, Try.ntmps13
  go_wp2_with fail
  refine (sNew2 _).mono ?_
  rintro e w1 ⟨v, rfl, gs, rfl, g0, hb1, hq1⟩
  have HQ1 := Lib.hid hq1
  have HB1 := Lib.hid hb1
  have hlt1 := hq1.lt
  have hs1 := hb1.size
  clear hq1 hb1
  go_wp2_with fail
  refine (fNew2 _).mono ?_
  rintro e w2 ⟨v, rfl, gf, rfl, g1, hb2, hq2⟩
  have HQ2 := Lib.hid hq2
  have HB2 := Lib.hid hb2
  have hlt2 := hq2.lt
  have hs2 := hb2.size
  clear hq2 hb2
  go_wp2_with fail
  refine (pNew2 _).mono ?_
  rintro e w3 ⟨v, rfl, gp, rfl, g2, hb3, hq3⟩
  have HQ3 := Lib.hid hq3
  have HB3 := Lib.hid hb3
  have hlt3 := hq3.lt
  have hs3 := hb3.size
  clear hq3 hb3
  go_wp2_with fail
  refine (lNew2 _).mono ?_
  rintro e w4 ⟨v, rfl, gl, rfl, g3, hb4, hq4⟩
  have E0 := Lib.hid (show Ends w w4 gs gf gp gl 2 0 0 0 0 0 0 true 0 0 true from
    ⟨HQ1.out.kept (S := fun _ => False) (((keepB HB2.out).trans (keepB HB3.out)).trans (keepB hb4)) (fun e => e), HQ2.out.kept (S := fun _ => False) ((keepB HB3.out).trans (keepB hb4)) (fun e => e), HQ3.out.below hb4, hq4,
      ((HB1.out.trans (HB2.out.mono hs1)).trans (HB3.out.mono (by omega))).trans (hb4.mono (by omega)), g0, by omega, by omega, by omega⟩)
  clear hb4 hq4 HQ1 HQ2 HQ3 HB1 HB2 HB3
  go_upto_region 8 with (first
    | ((with_reducible show wpList _ _ _ (⟨some 63, _, _, _, _, _⟩ :: _) _ _); refine wpList_build0 rfl 38 rfl (buildCmd _) ?_)
    | (go_at_call 30; refine (push1 _ _ _ E0.out.s).mono ?_; rintro e w5 ⟨rfl, hk, hq⟩; have E1' := Lib.hid (E0.out.sk hk hq); clear hk hq)
    | ((with_reducible show wpList _ _ _ (⟨some 10, _, _, _, _, _⟩ :: _) _ _); refine wpList_alloc rfl 69 rfl zero64 ?_; rw [show (Value.agg (arr 64 z8)).cells = arr 64 z8 from rfl])
    | ((with_reducible show wpList _ _ _ (⟨none, .store _ (.tmp 10) _, _, _, _, _⟩ :: _) _ _); refine wpList_storeA rfl (b := w5.heap.size) (A := arr 64 z8) (A' := cmdE zCmd) (fr64 w5) 69 (.tmp 10) (.tmp 66) rfl (by simp [Act.eval]) (by simp [Act.eval]) sz64 (by rw [arr_size, (cmdE_bytes _).size]) ((cmdE_bytes _).one) ?_))
  obtain ⟨w5', hw⟩ : ∃ x, x = (w5.alloc (.cells (arr 64 z8) 69)).setCells w5.heap.size 0 (cmdE zCmd).toList := ⟨_, rfl⟩
  rw [← hw]
  have E1 := Lib.hid (E1'.out.below (show Below w5.heap.size w5 w5' by rw [hw]; exact set64 _ _))
  clear hw
  go_upto_region 9 with (first
    | ((with_reducible show wpList _ _ _ (⟨some 70, _, _, _, _, _⟩ :: _) _ _); refine wpList_build0 rfl 38 rfl (buildCmd _) ?_)
    | (go_at_call 30; refine (push2 _ _ _ E1.out.s).mono ?_; rintro e w6 ⟨rfl, hk, hq⟩; have E2' := Lib.hid (E1.out.sk hk hq); clear hk hq)
    | ((with_reducible show wpList _ _ _ (⟨some 13, _, _, _, _, _⟩ :: _) _ _); refine wpList_alloc rfl 69 rfl zero64 ?_; rw [show (Value.agg (arr 64 z8)).cells = arr 64 z8 from rfl])
    | ((with_reducible show wpList _ _ _ (⟨none, .store _ (.tmp 13) _, _, _, _, _⟩ :: _) _ _); refine wpList_storeA rfl (b := w6.heap.size) (A := arr 64 z8) (A' := arr 64 z8) (fr64 w6) 69 (.tmp 13) (.tmp 73) rfl (by simp [Act.eval]) (by simp [Act.eval]) sz64 (rfl) (z8_one) ?_))
  obtain ⟨w6', hw⟩ : ∃ x, x = (w6.alloc (.cells (arr 64 z8) 69)).setCells w6.heap.size 0 (arr 64 z8).toList := ⟨_, rfl⟩
  rw [← hw]
  have E2 := Lib.hid (E2'.out.below (show Below w6.heap.size w6 w6' by rw [hw]; exact set64 _ _))
  clear hw
  go_upto_region 16 with (first
    | (go_at_call 33; refine (head1 _ _ _ E2.out.s).mono ?_; rintro e w7 ⟨rfl, hk, hq⟩; have E3 := Lib.hid (E2.out.sk hk hq); clear hk hq)
    | (go_at_call 31; refine (free1 _ _ _ E3.out.s).mono ?_; rintro e w8 ⟨rfl, hb⟩; have E4 := Lib.hid (E3.out.below hb); clear hb)
    | (go_at_call 18; with_reducible refine (fring1 _ _ _ E6.out.f).mono ?_; rintro e w11 ⟨rfl, hk, hq⟩; have E7 := Lib.hid (E6.out.fk hk hq); clear hk hq)
    | (go_at_call 18; refine (fring2 _ _ _ E5.out.f).mono ?_; rintro e w10 ⟨rfl, hb⟩; have E6 := Lib.hid (E5.out.below hb); clear hb)
    | (go_at_call 20; refine (fwait1 _ _ _ E7.out.f).mono ?_; rintro e w12 ⟨rfl, hb⟩; have E8 := Lib.hid (E7.out.below hb); clear hb)
    | (go_at_call 15; with_reducible refine (fnext1 _ _ _ E8.out.f).mono ?_; rintro e w13 ⟨rfl, hk, hq⟩; have E9 := Lib.hid (E8.out.fk hk hq); clear hk hq)
    | (go_at_call 15; refine (fnext0 _ _ _ E4.out.f).mono ?_; rintro e w9 ⟨rfl, hb⟩; have E5 := Lib.hid (E4.out.below hb); clear hb)
    | (go_at_call 19; refine (fhead1 _ _ _ E9.out.f).mono ?_; rintro e w14 ⟨rfl, hb⟩; have E10 := Lib.hid (E9.out.below hb); clear hb))
  have E11 := Lib.hid (show Ends w w14 gs gf gp gl 2 1 1 1 1 0 0 true 0 0 true from E10.out)
  go_wp2_with fail
  go_loopw [22] (fun i wr => ∃ k : Nat, k ≤ 3 ∧ i = .int .i64 k ∧ Ends w wr gs gf gp gl 2 1 1 1 1 (k % 2) (k % 2) (decide (k < 2)) 0 0 true) (fun i _ => 3 - (intOf i).toNat)
  case atStart => exact ⟨0, by omega, rfl, E11.out⟩
  case round =>
    obtain ⟨k, hk, rfl, he⟩ := hrel
    obtain ⟨m, hm⟩ : ∃ m, m = k % 2 := ⟨_, rfl⟩
    have hm2 : m < 2 := by omega
    have HM := Lib.hid hm
    rw [← hm] at he
    have ER := Lib.hid he
    clear he hm
    by_cases hlt : k < 3
    · obtain ⟨q, hq⟩ : ∃ q, q = decide (k < 2) := ⟨_, rfl⟩
      rw [← hq] at ER
      have HQ := Lib.hid hq
      have e1 : (k : Int) % 2 = (m : Int) := by have := HM.out; omega
      have e2 : ((k : Int) + 1) % 2 = ((1 - m : Nat) : Int) := by have := HM.out; omega
      have e3 : decide ((k : Int) < 2) = q := by rw [hq]; by_cases e : k < 2 <;> simp [e] <;> omega
      clear hq
      obtain ⟨D, hD⟩ : ∃ D, D = dCpl (cplB (zCpl.withPh q)) := ⟨_, rfl⟩
      have HDZ := Lib.hid (fun w => dec_zero q w)
      rw [← hD] at HDZ
      have hph : D.ph = q := by rw [hD]; exact dec_zero_ph q
      have HDC := Lib.hid (show D.cells[5]? = some (.bool q) by rw [← hph]; rfl)
      have HDS := Lib.hid (show (Try.prog.info? 43).map (·.size) = some D.cells.size from size10)
      clear hD hph
      have hu := Try.underlying44
      have hszE := (show (Try.prog.info? 44).map (·.size) = some (cplE (zCpl.withPh q)).size by rw [(cplE_bytes _).size]; exact size16)
      have HSE := Lib.hid hszE
      obtain ⟨X, hX⟩ : ∃ X, X = cplE (zCpl.withPh q) := ⟨_, rfl⟩
      have HXB := Lib.hid (cplE_bytes (zCpl.withPh q))
      have HPZ := Lib.hid fun w q' => post_zero 96 gp m q w q' hm2
      rw [← hX] at HDZ HSE HXB HPZ
      clear hX hszE
      go_upto_region 21 with (first
        | ((with_reducible show wpList _ _ _ (⟨some 144, _, _, _, _, _⟩ :: _) _ _); refine wpList_build0 rfl 43 rfl (buildCpl' _) ?_)
        | (go_at_call 38; refine (HPZ.out _ ER.out.p).mono ?_; rintro e w15 ⟨rfl, hk, hq⟩; have E12 := Lib.hid (ER.out.pk hk hq); clear hk hq)
        | ((with_reducible show wpList _ _ _ (⟨some 24, _, _, _, _, _⟩ :: _) _ _); refine wpList_alloc rfl 44 rfl zero16 ?_; rw [show (Value.agg (arr 16 z16)).cells = arr 16 z16 from rfl])
        | ((with_reducible show wpList _ _ _ (⟨none, .store _ (.tmp 24) _, _, _, _, _⟩ :: _) _ _); refine wpList_storeA rfl (b := w15.heap.size) (A := arr 16 z16) (A' := X) (fr16 w15) 44 (.tmp 24) (.tmp 147) rfl (by simp [Act.eval]) (by simp [Act.eval]) sz16 (by rw [arr_size, HXB.out.size]) HXB.out.one ?_))
      obtain ⟨w15', hw⟩ : ∃ x, x = (w15.alloc (.cells (arr 16 z16) 44)).setCells w15.heap.size 0 X.toList := ⟨_, rfl⟩
      rw [← hw]
      have A24 := Lib.hid (show ArrAt w15' w15.heap.size X by rw [hw]; exact (fr16 w15).store X (by rw [arr_size, HXB.out.size]))
      have E13 := Lib.hid (E12.out.below (show Below w15.heap.size w15 w15' by rw [hw]; exact set16 _ _))
      clear hw
      go_upto_region 22 with (first
        | ((with_reducible show wpList _ _ _ (⟨some 150, _, _, _, _, _⟩ :: _) _ _); refine wpList_loadA rfl A24.out 44 (.tmp 24) rfl rfl hu rfl HSE.out ?_)
        | (go_at_call 49; refine (HDZ.out _).mono ?_; rintro e w16 ⟨rfl, hb⟩; have E14 := Lib.hid (E13.out.below hb); clear hb)
        | ((with_reducible show wpList _ _ _ (⟨some 26, _, _, _, _, _⟩ :: _) _ _); refine wpList_alloc rfl 43 rfl zeroCpl ?_; rw [show (Value.agg (cArr 0 0)).cells = cArr 0 0 from rfl])
        | ((with_reducible show wpList _ _ _ (⟨none, .store _ (.tmp 26) _, _, _, _, _⟩ :: _) _ _); refine wpList_storeA rfl (b := w16.heap.size) (A := cArr 0 0) (A' := D.cells) (frC w16) 43 (.tmp 26) (.tmp 152) rfl (by simp [Act.eval, Act.put]) (by simp [Act.eval, Act.put]; rfl) size10 rfl (Cpl.cells_one _) ?_))
      obtain ⟨w17, hw⟩ : ∃ x, x = (w16.alloc (.cells (cArr 0 0) 43)).setCells w16.heap.size 0 D.cells.toList := ⟨_, rfl⟩
      rw [← hw]
      have A26 := Lib.hid (show ArrAt w17 w16.heap.size D.cells by rw [hw]; exact (frC w16).store D.cells rfl)
      have E15 := Lib.hid (E14.out.below (show Below w16.heap.size w16 w17 by rw [hw]; exact setC _ _))
      clear hw
      have c5 := A26.out.cell HDC.out
      have hm1 : 1 - m < 2 := by omega
      go_wp2_with (go_at_call 40; refine (ring_zero _ _ m _ _ E15.out.p hm2).mono ?_; rintro e w18 ⟨rfl, hk, hq⟩; have E16 := Lib.hid (E15.out.pk hk hq); clear hk hq)
      go_roundw
      case rel =>
        refine ⟨k + 1, by omega, by go_num, ?_⟩
        have h1 : (k + 1) % 2 = 1 - m := by have := HM.out; omega
        have h2 : decide (k + 1 < 2) = (q != decide (1 - m = 0)) := by
          rw [HQ.out]
          have := HM.out
          have : k = 0 ∨ k = 1 ∨ k = 2 := by omega
          rcases this with rfl | rfl | rfl
          · obtain rfl : m = 0 := by omega
            rfl
          · obtain rfl : m = 1 := by omega
            rfl
          · obtain rfl : m = 0 := by omega
            rfl
        rw [h1, h2]
        exact E16.out
      case measure => simp [intOf]; omega
    · obtain rfl : k = 3 := by omega
      go_upto_region 25 with (first
        | ((with_reducible show wpList _ _ _ (⟨some 183, _, _, _, _, _⟩ :: _) _ _); refine wpList_build0 rfl 44 rfl (build16 _) ?_)
        | (go_at_call 24; refine (lpoll0 _ _ _ ER.out.l).mono ?_; rintro e w15 ⟨rfl, hk, hq⟩; have E12 := Lib.hid (ER.out.lk hk hq); clear hk hq)
        | ((with_reducible show wpList _ _ _ (⟨some 28, _, _, _, _, _⟩ :: _) _ _); refine wpList_alloc rfl 43 rfl zeroCpl ?_; rw [show (Value.agg (cArr 0 0)).cells = cArr 0 0 from rfl])
        | ((with_reducible show wpList _ _ _ (⟨none, .store _ (.tmp 28) _, _, _, _, _⟩ :: _) _ _); refine wpList_storeA rfl (b := w15.heap.size) (A := cArr 0 0) (A' := zCpl.cells) (frC w15) 43 (.tmp 28) (.tmp 185) rfl (by simp [Act.eval, Act.put]) (by simp [Act.eval, Act.put]; rfl) size10 rfl (Cpl.cells_one _) ?_))
      obtain ⟨w17, hw⟩ : ∃ x, x = (w15.alloc (.cells (cArr 0 0) 43)).setCells w15.heap.size 0 zCpl.cells.toList := ⟨_, rfl⟩
      rw [← hw]
      have E15 := Lib.hid (E12.out.below (show Below w15.heap.size w15 w17 by rw [hw]; exact setC _ _))
      clear hw
      go_wp2_with (go_at_call 26; refine (lslot0 _ _ _ E15.out.l).mono ?_; rintro e w18 ⟨rfl, hb⟩; have E16 := Lib.hid (E15.out.below hb); clear hb)
      go_ret
      exact ⟨rfl, E16.out.b⟩
end Go.Proofs.Ytpoeepdpoblfcaa
