/- queue: the reference's Push. -/
import Derived.Test.YtpoeepdpoblfcaaPush
set_option linter.unusedVariables false
namespace Go.Proofs.Ytpoeepdpoblfcaa
open Go.RowKit
attribute [local go_sem ↓] Go.wp_at_zero Go.wp_at_succ

/-- The blocks that the reference's Push makes first. -/
theorem rs_start (n h t : Nat) (ph : Bool) (cs : Array Value) (w W : World) (hcs : cs.size = 16) (hW : W = (((w.alloc (.cells #[.int .i64 n, .int .i64 h, .int .i64 t, .bool ph] 30)).alloc (.cells cs 38)).alloc (.cells #[.int .i64 0, .int .i64 0, .int .i64 0, .bool false] 30)).alloc (.cells (arr 64 z8) 69)) :
    ArrAt W w.heap.size #[.int .i64 n, .int .i64 h, .int .i64 t, .bool ph] ∧ ArrAt W (w.heap.size + 1) cs ∧ ArrAt W (w.heap.size + 1 + 1) #[.int .i64 0, .int .i64 0, .int .i64 0, .bool false] ∧ ArrAt W (w.heap.size + 1 + 1 + 1) (arr 64 z8) ∧ Below w.heap.size w W ∧ W.heap.size = w.heap.size + 4 := by
  subst hW
  obtain ⟨w1, h1⟩ : ∃ w1, w1 = w.alloc (.cells #[.int .i64 n, .int .i64 h, .int .i64 t, .bool ph] 30) := ⟨_, rfl⟩
  obtain ⟨w2, h2⟩ : ∃ w2, w2 = w1.alloc (.cells cs 38) := ⟨_, rfl⟩
  obtain ⟨w3, h3⟩ : ∃ w3, w3 = w2.alloc (.cells #[.int .i64 0, .int .i64 0, .int .i64 0, .bool false] 30) := ⟨_, rfl⟩
  obtain ⟨w4, h4⟩ : ∃ w4, w4 = w3.alloc (.cells (arr 64 z8) 69) := ⟨_, rfl⟩
  have s1 : w1.heap.size = w.heap.size + 1 := by rw [h1]; simp
  have s2 : w2.heap.size = w.heap.size + 1 + 1 := by rw [h2]; simp [s1]
  have s3 : w3.heap.size = w.heap.size + 1 + 1 + 1 := by rw [h3]; simp [s2]
  have s4 : w4.heap.size = w.heap.size + 1 + 1 + 1 + 1 := by rw [h4]; simp [s3]
  rw [← h1, ← h2, ← h3, ← h4]
  have a1 : ArrAt w1 w.heap.size #[.int .i64 n, .int .i64 h, .int .i64 t, .bool ph] := by rw [h1]; exact ArrAt.fresh _ _ _ (by simp)
  have a2 : ArrAt w2 (w.heap.size + 1) cs := by rw [h2, ← s1]; exact ArrAt.fresh _ _ _ (by omega)
  have a3 : ArrAt w3 (w.heap.size + 1 + 1) #[.int .i64 0, .int .i64 0, .int .i64 0, .bool false] := by rw [h3, ← s2]; exact ArrAt.fresh _ _ _ (by simp)
  have a4 : ArrAt w4 (w.heap.size + 1 + 1 + 1) (arr 64 z8) := by rw [h4, ← s3]; exact ArrAt.fresh _ _ _ (by rw [arr_size]; omega)
  refine ⟨?_, ?_, ?_, a4, ?_, by omega⟩
  · rw [h4]; refine ArrAt.alloc ?_ _; rw [h3]; refine ArrAt.alloc ?_ _; rw [h2]; exact a1.alloc _
  · rw [h4]; refine ArrAt.alloc ?_ _; rw [h3]; exact a2.alloc _
  · rw [h4]; exact a3.alloc _
  · rw [h4]; refine Below.alloc ?_ (by omega) _
    rw [h3]; refine Below.alloc ?_ (by omega) _
    rw [h2]; refine Below.alloc ?_ (by omega) _
    rw [h1]; exact (Below.refl _ _).alloc (Nat.le_refl _) _

set_option maxRecDepth 100000 in
set_option maxHeartbeats 4000000 in
theorem rPush_err (n h t : Nat) (ph : Bool) (cs E : Array Value) (w : World) (hn : 2 ≤ n) (hn' : n ≤ 4096) (hh : h < n) (ht : t < n) (hcs : cs.size = 16) (hE : E.size = 64) (h1 : E.all (·.oneCell') = true)
    (hC : ∀ w, Calls Try.prog 67 #[.agg cs] w fun e w' => e = .returned (.tuple #[.agg E, .int .i64 2]) ∧ Below w.heap.size w w') :
    Calls Try.prog 34 #[.agg #[.int .i64 n, .int .i64 h, .int .i64 t, .bool ph], .agg cs] w fun e w' => e = .returned (.tuple #[.agg #[.int .i64 n, .int .i64 h, .int .i64 t, .bool ph], .int .i64 0, .agg (arr 64 z8), .int .i64 2]) ∧ Below w.heap.size w w' := by
  have HCS := Lib.hid hcs
  have HE := Lib.hid hE
  have HE1 := Lib.hid h1
  have HC := Lib.hid hC
  have HST := Lib.hid (rs_start n h t ph cs w)
  have hu := Try.underlying69
  have hu2 := Try.underlying38
  obtain ⟨AZ, hAZ⟩ : ∃ AZ, AZ = arr 64 z8 := ⟨_, rfl⟩
  have hZS : AZ.size = 64 := by rw [hAZ, arr_size]
  have hZ1 : AZ.all (·.oneCell') = true := by rw [hAZ]; exact z8_one
  have hz0 : ∀ w, (zeroValue 69).run Try.prog w = .ok (.agg AZ) w := by rw [hAZ]; exact zero64
  have hb0 : ∀ w, (Instr.build 69 #[]).run Try.prog w = .ok (.agg AZ) w := by rw [hAZ]; exact build64
  rw [← hAZ] at HST ⊢
  have HZ := Lib.hid hAZ
  have HZS := Lib.hid hZS
  have HZ1 := Lib.hid hZ1
  have HZ0 := Lib.hid hz0
  have HB0 := Lib.hid hb0
  have hsz : (Try.prog.info? 69).map (·.size) = some AZ.size := by rw [hZS]; exact size64
  have hszE : (Try.prog.info? 69).map (·.size) = some E.size := by rw [hE]; exact size64
  have hszC : (Try.prog.info? 38).map (·.size) = some cs.size := by rw [hcs]; exact size_cmd
  have HSZ := Lib.hid hsz
  have HSZE := Lib.hid hszE
  have HSZC := Lib.hid hszC
  clear hcs hE h1 hC hAZ hZS hZ1 hz0 hb0 hsz hszE hszC
  have HFR := Lib.hid (show ∀ w : World, ArrAt (w.alloc (.cells AZ 69)) w.heap.size AZ from fun w => ArrAt.fresh w AZ 69 (by rw [HZS.out]; omega))
  go_enter Try.func34, Try.ntmps34
  go_upto_region 1 with ((with_reducible show wpList _ _ _ (⟨some 6, _, _, _, _, _⟩ :: _) _ _); refine wpList_alloc rfl 69 rfl HZ0.out ?_; rw [show (Value.agg AZ).cells = AZ from rfl])
  obtain ⟨W, hW⟩ : ∃ W, W = (((w.alloc (.cells #[.int .i64 n, .int .i64 h, .int .i64 t, .bool ph] 30)).alloc (.cells cs 38)).alloc (.cells #[.int .i64 0, .int .i64 0, .int .i64 0, .bool false] 30)).alloc (.cells AZ 69) := ⟨_, rfl⟩
  rw [← hW]
  obtain ⟨a2, a3, a4, a6, hbW, hsW⟩ := HST.out W HCS.out hW
  have A2 := Lib.hid a2
  have A3 := Lib.hid a3
  have A4 := Lib.hid a4
  have A6 := Lib.hid a6
  have HBW := Lib.hid hbW
  have hsW' : w.heap.size + 4 ≤ W.heap.size := by omega
  clear hsW hW hbW a2 a3 a4 a6
  go_upto_region 2 with (first
    | ((with_reducible show wpList _ _ _ (⟨some 12, _, _, _, _, _⟩ :: _) _ _); refine wpList_loadA rfl A3.out 38 (.tmp 3) rfl rfl hu2 rfl HSZC.out ?_)
    | (go_at_call 67; refine (HC.out _).mono ?_; rintro e w2 ⟨rfl, hb2⟩; have A22 := Lib.hid (A2.out.below hb2); have A42 := Lib.hid (A4.out.below hb2); have A62 := Lib.hid (A6.out.below hb2); have hs2 := hb2.size; have HB2 := Lib.hid (HBW.out.trans (hb2.mono (by omega))); clear hb2)
    | ((with_reducible show wpList _ _ _ (⟨some 8, _, _, _, _, _⟩ :: _) _ _); refine wpList_alloc rfl 69 rfl HZ0.out ?_; rw [show (Value.agg AZ).cells = AZ from rfl])
    | ((with_reducible show wpList _ _ _ (⟨none, _, _, _, _, _⟩ :: _) _ _); refine wpList_storeA rfl (b := w2.heap.size) (A := AZ) (A' := E) (HFR.out w2) 69 (.tmp 8) (.tmp 14) rfl rfl (by simp [Act.eval, Act.put]) HSZ.out (by rw [HE.out, HZS.out]) HE1.out ?_))
  obtain ⟨w3, hw3⟩ : ∃ w3, w3 = (w2.alloc (.cells AZ 69)).setCells w2.heap.size 0 E.toList := ⟨_, rfl⟩
  rw [← hw3]
  have kk : Below w2.heap.size w2 w3 := by rw [hw3]; exact bstore ((Below.refl _ _).alloc (Nat.le_refl _) _) _ (Nat.le_refl _) _ _
  have A8' := Lib.hid (show ArrAt w3 w2.heap.size E by rw [hw3]; exact (ArrAt.fresh w2 AZ 69 (by rw [HZS.out]; omega)).store E (by rw [HE.out, HZS.out]))
  have A2' := Lib.hid (A22.out.below kk)
  have A4' := Lib.hid (A42.out.below kk)
  have A6' := Lib.hid (A62.out.below kk)
  have HB3 := Lib.hid (HB2.out.trans (kk.mono (by omega)))
  have hs3 := kk.size
  clear kk hw3
  have q0 : w3.cell? ⟨w.heap.size, 0, none⟩ = some (.int .i64 n) := A2'.out.cell rfl
  have q1 : w3.cell? ⟨w.heap.size, 1, none⟩ = some (.int .i64 h) := A2'.out.cell rfl
  have q2 : w3.cell? ⟨w.heap.size, 2, none⟩ = some (.int .i64 t) := A2'.out.cell rfl
  have q3 : w3.cell? ⟨w.heap.size, 3, none⟩ = some (.bool ph) := A2'.out.cell rfl
  have f0 : w3.frozen? ⟨w.heap.size, 0, none⟩ = false := A2'.out.frozen (by simp)
  have f1 : w3.frozen? ⟨w.heap.size, 1, none⟩ = false := A2'.out.frozen (by simp)
  have f2 : w3.frozen? ⟨w.heap.size, 2, none⟩ = false := A2'.out.frozen (by simp)
  have f3 : w3.frozen? ⟨w.heap.size, 3, none⟩ = false := A2'.out.frozen (by simp)
  have r0 : w3.cell? ⟨w.heap.size + 1 + 1, 0, none⟩ = some (.int .i64 0) := A4'.out.cell rfl
  have r1 : w3.cell? ⟨w.heap.size + 1 + 1, 1, none⟩ = some (.int .i64 0) := A4'.out.cell rfl
  have r2 : w3.cell? ⟨w.heap.size + 1 + 1, 2, none⟩ = some (.int .i64 0) := A4'.out.cell rfl
  have r3 : w3.cell? ⟨w.heap.size + 1 + 1, 3, none⟩ = some (.bool false) := A4'.out.cell rfl
  have z0 : w3.frozen? ⟨w.heap.size + 1 + 1, 0, none⟩ = false := A4'.out.frozen (by simp)
  have z1 : w3.frozen? ⟨w.heap.size + 1 + 1, 1, none⟩ = false := A4'.out.frozen (by simp)
  have z2 : w3.frozen? ⟨w.heap.size + 1 + 1, 2, none⟩ = false := A4'.out.frozen (by simp)
  have z3 : w3.frozen? ⟨w.heap.size + 1 + 1, 3, none⟩ = false := A4'.out.frozen (by simp)
  have H6S := Lib.hid (show ArrAt ((((w3.setCell ⟨w.heap.size + 1 + 1, 0, none⟩ (.int .i64 n)).setCell ⟨w.heap.size + 1 + 1, 1, none⟩ (.int .i64 h)).setCell ⟨w.heap.size + 1 + 1, 2, none⟩ (.int .i64 t)).setCell ⟨w.heap.size + 1 + 1, 3, none⟩ (.bool ph)) (w.heap.size + 1 + 1 + 1) AZ from A6'.out.kept (S := One (w.heap.size + 1 + 1)) (((((Keeps.refl _ _).set1 _ _).set1 _ _).set1 _ _).set1 _ _) (fun e => by have e : w.heap.size + 1 + 1 + 1 = w.heap.size + 1 + 1 := e; omega))
  have H4S := Lib.hid (show ArrAt ((((w3.setCell ⟨w.heap.size + 1 + 1, 0, none⟩ (.int .i64 n)).setCell ⟨w.heap.size + 1 + 1, 1, none⟩ (.int .i64 h)).setCell ⟨w.heap.size + 1 + 1, 2, none⟩ (.int .i64 t)).setCell ⟨w.heap.size + 1 + 1, 3, none⟩ (.bool ph)) (w.heap.size + 1 + 1) #[.int .i64 n, .int .i64 h, .int .i64 t, .bool ph] from ((((A4'.out.set 0 (.int .i64 n) (by simp)).set 1 (.int .i64 h) (by simp)).set 2 (.int .i64 t) (by simp)).set 3 (.bool ph) (by simp)))
  go_wp2_with (first
    | ((with_reducible show wpList _ _ _ (⟨some 19, _, _, _, _, _⟩ :: _) _ _); refine wpList_build0 rfl 69 rfl (HB0.out _) ?_)
    | ((with_reducible show wpList _ _ _ (⟨none, .store _ (.tmp 6) _, _, _, _, _⟩ :: _) _ _); refine wpList_storeA rfl (b := w.heap.size + 1 + 1 + 1) (A := AZ) (A' := AZ) H6S.out 69 (.tmp 6) (.tmp 19) rfl rfl (by simp [Act.eval]) HSZ.out rfl HZ1.out ?_))
  have H6F := Lib.hid (H6S.out.store AZ rfl)
  have H4F := Lib.hid (H4S.out.kept (Keeps.setCells AZ.toList (Keeps.refl (One (w.heap.size + 1 + 1 + 1)) _) 0) (fun e => by have e : w.heap.size + 1 + 1 = w.heap.size + 1 + 1 + 1 := e; omega))
  obtain ⟨dE, hdE, hdR⟩ := underEnd
  refine bodyPost_ret (results_ctct rfl _ _ _ H4F.out H6F.out rfl hdE hdR sizeEnd rfl hu rfl HSZ.out) rfl ⟨rfl, bstore ?_ _ (by omega) _ _⟩
  exact bset (bset (bset (bset HB3.out _ _ (by omega) _) _ _ (by omega) _) _ _ (by omega) _) _ _ (by omega) _

set_option maxRecDepth 100000 in
set_option maxHeartbeats 4000000 in
theorem rPush_full (n h t : Nat) (ph : Bool) (cs E : Array Value) (w : World) (hn : 2 ≤ n) (hn' : n ≤ 4096) (hh : h < n) (ht : t < n) (hcs : cs.size = 16) (hE : E.size = 64) (h1 : E.all (·.oneCell') = true) (hb : decide (usd n h t = n - 1) = true)
    (hC : ∀ w, Calls Try.prog 67 #[.agg cs] w fun e w' => e = .returned (.tuple #[.agg E, .int .i64 0]) ∧ Below w.heap.size w w') :
    Calls Try.prog 34 #[.agg #[.int .i64 n, .int .i64 h, .int .i64 t, .bool ph], .agg cs] w fun e w' => e = .returned (.tuple #[.agg #[.int .i64 n, .int .i64 h, .int .i64 t, .bool ph], .int .i64 0, .agg (arr 64 z8), .int .i64 7]) ∧ Below w.heap.size w w' := by
  have HCS := Lib.hid hcs
  have HE := Lib.hid hE
  have HE1 := Lib.hid h1
  have HC := Lib.hid hC
  have HST := Lib.hid (rs_start n h t ph cs w)
  have HF := Lib.hid hb
  have hu := Try.underlying69
  have hu2 := Try.underlying38
  obtain ⟨AZ, hAZ⟩ : ∃ AZ, AZ = arr 64 z8 := ⟨_, rfl⟩
  have hZS : AZ.size = 64 := by rw [hAZ, arr_size]
  have hZ1 : AZ.all (·.oneCell') = true := by rw [hAZ]; exact z8_one
  have hz0 : ∀ w, (zeroValue 69).run Try.prog w = .ok (.agg AZ) w := by rw [hAZ]; exact zero64
  have hb0 : ∀ w, (Instr.build 69 #[]).run Try.prog w = .ok (.agg AZ) w := by rw [hAZ]; exact build64
  rw [← hAZ] at HST ⊢
  have HZ := Lib.hid hAZ
  have HZS := Lib.hid hZS
  have HZ1 := Lib.hid hZ1
  have HZ0 := Lib.hid hz0
  have HB0 := Lib.hid hb0
  have hsz : (Try.prog.info? 69).map (·.size) = some AZ.size := by rw [hZS]; exact size64
  have hszE : (Try.prog.info? 69).map (·.size) = some E.size := by rw [hE]; exact size64
  have hszC : (Try.prog.info? 38).map (·.size) = some cs.size := by rw [hcs]; exact size_cmd
  have HSZ := Lib.hid hsz
  have HSZE := Lib.hid hszE
  have HSZC := Lib.hid hszC
  clear hcs hE h1 hC hAZ hZS hZ1 hz0 hb0 hsz hszE hszC hb
  have HFR := Lib.hid (show ∀ w : World, ArrAt (w.alloc (.cells AZ 69)) w.heap.size AZ from fun w => ArrAt.fresh w AZ 69 (by rw [HZS.out]; omega))
  go_enter Try.func34, Try.ntmps34
  go_upto_region 1 with ((with_reducible show wpList _ _ _ (⟨some 6, _, _, _, _, _⟩ :: _) _ _); refine wpList_alloc rfl 69 rfl HZ0.out ?_; rw [show (Value.agg AZ).cells = AZ from rfl])
  obtain ⟨W, hW⟩ : ∃ W, W = (((w.alloc (.cells #[.int .i64 n, .int .i64 h, .int .i64 t, .bool ph] 30)).alloc (.cells cs 38)).alloc (.cells #[.int .i64 0, .int .i64 0, .int .i64 0, .bool false] 30)).alloc (.cells AZ 69) := ⟨_, rfl⟩
  rw [← hW]
  obtain ⟨a2, a3, a4, a6, hbW, hsW⟩ := HST.out W HCS.out hW
  have A2 := Lib.hid a2
  have A3 := Lib.hid a3
  have A4 := Lib.hid a4
  have A6 := Lib.hid a6
  have HBW := Lib.hid hbW
  have hsW' : w.heap.size + 4 ≤ W.heap.size := by omega
  clear hsW hW hbW a2 a3 a4 a6
  go_upto_region 2 with (first
    | ((with_reducible show wpList _ _ _ (⟨some 12, _, _, _, _, _⟩ :: _) _ _); refine wpList_loadA rfl A3.out 38 (.tmp 3) rfl rfl hu2 rfl HSZC.out ?_)
    | (go_at_call 67; refine (HC.out _).mono ?_; rintro e w2 ⟨rfl, hb2⟩; have A22 := Lib.hid (A2.out.below hb2); have A42 := Lib.hid (A4.out.below hb2); have A62 := Lib.hid (A6.out.below hb2); have hs2 := hb2.size; have HB2 := Lib.hid (HBW.out.trans (hb2.mono (by omega))); clear hb2)
    | ((with_reducible show wpList _ _ _ (⟨some 8, _, _, _, _, _⟩ :: _) _ _); refine wpList_alloc rfl 69 rfl HZ0.out ?_; rw [show (Value.agg AZ).cells = AZ from rfl])
    | ((with_reducible show wpList _ _ _ (⟨none, _, _, _, _, _⟩ :: _) _ _); refine wpList_storeA rfl (b := w2.heap.size) (A := AZ) (A' := E) (HFR.out w2) 69 (.tmp 8) (.tmp 14) rfl rfl (by simp [Act.eval, Act.put]) HSZ.out (by rw [HE.out, HZS.out]) HE1.out ?_))
  obtain ⟨w3, hw3⟩ : ∃ w3, w3 = (w2.alloc (.cells AZ 69)).setCells w2.heap.size 0 E.toList := ⟨_, rfl⟩
  rw [← hw3]
  have kk : Below w2.heap.size w2 w3 := by rw [hw3]; exact bstore ((Below.refl _ _).alloc (Nat.le_refl _) _) _ (Nat.le_refl _) _ _
  have A8' := Lib.hid (show ArrAt w3 w2.heap.size E by rw [hw3]; exact (ArrAt.fresh w2 AZ 69 (by rw [HZS.out]; omega)).store E (by rw [HE.out, HZS.out]))
  have A2' := Lib.hid (A22.out.below kk)
  have A4' := Lib.hid (A42.out.below kk)
  have A6' := Lib.hid (A62.out.below kk)
  have HB3 := Lib.hid (HB2.out.trans (kk.mono (by omega)))
  have hs3 := kk.size
  clear kk hw3
  go_upto_region 4 with (fail)
  obtain ⟨u, hu'⟩ : ∃ u, u = usd n h t := ⟨_, rfl⟩
  have HU := Lib.hid hu'
  have e1 : ((u : Int) == (n : Int) - 1) = true := by
    have := HF.out
    rw [← hu'] at this
    by_cases e : u = n - 1
    · rw [decide_eq_true e] at this; first | (simp; omega) | cases this
    · rw [decide_eq_false e] at this; first | (simp; omega) | cases this
  have HCU := Lib.hid fun w => rUsed_ok n h t ph w hn hn' hh ht
  rw [← hu'] at HCU
  have hlw : w.heap.size < w3.heap.size := by omega
  have c0 : w3.cell? ⟨w.heap.size, 0, none⟩ = some (.int .i64 n) := A2'.out.cell rfl
  have c1 : w3.cell? ⟨w.heap.size, 1, none⟩ = some (.int .i64 h) := A2'.out.cell rfl
  have c2 : w3.cell? ⟨w.heap.size, 2, none⟩ = some (.int .i64 t) := A2'.out.cell rfl
  have c3 : w3.cell? ⟨w.heap.size, 3, none⟩ = some (.bool ph) := A2'.out.cell rfl
  clear hu'
  have hq0 : ∀ p : InC (Below w3.heap.size w3), p.w.cell? ⟨w.heap.size, 0, none⟩ = some (.int .i64 n) := fun p => (p.ok.cell (hlw)).trans (c0)
  have hq1 : ∀ p : InC (Below w3.heap.size w3), p.w.cell? ⟨w.heap.size, 1, none⟩ = some (.int .i64 h) := fun p => (p.ok.cell (hlw)).trans (c1)
  have hq2 : ∀ p : InC (Below w3.heap.size w3), p.w.cell? ⟨w.heap.size, 2, none⟩ = some (.int .i64 t) := fun p => (p.ok.cell (hlw)).trans (c2)
  have hq3 : ∀ p : InC (Below w3.heap.size w3), p.w.cell? ⟨w.heap.size, 3, none⟩ = some (.bool ph) := fun p => (p.ok.cell (hlw)).trans (c3)
  have HE3 : Hid (∀ p : InC (Below w3.heap.size w3), Calls Try.prog 21 #[.agg #[.int .i64 n, .int .i64 h, .int .i64 t, .bool ph]] p.w fun e w' => e = .returned (.int .i64 u) ∧ Below w3.heap.size w3 w') :=
    Lib.hid fun p => (HCU.out p.w).mono fun e w' k => ⟨k.1, p.ok.trans (k.2.mono p.ok.size)⟩
  have hNE : Nonempty (InC (Below w3.heap.size w3)) := ⟨⟨w3, Below.refl _ _⟩⟩
  clear c0 c1 c2 c3
  refine wp_quiet_in (Below w3.heap.size w3) (Below.refl _ _).drew (by kernel_rfl) (by kernel_rfl) ?_
  repeat (go_big_quiet_step (first | (with_reducible exact calls_in (HE3.out _))))
  refine wpQuiet_nil ?_
  intro _ hw'
  obtain ⟨p, hw''⟩ := hw'
  subst hw''
  have A24 := Lib.hid (A2'.out.below p.ok)
  have A44 := Lib.hid (A4'.out.below p.ok)
  have A64 := Lib.hid (A6'.out.below p.ok)
  have A84 := Lib.hid (A8'.out.below p.ok)
  have HB4 := Lib.hid (HB3.out.trans (p.ok.mono (by omega)))
  have hs4 := p.ok.size
  generalize p.w = W4 at *
  clear hq0 hq1 hq2 hq3 hNE HE3
  go_upto_region 5 with (fail)
  have q0 : W4.cell? ⟨w.heap.size, 0, none⟩ = some (.int .i64 n) := A24.out.cell rfl
  have q1 : W4.cell? ⟨w.heap.size, 1, none⟩ = some (.int .i64 h) := A24.out.cell rfl
  have q2 : W4.cell? ⟨w.heap.size, 2, none⟩ = some (.int .i64 t) := A24.out.cell rfl
  have q3 : W4.cell? ⟨w.heap.size, 3, none⟩ = some (.bool ph) := A24.out.cell rfl
  have f0 : W4.frozen? ⟨w.heap.size, 0, none⟩ = false := A24.out.frozen (by simp)
  have f1 : W4.frozen? ⟨w.heap.size, 1, none⟩ = false := A24.out.frozen (by simp)
  have f2 : W4.frozen? ⟨w.heap.size, 2, none⟩ = false := A24.out.frozen (by simp)
  have f3 : W4.frozen? ⟨w.heap.size, 3, none⟩ = false := A24.out.frozen (by simp)
  have r0 : W4.cell? ⟨w.heap.size + 1 + 1, 0, none⟩ = some (.int .i64 0) := A44.out.cell rfl
  have r1 : W4.cell? ⟨w.heap.size + 1 + 1, 1, none⟩ = some (.int .i64 0) := A44.out.cell rfl
  have r2 : W4.cell? ⟨w.heap.size + 1 + 1, 2, none⟩ = some (.int .i64 0) := A44.out.cell rfl
  have r3 : W4.cell? ⟨w.heap.size + 1 + 1, 3, none⟩ = some (.bool false) := A44.out.cell rfl
  have z0 : W4.frozen? ⟨w.heap.size + 1 + 1, 0, none⟩ = false := A44.out.frozen (by simp)
  have z1 : W4.frozen? ⟨w.heap.size + 1 + 1, 1, none⟩ = false := A44.out.frozen (by simp)
  have z2 : W4.frozen? ⟨w.heap.size + 1 + 1, 2, none⟩ = false := A44.out.frozen (by simp)
  have z3 : W4.frozen? ⟨w.heap.size + 1 + 1, 3, none⟩ = false := A44.out.frozen (by simp)
  have H6S := Lib.hid (show ArrAt ((((W4.setCell ⟨w.heap.size + 1 + 1, 0, none⟩ (.int .i64 n)).setCell ⟨w.heap.size + 1 + 1, 1, none⟩ (.int .i64 h)).setCell ⟨w.heap.size + 1 + 1, 2, none⟩ (.int .i64 t)).setCell ⟨w.heap.size + 1 + 1, 3, none⟩ (.bool ph)) (w.heap.size + 1 + 1 + 1) AZ from A64.out.kept (S := One (w.heap.size + 1 + 1)) (((((Keeps.refl _ _).set1 _ _).set1 _ _).set1 _ _).set1 _ _) (fun e => by have e : w.heap.size + 1 + 1 + 1 = w.heap.size + 1 + 1 := e; omega))
  have H4S := Lib.hid (show ArrAt ((((W4.setCell ⟨w.heap.size + 1 + 1, 0, none⟩ (.int .i64 n)).setCell ⟨w.heap.size + 1 + 1, 1, none⟩ (.int .i64 h)).setCell ⟨w.heap.size + 1 + 1, 2, none⟩ (.int .i64 t)).setCell ⟨w.heap.size + 1 + 1, 3, none⟩ (.bool ph)) (w.heap.size + 1 + 1) #[.int .i64 n, .int .i64 h, .int .i64 t, .bool ph] from ((((A44.out.set 0 (.int .i64 n) (by simp)).set 1 (.int .i64 h) (by simp)).set 2 (.int .i64 t) (by simp)).set 3 (.bool ph) (by simp)))
  go_wp2_with (first
    | ((with_reducible show wpList _ _ _ (⟨some 27, _, _, _, _, _⟩ :: _) _ _); refine wpList_build0 rfl 69 rfl (HB0.out _) ?_)
    | ((with_reducible show wpList _ _ _ (⟨none, .store _ (.tmp 6) _, _, _, _, _⟩ :: _) _ _); refine wpList_storeA rfl (b := w.heap.size + 1 + 1 + 1) (A := AZ) (A' := AZ) H6S.out 69 (.tmp 6) (.tmp 27) rfl rfl (by simp [Act.eval]) HSZ.out rfl HZ1.out ?_))
  have H6F := Lib.hid (H6S.out.store AZ rfl)
  have H4F := Lib.hid (H4S.out.kept (Keeps.setCells AZ.toList (Keeps.refl (One (w.heap.size + 1 + 1 + 1)) _) 0) (fun e => by have e : w.heap.size + 1 + 1 = w.heap.size + 1 + 1 + 1 := e; omega))
  obtain ⟨dE, hdE, hdR⟩ := underEnd
  refine bodyPost_ret (results_ctct rfl _ _ _ H4F.out H6F.out rfl hdE hdR sizeEnd rfl hu rfl HSZ.out) rfl ⟨rfl, bstore ?_ _ (by omega) _ _⟩
  exact bset (bset (bset (bset HB4.out _ _ (by omega) _) _ _ (by omega) _) _ _ (by omega) _) _ _ (by omega) _

set_option maxRecDepth 100000 in
set_option maxHeartbeats 4000000 in
theorem rPush_ok (n h t : Nat) (ph : Bool) (cs E : Array Value) (w : World) (hn : 2 ≤ n) (hn' : n ≤ 4096) (hh : h < n) (ht : t < n) (hcs : cs.size = 16) (hE : E.size = 64) (h1 : E.all (·.oneCell') = true) (hb : decide (usd n h t = n - 1) = false)
    (hC : ∀ w, Calls Try.prog 67 #[.agg cs] w fun e w' => e = .returned (.tuple #[.agg E, .int .i64 0]) ∧ Below w.heap.size w w') :
    Calls Try.prog 34 #[.agg #[.int .i64 n, .int .i64 h, .int .i64 t, .bool ph], .agg cs] w fun e w' => e = .returned (.tuple #[.agg #[.int .i64 n, .int .i64 h, .int .i64 (nxt n t : Nat), .bool ph], .int .i64 t, .agg E, .int .i64 0]) ∧ Below w.heap.size w w' := by
  have HCS := Lib.hid hcs
  have HE := Lib.hid hE
  have HE1 := Lib.hid h1
  have HC := Lib.hid hC
  have HST := Lib.hid (rs_start n h t ph cs w)
  have HF := Lib.hid hb
  have hu := Try.underlying69
  have hu2 := Try.underlying38
  obtain ⟨AZ, hAZ⟩ : ∃ AZ, AZ = arr 64 z8 := ⟨_, rfl⟩
  have hZS : AZ.size = 64 := by rw [hAZ, arr_size]
  have hZ1 : AZ.all (·.oneCell') = true := by rw [hAZ]; exact z8_one
  have hz0 : ∀ w, (zeroValue 69).run Try.prog w = .ok (.agg AZ) w := by rw [hAZ]; exact zero64
  have hb0 : ∀ w, (Instr.build 69 #[]).run Try.prog w = .ok (.agg AZ) w := by rw [hAZ]; exact build64
  rw [← hAZ] at HST
  have HZ := Lib.hid hAZ
  have HZS := Lib.hid hZS
  have HZ1 := Lib.hid hZ1
  have HZ0 := Lib.hid hz0
  have HB0 := Lib.hid hb0
  have hsz : (Try.prog.info? 69).map (·.size) = some AZ.size := by rw [hZS]; exact size64
  have hszE : (Try.prog.info? 69).map (·.size) = some E.size := by rw [hE]; exact size64
  have hszC : (Try.prog.info? 38).map (·.size) = some cs.size := by rw [hcs]; exact size_cmd
  have HSZ := Lib.hid hsz
  have HSZE := Lib.hid hszE
  have HSZC := Lib.hid hszC
  clear hcs hE h1 hC hAZ hZS hZ1 hz0 hb0 hsz hszE hszC hb
  have HFR := Lib.hid (show ∀ w : World, ArrAt (w.alloc (.cells AZ 69)) w.heap.size AZ from fun w => ArrAt.fresh w AZ 69 (by rw [HZS.out]; omega))
  go_enter Try.func34, Try.ntmps34
  go_upto_region 1 with ((with_reducible show wpList _ _ _ (⟨some 6, _, _, _, _, _⟩ :: _) _ _); refine wpList_alloc rfl 69 rfl HZ0.out ?_; rw [show (Value.agg AZ).cells = AZ from rfl])
  obtain ⟨W, hW⟩ : ∃ W, W = (((w.alloc (.cells #[.int .i64 n, .int .i64 h, .int .i64 t, .bool ph] 30)).alloc (.cells cs 38)).alloc (.cells #[.int .i64 0, .int .i64 0, .int .i64 0, .bool false] 30)).alloc (.cells AZ 69) := ⟨_, rfl⟩
  rw [← hW]
  obtain ⟨a2, a3, a4, a6, hbW, hsW⟩ := HST.out W HCS.out hW
  have A2 := Lib.hid a2
  have A3 := Lib.hid a3
  have A4 := Lib.hid a4
  have A6 := Lib.hid a6
  have HBW := Lib.hid hbW
  have hsW' : w.heap.size + 4 ≤ W.heap.size := by omega
  clear hsW hW hbW a2 a3 a4 a6
  go_upto_region 2 with (first
    | ((with_reducible show wpList _ _ _ (⟨some 12, _, _, _, _, _⟩ :: _) _ _); refine wpList_loadA rfl A3.out 38 (.tmp 3) rfl rfl hu2 rfl HSZC.out ?_)
    | (go_at_call 67; refine (HC.out _).mono ?_; rintro e w2 ⟨rfl, hb2⟩; have A22 := Lib.hid (A2.out.below hb2); have A42 := Lib.hid (A4.out.below hb2); have A62 := Lib.hid (A6.out.below hb2); have hs2 := hb2.size; have HB2 := Lib.hid (HBW.out.trans (hb2.mono (by omega))); clear hb2)
    | ((with_reducible show wpList _ _ _ (⟨some 8, _, _, _, _, _⟩ :: _) _ _); refine wpList_alloc rfl 69 rfl HZ0.out ?_; rw [show (Value.agg AZ).cells = AZ from rfl])
    | ((with_reducible show wpList _ _ _ (⟨none, _, _, _, _, _⟩ :: _) _ _); refine wpList_storeA rfl (b := w2.heap.size) (A := AZ) (A' := E) (HFR.out w2) 69 (.tmp 8) (.tmp 14) rfl rfl (by simp [Act.eval, Act.put]) HSZ.out (by rw [HE.out, HZS.out]) HE1.out ?_))
  obtain ⟨w3, hw3⟩ : ∃ w3, w3 = (w2.alloc (.cells AZ 69)).setCells w2.heap.size 0 E.toList := ⟨_, rfl⟩
  rw [← hw3]
  have kk : Below w2.heap.size w2 w3 := by rw [hw3]; exact bstore ((Below.refl _ _).alloc (Nat.le_refl _) _) _ (Nat.le_refl _) _ _
  have A8' := Lib.hid (show ArrAt w3 w2.heap.size E by rw [hw3]; exact (ArrAt.fresh w2 AZ 69 (by rw [HZS.out]; omega)).store E (by rw [HE.out, HZS.out]))
  have A2' := Lib.hid (A22.out.below kk)
  have A4' := Lib.hid (A42.out.below kk)
  have A6' := Lib.hid (A62.out.below kk)
  have HB3 := Lib.hid (HB2.out.trans (kk.mono (by omega)))
  have hs3 := kk.size
  clear kk hw3
  go_upto_region 4 with (fail)
  obtain ⟨u, hu'⟩ : ∃ u, u = usd n h t := ⟨_, rfl⟩
  have HU := Lib.hid hu'
  have e1 : ((u : Int) == (n : Int) - 1) = false := by
    have := HF.out
    rw [← hu'] at this
    by_cases e : u = n - 1
    · rw [decide_eq_true e] at this; first | (simp; omega) | cases this
    · rw [decide_eq_false e] at this; first | (simp; omega) | cases this
  have HCU := Lib.hid fun w => rUsed_ok n h t ph w hn hn' hh ht
  rw [← hu'] at HCU
  have hlw : w.heap.size < w3.heap.size := by omega
  have c0 : w3.cell? ⟨w.heap.size, 0, none⟩ = some (.int .i64 n) := A2'.out.cell rfl
  have c1 : w3.cell? ⟨w.heap.size, 1, none⟩ = some (.int .i64 h) := A2'.out.cell rfl
  have c2 : w3.cell? ⟨w.heap.size, 2, none⟩ = some (.int .i64 t) := A2'.out.cell rfl
  have c3 : w3.cell? ⟨w.heap.size, 3, none⟩ = some (.bool ph) := A2'.out.cell rfl
  clear hu'
  have hq0 : ∀ p : InC (Below w3.heap.size w3), p.w.cell? ⟨w.heap.size, 0, none⟩ = some (.int .i64 n) := fun p => (p.ok.cell (hlw)).trans (c0)
  have hq1 : ∀ p : InC (Below w3.heap.size w3), p.w.cell? ⟨w.heap.size, 1, none⟩ = some (.int .i64 h) := fun p => (p.ok.cell (hlw)).trans (c1)
  have hq2 : ∀ p : InC (Below w3.heap.size w3), p.w.cell? ⟨w.heap.size, 2, none⟩ = some (.int .i64 t) := fun p => (p.ok.cell (hlw)).trans (c2)
  have hq3 : ∀ p : InC (Below w3.heap.size w3), p.w.cell? ⟨w.heap.size, 3, none⟩ = some (.bool ph) := fun p => (p.ok.cell (hlw)).trans (c3)
  have HE3 : Hid (∀ p : InC (Below w3.heap.size w3), Calls Try.prog 21 #[.agg #[.int .i64 n, .int .i64 h, .int .i64 t, .bool ph]] p.w fun e w' => e = .returned (.int .i64 u) ∧ Below w3.heap.size w3 w') :=
    Lib.hid fun p => (HCU.out p.w).mono fun e w' k => ⟨k.1, p.ok.trans (k.2.mono p.ok.size)⟩
  have hNE : Nonempty (InC (Below w3.heap.size w3)) := ⟨⟨w3, Below.refl _ _⟩⟩
  clear c0 c1 c2 c3
  refine wp_quiet_in (Below w3.heap.size w3) (Below.refl _ _).drew (by kernel_rfl) (by kernel_rfl) ?_
  repeat (go_big_quiet_step (first | (with_reducible exact calls_in (HE3.out _))))
  refine wpQuiet_nil ?_
  intro _ hw'
  obtain ⟨p, hw''⟩ := hw'
  subst hw''
  have A24 := Lib.hid (A2'.out.below p.ok)
  have A44 := Lib.hid (A4'.out.below p.ok)
  have A64 := Lib.hid (A6'.out.below p.ok)
  have A84 := Lib.hid (A8'.out.below p.ok)
  have HB4 := Lib.hid (HB3.out.trans (p.ok.mono (by omega)))
  have hs4 := p.ok.size
  generalize p.w = W4 at *
  clear hq0 hq1 hq2 hq3 hNE HE3
  have hx := nxt_lt ht
  obtain ⟨x, hx'⟩ : ∃ x, x = nxt n t := ⟨_, rfl⟩
  rw [← hx'] at hx
  have HX := Lib.hid hx'
  have e2 : ((t : Int) + 1) % (n : Int) = (x : Int) := by rw [hx']; unfold nxt; push_cast; rfl
  clear hx'
  have q0 : W4.cell? ⟨w.heap.size, 0, none⟩ = some (.int .i64 n) := A24.out.cell rfl
  have q1 : W4.cell? ⟨w.heap.size, 1, none⟩ = some (.int .i64 h) := A24.out.cell rfl
  have q2 : W4.cell? ⟨w.heap.size, 2, none⟩ = some (.int .i64 t) := A24.out.cell rfl
  have q3 : W4.cell? ⟨w.heap.size, 3, none⟩ = some (.bool ph) := A24.out.cell rfl
  have f0 : W4.frozen? ⟨w.heap.size, 0, none⟩ = false := A24.out.frozen (by simp)
  have f1 : W4.frozen? ⟨w.heap.size, 1, none⟩ = false := A24.out.frozen (by simp)
  have f2 : W4.frozen? ⟨w.heap.size, 2, none⟩ = false := A24.out.frozen (by simp)
  have f3 : W4.frozen? ⟨w.heap.size, 3, none⟩ = false := A24.out.frozen (by simp)
  have r0 : W4.cell? ⟨w.heap.size + 1 + 1, 0, none⟩ = some (.int .i64 0) := A44.out.cell rfl
  have r1 : W4.cell? ⟨w.heap.size + 1 + 1, 1, none⟩ = some (.int .i64 0) := A44.out.cell rfl
  have r2 : W4.cell? ⟨w.heap.size + 1 + 1, 2, none⟩ = some (.int .i64 0) := A44.out.cell rfl
  have r3 : W4.cell? ⟨w.heap.size + 1 + 1, 3, none⟩ = some (.bool false) := A44.out.cell rfl
  have z0 : W4.frozen? ⟨w.heap.size + 1 + 1, 0, none⟩ = false := A44.out.frozen (by simp)
  have z1 : W4.frozen? ⟨w.heap.size + 1 + 1, 1, none⟩ = false := A44.out.frozen (by simp)
  have z2 : W4.frozen? ⟨w.heap.size + 1 + 1, 2, none⟩ = false := A44.out.frozen (by simp)
  have z3 : W4.frozen? ⟨w.heap.size + 1 + 1, 3, none⟩ = false := A44.out.frozen (by simp)
  go_upto_region 8 with (fail)
  obtain ⟨w6, hw6⟩ : ∃ w6, w6 = W4.setCell ⟨w.heap.size, 2, none⟩ (.int .i64 x) := ⟨_, rfl⟩
  rw [← hw6]
  have kk : Keeps (One w.heap.size) W4 w6 := by rw [hw6]; exact (Keeps.refl _ _).set1 _ _
  have A26 := Lib.hid (show ArrAt w6 w.heap.size #[.int .i64 n, .int .i64 h, .int .i64 x, .bool ph] by rw [hw6]; exact A24.out.set 2 (.int .i64 x) (by simp))
  have A46 := Lib.hid (A44.out.kept kk (fun e => by have e : w.heap.size + 1 + 1 = w.heap.size := e; omega))
  have A66 := Lib.hid (A64.out.kept kk (fun e => by have e : w.heap.size + 1 + 1 + 1 = w.heap.size := e; omega))
  have A86 := Lib.hid (A84.out.kept kk (fun e => by have e : w2.heap.size = w.heap.size := e; omega))
  have HB6 := Lib.hid (HB4.out.trans (kk.below (B := w.heap.size) (by omega) (fun j hj e => by have e : j = w.heap.size := e; omega)))
  have hs6 := kk.size
  clear kk hw6 e1 e2 q0 q1 q2 q3 f0 f1 f2 f3 r0 r1 r2 r3 z0 z1 z2 z3
  obtain ⟨EA, hEA⟩ : ∃ EA : Array Value, EA = #[.int .i64 (n : Int), .int .i64 (h : Int), .int .i64 (x : Int), .bool ph] := ⟨_, rfl⟩
  rw [← hEA] at A26
  have hEs : EA.size = 4 := by rw [hEA]; rfl
  have hE1 : EA.all (·.oneCell') = true := by rw [hEA]; simp [Value.oneCell']
  have HEA := Lib.hid hEA
  have HES := Lib.hid hEs
  have HEO := Lib.hid hE1
  have HZE := Lib.hid (show (Try.prog.info? 30).map (·.size) = some EA.size by rw [hEs]; exact sizeEnd)
  obtain ⟨dE, hdE, hdR⟩ := underEnd
  have HTH := Lib.hid (show w6.drew.there (w.heap.size + 1 + 1 + 1) 0 E.size by have := A66.out.drew.th; rw [HZS.out] at this; rw [HE.out]; exact this)
  have HT4 := Lib.hid (show w6.drew.there (w.heap.size + 1 + 1) 0 EA.size by rw [HES.out]; exact A46.out.drew.th)
  have HA4 := Lib.hid (A46.out.drew.store EA (by rw [HES.out]; rfl))
  have HA6 := Lib.hid (A66.out.drew.kept (Keeps.setCells EA.toList (Keeps.refl (One (w.heap.size + 1 + 1)) _) 0) (fun e => by have e : w.heap.size + 1 + 1 + 1 = w.heap.size + 1 + 1 := e; omega))
  have HA6' := Lib.hid (HA6.out.store E (by rw [HE.out, HZS.out]))
  have HA4' := Lib.hid (HA4.out.kept (Keeps.setCells E.toList (Keeps.refl (One (w.heap.size + 1 + 1 + 1)) _) 0) (fun e => by have e : w.heap.size + 1 + 1 = w.heap.size + 1 + 1 + 1 := e; omega))
  have hS1 : (w6.drew.setCells (w.heap.size + 1 + 1) 0 EA.toList).rangeAt w.heap.size 0 EA.toList ∧ (w6.drew.setCells (w.heap.size + 1 + 1) 0 EA.toList).rangeAt w2.heap.size 0 E.toList :=
    ⟨World.rangeAt_setCells_apart A26.out.drew.rng _ _ _ (.inl (by omega)), World.rangeAt_setCells_apart A86.out.drew.rng _ _ _ (.inl (by omega))⟩
  have hS2 : ((w6.drew.setCells (w.heap.size + 1 + 1) 0 EA.toList).setCells (w.heap.size + 1 + 1 + 1) 0 E.toList).rangeAt w.heap.size 0 EA.toList ∧ ((w6.drew.setCells (w.heap.size + 1 + 1) 0 EA.toList).setCells (w.heap.size + 1 + 1 + 1) 0 E.toList).rangeAt w2.heap.size 0 E.toList :=
    ⟨World.rangeAt_setCells_apart hS1.1 _ _ _ (.inl (by omega)), World.rangeAt_setCells_apart hS1.2 _ _ _ (.inl (by omega))⟩
  have HTH2 := Lib.hid (show (w6.drew.setCells (w.heap.size + 1 + 1) 0 EA.toList).there (w.heap.size + 1 + 1 + 1) 0 E.size from World.there_setCells HTH.out _ _ _)
  clear hEA hEs hE1
  refine wp_region_held_drew (S := fun w' => w'.rangeAt w.heap.size 0 EA.toList ∧ w'.rangeAt w2.heap.size 0 E.toList) (by kernel_rfl) ⟨A26.out.rng, A86.out.rng⟩ (fun hS0 => ?_)
  refine takeD 36 (i := 0) (v := .agg EA) rfl rfl (by kernel_rfl) (by kernel_rfl) (by kernel_rfl) (fun _ _ _ h => h) (yieldsA (by rfl) 30 (.tmp 2) rfl (w.heap.size) (by first | rfl | simp [Act.eval, Act.put]) EA (fun w h => h.1) hdE hdR HZE.out) (by assumption) ?_
  try simp only [Act.put, List.setIfInBounds_toArray, List.set_cons_zero, List.set_cons_succ]
  refine takeD 37 (i := 1) (v := (.int .i64 t)) rfl rfl (by kernel_rfl) (by kernel_rfl) (by kernel_rfl) (fun _ _ _ h => h) (Or.inl ⟨by rfl, by (intro w' _; go_simp)⟩) (by assumption) ?_
  try simp only [Act.put, List.setIfInBounds_toArray, List.set_cons_zero, List.set_cons_succ]
  refine takeD 38 (i := 2) (v := .agg E) rfl rfl (by kernel_rfl) (by kernel_rfl) (by kernel_rfl) (fun _ _ _ h => h) (yieldsA (by rfl) 69 (.tmp 8) rfl (w2.heap.size) (by first | rfl | simp [Act.eval, Act.put]) E (fun w h => h.2) hu rfl HSZE.out) (by assumption) ?_
  try simp only [Act.put, List.setIfInBounds_toArray, List.set_cons_zero, List.set_cons_succ]
  refine wpAnyH_ready (rs := [3]) (by kernel_rfl) (by simp) (AllReadyH.cons rfl (fun K hK => ?_) AllReadyH.nil)
  rw [if_pos (by rfl)]
  refine wp_storeN 30 (.tmp 4) (.tmp 36) rfl rfl (w.heap.size + 1 + 1) 0 EA (by first | rfl | simp [Act.eval, Act.put]) (by first | rfl | simp [Act.eval, Act.put]) HT4.out HZE.out HEO.out ?_
  refine hK.out _ _ hS1 (fun hS0 => ?_)
  clear hK K
  try simp only [Act.put, List.setIfInBounds_toArray, List.set_cons_zero, List.set_cons_succ]
  refine takeD 5 (i := 4) (v := (.int .i64 t)) rfl rfl (by kernel_rfl) (by kernel_rfl) (by kernel_rfl) (fun _ _ _ h => h) (Or.inl ⟨by rfl, by (intro w' _; go_simp)⟩) (by assumption) ?_
  try simp only [Act.put, List.setIfInBounds_toArray, List.set_cons_zero, List.set_cons_succ]
  refine wpAnyH_ready (rs := [5]) (by kernel_rfl) (by simp) (AllReadyH.cons rfl (fun K hK => ?_) AllReadyH.nil)
  rw [if_pos (by rfl)]
  refine wp_storeN 69 (.tmp 6) (.tmp 38) rfl rfl (w.heap.size + 1 + 1 + 1) 0 E (by first | rfl | simp [Act.eval, Act.put]) (by first | rfl | simp [Act.eval, Act.put]) HTH2.out HSZE.out HE1.out ?_
  refine hK.out _ _ hS2 (fun hS0 => ?_)
  clear hK K
  try simp only [Act.put, List.setIfInBounds_toArray, List.set_cons_zero, List.set_cons_succ]
  refine takeD 7 (i := 6) (v := (.int .i64 0)) rfl rfl (by kernel_rfl) (by kernel_rfl) (by kernel_rfl) (fun _ _ _ h => h) (Or.inl ⟨by rfl, by (intro w' _; go_simp)⟩) (by assumption) ?_
  try simp only [Act.put, List.setIfInBounds_toArray, List.set_cons_zero, List.set_cons_succ]
  refine wpAnyH_done (by kernel_rfl) ?_ _
  go_wp2_with fail
  refine bodyPost_ret (results_ctct rfl _ _ _ HA4'.out HA6'.out rfl hdE hdR HZE.out rfl hu rfl HSZE.out) rfl ⟨?_, bstore (bstore HB6.out.drew _ (by omega) _ _) _ (by omega) _ _⟩
  rw [← HX.out, HEA.out]
  rfl

end Go.Proofs.Ytpoeepdpoblfcaa
