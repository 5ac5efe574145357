/- queue: the reference's Poll. -/
import Derived.Test.YtpoeepdpoblfcaaPoll
set_option linter.unusedVariables false
namespace Go.Proofs.Ytpoeepdpoblfcaa
open Go.RowKit
attribute [local go_sem ↓] Go.wp_at_zero Go.wp_at_succ

theorem rpoll_start (n h t : Nat) (ph : Bool) (bs : Array Value) (w W : World) (hcs : bs.size = 16) (hW : W = (((w.alloc (.cells #[.int .i64 n, .int .i64 h, .int .i64 t, .bool ph] 30)).alloc (.cells bs 44)).alloc (.cells #[.int .i64 0, .int .i64 0, .int .i64 0, .bool false] 30)).alloc (.cells (cArr 0 0) 43)) :
    ArrAt W (w.heap.size) #[.int .i64 n, .int .i64 h, .int .i64 t, .bool ph] ∧ ArrAt W (w.heap.size + 1) bs ∧ ArrAt W (w.heap.size + 1 + 1) #[.int .i64 0, .int .i64 0, .int .i64 0, .bool false] ∧ ArrAt W (w.heap.size + 1 + 1 + 1) (cArr 0 0) ∧ Below w.heap.size w W ∧ W.heap.size = w.heap.size + 4 := by
  subst hW
  obtain ⟨w1, h1⟩ : ∃ w1, w1 = w.alloc (.cells #[.int .i64 n, .int .i64 h, .int .i64 t, .bool ph] 30) := ⟨_, rfl⟩
  obtain ⟨w2, h2⟩ : ∃ w2, w2 = w1.alloc (.cells bs 44) := ⟨_, rfl⟩
  obtain ⟨w3, h3⟩ : ∃ w3, w3 = w2.alloc (.cells #[.int .i64 0, .int .i64 0, .int .i64 0, .bool false] 30) := ⟨_, rfl⟩
  obtain ⟨w4, h4⟩ : ∃ w4, w4 = w3.alloc (.cells (cArr 0 0) 43) := ⟨_, rfl⟩
  have s1 : w1.heap.size = w.heap.size + 1 := by rw [h1]; simp
  have s2 : w2.heap.size = w.heap.size + 1 + 1 := by rw [h2]; simp [s1]
  have s3 : w3.heap.size = w.heap.size + 1 + 1 + 1 := by rw [h3]; simp [s2]
  have s4 : w4.heap.size = w.heap.size + 1 + 1 + 1 + 1 := by rw [h4]; simp [s3]
  rw [← h1, ← h2, ← h3, ← h4]
  have a1 : ArrAt w1 (w.heap.size) #[.int .i64 n, .int .i64 h, .int .i64 t, .bool ph] := by rw [h1]; exact ArrAt.fresh _ _ _ (by simp)
  have a2 : ArrAt w2 (w.heap.size + 1) bs := by rw [h2, ← s1]; exact ArrAt.fresh _ _ _ (by omega)
  have a3 : ArrAt w3 (w.heap.size + 1 + 1) #[.int .i64 0, .int .i64 0, .int .i64 0, .bool false] := by rw [h3, ← s2]; exact ArrAt.fresh _ _ _ (by simp)
  have a4 : ArrAt w4 (w.heap.size + 1 + 1 + 1) (cArr 0 0) := by rw [h4, ← s3]; exact ArrAt.fresh _ _ _ (by simp [cArr])
  refine ⟨?_, ?_, ?_, a4, ?_, by omega⟩
  · rw [h4]; refine ArrAt.alloc ?_ _; rw [h3]; refine ArrAt.alloc ?_ _; rw [h2]; exact a1.alloc _
  · rw [h4]; refine ArrAt.alloc ?_ _; rw [h3]; exact a2.alloc _
  · rw [h4]; exact a3.alloc _
  · rw [h4]; refine Below.alloc ?_ (by omega) _
    rw [h3]; refine Below.alloc ?_ (by omega) _
    rw [h2]; refine Below.alloc ?_ (by omega) _
    rw [h1]; exact (Below.refl _ _).alloc (Nat.le_refl _) _

set_option maxRecDepth 100000 in
set_option maxHeartbeats 4000000 in
theorem rpoll_err (n h t : Nat) (ph dp : Bool) (bs D : Array Value) (er : Int) (w : World) (hn : 2 ≤ n) (hn' : n ≤ 4096) (hh : h < n) (ht : t < n) (hbs : bs.size = 16) (hD : D.size = 10) (h1 : D.all (·.oneCell') = true) (hdp : D[5]? = some (.bool dp)) (her : er ≠ 0)
    (hC : ∀ w, Calls Try.prog 58 #[.agg bs] w fun e w' => e = .returned (.tuple #[.agg D, .int .i64 er]) ∧ Below w.heap.size w w') :
    Calls Try.prog 25 #[.agg #[.int .i64 n, .int .i64 h, .int .i64 t, .bool ph], .agg bs] w fun e w' => e = .returned (.tuple #[.agg #[.int .i64 n, .int .i64 h, .int .i64 t, .bool ph], .agg (cArr 0 0), .bool false, .int .i64 er]) ∧ Below w.heap.size w w' := by
  have e0 : (er != 0) = true := by simpa using her
  clear her
  have HBS := Lib.hid hbs
  have HDS := Lib.hid hD
  have HD1 := Lib.hid h1
  have HDP := Lib.hid hdp
  have HC := Lib.hid hC
  have hu := Try.underlying44
  obtain ⟨dC, hdC, hdR⟩ := under16
  obtain ⟨dE, hdE, hdER⟩ := underEnd
  have HSC := Lib.hid size10
  have HSB := Lib.hid (show (Try.prog.info? 44).map (·.size) = some bs.size by rw [hbs]; exact size16)
  have HSD := Lib.hid (show (Try.prog.info? 43).map (·.size) = some D.size by rw [hD]; exact size10)
  have HC1 := Lib.hid (cArr_one 0 0)
  have HST := Lib.hid (rpoll_start n h t ph bs w)
  clear hbs hD h1 hdp hC
  go_enter Try.func25, Try.ntmps25
  go_upto_region 1 with ((with_reducible show wpList _ _ _ (⟨some 5, _, _, _, _, _⟩ :: _) _ _); refine wpList_alloc rfl 43 rfl zeroCpl ?_; rw [show (Value.agg (cArr 0 0)).cells = cArr 0 0 from rfl])
  obtain ⟨W, hW⟩ : ∃ W, W = (((w.alloc (.cells #[.int .i64 n, .int .i64 h, .int .i64 t, .bool ph] 30)).alloc (.cells bs 44)).alloc (.cells #[.int .i64 0, .int .i64 0, .int .i64 0, .bool false] 30)).alloc (.cells (cArr 0 0) 43) := ⟨_, rfl⟩
  rw [← hW]
  obtain ⟨a2, a3, a4, a5, hbW, hsW⟩ := HST.out W HBS.out hW
  have A2 := Lib.hid a2
  have A3 := Lib.hid a3
  have A4 := Lib.hid a4
  have A5 := Lib.hid a5
  have HBW := Lib.hid hbW
  have hsW' : w.heap.size + 4 ≤ W.heap.size := by omega
  clear a2 a3 a4 a5 hbW hsW hW
  have HFR := Lib.hid (show ∀ w : World, ArrAt (w.alloc (.cells (cArr 0 0) 43)) w.heap.size (cArr 0 0) from fun w => ArrAt.fresh w _ _ (by simp [cArr]))
  go_upto_region 2 with (first
    | ((with_reducible show wpList _ _ _ (⟨some 11, _, _, _, _, _⟩ :: _) _ _); refine wpList_loadA rfl A3.out 44 (.tmp 3) rfl rfl hu rfl HSB.out ?_)
    | (go_at_call 58; refine (HC.out _).mono ?_; rintro e w2 ⟨rfl, hb2⟩; have A22 := Lib.hid (A2.out.below hb2); have A42 := Lib.hid (A4.out.below hb2); have A52 := Lib.hid (A5.out.below hb2); have hs2 := hb2.size; have HB2 := Lib.hid (HBW.out.trans (hb2.mono (by omega))); clear hb2)
    | ((with_reducible show wpList _ _ _ (⟨some 8, _, _, _, _, _⟩ :: _) _ _); refine wpList_alloc rfl 43 rfl zeroCpl ?_; rw [show (Value.agg (cArr 0 0)).cells = cArr 0 0 from rfl])
    | ((with_reducible show wpList _ _ _ (⟨none, _, _, _, _, _⟩ :: _) _ _); refine wpList_storeA rfl (b := w2.heap.size) (A := cArr 0 0) (A' := D) (HFR.out w2) 43 (.tmp 8) (.tmp 13) rfl (by simp [Act.eval, Act.put]) (by simp [Act.eval, Act.put]) HSC.out (by rw [HDS.out]; rfl) HD1.out ?_))
  obtain ⟨w3, hw3⟩ : ∃ w3, w3 = (w2.alloc (.cells (cArr 0 0) 43)).setCells w2.heap.size 0 D.toList := ⟨_, rfl⟩
  rw [← hw3]
  have kk : Below w2.heap.size w2 w3 := by rw [hw3]; exact bstore ((Below.refl _ _).alloc (Nat.le_refl _) _) _ (Nat.le_refl _) _ _
  have A8' := Lib.hid (show ArrAt w3 w2.heap.size D by rw [hw3]; exact (HFR.out w2).store D (by rw [HDS.out]; rfl))
  have A2' := Lib.hid (A22.out.below kk)
  have A4' := Lib.hid (A42.out.below kk)
  have A5' := Lib.hid (A52.out.below kk)
  have HB3 := Lib.hid (HB2.out.trans (kk.mono (by omega)))
  have hs3 := kk.size
  have c5 : w3.cell? ⟨w2.heap.size, 5, none⟩ = some (.bool dp) := A8'.out.cell HDP.out
  have q0 : w3.cell? ⟨w.heap.size, 0, none⟩ = some (.int .i64 n) := A2'.out.cell rfl
  have q1 : w3.cell? ⟨w.heap.size, 1, none⟩ = some (.int .i64 h) := A2'.out.cell rfl
  have q2 : w3.cell? ⟨w.heap.size, 2, none⟩ = some (.int .i64 t) := A2'.out.cell rfl
  have q3 : w3.cell? ⟨w.heap.size, 3, none⟩ = some (.bool ph) := A2'.out.cell rfl
  clear kk hw3
  have r0 : w3.cell? ⟨w.heap.size + 1 + 1, 0, none⟩ = some (.int .i64 0) := A4'.out.cell rfl
  have r1 : w3.cell? ⟨w.heap.size + 1 + 1, 1, none⟩ = some (.int .i64 0) := A4'.out.cell rfl
  have r2 : w3.cell? ⟨w.heap.size + 1 + 1, 2, none⟩ = some (.int .i64 0) := A4'.out.cell rfl
  have r3 : w3.cell? ⟨w.heap.size + 1 + 1, 3, none⟩ = some (.bool false) := A4'.out.cell rfl
  have z0 : w3.frozen? ⟨w.heap.size + 1 + 1, 0, none⟩ = false := A4'.out.frozen (by simp)
  have z1 : w3.frozen? ⟨w.heap.size + 1 + 1, 1, none⟩ = false := A4'.out.frozen (by simp)
  have z2 : w3.frozen? ⟨w.heap.size + 1 + 1, 2, none⟩ = false := A4'.out.frozen (by simp)
  have z3 : w3.frozen? ⟨w.heap.size + 1 + 1, 3, none⟩ = false := A4'.out.frozen (by simp)
  have H5S := Lib.hid (show ArrAt ((((w3.setCell ⟨w.heap.size + 1 + 1, 0, none⟩ (.int .i64 n)).setCell ⟨w.heap.size + 1 + 1, 1, none⟩ (.int .i64 h)).setCell ⟨w.heap.size + 1 + 1, 2, none⟩ (.int .i64 t)).setCell ⟨w.heap.size + 1 + 1, 3, none⟩ (.bool ph)) (w.heap.size + 1 + 1 + 1) (cArr 0 0) from A5'.out.kept (S := One (w.heap.size + 1 + 1)) (((((Keeps.refl _ _).set1 _ _).set1 _ _).set1 _ _).set1 _ _) (fun e => by have e : w.heap.size + 1 + 1 + 1 = w.heap.size + 1 + 1 := e; omega))
  have H4S := Lib.hid (show ArrAt ((((w3.setCell ⟨w.heap.size + 1 + 1, 0, none⟩ (.int .i64 n)).setCell ⟨w.heap.size + 1 + 1, 1, none⟩ (.int .i64 h)).setCell ⟨w.heap.size + 1 + 1, 2, none⟩ (.int .i64 t)).setCell ⟨w.heap.size + 1 + 1, 3, none⟩ (.bool ph)) (w.heap.size + 1 + 1) #[.int .i64 n, .int .i64 h, .int .i64 t, .bool ph] from ((((A4'.out.set 0 (.int .i64 n) (by simp)).set 1 (.int .i64 h) (by simp)).set 2 (.int .i64 t) (by simp)).set 3 (.bool ph) (by simp)))
  go_wp2_with (first
    | ((with_reducible show wpList _ _ _ (⟨some 25, _, _, _, _, _⟩ :: _) _ _); refine wpList_build0 rfl 43 rfl (buildCpl _) ?_)
    | ((with_reducible show wpList _ _ _ (⟨none, .store _ (.tmp 5) _, _, _, _, _⟩ :: _) _ _); refine wpList_storeA rfl (b := w.heap.size + 1 + 1 + 1) (A := cArr 0 0) (A' := cArr 0 0) H5S.out 43 (.tmp 5) (.tmp 25) rfl (by simp [Act.eval]) (by simp [Act.eval]) HSC.out rfl HC1.out ?_))
  have H5F := Lib.hid (H5S.out.store (cArr 0 0) rfl)
  have H4F := Lib.hid (H4S.out.kept (Keeps.setCells (cArr 0 0).toList (Keeps.refl (One (w.heap.size + 1 + 1 + 1)) _) 0) (fun e => by have e : w.heap.size + 1 + 1 = w.heap.size + 1 + 1 + 1 := e; omega))
  refine bodyPost_ret (results_cctt rfl _ _ _ H4F.out H5F.out rfl hdE hdER sizeEnd rfl hdC hdR HSC.out) rfl ⟨rfl, bstore ?_ _ (by omega) _ _⟩
  exact bset (bset (bset (bset HB3.out _ _ (by omega) _) _ _ (by omega) _) _ _ (by omega) _) _ _ (by omega) _

set_option maxRecDepth 100000 in
set_option maxHeartbeats 4000000 in
theorem rpoll_old (n h t : Nat) (ph dp : Bool) (bs D : Array Value) (w : World) (hn : 2 ≤ n) (hn' : n ≤ 4096) (hh : h < n) (ht : t < n) (hbs : bs.size = 16) (hD : D.size = 10) (h1 : D.all (·.oneCell') = true) (hdp : D[5]? = some (.bool dp)) (hne : (dp == ph) = false)
    (hC : ∀ w, Calls Try.prog 58 #[.agg bs] w fun e w' => e = .returned (.tuple #[.agg D, .int .i64 0]) ∧ Below w.heap.size w w') :
    Calls Try.prog 25 #[.agg #[.int .i64 n, .int .i64 h, .int .i64 t, .bool ph], .agg bs] w fun e w' => e = .returned (.tuple #[.agg #[.int .i64 n, .int .i64 h, .int .i64 t, .bool ph], .agg (cArr 0 0), .bool false, .int .i64 0]) ∧ Below w.heap.size w w' := by
  have HBS := Lib.hid hbs
  have HDS := Lib.hid hD
  have HD1 := Lib.hid h1
  have HDP := Lib.hid hdp
  have HC := Lib.hid hC
  have hu := Try.underlying44
  obtain ⟨dC, hdC, hdR⟩ := under16
  obtain ⟨dE, hdE, hdER⟩ := underEnd
  have HSC := Lib.hid size10
  have HSB := Lib.hid (show (Try.prog.info? 44).map (·.size) = some bs.size by rw [hbs]; exact size16)
  have HSD := Lib.hid (show (Try.prog.info? 43).map (·.size) = some D.size by rw [hD]; exact size10)
  have HC1 := Lib.hid (cArr_one 0 0)
  have HST := Lib.hid (rpoll_start n h t ph bs w)
  clear hbs hD h1 hdp hC
  go_enter Try.func25, Try.ntmps25
  go_upto_region 1 with ((with_reducible show wpList _ _ _ (⟨some 5, _, _, _, _, _⟩ :: _) _ _); refine wpList_alloc rfl 43 rfl zeroCpl ?_; rw [show (Value.agg (cArr 0 0)).cells = cArr 0 0 from rfl])
  obtain ⟨W, hW⟩ : ∃ W, W = (((w.alloc (.cells #[.int .i64 n, .int .i64 h, .int .i64 t, .bool ph] 30)).alloc (.cells bs 44)).alloc (.cells #[.int .i64 0, .int .i64 0, .int .i64 0, .bool false] 30)).alloc (.cells (cArr 0 0) 43) := ⟨_, rfl⟩
  rw [← hW]
  obtain ⟨a2, a3, a4, a5, hbW, hsW⟩ := HST.out W HBS.out hW
  have A2 := Lib.hid a2
  have A3 := Lib.hid a3
  have A4 := Lib.hid a4
  have A5 := Lib.hid a5
  have HBW := Lib.hid hbW
  have hsW' : w.heap.size + 4 ≤ W.heap.size := by omega
  clear a2 a3 a4 a5 hbW hsW hW
  have HFR := Lib.hid (show ∀ w : World, ArrAt (w.alloc (.cells (cArr 0 0) 43)) w.heap.size (cArr 0 0) from fun w => ArrAt.fresh w _ _ (by simp [cArr]))
  go_upto_region 2 with (first
    | ((with_reducible show wpList _ _ _ (⟨some 11, _, _, _, _, _⟩ :: _) _ _); refine wpList_loadA rfl A3.out 44 (.tmp 3) rfl rfl hu rfl HSB.out ?_)
    | (go_at_call 58; refine (HC.out _).mono ?_; rintro e w2 ⟨rfl, hb2⟩; have A22 := Lib.hid (A2.out.below hb2); have A42 := Lib.hid (A4.out.below hb2); have A52 := Lib.hid (A5.out.below hb2); have hs2 := hb2.size; have HB2 := Lib.hid (HBW.out.trans (hb2.mono (by omega))); clear hb2)
    | ((with_reducible show wpList _ _ _ (⟨some 8, _, _, _, _, _⟩ :: _) _ _); refine wpList_alloc rfl 43 rfl zeroCpl ?_; rw [show (Value.agg (cArr 0 0)).cells = cArr 0 0 from rfl])
    | ((with_reducible show wpList _ _ _ (⟨none, _, _, _, _, _⟩ :: _) _ _); refine wpList_storeA rfl (b := w2.heap.size) (A := cArr 0 0) (A' := D) (HFR.out w2) 43 (.tmp 8) (.tmp 13) rfl (by simp [Act.eval, Act.put]) (by simp [Act.eval, Act.put]) HSC.out (by rw [HDS.out]; rfl) HD1.out ?_))
  obtain ⟨w3, hw3⟩ : ∃ w3, w3 = (w2.alloc (.cells (cArr 0 0) 43)).setCells w2.heap.size 0 D.toList := ⟨_, rfl⟩
  rw [← hw3]
  have kk : Below w2.heap.size w2 w3 := by rw [hw3]; exact bstore ((Below.refl _ _).alloc (Nat.le_refl _) _) _ (Nat.le_refl _) _ _
  have A8' := Lib.hid (show ArrAt w3 w2.heap.size D by rw [hw3]; exact (HFR.out w2).store D (by rw [HDS.out]; rfl))
  have A2' := Lib.hid (A22.out.below kk)
  have A4' := Lib.hid (A42.out.below kk)
  have A5' := Lib.hid (A52.out.below kk)
  have HB3 := Lib.hid (HB2.out.trans (kk.mono (by omega)))
  have hs3 := kk.size
  have c5 : w3.cell? ⟨w2.heap.size, 5, none⟩ = some (.bool dp) := A8'.out.cell HDP.out
  have q0 : w3.cell? ⟨w.heap.size, 0, none⟩ = some (.int .i64 n) := A2'.out.cell rfl
  have q1 : w3.cell? ⟨w.heap.size, 1, none⟩ = some (.int .i64 h) := A2'.out.cell rfl
  have q2 : w3.cell? ⟨w.heap.size, 2, none⟩ = some (.int .i64 t) := A2'.out.cell rfl
  have q3 : w3.cell? ⟨w.heap.size, 3, none⟩ = some (.bool ph) := A2'.out.cell rfl
  clear kk hw3
  have r0 : w3.cell? ⟨w.heap.size + 1 + 1, 0, none⟩ = some (.int .i64 0) := A4'.out.cell rfl
  have r1 : w3.cell? ⟨w.heap.size + 1 + 1, 1, none⟩ = some (.int .i64 0) := A4'.out.cell rfl
  have r2 : w3.cell? ⟨w.heap.size + 1 + 1, 2, none⟩ = some (.int .i64 0) := A4'.out.cell rfl
  have r3 : w3.cell? ⟨w.heap.size + 1 + 1, 3, none⟩ = some (.bool false) := A4'.out.cell rfl
  have z0 : w3.frozen? ⟨w.heap.size + 1 + 1, 0, none⟩ = false := A4'.out.frozen (by simp)
  have z1 : w3.frozen? ⟨w.heap.size + 1 + 1, 1, none⟩ = false := A4'.out.frozen (by simp)
  have z2 : w3.frozen? ⟨w.heap.size + 1 + 1, 2, none⟩ = false := A4'.out.frozen (by simp)
  have z3 : w3.frozen? ⟨w.heap.size + 1 + 1, 3, none⟩ = false := A4'.out.frozen (by simp)
  have H5S := Lib.hid (show ArrAt ((((w3.setCell ⟨w.heap.size + 1 + 1, 0, none⟩ (.int .i64 n)).setCell ⟨w.heap.size + 1 + 1, 1, none⟩ (.int .i64 h)).setCell ⟨w.heap.size + 1 + 1, 2, none⟩ (.int .i64 t)).setCell ⟨w.heap.size + 1 + 1, 3, none⟩ (.bool ph)) (w.heap.size + 1 + 1 + 1) (cArr 0 0) from A5'.out.kept (S := One (w.heap.size + 1 + 1)) (((((Keeps.refl _ _).set1 _ _).set1 _ _).set1 _ _).set1 _ _) (fun e => by have e : w.heap.size + 1 + 1 + 1 = w.heap.size + 1 + 1 := e; omega))
  have H4S := Lib.hid (show ArrAt ((((w3.setCell ⟨w.heap.size + 1 + 1, 0, none⟩ (.int .i64 n)).setCell ⟨w.heap.size + 1 + 1, 1, none⟩ (.int .i64 h)).setCell ⟨w.heap.size + 1 + 1, 2, none⟩ (.int .i64 t)).setCell ⟨w.heap.size + 1 + 1, 3, none⟩ (.bool ph)) (w.heap.size + 1 + 1) #[.int .i64 n, .int .i64 h, .int .i64 t, .bool ph] from ((((A4'.out.set 0 (.int .i64 n) (by simp)).set 1 (.int .i64 h) (by simp)).set 2 (.int .i64 t) (by simp)).set 3 (.bool ph) (by simp)))
  go_wp2_with (first
    | ((with_reducible show wpList _ _ _ (⟨some 25, _, _, _, _, _⟩ :: _) _ _); refine wpList_build0 rfl 43 rfl (buildCpl _) ?_)
    | ((with_reducible show wpList _ _ _ (⟨none, .store _ (.tmp 5) _, _, _, _, _⟩ :: _) _ _); refine wpList_storeA rfl (b := w.heap.size + 1 + 1 + 1) (A := cArr 0 0) (A' := cArr 0 0) H5S.out 43 (.tmp 5) (.tmp 25) rfl (by simp [Act.eval]) (by simp [Act.eval]) HSC.out rfl HC1.out ?_))
  have H5F := Lib.hid (H5S.out.store (cArr 0 0) rfl)
  have H4F := Lib.hid (H4S.out.kept (Keeps.setCells (cArr 0 0).toList (Keeps.refl (One (w.heap.size + 1 + 1 + 1)) _) 0) (fun e => by have e : w.heap.size + 1 + 1 = w.heap.size + 1 + 1 + 1 := e; omega))
  refine bodyPost_ret (results_cctt rfl _ _ _ H4F.out H5F.out rfl hdE hdER sizeEnd rfl hdC hdR HSC.out) rfl ⟨rfl, bstore ?_ _ (by omega) _ _⟩
  exact bset (bset (bset (bset HB3.out _ _ (by omega) _) _ _ (by omega) _) _ _ (by omega) _) _ _ (by omega) _

set_option maxRecDepth 100000 in
set_option maxHeartbeats 4000000 in
theorem rpoll_new (n h t : Nat) (ph dp : Bool) (bs D : Array Value) (w : World) (hn : 2 ≤ n) (hn' : n ≤ 4096) (hh : h < n) (ht : t < n) (hbs : bs.size = 16) (hD : D.size = 10) (h1 : D.all (·.oneCell') = true) (hdp : D[5]? = some (.bool dp)) (heq : (dp == ph) = true)
    (hC : ∀ w, Calls Try.prog 58 #[.agg bs] w fun e w' => e = .returned (.tuple #[.agg D, .int .i64 0]) ∧ Below w.heap.size w w') :
    Calls Try.prog 25 #[.agg #[.int .i64 n, .int .i64 h, .int .i64 t, .bool ph], .agg bs] w fun e w' => e = .returned (.tuple #[.agg #[.int .i64 n, .int .i64 (nxt n h : Nat), .int .i64 t, .bool (ph != decide (nxt n h = 0))], .agg D, .bool true, .int .i64 0]) ∧ Below w.heap.size w w' := by
  have HBS := Lib.hid hbs
  have HDS := Lib.hid hD
  have HD1 := Lib.hid h1
  have HDP := Lib.hid hdp
  have HC := Lib.hid hC
  have hu := Try.underlying44
  obtain ⟨dC, hdC, hdR⟩ := under16
  obtain ⟨dE, hdE, hdER⟩ := underEnd
  have HSC := Lib.hid size10
  have HSB := Lib.hid (show (Try.prog.info? 44).map (·.size) = some bs.size by rw [hbs]; exact size16)
  have HSD := Lib.hid (show (Try.prog.info? 43).map (·.size) = some D.size by rw [hD]; exact size10)
  have HC1 := Lib.hid (cArr_one 0 0)
  have HST := Lib.hid (rpoll_start n h t ph bs w)
  clear hbs hD h1 hdp hC
  go_enter Try.func25, Try.ntmps25
  go_upto_region 1 with ((with_reducible show wpList _ _ _ (⟨some 5, _, _, _, _, _⟩ :: _) _ _); refine wpList_alloc rfl 43 rfl zeroCpl ?_; rw [show (Value.agg (cArr 0 0)).cells = cArr 0 0 from rfl])
  obtain ⟨W, hW⟩ : ∃ W, W = (((w.alloc (.cells #[.int .i64 n, .int .i64 h, .int .i64 t, .bool ph] 30)).alloc (.cells bs 44)).alloc (.cells #[.int .i64 0, .int .i64 0, .int .i64 0, .bool false] 30)).alloc (.cells (cArr 0 0) 43) := ⟨_, rfl⟩
  rw [← hW]
  obtain ⟨a2, a3, a4, a5, hbW, hsW⟩ := HST.out W HBS.out hW
  have A2 := Lib.hid a2
  have A3 := Lib.hid a3
  have A4 := Lib.hid a4
  have A5 := Lib.hid a5
  have HBW := Lib.hid hbW
  have hsW' : w.heap.size + 4 ≤ W.heap.size := by omega
  clear a2 a3 a4 a5 hbW hsW hW
  have HFR := Lib.hid (show ∀ w : World, ArrAt (w.alloc (.cells (cArr 0 0) 43)) w.heap.size (cArr 0 0) from fun w => ArrAt.fresh w _ _ (by simp [cArr]))
  go_upto_region 2 with (first
    | ((with_reducible show wpList _ _ _ (⟨some 11, _, _, _, _, _⟩ :: _) _ _); refine wpList_loadA rfl A3.out 44 (.tmp 3) rfl rfl hu rfl HSB.out ?_)
    | (go_at_call 58; refine (HC.out _).mono ?_; rintro e w2 ⟨rfl, hb2⟩; have A22 := Lib.hid (A2.out.below hb2); have A42 := Lib.hid (A4.out.below hb2); have A52 := Lib.hid (A5.out.below hb2); have hs2 := hb2.size; have HB2 := Lib.hid (HBW.out.trans (hb2.mono (by omega))); clear hb2)
    | ((with_reducible show wpList _ _ _ (⟨some 8, _, _, _, _, _⟩ :: _) _ _); refine wpList_alloc rfl 43 rfl zeroCpl ?_; rw [show (Value.agg (cArr 0 0)).cells = cArr 0 0 from rfl])
    | ((with_reducible show wpList _ _ _ (⟨none, _, _, _, _, _⟩ :: _) _ _); refine wpList_storeA rfl (b := w2.heap.size) (A := cArr 0 0) (A' := D) (HFR.out w2) 43 (.tmp 8) (.tmp 13) rfl (by simp [Act.eval, Act.put]) (by simp [Act.eval, Act.put]) HSC.out (by rw [HDS.out]; rfl) HD1.out ?_))
  obtain ⟨w3, hw3⟩ : ∃ w3, w3 = (w2.alloc (.cells (cArr 0 0) 43)).setCells w2.heap.size 0 D.toList := ⟨_, rfl⟩
  rw [← hw3]
  have kk : Below w2.heap.size w2 w3 := by rw [hw3]; exact bstore ((Below.refl _ _).alloc (Nat.le_refl _) _) _ (Nat.le_refl _) _ _
  have A8' := Lib.hid (show ArrAt w3 w2.heap.size D by rw [hw3]; exact (HFR.out w2).store D (by rw [HDS.out]; rfl))
  have A2' := Lib.hid (A22.out.below kk)
  have A4' := Lib.hid (A42.out.below kk)
  have A5' := Lib.hid (A52.out.below kk)
  have HB3 := Lib.hid (HB2.out.trans (kk.mono (by omega)))
  have hs3 := kk.size
  have c5 : w3.cell? ⟨w2.heap.size, 5, none⟩ = some (.bool dp) := A8'.out.cell HDP.out
  have q0 : w3.cell? ⟨w.heap.size, 0, none⟩ = some (.int .i64 n) := A2'.out.cell rfl
  have q1 : w3.cell? ⟨w.heap.size, 1, none⟩ = some (.int .i64 h) := A2'.out.cell rfl
  have q2 : w3.cell? ⟨w.heap.size, 2, none⟩ = some (.int .i64 t) := A2'.out.cell rfl
  have q3 : w3.cell? ⟨w.heap.size, 3, none⟩ = some (.bool ph) := A2'.out.cell rfl
  clear kk hw3
  have hx := nxt_lt hh
  obtain ⟨x, hx'⟩ : ∃ x, x = nxt n h := ⟨_, rfl⟩
  rw [← hx'] at hx
  have HX := Lib.hid hx'
  have e2 : ((h : Int) + 1) % (n : Int) = (x : Int) := by rw [hx']; unfold nxt; push_cast; rfl
  have f1 : w3.frozen? ⟨w.heap.size, 1, none⟩ = false := A2'.out.frozen (by simp)
  clear hx'
  go_upto_region 5 with (fail)
  obtain ⟨w6, hw6⟩ : ∃ w6, w6 = w3.setCell ⟨w.heap.size, 1, none⟩ (.int .i64 x) := ⟨_, rfl⟩
  rw [← hw6]
  have kk : Keeps (One (w.heap.size)) w3 w6 := by rw [hw6]; exact (Keeps.refl _ _).set1 _ _
  have A26 := Lib.hid (show ArrAt w6 (w.heap.size) #[.int .i64 n, .int .i64 x, .int .i64 t, .bool ph] by rw [hw6]; exact A2'.out.set 1 (.int .i64 x) (by simp))
  have A46 := Lib.hid (A4'.out.kept kk (fun e => by have e : w.heap.size + 1 + 1 = w.heap.size := e; omega))
  have A56 := Lib.hid (A5'.out.kept kk (fun e => by have e : w.heap.size + 1 + 1 + 1 = w.heap.size := e; omega))
  have A86 := Lib.hid (A8'.out.kept kk (fun e => by have e : w2.heap.size = w.heap.size := e; omega))
  have HB6 := Lib.hid (HB3.out.trans (kk.below (B := w.heap.size) (by omega) (fun j hj e => by have e : j = w.heap.size := e; omega)))
  have hs6 := kk.size
  clear kk hw6 e2 q0 q1 q2 q3 f1 c5
  obtain ⟨B, hB⟩ : ∃ B, B = (ph != decide (x = 0)) := ⟨_, rfl⟩
  have HBB := Lib.hid hB
  have q1 : w6.cell? ⟨w.heap.size, 1, none⟩ = some (.int .i64 x) := A26.out.cell rfl
  have q3 : w6.cell? ⟨w.heap.size, 3, none⟩ = some (.bool ph) := A26.out.cell rfl
  have f3 : w6.frozen? ⟨w.heap.size, 3, none⟩ = false := A26.out.frozen (by simp)
  by_cases hx0 : x = 0
  · have e0 : ((x : Int) == 0) = true := by simp; exact hx0
    have hB1 : B = !ph := by rw [hB, decide_eq_true hx0]; cases ph <;> rfl
    clear hB hx0
    go_upto_region 7 with (fail)
    obtain ⟨w7, hw7⟩ : ∃ w7, w7 = w6.setCell ⟨w.heap.size, 3, none⟩ (.bool !ph) := ⟨_, rfl⟩
    rw [← hw7]
    have kk : Keeps (One (w.heap.size)) w6 w7 := by rw [hw7]; exact (Keeps.refl _ _).set1 _ _
    have A27 := Lib.hid (show ArrAt w7 (w.heap.size) #[.int .i64 n, .int .i64 x, .int .i64 t, .bool B] by rw [hw7, hB1]; exact A26.out.set 3 (.bool !ph) (by simp))
    clear hw7 hB1
    have A47 := Lib.hid (A46.out.kept kk (fun e => by have e : w.heap.size + 1 + 1 = w.heap.size := e; omega))
    have A57 := Lib.hid (A56.out.kept kk (fun e => by have e : w.heap.size + 1 + 1 + 1 = w.heap.size := e; omega))
    have A87 := Lib.hid (A86.out.kept kk (fun e => by have e : w2.heap.size = w.heap.size := e; omega))
    have HB7 := Lib.hid (HB6.out.trans (kk.below (B := w.heap.size) (by omega) (fun j hj e => by have e : j = w.heap.size := e; omega)))
    have hs7 := kk.size
    clear kk q1 q3 f3
    obtain ⟨EA, hEA⟩ : ∃ EA : Array Value, EA = #[.int .i64 (n : Int), .int .i64 (x : Int), .int .i64 (t : Int), .bool B] := ⟨_, rfl⟩
    rw [← hEA] at A27
    have hEs : EA.size = 4 := by rw [hEA]; rfl
    have hE1 : EA.all (·.oneCell') = true := by rw [hEA]; simp [Value.oneCell']
    have HEA := Lib.hid hEA
    have HES := Lib.hid hEs
    have HEO := Lib.hid hE1
    have HZE := Lib.hid (show (Try.prog.info? 30).map (·.size) = some EA.size by rw [hEs]; exact sizeEnd)
    have HT5 := Lib.hid (show w7.drew.there (w.heap.size + 1 + 1 + 1) 0 D.size by rw [HDS.out]; exact A57.out.drew.th)
    have HT4 := Lib.hid (show w7.drew.there (w.heap.size + 1 + 1) 0 EA.size by rw [HES.out]; exact A47.out.drew.th)
    have HA4 := Lib.hid (A47.out.drew.store EA (by rw [HES.out]; rfl))
    have HA5 := Lib.hid (A57.out.drew.kept (Keeps.setCells EA.toList (Keeps.refl (One (w.heap.size + 1 + 1)) _) 0) (fun e => by have e : w.heap.size + 1 + 1 + 1 = w.heap.size + 1 + 1 := e; omega))
    have HA5' := Lib.hid (HA5.out.store D (by rw [HDS.out]; rfl))
    have HA4' := Lib.hid (HA4.out.kept (Keeps.setCells D.toList (Keeps.refl (One (w.heap.size + 1 + 1 + 1)) _) 0) (fun e => by have e : w.heap.size + 1 + 1 = w.heap.size + 1 + 1 + 1 := e; omega))
    have hS1 : (w7.drew.setCells (w.heap.size + 1 + 1) 0 EA.toList).rangeAt (w.heap.size) 0 EA.toList ∧ (w7.drew.setCells (w.heap.size + 1 + 1) 0 EA.toList).rangeAt w2.heap.size 0 D.toList :=
      ⟨World.rangeAt_setCells_apart A27.out.drew.rng _ _ _ (.inl (by omega)), World.rangeAt_setCells_apart A87.out.drew.rng _ _ _ (.inl (by omega))⟩
    have hS2 : ((w7.drew.setCells (w.heap.size + 1 + 1) 0 EA.toList).setCells (w.heap.size + 1 + 1 + 1) 0 D.toList).rangeAt (w.heap.size) 0 EA.toList ∧ ((w7.drew.setCells (w.heap.size + 1 + 1) 0 EA.toList).setCells (w.heap.size + 1 + 1 + 1) 0 D.toList).rangeAt w2.heap.size 0 D.toList :=
      ⟨World.rangeAt_setCells_apart hS1.1 _ _ _ (.inl (by omega)), World.rangeAt_setCells_apart hS1.2 _ _ _ (.inl (by omega))⟩
    have HTH2 := Lib.hid (show (w7.drew.setCells (w.heap.size + 1 + 1) 0 EA.toList).there (w.heap.size + 1 + 1 + 1) 0 D.size from World.there_setCells HT5.out _ _ _)
    clear hEA hEs hE1
    refine wp_region_held_drew (S := fun w' => w'.rangeAt (w.heap.size) 0 EA.toList ∧ w'.rangeAt w2.heap.size 0 D.toList) (by kernel_rfl) ⟨A27.out.rng, A87.out.rng⟩ (fun hS0 => ?_)
    refine takeD 41 (i := 0) (v := .agg EA) rfl rfl (by kernel_rfl) (by kernel_rfl) (by kernel_rfl) (fun _ _ _ h => h) (yieldsA (by rfl) 30 (.tmp 2) rfl (w.heap.size) (by first | rfl | simp [Act.eval, Act.put]) EA (fun w h => h.1) hdE hdER HZE.out) (by assumption) ?_
    try simp only [Act.put, List.setIfInBounds_toArray, List.set_cons_zero, List.set_cons_succ]
    refine takeD 42 (i := 1) (v := .agg D) rfl rfl (by kernel_rfl) (by kernel_rfl) (by kernel_rfl) (fun _ _ _ h => h) (yieldsA (by rfl) 43 (.tmp 8) rfl (w2.heap.size) (by first | rfl | simp [Act.eval, Act.put]) D (fun w h => h.2) hdC hdR HSD.out) (by assumption) ?_
    try simp only [Act.put, List.setIfInBounds_toArray, List.set_cons_zero, List.set_cons_succ]
    refine wpAnyH_ready (rs := [2]) (by kernel_rfl) (by simp) (AllReadyH.cons rfl (fun K hK => ?_) AllReadyH.nil)
    rw [if_pos (by rfl)]
    refine wp_storeN 30 (.tmp 4) (.tmp 41) rfl rfl (w.heap.size + 1 + 1) 0 EA (by first | rfl | simp [Act.eval, Act.put]) (by first | rfl | simp [Act.eval, Act.put]) HT4.out HZE.out HEO.out ?_
    refine hK.out _ _ hS1 (fun hS0 => ?_)
    clear hK K
    try simp only [Act.put, List.setIfInBounds_toArray, List.set_cons_zero, List.set_cons_succ]
    refine wpAnyH_ready (rs := [3]) (by kernel_rfl) (by simp) (AllReadyH.cons rfl (fun K hK => ?_) AllReadyH.nil)
    rw [if_pos (by rfl)]
    refine wp_storeN 43 (.tmp 5) (.tmp 42) rfl rfl (w.heap.size + 1 + 1 + 1) 0 D (by first | rfl | simp [Act.eval, Act.put]) (by first | rfl | simp [Act.eval, Act.put]) HTH2.out HSD.out HD1.out ?_
    refine hK.out _ _ hS2 (fun hS0 => ?_)
    clear hK K
    try simp only [Act.put, List.setIfInBounds_toArray, List.set_cons_zero, List.set_cons_succ]
    refine takeD 6 (i := 4) (v := (.bool true)) rfl rfl (by kernel_rfl) (by kernel_rfl) (by kernel_rfl) (fun _ _ _ h => h) (Or.inl ⟨by rfl, by (intro w' _; go_simp)⟩) (by assumption) ?_
    try simp only [Act.put, List.setIfInBounds_toArray, List.set_cons_zero, List.set_cons_succ]
    refine takeD 7 (i := 5) (v := (.int .i64 0)) rfl rfl (by kernel_rfl) (by kernel_rfl) (by kernel_rfl) (fun _ _ _ h => h) (Or.inl ⟨by rfl, by (intro w' _; go_simp)⟩) (by assumption) ?_
    try simp only [Act.put, List.setIfInBounds_toArray, List.set_cons_zero, List.set_cons_succ]
    refine wpAnyH_done (by kernel_rfl) ?_ _
    go_wp2_with fail
    refine bodyPost_ret (results_cctt rfl _ _ _ HA4'.out HA5'.out rfl hdE hdER HZE.out rfl hdC hdR HSD.out) rfl ⟨?_, bstore (bstore HB7.out.drew _ (by omega) _ _) _ (by omega) _ _⟩
    rw [← HX.out, HEA.out, HBB.out]
    rfl
  · have e0 : ((x : Int) == 0) = false := by simp; exact hx0
    have hB1 : B = ph := by rw [hB, decide_eq_false hx0]; cases ph <;> rfl
    clear hB hx0
    go_upto_region 7 with (fail)
    obtain ⟨w7, hw7⟩ : ∃ w7, w7 = w6 := ⟨_, rfl⟩
    rw [← hw7]
    have kk : Keeps (One (w.heap.size)) w6 w7 := by rw [hw7]; exact Keeps.refl _ _
    have A27 := Lib.hid (show ArrAt w7 (w.heap.size) #[.int .i64 n, .int .i64 x, .int .i64 t, .bool B] by rw [hw7, hB1]; exact A26.out)
    clear hw7 hB1
    have A47 := Lib.hid (A46.out.kept kk (fun e => by have e : w.heap.size + 1 + 1 = w.heap.size := e; omega))
    have A57 := Lib.hid (A56.out.kept kk (fun e => by have e : w.heap.size + 1 + 1 + 1 = w.heap.size := e; omega))
    have A87 := Lib.hid (A86.out.kept kk (fun e => by have e : w2.heap.size = w.heap.size := e; omega))
    have HB7 := Lib.hid (HB6.out.trans (kk.below (B := w.heap.size) (by omega) (fun j hj e => by have e : j = w.heap.size := e; omega)))
    have hs7 := kk.size
    clear kk q1 q3 f3
    obtain ⟨EA, hEA⟩ : ∃ EA : Array Value, EA = #[.int .i64 (n : Int), .int .i64 (x : Int), .int .i64 (t : Int), .bool B] := ⟨_, rfl⟩
    rw [← hEA] at A27
    have hEs : EA.size = 4 := by rw [hEA]; rfl
    have hE1 : EA.all (·.oneCell') = true := by rw [hEA]; simp [Value.oneCell']
    have HEA := Lib.hid hEA
    have HES := Lib.hid hEs
    have HEO := Lib.hid hE1
    have HZE := Lib.hid (show (Try.prog.info? 30).map (·.size) = some EA.size by rw [hEs]; exact sizeEnd)
    have HT5 := Lib.hid (show w7.drew.there (w.heap.size + 1 + 1 + 1) 0 D.size by rw [HDS.out]; exact A57.out.drew.th)
    have HT4 := Lib.hid (show w7.drew.there (w.heap.size + 1 + 1) 0 EA.size by rw [HES.out]; exact A47.out.drew.th)
    have HA4 := Lib.hid (A47.out.drew.store EA (by rw [HES.out]; rfl))
    have HA5 := Lib.hid (A57.out.drew.kept (Keeps.setCells EA.toList (Keeps.refl (One (w.heap.size + 1 + 1)) _) 0) (fun e => by have e : w.heap.size + 1 + 1 + 1 = w.heap.size + 1 + 1 := e; omega))
    have HA5' := Lib.hid (HA5.out.store D (by rw [HDS.out]; rfl))
    have HA4' := Lib.hid (HA4.out.kept (Keeps.setCells D.toList (Keeps.refl (One (w.heap.size + 1 + 1 + 1)) _) 0) (fun e => by have e : w.heap.size + 1 + 1 = w.heap.size + 1 + 1 + 1 := e; omega))
    have hS1 : (w7.drew.setCells (w.heap.size + 1 + 1) 0 EA.toList).rangeAt (w.heap.size) 0 EA.toList ∧ (w7.drew.setCells (w.heap.size + 1 + 1) 0 EA.toList).rangeAt w2.heap.size 0 D.toList :=
      ⟨World.rangeAt_setCells_apart A27.out.drew.rng _ _ _ (.inl (by omega)), World.rangeAt_setCells_apart A87.out.drew.rng _ _ _ (.inl (by omega))⟩
    have hS2 : ((w7.drew.setCells (w.heap.size + 1 + 1) 0 EA.toList).setCells (w.heap.size + 1 + 1 + 1) 0 D.toList).rangeAt (w.heap.size) 0 EA.toList ∧ ((w7.drew.setCells (w.heap.size + 1 + 1) 0 EA.toList).setCells (w.heap.size + 1 + 1 + 1) 0 D.toList).rangeAt w2.heap.size 0 D.toList :=
      ⟨World.rangeAt_setCells_apart hS1.1 _ _ _ (.inl (by omega)), World.rangeAt_setCells_apart hS1.2 _ _ _ (.inl (by omega))⟩
    have HTH2 := Lib.hid (show (w7.drew.setCells (w.heap.size + 1 + 1) 0 EA.toList).there (w.heap.size + 1 + 1 + 1) 0 D.size from World.there_setCells HT5.out _ _ _)
    clear hEA hEs hE1
    refine wp_region_held_drew (S := fun w' => w'.rangeAt (w.heap.size) 0 EA.toList ∧ w'.rangeAt w2.heap.size 0 D.toList) (by kernel_rfl) ⟨A27.out.rng, A87.out.rng⟩ (fun hS0 => ?_)
    refine takeD 41 (i := 0) (v := .agg EA) rfl rfl (by kernel_rfl) (by kernel_rfl) (by kernel_rfl) (fun _ _ _ h => h) (yieldsA (by rfl) 30 (.tmp 2) rfl (w.heap.size) (by first | rfl | simp [Act.eval, Act.put]) EA (fun w h => h.1) hdE hdER HZE.out) (by assumption) ?_
    try simp only [Act.put, List.setIfInBounds_toArray, List.set_cons_zero, List.set_cons_succ]
    refine takeD 42 (i := 1) (v := .agg D) rfl rfl (by kernel_rfl) (by kernel_rfl) (by kernel_rfl) (fun _ _ _ h => h) (yieldsA (by rfl) 43 (.tmp 8) rfl (w2.heap.size) (by first | rfl | simp [Act.eval, Act.put]) D (fun w h => h.2) hdC hdR HSD.out) (by assumption) ?_
    try simp only [Act.put, List.setIfInBounds_toArray, List.set_cons_zero, List.set_cons_succ]
    refine wpAnyH_ready (rs := [2]) (by kernel_rfl) (by simp) (AllReadyH.cons rfl (fun K hK => ?_) AllReadyH.nil)
    rw [if_pos (by rfl)]
    refine wp_storeN 30 (.tmp 4) (.tmp 41) rfl rfl (w.heap.size + 1 + 1) 0 EA (by first | rfl | simp [Act.eval, Act.put]) (by first | rfl | simp [Act.eval, Act.put]) HT4.out HZE.out HEO.out ?_
    refine hK.out _ _ hS1 (fun hS0 => ?_)
    clear hK K
    try simp only [Act.put, List.setIfInBounds_toArray, List.set_cons_zero, List.set_cons_succ]
    refine wpAnyH_ready (rs := [3]) (by kernel_rfl) (by simp) (AllReadyH.cons rfl (fun K hK => ?_) AllReadyH.nil)
    rw [if_pos (by rfl)]
    refine wp_storeN 43 (.tmp 5) (.tmp 42) rfl rfl (w.heap.size + 1 + 1 + 1) 0 D (by first | rfl | simp [Act.eval, Act.put]) (by first | rfl | simp [Act.eval, Act.put]) HTH2.out HSD.out HD1.out ?_
    refine hK.out _ _ hS2 (fun hS0 => ?_)
    clear hK K
    try simp only [Act.put, List.setIfInBounds_toArray, List.set_cons_zero, List.set_cons_succ]
    refine takeD 6 (i := 4) (v := (.bool true)) rfl rfl (by kernel_rfl) (by kernel_rfl) (by kernel_rfl) (fun _ _ _ h => h) (Or.inl ⟨by rfl, by (intro w' _; go_simp)⟩) (by assumption) ?_
    try simp only [Act.put, List.setIfInBounds_toArray, List.set_cons_zero, List.set_cons_succ]
    refine takeD 7 (i := 5) (v := (.int .i64 0)) rfl rfl (by kernel_rfl) (by kernel_rfl) (by kernel_rfl) (fun _ _ _ h => h) (Or.inl ⟨by rfl, by (intro w' _; go_simp)⟩) (by assumption) ?_
    try simp only [Act.put, List.setIfInBounds_toArray, List.set_cons_zero, List.set_cons_succ]
    refine wpAnyH_done (by kernel_rfl) ?_ _
    go_wp2_with fail
    refine bodyPost_ret (results_cctt rfl _ _ _ HA4'.out HA5'.out rfl hdE hdER HZE.out rfl hdC hdR HSD.out) rfl ⟨?_, bstore (bstore HB7.out.drew _ (by omega) _ _) _ (by omega) _ _⟩
    rw [← HX.out, HEA.out, HBB.out]
    rfl
end Go.Proofs.Ytpoeepdpoblfcaa
