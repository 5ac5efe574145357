/- queue: Poller.Poll. -/
import Derived.Test.YtpoeepdpoblfcaaDecR
import Derived.Test.YtpoeepdpoblfcaaQ4
import Derived.Deep.RegionHeld3
import Derived.Deep.DrawnRows
namespace Go.Proofs.Ytpoeepdpoblfcaa
open Go.RowKit
attribute [local go_sem ↓] Go.wp_at_zero Go.wp_at_succ

set_option maxRecDepth 100000 in
set_option maxHeartbeats 4000000 in
theorem poll_err (T g n h t : Nat) (ph dp : Bool) (bs D : Array Value) (er : Int) (w : World) (q : QAt T 4 w g n h t ph) (hbs : bs.size = 16) (hD : D.size = 10) (h1 : D.all (·.oneCell') = true) (hdp : D[5]? = some (.bool dp)) (her : er ≠ 0)
    (hC : ∀ w, Calls Try.prog 49 #[.agg bs] w fun e w' => e = .returned (.tuple #[.agg D, .int .i64 er]) ∧ Below w.heap.size w w') :
    Calls Try.prog 24 #[.pointer (some ⟨g, 0, none⟩), .agg bs] w fun e w' => e = .returned (.tuple #[.agg (cArr 0 0), .bool false, .int .i64 er]) ∧ Below w.heap.size w w' := by
  have e0 : (er != 0) = true := by simpa using her
  clear her
  have HQ := Lib.hid q
  have HBS := Lib.hid hbs
  have HDS := Lib.hid hD
  have HD1 := Lib.hid h1
  have HDP := Lib.hid hdp
  have HC := Lib.hid hC
  have hn := q.n2
  have hn' := q.n4
  have hh := q.hh
  have ht := q.ht
  have hg := q.lt
  have d0 : ((n : Int) == 0) = false := by simp; omega
  have hu := Try.underlying44
  obtain ⟨dC, hdC, hdR⟩ := under16
  have HSC := Lib.hid size10
  have HSB := Lib.hid (show (Try.prog.info? 44).map (·.size) = some bs.size by rw [hbs]; exact size16)
  have HSD := Lib.hid (show (Try.prog.info? 43).map (·.size) = some D.size by rw [hD]; exact size10)
  have HC1 := Lib.hid (cArr_one 0 0)
  have HST := Lib.hid (rdec_start bs w)
  clear q hbs hD h1 hdp hC
  go_enter Try.func24, Try.ntmps24
  go_upto_region 1 with ((with_reducible show wpList _ _ _ (⟨some 4, _, _, _, _, _⟩ :: _) _ _); refine wpList_alloc rfl 43 rfl zeroCpl ?_; rw [show (Value.agg (cArr 0 0)).cells = cArr 0 0 from rfl])
  obtain ⟨W, hW⟩ : ∃ W, W = (w.alloc (.cells bs 44)).alloc (.cells (cArr 0 0) 43) := ⟨_, rfl⟩
  rw [← hW]
  obtain ⟨a3, a4, hbW, hsW⟩ := HST.out W HBS.out hW
  have Q0 := Lib.hid (HQ.out.kept (S := fun k => ¬ k < w.heap.size) ⟨hbW.os, hbW.tape, hbW.output, hbW.size, fun k hk hS => hbW.block k hk⟩ (fun e => e hg))
  have A3 := Lib.hid a3
  have A4 := Lib.hid a4
  have HBW := Lib.hid hbW
  have hsW' : w.heap.size + 2 ≤ W.heap.size := by omega
  clear a3 a4 hbW hsW hW
  go_wp2_with fail
  refine (lSize_ok T 4 g n h t ph W Q0.out).mono ?_
  rintro e w1 ⟨rfl, hb1⟩
  have Q1 := Lib.hid (Q0.out.below hb1)
  have A31 := Lib.hid (A3.out.below hb1)
  have A41 := Lib.hid (A4.out.below hb1)
  have HB1 := Lib.hid (HBW.out.trans (hb1.mono (by omega)))
  have hs1 := hb1.size
  clear hb1
  have HFR := Lib.hid (show ∀ w : World, ArrAt (w.alloc (.cells (cArr 0 0) 43)) w.heap.size (cArr 0 0) from fun w => ArrAt.fresh w _ _ (by simp [cArr]))
  go_upto_region 4 with (first
    | ((with_reducible show wpList _ _ _ (⟨some 14, _, _, _, _, _⟩ :: _) _ _); refine wpList_loadA rfl A31.out 44 (.tmp 3) rfl rfl hu rfl HSB.out ?_)
    | (go_at_call 49; refine (HC.out _).mono ?_; rintro e w2 ⟨rfl, hb2⟩; have Q2 := Lib.hid (Q1.out.below hb2); have A42 := Lib.hid (A41.out.below hb2); have hs2 := hb2.size; have HB2 := Lib.hid (HB1.out.trans (hb2.mono (by omega))); clear hb2)
    | ((with_reducible show wpList _ _ _ (⟨some 7, _, _, _, _, _⟩ :: _) _ _); refine wpList_alloc rfl 43 rfl zeroCpl ?_; rw [show (Value.agg (cArr 0 0)).cells = cArr 0 0 from rfl])
    | ((with_reducible show wpList _ _ _ (⟨none, _, _, _, _, _⟩ :: _) _ _); refine wpList_storeA rfl (b := w2.heap.size) (A := cArr 0 0) (A' := D) (HFR.out w2) 43 (.tmp 7) (.tmp 16) rfl (by simp [Act.eval, Act.put]) (by simp [Act.eval, Act.put]) HSC.out (by rw [HDS.out]; rfl) HD1.out ?_))
  obtain ⟨w3, hw3⟩ : ∃ w3, w3 = (w2.alloc (.cells (cArr 0 0) 43)).setCells w2.heap.size 0 D.toList := ⟨_, rfl⟩
  rw [← hw3]
  have kk : Below w2.heap.size w2 w3 := by rw [hw3]; exact bstore ((Below.refl _ _).alloc (Nat.le_refl _) _) _ (Nat.le_refl _) _ _
  have A7 := Lib.hid (show ArrAt w3 w2.heap.size D by rw [hw3]; exact (HFR.out w2).store D (by rw [HDS.out]; rfl))
  have A43 := Lib.hid (A42.out.below kk)
  have Q3 := Lib.hid (Q2.out.below kk)
  have HB3 := Lib.hid (HB2.out.trans (kk.mono (by omega)))
  have hs3 := kk.size
  have c5 : w3.cell? ⟨w2.heap.size, 5, none⟩ = some (.bool dp) := A7.out.cell HDP.out
  have c3 := Q3.out.c3
  clear kk hw3
  go_quiet (fail)
  have A43' := Lib.hid (A43.out.kept (S := fun _ => False) ((Keeps.refl _ w3).drewN nq) (fun e => e))
  have HB3' := Lib.hid (HB3.out.trans (((Keeps.refl (fun _ => False) w3).drewN nq).below (B := w.heap.size) (by omega) (fun _ _ e => e)))
  generalize w3.drewN nq = w4 at *
  go_wp2_with (first
    | ((with_reducible show wpList _ _ _ (⟨some 29, _, _, _, _, _⟩ :: _) _ _); refine wpList_build0 rfl 43 rfl (buildCpl _) ?_)
    | ((with_reducible show wpList _ _ _ (⟨none, _, _, _, _, _⟩ :: _) _ _); refine wpList_storeA rfl (b := w.heap.size + 1) (A := cArr 0 0) (A' := cArr 0 0) A43'.out 43 (.tmp 4) (.tmp 29) rfl (by simp [Act.eval, Act.put]) (by simp [Act.eval, Act.put]) HSC.out rfl HC1.out ?_))
  have AF := Lib.hid (A43'.out.store (cArr 0 0) rfl)
  exact bodyPost_ret (results_ctt rfl _ _ _ AF.out rfl hdC hdR HSC.out) rfl ⟨rfl, bstore HB3'.out _ (by omega) _ _⟩

set_option maxRecDepth 100000 in
set_option maxHeartbeats 4000000 in
theorem poll_old (T g n h t : Nat) (ph dp : Bool) (bs D : Array Value) (w : World) (q : QAt T 4 w g n h t ph) (hbs : bs.size = 16) (hD : D.size = 10) (h1 : D.all (·.oneCell') = true) (hdp : D[5]? = some (.bool dp)) (hne : (dp == ph) = false)
    (hC : ∀ w, Calls Try.prog 49 #[.agg bs] w fun e w' => e = .returned (.tuple #[.agg D, .int .i64 0]) ∧ Below w.heap.size w w') :
    Calls Try.prog 24 #[.pointer (some ⟨g, 0, none⟩), .agg bs] w fun e w' => e = .returned (.tuple #[.agg (cArr 0 0), .bool false, .int .i64 0]) ∧ Below w.heap.size w w' := by
  have HQ := Lib.hid q
  have HBS := Lib.hid hbs
  have HDS := Lib.hid hD
  have HD1 := Lib.hid h1
  have HDP := Lib.hid hdp
  have HC := Lib.hid hC
  have hn := q.n2
  have hn' := q.n4
  have hh := q.hh
  have ht := q.ht
  have hg := q.lt
  have d0 : ((n : Int) == 0) = false := by simp; omega
  have hu := Try.underlying44
  obtain ⟨dC, hdC, hdR⟩ := under16
  have HSC := Lib.hid size10
  have HSB := Lib.hid (show (Try.prog.info? 44).map (·.size) = some bs.size by rw [hbs]; exact size16)
  have HSD := Lib.hid (show (Try.prog.info? 43).map (·.size) = some D.size by rw [hD]; exact size10)
  have HC1 := Lib.hid (cArr_one 0 0)
  have HST := Lib.hid (rdec_start bs w)
  clear q hbs hD h1 hdp hC
  go_enter Try.func24, Try.ntmps24
  go_upto_region 1 with ((with_reducible show wpList _ _ _ (⟨some 4, _, _, _, _, _⟩ :: _) _ _); refine wpList_alloc rfl 43 rfl zeroCpl ?_; rw [show (Value.agg (cArr 0 0)).cells = cArr 0 0 from rfl])
  obtain ⟨W, hW⟩ : ∃ W, W = (w.alloc (.cells bs 44)).alloc (.cells (cArr 0 0) 43) := ⟨_, rfl⟩
  rw [← hW]
  obtain ⟨a3, a4, hbW, hsW⟩ := HST.out W HBS.out hW
  have Q0 := Lib.hid (HQ.out.kept (S := fun k => ¬ k < w.heap.size) ⟨hbW.os, hbW.tape, hbW.output, hbW.size, fun k hk hS => hbW.block k hk⟩ (fun e => e hg))
  have A3 := Lib.hid a3
  have A4 := Lib.hid a4
  have HBW := Lib.hid hbW
  have hsW' : w.heap.size + 2 ≤ W.heap.size := by omega
  clear a3 a4 hbW hsW hW
  go_wp2_with fail
  refine (lSize_ok T 4 g n h t ph W Q0.out).mono ?_
  rintro e w1 ⟨rfl, hb1⟩
  have Q1 := Lib.hid (Q0.out.below hb1)
  have A31 := Lib.hid (A3.out.below hb1)
  have A41 := Lib.hid (A4.out.below hb1)
  have HB1 := Lib.hid (HBW.out.trans (hb1.mono (by omega)))
  have hs1 := hb1.size
  clear hb1
  have HFR := Lib.hid (show ∀ w : World, ArrAt (w.alloc (.cells (cArr 0 0) 43)) w.heap.size (cArr 0 0) from fun w => ArrAt.fresh w _ _ (by simp [cArr]))
  go_upto_region 4 with (first
    | ((with_reducible show wpList _ _ _ (⟨some 14, _, _, _, _, _⟩ :: _) _ _); refine wpList_loadA rfl A31.out 44 (.tmp 3) rfl rfl hu rfl HSB.out ?_)
    | (go_at_call 49; refine (HC.out _).mono ?_; rintro e w2 ⟨rfl, hb2⟩; have Q2 := Lib.hid (Q1.out.below hb2); have A42 := Lib.hid (A41.out.below hb2); have hs2 := hb2.size; have HB2 := Lib.hid (HB1.out.trans (hb2.mono (by omega))); clear hb2)
    | ((with_reducible show wpList _ _ _ (⟨some 7, _, _, _, _, _⟩ :: _) _ _); refine wpList_alloc rfl 43 rfl zeroCpl ?_; rw [show (Value.agg (cArr 0 0)).cells = cArr 0 0 from rfl])
    | ((with_reducible show wpList _ _ _ (⟨none, _, _, _, _, _⟩ :: _) _ _); refine wpList_storeA rfl (b := w2.heap.size) (A := cArr 0 0) (A' := D) (HFR.out w2) 43 (.tmp 7) (.tmp 16) rfl (by simp [Act.eval, Act.put]) (by simp [Act.eval, Act.put]) HSC.out (by rw [HDS.out]; rfl) HD1.out ?_))
  obtain ⟨w3, hw3⟩ : ∃ w3, w3 = (w2.alloc (.cells (cArr 0 0) 43)).setCells w2.heap.size 0 D.toList := ⟨_, rfl⟩
  rw [← hw3]
  have kk : Below w2.heap.size w2 w3 := by rw [hw3]; exact bstore ((Below.refl _ _).alloc (Nat.le_refl _) _) _ (Nat.le_refl _) _ _
  have A7 := Lib.hid (show ArrAt w3 w2.heap.size D by rw [hw3]; exact (HFR.out w2).store D (by rw [HDS.out]; rfl))
  have A43 := Lib.hid (A42.out.below kk)
  have Q3 := Lib.hid (Q2.out.below kk)
  have HB3 := Lib.hid (HB2.out.trans (kk.mono (by omega)))
  have hs3 := kk.size
  have c5 : w3.cell? ⟨w2.heap.size, 5, none⟩ = some (.bool dp) := A7.out.cell HDP.out
  have c3 := Q3.out.c3
  clear kk hw3
  go_quiet (fail)
  have A43' := Lib.hid (A43.out.kept (S := fun _ => False) ((Keeps.refl _ w3).drewN nq) (fun e => e))
  have HB3' := Lib.hid (HB3.out.trans (((Keeps.refl (fun _ => False) w3).drewN nq).below (B := w.heap.size) (by omega) (fun _ _ e => e)))
  generalize w3.drewN nq = w4 at *
  go_wp2_with (first
    | ((with_reducible show wpList _ _ _ (⟨some 29, _, _, _, _, _⟩ :: _) _ _); refine wpList_build0 rfl 43 rfl (buildCpl _) ?_)
    | ((with_reducible show wpList _ _ _ (⟨none, _, _, _, _, _⟩ :: _) _ _); refine wpList_storeA rfl (b := w.heap.size + 1) (A := cArr 0 0) (A' := cArr 0 0) A43'.out 43 (.tmp 4) (.tmp 29) rfl (by simp [Act.eval, Act.put]) (by simp [Act.eval, Act.put]) HSC.out rfl HC1.out ?_))
  have AF := Lib.hid (A43'.out.store (cArr 0 0) rfl)
  exact bodyPost_ret (results_ctt rfl _ _ _ AF.out rfl hdC hdR HSC.out) rfl ⟨rfl, bstore HB3'.out _ (by omega) _ _⟩

set_option maxRecDepth 100000 in
set_option maxHeartbeats 4000000 in
theorem poll_new (T g n h t : Nat) (ph dp : Bool) (bs D : Array Value) (w : World) (q : QAt T 4 w g n h t ph) (hbs : bs.size = 16) (hD : D.size = 10) (h1 : D.all (·.oneCell') = true) (hdp : D[5]? = some (.bool dp)) (heq : (dp == ph) = true)
    (hC : ∀ w, Calls Try.prog 49 #[.agg bs] w fun e w' => e = .returned (.tuple #[.agg D, .int .i64 0]) ∧ Below w.heap.size w w') :
    Calls Try.prog 24 #[.pointer (some ⟨g, 0, none⟩), .agg bs] w fun e w' => e = .returned (.tuple #[.agg D, .bool true, .int .i64 0]) ∧ Keeps (One g) w w' ∧ QAt T 4 w' g n (nxt n h) t (ph != decide (nxt n h = 0)) := by
  have HQ := Lib.hid q
  have HBS := Lib.hid hbs
  have HDS := Lib.hid hD
  have HD1 := Lib.hid h1
  have HDP := Lib.hid hdp
  have HC := Lib.hid hC
  have hn := q.n2
  have hn' := q.n4
  have hh := q.hh
  have ht := q.ht
  have hg := q.lt
  have d0 : ((n : Int) == 0) = false := by simp; omega
  have hu := Try.underlying44
  obtain ⟨dC, hdC, hdR⟩ := under16
  have HSC := Lib.hid size10
  have HSB := Lib.hid (show (Try.prog.info? 44).map (·.size) = some bs.size by rw [hbs]; exact size16)
  have HSD := Lib.hid (show (Try.prog.info? 43).map (·.size) = some D.size by rw [hD]; exact size10)
  have HC1 := Lib.hid (cArr_one 0 0)
  have HST := Lib.hid (rdec_start bs w)
  clear q hbs hD h1 hdp hC
  go_enter Try.func24, Try.ntmps24
  go_upto_region 1 with ((with_reducible show wpList _ _ _ (⟨some 4, _, _, _, _, _⟩ :: _) _ _); refine wpList_alloc rfl 43 rfl zeroCpl ?_; rw [show (Value.agg (cArr 0 0)).cells = cArr 0 0 from rfl])
  obtain ⟨W, hW⟩ : ∃ W, W = (w.alloc (.cells bs 44)).alloc (.cells (cArr 0 0) 43) := ⟨_, rfl⟩
  rw [← hW]
  obtain ⟨a3, a4, hbW, hsW⟩ := HST.out W HBS.out hW
  have Q0 := Lib.hid (HQ.out.kept (S := fun k => ¬ k < w.heap.size) ⟨hbW.os, hbW.tape, hbW.output, hbW.size, fun k hk hS => hbW.block k hk⟩ (fun e => e hg))
  have A3 := Lib.hid a3
  have A4 := Lib.hid a4
  have HBW := Lib.hid hbW
  have hsW' : w.heap.size + 2 ≤ W.heap.size := by omega
  clear a3 a4 hbW hsW hW
  go_wp2_with fail
  refine (lSize_ok T 4 g n h t ph W Q0.out).mono ?_
  rintro e w1 ⟨rfl, hb1⟩
  have Q1 := Lib.hid (Q0.out.below hb1)
  have A31 := Lib.hid (A3.out.below hb1)
  have A41 := Lib.hid (A4.out.below hb1)
  have HB1 := Lib.hid (HBW.out.trans (hb1.mono (by omega)))
  have hs1 := hb1.size
  clear hb1
  have HFR := Lib.hid (show ∀ w : World, ArrAt (w.alloc (.cells (cArr 0 0) 43)) w.heap.size (cArr 0 0) from fun w => ArrAt.fresh w _ _ (by simp [cArr]))
  go_upto_region 4 with (first
    | ((with_reducible show wpList _ _ _ (⟨some 14, _, _, _, _, _⟩ :: _) _ _); refine wpList_loadA rfl A31.out 44 (.tmp 3) rfl rfl hu rfl HSB.out ?_)
    | (go_at_call 49; refine (HC.out _).mono ?_; rintro e w2 ⟨rfl, hb2⟩; have Q2 := Lib.hid (Q1.out.below hb2); have A42 := Lib.hid (A41.out.below hb2); have hs2 := hb2.size; have HB2 := Lib.hid (HB1.out.trans (hb2.mono (by omega))); clear hb2)
    | ((with_reducible show wpList _ _ _ (⟨some 7, _, _, _, _, _⟩ :: _) _ _); refine wpList_alloc rfl 43 rfl zeroCpl ?_; rw [show (Value.agg (cArr 0 0)).cells = cArr 0 0 from rfl])
    | ((with_reducible show wpList _ _ _ (⟨none, _, _, _, _, _⟩ :: _) _ _); refine wpList_storeA rfl (b := w2.heap.size) (A := cArr 0 0) (A' := D) (HFR.out w2) 43 (.tmp 7) (.tmp 16) rfl (by simp [Act.eval, Act.put]) (by simp [Act.eval, Act.put]) HSC.out (by rw [HDS.out]; rfl) HD1.out ?_))
  obtain ⟨w3, hw3⟩ : ∃ w3, w3 = (w2.alloc (.cells (cArr 0 0) 43)).setCells w2.heap.size 0 D.toList := ⟨_, rfl⟩
  rw [← hw3]
  have kk : Below w2.heap.size w2 w3 := by rw [hw3]; exact bstore ((Below.refl _ _).alloc (Nat.le_refl _) _) _ (Nat.le_refl _) _ _
  have A7 := Lib.hid (show ArrAt w3 w2.heap.size D by rw [hw3]; exact (HFR.out w2).store D (by rw [HDS.out]; rfl))
  have A43 := Lib.hid (A42.out.below kk)
  have Q3 := Lib.hid (Q2.out.below kk)
  have HB3 := Lib.hid (HB2.out.trans (kk.mono (by omega)))
  have hs3 := kk.size
  have c5 : w3.cell? ⟨w2.heap.size, 5, none⟩ = some (.bool dp) := A7.out.cell HDP.out
  have c3 := Q3.out.c3
  clear kk hw3
  go_quiet (fail)
  have kq : Keeps (fun _ => False) w3 (w3.drewN nq) := (Keeps.refl _ w3).drewN nq
  have A44 := Lib.hid (A43.out.kept kq (fun e => e))
  have A74 := Lib.hid (A7.out.kept kq (fun e => e))
  have Q4 := Lib.hid (Q3.out.kept kq (fun e => e))
  have HB4 := Lib.hid (HB3.out.trans (kq.below (B := w.heap.size) (by omega) (fun _ _ e => e)))
  have hs4 := kq.size
  clear kq c3 c5
  generalize w3.drewN nq = w4 at *
  go_upto_region 6 with (fail)
  have hx := nxt_lt hh
  obtain ⟨x, hx'⟩ : ∃ x, x = nxt n h := ⟨_, rfl⟩
  rw [← hx'] at hx
  have HX := Lib.hid hx'
  have HN := Lib.hid fun w => next_ok n h h t w hn hn' hh
  rw [← hx'] at HN
  have c1 := Q4.out.c1
  have f1 := Q4.out.row.frozen 1
  have Q4D := Lib.hid (Q4.out.kept (S := fun _ => False) (Keeps.refl _ w4).drew (fun e => e))
  clear hx'
  have c0 := Q4.out.c0
  have c2 := Q4.out.c2
  go_cut [41] from 31 to 45 (fun _ wc => QAt T 4 wc g n x t ph ∧ Keeps (One g) w wc ∧ ArrAt wc (w.heap.size + 1) (cArr 0 0) ∧ ArrAt wc w2.heap.size D ∧ w4.heap.size ≤ wc.heap.size)
  case first =>
    go_region_with (go_at_call 50; refine (HN.out _).mono ?_; rintro e w5 ⟨rfl, hb5⟩; have hb5' : Below w4.heap.size w4 w5 := ((Below.refl _ w4).drew).trans hb5; have Q5 := Lib.hid (Q4.out.below hb5'); have HB5 := Lib.hid (HB4.out.trans (hb5'.mono (by omega))); have A45 := Lib.hid (A44.out.below hb5'); have A75 := Lib.hid (A74.out.below hb5'); have HS5 := Lib.hid (show w4.heap.size ≤ w5.heap.size from hb5'.size); have c5 := Q5.out.c1; have f5 := Q5.out.row.frozen 1; clear hb5 hb5')
    all_goals
      go_wp2_with fail
      go_meet
      have kk : Keeps (One g) w5 (w5.setCell ⟨g, 1, none⟩ (.int .i64 x)) := (Keeps.refl _ _).set1 _ _
      exact ⟨Q5.out.set1 x hx, (Keeps.of_below (S := One g) HB5.out).trans (kk.mono (fun _ _ h => h)), A45.out.kept kk (fun e => by have e : w.heap.size + 1 = g := e; omega), A75.out.kept kk (fun e => by have e : w2.heap.size = g := e; omega), by have := HS5.out; have := kk.size; omega⟩
  case rest =>
    obtain ⟨q6, k6, a46, a76, hs6⟩ := hcut
    have Q6 := Lib.hid q6
    have K6 := Lib.hid k6
    have A46 := Lib.hid a46
    have A76 := Lib.hid a76
    have c1 := q6.c1
    have c3 := q6.c3
    have f3 := q6.row.frozen 3
    clear q6 k6 a46 a76 f1 c0 c2
    go_wp2_with fail
    go_region
    obtain ⟨B, hB⟩ : ∃ B, B = (!(ph == ((x : Int) == 0))) := ⟨_, rfl⟩
    rw [← hB]
    have HBB := Lib.hid (show B = (ph != decide (x = 0)) by rw [hB]; by_cases e : x = 0 <;> cases ph <;> simp [e])
    obtain ⟨w7, hw7⟩ : ∃ w7, w7 = (wc.setCell ⟨g, 3, none⟩ (.bool B)).drew := ⟨_, rfl⟩
    rw [← hw7]
    have kk : Keeps (One g) wc w7 := by rw [hw7]; exact ((Keeps.refl _ _).set1 _ _).drew
    have Q7 := Lib.hid (show QAt T 4 w7 g n x t B by rw [hw7]; exact (Q6.out.set3 B).kept (S := fun _ => False) (Keeps.refl _ _).drew (fun e => e))
    have A47 := Lib.hid (A46.out.kept kk (fun e => by have e : w.heap.size + 1 = g := e; omega))
    have A77 := Lib.hid (A76.out.kept kk (fun e => by have e : w2.heap.size = g := e; omega))
    have K7 := Lib.hid (K6.out.trans (kk.mono (fun _ _ h => h)))
    clear kk hw7 hB c1 c3 f3
    go_wp2_with (first
      | ((with_reducible show wpList _ _ _ (⟨some 59, _, _, _, _, _⟩ :: _) _ _); refine wpList_loadA rfl A77.out 43 (.tmp 7) rfl rfl hdC hdR HSD.out ?_)
      | ((with_reducible show wpList _ _ _ (⟨none, _, _, _, _, _⟩ :: _) _ _); refine wpList_storeA rfl (b := w.heap.size + 1) (A := cArr 0 0) (A' := D) A47.out 43 (.tmp 4) (.tmp 59) rfl (by simp [Act.eval, Act.put]) (by simp [Act.eval, Act.put]) HSC.out (by rw [HDS.out]; rfl) HD1.out ?_))
    have AF := Lib.hid (A47.out.store D (by rw [HDS.out]; rfl))
    refine bodyPost_ret (results_ctt rfl _ _ _ AF.out rfl hdC hdR HSD.out) rfl ⟨rfl, K7.out.store (fun e => by omega) _ _, ?_⟩
    rw [← HX.out, ← HBB.out]
    exact Q7.out.kept (Keeps.setCells _ (Keeps.refl (One (w.heap.size + 1)) _) 0) (fun e => by have e : g = w.heap.size + 1 := e; omega)

end Go.Proofs.Ytpoeepdpoblfcaa
