/- queue: Sender.Push. -/
import Derived.Test.YtpoeepdpoblfcaaArr
import Derived.Test.YtpoeepdpoblfcaaQ4
import Derived.Test.YtpoeepdpoblfcaaCmd
import Derived.BigRegion
import Derived.Deep.RegionHeld3
import Derived.Deep.MidRow
import Derived.Deep.DrawnRows
namespace Go.Proofs.Ytpoeepdpoblfcaa
open Go.RowKit
attribute [local go_sem ↓] Go.wp_at_zero Go.wp_at_succ

theorem size_cmd : (Try.prog.info? 38).map (·.size) = some 16 := by kernel_rfl
theorem build64 (w : World) : (Instr.build 69 #[]).run Try.prog w = .ok (.agg (arr 64 z8)) w := by kernel_rfl
/-- The three blocks that Push makes first. -/
theorem s_start (cs : Array Value) (w W : World) (hcs : cs.size = 16) (hW : W = (((w.alloc (.cells cs 38)).alloc (.cells (arr 64 z8) 69)).alloc (.cells (arr 64 z8) 69)).setCells (w.heap.size + 1 + 1) 0 (arr 64 z8).toList) :
    ArrAt W w.heap.size cs ∧ ArrAt W (w.heap.size + 1) (arr 64 z8) ∧ ArrAt W (w.heap.size + 1 + 1) (arr 64 z8) ∧ Below w.heap.size w W ∧ W.heap.size = w.heap.size + 3 := by
  subst hW
  obtain ⟨w1, h1⟩ : ∃ w1, w1 = w.alloc (.cells cs 38) := ⟨_, rfl⟩
  obtain ⟨w2, h2⟩ : ∃ w2, w2 = w1.alloc (.cells (arr 64 z8) 69) := ⟨_, rfl⟩
  obtain ⟨w3, h3⟩ : ∃ w3, w3 = w2.alloc (.cells (arr 64 z8) 69) := ⟨_, rfl⟩
  have s1 : w1.heap.size = w.heap.size + 1 := by rw [h1]; simp
  have s2 : w2.heap.size = w.heap.size + 1 + 1 := by rw [h2]; simp [s1]
  have s3 : w3.heap.size = w.heap.size + 1 + 1 + 1 := by rw [h3]; simp [s2]
  rw [← h1, ← h2, ← h3]
  have a1 : ArrAt w1 w.heap.size cs := by rw [h1]; exact ArrAt.fresh _ _ _ (by omega)
  have a2 : ArrAt w2 (w.heap.size + 1) (arr 64 z8) := by rw [h2, ← s1]; exact ArrAt.fresh _ _ _ (by rw [arr_size]; omega)
  have a3 : ArrAt w3 (w.heap.size + 1 + 1) (arr 64 z8) := by rw [h3, ← s2]; exact ArrAt.fresh _ _ _ (by rw [arr_size]; omega)
  have b1 : ArrAt w3 w.heap.size cs := by rw [h3]; refine ArrAt.alloc ?_ _; rw [h2]; exact a1.alloc _
  have b2 : ArrAt w3 (w.heap.size + 1) (arr 64 z8) := by rw [h3]; exact a2.alloc _
  have k : Keeps (One (w.heap.size + 1 + 1)) w3 (w3.setCells (w.heap.size + 1 + 1) 0 (arr 64 z8).toList) := Keeps.setCells _ (Keeps.refl _ _) 0
  refine ⟨b1.kept k (fun e => by have e : w.heap.size = w.heap.size + 1 + 1 := e; omega), b2.kept k (fun e => by have e : w.heap.size + 1 = w.heap.size + 1 + 1 := e; omega), a3.store _ rfl, ?_, ?_⟩
  · refine bstore ?_ _ (by omega) _ _
    rw [h3]; refine Below.alloc ?_ (by omega) _
    rw [h2]; refine Below.alloc ?_ (by omega) _
    rw [h1]; exact (Below.refl _ _).alloc (Nat.le_refl _) _
  · rw [size_setCells, s3]

set_option maxRecDepth 100000 in
set_option maxHeartbeats 4000000 in
theorem sPush_err (T g n h t : Nat) (ph : Bool) (cs E : Array Value) (w : World) (q : QAt T 3 w g n h t ph) (hcs : cs.size = 16) (hE : E.size = 64) (h1 : E.all (·.oneCell') = true)
    (hC : ∀ w, Calls Try.prog 63 #[.agg cs] w fun e w' => e = .returned (.tuple #[.agg E, .int .i64 2]) ∧ Below w.heap.size w w') :
    Calls Try.prog 30 #[.pointer (some ⟨g, 0, none⟩), .agg cs] w fun e w' => e = .returned (.tuple #[.int .i64 0, .agg (arr 64 z8), .int .i64 2]) ∧ Below w.heap.size w w' := by
  have HQ := Lib.hid q
  have HCS := Lib.hid hcs
  have HE := Lib.hid hE
  have HE1 := Lib.hid h1
  have HC := Lib.hid hC
  have HST := Lib.hid (s_start cs w)
  have hn := q.n2
  have hn' := q.n4
  have hh := q.hh
  have ht := q.ht
  have hg := q.lt
  have d0 : ((n : Int) == 0) = false := by simp; omega
  have hu := Try.underlying69
  have hu2 := Try.underlying38
  obtain ⟨AZ, hAZ⟩ : ∃ AZ, AZ = arr 64 z8 := ⟨_, rfl⟩
  have hZS : AZ.size = 64 := by rw [hAZ, arr_size]
  have hZ1 : AZ.all (·.oneCell') = true := by rw [hAZ]; exact z8_one
  have hz0 : ∀ w, (zeroValue 69).run Try.prog w = .ok (.agg AZ) w := by rw [hAZ]; exact zero64
  have hb0 : ∀ w, (Instr.build 69 #[]).run Try.prog w = .ok (.agg AZ) w := by rw [hAZ]; exact build64
  rw [← hAZ] at HST ⊢
  have HZ := Lib.hid hAZ
  have HZS := Lib.hid hZS
  have HZ1 := Lib.hid hZ1
  have HZ0 := Lib.hid hz0
  have HB0 := Lib.hid hb0
  have hsz : (Try.prog.info? 69).map (·.size) = some AZ.size := by rw [hZS]; exact size64
  have hszE : (Try.prog.info? 69).map (·.size) = some E.size := by rw [hE]; exact size64
  have hszC : (Try.prog.info? 38).map (·.size) = some cs.size := by rw [hcs]; exact size_cmd
  have HSZ := Lib.hid hsz
  have HSZE := Lib.hid hszE
  have HSZC := Lib.hid hszC
  clear q hcs hE h1 hC hAZ hZS hZ1 hz0 hb0 hsz hszE hszC
  have HFR := Lib.hid (show ∀ w : World, ArrAt (w.alloc (.cells AZ 69)) w.heap.size AZ from fun w => ArrAt.fresh w AZ 69 (by rw [HZS.out]; omega))
  have H7 := Lib.hid (show ArrAt (((w.alloc (.cells cs 38)).alloc (.cells AZ 69)).alloc (.cells AZ 69)) (w.heap.size + 1 + 1) AZ by
    have h := HFR.out ((w.alloc (.cells cs 38)).alloc (.cells AZ 69))
    have e : ((w.alloc (.cells cs 38)).alloc (.cells AZ 69)).heap.size = w.heap.size + 1 + 1 := by simp
    rw [e] at h
    exact h)
  go_enter Try.func30, Try.ntmps30
  go_upto_region 2 with (first
    | ((with_reducible show wpList _ _ _ (⟨some 5, _, _, _, _, _⟩ :: _) _ _); refine wpList_alloc rfl 69 rfl HZ0.out ?_; rw [show (Value.agg AZ).cells = AZ from rfl])
    | ((with_reducible show wpList _ _ _ (⟨some 7, _, _, _, _, _⟩ :: _) _ _); refine wpList_alloc rfl 69 rfl HZ0.out ?_; rw [show (Value.agg AZ).cells = AZ from rfl])
    | ((with_reducible show wpList _ _ _ (⟨some 11, _, _, _, _, _⟩ :: _) _ _); refine wpList_build0 rfl 69 rfl (HB0.out _) ?_)
    | ((with_reducible show wpList _ _ _ (⟨none, _, _, _, _, _⟩ :: _) _ _); refine wpList_storeA rfl (b := w.heap.size + 1 + 1) (A := AZ) (A' := AZ) H7.out 69 (.tmp 7) (.tmp 11) rfl (by simp [Act.eval, Act.put]) (by simp [Act.eval, Act.put]) HSZ.out rfl HZ1.out ?_))
  obtain ⟨W, hW⟩ : ∃ W, W = (((w.alloc (.cells cs 38)).alloc (.cells AZ 69)).alloc (.cells AZ 69)).setCells (w.heap.size + 1 + 1) 0 AZ.toList := ⟨_, rfl⟩
  rw [← hW]
  obtain ⟨a3, a5, a7, hbW, hsW⟩ := HST.out W HCS.out hW
  have A3 := Lib.hid a3
  have A5 := Lib.hid a5
  have A7 := Lib.hid a7
  have HBW := Lib.hid hbW
  have HSW := Lib.hid hsW
  have Q0 := Lib.hid (HQ.out.kept (S := fun k => ¬ k < w.heap.size) ⟨hbW.os, hbW.tape, hbW.output, hbW.size, fun k hk hS => hbW.block k hk⟩ (fun e => e hg))
  clear a3 a5 a7 hbW hsW hW
  go_wp2_with fail
  refine (sstate_any g n h t W Q0.out.c0 Q0.out.c1 Q0.out.c2).mono ?_
  rintro e w1 ⟨rfl, hb1⟩
  have Q1 := Lib.hid (Q0.out.below hb1)
  have A31 := Lib.hid (A3.out.below hb1)
  have A51 := Lib.hid (A5.out.below hb1)
  have A71 := Lib.hid (A7.out.below hb1)
  have HB1 := Lib.hid (HBW.out.trans (hb1.mono (by rw [HSW.out]; omega)))
  have hs1 : w.heap.size + 3 ≤ w1.heap.size := by have := hb1.size; rw [HSW.out] at this; exact this
  clear hb1
  go_upto_region 5 with (first
    | ((with_reducible show wpList _ _ _ (⟨some 18, _, _, _, _, _⟩ :: _) _ _); refine wpList_loadA rfl A31.out 38 (.tmp 3) rfl rfl hu2 rfl HSZC.out ?_)
    | (go_at_call 63; refine (HC.out _).mono ?_; rintro e w2 ⟨rfl, hb2⟩; have Q2 := Lib.hid (Q1.out.below hb2); have A52 := Lib.hid (A51.out.below hb2); have A72 := Lib.hid (A71.out.below hb2); have hs2 := hb2.size; have HB2 := Lib.hid (HB1.out.trans (hb2.mono (by omega))); clear hb2)
    | ((with_reducible show wpList _ _ _ (⟨some 8, _, _, _, _, _⟩ :: _) _ _); refine wpList_alloc rfl 69 rfl HZ0.out ?_; rw [show (Value.agg AZ).cells = AZ from rfl])
    | ((with_reducible show wpList _ _ _ (⟨none, _, _, _, _, _⟩ :: _) _ _); refine wpList_storeA rfl (b := w2.heap.size) (A := AZ) (A' := E) (HFR.out w2) 69 (.tmp 8) (.tmp 20) rfl rfl (by simp [Act.eval, Act.put]) HSZ.out (by rw [HE.out, HZS.out]) HE1.out ?_))
  obtain ⟨w3, hw3⟩ : ∃ w3, w3 = (w2.alloc (.cells AZ 69)).setCells w2.heap.size 0 E.toList := ⟨_, rfl⟩
  rw [← hw3]
  have kk : Below w2.heap.size w2 w3 := by rw [hw3]; exact bstore ((Below.refl _ _).alloc (Nat.le_refl _) _) _ (Nat.le_refl _) _ _
  have A8 := Lib.hid (show ArrAt w3 w2.heap.size E by rw [hw3]; exact (ArrAt.fresh w2 AZ 69 (by rw [HZS.out]; omega)).store E (by rw [HE.out, HZS.out]))
  have A5' := Lib.hid (A52.out.below kk)
  have A7' := Lib.hid (A72.out.below kk)
  have Q3 := Lib.hid (Q2.out.below kk)
  have HB3 := Lib.hid (HB2.out.trans (kk.mono (by omega)))
  have hs3 := kk.size
  clear kk hw3
  go_wp2_with fail
  have hi : (Try.prog.info? 69).map (·.size) = some AZ.toList.length := by have := HSZ.out; simpa using this
  have h1 : ∀ v ∈ AZ.toList, v.oneCell' = true := fun v hv => by have := Array.all_eq_true_iff_forall_mem.1 HZ1.out v (by simpa using hv); exact this
  go_region_held3 (fun w' => w'.rangeAt (w.heap.size + 1 + 1) 0 AZ.toList ∧ w'.there (w.heap.size + 1) 0 AZ.size) (with_reducible first | exact ⟨A7'.out.rng, A5'.out.th⟩ | exact ⟨A7'.out.drew.rng, (World.there_drew _ _ _ _).2 A5'.out.th⟩ | exact ⟨World.rangeAt_setCells_apart A7'.out.drew.rng _ _ _ (.inl (by omega)), World.there_setCells ((World.there_drew _ _ _ _).2 A5'.out.th) _ _ _⟩) (fail)
  go_wp2_with fail
  have A5F := Lib.hid (A5'.out.drew.store AZ rfl)
  refine bodyPost_ret (results_tct rfl _ _ _ A5F.out rfl hu rfl HSZ.out) rfl ⟨rfl, bstore HB3.out.drew _ (by omega) _ _⟩

set_option maxRecDepth 100000 in
set_option maxHeartbeats 4000000 in
theorem sPush_full (T g n h t : Nat) (ph : Bool) (cs E : Array Value) (w : World) (q : QAt T 3 w g n h t ph) (hcs : cs.size = 16) (hE : E.size = 64) (h1 : E.all (·.oneCell') = true) (hb : decide (usd n h t = n - 1) = true)
    (hC : ∀ w, Calls Try.prog 63 #[.agg cs] w fun e w' => e = .returned (.tuple #[.agg E, .int .i64 0]) ∧ Below w.heap.size w w') :
    Calls Try.prog 30 #[.pointer (some ⟨g, 0, none⟩), .agg cs] w fun e w' => e = .returned (.tuple #[.int .i64 0, .agg (arr 64 z8), .int .i64 7]) ∧ Below w.heap.size w w' := by
  have HQ := Lib.hid q
  have HCS := Lib.hid hcs
  have HE := Lib.hid hE
  have HE1 := Lib.hid h1
  have HC := Lib.hid hC
  have HST := Lib.hid (s_start cs w)
  have HF := Lib.hid hb
  have hn := q.n2
  have hn' := q.n4
  have hh := q.hh
  have ht := q.ht
  have hg := q.lt
  have d0 : ((n : Int) == 0) = false := by simp; omega
  have hu := Try.underlying69
  have hu2 := Try.underlying38
  obtain ⟨AZ, hAZ⟩ : ∃ AZ, AZ = arr 64 z8 := ⟨_, rfl⟩
  have hZS : AZ.size = 64 := by rw [hAZ, arr_size]
  have hZ1 : AZ.all (·.oneCell') = true := by rw [hAZ]; exact z8_one
  have hz0 : ∀ w, (zeroValue 69).run Try.prog w = .ok (.agg AZ) w := by rw [hAZ]; exact zero64
  have hb0 : ∀ w, (Instr.build 69 #[]).run Try.prog w = .ok (.agg AZ) w := by rw [hAZ]; exact build64
  rw [← hAZ] at HST ⊢
  have HZ := Lib.hid hAZ
  have HZS := Lib.hid hZS
  have HZ1 := Lib.hid hZ1
  have HZ0 := Lib.hid hz0
  have HB0 := Lib.hid hb0
  have hsz : (Try.prog.info? 69).map (·.size) = some AZ.size := by rw [hZS]; exact size64
  have hszE : (Try.prog.info? 69).map (·.size) = some E.size := by rw [hE]; exact size64
  have hszC : (Try.prog.info? 38).map (·.size) = some cs.size := by rw [hcs]; exact size_cmd
  have HSZ := Lib.hid hsz
  have HSZE := Lib.hid hszE
  have HSZC := Lib.hid hszC
  clear q hcs hE h1 hC hAZ hZS hZ1 hz0 hb0 hsz hszE hszC hb
  have HFR := Lib.hid (show ∀ w : World, ArrAt (w.alloc (.cells AZ 69)) w.heap.size AZ from fun w => ArrAt.fresh w AZ 69 (by rw [HZS.out]; omega))
  have H7 := Lib.hid (show ArrAt (((w.alloc (.cells cs 38)).alloc (.cells AZ 69)).alloc (.cells AZ 69)) (w.heap.size + 1 + 1) AZ by
    have h := HFR.out ((w.alloc (.cells cs 38)).alloc (.cells AZ 69))
    have e : ((w.alloc (.cells cs 38)).alloc (.cells AZ 69)).heap.size = w.heap.size + 1 + 1 := by simp
    rw [e] at h
    exact h)
  go_enter Try.func30, Try.ntmps30
  go_upto_region 2 with (first
    | ((with_reducible show wpList _ _ _ (⟨some 5, _, _, _, _, _⟩ :: _) _ _); refine wpList_alloc rfl 69 rfl HZ0.out ?_; rw [show (Value.agg AZ).cells = AZ from rfl])
    | ((with_reducible show wpList _ _ _ (⟨some 7, _, _, _, _, _⟩ :: _) _ _); refine wpList_alloc rfl 69 rfl HZ0.out ?_; rw [show (Value.agg AZ).cells = AZ from rfl])
    | ((with_reducible show wpList _ _ _ (⟨some 11, _, _, _, _, _⟩ :: _) _ _); refine wpList_build0 rfl 69 rfl (HB0.out _) ?_)
    | ((with_reducible show wpList _ _ _ (⟨none, _, _, _, _, _⟩ :: _) _ _); refine wpList_storeA rfl (b := w.heap.size + 1 + 1) (A := AZ) (A' := AZ) H7.out 69 (.tmp 7) (.tmp 11) rfl (by simp [Act.eval, Act.put]) (by simp [Act.eval, Act.put]) HSZ.out rfl HZ1.out ?_))
  obtain ⟨W, hW⟩ : ∃ W, W = (((w.alloc (.cells cs 38)).alloc (.cells AZ 69)).alloc (.cells AZ 69)).setCells (w.heap.size + 1 + 1) 0 AZ.toList := ⟨_, rfl⟩
  rw [← hW]
  obtain ⟨a3, a5, a7, hbW, hsW⟩ := HST.out W HCS.out hW
  have A3 := Lib.hid a3
  have A5 := Lib.hid a5
  have A7 := Lib.hid a7
  have HBW := Lib.hid hbW
  have HSW := Lib.hid hsW
  have Q0 := Lib.hid (HQ.out.kept (S := fun k => ¬ k < w.heap.size) ⟨hbW.os, hbW.tape, hbW.output, hbW.size, fun k hk hS => hbW.block k hk⟩ (fun e => e hg))
  clear a3 a5 a7 hbW hsW hW
  go_wp2_with fail
  refine (sstate_any g n h t W Q0.out.c0 Q0.out.c1 Q0.out.c2).mono ?_
  rintro e w1 ⟨rfl, hb1⟩
  have Q1 := Lib.hid (Q0.out.below hb1)
  have A31 := Lib.hid (A3.out.below hb1)
  have A51 := Lib.hid (A5.out.below hb1)
  have A71 := Lib.hid (A7.out.below hb1)
  have HB1 := Lib.hid (HBW.out.trans (hb1.mono (by rw [HSW.out]; omega)))
  have hs1 : w.heap.size + 3 ≤ w1.heap.size := by have := hb1.size; rw [HSW.out] at this; exact this
  clear hb1
  go_upto_region 5 with (first
    | ((with_reducible show wpList _ _ _ (⟨some 18, _, _, _, _, _⟩ :: _) _ _); refine wpList_loadA rfl A31.out 38 (.tmp 3) rfl rfl hu2 rfl HSZC.out ?_)
    | (go_at_call 63; refine (HC.out _).mono ?_; rintro e w2 ⟨rfl, hb2⟩; have Q2 := Lib.hid (Q1.out.below hb2); have A52 := Lib.hid (A51.out.below hb2); have A72 := Lib.hid (A71.out.below hb2); have hs2 := hb2.size; have HB2 := Lib.hid (HB1.out.trans (hb2.mono (by omega))); clear hb2)
    | ((with_reducible show wpList _ _ _ (⟨some 8, _, _, _, _, _⟩ :: _) _ _); refine wpList_alloc rfl 69 rfl HZ0.out ?_; rw [show (Value.agg AZ).cells = AZ from rfl])
    | ((with_reducible show wpList _ _ _ (⟨none, _, _, _, _, _⟩ :: _) _ _); refine wpList_storeA rfl (b := w2.heap.size) (A := AZ) (A' := E) (HFR.out w2) 69 (.tmp 8) (.tmp 20) rfl rfl (by simp [Act.eval, Act.put]) HSZ.out (by rw [HE.out, HZS.out]) HE1.out ?_))
  obtain ⟨w3, hw3⟩ : ∃ w3, w3 = (w2.alloc (.cells AZ 69)).setCells w2.heap.size 0 E.toList := ⟨_, rfl⟩
  rw [← hw3]
  have kk : Below w2.heap.size w2 w3 := by rw [hw3]; exact bstore ((Below.refl _ _).alloc (Nat.le_refl _) _) _ (Nat.le_refl _) _ _
  have A8 := Lib.hid (show ArrAt w3 w2.heap.size E by rw [hw3]; exact (ArrAt.fresh w2 AZ 69 (by rw [HZS.out]; omega)).store E (by rw [HE.out, HZS.out]))
  have A5' := Lib.hid (A52.out.below kk)
  have A7' := Lib.hid (A72.out.below kk)
  have Q3 := Lib.hid (Q2.out.below kk)
  have HB3 := Lib.hid (HB2.out.trans (kk.mono (by omega)))
  have hs3 := kk.size
  clear kk hw3
  have c0 := Q3.out.c0
  have c1 := Q3.out.c1
  have c2 := Q3.out.c2
  go_wp2_with fail
  refine (full_ok n h t true w3 hn hn' hh ht HF.out).mono ?_
  rintro e w4 ⟨rfl, hb4⟩
  have Q4 := Lib.hid (Q3.out.below hb4)
  have A54 := Lib.hid (A5'.out.below hb4)
  have A74 := Lib.hid (A7'.out.below hb4)
  have A84 := Lib.hid (A8.out.below hb4)
  have hs4 := hb4.size
  have HB4 := Lib.hid (HB3.out.trans (hb4.mono (by omega)))
  clear hb4 c0 c1 c2
  go_wp2_with fail
  have hi : (Try.prog.info? 69).map (·.size) = some AZ.toList.length := by have := HSZ.out; simpa using this
  have h1 : ∀ v ∈ AZ.toList, v.oneCell' = true := fun v hv => by have := Array.all_eq_true_iff_forall_mem.1 HZ1.out v (by simpa using hv); exact this
  go_region_held3 (fun w' => w'.rangeAt (w.heap.size + 1 + 1) 0 AZ.toList ∧ w'.there (w.heap.size + 1) 0 AZ.size) (with_reducible first | exact ⟨A74.out.rng, A54.out.th⟩ | exact ⟨A74.out.drew.rng, (World.there_drew _ _ _ _).2 A54.out.th⟩ | exact ⟨World.rangeAt_setCells_apart A74.out.drew.rng _ _ _ (.inl (by omega)), World.there_setCells ((World.there_drew _ _ _ _).2 A54.out.th) _ _ _⟩) (fail)
  go_wp2_with fail
  have A5F := Lib.hid (A54.out.drew.store AZ rfl)
  refine bodyPost_ret (results_tct rfl _ _ _ A5F.out rfl hu rfl HSZ.out) rfl ⟨rfl, bstore HB4.out.drew _ (by omega) _ _⟩

set_option maxRecDepth 100000 in
set_option maxHeartbeats 4000000 in
theorem sPush_ok (T g n h t : Nat) (ph : Bool) (cs E : Array Value) (w : World) (q : QAt T 3 w g n h t ph) (hcs : cs.size = 16) (hE : E.size = 64) (h1 : E.all (·.oneCell') = true) (hb : decide (usd n h t = n - 1) = false)
    (hC : ∀ w, Calls Try.prog 63 #[.agg cs] w fun e w' => e = .returned (.tuple #[.agg E, .int .i64 0]) ∧ Below w.heap.size w w') :
    Calls Try.prog 30 #[.pointer (some ⟨g, 0, none⟩), .agg cs] w fun e w' => e = .returned (.tuple #[.int .i64 t, .agg E, .int .i64 0]) ∧ Keeps (One g) w w' ∧ QAt T 3 w' g n h (nxt n t) ph := by
  have HQ := Lib.hid q
  have HCS := Lib.hid hcs
  have HE := Lib.hid hE
  have HE1 := Lib.hid h1
  have HC := Lib.hid hC
  have HST := Lib.hid (s_start cs w)
  have HF := Lib.hid hb
  have hn := q.n2
  have hn' := q.n4
  have hh := q.hh
  have ht := q.ht
  have hg := q.lt
  have d0 : ((n : Int) == 0) = false := by simp; omega
  have hu := Try.underlying69
  have hu2 := Try.underlying38
  obtain ⟨AZ, hAZ⟩ : ∃ AZ, AZ = arr 64 z8 := ⟨_, rfl⟩
  have hZS : AZ.size = 64 := by rw [hAZ, arr_size]
  have hZ1 : AZ.all (·.oneCell') = true := by rw [hAZ]; exact z8_one
  have hz0 : ∀ w, (zeroValue 69).run Try.prog w = .ok (.agg AZ) w := by rw [hAZ]; exact zero64
  have hb0 : ∀ w, (Instr.build 69 #[]).run Try.prog w = .ok (.agg AZ) w := by rw [hAZ]; exact build64
  rw [← hAZ] at HST
  have HZ := Lib.hid hAZ
  have HZS := Lib.hid hZS
  have HZ1 := Lib.hid hZ1
  have HZ0 := Lib.hid hz0
  have HB0 := Lib.hid hb0
  have hsz : (Try.prog.info? 69).map (·.size) = some AZ.size := by rw [hZS]; exact size64
  have hszE : (Try.prog.info? 69).map (·.size) = some E.size := by rw [hE]; exact size64
  have hszC : (Try.prog.info? 38).map (·.size) = some cs.size := by rw [hcs]; exact size_cmd
  have HSZ := Lib.hid hsz
  have HSZE := Lib.hid hszE
  have HSZC := Lib.hid hszC
  clear q hcs hE h1 hC hAZ hZS hZ1 hz0 hb0 hsz hszE hszC hb
  have HFR := Lib.hid (show ∀ w : World, ArrAt (w.alloc (.cells AZ 69)) w.heap.size AZ from fun w => ArrAt.fresh w AZ 69 (by rw [HZS.out]; omega))
  have H7 := Lib.hid (show ArrAt (((w.alloc (.cells cs 38)).alloc (.cells AZ 69)).alloc (.cells AZ 69)) (w.heap.size + 1 + 1) AZ by
    have h := HFR.out ((w.alloc (.cells cs 38)).alloc (.cells AZ 69))
    have e : ((w.alloc (.cells cs 38)).alloc (.cells AZ 69)).heap.size = w.heap.size + 1 + 1 := by simp
    rw [e] at h
    exact h)
  go_enter Try.func30, Try.ntmps30
  go_upto_region 2 with (first
    | ((with_reducible show wpList _ _ _ (⟨some 5, _, _, _, _, _⟩ :: _) _ _); refine wpList_alloc rfl 69 rfl HZ0.out ?_; rw [show (Value.agg AZ).cells = AZ from rfl])
    | ((with_reducible show wpList _ _ _ (⟨some 7, _, _, _, _, _⟩ :: _) _ _); refine wpList_alloc rfl 69 rfl HZ0.out ?_; rw [show (Value.agg AZ).cells = AZ from rfl])
    | ((with_reducible show wpList _ _ _ (⟨some 11, _, _, _, _, _⟩ :: _) _ _); refine wpList_build0 rfl 69 rfl (HB0.out _) ?_)
    | ((with_reducible show wpList _ _ _ (⟨none, _, _, _, _, _⟩ :: _) _ _); refine wpList_storeA rfl (b := w.heap.size + 1 + 1) (A := AZ) (A' := AZ) H7.out 69 (.tmp 7) (.tmp 11) rfl (by simp [Act.eval, Act.put]) (by simp [Act.eval, Act.put]) HSZ.out rfl HZ1.out ?_))
  obtain ⟨W, hW⟩ : ∃ W, W = (((w.alloc (.cells cs 38)).alloc (.cells AZ 69)).alloc (.cells AZ 69)).setCells (w.heap.size + 1 + 1) 0 AZ.toList := ⟨_, rfl⟩
  rw [← hW]
  obtain ⟨a3, a5, a7, hbW, hsW⟩ := HST.out W HCS.out hW
  have A3 := Lib.hid a3
  have A5 := Lib.hid a5
  have A7 := Lib.hid a7
  have HBW := Lib.hid hbW
  have HSW := Lib.hid hsW
  have Q0 := Lib.hid (HQ.out.kept (S := fun k => ¬ k < w.heap.size) ⟨hbW.os, hbW.tape, hbW.output, hbW.size, fun k hk hS => hbW.block k hk⟩ (fun e => e hg))
  clear a3 a5 a7 hbW hsW hW
  go_wp2_with fail
  refine (sstate_any g n h t W Q0.out.c0 Q0.out.c1 Q0.out.c2).mono ?_
  rintro e w1 ⟨rfl, hb1⟩
  have Q1 := Lib.hid (Q0.out.below hb1)
  have A31 := Lib.hid (A3.out.below hb1)
  have A51 := Lib.hid (A5.out.below hb1)
  have A71 := Lib.hid (A7.out.below hb1)
  have HB1 := Lib.hid (HBW.out.trans (hb1.mono (by rw [HSW.out]; omega)))
  have hs1 : w.heap.size + 3 ≤ w1.heap.size := by have := hb1.size; rw [HSW.out] at this; exact this
  clear hb1
  go_upto_region 5 with (first
    | ((with_reducible show wpList _ _ _ (⟨some 18, _, _, _, _, _⟩ :: _) _ _); refine wpList_loadA rfl A31.out 38 (.tmp 3) rfl rfl hu2 rfl HSZC.out ?_)
    | (go_at_call 63; refine (HC.out _).mono ?_; rintro e w2 ⟨rfl, hb2⟩; have Q2 := Lib.hid (Q1.out.below hb2); have A52 := Lib.hid (A51.out.below hb2); have A72 := Lib.hid (A71.out.below hb2); have hs2 := hb2.size; have HB2 := Lib.hid (HB1.out.trans (hb2.mono (by omega))); clear hb2)
    | ((with_reducible show wpList _ _ _ (⟨some 8, _, _, _, _, _⟩ :: _) _ _); refine wpList_alloc rfl 69 rfl HZ0.out ?_; rw [show (Value.agg AZ).cells = AZ from rfl])
    | ((with_reducible show wpList _ _ _ (⟨none, _, _, _, _, _⟩ :: _) _ _); refine wpList_storeA rfl (b := w2.heap.size) (A := AZ) (A' := E) (HFR.out w2) 69 (.tmp 8) (.tmp 20) rfl rfl (by simp [Act.eval, Act.put]) HSZ.out (by rw [HE.out, HZS.out]) HE1.out ?_))
  obtain ⟨w3, hw3⟩ : ∃ w3, w3 = (w2.alloc (.cells AZ 69)).setCells w2.heap.size 0 E.toList := ⟨_, rfl⟩
  rw [← hw3]
  have kk : Below w2.heap.size w2 w3 := by rw [hw3]; exact bstore ((Below.refl _ _).alloc (Nat.le_refl _) _) _ (Nat.le_refl _) _ _
  have A8 := Lib.hid (show ArrAt w3 w2.heap.size E by rw [hw3]; exact (ArrAt.fresh w2 AZ 69 (by rw [HZS.out]; omega)).store E (by rw [HE.out, HZS.out]))
  have A5' := Lib.hid (A52.out.below kk)
  have A7' := Lib.hid (A72.out.below kk)
  have Q3 := Lib.hid (Q2.out.below kk)
  have HB3 := Lib.hid (HB2.out.trans (kk.mono (by omega)))
  have hs3 := kk.size
  clear kk hw3
  have c0 := Q3.out.c0
  have c1 := Q3.out.c1
  have c2 := Q3.out.c2
  go_wp2_with fail
  refine (full_ok n h t false w3 hn hn' hh ht HF.out).mono ?_
  rintro e w4 ⟨rfl, hb4⟩
  have Q4 := Lib.hid (Q3.out.below hb4)
  have A54 := Lib.hid (A5'.out.below hb4)
  have A74 := Lib.hid (A7'.out.below hb4)
  have A84 := Lib.hid (A8.out.below hb4)
  have hs4 := hb4.size
  have HB4 := Lib.hid (HB3.out.trans (hb4.mono (by omega)))
  clear hb4 c0 c1 c2
  have c0 := Q4.out.c0
  have c1 := Q4.out.c1
  have c2 := Q4.out.c2
  go_wp2_with fail
  refine (next_ok n t h t w4 hn hn' ht).mono ?_
  rintro e w5 ⟨rfl, hb5⟩
  have Q5 := Lib.hid (Q4.out.below hb5)
  have A55 := Lib.hid (A54.out.below hb5)
  have A85 := Lib.hid (A84.out.below hb5)
  have hs5 := hb5.size
  have HB5 := Lib.hid (HB4.out.trans (hb5.mono (by omega)))
  have hx := nxt_lt ht
  obtain ⟨x, hx'⟩ : ∃ x, x = nxt n t := ⟨_, rfl⟩
  rw [← hx'] at hx ⊢
  have HX := Lib.hid hx'
  have c2 := Q5.out.c2
  have f2 := Q5.out.row.frozen 2
  clear hb5 hx'
  go_upto_region 11 with (fail)
  obtain ⟨w6, hw6⟩ : ∃ w6, w6 = w5.setCell ⟨g, 2, none⟩ (.int .i64 x) := ⟨_, rfl⟩
  rw [← hw6]
  have kk : Keeps (One g) w5 w6 := by rw [hw6]; exact (Keeps.refl _ _).set1 _ _
  have Q6 := Lib.hid (show QAt T 3 w6 g n h x ph by rw [hw6]; exact Q5.out.set2 x hx)
  have A56 := Lib.hid (A55.out.kept kk (fun e => by have e : w.heap.size + 1 = g := e; omega))
  have A86 := Lib.hid (A85.out.kept kk (fun e => by have e : w2.heap.size = g := e; omega))
  have hs6 := kk.size
  have K6 := Lib.hid ((Keeps.of_below (S := One g) HB5.out).trans (kk.mono (fun _ _ h => h)))
  clear kk hw6 c0 c1 c2 f2
  have HTH := Lib.hid (show w6.there (w.heap.size + 1) 0 E.size by have := A56.out.th; rw [HZS.out] at this; rw [HE.out]; exact this)
  have hi : (Try.prog.info? 69).map (·.size) = some E.toList.length := by have := HSZE.out; simpa using this
  have h1 : ∀ v ∈ E.toList, v.oneCell' = true := fun v hv => by have := Array.all_eq_true_iff_forall_mem.1 HE1.out v (by simpa using hv); exact this
  go_region_held3 (fun w' => w'.rangeAt (w2.heap.size) 0 E.toList ∧ w'.there (w.heap.size + 1) 0 E.size) (with_reducible first | exact ⟨A86.out.rng, HTH.out⟩ | exact ⟨A86.out.drew.rng, (World.there_drew _ _ _ _).2 HTH.out⟩ | exact ⟨World.rangeAt_setCells_apart A86.out.drew.rng _ _ _ (.inl (by omega)), World.there_setCells ((World.there_drew _ _ _ _).2 HTH.out) _ _ _⟩) (fail)
  go_wp2_with fail
  have A5F := Lib.hid (A56.out.drew.store E (by rw [HE.out, HZS.out]))
  refine bodyPost_ret (results_tct rfl _ _ _ A5F.out rfl hu rfl HSZE.out) rfl ⟨rfl, K6.out.drew.store (fun e => by have e : w.heap.size + 1 < w.heap.size := e; omega) _ _, ?_⟩
  have kq : Keeps (One (w.heap.size + 1)) w6 (w6.drew.setCells (w.heap.size + 1) 0 E.toList) := (Keeps.refl (One (w.heap.size + 1)) w6).drew.store (fun _ => rfl) _ _
  rw [← HX.out]
  exact Q6.out.kept kq (fun e => by have e : g = w.heap.size + 1 := e; omega)

end Go.Proofs.Ytpoeepdpoblfcaa
