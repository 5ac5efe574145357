/- queue: the methods of nil ends and of zero ends. -/
import Derived.Test.YtpoeepdpoblfcaaEnds
namespace Go.Proofs.Ytpoeepdpoblfcaa
open Go.RowKit
attribute [local go_sem ↓] Go.wp_at_zero Go.wp_at_succ

/-- A nil end, or one whose ring is zero. -/
def ZQ (w : World) (v : Value) : Prop := v = .pointer none ∨ ∃ g, v = .pointer (some ⟨g, 0, none⟩) ∧ w.cell? ⟨g, 0, none⟩ = some (.int .i64 0) ∧ w.cell? ⟨g, 1, none⟩ = some (.int .i64 0) ∧ w.cell? ⟨g, 2, none⟩ = some (.int .i64 0)
theorem ZQ.kept {S : Nat → Prop} {w w' : World} {v : Value} (h : ZQ w v) (k : Keeps S w w') (hS : ∀ g, v = .pointer (some ⟨g, 0, none⟩) → ¬ S g) : ZQ w' v := by
  rcases h with h | ⟨g, h, h0, h1, h2⟩
  · exact .inl h
  · exact .inr ⟨g, h, k.cell h0 (hS g h), k.cell h1 (hS g h), k.cell h2 (hS g h)⟩
theorem ZQ.below {w w' : World} {v : Value} (h : ZQ w v) (b : Below w.heap.size w w') : ZQ w' v := h.kept (Keeps.of_below (S := fun _ => False) b) (fun _ _ e => e)

theorem sstate_zq (v : Value) (w : World) (h : ZQ w v) : Calls Try.prog 62 #[v] w fun e w' => e = .returned (.agg #[.int .i64 0, .int .i64 0, .int .i64 0]) ∧ Below w.heap.size w w' := by
  rcases h with rfl | ⟨g, rfl, h0, h1, h2⟩
  · exact sstate_nil w
  · exact sstate_any g 0 0 0 w h0 h1 h2

theorem sSize_zq (v : Value) (w : World) (h : ZQ w v) : Calls Try.prog 36 #[v] w fun e w' => e = .returned (.int .i64 0) ∧ Below w.heap.size w w' := by
  rcases h with rfl | ⟨g, rfl, h0, h1, h2⟩
  · exact sSize_nil w
  · exact sSize_any g 0 0 0 w h0 h1 h2

theorem fstate_zq (v : Value) (w : World) (h : ZQ w v) : Calls Try.prog 55 #[v] w fun e w' => e = .returned (.agg #[.int .i64 0, .int .i64 0, .int .i64 0]) ∧ Below w.heap.size w w' := by
  rcases h with rfl | ⟨g, rfl, h0, h1, h2⟩
  · exact fstate_nil w
  · exact fstate_any g 0 0 0 w h0 h1 h2

theorem fSize_zq (v : Value) (w : World) (h : ZQ w v) : Calls Try.prog 22 #[v] w fun e w' => e = .returned (.int .i64 0) ∧ Below w.heap.size w w' := by
  rcases h with rfl | ⟨g, rfl, h0, h1, h2⟩
  · exact fSize_nil w
  · exact fSize_any g 0 0 0 w h0 h1 h2

theorem pstate_zq (v : Value) (w : World) (h : ZQ w v) : Calls Try.prog 70 #[v] w fun e w' => e = .returned (.agg #[.int .i64 0, .int .i64 0, .int .i64 0]) ∧ Below w.heap.size w w' := by
  rcases h with rfl | ⟨g, rfl, h0, h1, h2⟩
  · exact pstate_nil w
  · exact pstate_any g 0 0 0 w h0 h1 h2

theorem pSize_zq (v : Value) (w : World) (h : ZQ w v) : Calls Try.prog 42 #[v] w fun e w' => e = .returned (.int .i64 0) ∧ Below w.heap.size w w' := by
  rcases h with rfl | ⟨g, rfl, h0, h1, h2⟩
  · exact pSize_nil w
  · exact pSize_any g 0 0 0 w h0 h1 h2

theorem lstate_zq (v : Value) (w : World) (h : ZQ w v) : Calls Try.prog 59 #[v] w fun e w' => e = .returned (.agg #[.int .i64 0, .int .i64 0, .int .i64 0]) ∧ Below w.heap.size w w' := by
  rcases h with rfl | ⟨g, rfl, h0, h1, h2⟩
  · exact lstate_nil w
  · exact lstate_any g 0 0 0 w h0 h1 h2

theorem lSize_zq (v : Value) (w : World) (h : ZQ w v) : Calls Try.prog 28 #[v] w fun e w' => e = .returned (.int .i64 0) ∧ Below w.heap.size w w' := by
  rcases h with rfl | ⟨g, rfl, h0, h1, h2⟩
  · exact lSize_nil w
  · exact lSize_any g 0 0 0 w h0 h1 h2

theorem sTail_zq (v : Value) (w : World) (h : ZQ w v) : Calls Try.prog 32 #[v] w fun e w' => e = .returned (.int .i64 0) ∧ Below w.heap.size w w' := by
  rcases h with rfl | ⟨g, rfl, h0, h1, h2⟩
  · exact sTail_nil w
  · exact sTail_any g 0 0 0 w h0 h1 h2

theorem fHead_zq (v : Value) (w : World) (h : ZQ w v) : Calls Try.prog 19 #[v] w fun e w' => e = .returned (.int .i64 0) ∧ Below w.heap.size w w' := by
  rcases h with rfl | ⟨g, rfl, h0, h1, h2⟩
  · exact fHead_nil w
  · exact fHead_any g 0 0 0 w h0 h1 h2

theorem lSlot_zq (v : Value) (w : World) (h : ZQ w v) : Calls Try.prog 26 #[v] w fun e w' => e = .returned (.int .i64 0) ∧ Below w.heap.size w w' := by
  rcases h with rfl | ⟨g, rfl, h0, h1, h2⟩
  · exact lSlot_nil w
  · exact lSlot_any g 0 0 0 w h0 h1 h2

theorem lHead_zq (v : Value) (w : World) (h : ZQ w v) : Calls Try.prog 27 #[v] w fun e w' => e = .returned (.int .i64 0) ∧ Below w.heap.size w w' := by
  rcases h with rfl | ⟨g, rfl, h0, h1, h2⟩
  · exact lHead_nil w
  · exact lHead_any g 0 0 0 w h0 h1 h2

set_option maxRecDepth 100000 in
set_option maxHeartbeats 2000000 in
theorem free_zero (w : World) : Calls Try.prog 65 #[.agg #[.int .i64 0, .int .i64 0, .int .i64 0]] w fun e w' => e = .returned (.int .i64 0) ∧ Below w.heap.size w w' := by
  go_enter Try.func65, Try.ntmps65
  go_wp2_with fail
  go_ret
  exact ⟨rfl, (Below.refl _ _).alloc (Nat.le_refl _) _⟩

set_option maxRecDepth 100000 in
set_option maxHeartbeats 2000000 in
theorem sFree_zq (v : Value) (w : World) (h : ZQ w v) : Calls Try.prog 31 #[v] w fun e w' => e = .returned (.int .i64 0) ∧ Below w.heap.size w w' := by
  have HC := Lib.hid (sstate_zq v w h)
  clear h
  go_enter Try.func31, Try.ntmps31
  go_wp2_with fail
  refine HC.out.mono ?_
  rintro e w1 ⟨rfl, hb⟩
  go_wp2_with fail
  refine (free_zero w1).mono ?_
  rintro e w2 ⟨rfl, hb2⟩
  have HB := Lib.hid (hb.trans (hb2.mono hb.size))
  clear hb hb2
  go_wp2_with fail
  go_ret
  exact ⟨rfl, HB.out⟩

set_option maxRecDepth 100000 in
set_option maxHeartbeats 2000000 in
theorem pFree_zq (v : Value) (w : World) (h : ZQ w v) : Calls Try.prog 41 #[v] w fun e w' => e = .returned (.int .i64 0) ∧ Below w.heap.size w w' := by
  have HC := Lib.hid (pstate_zq v w h)
  clear h
  go_enter Try.func41, Try.ntmps41
  go_wp2_with fail
  refine HC.out.mono ?_
  rintro e w1 ⟨rfl, hb⟩
  go_wp2_with fail
  refine (free_zero w1).mono ?_
  rintro e w2 ⟨rfl, hb2⟩
  have HB := Lib.hid (hb.trans (hb2.mono hb.size))
  clear hb hb2
  go_wp2_with fail
  go_ret
  exact ⟨rfl, HB.out⟩

set_option maxRecDepth 100000 in
set_option maxHeartbeats 2000000 in
theorem fWaiting_zq (v : Value) (w : World) (h : ZQ w v) : Calls Try.prog 20 #[v] w fun e w' => e = .returned (.int .i64 0) ∧ Below w.heap.size w w' := by
  have HC := Lib.hid (fSize_zq v w h)
  clear h
  go_enter Try.func20, Try.ntmps20
  go_wp2_with fail
  refine HC.out.mono ?_
  rintro e w1 ⟨rfl, hb⟩
  go_wp2_with fail
  go_ret
  exact ⟨rfl, hb⟩

set_option maxRecDepth 100000 in
set_option maxHeartbeats 2000000 in
theorem fRing_zq (v : Value) (k : Int) (w : World) (h : ZQ w v) : Calls Try.prog 18 #[v, .int .i64 k] w fun e w' => e = .returned (.int .i64 1) ∧ Below w.heap.size w w' := by
  have HC := Lib.hid (fSize_zq v w h)
  clear h
  go_enter Try.func18, Try.ntmps18
  go_wp2_with fail
  refine HC.out.mono ?_
  rintro e w1 ⟨rfl, hb⟩
  go_wp2_with fail
  go_ret
  exact ⟨rfl, hb⟩

set_option maxRecDepth 100000 in
set_option maxHeartbeats 2000000 in
theorem fNext_zq (v : Value) (w : World) (h : ZQ w v) : Calls Try.prog 15 #[v] w fun e w' => e = .returned (.tuple #[.int .i64 0, .int .i64 1]) ∧ Below w.heap.size w w' := by
  have HC := Lib.hid (fSize_zq v w h)
  clear h
  go_enter Try.func15, Try.ntmps15
  go_wp2_with fail
  refine HC.out.mono ?_
  rintro e w1 ⟨rfl, hb⟩
  go_wp2_with fail
  go_ret2
  exact ⟨rfl, hb⟩

set_option maxRecDepth 100000 in
set_option maxHeartbeats 2000000 in
theorem sCopy_zq (v : Value) (w : World) (h : ZQ w v) : Calls Try.prog 43 #[v] w fun e w' => e = .returned (.pointer none) ∧ Below w.heap.size w w' := by
  have HC := Lib.hid (sSize_zq v w h)
  clear h
  go_enter Try.func43, Try.ntmps43
  go_wp2_with fail
  refine HC.out.mono ?_
  rintro e w1 ⟨rfl, hb⟩
  go_wp2_with fail
  go_ret
  exact ⟨rfl, hb⟩

set_option maxRecDepth 100000 in
set_option maxHeartbeats 2000000 in
theorem fCopy_zq (v : Value) (w : World) (h : ZQ w v) : Calls Try.prog 44 #[v] w fun e w' => e = .returned (.pointer none) ∧ Below w.heap.size w w' := by
  have HC := Lib.hid (fSize_zq v w h)
  clear h
  go_enter Try.func44, Try.ntmps44
  go_wp2_with fail
  refine HC.out.mono ?_
  rintro e w1 ⟨rfl, hb⟩
  go_wp2_with fail
  go_ret
  exact ⟨rfl, hb⟩

set_option maxRecDepth 100000 in
set_option maxHeartbeats 2000000 in
theorem pCopy_zq (v : Value) (w : World) (h : ZQ w v) : Calls Try.prog 45 #[v] w fun e w' => e = .returned (.pointer none) ∧ Below w.heap.size w w' := by
  have HC := Lib.hid (pSize_zq v w h)
  clear h
  go_enter Try.func45, Try.ntmps45
  go_wp2_with fail
  refine HC.out.mono ?_
  rintro e w1 ⟨rfl, hb⟩
  go_wp2_with fail
  go_ret
  exact ⟨rfl, hb⟩

set_option maxRecDepth 100000 in
set_option maxHeartbeats 2000000 in
theorem lCopy_zq (v : Value) (w : World) (h : ZQ w v) : Calls Try.prog 46 #[v] w fun e w' => e = .returned (.pointer none) ∧ Below w.heap.size w w' := by
  have HC := Lib.hid (lSize_zq v w h)
  clear h
  go_enter Try.func46, Try.ntmps46
  go_wp2_with fail
  refine HC.out.mono ?_
  rintro e w1 ⟨rfl, hb⟩
  go_wp2_with fail
  go_ret
  exact ⟨rfl, hb⟩

set_option maxRecDepth 100000 in
set_option maxHeartbeats 2000000 in
theorem release_zero (g : Nat) (k : Int) (w : World) (h0 : w.cell? ⟨g, 0, none⟩ = some (.int .i64 0)) :
    Calls Try.prog 66 #[.pointer (some ⟨g, 0, none⟩), .int .i64 k] w fun e w' => e = .returned (.int .i64 1) ∧ Below w.heap.size w w' := by
  go_enter Try.func66, Try.ntmps66
  go_wp2_with fail
  go_ret
  exact ⟨rfl, Below.refl _ _⟩

set_option maxRecDepth 100000 in
set_option maxHeartbeats 2000000 in
theorem sHead_zq (v : Value) (k : Int) (w : World) (h : ZQ w v) : Calls Try.prog 33 #[v, .int .i64 k] w fun e w' => e = .returned (.int .i64 1) ∧ Below w.heap.size w w' := by
  rcases h with rfl | ⟨g, rfl, h0, h1, h2⟩
  · go_enter Try.func33, Try.ntmps33
    go_wp2_with fail
    go_ret
    exact ⟨rfl, Below.refl _ _⟩
  · have HC := Lib.hid (release_zero g k w h0)
    clear h0 h1 h2
    go_enter Try.func33, Try.ntmps33
    go_wp2_with fail
    refine HC.out.mono ?_
    rintro e w1 ⟨rfl, hb⟩
    go_wp2_with fail
    go_ret
    exact ⟨rfl, hb⟩

set_option maxRecDepth 100000 in
set_option maxHeartbeats 2000000 in
theorem pRing_zq (v : Value) (k : Int) (w : World) (h : ZQ w v) : Calls Try.prog 40 #[v, .int .i64 k] w fun e w' => e = .returned (.int .i64 1) ∧ Below w.heap.size w w' := by
  rcases h with rfl | ⟨g, rfl, h0, h1, h2⟩
  · go_enter Try.func40, Try.ntmps40
    go_wp2_with fail
    go_ret
    exact ⟨rfl, Below.refl _ _⟩
  · have HC := Lib.hid (release_zero g k w h0)
    clear h0 h1 h2
    go_enter Try.func40, Try.ntmps40
    go_wp2_with fail
    refine HC.out.mono ?_
    rintro e w1 ⟨rfl, hb⟩
    go_wp2_with fail
    go_ret
    exact ⟨rfl, hb⟩

set_option maxRecDepth 100000 in
set_option maxHeartbeats 2000000 in
theorem sPush_zq (v : Value) (cs : Array Value) (w : World) (h : ZQ w v) (hcs : cs.size = 16) :
    Calls Try.prog 30 #[v, .agg cs] w fun e w' => e = .returned (.tuple #[.int .i64 0, .agg (arr 64 z8), .int .i64 1]) ∧ Below w.heap.size w w' := by
  have HZQ := Lib.hid h
  have HCS := Lib.hid hcs
  have HST := Lib.hid (s_start cs w)
  have hu := Try.underlying69
  obtain ⟨AZ, hAZ⟩ : ∃ AZ, AZ = arr 64 z8 := ⟨_, rfl⟩
  have hZS : AZ.size = 64 := by rw [hAZ, arr_size]
  have hZ1 : AZ.all (·.oneCell') = true := by rw [hAZ]; exact z8_one
  have hz0 : ∀ w, (zeroValue 69).run Try.prog w = .ok (.agg AZ) w := by rw [hAZ]; exact zero64
  have hb0 : ∀ w, (Instr.build 69 #[]).run Try.prog w = .ok (.agg AZ) w := by rw [hAZ]; exact build64
  rw [← hAZ] at HST ⊢
  have HZS := Lib.hid hZS
  have HZ1 := Lib.hid hZ1
  have HZ0 := Lib.hid hz0
  have HB0 := Lib.hid hb0
  have hsz : (Try.prog.info? 69).map (·.size) = some AZ.size := by rw [hZS]; exact size64
  have HSZ := Lib.hid hsz
  clear h hcs hAZ hZS hZ1 hz0 hb0 hsz
  have HFR := Lib.hid (show ∀ w : World, ArrAt (w.alloc (.cells AZ 69)) w.heap.size AZ from fun w => ArrAt.fresh w AZ 69 (by rw [HZS.out]; omega))
  have H7 := Lib.hid (show ArrAt (((w.alloc (.cells cs 38)).alloc (.cells AZ 69)).alloc (.cells AZ 69)) (w.heap.size + 1 + 1) AZ by
    have h := HFR.out ((w.alloc (.cells cs 38)).alloc (.cells AZ 69))
    have e : ((w.alloc (.cells cs 38)).alloc (.cells AZ 69)).heap.size = w.heap.size + 1 + 1 := by simp
    rw [e] at h
    exact h)
  go_enter Try.func30, Try.ntmps30
  go_upto_region 2 with (first
    | ((with_reducible show wpList _ _ _ (⟨some 5, _, _, _, _, _⟩ :: _) _ _); refine wpList_alloc rfl 69 rfl HZ0.out ?_; rw [show (Value.agg AZ).cells = AZ from rfl])
    | ((with_reducible show wpList _ _ _ (⟨some 7, _, _, _, _, _⟩ :: _) _ _); refine wpList_alloc rfl 69 rfl HZ0.out ?_; rw [show (Value.agg AZ).cells = AZ from rfl])
    | ((with_reducible show wpList _ _ _ (⟨some 11, _, _, _, _, _⟩ :: _) _ _); refine wpList_build0 rfl 69 rfl (HB0.out _) ?_)
    | ((with_reducible show wpList _ _ _ (⟨none, _, _, _, _, _⟩ :: _) _ _); refine wpList_storeA rfl (b := w.heap.size + 1 + 1) (A := AZ) (A' := AZ) H7.out 69 (.tmp 7) (.tmp 11) rfl (by simp [Act.eval, Act.put]) (by simp [Act.eval, Act.put]) HSZ.out rfl HZ1.out ?_))
  obtain ⟨W, hW⟩ : ∃ W, W = (((w.alloc (.cells cs 38)).alloc (.cells AZ 69)).alloc (.cells AZ 69)).setCells (w.heap.size + 1 + 1) 0 AZ.toList := ⟨_, rfl⟩
  rw [← hW]
  obtain ⟨a3, a5, a7, hbW, hsW⟩ := HST.out W HCS.out hW
  have A5 := Lib.hid a5
  have A7 := Lib.hid a7
  have HBW := Lib.hid hbW
  have HSW := Lib.hid hsW
  have HC := Lib.hid (sstate_zq v W (HZQ.out.below hbW))
  clear a3 a5 a7 hbW hsW hW
  go_wp2_with fail
  refine HC.out.mono ?_
  rintro e w1 ⟨rfl, hb1⟩
  have A51 := Lib.hid (A5.out.below hb1)
  have A71 := Lib.hid (A7.out.below hb1)
  have HB1 := Lib.hid (HBW.out.trans (hb1.mono (by rw [HSW.out]; omega)))
  have hs1 : w.heap.size + 3 ≤ w1.heap.size := by have := hb1.size; rw [HSW.out] at this; exact this
  clear hb1
  go_wp2_with fail
  have hi : (Try.prog.info? 69).map (·.size) = some AZ.toList.length := by have := HSZ.out; simpa using this
  have h1 : ∀ v ∈ AZ.toList, v.oneCell' = true := fun v hv => by have := Array.all_eq_true_iff_forall_mem.1 HZ1.out v (by simpa using hv); exact this
  go_region_held3 (fun w' => w'.rangeAt (w.heap.size + 1 + 1) 0 AZ.toList ∧ w'.there (w.heap.size + 1) 0 AZ.size) (with_reducible first | exact ⟨A71.out.rng, A51.out.th⟩ | exact ⟨A71.out.drew.rng, (World.there_drew _ _ _ _).2 A51.out.th⟩ | exact ⟨World.rangeAt_setCells_apart A71.out.drew.rng _ _ _ (.inl (by omega)), World.there_setCells ((World.there_drew _ _ _ _).2 A51.out.th) _ _ _⟩) (fail)
  go_wp2_with fail
  have A5F := Lib.hid (A51.out.drew.store AZ rfl)
  refine bodyPost_ret (results_tct rfl _ _ _ A5F.out rfl hu rfl HSZ.out) rfl ⟨rfl, bstore HB1.out.drew _ (by omega) _ _⟩

set_option maxRecDepth 100000 in
set_option maxHeartbeats 2000000 in
theorem pPost_zq (v : Value) (cs : Array Value) (w : World) (h : ZQ w v) (hcs : cs.size = 10) :
    Calls Try.prog 38 #[v, .agg cs] w fun e w' => e = .returned (.tuple #[.int .i64 0, .agg (arr 16 z16), .int .i64 1]) ∧ Below w.heap.size w w' := by
  have HZQ := Lib.hid h
  have HCS := Lib.hid hcs
  have HST := Lib.hid (p_start cs w)
  have hu := Try.underlying44
  obtain ⟨AZ, hAZ⟩ : ∃ AZ, AZ = arr 16 z16 := ⟨_, rfl⟩
  have hZS : AZ.size = 16 := by rw [hAZ, arr_size]
  have hZ1 : AZ.all (·.oneCell') = true := by rw [hAZ]; exact z16_one
  have hz0 : ∀ w, (zeroValue 44).run Try.prog w = .ok (.agg AZ) w := by rw [hAZ]; exact zero16
  have hb0 : ∀ w, (Instr.build 44 #[]).run Try.prog w = .ok (.agg AZ) w := by rw [hAZ]; exact build16
  rw [← hAZ] at HST ⊢
  have HZS := Lib.hid hZS
  have HZ1 := Lib.hid hZ1
  have HZ0 := Lib.hid hz0
  have HB0 := Lib.hid hb0
  have hsz : (Try.prog.info? 44).map (·.size) = some AZ.size := by rw [hZS]; exact size16
  have HSZ := Lib.hid hsz
  clear h hcs hAZ hZS hZ1 hz0 hb0 hsz
  have HFR := Lib.hid (show ∀ w : World, ArrAt (w.alloc (.cells AZ 44)) w.heap.size AZ from fun w => ArrAt.fresh w AZ 44 (by rw [HZS.out]; omega))
  have H7 := Lib.hid (show ArrAt (((w.alloc (.cells cs 43)).alloc (.cells AZ 44)).alloc (.cells AZ 44)) (w.heap.size + 1 + 1) AZ by
    have h := HFR.out ((w.alloc (.cells cs 43)).alloc (.cells AZ 44))
    have e : ((w.alloc (.cells cs 43)).alloc (.cells AZ 44)).heap.size = w.heap.size + 1 + 1 := by simp
    rw [e] at h
    exact h)
  go_enter Try.func38, Try.ntmps38
  go_upto_region 2 with (first
    | ((with_reducible show wpList _ _ _ (⟨some 5, _, _, _, _, _⟩ :: _) _ _); refine wpList_alloc rfl 44 rfl HZ0.out ?_; rw [show (Value.agg AZ).cells = AZ from rfl])
    | ((with_reducible show wpList _ _ _ (⟨some 7, _, _, _, _, _⟩ :: _) _ _); refine wpList_alloc rfl 44 rfl HZ0.out ?_; rw [show (Value.agg AZ).cells = AZ from rfl])
    | ((with_reducible show wpList _ _ _ (⟨some 11, _, _, _, _, _⟩ :: _) _ _); refine wpList_build0 rfl 44 rfl (HB0.out _) ?_)
    | ((with_reducible show wpList _ _ _ (⟨none, _, _, _, _, _⟩ :: _) _ _); refine wpList_storeA rfl (b := w.heap.size + 1 + 1) (A := AZ) (A' := AZ) H7.out 44 (.tmp 7) (.tmp 11) rfl (by simp [Act.eval, Act.put]) (by simp [Act.eval, Act.put]) HSZ.out rfl HZ1.out ?_))
  obtain ⟨W, hW⟩ : ∃ W, W = (((w.alloc (.cells cs 43)).alloc (.cells AZ 44)).alloc (.cells AZ 44)).setCells (w.heap.size + 1 + 1) 0 AZ.toList := ⟨_, rfl⟩
  rw [← hW]
  obtain ⟨a3, a5, a7, hbW, hsW⟩ := HST.out W HCS.out hW
  have A5 := Lib.hid a5
  have A7 := Lib.hid a7
  have HBW := Lib.hid hbW
  have HSW := Lib.hid hsW
  have HC := Lib.hid (pstate_zq v W (HZQ.out.below hbW))
  clear a3 a5 a7 hbW hsW hW
  go_wp2_with fail
  refine HC.out.mono ?_
  rintro e w1 ⟨rfl, hb1⟩
  have A51 := Lib.hid (A5.out.below hb1)
  have A71 := Lib.hid (A7.out.below hb1)
  have HB1 := Lib.hid (HBW.out.trans (hb1.mono (by rw [HSW.out]; omega)))
  have hs1 : w.heap.size + 3 ≤ w1.heap.size := by have := hb1.size; rw [HSW.out] at this; exact this
  clear hb1
  go_wp2_with fail
  have hi : (Try.prog.info? 44).map (·.size) = some AZ.toList.length := by have := HSZ.out; simpa using this
  have h1 : ∀ v ∈ AZ.toList, v.oneCell' = true := fun v hv => by have := Array.all_eq_true_iff_forall_mem.1 HZ1.out v (by simpa using hv); exact this
  go_region_held3 (fun w' => w'.rangeAt (w.heap.size + 1 + 1) 0 AZ.toList ∧ w'.there (w.heap.size + 1) 0 AZ.size) (with_reducible first | exact ⟨A71.out.rng, A51.out.th⟩ | exact ⟨A71.out.drew.rng, (World.there_drew _ _ _ _).2 A51.out.th⟩ | exact ⟨World.rangeAt_setCells_apart A71.out.drew.rng _ _ _ (.inl (by omega)), World.there_setCells ((World.there_drew _ _ _ _).2 A51.out.th) _ _ _⟩) (fail)
  go_wp2_with fail
  have A5F := Lib.hid (A51.out.drew.store AZ rfl)
  refine bodyPost_ret (results_tct rfl _ _ _ A5F.out rfl hu rfl HSZ.out) rfl ⟨rfl, bstore HB1.out.drew _ (by omega) _ _⟩

set_option maxRecDepth 100000 in
set_option maxHeartbeats 2000000 in
theorem lPoll_zq (v : Value) (bs : Array Value) (w : World) (h : ZQ w v) (hbs : bs.size = 16) :
    Calls Try.prog 24 #[v, .agg bs] w fun e w' => e = .returned (.tuple #[zCpl.v, .bool false, .int .i64 1]) ∧ Below w.heap.size w w' := by
  have HZQ := Lib.hid h
  have HBS := Lib.hid hbs
  have hu := Try.underlying43
  have hsz : (Try.prog.info? 43).map (·.size) = some (cArr 0 0).size := size10
  have HSZ := Lib.hid hsz
  clear h hbs hsz
  go_enter Try.func24, Try.ntmps24
  go_upto_region 1 with (first
    | ((with_reducible show wpList _ _ _ (⟨some 4, _, _, _, _, _⟩ :: _) _ _); refine wpList_alloc rfl 43 rfl zeroCpl ?_; rw [show (Value.agg (cArr 0 0)).cells = cArr 0 0 from rfl]))
  obtain ⟨W, hW⟩ : ∃ W, W = (w.alloc (.cells bs 44)).alloc (.cells (cArr 0 0) 43) := ⟨_, rfl⟩
  rw [← hW]
  have hbW : Below w.heap.size w W := by rw [hW]; refine Below.alloc ?_ (by simp) _; exact (Below.refl _ _).alloc (Nat.le_refl _) _
  have A4 := Lib.hid (show ArrAt W (w.heap.size + 1) (cArr 0 0) by
    have h := ArrAt.fresh (w.alloc (.cells bs 44)) (cArr 0 0) 43 (by simp [cArr])
    rw [show (w.alloc (.cells bs 44)).heap.size = w.heap.size + 1 by simp] at h
    rw [hW]; exact h)
  have HC := Lib.hid (lSize_zq v W (HZQ.out.below hbW))
  have HBW := Lib.hid hbW
  clear hW hbW
  go_wp2_with fail
  refine HC.out.mono ?_
  rintro e w1 ⟨rfl, hb1⟩
  have A41 := Lib.hid (A4.out.below hb1)
  have HB1 := Lib.hid (HBW.out.trans (hb1.mono HBW.out.size))
  clear hb1
  go_wp2_with (first
    | ((with_reducible show wpList _ _ _ (⟨some 12, _, _, _, _, _⟩ :: _) _ _); refine wpList_build0 rfl 43 rfl (buildCpl' _) ?_)
    | ((with_reducible show wpList _ _ _ (⟨none, .store _ (.tmp 4) _, _, _, _, _⟩ :: _) _ _); refine wpList_storeA rfl (b := w.heap.size + 1) (A := cArr 0 0) (A' := zCpl.cells) A41.out 43 (.tmp 4) (.tmp 12) rfl rfl rfl HSZ.out rfl (Cpl.cells_one _) ?_))
  have A4F := Lib.hid (A41.out.store zCpl.cells rfl)
  refine bodyPost_ret (results_ctt rfl _ _ _ A4F.out rfl hu rfl size10) rfl ⟨rfl, bstore HB1.out _ (by omega) _ _⟩

end Go.Proofs.Ytpoeepdpoblfcaa
