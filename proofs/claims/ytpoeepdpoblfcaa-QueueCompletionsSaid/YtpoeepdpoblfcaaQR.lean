/- queue: the reference's ring. -/
import Derived.Test.YtpoeepdpoblfcaaQ3
set_option linter.unusedVariables false
namespace Go.Proofs.Ytpoeepdpoblfcaa
open Go.RowKit

theorem sizeEnd : (Try.prog.info? 30).map (·.size) = some 4 := by kernel_rfl
theorem underEnd : ∃ d, Try.prog.underlying 30 = some d ∧ (match d with | .struct _ | .array _ _ => true | _ => false) = true := ⟨_, Try.underlying30, rfl⟩
theorem below_of_eq {w w' : World} (h : w = w') : Below w.heap.size w w' := by subst h; exact Below.refl _ _

set_option maxHeartbeats 1000000 in
theorem between_ok (n a b : Nat) (w : World) (hn : 2 ≤ n) (hn' : n ≤ 4096) (ha : a < n) (hb : b < n) :
    Calls Try.prog 52 #[.int .i64 n, .int .i64 a, .int .i64 b] w fun e w' => e = .returned (.int .i64 (usd n a b : Nat)) ∧ w = w' := by
  obtain ⟨u, hu⟩ : ∃ u, u = usd n a b := ⟨_, rfl⟩
  have hun := usd_lt ha hb
  have HS := Lib.hid fun k (hk : k ≤ usd n a b) => stp_usd ha hb hk
  have HN := Lib.hid fun k => stp_succ (k := k) ha
  have HL := Lib.hid fun k => stp_lt (k := k) ha
  have HZ := Lib.hid (stp_zero ha)
  rw [← hu] at HS hun
  rw [← hu]
  clear hu
  go_enter Try.func52, Try.ntmps52
  go_wp2_with fail
  go_loop [1, 7] (fun s i => ∃ k : Nat, k ≤ u ∧ s = .int .i64 ((stp n a k : Nat) : Int) ∧ i = .int .i64 k) (fun _ i => u - (intOf i).toNat)
  case atStart => exact ⟨0, Nat.zero_le _, by rw [HZ.out], rfl⟩
  case round =>
    obtain ⟨k, hk, rfl, rfl⟩ := hrel
    have h1 := HS.out k hk
    have hl := HL.out k
    have HN1 := Lib.hid (HN.out k)
    obtain ⟨s, hs⟩ : ∃ s, s = stp n a k := ⟨_, rfl⟩
    rw [← hs] at h1 hl HN1
    rw [← hs]
    clear hs
    by_cases hlt : k < u
    · have e1 : ((s : Int) != (b : Int)) = true := by
        rw [bne_iff_ne]; omega
      clear h1
      go_wp2_with fail
      go_round
      case rel => exact ⟨k + 1, by omega, by rw [← HN1.out]; push_cast; rfl, by go_num⟩
      case measure => simp [intOf]; omega
    · obtain rfl : k = u := by omega
      have e1 : ((s : Int) != (b : Int)) = false := by
        rw [bne_eq_false_iff_eq]; omega
      clear h1
      go_wp2_with fail
      go_ret
      exact ⟨rfl, rfl⟩

theorem between_b (n a b : Nat) (w : World) (hn : 2 ≤ n) (hn' : n ≤ 4096) (ha : a < n) (hb : b < n) :
    Calls Try.prog 52 #[.int .i64 n, .int .i64 a, .int .i64 b] w fun e w' => e = .returned (.int .i64 (usd n a b : Nat)) ∧ Below w.heap.size w w' :=
  (between_ok n a b w hn hn' ha hb).mono fun _ _ k => ⟨k.1, below_of_eq k.2⟩

set_option maxHeartbeats 1000000 in
theorem rUsed_ok (n h t : Nat) (ph : Bool) (w : World) (hn : 2 ≤ n) (hn' : n ≤ 4096) (hh : h < n) (ht : t < n) :
    Calls Try.prog 21 #[.agg #[.int .i64 n, .int .i64 h, .int .i64 t, .bool ph]] w fun e w' => e = .returned (.int .i64 (usd n h t : Nat)) ∧ Below w.heap.size w w' := by
  go_enter Try.func21, Try.ntmps21
  go_wp2_with fail
  refine (between_ok n h t _ hn hn' hh ht).mono ?_
  rintro e w1 ⟨rfl, rfl⟩
  obtain ⟨u, hu⟩ : ∃ u, u = usd n h t := ⟨_, rfl⟩
  rw [← hu]
  go_wp2_with fail
  go_ret
  exact ⟨rfl, (Below.refl _ _).alloc (Nat.le_refl _) _⟩

set_option maxHeartbeats 1000000 in
theorem rslot_yes (n k : Nat) (x y : Int) (ph : Bool) (w : World) (hk : k < n) :
    Calls Try.prog 51 #[.agg #[.int .i64 n, .int .i64 x, .int .i64 y, .bool ph], .int .i64 k] w fun e w' => e = .returned (.bool true) ∧ Below w.heap.size w w' := by
  have d1 : decide ((0 : Int) ≤ (k : Int)) = true := by simp
  have d2 : decide (k < n) = true := by simpa using hk
  go_enter Try.func51, Try.ntmps51
  go_wp2_with fail
  go_ret
  exact ⟨rfl, (Below.refl _ _).alloc (Nat.le_refl _) _⟩
set_option maxHeartbeats 1000000 in
theorem rslot_no (n : Nat) (k : Int) (x y : Int) (ph : Bool) (w : World) (hk : k < 0 ∨ (n : Int) ≤ k) :
    Calls Try.prog 51 #[.agg #[.int .i64 n, .int .i64 x, .int .i64 y, .bool ph], .int .i64 k] w fun e w' => e = .returned (.bool false) ∧ Below w.heap.size w w' := by
  by_cases h0 : k < 0
  · have d1 : decide ((0 : Int) ≤ k) = false := by simp; omega
    clear hk
    go_enter Try.func51, Try.ntmps51
    go_wp2_with fail
    go_ret
    exact ⟨rfl, (Below.refl _ _).alloc (Nat.le_refl _) _⟩
  · have d1 : decide ((0 : Int) ≤ k) = true := by simp; omega
    have d2 : decide (k < (n : Int)) = false := by simp; omega
    clear hk
    go_enter Try.func51, Try.ntmps51
    go_wp2_with fail
    go_ret
    exact ⟨rfl, (Below.refl _ _).alloc (Nat.le_refl _) _⟩

set_option maxHeartbeats 1000000 in
theorem valid_yes (n : Nat) (w : World) (hn : 2 ≤ n) (hn' : n ≤ 4096) : Calls Try.prog 12 #[.int .i64 n] w fun e w' => e = .returned (.bool true) ∧ w = w' := by
  have d1 : decide ((2 : Int) ≤ (n : Int)) = true := by simp; omega
  have d2 : decide ((n : Int) ≤ 4096) = true := by simp; omega
  have d3 : decide (2 ≤ n) = true := by simp; omega
  have d4 : decide (n ≤ 4096) = true := by simp; omega
  go_enter Try.func12, Try.ntmps12
  go_wp2_with fail
  go_ret
  exact ⟨rfl, rfl⟩
set_option maxHeartbeats 1000000 in
theorem valid_no (n : Int) (w : World) (hn : n < 2 ∨ 4096 < n) : Calls Try.prog 12 #[.int .i64 n] w fun e w' => e = .returned (.bool false) ∧ w = w' := by
  by_cases h : n < 2
  · have d1 : decide ((2 : Int) ≤ n) = false := by simp; omega
    clear hn
    go_enter Try.func12, Try.ntmps12
    go_wp2_with fail
    go_ret
    exact ⟨rfl, rfl⟩
  · have d1 : decide ((2 : Int) ≤ n) = true := by simp; omega
    have d2 : decide (n ≤ 4096) = false := by simp; omega
    clear hn
    go_enter Try.func12, Try.ntmps12
    go_wp2_with fail
    go_ret
    exact ⟨rfl, rfl⟩

set_option maxHeartbeats 1000000 in
theorem rNew_ok (n : Int) (w : World) : Calls Try.prog 14 #[.int .i64 n] w fun e w' => e = .returned (.agg #[.int .i64 n, .int .i64 0, .int .i64 0, .bool true]) ∧ Below w.heap.size w w' := by
  go_enter Try.func14, Try.ntmps14
  go_wp2_with fail
  exact bodyPost_ret (v := .agg #[.int .i64 n, .int .i64 0, .int .i64 0, .bool true]) (by simp [results, Try.results14, go_sem]) rfl ⟨rfl, (Below.refl _ _).alloc (Nat.le_refl _) _⟩

set_option maxRecDepth 100000 in
set_option maxHeartbeats 2000000 in
theorem rRelease_no (n h t : Nat) (ph : Bool) (k : Int) (w : World) (hn : 2 ≤ n) (hn' : n ≤ 4096) (hh : h < n) (ht : t < n) (hk : k < 0 ∨ (n : Int) ≤ k) :
    Calls Try.prog 35 #[.agg #[.int .i64 n, .int .i64 h, .int .i64 t, .bool ph], .int .i64 k] w fun e w' => e = .returned (.tuple #[.agg #[.int .i64 n, .int .i64 h, .int .i64 t, .bool ph], .int .i64 3]) ∧ Below w.heap.size w w' := by
  have HK := Lib.hid hk
  clear hk
  go_enter Try.func35, Try.ntmps35
  go_wp2_with fail
  obtain ⟨W, hW⟩ : ∃ W, W = (w.alloc (.cells #[.int .i64 (n : Int), .int .i64 (h : Int), .int .i64 (t : Int), .bool ph] 30)).alloc (.cells #[.int .i64 0, .int .i64 0, .int .i64 0, .bool false] 30) := ⟨_, rfl⟩
  rw [← hW]
  have hlt : w.heap.size + 1 < W.heap.size := by rw [hW]; simp
  have hlw : w.heap.size < W.heap.size := by omega
  have q0 : W.cell? ⟨w.heap.size, 0, none⟩ = some (.int .i64 n) := by rw [hW]; go_simp
  have q1 : W.cell? ⟨w.heap.size, 1, none⟩ = some (.int .i64 h) := by rw [hW]; go_simp
  have q2 : W.cell? ⟨w.heap.size, 2, none⟩ = some (.int .i64 t) := by rw [hW]; go_simp
  have q3 : W.cell? ⟨w.heap.size, 3, none⟩ = some (.bool ph) := by rw [hW]; go_simp
  have HQ := Lib.hid (show W.rowIs w.heap.size 30 4 (qf n h t ph) by rw [hW]; exact World.rowIs.alloc (World.rowIs_alloc w _ _ _ (fun i hi => by match i, hi with | 0, _ => rfl | 1, _ => rfl | 2, _ => rfl | 3, _ => rfl)) _)
  have HR := Lib.hid (show W.rowIs (w.heap.size + 1) 30 4 (qf 0 0 0 false) by rw [hW]; have := World.rowIs_alloc (w.alloc (.cells #[.int .i64 (n : Int), .int .i64 (h : Int), .int .i64 (t : Int), .bool ph] 30)) #[.int .i64 0, .int .i64 0, .int .i64 0, .bool false] 30 (qf 0 0 0 false) (fun i hi => by match i, hi with | 0, _ => rfl | 1, _ => rfl | 2, _ => rfl | 3, _ => rfl); simpa using this)
  have HB := Lib.hid (show Below w.heap.size w W by rw [hW]; exact ((Below.refl _ _).alloc (Nat.le_refl _) _).alloc (by simp) _)
  clear hW
  have hq0 : ∀ p : InC (Below W.heap.size W), p.w.cell? ⟨w.heap.size, 0, none⟩ = some (.int .i64 n) := fun p => (p.ok.cell (hlw)).trans (q0)
  have hq1 : ∀ p : InC (Below W.heap.size W), p.w.cell? ⟨w.heap.size, 1, none⟩ = some (.int .i64 h) := fun p => (p.ok.cell (hlw)).trans (q1)
  have hq2 : ∀ p : InC (Below W.heap.size W), p.w.cell? ⟨w.heap.size, 2, none⟩ = some (.int .i64 t) := fun p => (p.ok.cell (hlw)).trans (q2)
  have hq3 : ∀ p : InC (Below W.heap.size W), p.w.cell? ⟨w.heap.size, 3, none⟩ = some (.bool ph) := fun p => (p.ok.cell (hlw)).trans (q3)
  have HE : Hid (∀ p : InC (Below W.heap.size W), Calls Try.prog 51 #[.agg #[.int .i64 n, .int .i64 h, .int .i64 t, .bool ph], .int .i64 k] p.w fun e w' => e = .returned (.bool false) ∧ Below W.heap.size W w') :=
    Lib.hid fun p => (rslot_no n k h t ph p.w HK.out).mono fun e w' k => ⟨k.1, p.ok.trans (k.2.mono p.ok.size)⟩
  have hNE : Nonempty (InC (Below W.heap.size W)) := ⟨⟨W, Below.refl _ _⟩⟩
  clear q0 q1 q2 q3
  refine wp_quiet_in (Below W.heap.size W) (Below.refl _ _).drew (by kernel_rfl) (by kernel_rfl) ?_
  repeat (go_big_quiet_step (first | (with_reducible exact calls_in (HE.out _))))
  refine wpQuiet_nil ?_
  intro _ hw'
  obtain ⟨p, hw''⟩ := hw'
  subst hw''
  have HQ4 := Lib.hid (World.rowIs.of_block HQ.out (p.ok.block _ (by omega)))
  have HR4 := Lib.hid (World.rowIs.of_block HR.out (p.ok.block _ (by omega)))
  have HP := Lib.hid (HB.out.trans (p.ok.mono (by omega)))
  generalize p.w = W4 at *
  clear hq0 hq1 hq2 hq3 hNE HE
  have q0 : W4.cell? ⟨w.heap.size, 0, none⟩ = some (.int .i64 n) := World.rowIs.cell HQ4.out (i := 0) (by omega)
  have f0 := World.rowIs.frozen HQ4.out 0
  have q1 : W4.cell? ⟨w.heap.size, 1, none⟩ = some (.int .i64 h) := World.rowIs.cell HQ4.out (i := 1) (by omega)
  have f1 := World.rowIs.frozen HQ4.out 1
  have q2 : W4.cell? ⟨w.heap.size, 2, none⟩ = some (.int .i64 t) := World.rowIs.cell HQ4.out (i := 2) (by omega)
  have f2 := World.rowIs.frozen HQ4.out 2
  have q3 : W4.cell? ⟨w.heap.size, 3, none⟩ = some (.bool ph) := World.rowIs.cell HQ4.out (i := 3) (by omega)
  have f3 := World.rowIs.frozen HQ4.out 3
  have r0 : W4.cell? ⟨w.heap.size + 1, 0, none⟩ = some (.int .i64 0) := World.rowIs.cell HR4.out (i := 0) (by omega)
  have z0 := World.rowIs.frozen HR4.out 0
  have r1 : W4.cell? ⟨w.heap.size + 1, 1, none⟩ = some (.int .i64 0) := World.rowIs.cell HR4.out (i := 1) (by omega)
  have z1 := World.rowIs.frozen HR4.out 1
  have r2 : W4.cell? ⟨w.heap.size + 1, 2, none⟩ = some (.int .i64 0) := World.rowIs.cell HR4.out (i := 2) (by omega)
  have z2 := World.rowIs.frozen HR4.out 2
  have r3 : W4.cell? ⟨w.heap.size + 1, 3, none⟩ = some (.bool false) := World.rowIs.cell HR4.out (i := 3) (by omega)
  have z3 := World.rowIs.frozen HR4.out 3
  go_wp2_with fail
  refine bodyPost_ret (v := .tuple #[.agg #[.int .i64 n, .int .i64 h, .int .i64 t, .bool ph], .int .i64 3]) (by simp [results, Try.results35, go_sem, r0, r1, r2, r3]) rfl ⟨rfl, ?_⟩
  repeat (refine bset ?_ _ _ (by omega) _)
  exact HP.out

set_option maxRecDepth 100000 in
set_option maxHeartbeats 2000000 in
theorem rRelease_far (n h t : Nat) (ph : Bool) (k : Nat) (w : World) (hn : 2 ≤ n) (hn' : n ≤ 4096) (hh : h < n) (ht : t < n) (hk : k < n) (hf : usd n h t < usd n h k) :
    Calls Try.prog 35 #[.agg #[.int .i64 n, .int .i64 h, .int .i64 t, .bool ph], .int .i64 k] w fun e w' => e = .returned (.tuple #[.agg #[.int .i64 n, .int .i64 h, .int .i64 t, .bool ph], .int .i64 3]) ∧ Below w.heap.size w w' := by
  obtain ⟨u, hu⟩ : ∃ u, u = usd n h t := ⟨_, rfl⟩
  obtain ⟨v, hv⟩ : ∃ v, v = usd n h k := ⟨_, rfl⟩
  rw [← hu, ← hv] at hf
  have HCV := Lib.hid fun w => between_b n h k w hn hn' hh hk
  rw [← hv] at HCV
  have HCU := Lib.hid fun w => rUsed_ok n h t ph w hn hn' hh ht
  rw [← hu] at HCU
  have HU := Lib.hid hu
  have HV := Lib.hid hv
  clear hu hv
  have d1 : decide (u < v) = true := by simpa using hf
  go_enter Try.func35, Try.ntmps35
  go_wp2_with fail
  obtain ⟨W, hW⟩ : ∃ W, W = (w.alloc (.cells #[.int .i64 (n : Int), .int .i64 (h : Int), .int .i64 (t : Int), .bool ph] 30)).alloc (.cells #[.int .i64 0, .int .i64 0, .int .i64 0, .bool false] 30) := ⟨_, rfl⟩
  rw [← hW]
  have hlt : w.heap.size + 1 < W.heap.size := by rw [hW]; simp
  have hlw : w.heap.size < W.heap.size := by omega
  have q0 : W.cell? ⟨w.heap.size, 0, none⟩ = some (.int .i64 n) := by rw [hW]; go_simp
  have q1 : W.cell? ⟨w.heap.size, 1, none⟩ = some (.int .i64 h) := by rw [hW]; go_simp
  have q2 : W.cell? ⟨w.heap.size, 2, none⟩ = some (.int .i64 t) := by rw [hW]; go_simp
  have q3 : W.cell? ⟨w.heap.size, 3, none⟩ = some (.bool ph) := by rw [hW]; go_simp
  have HQ := Lib.hid (show W.rowIs w.heap.size 30 4 (qf n h t ph) by rw [hW]; exact World.rowIs.alloc (World.rowIs_alloc w _ _ _ (fun i hi => by match i, hi with | 0, _ => rfl | 1, _ => rfl | 2, _ => rfl | 3, _ => rfl)) _)
  have HR := Lib.hid (show W.rowIs (w.heap.size + 1) 30 4 (qf 0 0 0 false) by rw [hW]; have := World.rowIs_alloc (w.alloc (.cells #[.int .i64 (n : Int), .int .i64 (h : Int), .int .i64 (t : Int), .bool ph] 30)) #[.int .i64 0, .int .i64 0, .int .i64 0, .bool false] 30 (qf 0 0 0 false) (fun i hi => by match i, hi with | 0, _ => rfl | 1, _ => rfl | 2, _ => rfl | 3, _ => rfl); simpa using this)
  have HB := Lib.hid (show Below w.heap.size w W by rw [hW]; exact ((Below.refl _ _).alloc (Nat.le_refl _) _).alloc (by simp) _)
  clear hW
  have hq0 : ∀ p : InC (Below W.heap.size W), p.w.cell? ⟨w.heap.size, 0, none⟩ = some (.int .i64 n) := fun p => (p.ok.cell (hlw)).trans (q0)
  have hq1 : ∀ p : InC (Below W.heap.size W), p.w.cell? ⟨w.heap.size, 1, none⟩ = some (.int .i64 h) := fun p => (p.ok.cell (hlw)).trans (q1)
  have hq2 : ∀ p : InC (Below W.heap.size W), p.w.cell? ⟨w.heap.size, 2, none⟩ = some (.int .i64 t) := fun p => (p.ok.cell (hlw)).trans (q2)
  have hq3 : ∀ p : InC (Below W.heap.size W), p.w.cell? ⟨w.heap.size, 3, none⟩ = some (.bool ph) := fun p => (p.ok.cell (hlw)).trans (q3)
  have HE : Hid (∀ p : InC (Below W.heap.size W), Calls Try.prog 51 #[.agg #[.int .i64 n, .int .i64 h, .int .i64 t, .bool ph], .int .i64 k] p.w fun e w' => e = .returned (.bool true) ∧ Below W.heap.size W w') :=
    Lib.hid fun p => (rslot_yes n k h t ph p.w hk).mono fun e w' k => ⟨k.1, p.ok.trans (k.2.mono p.ok.size)⟩
  have HE2 : Hid (∀ p : InC (Below W.heap.size W), Calls Try.prog 52 #[.int .i64 n, .int .i64 h, .int .i64 k] p.w fun e w' => e = .returned (.int .i64 v) ∧ Below W.heap.size W w') :=
    Lib.hid fun p => (HCV.out p.w).mono fun e w' k => ⟨k.1, p.ok.trans (k.2.mono p.ok.size)⟩
  have HE3 : Hid (∀ p : InC (Below W.heap.size W), Calls Try.prog 21 #[.agg #[.int .i64 n, .int .i64 h, .int .i64 t, .bool ph]] p.w fun e w' => e = .returned (.int .i64 u) ∧ Below W.heap.size W w') :=
    Lib.hid fun p => (HCU.out p.w).mono fun e w' k => ⟨k.1, p.ok.trans (k.2.mono p.ok.size)⟩
  have hNE : Nonempty (InC (Below W.heap.size W)) := ⟨⟨W, Below.refl _ _⟩⟩
  clear q0 q1 q2 q3
  refine wp_quiet_in (Below W.heap.size W) (Below.refl _ _).drew (by kernel_rfl) (by kernel_rfl) ?_
  repeat (go_big_quiet_step (first | (with_reducible exact calls_in (HE.out _)) | (with_reducible exact calls_in (HE2.out _)) | (with_reducible exact calls_in (HE3.out _))))
  refine wpQuiet_nil ?_
  intro _ hw'
  obtain ⟨p, hw''⟩ := hw'
  subst hw''
  have HQ4 := Lib.hid (World.rowIs.of_block HQ.out (p.ok.block _ (by omega)))
  have HR4 := Lib.hid (World.rowIs.of_block HR.out (p.ok.block _ (by omega)))
  have HP := Lib.hid (HB.out.trans (p.ok.mono (by omega)))
  generalize p.w = W4 at *
  clear hq0 hq1 hq2 hq3 hNE HE HE2 HE3
  have q0 : W4.cell? ⟨w.heap.size, 0, none⟩ = some (.int .i64 n) := World.rowIs.cell HQ4.out (i := 0) (by omega)
  have f0 := World.rowIs.frozen HQ4.out 0
  have q1 : W4.cell? ⟨w.heap.size, 1, none⟩ = some (.int .i64 h) := World.rowIs.cell HQ4.out (i := 1) (by omega)
  have f1 := World.rowIs.frozen HQ4.out 1
  have q2 : W4.cell? ⟨w.heap.size, 2, none⟩ = some (.int .i64 t) := World.rowIs.cell HQ4.out (i := 2) (by omega)
  have f2 := World.rowIs.frozen HQ4.out 2
  have q3 : W4.cell? ⟨w.heap.size, 3, none⟩ = some (.bool ph) := World.rowIs.cell HQ4.out (i := 3) (by omega)
  have f3 := World.rowIs.frozen HQ4.out 3
  have r0 : W4.cell? ⟨w.heap.size + 1, 0, none⟩ = some (.int .i64 0) := World.rowIs.cell HR4.out (i := 0) (by omega)
  have z0 := World.rowIs.frozen HR4.out 0
  have r1 : W4.cell? ⟨w.heap.size + 1, 1, none⟩ = some (.int .i64 0) := World.rowIs.cell HR4.out (i := 1) (by omega)
  have z1 := World.rowIs.frozen HR4.out 1
  have r2 : W4.cell? ⟨w.heap.size + 1, 2, none⟩ = some (.int .i64 0) := World.rowIs.cell HR4.out (i := 2) (by omega)
  have z2 := World.rowIs.frozen HR4.out 2
  have r3 : W4.cell? ⟨w.heap.size + 1, 3, none⟩ = some (.bool false) := World.rowIs.cell HR4.out (i := 3) (by omega)
  have z3 := World.rowIs.frozen HR4.out 3
  go_wp2_with fail
  refine bodyPost_ret (v := .tuple #[.agg #[.int .i64 n, .int .i64 h, .int .i64 t, .bool ph], .int .i64 3]) (by simp [results, Try.results35, go_sem, r0, r1, r2, r3]) rfl ⟨rfl, ?_⟩
  repeat (refine bset ?_ _ _ (by omega) _)
  exact HP.out

set_option maxRecDepth 100000 in
set_option maxHeartbeats 2000000 in
theorem rRelease_ok (n h t : Nat) (ph : Bool) (k : Nat) (w : World) (hn : 2 ≤ n) (hn' : n ≤ 4096) (hh : h < n) (ht : t < n) (hk : k < n) (hf : usd n h k ≤ usd n h t) :
    Calls Try.prog 35 #[.agg #[.int .i64 n, .int .i64 h, .int .i64 t, .bool ph], .int .i64 k] w fun e w' => e = .returned (.tuple #[.agg #[.int .i64 n, .int .i64 k, .int .i64 t, .bool ph], .int .i64 0]) ∧ Below w.heap.size w w' := by
  obtain ⟨u, hu⟩ : ∃ u, u = usd n h t := ⟨_, rfl⟩
  obtain ⟨v, hv⟩ : ∃ v, v = usd n h k := ⟨_, rfl⟩
  rw [← hu, ← hv] at hf
  have HCV := Lib.hid fun w => between_b n h k w hn hn' hh hk
  rw [← hv] at HCV
  have HCU := Lib.hid fun w => rUsed_ok n h t ph w hn hn' hh ht
  rw [← hu] at HCU
  have HU := Lib.hid hu
  have HV := Lib.hid hv
  clear hu hv
  have d1 : decide (u < v) = false := by simpa using hf
  go_enter Try.func35, Try.ntmps35
  go_wp2_with fail
  obtain ⟨W, hW⟩ : ∃ W, W = (w.alloc (.cells #[.int .i64 (n : Int), .int .i64 (h : Int), .int .i64 (t : Int), .bool ph] 30)).alloc (.cells #[.int .i64 0, .int .i64 0, .int .i64 0, .bool false] 30) := ⟨_, rfl⟩
  rw [← hW]
  have hlt : w.heap.size + 1 < W.heap.size := by rw [hW]; simp
  have hlw : w.heap.size < W.heap.size := by omega
  have q0 : W.cell? ⟨w.heap.size, 0, none⟩ = some (.int .i64 n) := by rw [hW]; go_simp
  have q1 : W.cell? ⟨w.heap.size, 1, none⟩ = some (.int .i64 h) := by rw [hW]; go_simp
  have q2 : W.cell? ⟨w.heap.size, 2, none⟩ = some (.int .i64 t) := by rw [hW]; go_simp
  have q3 : W.cell? ⟨w.heap.size, 3, none⟩ = some (.bool ph) := by rw [hW]; go_simp
  have HQ := Lib.hid (show W.rowIs w.heap.size 30 4 (qf n h t ph) by rw [hW]; exact World.rowIs.alloc (World.rowIs_alloc w _ _ _ (fun i hi => by match i, hi with | 0, _ => rfl | 1, _ => rfl | 2, _ => rfl | 3, _ => rfl)) _)
  have HR := Lib.hid (show W.rowIs (w.heap.size + 1) 30 4 (qf 0 0 0 false) by rw [hW]; have := World.rowIs_alloc (w.alloc (.cells #[.int .i64 (n : Int), .int .i64 (h : Int), .int .i64 (t : Int), .bool ph] 30)) #[.int .i64 0, .int .i64 0, .int .i64 0, .bool false] 30 (qf 0 0 0 false) (fun i hi => by match i, hi with | 0, _ => rfl | 1, _ => rfl | 2, _ => rfl | 3, _ => rfl); simpa using this)
  have HB := Lib.hid (show Below w.heap.size w W by rw [hW]; exact ((Below.refl _ _).alloc (Nat.le_refl _) _).alloc (by simp) _)
  clear hW
  have hq0 : ∀ p : InC (Below W.heap.size W), p.w.cell? ⟨w.heap.size, 0, none⟩ = some (.int .i64 n) := fun p => (p.ok.cell (hlw)).trans (q0)
  have hq1 : ∀ p : InC (Below W.heap.size W), p.w.cell? ⟨w.heap.size, 1, none⟩ = some (.int .i64 h) := fun p => (p.ok.cell (hlw)).trans (q1)
  have hq2 : ∀ p : InC (Below W.heap.size W), p.w.cell? ⟨w.heap.size, 2, none⟩ = some (.int .i64 t) := fun p => (p.ok.cell (hlw)).trans (q2)
  have hq3 : ∀ p : InC (Below W.heap.size W), p.w.cell? ⟨w.heap.size, 3, none⟩ = some (.bool ph) := fun p => (p.ok.cell (hlw)).trans (q3)
  have HE : Hid (∀ p : InC (Below W.heap.size W), Calls Try.prog 51 #[.agg #[.int .i64 n, .int .i64 h, .int .i64 t, .bool ph], .int .i64 k] p.w fun e w' => e = .returned (.bool true) ∧ Below W.heap.size W w') :=
    Lib.hid fun p => (rslot_yes n k h t ph p.w hk).mono fun e w' k => ⟨k.1, p.ok.trans (k.2.mono p.ok.size)⟩
  have HE2 : Hid (∀ p : InC (Below W.heap.size W), Calls Try.prog 52 #[.int .i64 n, .int .i64 h, .int .i64 k] p.w fun e w' => e = .returned (.int .i64 v) ∧ Below W.heap.size W w') :=
    Lib.hid fun p => (HCV.out p.w).mono fun e w' k => ⟨k.1, p.ok.trans (k.2.mono p.ok.size)⟩
  have HE3 : Hid (∀ p : InC (Below W.heap.size W), Calls Try.prog 21 #[.agg #[.int .i64 n, .int .i64 h, .int .i64 t, .bool ph]] p.w fun e w' => e = .returned (.int .i64 u) ∧ Below W.heap.size W w') :=
    Lib.hid fun p => (HCU.out p.w).mono fun e w' k => ⟨k.1, p.ok.trans (k.2.mono p.ok.size)⟩
  have hNE : Nonempty (InC (Below W.heap.size W)) := ⟨⟨W, Below.refl _ _⟩⟩
  clear q0 q1 q2 q3
  refine wp_quiet_in (Below W.heap.size W) (Below.refl _ _).drew (by kernel_rfl) (by kernel_rfl) ?_
  repeat (go_big_quiet_step (first | (with_reducible exact calls_in (HE.out _)) | (with_reducible exact calls_in (HE2.out _)) | (with_reducible exact calls_in (HE3.out _))))
  refine wpQuiet_nil ?_
  intro _ hw'
  obtain ⟨p, hw''⟩ := hw'
  subst hw''
  have HQ4 := Lib.hid (World.rowIs.of_block HQ.out (p.ok.block _ (by omega)))
  have HR4 := Lib.hid (World.rowIs.of_block HR.out (p.ok.block _ (by omega)))
  have HP := Lib.hid (HB.out.trans (p.ok.mono (by omega)))
  generalize p.w = W4 at *
  clear hq0 hq1 hq2 hq3 hNE HE HE2 HE3
  have q0 : W4.cell? ⟨w.heap.size, 0, none⟩ = some (.int .i64 n) := World.rowIs.cell HQ4.out (i := 0) (by omega)
  have f0 := World.rowIs.frozen HQ4.out 0
  have q1 : W4.cell? ⟨w.heap.size, 1, none⟩ = some (.int .i64 h) := World.rowIs.cell HQ4.out (i := 1) (by omega)
  have f1 := World.rowIs.frozen HQ4.out 1
  have q2 : W4.cell? ⟨w.heap.size, 2, none⟩ = some (.int .i64 t) := World.rowIs.cell HQ4.out (i := 2) (by omega)
  have f2 := World.rowIs.frozen HQ4.out 2
  have q3 : W4.cell? ⟨w.heap.size, 3, none⟩ = some (.bool ph) := World.rowIs.cell HQ4.out (i := 3) (by omega)
  have f3 := World.rowIs.frozen HQ4.out 3
  have r0 : W4.cell? ⟨w.heap.size + 1, 0, none⟩ = some (.int .i64 0) := World.rowIs.cell HR4.out (i := 0) (by omega)
  have z0 := World.rowIs.frozen HR4.out 0
  have r1 : W4.cell? ⟨w.heap.size + 1, 1, none⟩ = some (.int .i64 0) := World.rowIs.cell HR4.out (i := 1) (by omega)
  have z1 := World.rowIs.frozen HR4.out 1
  have r2 : W4.cell? ⟨w.heap.size + 1, 2, none⟩ = some (.int .i64 0) := World.rowIs.cell HR4.out (i := 2) (by omega)
  have z2 := World.rowIs.frozen HR4.out 2
  have r3 : W4.cell? ⟨w.heap.size + 1, 3, none⟩ = some (.bool false) := World.rowIs.cell HR4.out (i := 3) (by omega)
  have z3 := World.rowIs.frozen HR4.out 3
  go_wp2_with fail
  refine bodyPost_ret (v := .tuple #[.agg #[.int .i64 n, .int .i64 k, .int .i64 t, .bool ph], .int .i64 0]) (by simp [results, Try.results35, go_sem, r0, r1, r2, r3]) rfl ⟨rfl, ?_⟩
  repeat (refine bset ?_ _ _ (by omega) _)
  exact HP.out

set_option maxRecDepth 100000 in
set_option maxHeartbeats 2000000 in
theorem rRing_no (n h t : Nat) (ph : Bool) (k : Int) (w : World) (hn : 2 ≤ n) (hn' : n ≤ 4096) (hh : h < n) (ht : t < n) (hk : k < 0 ∨ (n : Int) ≤ k) :
    Calls Try.prog 17 #[.agg #[.int .i64 n, .int .i64 h, .int .i64 t, .bool ph], .int .i64 k] w fun e w' => e = .returned (.tuple #[.agg #[.int .i64 n, .int .i64 h, .int .i64 t, .bool ph], .int .i64 3]) ∧ Below w.heap.size w w' := by
  have HK := Lib.hid hk
  clear hk
  go_enter Try.func17, Try.ntmps17
  go_wp2_with fail
  obtain ⟨W, hW⟩ : ∃ W, W = (w.alloc (.cells #[.int .i64 (n : Int), .int .i64 (h : Int), .int .i64 (t : Int), .bool ph] 30)).alloc (.cells #[.int .i64 0, .int .i64 0, .int .i64 0, .bool false] 30) := ⟨_, rfl⟩
  rw [← hW]
  have hlt : w.heap.size + 1 < W.heap.size := by rw [hW]; simp
  have hlw : w.heap.size < W.heap.size := by omega
  have q0 : W.cell? ⟨w.heap.size, 0, none⟩ = some (.int .i64 n) := by rw [hW]; go_simp
  have q1 : W.cell? ⟨w.heap.size, 1, none⟩ = some (.int .i64 h) := by rw [hW]; go_simp
  have q2 : W.cell? ⟨w.heap.size, 2, none⟩ = some (.int .i64 t) := by rw [hW]; go_simp
  have q3 : W.cell? ⟨w.heap.size, 3, none⟩ = some (.bool ph) := by rw [hW]; go_simp
  have HQ := Lib.hid (show W.rowIs w.heap.size 30 4 (qf n h t ph) by rw [hW]; exact World.rowIs.alloc (World.rowIs_alloc w _ _ _ (fun i hi => by match i, hi with | 0, _ => rfl | 1, _ => rfl | 2, _ => rfl | 3, _ => rfl)) _)
  have HR := Lib.hid (show W.rowIs (w.heap.size + 1) 30 4 (qf 0 0 0 false) by rw [hW]; have := World.rowIs_alloc (w.alloc (.cells #[.int .i64 (n : Int), .int .i64 (h : Int), .int .i64 (t : Int), .bool ph] 30)) #[.int .i64 0, .int .i64 0, .int .i64 0, .bool false] 30 (qf 0 0 0 false) (fun i hi => by match i, hi with | 0, _ => rfl | 1, _ => rfl | 2, _ => rfl | 3, _ => rfl); simpa using this)
  have HB := Lib.hid (show Below w.heap.size w W by rw [hW]; exact ((Below.refl _ _).alloc (Nat.le_refl _) _).alloc (by simp) _)
  clear hW
  have hq0 : ∀ p : InC (Below W.heap.size W), p.w.cell? ⟨w.heap.size, 0, none⟩ = some (.int .i64 n) := fun p => (p.ok.cell (hlw)).trans (q0)
  have hq1 : ∀ p : InC (Below W.heap.size W), p.w.cell? ⟨w.heap.size, 1, none⟩ = some (.int .i64 h) := fun p => (p.ok.cell (hlw)).trans (q1)
  have hq2 : ∀ p : InC (Below W.heap.size W), p.w.cell? ⟨w.heap.size, 2, none⟩ = some (.int .i64 t) := fun p => (p.ok.cell (hlw)).trans (q2)
  have hq3 : ∀ p : InC (Below W.heap.size W), p.w.cell? ⟨w.heap.size, 3, none⟩ = some (.bool ph) := fun p => (p.ok.cell (hlw)).trans (q3)
  have HE : Hid (∀ p : InC (Below W.heap.size W), Calls Try.prog 51 #[.agg #[.int .i64 n, .int .i64 h, .int .i64 t, .bool ph], .int .i64 k] p.w fun e w' => e = .returned (.bool false) ∧ Below W.heap.size W w') :=
    Lib.hid fun p => (rslot_no n k h t ph p.w HK.out).mono fun e w' k => ⟨k.1, p.ok.trans (k.2.mono p.ok.size)⟩
  have hNE : Nonempty (InC (Below W.heap.size W)) := ⟨⟨W, Below.refl _ _⟩⟩
  clear q0 q1 q2 q3
  refine wp_quiet_in (Below W.heap.size W) (Below.refl _ _).drew (by kernel_rfl) (by kernel_rfl) ?_
  repeat (go_big_quiet_step (first | (with_reducible exact calls_in (HE.out _))))
  refine wpQuiet_nil ?_
  intro _ hw'
  obtain ⟨p, hw''⟩ := hw'
  subst hw''
  have HQ4 := Lib.hid (World.rowIs.of_block HQ.out (p.ok.block _ (by omega)))
  have HR4 := Lib.hid (World.rowIs.of_block HR.out (p.ok.block _ (by omega)))
  have HP := Lib.hid (HB.out.trans (p.ok.mono (by omega)))
  generalize p.w = W4 at *
  clear hq0 hq1 hq2 hq3 hNE HE
  have q0 : W4.cell? ⟨w.heap.size, 0, none⟩ = some (.int .i64 n) := World.rowIs.cell HQ4.out (i := 0) (by omega)
  have f0 := World.rowIs.frozen HQ4.out 0
  have q1 : W4.cell? ⟨w.heap.size, 1, none⟩ = some (.int .i64 h) := World.rowIs.cell HQ4.out (i := 1) (by omega)
  have f1 := World.rowIs.frozen HQ4.out 1
  have q2 : W4.cell? ⟨w.heap.size, 2, none⟩ = some (.int .i64 t) := World.rowIs.cell HQ4.out (i := 2) (by omega)
  have f2 := World.rowIs.frozen HQ4.out 2
  have q3 : W4.cell? ⟨w.heap.size, 3, none⟩ = some (.bool ph) := World.rowIs.cell HQ4.out (i := 3) (by omega)
  have f3 := World.rowIs.frozen HQ4.out 3
  have r0 : W4.cell? ⟨w.heap.size + 1, 0, none⟩ = some (.int .i64 0) := World.rowIs.cell HR4.out (i := 0) (by omega)
  have z0 := World.rowIs.frozen HR4.out 0
  have r1 : W4.cell? ⟨w.heap.size + 1, 1, none⟩ = some (.int .i64 0) := World.rowIs.cell HR4.out (i := 1) (by omega)
  have z1 := World.rowIs.frozen HR4.out 1
  have r2 : W4.cell? ⟨w.heap.size + 1, 2, none⟩ = some (.int .i64 0) := World.rowIs.cell HR4.out (i := 2) (by omega)
  have z2 := World.rowIs.frozen HR4.out 2
  have r3 : W4.cell? ⟨w.heap.size + 1, 3, none⟩ = some (.bool false) := World.rowIs.cell HR4.out (i := 3) (by omega)
  have z3 := World.rowIs.frozen HR4.out 3
  go_wp2_with fail
  refine bodyPost_ret (v := .tuple #[.agg #[.int .i64 n, .int .i64 h, .int .i64 t, .bool ph], .int .i64 3]) (by simp [results, Try.results17, go_sem, r0, r1, r2, r3]) rfl ⟨rfl, ?_⟩
  repeat (refine bset ?_ _ _ (by omega) _)
  exact HP.out

set_option maxRecDepth 100000 in
set_option maxHeartbeats 2000000 in
theorem rRing_far (n h t : Nat) (ph : Bool) (k : Nat) (w : World) (hn : 2 ≤ n) (hn' : n ≤ 4096) (hh : h < n) (ht : t < n) (hk : k < n) (hf : usd n h k < usd n h t) :
    Calls Try.prog 17 #[.agg #[.int .i64 n, .int .i64 h, .int .i64 t, .bool ph], .int .i64 k] w fun e w' => e = .returned (.tuple #[.agg #[.int .i64 n, .int .i64 h, .int .i64 t, .bool ph], .int .i64 3]) ∧ Below w.heap.size w w' := by
  obtain ⟨u, hu⟩ : ∃ u, u = usd n h t := ⟨_, rfl⟩
  obtain ⟨v, hv⟩ : ∃ v, v = usd n h k := ⟨_, rfl⟩
  rw [← hu, ← hv] at hf
  have HCV := Lib.hid fun w => between_b n h k w hn hn' hh hk
  rw [← hv] at HCV
  have HCU := Lib.hid fun w => rUsed_ok n h t ph w hn hn' hh ht
  rw [← hu] at HCU
  have HU := Lib.hid hu
  have HV := Lib.hid hv
  clear hu hv
  have d1 : decide (v < u) = true := by simpa using hf
  go_enter Try.func17, Try.ntmps17
  go_wp2_with fail
  obtain ⟨W, hW⟩ : ∃ W, W = (w.alloc (.cells #[.int .i64 (n : Int), .int .i64 (h : Int), .int .i64 (t : Int), .bool ph] 30)).alloc (.cells #[.int .i64 0, .int .i64 0, .int .i64 0, .bool false] 30) := ⟨_, rfl⟩
  rw [← hW]
  have hlt : w.heap.size + 1 < W.heap.size := by rw [hW]; simp
  have hlw : w.heap.size < W.heap.size := by omega
  have q0 : W.cell? ⟨w.heap.size, 0, none⟩ = some (.int .i64 n) := by rw [hW]; go_simp
  have q1 : W.cell? ⟨w.heap.size, 1, none⟩ = some (.int .i64 h) := by rw [hW]; go_simp
  have q2 : W.cell? ⟨w.heap.size, 2, none⟩ = some (.int .i64 t) := by rw [hW]; go_simp
  have q3 : W.cell? ⟨w.heap.size, 3, none⟩ = some (.bool ph) := by rw [hW]; go_simp
  have HQ := Lib.hid (show W.rowIs w.heap.size 30 4 (qf n h t ph) by rw [hW]; exact World.rowIs.alloc (World.rowIs_alloc w _ _ _ (fun i hi => by match i, hi with | 0, _ => rfl | 1, _ => rfl | 2, _ => rfl | 3, _ => rfl)) _)
  have HR := Lib.hid (show W.rowIs (w.heap.size + 1) 30 4 (qf 0 0 0 false) by rw [hW]; have := World.rowIs_alloc (w.alloc (.cells #[.int .i64 (n : Int), .int .i64 (h : Int), .int .i64 (t : Int), .bool ph] 30)) #[.int .i64 0, .int .i64 0, .int .i64 0, .bool false] 30 (qf 0 0 0 false) (fun i hi => by match i, hi with | 0, _ => rfl | 1, _ => rfl | 2, _ => rfl | 3, _ => rfl); simpa using this)
  have HB := Lib.hid (show Below w.heap.size w W by rw [hW]; exact ((Below.refl _ _).alloc (Nat.le_refl _) _).alloc (by simp) _)
  clear hW
  have hq0 : ∀ p : InC (Below W.heap.size W), p.w.cell? ⟨w.heap.size, 0, none⟩ = some (.int .i64 n) := fun p => (p.ok.cell (hlw)).trans (q0)
  have hq1 : ∀ p : InC (Below W.heap.size W), p.w.cell? ⟨w.heap.size, 1, none⟩ = some (.int .i64 h) := fun p => (p.ok.cell (hlw)).trans (q1)
  have hq2 : ∀ p : InC (Below W.heap.size W), p.w.cell? ⟨w.heap.size, 2, none⟩ = some (.int .i64 t) := fun p => (p.ok.cell (hlw)).trans (q2)
  have hq3 : ∀ p : InC (Below W.heap.size W), p.w.cell? ⟨w.heap.size, 3, none⟩ = some (.bool ph) := fun p => (p.ok.cell (hlw)).trans (q3)
  have HE : Hid (∀ p : InC (Below W.heap.size W), Calls Try.prog 51 #[.agg #[.int .i64 n, .int .i64 h, .int .i64 t, .bool ph], .int .i64 k] p.w fun e w' => e = .returned (.bool true) ∧ Below W.heap.size W w') :=
    Lib.hid fun p => (rslot_yes n k h t ph p.w hk).mono fun e w' k => ⟨k.1, p.ok.trans (k.2.mono p.ok.size)⟩
  have HE2 : Hid (∀ p : InC (Below W.heap.size W), Calls Try.prog 52 #[.int .i64 n, .int .i64 h, .int .i64 k] p.w fun e w' => e = .returned (.int .i64 v) ∧ Below W.heap.size W w') :=
    Lib.hid fun p => (HCV.out p.w).mono fun e w' k => ⟨k.1, p.ok.trans (k.2.mono p.ok.size)⟩
  have HE3 : Hid (∀ p : InC (Below W.heap.size W), Calls Try.prog 21 #[.agg #[.int .i64 n, .int .i64 h, .int .i64 t, .bool ph]] p.w fun e w' => e = .returned (.int .i64 u) ∧ Below W.heap.size W w') :=
    Lib.hid fun p => (HCU.out p.w).mono fun e w' k => ⟨k.1, p.ok.trans (k.2.mono p.ok.size)⟩
  have hNE : Nonempty (InC (Below W.heap.size W)) := ⟨⟨W, Below.refl _ _⟩⟩
  clear q0 q1 q2 q3
  refine wp_quiet_in (Below W.heap.size W) (Below.refl _ _).drew (by kernel_rfl) (by kernel_rfl) ?_
  repeat (go_big_quiet_step (first | (with_reducible exact calls_in (HE.out _)) | (with_reducible exact calls_in (HE2.out _)) | (with_reducible exact calls_in (HE3.out _))))
  refine wpQuiet_nil ?_
  intro _ hw'
  obtain ⟨p, hw''⟩ := hw'
  subst hw''
  have HQ4 := Lib.hid (World.rowIs.of_block HQ.out (p.ok.block _ (by omega)))
  have HR4 := Lib.hid (World.rowIs.of_block HR.out (p.ok.block _ (by omega)))
  have HP := Lib.hid (HB.out.trans (p.ok.mono (by omega)))
  generalize p.w = W4 at *
  clear hq0 hq1 hq2 hq3 hNE HE HE2 HE3
  have q0 : W4.cell? ⟨w.heap.size, 0, none⟩ = some (.int .i64 n) := World.rowIs.cell HQ4.out (i := 0) (by omega)
  have f0 := World.rowIs.frozen HQ4.out 0
  have q1 : W4.cell? ⟨w.heap.size, 1, none⟩ = some (.int .i64 h) := World.rowIs.cell HQ4.out (i := 1) (by omega)
  have f1 := World.rowIs.frozen HQ4.out 1
  have q2 : W4.cell? ⟨w.heap.size, 2, none⟩ = some (.int .i64 t) := World.rowIs.cell HQ4.out (i := 2) (by omega)
  have f2 := World.rowIs.frozen HQ4.out 2
  have q3 : W4.cell? ⟨w.heap.size, 3, none⟩ = some (.bool ph) := World.rowIs.cell HQ4.out (i := 3) (by omega)
  have f3 := World.rowIs.frozen HQ4.out 3
  have r0 : W4.cell? ⟨w.heap.size + 1, 0, none⟩ = some (.int .i64 0) := World.rowIs.cell HR4.out (i := 0) (by omega)
  have z0 := World.rowIs.frozen HR4.out 0
  have r1 : W4.cell? ⟨w.heap.size + 1, 1, none⟩ = some (.int .i64 0) := World.rowIs.cell HR4.out (i := 1) (by omega)
  have z1 := World.rowIs.frozen HR4.out 1
  have r2 : W4.cell? ⟨w.heap.size + 1, 2, none⟩ = some (.int .i64 0) := World.rowIs.cell HR4.out (i := 2) (by omega)
  have z2 := World.rowIs.frozen HR4.out 2
  have r3 : W4.cell? ⟨w.heap.size + 1, 3, none⟩ = some (.bool false) := World.rowIs.cell HR4.out (i := 3) (by omega)
  have z3 := World.rowIs.frozen HR4.out 3
  go_wp2_with fail
  refine bodyPost_ret (v := .tuple #[.agg #[.int .i64 n, .int .i64 h, .int .i64 t, .bool ph], .int .i64 3]) (by simp [results, Try.results17, go_sem, r0, r1, r2, r3]) rfl ⟨rfl, ?_⟩
  repeat (refine bset ?_ _ _ (by omega) _)
  exact HP.out

set_option maxRecDepth 100000 in
set_option maxHeartbeats 2000000 in
theorem rRing_ok (n h t : Nat) (ph : Bool) (k : Nat) (w : World) (hn : 2 ≤ n) (hn' : n ≤ 4096) (hh : h < n) (ht : t < n) (hk : k < n) (hf : usd n h t ≤ usd n h k) :
    Calls Try.prog 17 #[.agg #[.int .i64 n, .int .i64 h, .int .i64 t, .bool ph], .int .i64 k] w fun e w' => e = .returned (.tuple #[.agg #[.int .i64 n, .int .i64 h, .int .i64 k, .bool ph], .int .i64 0]) ∧ Below w.heap.size w w' := by
  obtain ⟨u, hu⟩ : ∃ u, u = usd n h t := ⟨_, rfl⟩
  obtain ⟨v, hv⟩ : ∃ v, v = usd n h k := ⟨_, rfl⟩
  rw [← hu, ← hv] at hf
  have HCV := Lib.hid fun w => between_b n h k w hn hn' hh hk
  rw [← hv] at HCV
  have HCU := Lib.hid fun w => rUsed_ok n h t ph w hn hn' hh ht
  rw [← hu] at HCU
  have HU := Lib.hid hu
  have HV := Lib.hid hv
  clear hu hv
  have d1 : decide (v < u) = false := by simpa using hf
  go_enter Try.func17, Try.ntmps17
  go_wp2_with fail
  obtain ⟨W, hW⟩ : ∃ W, W = (w.alloc (.cells #[.int .i64 (n : Int), .int .i64 (h : Int), .int .i64 (t : Int), .bool ph] 30)).alloc (.cells #[.int .i64 0, .int .i64 0, .int .i64 0, .bool false] 30) := ⟨_, rfl⟩
  rw [← hW]
  have hlt : w.heap.size + 1 < W.heap.size := by rw [hW]; simp
  have hlw : w.heap.size < W.heap.size := by omega
  have q0 : W.cell? ⟨w.heap.size, 0, none⟩ = some (.int .i64 n) := by rw [hW]; go_simp
  have q1 : W.cell? ⟨w.heap.size, 1, none⟩ = some (.int .i64 h) := by rw [hW]; go_simp
  have q2 : W.cell? ⟨w.heap.size, 2, none⟩ = some (.int .i64 t) := by rw [hW]; go_simp
  have q3 : W.cell? ⟨w.heap.size, 3, none⟩ = some (.bool ph) := by rw [hW]; go_simp
  have HQ := Lib.hid (show W.rowIs w.heap.size 30 4 (qf n h t ph) by rw [hW]; exact World.rowIs.alloc (World.rowIs_alloc w _ _ _ (fun i hi => by match i, hi with | 0, _ => rfl | 1, _ => rfl | 2, _ => rfl | 3, _ => rfl)) _)
  have HR := Lib.hid (show W.rowIs (w.heap.size + 1) 30 4 (qf 0 0 0 false) by rw [hW]; have := World.rowIs_alloc (w.alloc (.cells #[.int .i64 (n : Int), .int .i64 (h : Int), .int .i64 (t : Int), .bool ph] 30)) #[.int .i64 0, .int .i64 0, .int .i64 0, .bool false] 30 (qf 0 0 0 false) (fun i hi => by match i, hi with | 0, _ => rfl | 1, _ => rfl | 2, _ => rfl | 3, _ => rfl); simpa using this)
  have HB := Lib.hid (show Below w.heap.size w W by rw [hW]; exact ((Below.refl _ _).alloc (Nat.le_refl _) _).alloc (by simp) _)
  clear hW
  have hq0 : ∀ p : InC (Below W.heap.size W), p.w.cell? ⟨w.heap.size, 0, none⟩ = some (.int .i64 n) := fun p => (p.ok.cell (hlw)).trans (q0)
  have hq1 : ∀ p : InC (Below W.heap.size W), p.w.cell? ⟨w.heap.size, 1, none⟩ = some (.int .i64 h) := fun p => (p.ok.cell (hlw)).trans (q1)
  have hq2 : ∀ p : InC (Below W.heap.size W), p.w.cell? ⟨w.heap.size, 2, none⟩ = some (.int .i64 t) := fun p => (p.ok.cell (hlw)).trans (q2)
  have hq3 : ∀ p : InC (Below W.heap.size W), p.w.cell? ⟨w.heap.size, 3, none⟩ = some (.bool ph) := fun p => (p.ok.cell (hlw)).trans (q3)
  have HE : Hid (∀ p : InC (Below W.heap.size W), Calls Try.prog 51 #[.agg #[.int .i64 n, .int .i64 h, .int .i64 t, .bool ph], .int .i64 k] p.w fun e w' => e = .returned (.bool true) ∧ Below W.heap.size W w') :=
    Lib.hid fun p => (rslot_yes n k h t ph p.w hk).mono fun e w' k => ⟨k.1, p.ok.trans (k.2.mono p.ok.size)⟩
  have HE2 : Hid (∀ p : InC (Below W.heap.size W), Calls Try.prog 52 #[.int .i64 n, .int .i64 h, .int .i64 k] p.w fun e w' => e = .returned (.int .i64 v) ∧ Below W.heap.size W w') :=
    Lib.hid fun p => (HCV.out p.w).mono fun e w' k => ⟨k.1, p.ok.trans (k.2.mono p.ok.size)⟩
  have HE3 : Hid (∀ p : InC (Below W.heap.size W), Calls Try.prog 21 #[.agg #[.int .i64 n, .int .i64 h, .int .i64 t, .bool ph]] p.w fun e w' => e = .returned (.int .i64 u) ∧ Below W.heap.size W w') :=
    Lib.hid fun p => (HCU.out p.w).mono fun e w' k => ⟨k.1, p.ok.trans (k.2.mono p.ok.size)⟩
  have hNE : Nonempty (InC (Below W.heap.size W)) := ⟨⟨W, Below.refl _ _⟩⟩
  clear q0 q1 q2 q3
  refine wp_quiet_in (Below W.heap.size W) (Below.refl _ _).drew (by kernel_rfl) (by kernel_rfl) ?_
  repeat (go_big_quiet_step (first | (with_reducible exact calls_in (HE.out _)) | (with_reducible exact calls_in (HE2.out _)) | (with_reducible exact calls_in (HE3.out _))))
  refine wpQuiet_nil ?_
  intro _ hw'
  obtain ⟨p, hw''⟩ := hw'
  subst hw''
  have HQ4 := Lib.hid (World.rowIs.of_block HQ.out (p.ok.block _ (by omega)))
  have HR4 := Lib.hid (World.rowIs.of_block HR.out (p.ok.block _ (by omega)))
  have HP := Lib.hid (HB.out.trans (p.ok.mono (by omega)))
  generalize p.w = W4 at *
  clear hq0 hq1 hq2 hq3 hNE HE HE2 HE3
  have q0 : W4.cell? ⟨w.heap.size, 0, none⟩ = some (.int .i64 n) := World.rowIs.cell HQ4.out (i := 0) (by omega)
  have f0 := World.rowIs.frozen HQ4.out 0
  have q1 : W4.cell? ⟨w.heap.size, 1, none⟩ = some (.int .i64 h) := World.rowIs.cell HQ4.out (i := 1) (by omega)
  have f1 := World.rowIs.frozen HQ4.out 1
  have q2 : W4.cell? ⟨w.heap.size, 2, none⟩ = some (.int .i64 t) := World.rowIs.cell HQ4.out (i := 2) (by omega)
  have f2 := World.rowIs.frozen HQ4.out 2
  have q3 : W4.cell? ⟨w.heap.size, 3, none⟩ = some (.bool ph) := World.rowIs.cell HQ4.out (i := 3) (by omega)
  have f3 := World.rowIs.frozen HQ4.out 3
  have r0 : W4.cell? ⟨w.heap.size + 1, 0, none⟩ = some (.int .i64 0) := World.rowIs.cell HR4.out (i := 0) (by omega)
  have z0 := World.rowIs.frozen HR4.out 0
  have r1 : W4.cell? ⟨w.heap.size + 1, 1, none⟩ = some (.int .i64 0) := World.rowIs.cell HR4.out (i := 1) (by omega)
  have z1 := World.rowIs.frozen HR4.out 1
  have r2 : W4.cell? ⟨w.heap.size + 1, 2, none⟩ = some (.int .i64 0) := World.rowIs.cell HR4.out (i := 2) (by omega)
  have z2 := World.rowIs.frozen HR4.out 2
  have r3 : W4.cell? ⟨w.heap.size + 1, 3, none⟩ = some (.bool false) := World.rowIs.cell HR4.out (i := 3) (by omega)
  have z3 := World.rowIs.frozen HR4.out 3
  go_wp2_with fail
  refine bodyPost_ret (v := .tuple #[.agg #[.int .i64 n, .int .i64 h, .int .i64 k, .bool ph], .int .i64 0]) (by simp [results, Try.results17, go_sem, r0, r1, r2, r3]) rfl ⟨rfl, ?_⟩
  repeat (refine bset ?_ _ _ (by omega) _)
  exact HP.out

set_option maxRecDepth 100000 in
set_option maxHeartbeats 2000000 in
theorem rNext_none (n h t : Nat) (ph : Bool) (w : World) (hn : 2 ≤ n) (hn' : n ≤ 4096) (hh : h < n) (ht : t < n) (he : h = t) :
    Calls Try.prog 16 #[.agg #[.int .i64 n, .int .i64 h, .int .i64 t, .bool ph]] w fun e w' => e = .returned (.tuple #[.agg #[.int .i64 n, .int .i64 h, .int .i64 t, .bool ph], .int .i64 0, .int .i64 9]) ∧ Below w.heap.size w w' := by
  subst he
  have d1 : ((h : Int) == (h : Int)) = true := by simp
  go_enter Try.func16, Try.ntmps16
  go_wp2_with fail
  refine bodyPost_ret (v := .tuple #[.agg #[.int .i64 n, .int .i64 h, .int .i64 h, .bool ph], .int .i64 0, .int .i64 9]) (by simp [results, Try.results16, go_sem]) rfl ⟨rfl, ?_⟩
  exact ((Below.refl _ _).alloc (Nat.le_refl _) _).alloc (by simp) _

set_option maxRecDepth 100000 in
set_option maxHeartbeats 2000000 in
theorem rNext_ok (n h t : Nat) (ph : Bool) (w : World) (hn : 2 ≤ n) (hn' : n ≤ 4096) (hh : h < n) (ht : t < n) (he : h ≠ t) :
    Calls Try.prog 16 #[.agg #[.int .i64 n, .int .i64 h, .int .i64 t, .bool ph]] w fun e w' => e = .returned (.tuple #[.agg #[.int .i64 n, .int .i64 (nxt n h : Nat), .int .i64 t, .bool ph], .int .i64 h, .int .i64 0]) ∧ Below w.heap.size w w' := by
  have d1 : ((h : Int) == (t : Int)) = false := by simp; omega
  have HE := Lib.hid (show ((h : Int) + 1) % (n : Int) = ((nxt n h : Nat) : Int) by unfold nxt; push_cast; rfl)
  go_enter Try.func16, Try.ntmps16
  go_wp2_with fail
  refine bodyPost_ret (v := .tuple #[.agg #[.int .i64 n, .int .i64 (nxt n h : Nat), .int .i64 t, .bool ph], .int .i64 h, .int .i64 0]) (by rw [← HE.out]; simp [results, Try.results16, go_sem]) rfl ⟨rfl, ?_⟩
  exact ((Below.refl _ _).alloc (Nat.le_refl _) _).alloc (by simp) _

end Go.Proofs.Ytpoeepdpoblfcaa
