/- completion: Retry, Kind, Good; the reference's. -/
import Derived.Test.YtiinjjfggmmkmaaSt
namespace Go.Proofs.Ytiinjjfggmmkmaa
set_option linter.unusedVariables false
set_option linter.unusedSimpArgs false
open Go.RowKit

theorem rowU16 (w : World) (c : Array Value) (t : TypeId) (n : Nat) (f : Nat → Int) (h : c = arr n fun i => .int .u16 (f i)) : ∀ i, i < n → (w.alloc (.cells c t)).cell? ⟨w.heap.size, i, none⟩ = some (.int .u16 (f i)) := fun i hi => (row_lit w c t n (fun i => .int .u16 (f i)) h).cell hi
theorem sizeSt : (Try.prog.info? 24).map (·.size) = some 4 := by kernel_rfl
set_option maxHeartbeats 2000000 in
theorem good_any (s : Sta) (h : s.Ok) (w : World) : Calls Try.prog 28 #[.agg s.cells] w fun e w' => e = .returned (.bool (decide (s.no = 0))) ∧ Below w.heap.size w w' := by
  have HI := Lib.hid (show ∀ g W, (∀ i, i < 1 → W.cell? ⟨g, i, none⟩ = some (.int .u16 ((fun _ => (0 : Int)) i))) → Calls Try.prog 40 #[.agg s.cells, .slice (some ⟨g, 0, none⟩) 1 1] W fun e w' => e = .returned (.bool (decide (s.no = 0))) ∧ Below W.heap.size W w' from fun g W hc => by
    have h := is_any s h g 1 1 (fun _ => 0) W (by omega) hc
    have e : memIn 1 (fun _ => 0) s.no = decide (s.no = 0) := by
      by_cases e0 : s.no = 0
      · unfold memIn
        rw [show ixIn 1 (fun _ => 0) s.no = ((0 : Nat) : Int) from ixIn_some (n := 1) (f := fun _ => (0 : Int)) (i := 0) (by omega) (fun j hj => by omega) e0.symm, decide_eq_true e0]
        rfl
      · unfold memIn
        rw [show ixIn 1 (fun _ => 0) s.no = -1 from ixIn_none (n := 1) (f := fun _ => (0 : Int)) (fun j _ e => e0 e.symm), decide_eq_false e0]
        rfl
    rw [e] at h
    exact h)
  obtain ⟨m, hm⟩ : ∃ m, m = decide (s.no = 0) := ⟨_, rfl⟩
  rw [← hm] at HI ⊢
  unfold Sta.cells at HI ⊢
  have hW : ∀ i, i < 1 → ((w.alloc (.cells #[.int .u8 s.ty, .int .u8 s.code, .bool s.more, .bool s.never] 24)).alloc (.cells #[.int .u16 0] 26)).cell? ⟨w.heap.size + 1, i, none⟩ = some (.int .u16 ((fun _ => (0 : Int)) i)) := fun i hi => by
    have h := rowU16 (w.alloc (.cells #[.int .u8 s.ty, .int .u8 s.code, .bool s.more, .bool s.never] 24)) #[.int .u16 0] 26 1 (fun _ => 0) rfl i hi
    rwa [World.size_alloc] at h
  have HW := Lib.hid hW
  have HB := Lib.hid (show Below w.heap.size w ((w.alloc (.cells #[.int .u8 s.ty, .int .u8 s.code, .bool s.more, .bool s.never] 24)).alloc (.cells #[.int .u16 0] 26)) from ((Below.refl _ _).alloc (Nat.le_refl _) _).alloc (by simp) _)
  clear hW hm h
  go_enter Try.func28, Try.ntmps28
  go_wp2_with fail
  refine (HI.out _ _ HW.out).mono ?_
  rintro e w2 ⟨rfl, hb⟩
  have HB2 := Lib.hid (HB.out.trans (hb.mono HB.out.size))
  clear hb
  go_wp2_with fail
  go_ret
  exact ⟨rfl, HB2.out⟩

set_option maxHeartbeats 2000000 in
theorem retry_any (s : Sta) (h : s.Ok) (w : World) : Calls Try.prog 24 #[.agg s.cells] w fun e w' => e = .returned (.bool (retryB s)) ∧ Below w.heap.size w w' := by
  have HI := Lib.hid (show ∀ g W, (∀ i, i < 8 → W.cell? ⟨g, i, none⟩ = some (.int .u16 (noL i))) → Calls Try.prog 40 #[.agg s.cells, .slice (some ⟨g, 0, none⟩) 8 8] W fun e w' => e = .returned (.bool (memIn 8 noL s.no)) ∧ Below W.heap.size W w' from fun g W hc => is_any s h g 8 8 noL W (by omega) hc)
  obtain ⟨m, hm⟩ : ∃ m, m = memIn 8 noL s.no := ⟨_, rfl⟩
  unfold retryB
  rw [← hm] at HI ⊢
  obtain ⟨ty, code, more, never⟩ := s
  unfold Sta.cells at HI ⊢
  simp only [] at HI ⊢
  have HW := Lib.hid (show ∀ i, i < 8 → ((w.alloc (.cells #[.int .u8 ty, .int .u8 code, .bool more, .bool never] 24)).alloc (.cells #[.int .u16 0, .int .u16 1, .int .u16 2, .int .u16 11, .int .u16 128, .int .u16 265, .int .u16 645, .int .u16 640] 26)).cell? ⟨w.heap.size + 1, i, none⟩ = some (.int .u16 (noL i)) from fun i hi => by
    have h := rowU16 (w.alloc (.cells #[.int .u8 ty, .int .u8 code, .bool more, .bool never] 24)) #[.int .u16 0, .int .u16 1, .int .u16 2, .int .u16 11, .int .u16 128, .int .u16 265, .int .u16 645, .int .u16 640] 26 8 noL (by kernel_rfl) i hi
    rwa [World.size_alloc] at h)
  have HB := Lib.hid (show Below w.heap.size w ((w.alloc (.cells #[.int .u8 ty, .int .u8 code, .bool more, .bool never] 24)).alloc (.cells #[.int .u16 0, .int .u16 1, .int .u16 2, .int .u16 11, .int .u16 128, .int .u16 265, .int .u16 645, .int .u16 640] 26)) from ((Below.refl _ _).alloc (Nat.le_refl _) _).alloc (by simp) _)
  clear hm h
  cases never
  · go_enter Try.func24, Try.ntmps24
    go_wp2_with fail
    refine (HI.out _ _ HW.out).mono ?_
    rintro e w2 ⟨rfl, hb⟩
    have HB2 := Lib.hid (HB.out.trans (hb.mono HB.out.size))
    clear hb
    go_wp2_with fail
    go_ret
    exact ⟨by simp, HB2.out⟩
  · go_enter Try.func24, Try.ntmps24
    go_wp2_with fail
    go_ret
    exact ⟨by simp, (Below.refl _ _).alloc (Nat.le_refl _) _⟩
set_option maxHeartbeats 4000000 in
theorem rretry_any (s : Sta) (h : s.Ok) (w : World) : Calls Try.prog 25 #[.agg s.cells] w fun e w' => e = .returned (.bool (retryB s)) ∧ Below w.heap.size w w' := by
  have HC := Lib.hid (fun W => rcode_any s h W)
  unfold retryB
  obtain ⟨k, hk⟩ : ∃ k, k = s.no := ⟨_, rfl⟩
  rw [← hk] at HC ⊢
  have hsp := noL_spec k
  have hb0 := Sta.no_bd h
  rw [← hk] at hb0
  obtain ⟨ty, code, more, never⟩ := s
  unfold Sta.cells at HC ⊢
  simp only [] at HC ⊢
  obtain ⟨m, hm⟩ : ∃ m, m = memIn 8 noL k := ⟨_, rfl⟩
  rw [← hm] at hsp ⊢
  clear hm h hk
  have HB := Lib.hid (show Below w.heap.size w (w.alloc (.cells #[.int .u8 ty, .int .u8 code, .bool more, .bool never] 24)) from (Below.refl _ _).alloc (Nat.le_refl _) _)
  have c3 : (w.alloc (.cells #[.int .u8 ty, .int .u8 code, .bool more, .bool never] 24)).cell? ⟨w.heap.size, 3, none⟩ = some (.bool never) := by go_simp
  have C3 := Lib.hid c3
  clear c3
  rcases hsp with ⟨rfl, rfl | rfl | rfl | rfl | rfl | rfl | rfl | rfl⟩ | ⟨rfl, h0, h1, h2, h3, h4, h5, h6, h7⟩
  all_goals try
    (go_enter Try.func25, Try.ntmps25
     go_wp2_with (go_at_call 12; refine (HC.out _).mono ?_; rintro e w1 ⟨rfl, hb⟩; have HB1 := Lib.hid (HB.out.trans (hb.mono HB.out.size)); clear hb)
     go_ret
     exact ⟨by simp, HB1.out⟩)
  have q0 : (k == 0) = false := by simpa using h0
  have q1 : (k == 1) = false := by simpa using h1
  have q2 : (k == 2) = false := by simpa using h2
  have q3 : (k == 11) = false := by simpa using h3
  have q4 : (k == 128) = false := by simpa using h4
  have q5 : (k == 265) = false := by simpa using h5
  have q6 : (k == 645) = false := by simpa using h6
  have q7 : (k == 640) = false := by simpa using h7
  clear h0 h1 h2 h3 h4 h5 h6 h7
  go_enter Try.func25, Try.ntmps25
  go_wp2_with (go_at_call 12; refine (HC.out _).mono ?_; rintro e w1 ⟨rfl, hb⟩; have HB1 := Lib.hid (HB.out.trans (hb.mono HB.out.size)); have c4 := (hb.cell (World.block_lt_of_cell? _ _ C3.out)).trans C3.out; clear hb)
  go_ret
  exact ⟨by simp, HB1.out⟩

/-- the class of a status -/
def kindN (s : Sta) : Int := if s.no = 0 then 0 else if s.ty = 1 then 2 else if s.ty = 2 then 3 else if s.ty = 3 then 4 else 1
set_option maxHeartbeats 4000000 in
theorem kind_any (s : Sta) (h : s.Ok) (w : World) : Calls Try.prog 26 #[.agg s.cells] w fun e w' => e = .returned (.int .i64 (kindN s)) ∧ Below w.heap.size w w' := by
  have HG := Lib.hid (fun W => good_any s h W)
  unfold kindN
  obtain ⟨k, hk⟩ : ∃ k, k = s.no := ⟨_, rfl⟩
  rw [← hk] at HG ⊢
  obtain ⟨ty, code, more, never⟩ := s
  unfold Sta.cells at HG ⊢
  simp only [] at HG ⊢
  have HB := Lib.hid (show Below w.heap.size w (w.alloc (.cells #[.int .u8 ty, .int .u8 code, .bool more, .bool never] 24)) from (Below.refl _ _).alloc (Nat.le_refl _) _)
  have c0 : (w.alloc (.cells #[.int .u8 ty, .int .u8 code, .bool more, .bool never] 24)).cell? ⟨w.heap.size, 0, none⟩ = some (.int .u8 ty) := by go_simp
  have C0 := Lib.hid c0
  clear c0 h hk
  by_cases hk0 : k = 0
  · rw [if_pos hk0]
    rw [decide_eq_true hk0] at HG
    clear hk0
    go_enter Try.func26, Try.ntmps26
    go_wp2_with (go_at_call 28; refine (HG.out _).mono ?_; rintro e w1 ⟨rfl, hb⟩; have HB1 := Lib.hid (HB.out.trans (hb.mono HB.out.size)); clear hb)
    go_ret
    exact ⟨rfl, HB1.out⟩
  · rw [if_neg hk0]
    rw [decide_eq_false hk0] at HG
    clear hk0
    by_cases h1 : ty = 1
    · subst h1
      rw [if_pos rfl]
      go_enter Try.func26, Try.ntmps26
      go_wp2_with (go_at_call 28; refine (HG.out _).mono ?_; rintro e w1 ⟨rfl, hb⟩; have HB1 := Lib.hid (HB.out.trans (hb.mono HB.out.size)); have c4 := (hb.cell (World.block_lt_of_cell? _ _ C0.out)).trans C0.out; clear hb)
      go_ret
      exact ⟨rfl, HB1.out⟩
    · rw [if_neg h1]
      have q1 : (ty == 1) = false := by simpa using h1
      clear h1
      by_cases h2 : ty = 2
      · subst h2
        rw [if_pos rfl]
        clear q1
        go_enter Try.func26, Try.ntmps26
        go_wp2_with (go_at_call 28; refine (HG.out _).mono ?_; rintro e w1 ⟨rfl, hb⟩; have HB1 := Lib.hid (HB.out.trans (hb.mono HB.out.size)); have c4 := (hb.cell (World.block_lt_of_cell? _ _ C0.out)).trans C0.out; clear hb)
        go_ret
        exact ⟨rfl, HB1.out⟩
      · rw [if_neg h2]
        have q2 : (ty == 2) = false := by simpa using h2
        clear h2
        by_cases h3 : ty = 3
        · subst h3
          rw [if_pos rfl]
          clear q1 q2
          go_enter Try.func26, Try.ntmps26
          go_wp2_with (go_at_call 28; refine (HG.out _).mono ?_; rintro e w1 ⟨rfl, hb⟩; have HB1 := Lib.hid (HB.out.trans (hb.mono HB.out.size)); have c4 := (hb.cell (World.block_lt_of_cell? _ _ C0.out)).trans C0.out; clear hb)
          go_ret
          exact ⟨rfl, HB1.out⟩
        · rw [if_neg h3]
          have q3 : (ty == 3) = false := by simpa using h3
          clear h3
          go_enter Try.func26, Try.ntmps26
          go_wp2_with (go_at_call 28; refine (HG.out _).mono ?_; rintro e w1 ⟨rfl, hb⟩; have HB1 := Lib.hid (HB.out.trans (hb.mono HB.out.size)); have c4 := (hb.cell (World.block_lt_of_cell? _ _ C0.out)).trans C0.out; clear hb)
          go_ret
          exact ⟨rfl, HB1.out⟩
set_option maxHeartbeats 4000000 in
theorem rkind_any (s : Sta) (h : s.Ok) (w : World) : Calls Try.prog 27 #[.agg s.cells] w fun e w' => e = .returned (.int .i64 (kindN s)) ∧ Below w.heap.size w w' := by
  unfold kindN
  have h0 : (s.no = 0) ↔ (s.ty = 0 ∧ s.code = 0) := by
    have h1 := h.ty
    have h2 := h.code
    unfold Sta.no
    omega
  obtain ⟨ty, code, more, never⟩ := s
  obtain ⟨t0, t1⟩ := h.ty
  unfold Sta.cells
  simp only [] at h0 t0 t1 ⊢
  generalize Sta.no { ty := ty, code := code, more := more, never := never } = k at *
  have HB := Lib.hid (show Below w.heap.size w (w.alloc (.cells #[.int .u8 ty, .int .u8 code, .bool more, .bool never] 24)) from (Below.refl _ _).alloc (Nat.le_refl _) _)
  have e1 : IntKind.i64.wrap ty = ty := IntWalk.i64_in _ (by omega)
  have e2 : IntKind.i64.wrap (ty + 1) = ty + 1 := IntWalk.i64_in _ (by omega)
  clear h
  by_cases hk0 : k = 0
  · obtain ⟨rfl, rfl⟩ := h0.1 hk0
    rw [if_pos hk0]
    clear h0 hk0 e1 e2
    go_enter Try.func27, Try.ntmps27
    go_wp2_with fail
    go_ret
    exact ⟨rfl, HB.out⟩
  · rw [if_neg hk0]
    have hn : ¬ (ty = 0 ∧ code = 0) := fun e => hk0 (h0.2 e)
    clear hk0 h0
    by_cases ht : ty = 0
    · have hc : code ≠ 0 := fun e => hn ⟨ht, e⟩
      subst ht
      have q1 : (code == 0) = false := by simpa using hc
      clear hn hc e1 e2
      go_enter Try.func27, Try.ntmps27
      go_wp2_with fail
      go_ret
      exact ⟨rfl, HB.out⟩
    · have q0 : (ty == 0) = false := by simpa using ht
      have HT := Lib.hid ht
      clear hn ht
      by_cases h4 : ty ≤ 3
      · have q1 : decide (1 ≤ ty) = true := decide_eq_true (by have := HT.out; omega)
        have q2 : decide (ty ≤ 3) = true := decide_eq_true h4
        have HV := Lib.hid (show (if ty = 1 then (2 : Int) else if ty = 2 then 3 else if ty = 3 then 4 else 1) = ty + 1 by have := HT.out; split; omega; split; omega; split <;> omega)
        rw [HV.out]
        clear h4
        go_enter Try.func27, Try.ntmps27
        go_wp2_with fail
        go_ret
        exact ⟨rfl, HB.out⟩
      · have q1 : decide (1 ≤ ty) = true := decide_eq_true (by omega)
        have q2 : decide (ty ≤ 3) = false := decide_eq_false h4
        rw [if_neg (by omega), if_neg (by omega), if_neg (by omega)]
        clear h4
        go_enter Try.func27, Try.ntmps27
        go_wp2_with fail
        go_ret
        exact ⟨rfl, HB.out⟩
end Go.Proofs.Ytiinjjfggmmkmaa
