/- completion: the laws CompletionNames, CompletionMakes, CompletionClasses. -/
import Derived.Test.YtiinjjfggmmkmaaKn
import Derived.Test.YtiinjjfggmmkmaaTypes
namespace Go.Proofs.Ytiinjjfggmmkmaa
set_option linter.unusedVariables false
set_option linter.unusedSimpArgs false
open Go.RowKit

set_option maxRecDepth 100000 in
set_option maxHeartbeats 4000000 in
theorem namesLaw (k : Int) (s : ByteArray) (w : World) (hk : (Lit.int .u16 k).wf = true) (hs : s.size ≤ maxLen) :
    Calls Try.prog 6 #[.int .u16 k, .string s] w fun e w' => e = .returned (.bool true) ∧ Below w.heap.size w w' := by
  obtain ⟨k0, k1⟩ := wf_u16 hk
  unfold maxLen at hs
  have HKN := Lib.hid known_any
  have HF := Lib.hid (find_any s)
  have HRF := Lib.hid (rfind_any s)
  have HN := Lib.hid (name_any k)
  have HRN := Lib.hid (rname_any k)
  have HL := Lib.hid (listed_any k)
  have HRL := Lib.hid (rlisted_any k)
  have e1 : IntKind.i64.wrap k = k := IntWalk.i64_in _ (by omega)
  have hob : 0 ≤ opcOf s.toList ∧ opcOf s.toList ≤ 65535 := by
    unfold opcOf
    cases opcIx s.toList with
    | none => exact ⟨by decide, by decide⟩
    | some i =>
      show 0 ≤ codeAt i ∧ codeAt i ≤ 65535
      unfold codeAt
      have : ∀ x ∈ codesL, 0 ≤ x ∧ x ≤ 65535 := by decide +kernel
      by_cases hi : i < codesL.length
      · rw [List.getD_eq_getElem?_getD, List.getElem?_eq_getElem hi]
        exact this _ (List.getElem_mem hi)
      · rw [List.getD_eq_getElem?_getD, List.getElem?_eq_none (by omega)]
        exact ⟨by decide, by decide⟩
  obtain ⟨o, ho⟩ : ∃ o, o = opcOf s.toList := ⟨_, rfl⟩
  obtain ⟨er, her⟩ : ∃ o, o = opcErr s.toList := ⟨_, rfl⟩
  obtain ⟨nm, hnm⟩ : ∃ o, o = nameOf k := ⟨_, rfl⟩
  obtain ⟨lb, hlb⟩ : ∃ o, o = lstB k := ⟨_, rfl⟩
  rw [← ho] at HF HRF hob
  rw [← her] at HF HRF
  rw [← hnm] at HN HRN
  rw [← hlb] at HL HRL
  unfold strV at HN HRN
  obtain ⟨o0, o1⟩ := hob
  have e2 : IntKind.i64.wrap o = o := IntWalk.i64_in _ (by omega)
  clear hk ho her hnm hlb
  by_cases hsz : s.size ≤ 60
  · have q1 : decide (60 < s.size) = false := decide_eq_false (by omega)
    have q2 : decide ((60 : Int) < (s.size : Int)) = false := decide_eq_false (by omega)
    clear hsz
    go_enter Try.func6, Try.ntmps6
    go_wp2_with (first
      | (go_at_call 18; refine (HF.out _).mono ?_; rintro e w1 ⟨rfl, hb⟩; have B1 := Lib.hid hb; clear hb)
      | (go_at_call 19; refine (HRF.out _).mono ?_; rintro e w2 ⟨rfl, hb⟩; have B2 := Lib.hid (B1.out.trans (hb.mono B1.out.size)); clear hb)
      | (go_at_call 20; refine (HN.out _).mono ?_; rintro e w3 ⟨rfl, hb⟩; have B3 := Lib.hid (B2.out.trans (hb.mono B2.out.size)); clear hb)
      | (go_at_call 21; refine (HRN.out _).mono ?_; rintro e w4 ⟨rfl, hb⟩; have B4 := Lib.hid (B3.out.trans (hb.mono B3.out.size)); clear hb)
      | (go_at_call 22; refine (HL.out _).mono ?_; rintro e w5 ⟨rfl, hb⟩; have B5 := Lib.hid (B4.out.trans (hb.mono B4.out.size)); clear hb)
      | (go_at_call 23; refine (HRL.out _).mono ?_; rintro e w6 ⟨rfl, hb⟩; have B6 := Lib.hid (B5.out.trans (hb.mono B5.out.size)); clear hb)
      | (go_at_call 13; refine (HKN.out _).mono ?_; rintro e w7 ⟨rfl, hb⟩; have B7 := Lib.hid (B6.out.trans (hb.mono B6.out.size)); clear hb))
    go_ret
    exact ⟨rfl, B7.out⟩
  · have q1 : decide (60 < s.size) = true := decide_eq_true (by omega)
    have q2 : decide ((60 : Int) < (s.size : Int)) = true := decide_eq_true (by omega)
    clear hsz
    go_enter Try.func6, Try.ntmps6
    go_wp2_with (go_at_call 13; refine (HKN.out _).mono ?_; rintro e w7 ⟨rfl, hb⟩; have B7 := Lib.hid hb; clear hb)
    go_ret
    exact ⟨rfl, B7.out⟩

set_option maxRecDepth 100000 in
set_option maxHeartbeats 4000000 in
theorem makesLaw (k : Int) (b : Bool) (s : Sta) (w : World) (hk : (Lit.int .u16 k).wf = true) (hs : s.Ok) :
    Calls Try.prog 3 #[.int .u16 k, .bool b, .agg s.cells] w fun e w' => e = .returned (.bool true) ∧ Below w.heap.size w w' := by
  obtain ⟨k0, k1⟩ := wf_u16 hk
  have HKN := Lib.hid known_any
  have HM := Lib.hid (make_any k b k0 k1)
  have HC := Lib.hid (code_any s hs)
  have HR := Lib.hid (rcode_any s hs)
  have hb0 := Sta.no_bd hs
  have hst : s.cells.size = 4 := rfl
  obtain ⟨x, hx⟩ : ∃ x, x = s.no := ⟨_, rfl⟩
  rw [← hx] at HC HR hb0
  obtain ⟨S, hS⟩ : ∃ S, S = s.cells := ⟨_, rfl⟩
  rw [← hS] at HC HR hst ⊢
  unfold Sta.cells mkSt at HM
  simp only [] at HM
  have e1 : IntKind.i64.wrap x = x := IntWalk.i64_in _ (by omega)
  have e2 : IntKind.u8.wrap (k / 256 % 8) = k / 256 % 8 := IntWalk.u8_in _ (by omega)
  have e3 : IntKind.u8.wrap (k % 256) = k % 256 := IntWalk.u8_in _ (by omega)
  have t1 : IntKind.u16.wrap (k.tdiv 256) = k / 256 := by rw [Int.tdiv_eq_ediv_of_nonneg k0]; exact IntWalk.u16_in _ (by omega)
  have t2 : (k / 256).tmod 8 = k / 256 % 8 := IntWalk.rem_in _ _ (by omega)
  have t3 : k / 256 % 8 % 256 = k / 256 % 8 := by omega
  obtain ⟨x0, x1⟩ := hb0
  have HSS := Lib.hid (show (Try.prog.info? 24).map (·.size) = some S.size by rw [hst]; exact sizeSt)
  have AS0 := Lib.hid (show ArrAt (w.alloc (.cells S 24)) w.heap.size S from ArrAt.fresh _ _ _ (by omega))
  have B0 := Lib.hid (show Below w.heap.size w (w.alloc (.cells S 24)) from (Below.refl _ _).alloc (Nat.le_refl _) _)
  clear hk hs hx hS hst
  go_enter Try.func3, Try.ntmps3
  go_upto_region 2 with (go_at_call 10; refine (HM.out _).mono ?_; rintro e w1 ⟨rfl, hb⟩; have AS1 := Lib.hid (AS0.out.below hb); have B1 := Lib.hid (B0.out.trans (hb.mono B0.out.size)); clear hb)
  obtain ⟨W, hW⟩ : ∃ W, W = w1.alloc (.cells #[.int .u8 (k / 256 % 8), .int .u8 (k % 256), .bool false, .bool b] 24) := ⟨_, rfl⟩
  rw [← hW]
  have hbW : Below w1.heap.size w1 W := by rw [hW]; exact (Below.refl _ _).alloc (Nat.le_refl _) _
  have A7 : ArrAt W w1.heap.size #[.int .u8 (k / 256 % 8), .int .u8 (k % 256), .bool false, .bool b] := by rw [hW]; exact ArrAt.fresh _ _ _ (show 0 < 4 by omega)
  obtain ⟨b7, hb7⟩ : ∃ z, z = w1.heap.size := ⟨_, rfl⟩
  rw [← hb7] at A7 ⊢
  have AS2 := Lib.hid (AS1.out.below hbW)
  have B2 := Lib.hid (B1.out.trans (hbW.mono B1.out.size))
  have HA7 := Lib.hid A7
  have HCI := Lib.hid (show ∀ p : InC (Below W.heap.size W), Calls Try.prog 11 #[.agg S] p.w fun e w' => e = .returned (.int .u16 x) ∧ Below W.heap.size W w' from fun p => (HC.out p.w).mono fun e w' h => ⟨h.1, p.ok.trans (h.2.mono p.ok.size)⟩)
  have HRI := Lib.hid (show ∀ p : InC (Below W.heap.size W), Calls Try.prog 12 #[.agg S] p.w fun e w' => e = .returned (.int .i64 x) ∧ Below W.heap.size W w' from fun p => (HR.out p.w).mono fun e w' h => ⟨h.1, p.ok.trans (h.2.mono p.ok.size)⟩)
  have HKI := Lib.hid (show ∀ p : InC (Below W.heap.size W), Calls Try.prog 13 #[] p.w fun e w' => e = .returned (.bool true) ∧ Below W.heap.size W w' from fun p => (HKN.out p.w).mono fun e w' h => ⟨h.1, p.ok.trans (h.2.mono p.ok.size)⟩)
  have HSZ := Lib.hid sizeSt
  have hnon : Nonempty (InC (Below W.heap.size W)) := ⟨⟨W, Below.refl _ _⟩⟩
  clear hW hbW A7 hb7 AS0 AS1 B0 B1 HM
  refine wp_quiet_in (Below W.heap.size W) (Below.refl _ _).drew (by kernel_rfl) (by kernel_rfl) ?_
  repeat (first
    | ((with_reducible show wpQuiet _ _ _ _ (⟨some 11, .load _ _, _, _, _, _⟩ :: _) _); refine wpQuiet_load rfl 24 (.tmp 7) rfl (.pointer (some ⟨b7, 0, none⟩)) rfl (fun w' hp => by obtain ⟨p, rfl⟩ := hp; exact (HA7.out.below p.ok).loadAt Try.underlying24 rfl HSZ.out) ?_; simp only [Act.put, List.setIfInBounds_toArray, List.set_cons_succ, List.set_cons_zero])
    | ((with_reducible show wpQuiet _ _ _ _ (⟨some 23, .load _ _, _, _, _, _⟩ :: _) _); refine wpQuiet_load rfl 24 (.tmp 5) rfl (.pointer (some ⟨w.heap.size, 0, none⟩)) rfl (fun w' hp => by obtain ⟨p, rfl⟩ := hp; exact (AS2.out.below p.ok).loadAt Try.underlying24 rfl HSS.out) ?_; simp only [Act.put, List.setIfInBounds_toArray, List.set_cons_succ, List.set_cons_zero])
    | ((with_reducible show wpQuiet _ _ _ _ (⟨some 26, .load _ _, _, _, _, _⟩ :: _) _); refine wpQuiet_load rfl 24 (.tmp 5) rfl (.pointer (some ⟨w.heap.size, 0, none⟩)) rfl (fun w' hp => by obtain ⟨p, rfl⟩ := hp; exact (AS2.out.below p.ok).loadAt Try.underlying24 rfl HSS.out) ?_; simp only [Act.put, List.setIfInBounds_toArray, List.set_cons_succ, List.set_cons_zero])
    | (go_big_quiet_step (first | (with_reducible exact calls_in (HCI.out _)) | (with_reducible exact calls_in (HRI.out _)) | (with_reducible exact calls_in (HKI.out _)))))
  refine wpQuiet_nil ?_
  intro _ hw'
  obtain ⟨p, hw''⟩ := hw'
  subst hw''
  go_wp2_with fail
  go_ret
  exact ⟨rfl, B2.out.trans (p.ok.mono B2.out.size)⟩

set_option maxRecDepth 100000 in
set_option maxHeartbeats 4000000 in
theorem classesLaw (s : Sta) (w : World) (hs : s.Ok) :
    Calls Try.prog 7 #[.agg s.cells] w fun e w' => e = .returned (.bool true) ∧ Below w.heap.size w w' := by
  have HKN := Lib.hid known_any
  have H1 := Lib.hid (retry_any s hs)
  have H2 := Lib.hid (rretry_any s hs)
  have H3 := Lib.hid (kind_any s hs)
  have H4 := Lib.hid (rkind_any s hs)
  have H5 := Lib.hid (good_any s hs)
  obtain ⟨r, hr⟩ : ∃ r, r = retryB s := ⟨_, rfl⟩
  obtain ⟨kn, hkn⟩ : ∃ r, r = kindN s := ⟨_, rfl⟩
  rw [← hr] at H1 H2
  rw [← hkn] at H3 H4
  have hg : decide (s.no = 0) = (s.ty == 0 && s.code == 0) := by
    have h1 := hs.ty
    have h2 := hs.code
    rw [Bool.eq_iff_iff, decide_eq_true_iff, Bool.and_eq_true, beq_iff_eq, beq_iff_eq]
    unfold Sta.no
    omega
  rw [hg] at H5
  have t0 := hs.ty
  have t1 := hs.code
  obtain ⟨W, hW⟩ : ∃ W, W = w.alloc (.cells s.cells 24) := ⟨_, rfl⟩
  have AS : ArrAt W w.heap.size s.cells := by rw [hW]; exact ArrAt.fresh _ _ _ (show 0 < 4 by omega)
  have B0 := Lib.hid (show Below w.heap.size w W by rw [hW]; exact (Below.refl _ _).alloc (Nat.le_refl _) _)
  have c0 : ∀ p : InC (Below W.heap.size W), p.w.cell? ⟨w.heap.size, 0, none⟩ = some (.int .u8 s.ty) := fun p => (AS.below p.ok).cell rfl
  have c1 : ∀ p : InC (Below W.heap.size W), p.w.cell? ⟨w.heap.size, 1, none⟩ = some (.int .u8 s.code) := fun p => (AS.below p.ok).cell rfl
  obtain ⟨ty, code, more, never⟩ := s
  simp only [] at c0 c1 hW H5 t0 t1
  obtain ⟨t00, t01⟩ := t0
  obtain ⟨t10, t11⟩ := t1
  obtain ⟨S, hS⟩ : ∃ S, S = Sta.cells { ty := ty, code := code, more := more, never := never } := ⟨_, rfl⟩
  have HW := Lib.hid hW
  have HSS := Lib.hid (show (Try.prog.info? 24).map (·.size) = some S.size by rw [hS]; exact sizeSt)
  rw [← hS] at H1 H2 H3 H4 H5 AS HW ⊢
  have HA := Lib.hid AS
  have I1 := Lib.hid (show ∀ p : InC (Below W.heap.size W), Calls Try.prog 24 #[.agg S] p.w fun e w' => e = .returned (.bool r) ∧ Below W.heap.size W w' from fun p => (H1.out p.w).mono fun e w' h => ⟨h.1, p.ok.trans (h.2.mono p.ok.size)⟩)
  have I2 := Lib.hid (show ∀ p : InC (Below W.heap.size W), Calls Try.prog 25 #[.agg S] p.w fun e w' => e = .returned (.bool r) ∧ Below W.heap.size W w' from fun p => (H2.out p.w).mono fun e w' h => ⟨h.1, p.ok.trans (h.2.mono p.ok.size)⟩)
  have I3 := Lib.hid (show ∀ p : InC (Below W.heap.size W), Calls Try.prog 26 #[.agg S] p.w fun e w' => e = .returned (.int .i64 kn) ∧ Below W.heap.size W w' from fun p => (H3.out p.w).mono fun e w' h => ⟨h.1, p.ok.trans (h.2.mono p.ok.size)⟩)
  have I4 := Lib.hid (show ∀ p : InC (Below W.heap.size W), Calls Try.prog 27 #[.agg S] p.w fun e w' => e = .returned (.int .i64 kn) ∧ Below W.heap.size W w' from fun p => (H4.out p.w).mono fun e w' h => ⟨h.1, p.ok.trans (h.2.mono p.ok.size)⟩)
  have I5 := Lib.hid (show ∀ p : InC (Below W.heap.size W), Calls Try.prog 28 #[.agg S] p.w fun e w' => e = .returned (.bool (ty == 0 && code == 0)) ∧ Below W.heap.size W w' from fun p => (H5.out p.w).mono fun e w' h => ⟨h.1, p.ok.trans (h.2.mono p.ok.size)⟩)
  have HKI := Lib.hid (show ∀ p : InC (Below W.heap.size W), Calls Try.prog 13 #[] p.w fun e w' => e = .returned (.bool true) ∧ Below W.heap.size W w' from fun p => (HKN.out p.w).mono fun e w' h => ⟨h.1, p.ok.trans (h.2.mono p.ok.size)⟩)
  have hnon : Nonempty (InC (Below W.heap.size W)) := ⟨⟨W, Below.refl _ _⟩⟩
  clear hs hr hkn hg hW hS AS H1 H2 H3 H4 H5
  have hcase : (ty == 0) = true ∨ (ty == 0) = false := by cases (ty == 0) <;> simp
  rcases hcase with h0 | h0
  all_goals
    rw [h0] at I5
    simp only [Bool.true_and, Bool.false_and] at I5
    go_enter Try.func7, Try.ntmps7
    go_upto_region 1 with fail
    rw [← HW.out]
    refine wp_quiet_in (Below W.heap.size W) (Below.refl _ _).drew (by kernel_rfl) (by kernel_rfl) ?_
    repeat (first
      | ((with_reducible show wpQuiet _ _ _ _ (⟨_, .load 24 _, _, _, _, _⟩ :: _) _); refine wpQuiet_load rfl 24 (.tmp 1) rfl (.pointer (some ⟨w.heap.size, 0, none⟩)) rfl (fun w' hp => by obtain ⟨p, rfl⟩ := hp; exact (HA.out.below p.ok).loadAt Try.underlying24 rfl HSS.out) ?_; simp only [Act.put, List.setIfInBounds_toArray, List.set_cons_succ, List.set_cons_zero])
      | (go_big_quiet_step (first | (with_reducible exact calls_in (I1.out _)) | (with_reducible exact calls_in (I2.out _)) | (with_reducible exact calls_in (I3.out _)) | (with_reducible exact calls_in (I4.out _)) | (with_reducible exact calls_in (I5.out _)) | (with_reducible exact calls_in (HKI.out _)))))
    refine wpQuiet_nil ?_
    intro _ hw'
    obtain ⟨p, hw''⟩ := hw'
    subst hw''
    go_wp2_with fail
    go_ret
    exact ⟨rfl, B0.out.trans (p.ok.mono B0.out.size)⟩
end Go.Proofs.Ytiinjjfggmmkmaa
