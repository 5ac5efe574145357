/- queue: the law QueueFetches. -/
import Derived.Test.YtpoeepdpoblfcaaSeq
namespace Go.Proofs.Ytpoeepdpoblfcaa
open Go.RowKit
attribute [local go_sem ↓] Go.wp_at_zero Go.wp_at_succ

set_option maxRecDepth 100000 in
set_option maxHeartbeats 8000000 in
theorem f_bad (size : Int) (ao : Option Addr) (len cap : Nat) (w : World) (h : size < 2 ∨ 4096 < size) :
    Calls Try.prog 3 #[.int .i64 size, .slice ao len cap] w fun e w' => e = .returned (.bool true) ∧ Below w.heap.size w w' := by
  have H := Lib.hid h
  clear h
  go_enter Try.func3, Try.ntmps3
  go_wp2_with (first
    | (go_at_call 11; refine (fNew_err _ _ H.out).mono ?_; rintro e w1 ⟨rfl, rfl⟩)
    | (go_at_call 12; refine (valid_no _ _ H.out).mono ?_; rintro e w1 ⟨rfl, rfl⟩)
    | (go_at_call 13; refine (known_any _).mono ?_; rintro e w1 ⟨rfl, hb⟩; have HB := Lib.hid hb; clear hb))
  go_ret
  exact ⟨rfl, HB.out⟩

set_option maxRecDepth 100000 in
set_option maxHeartbeats 8000000 in
theorem f_long (n : Nat) (ao : Option Addr) (len cap : Nat) (w : World) (hn : 2 ≤ n) (hn' : n ≤ 4096) (hl : 100 < len) (hl2 : len ≤ 9223372036854775807) :
    Calls Try.prog 3 #[.int .i64 n, .slice ao len cap] w fun e w' => e = .returned (.bool true) ∧ Below w.heap.size w w' := by
  have d1 : decide ((100 : Int) < (len : Int)) = true := by simp; omega
  have d2 : decide (100 < len) = true := by simp; omega
  go_enter Try.func3, Try.ntmps3
  go_wp2_with (first
    | (go_at_call 11; refine (fNew_ok _ _ hn hn').mono ?_; rintro e w1 ⟨v, rfl, g, rfl, g0, hb, hq⟩; have HB1 := Lib.hid hb; clear hb)
    | (go_at_call 12; refine (valid_yes _ _ hn hn').mono ?_; rintro e w2 ⟨rfl, rfl⟩)
    | (go_at_call 13; refine (known_any _).mono ?_; rintro e w3 ⟨rfl, hb⟩; have HB := Lib.hid (HB1.out.trans (hb.mono HB1.out.size)); clear hb))
  go_ret
  exact ⟨rfl, HB.out⟩

set_option maxRecDepth 100000 in
set_option maxHeartbeats 8000000 in
theorem f_seq (n : Nat) (ao : Option Addr) (len cap : Nat) (X : Nat → ActV) (w : World) (hn : 2 ≤ n) (hn' : n ≤ 4096) (hl : len ≤ 100) (hx : ActsIn w ao len X) :
    Calls Try.prog 3 #[.int .i64 n, .slice ao len cap] w fun e w' => e = .returned (.bool true) ∧ Below w.heap.size w w' := by
  have HX := Lib.hid hx
  clear hx
  have d1 : decide ((100 : Int) < (len : Int)) = false := by simp; omega
  have d2 : decide (100 < len) = false := by simp; omega
  go_enter Try.func3, Try.ntmps3
  go_upto_region 7 with (first
    | (go_at_call 11; refine (fNew_ok _ _ hn hn').mono ?_; rintro e w1 ⟨v, rfl, g, rfl, g0, hb, hq⟩; have HB1 := Lib.hid hb; have HQ1 := Lib.hid hq; clear hb hq)
    | (go_at_call 12; refine (valid_yes _ _ hn hn').mono ?_; rintro e w2 ⟨rfl, rfl⟩)
    | (go_at_call 14; refine (rNew_ok _ _).mono ?_; rintro e w2 ⟨rfl, hb⟩; have HB2 := Lib.hid (HB1.out.trans (hb.mono HB1.out.size)); have HQ2 := Lib.hid (HQ1.out.below hb); clear hb)
    | ((with_reducible show wpList _ _ _ (⟨some 7, _, _, _, _, _⟩ :: _) _ _); refine wpList_alloc rfl 30 rfl zeroEnd ?_; rw [show (Value.agg eZero).cells = eZero from rfl])
    | ((with_reducible show wpList _ _ _ (⟨none, .store _ (.tmp 7) _, _, _, _, _⟩ :: _) _ _); refine wpList_storeA rfl (b := w2.heap.size) (A := eZero) (A' := eArr n 0 0 true) (frEnd w2) 30 (.tmp 7) (.tmp 46) rfl (by simp [Act.eval, Act.put]) (by simp [Act.eval, Act.put]; rfl) eZero_size rfl (eArr_one _ _ _ _) ?_))
  obtain ⟨W0, hW⟩ : ∃ x, x = (w2.alloc (.cells eZero 30)).setCells w2.heap.size 0 (eArr n 0 0 true).toList := ⟨_, rfl⟩
  rw [← hW]
  obtain ⟨mb, hmb⟩ : ∃ x, x = w2.heap.size := ⟨_, rfl⟩
  have hb0 : Below w2.heap.size w2 W0 := by rw [hW]; exact bstore ((Below.refl _ _).alloc (Nat.le_refl _) _) _ (Nat.le_refl _) _ _
  have I0 := Lib.hid (show SInv 93 3 w W0 g mb n 0 0 true from
    ⟨HQ2.out.below hb0, by rw [hW, hmb]; exact (frEnd w2).store _ rfl, HB2.out.trans (hb0.mono HB2.out.size), g0, by rw [hmb]; exact HB2.out.size, by have := HQ2.out.lt; omega⟩)
  rw [← hmb]
  clear hW hb0 hmb HB1 HQ1 HB2 HQ2
  go_wp2_with fail
  go_loopw [8] (fun i wr => ∃ (k h t : Nat) (ph : Bool), k ≤ len ∧ i = .int .i64 k ∧ SInv 93 3 w wr g mb n h t ph) (fun i _ => len - (intOf i).toNat)
  case atStart => exact ⟨0, 0, 0, true, Nat.zero_le _, rfl, I0.out⟩
  case round =>
    obtain ⟨k, h, t, ph, hk, rfl, hI⟩ := hrel
    have IR := Lib.hid hI
    have hh := hI.q.hh
    have ht := hI.q.ht
    have hgl := hI.q.lt
    have hml := hI.r.lt
    clear hI
    by_cases hlt : k < len
    · obtain ⟨ag, o, rfl, hact, hok⟩ := HX.out k hlt
      obtain ⟨x, hx⟩ : ∃ x, x = X k := ⟨_, rfl⟩
      rw [← hx] at hact hok
      have hagl := hact.lt
      have AR := Lib.hid (hact.below IR.out.b |> fun a => a)
      have AW := Lib.hid (hact.kept (IR.out.b.block ag hagl))
      have OK := Lib.hid hok
      have ck := AW.out.k
      have m0 : (0 : Int) ≤ (k : Int) := by omega
      have m1 : (k : Int) < (len : Int) := by omega
      clear hact hok hx AR
      by_cases h0 : x.k = 0
      · have e0 : (x.k == 0) = true := by simpa using h0
        clear h0
        go_upto_region 12 with (first
          | (go_at_call 15; refine (fNext_any _ _ _ _ _ _ _ _ IR.out.q).mono ?_; rintro e w2 ⟨rfl, hk2, hq2⟩; have M2 := Lib.hid (SMid.of IR.out hk2 hq2); clear hk2 hq2))
        have hh' := nxH_lt (t := t) hh
        obtain ⟨h', hh2⟩ : ∃ x, x = nxH n h t := ⟨_, rfl⟩
        obtain ⟨at_, hat⟩ : ∃ x, x = nxAt h t := ⟨_, rfl⟩
        obtain ⟨er, her⟩ : ∃ x, x = nxEr h t := ⟨_, rfl⟩
        have HC := Lib.hid fun w => rNext_any n h t ph w hn hn' hh ht
        rw [← hh2, ← hat, ← her] at HC
        rw [← hh2] at M2 hh'
        rw [← hat, ← her]
        clear hh2 hat her
        have HES := Lib.hid (eArr_size n h t ph)
        have HES' := Lib.hid (eArr_size n h' t ph)
        obtain ⟨dE, hdE, hdR⟩ := underEnd
        go_upto_region 13 with (first
          | ((with_reducible show wpList _ _ _ (⟨some 65, _, _, _, _, _⟩ :: _) _ _); refine wpList_loadA rfl M2.out.r 30 (.tmp 7) rfl rfl hdE hdR HES.out ?_)
          | (go_at_call 16; refine (HC.out _).mono ?_; rintro e w3 ⟨rfl, hb⟩; have M3 := Lib.hid (M2.out.below hb); clear hb)
          | ((with_reducible show wpList _ _ _ (⟨some 11, _, _, _, _, _⟩ :: _) _ _); refine wpList_alloc rfl 30 rfl zeroEnd ?_; rw [show (Value.agg eZero).cells = eZero from rfl])
          | ((with_reducible show wpList _ _ _ (⟨none, .store _ (.tmp 11) _, _, _, _, _⟩ :: _) _ _); refine wpList_storeA rfl (b := w3.heap.size) (A := eZero) (A' := eArr n h' t ph) (frEnd w3) 30 (.tmp 11) (.tmp 67) rfl (by simp [Act.eval, Act.put]) (by simp [Act.eval, Act.put]; rfl) eZero_size rfl (eArr_one _ _ _ _) ?_))
        obtain ⟨w4, hw⟩ : ∃ x, x = (w3.alloc (.cells eZero 30)).setCells w3.heap.size 0 (eArr n h' t ph).toList := ⟨_, rfl⟩
        rw [← hw]
        have A11 := Lib.hid (show ArrAt w4 w3.heap.size (eArr n h' t ph) by rw [hw]; exact (frEnd w3).store _ rfl)
        have M4 := Lib.hid (M3.out.below (show Below w3.heap.size w3 w4 by rw [hw]; exact bstore ((Below.refl _ _).alloc (Nat.le_refl _) _) _ (Nat.le_refl _) _ _))
        clear hw
        go_upto_region 14 with (first
          | ((with_reducible show wpList _ _ _ (⟨some 70, _, _, _, _, _⟩ :: _) _ _); refine wpList_loadA rfl A11.out 30 (.tmp 11) rfl rfl hdE hdR HES'.out ?_)
          | ((with_reducible show wpList _ _ _ (⟨none, .store _ (.tmp 7) _, _, _, _, _⟩ :: _) _ _); refine wpList_storeA rfl (b := mb) (A := eArr n h t ph) (A' := eArr n h' t ph) M4.out.r 30 (.tmp 7) (.tmp 70) rfl (by simp [Act.eval, Act.put]) (by simp [Act.eval, Act.put]) HES.out rfl (eArr_one _ _ _ _) ?_))
        obtain ⟨w5, hw⟩ : ∃ x, x = w4.setCells mb 0 (eArr n h' t ph).toList := ⟨_, rfl⟩
        rw [← hw]
        have I5 := Lib.hid (show SInv 93 3 w w5 g mb n h' t ph by rw [hw]; exact M4.out.set)
        clear hw
        go_upto_region 20 with (fail)
        have hlm := I5.out.r.lt
        obtain ⟨u, hu⟩ : ∃ u, u = usd n h' t := ⟨_, rfl⟩
        have HCU := Lib.hid fun w => rUsed_ok n h' t ph w hn hn' I5.out.q.hh I5.out.q.ht
        have HCW := Lib.hid fun w q => fWaiting_ok 93 3 g n h' t ph w q
        rw [← hu] at HCU HCW
        have hult : u < n := by rw [hu]; exact usd_lt I5.out.q.hh I5.out.q.ht
        clear hu
        have c0 : w5.cell? ⟨mb, 0, none⟩ = some (.int .i64 n) := I5.out.r.cell rfl
        have c1 : w5.cell? ⟨mb, 1, none⟩ = some (.int .i64 h') := I5.out.r.cell rfl
        have c2 : w5.cell? ⟨mb, 2, none⟩ = some (.int .i64 t) := I5.out.r.cell rfl
        have c3 : w5.cell? ⟨mb, 3, none⟩ = some (.bool ph) := I5.out.r.cell rfl
        have hq0 : ∀ p : InC (Below w5.heap.size w5), p.w.cell? ⟨mb, 0, none⟩ = some (.int .i64 n) := fun p => (p.ok.cell (hlm)).trans (c0)
        have hq1 : ∀ p : InC (Below w5.heap.size w5), p.w.cell? ⟨mb, 1, none⟩ = some (.int .i64 h') := fun p => (p.ok.cell (hlm)).trans (c1)
        have hq2 : ∀ p : InC (Below w5.heap.size w5), p.w.cell? ⟨mb, 2, none⟩ = some (.int .i64 t) := fun p => (p.ok.cell (hlm)).trans (c2)
        have hq3 : ∀ p : InC (Below w5.heap.size w5), p.w.cell? ⟨mb, 3, none⟩ = some (.bool ph) := fun p => (p.ok.cell (hlm)).trans (c3)
        have HE1 : Hid (∀ p : InC (Below w5.heap.size w5), Calls Try.prog 19 #[.pointer (some ⟨g, 0, none⟩)] p.w fun e w' => e = .returned (.int .i64 h') ∧ Below w5.heap.size w5 w') :=
          Lib.hid fun p => (fHead_ok 93 3 g n h' t ph p.w (I5.out.q.below p.ok)).mono fun e w' k => ⟨k.1, p.ok.trans (k.2.mono p.ok.size)⟩
        have HE2 : Hid (∀ p : InC (Below w5.heap.size w5), Calls Try.prog 20 #[.pointer (some ⟨g, 0, none⟩)] p.w fun e w' => e = .returned (.int .i64 u) ∧ Below w5.heap.size w5 w') :=
          Lib.hid fun p => (HCW.out p.w (I5.out.q.below p.ok)).mono fun e w' k => ⟨k.1, p.ok.trans (k.2.mono p.ok.size)⟩
        have HE3 : Hid (∀ p : InC (Below w5.heap.size w5), Calls Try.prog 21 #[.agg #[.int .i64 n, .int .i64 h', .int .i64 t, .bool ph]] p.w fun e w' => e = .returned (.int .i64 u) ∧ Below w5.heap.size w5 w') :=
          Lib.hid fun p => (HCU.out p.w).mono fun e w' k => ⟨k.1, p.ok.trans (k.2.mono p.ok.size)⟩
        have HE4 : Hid (∀ p : InC (Below w5.heap.size w5), Calls Try.prog 22 #[.pointer (some ⟨g, 0, none⟩)] p.w fun e w' => e = .returned (.int .i64 n) ∧ Below w5.heap.size w5 w') :=
          Lib.hid fun p => (fSize_ok 93 3 g n h' t ph p.w (I5.out.q.below p.ok)).mono fun e w' k => ⟨k.1, p.ok.trans (k.2.mono p.ok.size)⟩
        have hNE : Nonempty (InC (Below w5.heap.size w5)) := ⟨⟨w5, Below.refl _ _⟩⟩
        clear c0 c1 c2 c3
        refine wp_quiet_in (Below w5.heap.size w5) (Below.refl _ _).drew (by kernel_rfl) (by kernel_rfl) ?_
        repeat (go_big_quiet_step (first | (with_reducible exact calls_in (HE1.out _)) | (with_reducible exact calls_in (HE2.out _)) | (with_reducible exact calls_in (HE3.out _)) | (with_reducible exact calls_in (HE4.out _))))
        refine wpQuiet_nil ?_
        intro _ hw'
        obtain ⟨p, hw''⟩ := hw'
        subst hw''
        have I9 := Lib.hid (I5.out.below p.ok)
        generalize p.w = W4 at *
        clear hq0 hq1 hq2 hq3 hNE HE1 HE2 HE3 HE4
        go_wp2_with fail
        go_roundw
        case rel => exact ⟨k + 1, h', t, ph, by omega, by go_num, I9.out⟩
        case measure => simp [intOf]; omega
      · have e0 : (x.k == 0) = false := by simpa using h0
        clear h0
        go_upto_region 16 with (fail)
        have hnew := rgT_lt (h := h) (k := x.n) ht
        obtain ⟨t', hv⟩ : ∃ z, z = rgT n h t x.n := ⟨_, rfl⟩
        obtain ⟨er, her⟩ : ∃ z, z = rgEr n h t x.n := ⟨_, rfl⟩
        have HC : Hid (∀ w, Calls Try.prog 17 #[.agg (eArr n h t ph), .int .i64 x.n] w fun e w' => e = .returned (.tuple #[.agg (eArr n h t' ph), .int .i64 er]) ∧ Below w.heap.size w w') := Lib.hid fun w => by rw [hv, her]; exact rRing_any n h t ph x.n w hn hn' hh ht
        have HP : Hid (∀ w, QAt 93 3 w g n h t ph → Calls Try.prog 18 #[.pointer (some ⟨g, 0, none⟩), .int .i64 x.n] w fun e w' => e = .returned (.int .i64 er) ∧ Keeps (One g) w w' ∧ QAt 93 3 w' g n h t' ph) := Lib.hid fun w q => by rw [hv, her]; exact fRing_any _ _ _ _ _ _ _ _ _ q
        rw [← hv] at hnew
        clear hv her
        have HES := Lib.hid (eArr_size n h t ph)
        have HES' := Lib.hid (eArr_size n h t' ph)
        obtain ⟨dE, hdE, hdR⟩ := underEnd
        have hagR : ag < wr.heap.size := AW.out.lt
        go_cut [14, 15] from 79 to 89 (fun p r wc => Out1 wr (eArr n h t' ph) p wc ∧ r = .int .i64 er)
        case first =>
          refine wp_region_held_drew (S := fun w' => Below wr.heap.size wr w') (by kernel_rfl) (Below.refl _ _).drew (fun hS0 => ?_)
          refine takeD 80 (i := 0) (v := .agg (eArr n h t ph)) rfl rfl (by kernel_rfl) (by kernel_rfl) (by kernel_rfl) (fun _ _ _ h => h) (yieldsA (by rfl) 30 (.tmp 7) rfl (mb) (by first | rfl | simp [Act.eval, Act.put]) (eArr n h t ph) (fun w h => ((IR.out.r.below h).rng)) hdE hdR HES.out) (by assumption) ?_
          try simp only [Act.put, List.setIfInBounds_toArray, List.set_cons_zero, List.set_cons_succ]
          refine takeD 81 (i := 1) (v := (.slice (some ⟨ag, o, none⟩) len cap)) rfl rfl (by kernel_rfl) (by kernel_rfl) (by kernel_rfl) (fun _ _ _ h => h) (Or.inl ⟨by rfl, by (intro w' _; go_simp)⟩) (by assumption) ?_
          try simp only [Act.put, List.setIfInBounds_toArray, List.set_cons_zero, List.set_cons_succ]
          refine takeD 82 (i := 2) (v := (.int .i64 k)) rfl rfl (by kernel_rfl) (by kernel_rfl) (by kernel_rfl) (fun _ _ _ h => h) (Or.inl ⟨by rfl, by (intro w' _; go_simp)⟩) (by assumption) ?_
          try simp only [Act.put, List.setIfInBounds_toArray, List.set_cons_zero, List.set_cons_succ]
          refine takeD 83 (i := 3) (v := (.pointer (some ⟨ag, o + k * 44, none⟩))) rfl rfl (by kernel_rfl) (by kernel_rfl) (by kernel_rfl) (fun _ _ _ h => h) (Or.inl ⟨by rfl, by (intro w' _; go_simp)⟩) (by assumption) ?_
          try simp only [Act.put, List.setIfInBounds_toArray, List.set_cons_zero, List.set_cons_succ]
          refine takeD 84 (i := 4) (v := (.pointer (some ⟨ag, o + k * 44 + 1, none⟩))) rfl rfl (by kernel_rfl) (by kernel_rfl) (by kernel_rfl) (fun _ _ _ h => h) (Or.inl ⟨by rfl, by (intro w' _; go_simp)⟩) (by assumption) ?_
          try simp only [Act.put, List.setIfInBounds_toArray, List.set_cons_zero, List.set_cons_succ]
          refine takeD 85 (i := 5) (v := (.int .i64 x.n)) rfl rfl (by kernel_rfl) (by kernel_rfl) (by kernel_rfl) (fun _ _ _ h => h) (Or.inl ⟨by rfl, by (intro w' h; have h2 := ((h.cell (p := ⟨ag, o + k * 44 + 1, none⟩) hagR).trans AW.out.n); clear h; go_simp)⟩) (by assumption) ?_
          try simp only [Act.put, List.setIfInBounds_toArray, List.set_cons_zero, List.set_cons_succ]
          refine wpAnyH_ready (rs := [6, 10]) (by kernel_rfl) (by simp) (AllReadyH.cons rfl (fun K hK => ?_) (AllReadyH.cons rfl (fun K hK => ?_) AllReadyH.nil))
          · rw [if_pos (by rfl)]
            go_simp
            refine (HC.out _).mono ?_
            rintro e wc ⟨rfl, hb⟩
            have hSN : Below wr.heap.size wr wc := hS0.trans (hb.mono hS0.size)
            refine hK.out _ _ hSN (fun hS0 => ?_)
            clear hK K hb hSN
            try simp only [Act.put, List.setIfInBounds_toArray, List.set_cons_zero, List.set_cons_succ]
            refine takeD 79 (i := 7) (v := (.tuple #[.agg (eArr n h t' ph), .int .i64 er])) rfl rfl (by kernel_rfl) (by kernel_rfl) (by kernel_rfl) (fun _ _ _ h => h) (Or.inl ⟨by rfl, by (intro w' _; go_simp)⟩) (by assumption) ?_
            try simp only [Act.put, List.setIfInBounds_toArray, List.set_cons_zero, List.set_cons_succ]
            refine takeD 87 (i := 8) (v := (.agg (eArr n h t' ph))) rfl rfl (by kernel_rfl) (by kernel_rfl) (by kernel_rfl) (fun _ _ _ h => h) (Or.inl ⟨by rfl, by (intro w' _; go_simp)⟩) (by assumption) ?_
            try simp only [Act.put, List.setIfInBounds_toArray, List.set_cons_zero, List.set_cons_succ]
            refine takeD 88 (i := 9) (v := (.int .i64 er)) rfl rfl (by kernel_rfl) (by kernel_rfl) (by kernel_rfl) (fun _ _ _ h => h) (Or.inl ⟨by rfl, by (intro w' _; go_simp)⟩) (by assumption) ?_
            try simp only [Act.put, List.setIfInBounds_toArray, List.set_cons_zero, List.set_cons_succ]
            refine wpAnyH_ready (rs := [10]) (by kernel_rfl) (by simp) (AllReadyH.cons rfl (fun K hK => ?_) AllReadyH.nil)
            · rw [if_pos (by rfl)]
              refine wp_allocN 30 14 rfl rfl zeroEnd (A := eZero) rfl ?_
              obtain ⟨wca, hw⟩ : ∃ x, x = (wc).alloc (.cells eZero 30) := ⟨_, rfl⟩
              rw [← hw]
              have hb : Below (wc).heap.size (wc) wca := by rw [hw]; exact (Below.refl _ _).alloc (Nat.le_refl _) _
              have AEca := Lib.hid (show ArrAt wca (wc).heap.size eZero by rw [hw]; exact frEnd _)
              obtain ⟨bE, hbk⟩ : ∃ x, x = (wc).heap.size := ⟨_, rfl⟩
              rw [← hbk] at AEca
              have hlobE : wr.heap.size ≤ bE := by rw [hbk]; exact hS0.size
              have hhibE : bE < wca.heap.size := AEca.out.lt
              have hSN : Below wr.heap.size wr wca := hS0.trans (hb.mono hS0.size)
              rw [← hbk]
              clear hw hbk
              refine hK.out _ _ hSN (fun hS0 => ?_)
              clear hK K hb hSN
              try simp only [Act.put, List.setIfInBounds_toArray, List.set_cons_zero, List.set_cons_succ]
              have hS2 : Below wr.heap.size wr ((wca).setCells bE 0 (eArr n h t' ph).toList) := bstore hS0 _ hlobE _ _
              have AF := Lib.hid (AEca.out.store (eArr n h t' ph) rfl)
              refine wpAnyH_ready (rs := [11]) (by kernel_rfl) (by simp) (AllReadyH.cons rfl (fun K hK => ?_) AllReadyH.nil)
              rw [if_pos (by rfl)]
              refine wp_storeN 30 (.tmp 14) (.tmp 87) rfl rfl (bE) 0 (eArr n h t' ph) (by first | rfl | simp [Act.eval, Act.put]) (by first | rfl | simp [Act.eval, Act.put]) AEca.out.th (eArr_size _ _ _ _) (eArr_one _ _ _ _) ?_
              refine hK.out _ _ hS2 (fun hS0 => ?_)
              clear hK K
              try simp only [Act.put, List.setIfInBounds_toArray, List.set_cons_zero, List.set_cons_succ]
              refine takeD 15 (i := 12) (v := (.int .i64 er)) rfl rfl (by kernel_rfl) (by kernel_rfl) (by kernel_rfl) (fun _ _ _ h => h) (Or.inl ⟨by rfl, by (intro w' _; go_simp)⟩) (by assumption) ?_
              try simp only [Act.put, List.setIfInBounds_toArray, List.set_cons_zero, List.set_cons_succ]
              refine wpAnyH_done (by kernel_rfl) ?_ _
              go_wp2_with fail
              go_meet
              exact ⟨⟨bE, rfl, hlobE, AF.out, hS0⟩, rfl⟩
          · rw [if_pos (by rfl)]
            refine wp_allocN 30 14 rfl rfl zeroEnd (A := eZero) rfl ?_
            obtain ⟨wa, hw⟩ : ∃ x, x = (wr.drew).alloc (.cells eZero 30) := ⟨_, rfl⟩
            rw [← hw]
            have hb : Below (wr.drew).heap.size (wr.drew) wa := by rw [hw]; exact (Below.refl _ _).alloc (Nat.le_refl _) _
            have AEa := Lib.hid (show ArrAt wa (wr.drew).heap.size eZero by rw [hw]; exact frEnd _)
            obtain ⟨bE, hbk⟩ : ∃ x, x = (wr.drew).heap.size := ⟨_, rfl⟩
            rw [← hbk] at AEa
            have hlobE : wr.heap.size ≤ bE := by rw [hbk]; exact hS0.size
            have hhibE : bE < wa.heap.size := AEa.out.lt
            have hSN : Below wr.heap.size wr wa := hS0.trans (hb.mono hS0.size)
            rw [← hbk]
            clear hw hbk
            refine hK.out _ _ hSN (fun hS0 => ?_)
            clear hK K hb hSN
            try simp only [Act.put, List.setIfInBounds_toArray, List.set_cons_zero, List.set_cons_succ]
            refine wpAnyH_ready (rs := [6]) (by kernel_rfl) (by simp) (AllReadyH.cons rfl (fun K hK => ?_) AllReadyH.nil)
            · rw [if_pos (by rfl)]
              go_simp
              refine (HC.out _).mono ?_
              rintro e wac ⟨rfl, hb⟩
              have hSN : Below wr.heap.size wr wac := hS0.trans (hb.mono hS0.size)
              have AEac := Lib.hid (AEa.out.below hb)
              have hhibE : bE < wac.heap.size := Nat.lt_of_lt_of_le hhibE hb.size
              refine hK.out _ _ hSN (fun hS0 => ?_)
              clear hK K hb hSN
              try simp only [Act.put, List.setIfInBounds_toArray, List.set_cons_zero, List.set_cons_succ]
              refine takeD 79 (i := 7) (v := (.tuple #[.agg (eArr n h t' ph), .int .i64 er])) rfl rfl (by kernel_rfl) (by kernel_rfl) (by kernel_rfl) (fun _ _ _ h => h) (Or.inl ⟨by rfl, by (intro w' _; go_simp)⟩) (by assumption) ?_
              try simp only [Act.put, List.setIfInBounds_toArray, List.set_cons_zero, List.set_cons_succ]
              refine takeD 87 (i := 8) (v := (.agg (eArr n h t' ph))) rfl rfl (by kernel_rfl) (by kernel_rfl) (by kernel_rfl) (fun _ _ _ h => h) (Or.inl ⟨by rfl, by (intro w' _; go_simp)⟩) (by assumption) ?_
              try simp only [Act.put, List.setIfInBounds_toArray, List.set_cons_zero, List.set_cons_succ]
              refine takeD 88 (i := 9) (v := (.int .i64 er)) rfl rfl (by kernel_rfl) (by kernel_rfl) (by kernel_rfl) (fun _ _ _ h => h) (Or.inl ⟨by rfl, by (intro w' _; go_simp)⟩) (by assumption) ?_
              try simp only [Act.put, List.setIfInBounds_toArray, List.set_cons_zero, List.set_cons_succ]
              have hS2 : Below wr.heap.size wr ((wac).setCells bE 0 (eArr n h t' ph).toList) := bstore hS0 _ hlobE _ _
              have AF := Lib.hid (AEac.out.store (eArr n h t' ph) rfl)
              refine wpAnyH_ready (rs := [11]) (by kernel_rfl) (by simp) (AllReadyH.cons rfl (fun K hK => ?_) AllReadyH.nil)
              rw [if_pos (by rfl)]
              refine wp_storeN 30 (.tmp 14) (.tmp 87) rfl rfl (bE) 0 (eArr n h t' ph) (by first | rfl | simp [Act.eval, Act.put]) (by first | rfl | simp [Act.eval, Act.put]) AEac.out.th (eArr_size _ _ _ _) (eArr_one _ _ _ _) ?_
              refine hK.out _ _ hS2 (fun hS0 => ?_)
              clear hK K
              try simp only [Act.put, List.setIfInBounds_toArray, List.set_cons_zero, List.set_cons_succ]
              refine takeD 15 (i := 12) (v := (.int .i64 er)) rfl rfl (by kernel_rfl) (by kernel_rfl) (by kernel_rfl) (fun _ _ _ h => h) (Or.inl ⟨by rfl, by (intro w' _; go_simp)⟩) (by assumption) ?_
              try simp only [Act.put, List.setIfInBounds_toArray, List.set_cons_zero, List.set_cons_succ]
              refine wpAnyH_done (by kernel_rfl) ?_ _
              go_wp2_with fail
              go_meet
              exact ⟨⟨bE, rfl, hlobE, AF.out, hS0⟩, rfl⟩
        case rest =>
          obtain ⟨⟨bE, rfl, hlo, ha, hb⟩, rfl⟩ := hcut
          have AE := Lib.hid ha
          have I3 := Lib.hid (IR.out.below hb)
          have AW3 := Lib.hid (AW.out.below hb)
          have hne : bE ≠ mb := by omega
          clear ha hb
          go_upto_region 18 with (first
            | ((with_reducible show wpList _ _ _ (⟨some _, .load 30 _, _, _, _, _⟩ :: _) _ _); refine wpList_loadA rfl AE.out 30 (.tmp 14) rfl rfl hdE hdR HES'.out ?_)
            | ((with_reducible show wpList _ _ _ (⟨none, .store _ (.tmp 7) _, _, _, _, _⟩ :: _) _ _); refine wpList_storeA rfl (b := mb) (A := eArr n h t ph) (A' := eArr n h t' ph) I3.out.r 30 (.tmp 7) _ rfl rfl (by simp [Act.eval, Act.put]) HES.out rfl (eArr_one _ _ _ _) ?_))
          obtain ⟨w5, hw⟩ : ∃ x, x = wc.setCells mb 0 (eArr n h t' ph).toList := ⟨_, rfl⟩
          rw [← hw]
          have M5 := Lib.hid (show SMid 93 3 w w5 g mb n h t' h t ph ph by rw [hw]; exact SMid.ofRef I3.out _ _ _)
          have AW5 := Lib.hid (show ActIn w5 ag (o + k * 44) x by rw [hw]; exact AW3.out.kept ((Keeps.setCells _ (Keeps.refl (One mb) wc) 0).block _ AW3.out.lt (fun e => by have e : ag = mb := e; have := IR.out.m0; omega)))
          have cn := AW5.out.n
          clear hw
          go_upto_region 20 with (go_at_call 18; refine (HP.out _ M5.out.q).mono ?_; rintro e w7 ⟨rfl, hk7, hq7⟩; have I7 := Lib.hid (M5.out.done hk7 hq7); clear hk7 hq7)
          have hlm := I7.out.r.lt
          obtain ⟨u, hu⟩ : ∃ u, u = usd n h t' := ⟨_, rfl⟩
          have HCU := Lib.hid fun w => rUsed_ok n h t' ph w hn hn' I7.out.q.hh I7.out.q.ht
          have HCW := Lib.hid fun w q => fWaiting_ok 93 3 g n h t' ph w q
          rw [← hu] at HCU HCW
          have hult : u < n := by rw [hu]; exact usd_lt I7.out.q.hh I7.out.q.ht
          clear hu
          have c0 : w7.cell? ⟨mb, 0, none⟩ = some (.int .i64 n) := I7.out.r.cell rfl
          have c1 : w7.cell? ⟨mb, 1, none⟩ = some (.int .i64 h) := I7.out.r.cell rfl
          have c2 : w7.cell? ⟨mb, 2, none⟩ = some (.int .i64 t') := I7.out.r.cell rfl
          have c3 : w7.cell? ⟨mb, 3, none⟩ = some (.bool ph) := I7.out.r.cell rfl
          have hq0 : ∀ p : InC (Below w7.heap.size w7), p.w.cell? ⟨mb, 0, none⟩ = some (.int .i64 n) := fun p => (p.ok.cell (hlm)).trans (c0)
          have hq1 : ∀ p : InC (Below w7.heap.size w7), p.w.cell? ⟨mb, 1, none⟩ = some (.int .i64 h) := fun p => (p.ok.cell (hlm)).trans (c1)
          have hq2 : ∀ p : InC (Below w7.heap.size w7), p.w.cell? ⟨mb, 2, none⟩ = some (.int .i64 t') := fun p => (p.ok.cell (hlm)).trans (c2)
          have hq3 : ∀ p : InC (Below w7.heap.size w7), p.w.cell? ⟨mb, 3, none⟩ = some (.bool ph) := fun p => (p.ok.cell (hlm)).trans (c3)
          have HE1 : Hid (∀ p : InC (Below w7.heap.size w7), Calls Try.prog 19 #[.pointer (some ⟨g, 0, none⟩)] p.w fun e w' => e = .returned (.int .i64 h) ∧ Below w7.heap.size w7 w') :=
            Lib.hid fun p => (fHead_ok 93 3 g n h t' ph p.w (I7.out.q.below p.ok)).mono fun e w' k => ⟨k.1, p.ok.trans (k.2.mono p.ok.size)⟩
          have HE2 : Hid (∀ p : InC (Below w7.heap.size w7), Calls Try.prog 20 #[.pointer (some ⟨g, 0, none⟩)] p.w fun e w' => e = .returned (.int .i64 u) ∧ Below w7.heap.size w7 w') :=
            Lib.hid fun p => (HCW.out p.w (I7.out.q.below p.ok)).mono fun e w' k => ⟨k.1, p.ok.trans (k.2.mono p.ok.size)⟩
          have HE3 : Hid (∀ p : InC (Below w7.heap.size w7), Calls Try.prog 21 #[.agg #[.int .i64 n, .int .i64 h, .int .i64 t', .bool ph]] p.w fun e w' => e = .returned (.int .i64 u) ∧ Below w7.heap.size w7 w') :=
            Lib.hid fun p => (HCU.out p.w).mono fun e w' k => ⟨k.1, p.ok.trans (k.2.mono p.ok.size)⟩
          have HE4 : Hid (∀ p : InC (Below w7.heap.size w7), Calls Try.prog 22 #[.pointer (some ⟨g, 0, none⟩)] p.w fun e w' => e = .returned (.int .i64 n) ∧ Below w7.heap.size w7 w') :=
            Lib.hid fun p => (fSize_ok 93 3 g n h t' ph p.w (I7.out.q.below p.ok)).mono fun e w' k => ⟨k.1, p.ok.trans (k.2.mono p.ok.size)⟩
          have hNE : Nonempty (InC (Below w7.heap.size w7)) := ⟨⟨w7, Below.refl _ _⟩⟩
          clear c0 c1 c2 c3
          refine wp_quiet_in (Below w7.heap.size w7) (Below.refl _ _).drew (by kernel_rfl) (by kernel_rfl) ?_
          repeat (go_big_quiet_step (first | (with_reducible exact calls_in (HE1.out _)) | (with_reducible exact calls_in (HE2.out _)) | (with_reducible exact calls_in (HE3.out _)) | (with_reducible exact calls_in (HE4.out _))))
          refine wpQuiet_nil ?_
          intro _ hw'
          obtain ⟨p, hw''⟩ := hw'
          subst hw''
          have I9 := Lib.hid (I7.out.below p.ok)
          generalize p.w = W4 at *
          clear hq0 hq1 hq2 hq3 hNE HE1 HE2 HE3 HE4
          go_wp2_with fail
          go_roundw
          case rel => exact ⟨k + 1, h, t', ph, by omega, by go_num, I9.out⟩
          case measure => simp [intOf]; omega
    · obtain rfl : k = len := by omega
      go_wp2_with (go_at_call 13; refine (known_any _).mono ?_; rintro e w9 ⟨rfl, hb⟩; have HB := Lib.hid (IR.out.b.trans (hb.mono IR.out.b.size)); clear hb)
      go_ret
      exact ⟨rfl, HB.out⟩

theorem f_any (size : Int) (ao : Option Addr) (len cap : Nat) (X : Nat → ActV) (w : World) (_h1 : (Lit.int .i64 size).wf = true) (h2 : ActsIn w ao len X ∧ len ≤ maxLen) :
    Calls Try.prog 3 #[.int .i64 size, .slice ao len cap] w fun e w' => e = .returned (.bool true) ∧ Below w.heap.size w w' := by
  by_cases h : 2 ≤ size ∧ size ≤ 4096
  · obtain ⟨n, rfl⟩ := Int.eq_ofNat_of_zero_le (show 0 ≤ size by omega)
    by_cases hl : len ≤ 100
    · exact f_seq n ao len cap X w (by omega) (by omega) hl h2.1
    · exact f_long n ao len cap w (by omega) (by omega) (by omega) (Nat.le_trans h2.2 (by decide))
  · exact f_bad size ao len cap w (by omega)

end Go.Proofs.Ytpoeepdpoblfcaa
