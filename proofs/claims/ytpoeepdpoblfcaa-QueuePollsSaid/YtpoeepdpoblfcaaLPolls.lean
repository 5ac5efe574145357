/- queue: the law QueuePolls. -/
import Derived.Test.YtpoeepdpoblfcaaSeq
namespace Go.Proofs.Ytpoeepdpoblfcaa
open Go.RowKit
attribute [local go_sem ↓] Go.wp_at_zero Go.wp_at_succ

set_option maxRecDepth 100000 in
set_option maxHeartbeats 8000000 in
theorem l_bad (size : Int) (ao : Option Addr) (len cap : Nat) (w : World) (h : size < 2 ∨ 4096 < size) :
    Calls Try.prog 4 #[.int .i64 size, .slice ao len cap] w fun e w' => e = .returned (.bool true) ∧ Below w.heap.size w w' := by
  have H := Lib.hid h
  clear h
  go_enter Try.func4, Try.ntmps4
  go_wp2_with (first
    | (go_at_call 23; refine (lNew_err _ _ H.out).mono ?_; rintro e w1 ⟨rfl, rfl⟩)
    | (go_at_call 12; refine (valid_no _ _ H.out).mono ?_; rintro e w1 ⟨rfl, rfl⟩)
    | (go_at_call 13; refine (known_any _).mono ?_; rintro e w1 ⟨rfl, hb⟩; have HB := Lib.hid hb; clear hb))
  go_ret
  exact ⟨rfl, HB.out⟩

set_option maxRecDepth 100000 in
set_option maxHeartbeats 8000000 in
theorem l_long (n : Nat) (ao : Option Addr) (len cap : Nat) (w : World) (hn : 2 ≤ n) (hn' : n ≤ 4096) (hl : 100 < len) (hl2 : len ≤ 9223372036854775807) :
    Calls Try.prog 4 #[.int .i64 n, .slice ao len cap] w fun e w' => e = .returned (.bool true) ∧ Below w.heap.size w w' := by
  have d1 : decide ((100 : Int) < (len : Int)) = true := by simp; omega
  have d2 : decide (100 < len) = true := by simp; omega
  go_enter Try.func4, Try.ntmps4
  go_wp2_with (first
    | (go_at_call 23; refine (lNew_ok _ _ hn hn').mono ?_; rintro e w1 ⟨v, rfl, g, rfl, g0, hb, hq⟩; have HB1 := Lib.hid hb; clear hb)
    | (go_at_call 12; refine (valid_yes _ _ hn hn').mono ?_; rintro e w2 ⟨rfl, rfl⟩)
    | (go_at_call 13; refine (known_any _).mono ?_; rintro e w3 ⟨rfl, hb⟩; have HB := Lib.hid (HB1.out.trans (hb.mono HB1.out.size)); clear hb))
  go_ret
  exact ⟨rfl, HB.out⟩

set_option maxRecDepth 100000 in
set_option maxHeartbeats 8000000 in
theorem l_seq (n : Nat) (ao : Option Addr) (len cap : Nat) (X : Nat → ActV) (w : World) (hn : 2 ≤ n) (hn' : n ≤ 4096) (hl : len ≤ 100) (hx : ActsIn w ao len X) :
    Calls Try.prog 4 #[.int .i64 n, .slice ao len cap] w fun e w' => e = .returned (.bool true) ∧ Below w.heap.size w w' := by
  have HX := Lib.hid hx
  clear hx
  have d1 : decide ((100 : Int) < (len : Int)) = false := by simp; omega
  have d2 : decide (100 < len) = false := by simp; omega
  go_enter Try.func4, Try.ntmps4
  go_upto_region 7 with (first
    | (go_at_call 23; refine (lNew_ok _ _ hn hn').mono ?_; rintro e w1 ⟨v, rfl, g, rfl, g0, hb, hq⟩; have HB1 := Lib.hid hb; have HQ1 := Lib.hid hq; clear hb hq)
    | (go_at_call 12; refine (valid_yes _ _ hn hn').mono ?_; rintro e w2 ⟨rfl, rfl⟩)
    | (go_at_call 14; refine (rNew_ok _ _).mono ?_; rintro e w2 ⟨rfl, hb⟩; have HB2 := Lib.hid (HB1.out.trans (hb.mono HB1.out.size)); have HQ2 := Lib.hid (HQ1.out.below hb); clear hb)
    | ((with_reducible show wpList _ _ _ (⟨some 7, _, _, _, _, _⟩ :: _) _ _); refine wpList_alloc rfl 30 rfl zeroEnd ?_; rw [show (Value.agg eZero).cells = eZero from rfl])
    | ((with_reducible show wpList _ _ _ (⟨none, .store _ (.tmp 7) _, _, _, _, _⟩ :: _) _ _); refine wpList_storeA rfl (b := w2.heap.size) (A := eZero) (A' := eArr n 0 0 true) (frEnd w2) 30 (.tmp 7) (.tmp 46) rfl (by simp [Act.eval, Act.put]) (by simp [Act.eval, Act.put]; rfl) eZero_size rfl (eArr_one _ _ _ _) ?_))
  obtain ⟨W0, hW⟩ : ∃ x, x = (w2.alloc (.cells eZero 30)).setCells w2.heap.size 0 (eArr n 0 0 true).toList := ⟨_, rfl⟩
  rw [← hW]
  obtain ⟨mb, hmb⟩ : ∃ x, x = w2.heap.size := ⟨_, rfl⟩
  have hb0 : Below w2.heap.size w2 W0 := by rw [hW]; exact bstore ((Below.refl _ _).alloc (Nat.le_refl _) _) _ (Nat.le_refl _) _ _
  have I0 := Lib.hid (show SInv 98 4 w W0 g mb n 0 0 true from
    ⟨HQ2.out.below hb0, by rw [hW, hmb]; exact (frEnd w2).store _ rfl, HB2.out.trans (hb0.mono HB2.out.size), g0, by rw [hmb]; exact HB2.out.size, by have := HQ2.out.lt; omega⟩)
  rw [← hmb]
  clear hW hb0 hmb HB1 HQ1 HB2 HQ2
  go_wp2_with fail
  go_loopw [8] (fun i wr => ∃ (k h t : Nat) (ph : Bool), k ≤ len ∧ i = .int .i64 k ∧ SInv 98 4 w wr g mb n h t ph) (fun i _ => len - (intOf i).toNat)
  case atStart => exact ⟨0, 0, 0, true, Nat.zero_le _, rfl, I0.out⟩
  case round =>
    obtain ⟨k, h, t, ph, hk, rfl, hI⟩ := hrel
    have IR := Lib.hid hI
    have hh := hI.q.hh
    have ht := hI.q.ht
    have hgl := hI.q.lt
    have hml := hI.r.lt
    clear hI
    by_cases hlt : k < len
    · obtain ⟨ag, o, rfl, hact, hok⟩ := HX.out k hlt
      obtain ⟨x, hx⟩ : ∃ x, x = X k := ⟨_, rfl⟩
      rw [← hx] at hact hok
      have hagl := hact.lt
      have AR := Lib.hid (hact.below IR.out.b |> fun a => a)
      have AW := Lib.hid (hact.kept (IR.out.b.block ag hagl))
      have OK := Lib.hid hok
      have ck := AW.out.k
      have m0 : (0 : Int) ≤ (k : Int) := by omega
      have m1 : (k : Int) < (len : Int) := by omega
      clear hact hok hx AR
      have hnew := plH_lt (n := n) (h := h) ph x.b hh
      obtain ⟨h', hv1⟩ : ∃ z, z = plH n h ph x.b := ⟨_, rfl⟩
      obtain ⟨ph', hv2⟩ : ∃ z, z = plPh n h ph x.b := ⟨_, rfl⟩
      obtain ⟨C, hv3⟩ : ∃ z, z = plC ph x.b := ⟨_, rfl⟩
      obtain ⟨nw, hv4⟩ : ∃ z, z = isNew ph x.b := ⟨_, rfl⟩
      obtain ⟨er, hv5⟩ : ∃ z, z = plEr x.b := ⟨_, rfl⟩
      obtain ⟨CA, hv6⟩ : ∃ z, z = C.cells := ⟨_, rfl⟩
      obtain ⟨BA, hv7⟩ : ∃ z, z = (arr 16 fun j => .int .u8 (x.b j)) := ⟨_, rfl⟩
      have HC : Hid (∀ w, Calls Try.prog 25 #[.agg (eArr n h t ph), .agg BA] w fun e w' => e = .returned (.tuple #[.agg (eArr n h' t ph'), .agg CA, .bool nw, .int .i64 er]) ∧ Below w.heap.size w w') := Lib.hid fun w => by rw [hv6, hv3, hv1, hv2, hv4, hv5, hv7]; exact rPoll_any n h t ph x.b w hn hn' hh ht OK.out.b
      have HP : Hid (∀ w, QAt 98 4 w g n h t ph → Calls Try.prog 24 #[.pointer (some ⟨g, 0, none⟩), .agg BA] w fun e w' => e = .returned (.tuple #[.agg CA, .bool nw, .int .i64 er]) ∧ Keeps (One g) w w' ∧ QAt 98 4 w' g n h' t ph') := Lib.hid fun w q => by rw [hv6, hv3, hv1, hv2, hv4, hv5, hv7]; exact lPoll_any _ _ _ _ _ _ x.b _ q OK.out.b
      have HCS := Lib.hid (show (Try.prog.info? 43).map (·.size) = some CA.size by rw [hv6]; exact size10)
      have HC1 := Lib.hid (show CA.all (·.oneCell') = true by rw [hv6]; exact Cpl.cells_one _)
      have HCZ := Lib.hid (show CA.size = 10 by rw [hv6]; rfl)
      have HNE := Lib.hid (show ∀ w, (binOp .neq 43 (.agg CA) (.agg CA)).run Try.prog w = .ok (.bool false) w from fun w => by rw [hv6]; exact neqCpl C w)
      have HEQ := Lib.hid (show ∀ w, (Op.equalIn 10000 43 (.agg CA) (.agg CA)).run Try.prog w = .ok true w from fun w => by rw [hv6]; exact eqCpl C w)
      have HBS := Lib.hid (show (Try.prog.info? 44).map (·.size) = some BA.size by rw [hv7, arr_size]; exact size16)
      have AWb := Lib.hid (show wr.rangeAt ag (o + k * 44 + 28) BA.toList by rw [hv7]; exact AW.out.b)
      rw [← hv1] at hnew
      clear hv1 hv2 hv3 hv4 hv5 hv6 hv7
      have HES := Lib.hid (eArr_size n h t ph)
      have HES' := Lib.hid (eArr_size n h' t ph')
      obtain ⟨dE, hdE, hdR⟩ := underEnd
      have hagR : ag < wr.heap.size := AW.out.lt
      go_upto_region 11 with (first
        | ((with_reducible show wpList _ _ _ (⟨some 59, _, _, _, _, _⟩ :: _) _ _); refine wpList_loadR rfl AWb.out 44 (.tmp 58) rfl rfl Try.underlying44 rfl HBS.out ?_)
        | (go_at_call 24; refine (HP.out _ IR.out.q).mono ?_; rintro e w2 ⟨rfl, hk2, hq2⟩; have M2 := Lib.hid (SMid.of IR.out hk2 hq2); have hag2 : ag ≠ g := (fun e => by have := IR.out.g0; omega); have AW2 := Lib.hid (rangeAt_kept AWb.out (hk2.block ag hagR hag2)); have hag2' : ag < w2.heap.size := Nat.lt_of_lt_of_le hagR hk2.size; clear hk2 hq2)
        | ((with_reducible show wpList _ _ _ (⟨some 9, _, _, _, _, _⟩ :: _) _ _); refine wpList_alloc rfl 43 rfl zeroCpl ?_; rw [show (Value.agg (cArr 0 0)).cells = cArr 0 0 from rfl])
        | ((with_reducible show wpList _ _ _ (⟨none, .store _ (.tmp 9) _, _, _, _, _⟩ :: _) _ _); refine wpList_storeA rfl (b := w2.heap.size) (A := cArr 0 0) (A' := CA) (frC w2) 43 (.tmp 9) (.tmp 61) rfl (by simp [Act.eval, Act.put]) (by simp [Act.eval, Act.put]) size10 (by rw [HCZ.out]; rfl) HC1.out ?_))
      obtain ⟨w3, hw⟩ : ∃ z, z = (w2.alloc (.cells (cArr 0 0) 43)).setCells w2.heap.size 0 CA.toList := ⟨_, rfl⟩
      rw [← hw]
      obtain ⟨b9, hb9⟩ : ∃ z, z = w2.heap.size := ⟨_, rfl⟩
      have A9 := Lib.hid (show ArrAt w3 b9 CA by rw [hw, hb9]; exact (frC w2).store CA (by rw [HCZ.out]; rfl))
      have hb23 : Below w2.heap.size w2 w3 := by rw [hw]; exact setC _ _
      have M3 := Lib.hid (M2.out.below hb23)
      have AW3 := Lib.hid (rangeAt_kept AW2.out (hb23.block ag hag2'))
      have hlo9 : mb < b9 := by rw [hb9]; exact M2.out.r.lt
      have hagR3 : ag < w3.heap.size := Nat.lt_of_lt_of_le hag2' hb23.size
      have hml3 : mb < w3.heap.size := M3.out.r.lt
      rw [← hb9]
      clear hw hb9 hb23
      go_cut [12, 13, 14, 15] from 64 to 76 (fun p q r s wc => Out2 w3 (eArr n h' t ph') CA p q wc ∧ r = .bool nw ∧ s = .int .i64 er)
      case first =>
        refine wp_region_held_drew (S := fun w' => Below w3.heap.size w3 w') (by kernel_rfl) (Below.refl _ _).drew (fun hS0 => ?_)
        refine takeD 65 (i := 0) (v := .agg (eArr n h t ph)) rfl rfl (by kernel_rfl) (by kernel_rfl) (by kernel_rfl) (fun _ _ _ h => h) (yieldsA (by rfl) 30 (.tmp 7) rfl (mb) (by first | rfl | simp [Act.eval, Act.put]) (eArr n h t ph) (fun w h => ((M3.out.r.below h).rng)) hdE hdR HES.out) (by assumption) ?_
        try simp only [Act.put, List.setIfInBounds_toArray, List.set_cons_zero, List.set_cons_succ]
        refine takeD 66 (i := 1) (v := (.slice (some ⟨ag, o, none⟩) len cap)) rfl rfl (by kernel_rfl) (by kernel_rfl) (by kernel_rfl) (fun _ _ _ h => h) (Or.inl ⟨by rfl, by (intro w' _; go_simp)⟩) (by assumption) ?_
        try simp only [Act.put, List.setIfInBounds_toArray, List.set_cons_zero, List.set_cons_succ]
        refine takeD 67 (i := 2) (v := (.int .i64 k)) rfl rfl (by kernel_rfl) (by kernel_rfl) (by kernel_rfl) (fun _ _ _ h => h) (Or.inl ⟨by rfl, by (intro w' _; go_simp)⟩) (by assumption) ?_
        try simp only [Act.put, List.setIfInBounds_toArray, List.set_cons_zero, List.set_cons_succ]
        refine takeD 68 (i := 3) (v := (.pointer (some ⟨ag, o + k * 44, none⟩))) rfl rfl (by kernel_rfl) (by kernel_rfl) (by kernel_rfl) (fun _ _ _ h => h) (Or.inl ⟨by rfl, by (intro w' _; go_simp)⟩) (by assumption) ?_
        try simp only [Act.put, List.setIfInBounds_toArray, List.set_cons_zero, List.set_cons_succ]
        refine takeD 69 (i := 4) (v := (.pointer (some ⟨ag, o + k * 44 + 28, none⟩))) rfl rfl (by kernel_rfl) (by kernel_rfl) (by kernel_rfl) (fun _ _ _ h => h) (Or.inl ⟨by rfl, by (intro w' _; go_simp)⟩) (by assumption) ?_
        try simp only [Act.put, List.setIfInBounds_toArray, List.set_cons_zero, List.set_cons_succ]
        refine takeD 70 (i := 5) (v := .agg BA) rfl rfl (by kernel_rfl) (by kernel_rfl) (by kernel_rfl) (fun _ _ _ h => h) (yieldsR (by rfl) 44 (.tmp 69) rfl (ag) (o + k * 44 + 28) (by first | rfl | simp [Act.eval, Act.put]) BA (fun w h => (rangeAt_kept AW3.out (h.block ag hagR3))) Try.underlying44 rfl HBS.out) (by assumption) ?_
        try simp only [Act.put, List.setIfInBounds_toArray, List.set_cons_zero, List.set_cons_succ]
        refine wpAnyH_ready (rs := [6, 12, 13]) (by kernel_rfl) (by simp) (AllReadyH.cons rfl (fun K hK => ?_) (AllReadyH.cons rfl (fun K hK => ?_) (AllReadyH.cons rfl (fun K hK => ?_) AllReadyH.nil)))
        · rw [if_pos (by rfl)]
          go_simp
          refine (HC.out _).mono ?_
          rintro e wc ⟨rfl, hb⟩
          have hSN : Below w3.heap.size w3 wc := hS0.trans (hb.mono hS0.size)
          refine hK.out _ _ hSN (fun hS0 => ?_)
          clear hK K hb hSN
          try simp only [Act.put, List.setIfInBounds_toArray, List.set_cons_zero, List.set_cons_succ]
          refine takeD 64 (i := 7) (v := (.tuple #[.agg (eArr n h' t ph'), .agg CA, .bool nw, .int .i64 er])) rfl rfl (by kernel_rfl) (by kernel_rfl) (by kernel_rfl) (fun _ _ _ h => h) (Or.inl ⟨by rfl, by (intro w' _; go_simp)⟩) (by assumption) ?_
          try simp only [Act.put, List.setIfInBounds_toArray, List.set_cons_zero, List.set_cons_succ]
          refine takeD 72 (i := 8) (v := (.agg (eArr n h' t ph'))) rfl rfl (by kernel_rfl) (by kernel_rfl) (by kernel_rfl) (fun _ _ _ h => h) (Or.inl ⟨by rfl, by (intro w' _; go_simp)⟩) (by assumption) ?_
          try simp only [Act.put, List.setIfInBounds_toArray, List.set_cons_zero, List.set_cons_succ]
          refine takeD 73 (i := 9) (v := (.agg CA)) rfl rfl (by kernel_rfl) (by kernel_rfl) (by kernel_rfl) (fun _ _ _ h => h) (Or.inl ⟨by rfl, by (intro w' _; go_simp)⟩) (by assumption) ?_
          try simp only [Act.put, List.setIfInBounds_toArray, List.set_cons_zero, List.set_cons_succ]
          refine takeD 74 (i := 10) (v := (.bool nw)) rfl rfl (by kernel_rfl) (by kernel_rfl) (by kernel_rfl) (fun _ _ _ h => h) (Or.inl ⟨by rfl, by (intro w' _; go_simp)⟩) (by assumption) ?_
          try simp only [Act.put, List.setIfInBounds_toArray, List.set_cons_zero, List.set_cons_succ]
          refine takeD 75 (i := 11) (v := (.int .i64 er)) rfl rfl (by kernel_rfl) (by kernel_rfl) (by kernel_rfl) (fun _ _ _ h => h) (Or.inl ⟨by rfl, by (intro w' _; go_simp)⟩) (by assumption) ?_
          try simp only [Act.put, List.setIfInBounds_toArray, List.set_cons_zero, List.set_cons_succ]
          refine wpAnyH_ready (rs := [12, 13]) (by kernel_rfl) (by simp) (AllReadyH.cons rfl (fun K hK => ?_) (AllReadyH.cons rfl (fun K hK => ?_) AllReadyH.nil))
          · rw [if_pos (by rfl)]
            refine wp_allocN 30 12 rfl rfl zeroEnd (A := eZero) rfl ?_
            obtain ⟨wca, hw⟩ : ∃ x, x = (wc).alloc (.cells eZero 30) := ⟨_, rfl⟩
            rw [← hw]
            have hb : Below (wc).heap.size (wc) wca := by rw [hw]; exact (Below.refl _ _).alloc (Nat.le_refl _) _
            have AEca := Lib.hid (show ArrAt wca (wc).heap.size eZero by rw [hw]; exact frEnd _)
            obtain ⟨bE, hbk⟩ : ∃ x, x = (wc).heap.size := ⟨_, rfl⟩
            rw [← hbk] at AEca
            have hlobE : w3.heap.size ≤ bE := by rw [hbk]; exact hS0.size
            have hhibE : bE < wca.heap.size := AEca.out.lt
            have hSN : Below w3.heap.size w3 wca := hS0.trans (hb.mono hS0.size)
            rw [← hbk]
            clear hw hbk
            refine hK.out _ _ hSN (fun hS0 => ?_)
            clear hK K hb hSN
            try simp only [Act.put, List.setIfInBounds_toArray, List.set_cons_zero, List.set_cons_succ]
            refine wpAnyH_ready (rs := [13]) (by kernel_rfl) (by simp) (AllReadyH.cons rfl (fun K hK => ?_) AllReadyH.nil)
            · rw [if_pos (by rfl)]
              refine wp_allocN 43 13 rfl rfl zeroCpl (A := (cArr 0 0)) rfl ?_
              obtain ⟨wcab, hw⟩ : ∃ x, x = (wca).alloc (.cells (cArr 0 0) 43) := ⟨_, rfl⟩
              rw [← hw]
              have hb : Below (wca).heap.size (wca) wcab := by rw [hw]; exact (Below.refl _ _).alloc (Nat.le_refl _) _
              have ABcab := Lib.hid (show ArrAt wcab (wca).heap.size (cArr 0 0) by rw [hw]; exact frC _)
              obtain ⟨bB, hbk⟩ : ∃ x, x = (wca).heap.size := ⟨_, rfl⟩
              rw [← hbk] at ABcab
              have hlobB : w3.heap.size ≤ bB := by rw [hbk]; exact hS0.size
              have hhibB : bB < wcab.heap.size := ABcab.out.lt
              have hnebEbB : bE < bB := by rw [hbk]; exact hhibE
              have hSN : Below w3.heap.size w3 wcab := hS0.trans (hb.mono hS0.size)
              have AEcab := Lib.hid (AEca.out.below hb)
              have hhibE : bE < wcab.heap.size := Nat.lt_of_lt_of_le hhibE hb.size
              rw [← hbk]
              clear hw hbk
              refine hK.out _ _ hSN (fun hS0 => ?_)
              clear hK K hb hSN
              try simp only [Act.put, List.setIfInBounds_toArray, List.set_cons_zero, List.set_cons_succ]
              have hS2 : Below w3.heap.size w3 ((wcab).setCells bE 0 (eArr n h' t ph').toList) := bstore hS0 _ hlobE _ _
              have AF := Lib.hid (AEcab.out.store (eArr n h' t ph') rfl)
              have AG := Lib.hid (ABcab.out.kept (Keeps.setCells (eArr n h' t ph').toList (Keeps.refl (One bE) wcab) 0) (fun e => by have e : bB = bE := e; omega))
              have hS3 : Below w3.heap.size w3 (((wcab).setCells bE 0 (eArr n h' t ph').toList).setCells bB 0 (CA).toList) := bstore hS2 _ hlobB _ _
              have AH := Lib.hid (AG.out.store CA (by rw [HCZ.out]; rfl))
              have AI := Lib.hid (AF.out.kept (Keeps.setCells (CA).toList (Keeps.refl (One bB) _) 0) (fun e => by have e : bE = bB := e; omega))
              refine wpAnyH_ready (rs := [14]) (by kernel_rfl) (by simp) (AllReadyH.cons rfl (fun K hK => ?_) AllReadyH.nil)
              rw [if_pos (by rfl)]
              refine wp_storeN 30 (.tmp 12) (.tmp 72) rfl rfl (bE) 0 (eArr n h' t ph') (by first | rfl | simp [Act.eval, Act.put]) (by first | rfl | simp [Act.eval, Act.put]) AEcab.out.th (eArr_size _ _ _ _) (eArr_one _ _ _ _) ?_
              refine hK.out _ _ hS2 (fun hS0 => ?_)
              clear hK K
              try simp only [Act.put, List.setIfInBounds_toArray, List.set_cons_zero, List.set_cons_succ]
              refine wpAnyH_ready (rs := [15]) (by kernel_rfl) (by simp) (AllReadyH.cons rfl (fun K hK => ?_) AllReadyH.nil)
              rw [if_pos (by rfl)]
              refine wp_storeN 43 (.tmp 13) (.tmp 73) rfl rfl (bB) 0 CA (by first | rfl | simp [Act.eval, Act.put]) (by first | rfl | simp [Act.eval, Act.put]) (by rw [HCZ.out]; exact AG.out.th) HCS.out HC1.out ?_
              refine hK.out _ _ hS3 (fun hS0 => ?_)
              clear hK K
              try simp only [Act.put, List.setIfInBounds_toArray, List.set_cons_zero, List.set_cons_succ]
              refine takeD 14 (i := 16) (v := (.bool nw)) rfl rfl (by kernel_rfl) (by kernel_rfl) (by kernel_rfl) (fun _ _ _ h => h) (Or.inl ⟨by rfl, by (intro w' _; go_simp)⟩) (by assumption) ?_
              try simp only [Act.put, List.setIfInBounds_toArray, List.set_cons_zero, List.set_cons_succ]
              refine takeD 15 (i := 17) (v := (.int .i64 er)) rfl rfl (by kernel_rfl) (by kernel_rfl) (by kernel_rfl) (fun _ _ _ h => h) (Or.inl ⟨by rfl, by (intro w' _; go_simp)⟩) (by assumption) ?_
              try simp only [Act.put, List.setIfInBounds_toArray, List.set_cons_zero, List.set_cons_succ]
              refine wpAnyH_done (by kernel_rfl) ?_ _
              go_wp2_with fail
              go_meet
              exact ⟨⟨bE, bB, rfl, rfl, hlobE, hlobB, AI.out, AH.out, hS0⟩, rfl, rfl⟩
          · rw [if_pos (by rfl)]
            refine wp_allocN 43 13 rfl rfl zeroCpl (A := (cArr 0 0)) rfl ?_
            obtain ⟨wcb, hw⟩ : ∃ x, x = (wc).alloc (.cells (cArr 0 0) 43) := ⟨_, rfl⟩
            rw [← hw]
            have hb : Below (wc).heap.size (wc) wcb := by rw [hw]; exact (Below.refl _ _).alloc (Nat.le_refl _) _
            have ABcb := Lib.hid (show ArrAt wcb (wc).heap.size (cArr 0 0) by rw [hw]; exact frC _)
            obtain ⟨bB, hbk⟩ : ∃ x, x = (wc).heap.size := ⟨_, rfl⟩
            rw [← hbk] at ABcb
            have hlobB : w3.heap.size ≤ bB := by rw [hbk]; exact hS0.size
            have hhibB : bB < wcb.heap.size := ABcb.out.lt
            have hSN : Below w3.heap.size w3 wcb := hS0.trans (hb.mono hS0.size)
            rw [← hbk]
            clear hw hbk
            refine hK.out _ _ hSN (fun hS0 => ?_)
            clear hK K hb hSN
            try simp only [Act.put, List.setIfInBounds_toArray, List.set_cons_zero, List.set_cons_succ]
            refine wpAnyH_ready (rs := [12]) (by kernel_rfl) (by simp) (AllReadyH.cons rfl (fun K hK => ?_) AllReadyH.nil)
            · rw [if_pos (by rfl)]
              refine wp_allocN 30 12 rfl rfl zeroEnd (A := eZero) rfl ?_
              obtain ⟨wcba, hw⟩ : ∃ x, x = (wcb).alloc (.cells eZero 30) := ⟨_, rfl⟩
              rw [← hw]
              have hb : Below (wcb).heap.size (wcb) wcba := by rw [hw]; exact (Below.refl _ _).alloc (Nat.le_refl _) _
              have AEcba := Lib.hid (show ArrAt wcba (wcb).heap.size eZero by rw [hw]; exact frEnd _)
              obtain ⟨bE, hbk⟩ : ∃ x, x = (wcb).heap.size := ⟨_, rfl⟩
              rw [← hbk] at AEcba
              have hlobE : w3.heap.size ≤ bE := by rw [hbk]; exact hS0.size
              have hhibE : bE < wcba.heap.size := AEcba.out.lt
              have hnebBbE : bB < bE := by rw [hbk]; exact hhibB
              have hSN : Below w3.heap.size w3 wcba := hS0.trans (hb.mono hS0.size)
              have ABcba := Lib.hid (ABcb.out.below hb)
              have hhibB : bB < wcba.heap.size := Nat.lt_of_lt_of_le hhibB hb.size
              rw [← hbk]
              clear hw hbk
              refine hK.out _ _ hSN (fun hS0 => ?_)
              clear hK K hb hSN
              try simp only [Act.put, List.setIfInBounds_toArray, List.set_cons_zero, List.set_cons_succ]
              have hS2 : Below w3.heap.size w3 ((wcba).setCells bE 0 (eArr n h' t ph').toList) := bstore hS0 _ hlobE _ _
              have AF := Lib.hid (AEcba.out.store (eArr n h' t ph') rfl)
              have AG := Lib.hid (ABcba.out.kept (Keeps.setCells (eArr n h' t ph').toList (Keeps.refl (One bE) wcba) 0) (fun e => by have e : bB = bE := e; omega))
              have hS3 : Below w3.heap.size w3 (((wcba).setCells bE 0 (eArr n h' t ph').toList).setCells bB 0 (CA).toList) := bstore hS2 _ hlobB _ _
              have AH := Lib.hid (AG.out.store CA (by rw [HCZ.out]; rfl))
              have AI := Lib.hid (AF.out.kept (Keeps.setCells (CA).toList (Keeps.refl (One bB) _) 0) (fun e => by have e : bE = bB := e; omega))
              refine wpAnyH_ready (rs := [14]) (by kernel_rfl) (by simp) (AllReadyH.cons rfl (fun K hK => ?_) AllReadyH.nil)
              rw [if_pos (by rfl)]
              refine wp_storeN 30 (.tmp 12) (.tmp 72) rfl rfl (bE) 0 (eArr n h' t ph') (by first | rfl | simp [Act.eval, Act.put]) (by first | rfl | simp [Act.eval, Act.put]) AEcba.out.th (eArr_size _ _ _ _) (eArr_one _ _ _ _) ?_
              refine hK.out _ _ hS2 (fun hS0 => ?_)
              clear hK K
              try simp only [Act.put, List.setIfInBounds_toArray, List.set_cons_zero, List.set_cons_succ]
              refine wpAnyH_ready (rs := [15]) (by kernel_rfl) (by simp) (AllReadyH.cons rfl (fun K hK => ?_) AllReadyH.nil)
              rw [if_pos (by rfl)]
              refine wp_storeN 43 (.tmp 13) (.tmp 73) rfl rfl (bB) 0 CA (by first | rfl | simp [Act.eval, Act.put]) (by first | rfl | simp [Act.eval, Act.put]) (by rw [HCZ.out]; exact AG.out.th) HCS.out HC1.out ?_
              refine hK.out _ _ hS3 (fun hS0 => ?_)
              clear hK K
              try simp only [Act.put, List.setIfInBounds_toArray, List.set_cons_zero, List.set_cons_succ]
              refine takeD 14 (i := 16) (v := (.bool nw)) rfl rfl (by kernel_rfl) (by kernel_rfl) (by kernel_rfl) (fun _ _ _ h => h) (Or.inl ⟨by rfl, by (intro w' _; go_simp)⟩) (by assumption) ?_
              try simp only [Act.put, List.setIfInBounds_toArray, List.set_cons_zero, List.set_cons_succ]
              refine takeD 15 (i := 17) (v := (.int .i64 er)) rfl rfl (by kernel_rfl) (by kernel_rfl) (by kernel_rfl) (fun _ _ _ h => h) (Or.inl ⟨by rfl, by (intro w' _; go_simp)⟩) (by assumption) ?_
              try simp only [Act.put, List.setIfInBounds_toArray, List.set_cons_zero, List.set_cons_succ]
              refine wpAnyH_done (by kernel_rfl) ?_ _
              go_wp2_with fail
              go_meet
              exact ⟨⟨bE, bB, rfl, rfl, hlobE, hlobB, AI.out, AH.out, hS0⟩, rfl, rfl⟩
        · rw [if_pos (by rfl)]
          refine wp_allocN 30 12 rfl rfl zeroEnd (A := eZero) rfl ?_
          obtain ⟨wa, hw⟩ : ∃ x, x = (w3.drew).alloc (.cells eZero 30) := ⟨_, rfl⟩
          rw [← hw]
          have hb : Below (w3.drew).heap.size (w3.drew) wa := by rw [hw]; exact (Below.refl _ _).alloc (Nat.le_refl _) _
          have AEa := Lib.hid (show ArrAt wa (w3.drew).heap.size eZero by rw [hw]; exact frEnd _)
          obtain ⟨bE, hbk⟩ : ∃ x, x = (w3.drew).heap.size := ⟨_, rfl⟩
          rw [← hbk] at AEa
          have hlobE : w3.heap.size ≤ bE := by rw [hbk]; exact hS0.size
          have hhibE : bE < wa.heap.size := AEa.out.lt
          have hSN : Below w3.heap.size w3 wa := hS0.trans (hb.mono hS0.size)
          rw [← hbk]
          clear hw hbk
          refine hK.out _ _ hSN (fun hS0 => ?_)
          clear hK K hb hSN
          try simp only [Act.put, List.setIfInBounds_toArray, List.set_cons_zero, List.set_cons_succ]
          refine wpAnyH_ready (rs := [6, 13]) (by kernel_rfl) (by simp) (AllReadyH.cons rfl (fun K hK => ?_) (AllReadyH.cons rfl (fun K hK => ?_) AllReadyH.nil))
          · rw [if_pos (by rfl)]
            go_simp
            refine (HC.out _).mono ?_
            rintro e wac ⟨rfl, hb⟩
            have hSN : Below w3.heap.size w3 wac := hS0.trans (hb.mono hS0.size)
            have AEac := Lib.hid (AEa.out.below hb)
            have hhibE : bE < wac.heap.size := Nat.lt_of_lt_of_le hhibE hb.size
            refine hK.out _ _ hSN (fun hS0 => ?_)
            clear hK K hb hSN
            try simp only [Act.put, List.setIfInBounds_toArray, List.set_cons_zero, List.set_cons_succ]
            refine takeD 64 (i := 7) (v := (.tuple #[.agg (eArr n h' t ph'), .agg CA, .bool nw, .int .i64 er])) rfl rfl (by kernel_rfl) (by kernel_rfl) (by kernel_rfl) (fun _ _ _ h => h) (Or.inl ⟨by rfl, by (intro w' _; go_simp)⟩) (by assumption) ?_
            try simp only [Act.put, List.setIfInBounds_toArray, List.set_cons_zero, List.set_cons_succ]
            refine takeD 72 (i := 8) (v := (.agg (eArr n h' t ph'))) rfl rfl (by kernel_rfl) (by kernel_rfl) (by kernel_rfl) (fun _ _ _ h => h) (Or.inl ⟨by rfl, by (intro w' _; go_simp)⟩) (by assumption) ?_
            try simp only [Act.put, List.setIfInBounds_toArray, List.set_cons_zero, List.set_cons_succ]
            refine takeD 73 (i := 9) (v := (.agg CA)) rfl rfl (by kernel_rfl) (by kernel_rfl) (by kernel_rfl) (fun _ _ _ h => h) (Or.inl ⟨by rfl, by (intro w' _; go_simp)⟩) (by assumption) ?_
            try simp only [Act.put, List.setIfInBounds_toArray, List.set_cons_zero, List.set_cons_succ]
            refine takeD 74 (i := 10) (v := (.bool nw)) rfl rfl (by kernel_rfl) (by kernel_rfl) (by kernel_rfl) (fun _ _ _ h => h) (Or.inl ⟨by rfl, by (intro w' _; go_simp)⟩) (by assumption) ?_
            try simp only [Act.put, List.setIfInBounds_toArray, List.set_cons_zero, List.set_cons_succ]
            refine takeD 75 (i := 11) (v := (.int .i64 er)) rfl rfl (by kernel_rfl) (by kernel_rfl) (by kernel_rfl) (fun _ _ _ h => h) (Or.inl ⟨by rfl, by (intro w' _; go_simp)⟩) (by assumption) ?_
            try simp only [Act.put, List.setIfInBounds_toArray, List.set_cons_zero, List.set_cons_succ]
            refine wpAnyH_ready (rs := [13]) (by kernel_rfl) (by simp) (AllReadyH.cons rfl (fun K hK => ?_) AllReadyH.nil)
            · rw [if_pos (by rfl)]
              refine wp_allocN 43 13 rfl rfl zeroCpl (A := (cArr 0 0)) rfl ?_
              obtain ⟨wacb, hw⟩ : ∃ x, x = (wac).alloc (.cells (cArr 0 0) 43) := ⟨_, rfl⟩
              rw [← hw]
              have hb : Below (wac).heap.size (wac) wacb := by rw [hw]; exact (Below.refl _ _).alloc (Nat.le_refl _) _
              have ABacb := Lib.hid (show ArrAt wacb (wac).heap.size (cArr 0 0) by rw [hw]; exact frC _)
              obtain ⟨bB, hbk⟩ : ∃ x, x = (wac).heap.size := ⟨_, rfl⟩
              rw [← hbk] at ABacb
              have hlobB : w3.heap.size ≤ bB := by rw [hbk]; exact hS0.size
              have hhibB : bB < wacb.heap.size := ABacb.out.lt
              have hnebEbB : bE < bB := by rw [hbk]; exact hhibE
              have hSN : Below w3.heap.size w3 wacb := hS0.trans (hb.mono hS0.size)
              have AEacb := Lib.hid (AEac.out.below hb)
              have hhibE : bE < wacb.heap.size := Nat.lt_of_lt_of_le hhibE hb.size
              rw [← hbk]
              clear hw hbk
              refine hK.out _ _ hSN (fun hS0 => ?_)
              clear hK K hb hSN
              try simp only [Act.put, List.setIfInBounds_toArray, List.set_cons_zero, List.set_cons_succ]
              have hS2 : Below w3.heap.size w3 ((wacb).setCells bE 0 (eArr n h' t ph').toList) := bstore hS0 _ hlobE _ _
              have AF := Lib.hid (AEacb.out.store (eArr n h' t ph') rfl)
              have AG := Lib.hid (ABacb.out.kept (Keeps.setCells (eArr n h' t ph').toList (Keeps.refl (One bE) wacb) 0) (fun e => by have e : bB = bE := e; omega))
              have hS3 : Below w3.heap.size w3 (((wacb).setCells bE 0 (eArr n h' t ph').toList).setCells bB 0 (CA).toList) := bstore hS2 _ hlobB _ _
              have AH := Lib.hid (AG.out.store CA (by rw [HCZ.out]; rfl))
              have AI := Lib.hid (AF.out.kept (Keeps.setCells (CA).toList (Keeps.refl (One bB) _) 0) (fun e => by have e : bE = bB := e; omega))
              refine wpAnyH_ready (rs := [14]) (by kernel_rfl) (by simp) (AllReadyH.cons rfl (fun K hK => ?_) AllReadyH.nil)
              rw [if_pos (by rfl)]
              refine wp_storeN 30 (.tmp 12) (.tmp 72) rfl rfl (bE) 0 (eArr n h' t ph') (by first | rfl | simp [Act.eval, Act.put]) (by first | rfl | simp [Act.eval, Act.put]) AEacb.out.th (eArr_size _ _ _ _) (eArr_one _ _ _ _) ?_
              refine hK.out _ _ hS2 (fun hS0 => ?_)
              clear hK K
              try simp only [Act.put, List.setIfInBounds_toArray, List.set_cons_zero, List.set_cons_succ]
              refine wpAnyH_ready (rs := [15]) (by kernel_rfl) (by simp) (AllReadyH.cons rfl (fun K hK => ?_) AllReadyH.nil)
              rw [if_pos (by rfl)]
              refine wp_storeN 43 (.tmp 13) (.tmp 73) rfl rfl (bB) 0 CA (by first | rfl | simp [Act.eval, Act.put]) (by first | rfl | simp [Act.eval, Act.put]) (by rw [HCZ.out]; exact AG.out.th) HCS.out HC1.out ?_
              refine hK.out _ _ hS3 (fun hS0 => ?_)
              clear hK K
              try simp only [Act.put, List.setIfInBounds_toArray, List.set_cons_zero, List.set_cons_succ]
              refine takeD 14 (i := 16) (v := (.bool nw)) rfl rfl (by kernel_rfl) (by kernel_rfl) (by kernel_rfl) (fun _ _ _ h => h) (Or.inl ⟨by rfl, by (intro w' _; go_simp)⟩) (by assumption) ?_
              try simp only [Act.put, List.setIfInBounds_toArray, List.set_cons_zero, List.set_cons_succ]
              refine takeD 15 (i := 17) (v := (.int .i64 er)) rfl rfl (by kernel_rfl) (by kernel_rfl) (by kernel_rfl) (fun _ _ _ h => h) (Or.inl ⟨by rfl, by (intro w' _; go_simp)⟩) (by assumption) ?_
              try simp only [Act.put, List.setIfInBounds_toArray, List.set_cons_zero, List.set_cons_succ]
              refine wpAnyH_done (by kernel_rfl) ?_ _
              go_wp2_with fail
              go_meet
              exact ⟨⟨bE, bB, rfl, rfl, hlobE, hlobB, AI.out, AH.out, hS0⟩, rfl, rfl⟩
          · rw [if_pos (by rfl)]
            refine wp_allocN 43 13 rfl rfl zeroCpl (A := (cArr 0 0)) rfl ?_
            obtain ⟨wab, hw⟩ : ∃ x, x = (wa).alloc (.cells (cArr 0 0) 43) := ⟨_, rfl⟩
            rw [← hw]
            have hb : Below (wa).heap.size (wa) wab := by rw [hw]; exact (Below.refl _ _).alloc (Nat.le_refl _) _
            have ABab := Lib.hid (show ArrAt wab (wa).heap.size (cArr 0 0) by rw [hw]; exact frC _)
            obtain ⟨bB, hbk⟩ : ∃ x, x = (wa).heap.size := ⟨_, rfl⟩
            rw [← hbk] at ABab
            have hlobB : w3.heap.size ≤ bB := by rw [hbk]; exact hS0.size
            have hhibB : bB < wab.heap.size := ABab.out.lt
            have hnebEbB : bE < bB := by rw [hbk]; exact hhibE
            have hSN : Below w3.heap.size w3 wab := hS0.trans (hb.mono hS0.size)
            have AEab := Lib.hid (AEa.out.below hb)
            have hhibE : bE < wab.heap.size := Nat.lt_of_lt_of_le hhibE hb.size
            rw [← hbk]
            clear hw hbk
            refine hK.out _ _ hSN (fun hS0 => ?_)
            clear hK K hb hSN
            try simp only [Act.put, List.setIfInBounds_toArray, List.set_cons_zero, List.set_cons_succ]
            refine wpAnyH_ready (rs := [6]) (by kernel_rfl) (by simp) (AllReadyH.cons rfl (fun K hK => ?_) AllReadyH.nil)
            · rw [if_pos (by rfl)]
              go_simp
              refine (HC.out _).mono ?_
              rintro e wabc ⟨rfl, hb⟩
              have hSN : Below w3.heap.size w3 wabc := hS0.trans (hb.mono hS0.size)
              have AEabc := Lib.hid (AEab.out.below hb)
              have hhibE : bE < wabc.heap.size := Nat.lt_of_lt_of_le hhibE hb.size
              have ABabc := Lib.hid (ABab.out.below hb)
              have hhibB : bB < wabc.heap.size := Nat.lt_of_lt_of_le hhibB hb.size
              refine hK.out _ _ hSN (fun hS0 => ?_)
              clear hK K hb hSN
              try simp only [Act.put, List.setIfInBounds_toArray, List.set_cons_zero, List.set_cons_succ]
              refine takeD 64 (i := 7) (v := (.tuple #[.agg (eArr n h' t ph'), .agg CA, .bool nw, .int .i64 er])) rfl rfl (by kernel_rfl) (by kernel_rfl) (by kernel_rfl) (fun _ _ _ h => h) (Or.inl ⟨by rfl, by (intro w' _; go_simp)⟩) (by assumption) ?_
              try simp only [Act.put, List.setIfInBounds_toArray, List.set_cons_zero, List.set_cons_succ]
              refine takeD 72 (i := 8) (v := (.agg (eArr n h' t ph'))) rfl rfl (by kernel_rfl) (by kernel_rfl) (by kernel_rfl) (fun _ _ _ h => h) (Or.inl ⟨by rfl, by (intro w' _; go_simp)⟩) (by assumption) ?_
              try simp only [Act.put, List.setIfInBounds_toArray, List.set_cons_zero, List.set_cons_succ]
              refine takeD 73 (i := 9) (v := (.agg CA)) rfl rfl (by kernel_rfl) (by kernel_rfl) (by kernel_rfl) (fun _ _ _ h => h) (Or.inl ⟨by rfl, by (intro w' _; go_simp)⟩) (by assumption) ?_
              try simp only [Act.put, List.setIfInBounds_toArray, List.set_cons_zero, List.set_cons_succ]
              refine takeD 74 (i := 10) (v := (.bool nw)) rfl rfl (by kernel_rfl) (by kernel_rfl) (by kernel_rfl) (fun _ _ _ h => h) (Or.inl ⟨by rfl, by (intro w' _; go_simp)⟩) (by assumption) ?_
              try simp only [Act.put, List.setIfInBounds_toArray, List.set_cons_zero, List.set_cons_succ]
              refine takeD 75 (i := 11) (v := (.int .i64 er)) rfl rfl (by kernel_rfl) (by kernel_rfl) (by kernel_rfl) (fun _ _ _ h => h) (Or.inl ⟨by rfl, by (intro w' _; go_simp)⟩) (by assumption) ?_
              try simp only [Act.put, List.setIfInBounds_toArray, List.set_cons_zero, List.set_cons_succ]
              have hS2 : Below w3.heap.size w3 ((wabc).setCells bE 0 (eArr n h' t ph').toList) := bstore hS0 _ hlobE _ _
              have AF := Lib.hid (AEabc.out.store (eArr n h' t ph') rfl)
              have AG := Lib.hid (ABabc.out.kept (Keeps.setCells (eArr n h' t ph').toList (Keeps.refl (One bE) wabc) 0) (fun e => by have e : bB = bE := e; omega))
              have hS3 : Below w3.heap.size w3 (((wabc).setCells bE 0 (eArr n h' t ph').toList).setCells bB 0 (CA).toList) := bstore hS2 _ hlobB _ _
              have AH := Lib.hid (AG.out.store CA (by rw [HCZ.out]; rfl))
              have AI := Lib.hid (AF.out.kept (Keeps.setCells (CA).toList (Keeps.refl (One bB) _) 0) (fun e => by have e : bE = bB := e; omega))
              refine wpAnyH_ready (rs := [14]) (by kernel_rfl) (by simp) (AllReadyH.cons rfl (fun K hK => ?_) AllReadyH.nil)
              rw [if_pos (by rfl)]
              refine wp_storeN 30 (.tmp 12) (.tmp 72) rfl rfl (bE) 0 (eArr n h' t ph') (by first | rfl | simp [Act.eval, Act.put]) (by first | rfl | simp [Act.eval, Act.put]) AEabc.out.th (eArr_size _ _ _ _) (eArr_one _ _ _ _) ?_
              refine hK.out _ _ hS2 (fun hS0 => ?_)
              clear hK K
              try simp only [Act.put, List.setIfInBounds_toArray, List.set_cons_zero, List.set_cons_succ]
              refine wpAnyH_ready (rs := [15]) (by kernel_rfl) (by simp) (AllReadyH.cons rfl (fun K hK => ?_) AllReadyH.nil)
              rw [if_pos (by rfl)]
              refine wp_storeN 43 (.tmp 13) (.tmp 73) rfl rfl (bB) 0 CA (by first | rfl | simp [Act.eval, Act.put]) (by first | rfl | simp [Act.eval, Act.put]) (by rw [HCZ.out]; exact AG.out.th) HCS.out HC1.out ?_
              refine hK.out _ _ hS3 (fun hS0 => ?_)
              clear hK K
              try simp only [Act.put, List.setIfInBounds_toArray, List.set_cons_zero, List.set_cons_succ]
              refine takeD 14 (i := 16) (v := (.bool nw)) rfl rfl (by kernel_rfl) (by kernel_rfl) (by kernel_rfl) (fun _ _ _ h => h) (Or.inl ⟨by rfl, by (intro w' _; go_simp)⟩) (by assumption) ?_
              try simp only [Act.put, List.setIfInBounds_toArray, List.set_cons_zero, List.set_cons_succ]
              refine takeD 15 (i := 17) (v := (.int .i64 er)) rfl rfl (by kernel_rfl) (by kernel_rfl) (by kernel_rfl) (fun _ _ _ h => h) (Or.inl ⟨by rfl, by (intro w' _; go_simp)⟩) (by assumption) ?_
              try simp only [Act.put, List.setIfInBounds_toArray, List.set_cons_zero, List.set_cons_succ]
              refine wpAnyH_done (by kernel_rfl) ?_ _
              go_wp2_with fail
              go_meet
              exact ⟨⟨bE, bB, rfl, rfl, hlobE, hlobB, AI.out, AH.out, hS0⟩, rfl, rfl⟩
        · rw [if_pos (by rfl)]
          refine wp_allocN 43 13 rfl rfl zeroCpl (A := (cArr 0 0)) rfl ?_
          obtain ⟨wb, hw⟩ : ∃ x, x = (w3.drew).alloc (.cells (cArr 0 0) 43) := ⟨_, rfl⟩
          rw [← hw]
          have hb : Below (w3.drew).heap.size (w3.drew) wb := by rw [hw]; exact (Below.refl _ _).alloc (Nat.le_refl _) _
          have ABb := Lib.hid (show ArrAt wb (w3.drew).heap.size (cArr 0 0) by rw [hw]; exact frC _)
          obtain ⟨bB, hbk⟩ : ∃ x, x = (w3.drew).heap.size := ⟨_, rfl⟩
          rw [← hbk] at ABb
          have hlobB : w3.heap.size ≤ bB := by rw [hbk]; exact hS0.size
          have hhibB : bB < wb.heap.size := ABb.out.lt
          have hSN : Below w3.heap.size w3 wb := hS0.trans (hb.mono hS0.size)
          rw [← hbk]
          clear hw hbk
          refine hK.out _ _ hSN (fun hS0 => ?_)
          clear hK K hb hSN
          try simp only [Act.put, List.setIfInBounds_toArray, List.set_cons_zero, List.set_cons_succ]
          refine wpAnyH_ready (rs := [6, 12]) (by kernel_rfl) (by simp) (AllReadyH.cons rfl (fun K hK => ?_) (AllReadyH.cons rfl (fun K hK => ?_) AllReadyH.nil))
          · rw [if_pos (by rfl)]
            go_simp
            refine (HC.out _).mono ?_
            rintro e wbc ⟨rfl, hb⟩
            have hSN : Below w3.heap.size w3 wbc := hS0.trans (hb.mono hS0.size)
            have ABbc := Lib.hid (ABb.out.below hb)
            have hhibB : bB < wbc.heap.size := Nat.lt_of_lt_of_le hhibB hb.size
            refine hK.out _ _ hSN (fun hS0 => ?_)
            clear hK K hb hSN
            try simp only [Act.put, List.setIfInBounds_toArray, List.set_cons_zero, List.set_cons_succ]
            refine takeD 64 (i := 7) (v := (.tuple #[.agg (eArr n h' t ph'), .agg CA, .bool nw, .int .i64 er])) rfl rfl (by kernel_rfl) (by kernel_rfl) (by kernel_rfl) (fun _ _ _ h => h) (Or.inl ⟨by rfl, by (intro w' _; go_simp)⟩) (by assumption) ?_
            try simp only [Act.put, List.setIfInBounds_toArray, List.set_cons_zero, List.set_cons_succ]
            refine takeD 72 (i := 8) (v := (.agg (eArr n h' t ph'))) rfl rfl (by kernel_rfl) (by kernel_rfl) (by kernel_rfl) (fun _ _ _ h => h) (Or.inl ⟨by rfl, by (intro w' _; go_simp)⟩) (by assumption) ?_
            try simp only [Act.put, List.setIfInBounds_toArray, List.set_cons_zero, List.set_cons_succ]
            refine takeD 73 (i := 9) (v := (.agg CA)) rfl rfl (by kernel_rfl) (by kernel_rfl) (by kernel_rfl) (fun _ _ _ h => h) (Or.inl ⟨by rfl, by (intro w' _; go_simp)⟩) (by assumption) ?_
            try simp only [Act.put, List.setIfInBounds_toArray, List.set_cons_zero, List.set_cons_succ]
            refine takeD 74 (i := 10) (v := (.bool nw)) rfl rfl (by kernel_rfl) (by kernel_rfl) (by kernel_rfl) (fun _ _ _ h => h) (Or.inl ⟨by rfl, by (intro w' _; go_simp)⟩) (by assumption) ?_
            try simp only [Act.put, List.setIfInBounds_toArray, List.set_cons_zero, List.set_cons_succ]
            refine takeD 75 (i := 11) (v := (.int .i64 er)) rfl rfl (by kernel_rfl) (by kernel_rfl) (by kernel_rfl) (fun _ _ _ h => h) (Or.inl ⟨by rfl, by (intro w' _; go_simp)⟩) (by assumption) ?_
            try simp only [Act.put, List.setIfInBounds_toArray, List.set_cons_zero, List.set_cons_succ]
            refine wpAnyH_ready (rs := [12]) (by kernel_rfl) (by simp) (AllReadyH.cons rfl (fun K hK => ?_) AllReadyH.nil)
            · rw [if_pos (by rfl)]
              refine wp_allocN 30 12 rfl rfl zeroEnd (A := eZero) rfl ?_
              obtain ⟨wbca, hw⟩ : ∃ x, x = (wbc).alloc (.cells eZero 30) := ⟨_, rfl⟩
              rw [← hw]
              have hb : Below (wbc).heap.size (wbc) wbca := by rw [hw]; exact (Below.refl _ _).alloc (Nat.le_refl _) _
              have AEbca := Lib.hid (show ArrAt wbca (wbc).heap.size eZero by rw [hw]; exact frEnd _)
              obtain ⟨bE, hbk⟩ : ∃ x, x = (wbc).heap.size := ⟨_, rfl⟩
              rw [← hbk] at AEbca
              have hlobE : w3.heap.size ≤ bE := by rw [hbk]; exact hS0.size
              have hhibE : bE < wbca.heap.size := AEbca.out.lt
              have hnebBbE : bB < bE := by rw [hbk]; exact hhibB
              have hSN : Below w3.heap.size w3 wbca := hS0.trans (hb.mono hS0.size)
              have ABbca := Lib.hid (ABbc.out.below hb)
              have hhibB : bB < wbca.heap.size := Nat.lt_of_lt_of_le hhibB hb.size
              rw [← hbk]
              clear hw hbk
              refine hK.out _ _ hSN (fun hS0 => ?_)
              clear hK K hb hSN
              try simp only [Act.put, List.setIfInBounds_toArray, List.set_cons_zero, List.set_cons_succ]
              have hS2 : Below w3.heap.size w3 ((wbca).setCells bE 0 (eArr n h' t ph').toList) := bstore hS0 _ hlobE _ _
              have AF := Lib.hid (AEbca.out.store (eArr n h' t ph') rfl)
              have AG := Lib.hid (ABbca.out.kept (Keeps.setCells (eArr n h' t ph').toList (Keeps.refl (One bE) wbca) 0) (fun e => by have e : bB = bE := e; omega))
              have hS3 : Below w3.heap.size w3 (((wbca).setCells bE 0 (eArr n h' t ph').toList).setCells bB 0 (CA).toList) := bstore hS2 _ hlobB _ _
              have AH := Lib.hid (AG.out.store CA (by rw [HCZ.out]; rfl))
              have AI := Lib.hid (AF.out.kept (Keeps.setCells (CA).toList (Keeps.refl (One bB) _) 0) (fun e => by have e : bE = bB := e; omega))
              refine wpAnyH_ready (rs := [14]) (by kernel_rfl) (by simp) (AllReadyH.cons rfl (fun K hK => ?_) AllReadyH.nil)
              rw [if_pos (by rfl)]
              refine wp_storeN 30 (.tmp 12) (.tmp 72) rfl rfl (bE) 0 (eArr n h' t ph') (by first | rfl | simp [Act.eval, Act.put]) (by first | rfl | simp [Act.eval, Act.put]) AEbca.out.th (eArr_size _ _ _ _) (eArr_one _ _ _ _) ?_
              refine hK.out _ _ hS2 (fun hS0 => ?_)
              clear hK K
              try simp only [Act.put, List.setIfInBounds_toArray, List.set_cons_zero, List.set_cons_succ]
              refine wpAnyH_ready (rs := [15]) (by kernel_rfl) (by simp) (AllReadyH.cons rfl (fun K hK => ?_) AllReadyH.nil)
              rw [if_pos (by rfl)]
              refine wp_storeN 43 (.tmp 13) (.tmp 73) rfl rfl (bB) 0 CA (by first | rfl | simp [Act.eval, Act.put]) (by first | rfl | simp [Act.eval, Act.put]) (by rw [HCZ.out]; exact AG.out.th) HCS.out HC1.out ?_
              refine hK.out _ _ hS3 (fun hS0 => ?_)
              clear hK K
              try simp only [Act.put, List.setIfInBounds_toArray, List.set_cons_zero, List.set_cons_succ]
              refine takeD 14 (i := 16) (v := (.bool nw)) rfl rfl (by kernel_rfl) (by kernel_rfl) (by kernel_rfl) (fun _ _ _ h => h) (Or.inl ⟨by rfl, by (intro w' _; go_simp)⟩) (by assumption) ?_
              try simp only [Act.put, List.setIfInBounds_toArray, List.set_cons_zero, List.set_cons_succ]
              refine takeD 15 (i := 17) (v := (.int .i64 er)) rfl rfl (by kernel_rfl) (by kernel_rfl) (by kernel_rfl) (fun _ _ _ h => h) (Or.inl ⟨by rfl, by (intro w' _; go_simp)⟩) (by assumption) ?_
              try simp only [Act.put, List.setIfInBounds_toArray, List.set_cons_zero, List.set_cons_succ]
              refine wpAnyH_done (by kernel_rfl) ?_ _
              go_wp2_with fail
              go_meet
              exact ⟨⟨bE, bB, rfl, rfl, hlobE, hlobB, AI.out, AH.out, hS0⟩, rfl, rfl⟩
          · rw [if_pos (by rfl)]
            refine wp_allocN 30 12 rfl rfl zeroEnd (A := eZero) rfl ?_
            obtain ⟨wba, hw⟩ : ∃ x, x = (wb).alloc (.cells eZero 30) := ⟨_, rfl⟩
            rw [← hw]
            have hb : Below (wb).heap.size (wb) wba := by rw [hw]; exact (Below.refl _ _).alloc (Nat.le_refl _) _
            have AEba := Lib.hid (show ArrAt wba (wb).heap.size eZero by rw [hw]; exact frEnd _)
            obtain ⟨bE, hbk⟩ : ∃ x, x = (wb).heap.size := ⟨_, rfl⟩
            rw [← hbk] at AEba
            have hlobE : w3.heap.size ≤ bE := by rw [hbk]; exact hS0.size
            have hhibE : bE < wba.heap.size := AEba.out.lt
            have hnebBbE : bB < bE := by rw [hbk]; exact hhibB
            have hSN : Below w3.heap.size w3 wba := hS0.trans (hb.mono hS0.size)
            have ABba := Lib.hid (ABb.out.below hb)
            have hhibB : bB < wba.heap.size := Nat.lt_of_lt_of_le hhibB hb.size
            rw [← hbk]
            clear hw hbk
            refine hK.out _ _ hSN (fun hS0 => ?_)
            clear hK K hb hSN
            try simp only [Act.put, List.setIfInBounds_toArray, List.set_cons_zero, List.set_cons_succ]
            refine wpAnyH_ready (rs := [6]) (by kernel_rfl) (by simp) (AllReadyH.cons rfl (fun K hK => ?_) AllReadyH.nil)
            · rw [if_pos (by rfl)]
              go_simp
              refine (HC.out _).mono ?_
              rintro e wbac ⟨rfl, hb⟩
              have hSN : Below w3.heap.size w3 wbac := hS0.trans (hb.mono hS0.size)
              have ABbac := Lib.hid (ABba.out.below hb)
              have hhibB : bB < wbac.heap.size := Nat.lt_of_lt_of_le hhibB hb.size
              have AEbac := Lib.hid (AEba.out.below hb)
              have hhibE : bE < wbac.heap.size := Nat.lt_of_lt_of_le hhibE hb.size
              refine hK.out _ _ hSN (fun hS0 => ?_)
              clear hK K hb hSN
              try simp only [Act.put, List.setIfInBounds_toArray, List.set_cons_zero, List.set_cons_succ]
              refine takeD 64 (i := 7) (v := (.tuple #[.agg (eArr n h' t ph'), .agg CA, .bool nw, .int .i64 er])) rfl rfl (by kernel_rfl) (by kernel_rfl) (by kernel_rfl) (fun _ _ _ h => h) (Or.inl ⟨by rfl, by (intro w' _; go_simp)⟩) (by assumption) ?_
              try simp only [Act.put, List.setIfInBounds_toArray, List.set_cons_zero, List.set_cons_succ]
              refine takeD 72 (i := 8) (v := (.agg (eArr n h' t ph'))) rfl rfl (by kernel_rfl) (by kernel_rfl) (by kernel_rfl) (fun _ _ _ h => h) (Or.inl ⟨by rfl, by (intro w' _; go_simp)⟩) (by assumption) ?_
              try simp only [Act.put, List.setIfInBounds_toArray, List.set_cons_zero, List.set_cons_succ]
              refine takeD 73 (i := 9) (v := (.agg CA)) rfl rfl (by kernel_rfl) (by kernel_rfl) (by kernel_rfl) (fun _ _ _ h => h) (Or.inl ⟨by rfl, by (intro w' _; go_simp)⟩) (by assumption) ?_
              try simp only [Act.put, List.setIfInBounds_toArray, List.set_cons_zero, List.set_cons_succ]
              refine takeD 74 (i := 10) (v := (.bool nw)) rfl rfl (by kernel_rfl) (by kernel_rfl) (by kernel_rfl) (fun _ _ _ h => h) (Or.inl ⟨by rfl, by (intro w' _; go_simp)⟩) (by assumption) ?_
              try simp only [Act.put, List.setIfInBounds_toArray, List.set_cons_zero, List.set_cons_succ]
              refine takeD 75 (i := 11) (v := (.int .i64 er)) rfl rfl (by kernel_rfl) (by kernel_rfl) (by kernel_rfl) (fun _ _ _ h => h) (Or.inl ⟨by rfl, by (intro w' _; go_simp)⟩) (by assumption) ?_
              try simp only [Act.put, List.setIfInBounds_toArray, List.set_cons_zero, List.set_cons_succ]
              have hS2 : Below w3.heap.size w3 ((wbac).setCells bE 0 (eArr n h' t ph').toList) := bstore hS0 _ hlobE _ _
              have AF := Lib.hid (AEbac.out.store (eArr n h' t ph') rfl)
              have AG := Lib.hid (ABbac.out.kept (Keeps.setCells (eArr n h' t ph').toList (Keeps.refl (One bE) wbac) 0) (fun e => by have e : bB = bE := e; omega))
              have hS3 : Below w3.heap.size w3 (((wbac).setCells bE 0 (eArr n h' t ph').toList).setCells bB 0 (CA).toList) := bstore hS2 _ hlobB _ _
              have AH := Lib.hid (AG.out.store CA (by rw [HCZ.out]; rfl))
              have AI := Lib.hid (AF.out.kept (Keeps.setCells (CA).toList (Keeps.refl (One bB) _) 0) (fun e => by have e : bE = bB := e; omega))
              refine wpAnyH_ready (rs := [14]) (by kernel_rfl) (by simp) (AllReadyH.cons rfl (fun K hK => ?_) AllReadyH.nil)
              rw [if_pos (by rfl)]
              refine wp_storeN 30 (.tmp 12) (.tmp 72) rfl rfl (bE) 0 (eArr n h' t ph') (by first | rfl | simp [Act.eval, Act.put]) (by first | rfl | simp [Act.eval, Act.put]) AEbac.out.th (eArr_size _ _ _ _) (eArr_one _ _ _ _) ?_
              refine hK.out _ _ hS2 (fun hS0 => ?_)
              clear hK K
              try simp only [Act.put, List.setIfInBounds_toArray, List.set_cons_zero, List.set_cons_succ]
              refine wpAnyH_ready (rs := [15]) (by kernel_rfl) (by simp) (AllReadyH.cons rfl (fun K hK => ?_) AllReadyH.nil)
              rw [if_pos (by rfl)]
              refine wp_storeN 43 (.tmp 13) (.tmp 73) rfl rfl (bB) 0 CA (by first | rfl | simp [Act.eval, Act.put]) (by first | rfl | simp [Act.eval, Act.put]) (by rw [HCZ.out]; exact AG.out.th) HCS.out HC1.out ?_
              refine hK.out _ _ hS3 (fun hS0 => ?_)
              clear hK K
              try simp only [Act.put, List.setIfInBounds_toArray, List.set_cons_zero, List.set_cons_succ]
              refine takeD 14 (i := 16) (v := (.bool nw)) rfl rfl (by kernel_rfl) (by kernel_rfl) (by kernel_rfl) (fun _ _ _ h => h) (Or.inl ⟨by rfl, by (intro w' _; go_simp)⟩) (by assumption) ?_
              try simp only [Act.put, List.setIfInBounds_toArray, List.set_cons_zero, List.set_cons_succ]
              refine takeD 15 (i := 17) (v := (.int .i64 er)) rfl rfl (by kernel_rfl) (by kernel_rfl) (by kernel_rfl) (fun _ _ _ h => h) (Or.inl ⟨by rfl, by (intro w' _; go_simp)⟩) (by assumption) ?_
              try simp only [Act.put, List.setIfInBounds_toArray, List.set_cons_zero, List.set_cons_succ]
              refine wpAnyH_done (by kernel_rfl) ?_ _
              go_wp2_with fail
              go_meet
              exact ⟨⟨bE, bB, rfl, rfl, hlobE, hlobB, AI.out, AH.out, hS0⟩, rfl, rfl⟩
      case rest =>
        obtain ⟨⟨bE, bB, rfl, rfl, hlo, hlo2, ha, ha2, hb⟩, rfl, rfl⟩ := hcut
        have AE := Lib.hid ha
        have AB := Lib.hid ha2
        have A9' := Lib.hid (A9.out.below hb)
        have M4 := Lib.hid (M3.out.below hb)
        have hne : bE ≠ mb := by omega
        clear ha ha2 hb
        go_upto_region 13 with (first
          | ((with_reducible show wpList _ _ _ (⟨some _, .load 30 _, _, _, _, _⟩ :: _) _ _); refine wpList_loadA rfl AE.out 30 (.tmp 12) rfl rfl hdE hdR HES'.out ?_)
          | ((with_reducible show wpList _ _ _ (⟨none, .store _ (.tmp 7) _, _, _, _, _⟩ :: _) _ _); refine wpList_storeA rfl (b := mb) (A := eArr n h t ph) (A' := eArr n h' t ph') M4.out.r 30 (.tmp 7) _ rfl rfl (by simp [Act.eval, Act.put]) HES.out rfl (eArr_one _ _ _ _) ?_))
        obtain ⟨w5, hw⟩ : ∃ z, z = wc.setCells mb 0 (eArr n h' t ph').toList := ⟨_, rfl⟩
        rw [← hw]
        have I5 := Lib.hid (show SInv 98 4 w w5 g mb n h' t ph' by rw [hw]; exact M4.out.set)
        have A5 := Lib.hid (show ArrAt w5 b9 CA by rw [hw]; exact A9'.out.kept (Keeps.setCells _ (Keeps.refl (One mb) wc) 0) (fun e => by have e : b9 = mb := e; omega))
        have B5 := Lib.hid (show ArrAt w5 bB CA by rw [hw]; exact AB.out.kept (Keeps.setCells _ (Keeps.refl (One mb) wc) 0) (fun e => by have e : bB = mb := e; omega))
        clear hw AE AB A9 A9' M2 M3 M4
        have HL1 := Lib.hid fun p : InC (Below w5.heap.size w5) => (A5.out.below p.ok).loadAt (P := Try.prog) Try.underlying43 rfl HCS.out
        have HL2 := Lib.hid fun p : InC (Below w5.heap.size w5) => (B5.out.below p.ok).loadAt (P := Try.prog) Try.underlying43 rfl HCS.out
        have hEQ := HEQ.out
        have hNE2 := HNE.out
        have hlm := I5.out.r.lt
        have c0 : w5.cell? ⟨mb, 0, none⟩ = some (.int .i64 n) := I5.out.r.cell rfl
        have c1 : w5.cell? ⟨mb, 1, none⟩ = some (.int .i64 h') := I5.out.r.cell rfl
        have c2 : w5.cell? ⟨mb, 2, none⟩ = some (.int .i64 t) := I5.out.r.cell rfl
        have c3 : w5.cell? ⟨mb, 3, none⟩ = some (.bool ph') := I5.out.r.cell rfl
        have hq0 : ∀ p : InC (Below w5.heap.size w5), p.w.cell? ⟨mb, 0, none⟩ = some (.int .i64 n) := fun p => (p.ok.cell (hlm)).trans (c0)
        have hq1 : ∀ p : InC (Below w5.heap.size w5), p.w.cell? ⟨mb, 1, none⟩ = some (.int .i64 h') := fun p => (p.ok.cell (hlm)).trans (c1)
        have hq2 : ∀ p : InC (Below w5.heap.size w5), p.w.cell? ⟨mb, 2, none⟩ = some (.int .i64 t) := fun p => (p.ok.cell (hlm)).trans (c2)
        have hq3 : ∀ p : InC (Below w5.heap.size w5), p.w.cell? ⟨mb, 3, none⟩ = some (.bool ph') := fun p => (p.ok.cell (hlm)).trans (c3)
        have HE1 : Hid (∀ p : InC (Below w5.heap.size w5), Calls Try.prog 26 #[.pointer (some ⟨g, 0, none⟩)] p.w fun e w' => e = .returned (.int .i64 h') ∧ Below w5.heap.size w5 w') :=
          Lib.hid fun p => (lSlot_ok 98 4 g n h' t ph' p.w (I5.out.q.below p.ok)).mono fun e w' k => ⟨k.1, p.ok.trans (k.2.mono p.ok.size)⟩
        have HE2 : Hid (∀ p : InC (Below w5.heap.size w5), Calls Try.prog 27 #[.pointer (some ⟨g, 0, none⟩)] p.w fun e w' => e = .returned (.int .i64 h') ∧ Below w5.heap.size w5 w') :=
          Lib.hid fun p => (lHead_ok 98 4 g n h' t ph' p.w (I5.out.q.below p.ok)).mono fun e w' k => ⟨k.1, p.ok.trans (k.2.mono p.ok.size)⟩
        have HE4 : Hid (∀ p : InC (Below w5.heap.size w5), Calls Try.prog 28 #[.pointer (some ⟨g, 0, none⟩)] p.w fun e w' => e = .returned (.int .i64 n) ∧ Below w5.heap.size w5 w') :=
          Lib.hid fun p => (lSize_ok 98 4 g n h' t ph' p.w (I5.out.q.below p.ok)).mono fun e w' k => ⟨k.1, p.ok.trans (k.2.mono p.ok.size)⟩
        have hNE : Nonempty (InC (Below w5.heap.size w5)) := ⟨⟨w5, Below.refl _ _⟩⟩
        clear c0 c1 c2 c3
        refine wp_quiet_in (Below w5.heap.size w5) (Below.refl _ _).drew (by kernel_rfl) (by kernel_rfl) ?_
        repeat (first
          | ((with_reducible show wpQuiet _ _ _ _ (⟨some 77, .load _ _, _, _, _, _⟩ :: _) _); refine wpQuiet_load rfl 43 (.tmp 9) rfl (.pointer (some ⟨b9, 0, none⟩)) rfl (fun w' hp => by obtain ⟨p, rfl⟩ := hp; exact HL1.out p) ?_; simp only [Act.put, List.setIfInBounds_toArray, List.set_cons_succ, List.set_cons_zero])
          | ((with_reducible show wpQuiet _ _ _ _ (⟨some 78, .load _ _, _, _, _, _⟩ :: _) _); refine wpQuiet_load rfl 43 (.tmp 13) rfl (.pointer (some ⟨bB, 0, none⟩)) rfl (fun w' hp => by obtain ⟨p, rfl⟩ := hp; exact HL2.out p) ?_; simp only [Act.put, List.setIfInBounds_toArray, List.set_cons_succ, List.set_cons_zero])
          | go_big_quiet_step (first | (with_reducible exact calls_in (HE1.out _)) | (with_reducible exact calls_in (HE2.out _)) | (with_reducible exact calls_in (HE4.out _))))
        refine wpQuiet_nil ?_
        intro _ hw'
        obtain ⟨p, hw''⟩ := hw'
        subst hw''
        have I9 := Lib.hid (I5.out.below p.ok)
        generalize p.w = W4 at *
        clear hq0 hq1 hq2 hq3 hNE HE1 HE2 HE4
        go_wp2_with fail
        go_roundw
        case rel => exact ⟨k + 1, h', t, ph', by omega, by go_num, I9.out⟩
        case measure => simp [intOf]; omega
    · obtain rfl : k = len := by omega
      go_wp2_with (go_at_call 13; refine (known_any _).mono ?_; rintro e w9 ⟨rfl, hb⟩; have HB := Lib.hid (IR.out.b.trans (hb.mono IR.out.b.size)); clear hb)
      go_ret
      exact ⟨rfl, HB.out⟩

theorem l_any (size : Int) (ao : Option Addr) (len cap : Nat) (X : Nat → ActV) (w : World) (_h1 : (Lit.int .i64 size).wf = true) (h2 : ActsIn w ao len X ∧ len ≤ maxLen) :
    Calls Try.prog 4 #[.int .i64 size, .slice ao len cap] w fun e w' => e = .returned (.bool true) ∧ Below w.heap.size w w' := by
  by_cases h : 2 ≤ size ∧ size ≤ 4096
  · obtain ⟨n, rfl⟩ := Int.eq_ofNat_of_zero_le (show 0 ≤ size by omega)
    by_cases hl : len ≤ 100
    · exact l_seq n ao len cap X w (by omega) (by omega) hl h2.1
    · exact l_long n ao len cap w (by omega) (by omega) (by omega) (Nat.le_trans h2.2 (by decide))
  · exact l_bad size ao len cap w (by omega)

end Go.Proofs.Ytpoeepdpoblfcaa
