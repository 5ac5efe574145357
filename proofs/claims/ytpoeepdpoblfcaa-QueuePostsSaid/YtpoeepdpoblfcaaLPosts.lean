/- queue: the law QueuePosts. -/
import Derived.Test.YtpoeepdpoblfcaaSeq
namespace Go.Proofs.Ytpoeepdpoblfcaa
open Go.RowKit
attribute [local go_sem ↓] Go.wp_at_zero Go.wp_at_succ

set_option maxRecDepth 100000 in
set_option maxHeartbeats 8000000 in
theorem p_bad (size : Int) (ao : Option Addr) (len cap : Nat) (w : World) (h : size < 2 ∨ 4096 < size) :
    Calls Try.prog 7 #[.int .i64 size, .slice ao len cap] w fun e w' => e = .returned (.bool true) ∧ Below w.heap.size w w' := by
  have H := Lib.hid h
  clear h
  go_enter Try.func7, Try.ntmps7
  go_wp2_with (first
    | (go_at_call 37; refine (pNew_err _ _ H.out).mono ?_; rintro e w1 ⟨rfl, rfl⟩)
    | (go_at_call 12; refine (valid_no _ _ H.out).mono ?_; rintro e w1 ⟨rfl, rfl⟩)
    | (go_at_call 13; refine (known_any _).mono ?_; rintro e w1 ⟨rfl, hb⟩; have HB := Lib.hid hb; clear hb))
  go_ret
  exact ⟨rfl, HB.out⟩

set_option maxRecDepth 100000 in
set_option maxHeartbeats 8000000 in
theorem p_long (n : Nat) (ao : Option Addr) (len cap : Nat) (w : World) (hn : 2 ≤ n) (hn' : n ≤ 4096) (hl : 100 < len) (hl2 : len ≤ 9223372036854775807) :
    Calls Try.prog 7 #[.int .i64 n, .slice ao len cap] w fun e w' => e = .returned (.bool true) ∧ Below w.heap.size w w' := by
  have d1 : decide ((100 : Int) < (len : Int)) = true := by simp; omega
  have d2 : decide (100 < len) = true := by simp; omega
  go_enter Try.func7, Try.ntmps7
  go_wp2_with (first
    | (go_at_call 37; refine (pNew_ok _ _ hn hn').mono ?_; rintro e w1 ⟨v, rfl, g, rfl, g0, hb, hq⟩; have HB1 := Lib.hid hb; clear hb)
    | (go_at_call 12; refine (valid_yes _ _ hn hn').mono ?_; rintro e w2 ⟨rfl, rfl⟩)
    | (go_at_call 13; refine (known_any _).mono ?_; rintro e w3 ⟨rfl, hb⟩; have HB := Lib.hid (HB1.out.trans (hb.mono HB1.out.size)); clear hb))
  go_ret
  exact ⟨rfl, HB.out⟩

set_option maxRecDepth 100000 in
set_option maxHeartbeats 8000000 in
theorem p_seq (n : Nat) (ao : Option Addr) (len cap : Nat) (X : Nat → ActV) (w : World) (hn : 2 ≤ n) (hn' : n ≤ 4096) (hl : len ≤ 100) (hx : ActsIn w ao len X) :
    Calls Try.prog 7 #[.int .i64 n, .slice ao len cap] w fun e w' => e = .returned (.bool true) ∧ Below w.heap.size w w' := by
  have HX := Lib.hid hx
  clear hx
  have d1 : decide ((100 : Int) < (len : Int)) = false := by simp; omega
  have d2 : decide (100 < len) = false := by simp; omega
  go_enter Try.func7, Try.ntmps7
  go_upto_region 7 with (first
    | (go_at_call 37; refine (pNew_ok _ _ hn hn').mono ?_; rintro e w1 ⟨v, rfl, g, rfl, g0, hb, hq⟩; have HB1 := Lib.hid hb; have HQ1 := Lib.hid hq; clear hb hq)
    | (go_at_call 12; refine (valid_yes _ _ hn hn').mono ?_; rintro e w2 ⟨rfl, rfl⟩)
    | (go_at_call 14; refine (rNew_ok _ _).mono ?_; rintro e w2 ⟨rfl, hb⟩; have HB2 := Lib.hid (HB1.out.trans (hb.mono HB1.out.size)); have HQ2 := Lib.hid (HQ1.out.below hb); clear hb)
    | ((with_reducible show wpList _ _ _ (⟨some 7, _, _, _, _, _⟩ :: _) _ _); refine wpList_alloc rfl 30 rfl zeroEnd ?_; rw [show (Value.agg eZero).cells = eZero from rfl])
    | ((with_reducible show wpList _ _ _ (⟨none, .store _ (.tmp 7) _, _, _, _, _⟩ :: _) _ _); refine wpList_storeA rfl (b := w2.heap.size) (A := eZero) (A' := eArr n 0 0 true) (frEnd w2) 30 (.tmp 7) (.tmp 48) rfl (by simp [Act.eval, Act.put]) (by simp [Act.eval, Act.put]; rfl) eZero_size rfl (eArr_one _ _ _ _) ?_))
  obtain ⟨W0, hW⟩ : ∃ x, x = (w2.alloc (.cells eZero 30)).setCells w2.heap.size 0 (eArr n 0 0 true).toList := ⟨_, rfl⟩
  rw [← hW]
  obtain ⟨mb, hmb⟩ : ∃ x, x = w2.heap.size := ⟨_, rfl⟩
  have hb0 : Below w2.heap.size w2 W0 := by rw [hW]; exact bstore ((Below.refl _ _).alloc (Nat.le_refl _) _) _ (Nat.le_refl _) _ _
  have I0 := Lib.hid (show SInv 96 4 w W0 g mb n 0 0 true from
    ⟨HQ2.out.below hb0, by rw [hW, hmb]; exact (frEnd w2).store _ rfl, HB2.out.trans (hb0.mono HB2.out.size), g0, by rw [hmb]; exact HB2.out.size, by have := HQ2.out.lt; omega⟩)
  rw [← hmb]
  clear hW hb0 hmb HB1 HQ1 HB2 HQ2
  go_wp2_with fail
  go_loopw [8] (fun i wr => ∃ (k h t : Nat) (ph : Bool), k ≤ len ∧ i = .int .i64 k ∧ SInv 96 4 w wr g mb n h t ph) (fun i _ => len - (intOf i).toNat)
  case atStart => exact ⟨0, 0, 0, true, Nat.zero_le _, rfl, I0.out⟩
  case round =>
    obtain ⟨k, h, t, ph, hk, rfl, hI⟩ := hrel
    have IR := Lib.hid hI
    have hh := hI.q.hh
    have ht := hI.q.ht
    have hgl := hI.q.lt
    have hml := hI.r.lt
    clear hI
    by_cases hlt : k < len
    · obtain ⟨ag, o, rfl, hact, hok⟩ := HX.out k hlt
      obtain ⟨x, hx⟩ : ∃ x, x = X k := ⟨_, rfl⟩
      rw [← hx] at hact hok
      have hagl := hact.lt
      have AR := Lib.hid (hact.below IR.out.b |> fun a => a)
      have AW := Lib.hid (hact.kept (IR.out.b.block ag hagl))
      have OK := Lib.hid hok
      have ck := AW.out.k
      have m0 : (0 : Int) ≤ (k : Int) := by omega
      have m1 : (k : Int) < (len : Int) := by omega
      clear hact hok hx AR
      by_cases h0 : x.k = 0
      · have e0 : (x.k == 0) = true := by simpa using h0
        clear h0
        have hnew := ptT_lt (h := h) x.p ht
        have hby := ptA_bytes n h t ph x.p
        obtain ⟨t', hdt2⟩ : ∃ z, z = ptT n h t x.p := ⟨_, rfl⟩
        obtain ⟨at_, hdat2⟩ : ∃ z, z = ptAt n h t x.p := ⟨_, rfl⟩
        obtain ⟨er, hder2⟩ : ∃ z, z = ptEr n h t x.p := ⟨_, rfl⟩
        obtain ⟨A, hdA2⟩ : ∃ z, z = ptA n h t ph x.p := ⟨_, rfl⟩
        obtain ⟨ph', hdph2⟩ : ∃ z, z = ptPh n h t ph x.p := ⟨_, rfl⟩
        have HC : Hid (∀ w, Calls Try.prog 39 #[.agg (eArr n h t ph), .agg x.p.cells] w fun e w' => e = .returned (.tuple #[.agg (eArr n h t' ph'), .int .i64 at_, .agg A, .int .i64 er]) ∧ Below w.heap.size w w') := Lib.hid fun w => by rw [hdt2, hdat2, hder2, hdA2, hdph2]; exact rPost_any n h t ph x.p w hn hn' hh ht OK.out.p
        have HP : Hid (∀ w, QAt 96 4 w g n h t ph → Calls Try.prog 38 #[.pointer (some ⟨g, 0, none⟩), .agg x.p.cells] w fun e w' => e = .returned (.tuple #[.int .i64 at_, .agg A, .int .i64 er]) ∧ Keeps (One g) w w' ∧ QAt 96 4 w' g n h t' ph') := Lib.hid fun w q => by rw [hdt2, hdat2, hder2, hdA2, hdph2]; exact pPost_any _ _ _ _ _ _ x.p _ q OK.out.p
        rw [← hdt2] at hnew
        rw [← hdA2] at hby
        have HBY := Lib.hid hby
        have hEQ := fun w => hby.eq16 w
        have hNE := fun w => hby.neq16 w
        have HEQ := Lib.hid hEQ
        have HNE := Lib.hid hNE
        clear hby hEQ hNE hdt2 hdat2 hder2 hdA2 hdph2
        have HES := Lib.hid (eArr_size n h t ph)
        have HES' := Lib.hid (eArr_size n h t' ph')
        have HAS := Lib.hid (show (Try.prog.info? 44).map (·.size) = some A.size by rw [HBY.out.size]; exact size16)
        obtain ⟨dE, hdE, hdR⟩ := underEnd
        have hagR : ag < wr.heap.size := AW.out.lt
        go_upto_region 12 with (first
          | ((with_reducible show wpList _ _ _ (⟨some 67, _, _, _, _, _⟩ :: _) _ _); refine wpList_loadR rfl AW.out.p 43 (.tmp 66) rfl rfl Try.underlying43 rfl size10 ?_)
          | (go_at_call 38; refine (HP.out _ IR.out.q).mono ?_; rintro e w2 ⟨rfl, hk2, hq2⟩; have M2 := Lib.hid (SMid.of IR.out hk2 hq2); have AW2 := Lib.hid (AW.out.kept (hk2.block ag hagR (fun e => by have e : ag = g := e; have := IR.out.g0; omega))); clear hk2 hq2)
          | ((with_reducible show wpList _ _ _ (⟨some 10, _, _, _, _, _⟩ :: _) _ _); refine wpList_alloc rfl 44 rfl zero16 ?_; rw [show (Value.agg (arr 16 z16)).cells = arr 16 z16 from rfl])
          | ((with_reducible show wpList _ _ _ (⟨none, .store _ (.tmp 10) _, _, _, _, _⟩ :: _) _ _); refine wpList_storeA rfl (b := w2.heap.size) (A := arr 16 z16) (A' := A) (fr16 w2) 44 (.tmp 10) (.tmp 70) rfl (by simp [Act.eval]) (by simp [Act.eval]) sz16 (by rw [arr_size, HBY.out.size]) HBY.out.one ?_))
        obtain ⟨w3, hw⟩ : ∃ z, z = (w2.alloc (.cells (arr 16 z16) 44)).setCells w2.heap.size 0 A.toList := ⟨_, rfl⟩
        rw [← hw]
        obtain ⟨b10, hb10⟩ : ∃ z, z = w2.heap.size := ⟨_, rfl⟩
        have A10 := Lib.hid (show ArrAt w3 b10 A by rw [hw, hb10]; exact (fr16 w2).store A (by rw [arr_size, HBY.out.size]))
        have M3 := Lib.hid (M2.out.below (show Below w2.heap.size w2 w3 by rw [hw]; exact set16 _ _))
        have AW3 := Lib.hid (AW2.out.below (show Below w2.heap.size w2 w3 by rw [hw]; exact set16 _ _))
        have hlo10 : mb < b10 := by rw [hb10]; exact M2.out.r.lt
        have hagR3 : ag < w3.heap.size := AW3.out.lt
        have hml3 : mb < w3.heap.size := M3.out.r.lt
        rw [← hb10]
        clear hw hb10
        go_cut [12, 13, 14, 15] from 72 to 84 (fun p r q s wc => Out2 w3 (eArr n h t' ph') A p q wc ∧ r = .int .i64 at_ ∧ s = .int .i64 er)
        case first =>
          refine wp_region_held_drew (S := fun w' => Below w3.heap.size w3 w') (by kernel_rfl) (Below.refl _ _).drew (fun hS0 => ?_)
          refine takeD 73 (i := 0) (v := .agg (eArr n h t ph)) rfl rfl (by kernel_rfl) (by kernel_rfl) (by kernel_rfl) (fun _ _ _ h => h) (yieldsA (by rfl) 30 (.tmp 7) rfl (mb) (by first | rfl | simp [Act.eval, Act.put]) (eArr n h t ph) (fun w h => ((M3.out.r.below h).rng)) hdE hdR HES.out) (by assumption) ?_
          try simp only [Act.put, List.setIfInBounds_toArray, List.set_cons_zero, List.set_cons_succ]
          refine takeD 74 (i := 1) (v := (.slice (some ⟨ag, o, none⟩) len cap)) rfl rfl (by kernel_rfl) (by kernel_rfl) (by kernel_rfl) (fun _ _ _ h => h) (Or.inl ⟨by rfl, by (intro w' _; go_simp)⟩) (by assumption) ?_
          try simp only [Act.put, List.setIfInBounds_toArray, List.set_cons_zero, List.set_cons_succ]
          refine takeD 75 (i := 2) (v := (.int .i64 k)) rfl rfl (by kernel_rfl) (by kernel_rfl) (by kernel_rfl) (fun _ _ _ h => h) (Or.inl ⟨by rfl, by (intro w' _; go_simp)⟩) (by assumption) ?_
          try simp only [Act.put, List.setIfInBounds_toArray, List.set_cons_zero, List.set_cons_succ]
          refine takeD 76 (i := 3) (v := (.pointer (some ⟨ag, o + k * 44, none⟩))) rfl rfl (by kernel_rfl) (by kernel_rfl) (by kernel_rfl) (fun _ _ _ h => h) (Or.inl ⟨by rfl, by (intro w' _; go_simp)⟩) (by assumption) ?_
          try simp only [Act.put, List.setIfInBounds_toArray, List.set_cons_zero, List.set_cons_succ]
          refine takeD 77 (i := 4) (v := (.pointer (some ⟨ag, o + k * 44 + 18, none⟩))) rfl rfl (by kernel_rfl) (by kernel_rfl) (by kernel_rfl) (fun _ _ _ h => h) (Or.inl ⟨by rfl, by (intro w' _; go_simp)⟩) (by assumption) ?_
          try simp only [Act.put, List.setIfInBounds_toArray, List.set_cons_zero, List.set_cons_succ]
          refine takeD 78 (i := 5) (v := .agg x.p.cells) rfl rfl (by kernel_rfl) (by kernel_rfl) (by kernel_rfl) (fun _ _ _ h => h) (yieldsR (by rfl) 43 (.tmp 77) rfl (ag) (o + k * 44 + 18) (by first | rfl | simp [Act.eval, Act.put]) x.p.cells (fun w h => (rangeAt_kept AW3.out.p (h.block ag hagR3))) Try.underlying43 rfl size10) (by assumption) ?_
          try simp only [Act.put, List.setIfInBounds_toArray, List.set_cons_zero, List.set_cons_succ]
          refine wpAnyH_ready (rs := [6, 12, 13]) (by kernel_rfl) (by simp) (AllReadyH.cons rfl (fun K hK => ?_) (AllReadyH.cons rfl (fun K hK => ?_) (AllReadyH.cons rfl (fun K hK => ?_) AllReadyH.nil)))
          · rw [if_pos (by rfl)]
            go_simp
            refine (HC.out _).mono ?_
            rintro e wc ⟨rfl, hb⟩
            have hSN : Below w3.heap.size w3 wc := hS0.trans (hb.mono hS0.size)
            refine hK.out _ _ hSN (fun hS0 => ?_)
            clear hK K hb hSN
            try simp only [Act.put, List.setIfInBounds_toArray, List.set_cons_zero, List.set_cons_succ]
            refine takeD 72 (i := 7) (v := (.tuple #[.agg (eArr n h t' ph'), .int .i64 at_, .agg A, .int .i64 er])) rfl rfl (by kernel_rfl) (by kernel_rfl) (by kernel_rfl) (fun _ _ _ h => h) (Or.inl ⟨by rfl, by (intro w' _; go_simp)⟩) (by assumption) ?_
            try simp only [Act.put, List.setIfInBounds_toArray, List.set_cons_zero, List.set_cons_succ]
            refine takeD 80 (i := 8) (v := (.agg (eArr n h t' ph'))) rfl rfl (by kernel_rfl) (by kernel_rfl) (by kernel_rfl) (fun _ _ _ h => h) (Or.inl ⟨by rfl, by (intro w' _; go_simp)⟩) (by assumption) ?_
            try simp only [Act.put, List.setIfInBounds_toArray, List.set_cons_zero, List.set_cons_succ]
            refine takeD 81 (i := 9) (v := (.int .i64 at_)) rfl rfl (by kernel_rfl) (by kernel_rfl) (by kernel_rfl) (fun _ _ _ h => h) (Or.inl ⟨by rfl, by (intro w' _; go_simp)⟩) (by assumption) ?_
            try simp only [Act.put, List.setIfInBounds_toArray, List.set_cons_zero, List.set_cons_succ]
            refine takeD 82 (i := 10) (v := (.agg A)) rfl rfl (by kernel_rfl) (by kernel_rfl) (by kernel_rfl) (fun _ _ _ h => h) (Or.inl ⟨by rfl, by (intro w' _; go_simp)⟩) (by assumption) ?_
            try simp only [Act.put, List.setIfInBounds_toArray, List.set_cons_zero, List.set_cons_succ]
            refine takeD 83 (i := 11) (v := (.int .i64 er)) rfl rfl (by kernel_rfl) (by kernel_rfl) (by kernel_rfl) (fun _ _ _ h => h) (Or.inl ⟨by rfl, by (intro w' _; go_simp)⟩) (by assumption) ?_
            try simp only [Act.put, List.setIfInBounds_toArray, List.set_cons_zero, List.set_cons_succ]
            refine wpAnyH_ready (rs := [12, 13]) (by kernel_rfl) (by simp) (AllReadyH.cons rfl (fun K hK => ?_) (AllReadyH.cons rfl (fun K hK => ?_) AllReadyH.nil))
            · rw [if_pos (by rfl)]
              refine wp_allocN 30 12 rfl rfl zeroEnd (A := eZero) rfl ?_
              obtain ⟨wca, hw⟩ : ∃ x, x = (wc).alloc (.cells eZero 30) := ⟨_, rfl⟩
              rw [← hw]
              have hb : Below (wc).heap.size (wc) wca := by rw [hw]; exact (Below.refl _ _).alloc (Nat.le_refl _) _
              have AEca := Lib.hid (show ArrAt wca (wc).heap.size eZero by rw [hw]; exact frEnd _)
              obtain ⟨bE, hbk⟩ : ∃ x, x = (wc).heap.size := ⟨_, rfl⟩
              rw [← hbk] at AEca
              have hlobE : w3.heap.size ≤ bE := by rw [hbk]; exact hS0.size
              have hhibE : bE < wca.heap.size := AEca.out.lt
              have hSN : Below w3.heap.size w3 wca := hS0.trans (hb.mono hS0.size)
              rw [← hbk]
              clear hw hbk
              refine hK.out _ _ hSN (fun hS0 => ?_)
              clear hK K hb hSN
              try simp only [Act.put, List.setIfInBounds_toArray, List.set_cons_zero, List.set_cons_succ]
              refine wpAnyH_ready (rs := [13]) (by kernel_rfl) (by simp) (AllReadyH.cons rfl (fun K hK => ?_) AllReadyH.nil)
              · rw [if_pos (by rfl)]
                refine wp_allocN 44 14 rfl rfl zero16 (A := (arr 16 z16)) rfl ?_
                obtain ⟨wcab, hw⟩ : ∃ x, x = (wca).alloc (.cells (arr 16 z16) 44) := ⟨_, rfl⟩
                rw [← hw]
                have hb : Below (wca).heap.size (wca) wcab := by rw [hw]; exact (Below.refl _ _).alloc (Nat.le_refl _) _
                have ABcab := Lib.hid (show ArrAt wcab (wca).heap.size (arr 16 z16) by rw [hw]; exact fr16 _)
                obtain ⟨bB, hbk⟩ : ∃ x, x = (wca).heap.size := ⟨_, rfl⟩
                rw [← hbk] at ABcab
                have hlobB : w3.heap.size ≤ bB := by rw [hbk]; exact hS0.size
                have hhibB : bB < wcab.heap.size := ABcab.out.lt
                have hnebEbB : bE < bB := by rw [hbk]; exact hhibE
                have hSN : Below w3.heap.size w3 wcab := hS0.trans (hb.mono hS0.size)
                have AEcab := Lib.hid (AEca.out.below hb)
                have hhibE : bE < wcab.heap.size := Nat.lt_of_lt_of_le hhibE hb.size
                rw [← hbk]
                clear hw hbk
                refine hK.out _ _ hSN (fun hS0 => ?_)
                clear hK K hb hSN
                try simp only [Act.put, List.setIfInBounds_toArray, List.set_cons_zero, List.set_cons_succ]
                have hS2 : Below w3.heap.size w3 ((wcab).setCells bE 0 (eArr n h t' ph').toList) := bstore hS0 _ hlobE _ _
                have AF := Lib.hid (AEcab.out.store (eArr n h t' ph') rfl)
                have AG := Lib.hid (ABcab.out.kept (Keeps.setCells (eArr n h t' ph').toList (Keeps.refl (One bE) wcab) 0) (fun e => by have e : bB = bE := e; omega))
                have hS3 : Below w3.heap.size w3 (((wcab).setCells bE 0 (eArr n h t' ph').toList).setCells bB 0 (A).toList) := bstore hS2 _ hlobB _ _
                have AH := Lib.hid (AG.out.store A (by rw [HBY.out.size, arr_size]))
                have AI := Lib.hid (AF.out.kept (Keeps.setCells (A).toList (Keeps.refl (One bB) _) 0) (fun e => by have e : bE = bB := e; omega))
                refine wpAnyH_ready (rs := [14]) (by kernel_rfl) (by simp) (AllReadyH.cons rfl (fun K hK => ?_) AllReadyH.nil)
                rw [if_pos (by rfl)]
                refine wp_storeN 30 (.tmp 12) (.tmp 80) rfl rfl (bE) 0 (eArr n h t' ph') (by first | rfl | simp [Act.eval, Act.put]) (by first | rfl | simp [Act.eval, Act.put]) AEcab.out.th (eArr_size _ _ _ _) (eArr_one _ _ _ _) ?_
                refine hK.out _ _ hS2 (fun hS0 => ?_)
                clear hK K
                try simp only [Act.put, List.setIfInBounds_toArray, List.set_cons_zero, List.set_cons_succ]
                refine takeD 13 (i := 15) (v := (.int .i64 at_)) rfl rfl (by kernel_rfl) (by kernel_rfl) (by kernel_rfl) (fun _ _ _ h => h) (Or.inl ⟨by rfl, by (intro w' _; go_simp)⟩) (by assumption) ?_
                try simp only [Act.put, List.setIfInBounds_toArray, List.set_cons_zero, List.set_cons_succ]
                refine wpAnyH_ready (rs := [16]) (by kernel_rfl) (by simp) (AllReadyH.cons rfl (fun K hK => ?_) AllReadyH.nil)
                rw [if_pos (by rfl)]
                refine wp_storeN 44 (.tmp 14) (.tmp 82) rfl rfl (bB) 0 A (by first | rfl | simp [Act.eval, Act.put]) (by first | rfl | simp [Act.eval, Act.put]) (by have := AG.out.th; rwa [arr_size, ← HBY.out.size] at this) (by rw [HBY.out.size]; exact size16) HBY.out.one ?_
                refine hK.out _ _ hS3 (fun hS0 => ?_)
                clear hK K
                try simp only [Act.put, List.setIfInBounds_toArray, List.set_cons_zero, List.set_cons_succ]
                refine takeD 15 (i := 17) (v := (.int .i64 er)) rfl rfl (by kernel_rfl) (by kernel_rfl) (by kernel_rfl) (fun _ _ _ h => h) (Or.inl ⟨by rfl, by (intro w' _; go_simp)⟩) (by assumption) ?_
                try simp only [Act.put, List.setIfInBounds_toArray, List.set_cons_zero, List.set_cons_succ]
                refine wpAnyH_done (by kernel_rfl) ?_ _
                go_wp2_with fail
                go_meet
                exact ⟨⟨bE, bB, rfl, rfl, hlobE, hlobB, AI.out, AH.out, hS0⟩, rfl, rfl⟩
            · rw [if_pos (by rfl)]
              refine wp_allocN 44 14 rfl rfl zero16 (A := (arr 16 z16)) rfl ?_
              obtain ⟨wcb, hw⟩ : ∃ x, x = (wc).alloc (.cells (arr 16 z16) 44) := ⟨_, rfl⟩
              rw [← hw]
              have hb : Below (wc).heap.size (wc) wcb := by rw [hw]; exact (Below.refl _ _).alloc (Nat.le_refl _) _
              have ABcb := Lib.hid (show ArrAt wcb (wc).heap.size (arr 16 z16) by rw [hw]; exact fr16 _)
              obtain ⟨bB, hbk⟩ : ∃ x, x = (wc).heap.size := ⟨_, rfl⟩
              rw [← hbk] at ABcb
              have hlobB : w3.heap.size ≤ bB := by rw [hbk]; exact hS0.size
              have hhibB : bB < wcb.heap.size := ABcb.out.lt
              have hSN : Below w3.heap.size w3 wcb := hS0.trans (hb.mono hS0.size)
              rw [← hbk]
              clear hw hbk
              refine hK.out _ _ hSN (fun hS0 => ?_)
              clear hK K hb hSN
              try simp only [Act.put, List.setIfInBounds_toArray, List.set_cons_zero, List.set_cons_succ]
              refine wpAnyH_ready (rs := [12]) (by kernel_rfl) (by simp) (AllReadyH.cons rfl (fun K hK => ?_) AllReadyH.nil)
              · rw [if_pos (by rfl)]
                refine wp_allocN 30 12 rfl rfl zeroEnd (A := eZero) rfl ?_
                obtain ⟨wcba, hw⟩ : ∃ x, x = (wcb).alloc (.cells eZero 30) := ⟨_, rfl⟩
                rw [← hw]
                have hb : Below (wcb).heap.size (wcb) wcba := by rw [hw]; exact (Below.refl _ _).alloc (Nat.le_refl _) _
                have AEcba := Lib.hid (show ArrAt wcba (wcb).heap.size eZero by rw [hw]; exact frEnd _)
                obtain ⟨bE, hbk⟩ : ∃ x, x = (wcb).heap.size := ⟨_, rfl⟩
                rw [← hbk] at AEcba
                have hlobE : w3.heap.size ≤ bE := by rw [hbk]; exact hS0.size
                have hhibE : bE < wcba.heap.size := AEcba.out.lt
                have hnebBbE : bB < bE := by rw [hbk]; exact hhibB
                have hSN : Below w3.heap.size w3 wcba := hS0.trans (hb.mono hS0.size)
                have ABcba := Lib.hid (ABcb.out.below hb)
                have hhibB : bB < wcba.heap.size := Nat.lt_of_lt_of_le hhibB hb.size
                rw [← hbk]
                clear hw hbk
                refine hK.out _ _ hSN (fun hS0 => ?_)
                clear hK K hb hSN
                try simp only [Act.put, List.setIfInBounds_toArray, List.set_cons_zero, List.set_cons_succ]
                have hS2 : Below w3.heap.size w3 ((wcba).setCells bE 0 (eArr n h t' ph').toList) := bstore hS0 _ hlobE _ _
                have AF := Lib.hid (AEcba.out.store (eArr n h t' ph') rfl)
                have AG := Lib.hid (ABcba.out.kept (Keeps.setCells (eArr n h t' ph').toList (Keeps.refl (One bE) wcba) 0) (fun e => by have e : bB = bE := e; omega))
                have hS3 : Below w3.heap.size w3 (((wcba).setCells bE 0 (eArr n h t' ph').toList).setCells bB 0 (A).toList) := bstore hS2 _ hlobB _ _
                have AH := Lib.hid (AG.out.store A (by rw [HBY.out.size, arr_size]))
                have AI := Lib.hid (AF.out.kept (Keeps.setCells (A).toList (Keeps.refl (One bB) _) 0) (fun e => by have e : bE = bB := e; omega))
                refine wpAnyH_ready (rs := [14]) (by kernel_rfl) (by simp) (AllReadyH.cons rfl (fun K hK => ?_) AllReadyH.nil)
                rw [if_pos (by rfl)]
                refine wp_storeN 30 (.tmp 12) (.tmp 80) rfl rfl (bE) 0 (eArr n h t' ph') (by first | rfl | simp [Act.eval, Act.put]) (by first | rfl | simp [Act.eval, Act.put]) AEcba.out.th (eArr_size _ _ _ _) (eArr_one _ _ _ _) ?_
                refine hK.out _ _ hS2 (fun hS0 => ?_)
                clear hK K
                try simp only [Act.put, List.setIfInBounds_toArray, List.set_cons_zero, List.set_cons_succ]
                refine takeD 13 (i := 15) (v := (.int .i64 at_)) rfl rfl (by kernel_rfl) (by kernel_rfl) (by kernel_rfl) (fun _ _ _ h => h) (Or.inl ⟨by rfl, by (intro w' _; go_simp)⟩) (by assumption) ?_
                try simp only [Act.put, List.setIfInBounds_toArray, List.set_cons_zero, List.set_cons_succ]
                refine wpAnyH_ready (rs := [16]) (by kernel_rfl) (by simp) (AllReadyH.cons rfl (fun K hK => ?_) AllReadyH.nil)
                rw [if_pos (by rfl)]
                refine wp_storeN 44 (.tmp 14) (.tmp 82) rfl rfl (bB) 0 A (by first | rfl | simp [Act.eval, Act.put]) (by first | rfl | simp [Act.eval, Act.put]) (by have := AG.out.th; rwa [arr_size, ← HBY.out.size] at this) (by rw [HBY.out.size]; exact size16) HBY.out.one ?_
                refine hK.out _ _ hS3 (fun hS0 => ?_)
                clear hK K
                try simp only [Act.put, List.setIfInBounds_toArray, List.set_cons_zero, List.set_cons_succ]
                refine takeD 15 (i := 17) (v := (.int .i64 er)) rfl rfl (by kernel_rfl) (by kernel_rfl) (by kernel_rfl) (fun _ _ _ h => h) (Or.inl ⟨by rfl, by (intro w' _; go_simp)⟩) (by assumption) ?_
                try simp only [Act.put, List.setIfInBounds_toArray, List.set_cons_zero, List.set_cons_succ]
                refine wpAnyH_done (by kernel_rfl) ?_ _
                go_wp2_with fail
                go_meet
                exact ⟨⟨bE, bB, rfl, rfl, hlobE, hlobB, AI.out, AH.out, hS0⟩, rfl, rfl⟩
          · rw [if_pos (by rfl)]
            refine wp_allocN 30 12 rfl rfl zeroEnd (A := eZero) rfl ?_
            obtain ⟨wa, hw⟩ : ∃ x, x = (w3.drew).alloc (.cells eZero 30) := ⟨_, rfl⟩
            rw [← hw]
            have hb : Below (w3.drew).heap.size (w3.drew) wa := by rw [hw]; exact (Below.refl _ _).alloc (Nat.le_refl _) _
            have AEa := Lib.hid (show ArrAt wa (w3.drew).heap.size eZero by rw [hw]; exact frEnd _)
            obtain ⟨bE, hbk⟩ : ∃ x, x = (w3.drew).heap.size := ⟨_, rfl⟩
            rw [← hbk] at AEa
            have hlobE : w3.heap.size ≤ bE := by rw [hbk]; exact hS0.size
            have hhibE : bE < wa.heap.size := AEa.out.lt
            have hSN : Below w3.heap.size w3 wa := hS0.trans (hb.mono hS0.size)
            rw [← hbk]
            clear hw hbk
            refine hK.out _ _ hSN (fun hS0 => ?_)
            clear hK K hb hSN
            try simp only [Act.put, List.setIfInBounds_toArray, List.set_cons_zero, List.set_cons_succ]
            refine wpAnyH_ready (rs := [6, 13]) (by kernel_rfl) (by simp) (AllReadyH.cons rfl (fun K hK => ?_) (AllReadyH.cons rfl (fun K hK => ?_) AllReadyH.nil))
            · rw [if_pos (by rfl)]
              go_simp
              refine (HC.out _).mono ?_
              rintro e wac ⟨rfl, hb⟩
              have hSN : Below w3.heap.size w3 wac := hS0.trans (hb.mono hS0.size)
              have AEac := Lib.hid (AEa.out.below hb)
              have hhibE : bE < wac.heap.size := Nat.lt_of_lt_of_le hhibE hb.size
              refine hK.out _ _ hSN (fun hS0 => ?_)
              clear hK K hb hSN
              try simp only [Act.put, List.setIfInBounds_toArray, List.set_cons_zero, List.set_cons_succ]
              refine takeD 72 (i := 7) (v := (.tuple #[.agg (eArr n h t' ph'), .int .i64 at_, .agg A, .int .i64 er])) rfl rfl (by kernel_rfl) (by kernel_rfl) (by kernel_rfl) (fun _ _ _ h => h) (Or.inl ⟨by rfl, by (intro w' _; go_simp)⟩) (by assumption) ?_
              try simp only [Act.put, List.setIfInBounds_toArray, List.set_cons_zero, List.set_cons_succ]
              refine takeD 80 (i := 8) (v := (.agg (eArr n h t' ph'))) rfl rfl (by kernel_rfl) (by kernel_rfl) (by kernel_rfl) (fun _ _ _ h => h) (Or.inl ⟨by rfl, by (intro w' _; go_simp)⟩) (by assumption) ?_
              try simp only [Act.put, List.setIfInBounds_toArray, List.set_cons_zero, List.set_cons_succ]
              refine takeD 81 (i := 9) (v := (.int .i64 at_)) rfl rfl (by kernel_rfl) (by kernel_rfl) (by kernel_rfl) (fun _ _ _ h => h) (Or.inl ⟨by rfl, by (intro w' _; go_simp)⟩) (by assumption) ?_
              try simp only [Act.put, List.setIfInBounds_toArray, List.set_cons_zero, List.set_cons_succ]
              refine takeD 82 (i := 10) (v := (.agg A)) rfl rfl (by kernel_rfl) (by kernel_rfl) (by kernel_rfl) (fun _ _ _ h => h) (Or.inl ⟨by rfl, by (intro w' _; go_simp)⟩) (by assumption) ?_
              try simp only [Act.put, List.setIfInBounds_toArray, List.set_cons_zero, List.set_cons_succ]
              refine takeD 83 (i := 11) (v := (.int .i64 er)) rfl rfl (by kernel_rfl) (by kernel_rfl) (by kernel_rfl) (fun _ _ _ h => h) (Or.inl ⟨by rfl, by (intro w' _; go_simp)⟩) (by assumption) ?_
              try simp only [Act.put, List.setIfInBounds_toArray, List.set_cons_zero, List.set_cons_succ]
              refine wpAnyH_ready (rs := [13]) (by kernel_rfl) (by simp) (AllReadyH.cons rfl (fun K hK => ?_) AllReadyH.nil)
              · rw [if_pos (by rfl)]
                refine wp_allocN 44 14 rfl rfl zero16 (A := (arr 16 z16)) rfl ?_
                obtain ⟨wacb, hw⟩ : ∃ x, x = (wac).alloc (.cells (arr 16 z16) 44) := ⟨_, rfl⟩
                rw [← hw]
                have hb : Below (wac).heap.size (wac) wacb := by rw [hw]; exact (Below.refl _ _).alloc (Nat.le_refl _) _
                have ABacb := Lib.hid (show ArrAt wacb (wac).heap.size (arr 16 z16) by rw [hw]; exact fr16 _)
                obtain ⟨bB, hbk⟩ : ∃ x, x = (wac).heap.size := ⟨_, rfl⟩
                rw [← hbk] at ABacb
                have hlobB : w3.heap.size ≤ bB := by rw [hbk]; exact hS0.size
                have hhibB : bB < wacb.heap.size := ABacb.out.lt
                have hnebEbB : bE < bB := by rw [hbk]; exact hhibE
                have hSN : Below w3.heap.size w3 wacb := hS0.trans (hb.mono hS0.size)
                have AEacb := Lib.hid (AEac.out.below hb)
                have hhibE : bE < wacb.heap.size := Nat.lt_of_lt_of_le hhibE hb.size
                rw [← hbk]
                clear hw hbk
                refine hK.out _ _ hSN (fun hS0 => ?_)
                clear hK K hb hSN
                try simp only [Act.put, List.setIfInBounds_toArray, List.set_cons_zero, List.set_cons_succ]
                have hS2 : Below w3.heap.size w3 ((wacb).setCells bE 0 (eArr n h t' ph').toList) := bstore hS0 _ hlobE _ _
                have AF := Lib.hid (AEacb.out.store (eArr n h t' ph') rfl)
                have AG := Lib.hid (ABacb.out.kept (Keeps.setCells (eArr n h t' ph').toList (Keeps.refl (One bE) wacb) 0) (fun e => by have e : bB = bE := e; omega))
                have hS3 : Below w3.heap.size w3 (((wacb).setCells bE 0 (eArr n h t' ph').toList).setCells bB 0 (A).toList) := bstore hS2 _ hlobB _ _
                have AH := Lib.hid (AG.out.store A (by rw [HBY.out.size, arr_size]))
                have AI := Lib.hid (AF.out.kept (Keeps.setCells (A).toList (Keeps.refl (One bB) _) 0) (fun e => by have e : bE = bB := e; omega))
                refine wpAnyH_ready (rs := [14]) (by kernel_rfl) (by simp) (AllReadyH.cons rfl (fun K hK => ?_) AllReadyH.nil)
                rw [if_pos (by rfl)]
                refine wp_storeN 30 (.tmp 12) (.tmp 80) rfl rfl (bE) 0 (eArr n h t' ph') (by first | rfl | simp [Act.eval, Act.put]) (by first | rfl | simp [Act.eval, Act.put]) AEacb.out.th (eArr_size _ _ _ _) (eArr_one _ _ _ _) ?_
                refine hK.out _ _ hS2 (fun hS0 => ?_)
                clear hK K
                try simp only [Act.put, List.setIfInBounds_toArray, List.set_cons_zero, List.set_cons_succ]
                refine takeD 13 (i := 15) (v := (.int .i64 at_)) rfl rfl (by kernel_rfl) (by kernel_rfl) (by kernel_rfl) (fun _ _ _ h => h) (Or.inl ⟨by rfl, by (intro w' _; go_simp)⟩) (by assumption) ?_
                try simp only [Act.put, List.setIfInBounds_toArray, List.set_cons_zero, List.set_cons_succ]
                refine wpAnyH_ready (rs := [16]) (by kernel_rfl) (by simp) (AllReadyH.cons rfl (fun K hK => ?_) AllReadyH.nil)
                rw [if_pos (by rfl)]
                refine wp_storeN 44 (.tmp 14) (.tmp 82) rfl rfl (bB) 0 A (by first | rfl | simp [Act.eval, Act.put]) (by first | rfl | simp [Act.eval, Act.put]) (by have := AG.out.th; rwa [arr_size, ← HBY.out.size] at this) (by rw [HBY.out.size]; exact size16) HBY.out.one ?_
                refine hK.out _ _ hS3 (fun hS0 => ?_)
                clear hK K
                try simp only [Act.put, List.setIfInBounds_toArray, List.set_cons_zero, List.set_cons_succ]
                refine takeD 15 (i := 17) (v := (.int .i64 er)) rfl rfl (by kernel_rfl) (by kernel_rfl) (by kernel_rfl) (fun _ _ _ h => h) (Or.inl ⟨by rfl, by (intro w' _; go_simp)⟩) (by assumption) ?_
                try simp only [Act.put, List.setIfInBounds_toArray, List.set_cons_zero, List.set_cons_succ]
                refine wpAnyH_done (by kernel_rfl) ?_ _
                go_wp2_with fail
                go_meet
                exact ⟨⟨bE, bB, rfl, rfl, hlobE, hlobB, AI.out, AH.out, hS0⟩, rfl, rfl⟩
            · rw [if_pos (by rfl)]
              refine wp_allocN 44 14 rfl rfl zero16 (A := (arr 16 z16)) rfl ?_
              obtain ⟨wab, hw⟩ : ∃ x, x = (wa).alloc (.cells (arr 16 z16) 44) := ⟨_, rfl⟩
              rw [← hw]
              have hb : Below (wa).heap.size (wa) wab := by rw [hw]; exact (Below.refl _ _).alloc (Nat.le_refl _) _
              have ABab := Lib.hid (show ArrAt wab (wa).heap.size (arr 16 z16) by rw [hw]; exact fr16 _)
              obtain ⟨bB, hbk⟩ : ∃ x, x = (wa).heap.size := ⟨_, rfl⟩
              rw [← hbk] at ABab
              have hlobB : w3.heap.size ≤ bB := by rw [hbk]; exact hS0.size
              have hhibB : bB < wab.heap.size := ABab.out.lt
              have hnebEbB : bE < bB := by rw [hbk]; exact hhibE
              have hSN : Below w3.heap.size w3 wab := hS0.trans (hb.mono hS0.size)
              have AEab := Lib.hid (AEa.out.below hb)
              have hhibE : bE < wab.heap.size := Nat.lt_of_lt_of_le hhibE hb.size
              rw [← hbk]
              clear hw hbk
              refine hK.out _ _ hSN (fun hS0 => ?_)
              clear hK K hb hSN
              try simp only [Act.put, List.setIfInBounds_toArray, List.set_cons_zero, List.set_cons_succ]
              refine wpAnyH_ready (rs := [6]) (by kernel_rfl) (by simp) (AllReadyH.cons rfl (fun K hK => ?_) AllReadyH.nil)
              · rw [if_pos (by rfl)]
                go_simp
                refine (HC.out _).mono ?_
                rintro e wabc ⟨rfl, hb⟩
                have hSN : Below w3.heap.size w3 wabc := hS0.trans (hb.mono hS0.size)
                have AEabc := Lib.hid (AEab.out.below hb)
                have hhibE : bE < wabc.heap.size := Nat.lt_of_lt_of_le hhibE hb.size
                have ABabc := Lib.hid (ABab.out.below hb)
                have hhibB : bB < wabc.heap.size := Nat.lt_of_lt_of_le hhibB hb.size
                refine hK.out _ _ hSN (fun hS0 => ?_)
                clear hK K hb hSN
                try simp only [Act.put, List.setIfInBounds_toArray, List.set_cons_zero, List.set_cons_succ]
                refine takeD 72 (i := 7) (v := (.tuple #[.agg (eArr n h t' ph'), .int .i64 at_, .agg A, .int .i64 er])) rfl rfl (by kernel_rfl) (by kernel_rfl) (by kernel_rfl) (fun _ _ _ h => h) (Or.inl ⟨by rfl, by (intro w' _; go_simp)⟩) (by assumption) ?_
                try simp only [Act.put, List.setIfInBounds_toArray, List.set_cons_zero, List.set_cons_succ]
                refine takeD 80 (i := 8) (v := (.agg (eArr n h t' ph'))) rfl rfl (by kernel_rfl) (by kernel_rfl) (by kernel_rfl) (fun _ _ _ h => h) (Or.inl ⟨by rfl, by (intro w' _; go_simp)⟩) (by assumption) ?_
                try simp only [Act.put, List.setIfInBounds_toArray, List.set_cons_zero, List.set_cons_succ]
                refine takeD 81 (i := 9) (v := (.int .i64 at_)) rfl rfl (by kernel_rfl) (by kernel_rfl) (by kernel_rfl) (fun _ _ _ h => h) (Or.inl ⟨by rfl, by (intro w' _; go_simp)⟩) (by assumption) ?_
                try simp only [Act.put, List.setIfInBounds_toArray, List.set_cons_zero, List.set_cons_succ]
                refine takeD 82 (i := 10) (v := (.agg A)) rfl rfl (by kernel_rfl) (by kernel_rfl) (by kernel_rfl) (fun _ _ _ h => h) (Or.inl ⟨by rfl, by (intro w' _; go_simp)⟩) (by assumption) ?_
                try simp only [Act.put, List.setIfInBounds_toArray, List.set_cons_zero, List.set_cons_succ]
                refine takeD 83 (i := 11) (v := (.int .i64 er)) rfl rfl (by kernel_rfl) (by kernel_rfl) (by kernel_rfl) (fun _ _ _ h => h) (Or.inl ⟨by rfl, by (intro w' _; go_simp)⟩) (by assumption) ?_
                try simp only [Act.put, List.setIfInBounds_toArray, List.set_cons_zero, List.set_cons_succ]
                have hS2 : Below w3.heap.size w3 ((wabc).setCells bE 0 (eArr n h t' ph').toList) := bstore hS0 _ hlobE _ _
                have AF := Lib.hid (AEabc.out.store (eArr n h t' ph') rfl)
                have AG := Lib.hid (ABabc.out.kept (Keeps.setCells (eArr n h t' ph').toList (Keeps.refl (One bE) wabc) 0) (fun e => by have e : bB = bE := e; omega))
                have hS3 : Below w3.heap.size w3 (((wabc).setCells bE 0 (eArr n h t' ph').toList).setCells bB 0 (A).toList) := bstore hS2 _ hlobB _ _
                have AH := Lib.hid (AG.out.store A (by rw [HBY.out.size, arr_size]))
                have AI := Lib.hid (AF.out.kept (Keeps.setCells (A).toList (Keeps.refl (One bB) _) 0) (fun e => by have e : bE = bB := e; omega))
                refine wpAnyH_ready (rs := [14]) (by kernel_rfl) (by simp) (AllReadyH.cons rfl (fun K hK => ?_) AllReadyH.nil)
                rw [if_pos (by rfl)]
                refine wp_storeN 30 (.tmp 12) (.tmp 80) rfl rfl (bE) 0 (eArr n h t' ph') (by first | rfl | simp [Act.eval, Act.put]) (by first | rfl | simp [Act.eval, Act.put]) AEabc.out.th (eArr_size _ _ _ _) (eArr_one _ _ _ _) ?_
                refine hK.out _ _ hS2 (fun hS0 => ?_)
                clear hK K
                try simp only [Act.put, List.setIfInBounds_toArray, List.set_cons_zero, List.set_cons_succ]
                refine takeD 13 (i := 15) (v := (.int .i64 at_)) rfl rfl (by kernel_rfl) (by kernel_rfl) (by kernel_rfl) (fun _ _ _ h => h) (Or.inl ⟨by rfl, by (intro w' _; go_simp)⟩) (by assumption) ?_
                try simp only [Act.put, List.setIfInBounds_toArray, List.set_cons_zero, List.set_cons_succ]
                refine wpAnyH_ready (rs := [16]) (by kernel_rfl) (by simp) (AllReadyH.cons rfl (fun K hK => ?_) AllReadyH.nil)
                rw [if_pos (by rfl)]
                refine wp_storeN 44 (.tmp 14) (.tmp 82) rfl rfl (bB) 0 A (by first | rfl | simp [Act.eval, Act.put]) (by first | rfl | simp [Act.eval, Act.put]) (by have := AG.out.th; rwa [arr_size, ← HBY.out.size] at this) (by rw [HBY.out.size]; exact size16) HBY.out.one ?_
                refine hK.out _ _ hS3 (fun hS0 => ?_)
                clear hK K
                try simp only [Act.put, List.setIfInBounds_toArray, List.set_cons_zero, List.set_cons_succ]
                refine takeD 15 (i := 17) (v := (.int .i64 er)) rfl rfl (by kernel_rfl) (by kernel_rfl) (by kernel_rfl) (fun _ _ _ h => h) (Or.inl ⟨by rfl, by (intro w' _; go_simp)⟩) (by assumption) ?_
                try simp only [Act.put, List.setIfInBounds_toArray, List.set_cons_zero, List.set_cons_succ]
                refine wpAnyH_done (by kernel_rfl) ?_ _
                go_wp2_with fail
                go_meet
                exact ⟨⟨bE, bB, rfl, rfl, hlobE, hlobB, AI.out, AH.out, hS0⟩, rfl, rfl⟩
          · rw [if_pos (by rfl)]
            refine wp_allocN 44 14 rfl rfl zero16 (A := (arr 16 z16)) rfl ?_
            obtain ⟨wb, hw⟩ : ∃ x, x = (w3.drew).alloc (.cells (arr 16 z16) 44) := ⟨_, rfl⟩
            rw [← hw]
            have hb : Below (w3.drew).heap.size (w3.drew) wb := by rw [hw]; exact (Below.refl _ _).alloc (Nat.le_refl _) _
            have ABb := Lib.hid (show ArrAt wb (w3.drew).heap.size (arr 16 z16) by rw [hw]; exact fr16 _)
            obtain ⟨bB, hbk⟩ : ∃ x, x = (w3.drew).heap.size := ⟨_, rfl⟩
            rw [← hbk] at ABb
            have hlobB : w3.heap.size ≤ bB := by rw [hbk]; exact hS0.size
            have hhibB : bB < wb.heap.size := ABb.out.lt
            have hSN : Below w3.heap.size w3 wb := hS0.trans (hb.mono hS0.size)
            rw [← hbk]
            clear hw hbk
            refine hK.out _ _ hSN (fun hS0 => ?_)
            clear hK K hb hSN
            try simp only [Act.put, List.setIfInBounds_toArray, List.set_cons_zero, List.set_cons_succ]
            refine wpAnyH_ready (rs := [6, 12]) (by kernel_rfl) (by simp) (AllReadyH.cons rfl (fun K hK => ?_) (AllReadyH.cons rfl (fun K hK => ?_) AllReadyH.nil))
            · rw [if_pos (by rfl)]
              go_simp
              refine (HC.out _).mono ?_
              rintro e wbc ⟨rfl, hb⟩
              have hSN : Below w3.heap.size w3 wbc := hS0.trans (hb.mono hS0.size)
              have ABbc := Lib.hid (ABb.out.below hb)
              have hhibB : bB < wbc.heap.size := Nat.lt_of_lt_of_le hhibB hb.size
              refine hK.out _ _ hSN (fun hS0 => ?_)
              clear hK K hb hSN
              try simp only [Act.put, List.setIfInBounds_toArray, List.set_cons_zero, List.set_cons_succ]
              refine takeD 72 (i := 7) (v := (.tuple #[.agg (eArr n h t' ph'), .int .i64 at_, .agg A, .int .i64 er])) rfl rfl (by kernel_rfl) (by kernel_rfl) (by kernel_rfl) (fun _ _ _ h => h) (Or.inl ⟨by rfl, by (intro w' _; go_simp)⟩) (by assumption) ?_
              try simp only [Act.put, List.setIfInBounds_toArray, List.set_cons_zero, List.set_cons_succ]
              refine takeD 80 (i := 8) (v := (.agg (eArr n h t' ph'))) rfl rfl (by kernel_rfl) (by kernel_rfl) (by kernel_rfl) (fun _ _ _ h => h) (Or.inl ⟨by rfl, by (intro w' _; go_simp)⟩) (by assumption) ?_
              try simp only [Act.put, List.setIfInBounds_toArray, List.set_cons_zero, List.set_cons_succ]
              refine takeD 81 (i := 9) (v := (.int .i64 at_)) rfl rfl (by kernel_rfl) (by kernel_rfl) (by kernel_rfl) (fun _ _ _ h => h) (Or.inl ⟨by rfl, by (intro w' _; go_simp)⟩) (by assumption) ?_
              try simp only [Act.put, List.setIfInBounds_toArray, List.set_cons_zero, List.set_cons_succ]
              refine takeD 82 (i := 10) (v := (.agg A)) rfl rfl (by kernel_rfl) (by kernel_rfl) (by kernel_rfl) (fun _ _ _ h => h) (Or.inl ⟨by rfl, by (intro w' _; go_simp)⟩) (by assumption) ?_
              try simp only [Act.put, List.setIfInBounds_toArray, List.set_cons_zero, List.set_cons_succ]
              refine takeD 83 (i := 11) (v := (.int .i64 er)) rfl rfl (by kernel_rfl) (by kernel_rfl) (by kernel_rfl) (fun _ _ _ h => h) (Or.inl ⟨by rfl, by (intro w' _; go_simp)⟩) (by assumption) ?_
              try simp only [Act.put, List.setIfInBounds_toArray, List.set_cons_zero, List.set_cons_succ]
              refine wpAnyH_ready (rs := [12]) (by kernel_rfl) (by simp) (AllReadyH.cons rfl (fun K hK => ?_) AllReadyH.nil)
              · rw [if_pos (by rfl)]
                refine wp_allocN 30 12 rfl rfl zeroEnd (A := eZero) rfl ?_
                obtain ⟨wbca, hw⟩ : ∃ x, x = (wbc).alloc (.cells eZero 30) := ⟨_, rfl⟩
                rw [← hw]
                have hb : Below (wbc).heap.size (wbc) wbca := by rw [hw]; exact (Below.refl _ _).alloc (Nat.le_refl _) _
                have AEbca := Lib.hid (show ArrAt wbca (wbc).heap.size eZero by rw [hw]; exact frEnd _)
                obtain ⟨bE, hbk⟩ : ∃ x, x = (wbc).heap.size := ⟨_, rfl⟩
                rw [← hbk] at AEbca
                have hlobE : w3.heap.size ≤ bE := by rw [hbk]; exact hS0.size
                have hhibE : bE < wbca.heap.size := AEbca.out.lt
                have hnebBbE : bB < bE := by rw [hbk]; exact hhibB
                have hSN : Below w3.heap.size w3 wbca := hS0.trans (hb.mono hS0.size)
                have ABbca := Lib.hid (ABbc.out.below hb)
                have hhibB : bB < wbca.heap.size := Nat.lt_of_lt_of_le hhibB hb.size
                rw [← hbk]
                clear hw hbk
                refine hK.out _ _ hSN (fun hS0 => ?_)
                clear hK K hb hSN
                try simp only [Act.put, List.setIfInBounds_toArray, List.set_cons_zero, List.set_cons_succ]
                have hS2 : Below w3.heap.size w3 ((wbca).setCells bE 0 (eArr n h t' ph').toList) := bstore hS0 _ hlobE _ _
                have AF := Lib.hid (AEbca.out.store (eArr n h t' ph') rfl)
                have AG := Lib.hid (ABbca.out.kept (Keeps.setCells (eArr n h t' ph').toList (Keeps.refl (One bE) wbca) 0) (fun e => by have e : bB = bE := e; omega))
                have hS3 : Below w3.heap.size w3 (((wbca).setCells bE 0 (eArr n h t' ph').toList).setCells bB 0 (A).toList) := bstore hS2 _ hlobB _ _
                have AH := Lib.hid (AG.out.store A (by rw [HBY.out.size, arr_size]))
                have AI := Lib.hid (AF.out.kept (Keeps.setCells (A).toList (Keeps.refl (One bB) _) 0) (fun e => by have e : bE = bB := e; omega))
                refine wpAnyH_ready (rs := [14]) (by kernel_rfl) (by simp) (AllReadyH.cons rfl (fun K hK => ?_) AllReadyH.nil)
                rw [if_pos (by rfl)]
                refine wp_storeN 30 (.tmp 12) (.tmp 80) rfl rfl (bE) 0 (eArr n h t' ph') (by first | rfl | simp [Act.eval, Act.put]) (by first | rfl | simp [Act.eval, Act.put]) AEbca.out.th (eArr_size _ _ _ _) (eArr_one _ _ _ _) ?_
                refine hK.out _ _ hS2 (fun hS0 => ?_)
                clear hK K
                try simp only [Act.put, List.setIfInBounds_toArray, List.set_cons_zero, List.set_cons_succ]
                refine takeD 13 (i := 15) (v := (.int .i64 at_)) rfl rfl (by kernel_rfl) (by kernel_rfl) (by kernel_rfl) (fun _ _ _ h => h) (Or.inl ⟨by rfl, by (intro w' _; go_simp)⟩) (by assumption) ?_
                try simp only [Act.put, List.setIfInBounds_toArray, List.set_cons_zero, List.set_cons_succ]
                refine wpAnyH_ready (rs := [16]) (by kernel_rfl) (by simp) (AllReadyH.cons rfl (fun K hK => ?_) AllReadyH.nil)
                rw [if_pos (by rfl)]
                refine wp_storeN 44 (.tmp 14) (.tmp 82) rfl rfl (bB) 0 A (by first | rfl | simp [Act.eval, Act.put]) (by first | rfl | simp [Act.eval, Act.put]) (by have := AG.out.th; rwa [arr_size, ← HBY.out.size] at this) (by rw [HBY.out.size]; exact size16) HBY.out.one ?_
                refine hK.out _ _ hS3 (fun hS0 => ?_)
                clear hK K
                try simp only [Act.put, List.setIfInBounds_toArray, List.set_cons_zero, List.set_cons_succ]
                refine takeD 15 (i := 17) (v := (.int .i64 er)) rfl rfl (by kernel_rfl) (by kernel_rfl) (by kernel_rfl) (fun _ _ _ h => h) (Or.inl ⟨by rfl, by (intro w' _; go_simp)⟩) (by assumption) ?_
                try simp only [Act.put, List.setIfInBounds_toArray, List.set_cons_zero, List.set_cons_succ]
                refine wpAnyH_done (by kernel_rfl) ?_ _
                go_wp2_with fail
                go_meet
                exact ⟨⟨bE, bB, rfl, rfl, hlobE, hlobB, AI.out, AH.out, hS0⟩, rfl, rfl⟩
            · rw [if_pos (by rfl)]
              refine wp_allocN 30 12 rfl rfl zeroEnd (A := eZero) rfl ?_
              obtain ⟨wba, hw⟩ : ∃ x, x = (wb).alloc (.cells eZero 30) := ⟨_, rfl⟩
              rw [← hw]
              have hb : Below (wb).heap.size (wb) wba := by rw [hw]; exact (Below.refl _ _).alloc (Nat.le_refl _) _
              have AEba := Lib.hid (show ArrAt wba (wb).heap.size eZero by rw [hw]; exact frEnd _)
              obtain ⟨bE, hbk⟩ : ∃ x, x = (wb).heap.size := ⟨_, rfl⟩
              rw [← hbk] at AEba
              have hlobE : w3.heap.size ≤ bE := by rw [hbk]; exact hS0.size
              have hhibE : bE < wba.heap.size := AEba.out.lt
              have hnebBbE : bB < bE := by rw [hbk]; exact hhibB
              have hSN : Below w3.heap.size w3 wba := hS0.trans (hb.mono hS0.size)
              have ABba := Lib.hid (ABb.out.below hb)
              have hhibB : bB < wba.heap.size := Nat.lt_of_lt_of_le hhibB hb.size
              rw [← hbk]
              clear hw hbk
              refine hK.out _ _ hSN (fun hS0 => ?_)
              clear hK K hb hSN
              try simp only [Act.put, List.setIfInBounds_toArray, List.set_cons_zero, List.set_cons_succ]
              refine wpAnyH_ready (rs := [6]) (by kernel_rfl) (by simp) (AllReadyH.cons rfl (fun K hK => ?_) AllReadyH.nil)
              · rw [if_pos (by rfl)]
                go_simp
                refine (HC.out _).mono ?_
                rintro e wbac ⟨rfl, hb⟩
                have hSN : Below w3.heap.size w3 wbac := hS0.trans (hb.mono hS0.size)
                have ABbac := Lib.hid (ABba.out.below hb)
                have hhibB : bB < wbac.heap.size := Nat.lt_of_lt_of_le hhibB hb.size
                have AEbac := Lib.hid (AEba.out.below hb)
                have hhibE : bE < wbac.heap.size := Nat.lt_of_lt_of_le hhibE hb.size
                refine hK.out _ _ hSN (fun hS0 => ?_)
                clear hK K hb hSN
                try simp only [Act.put, List.setIfInBounds_toArray, List.set_cons_zero, List.set_cons_succ]
                refine takeD 72 (i := 7) (v := (.tuple #[.agg (eArr n h t' ph'), .int .i64 at_, .agg A, .int .i64 er])) rfl rfl (by kernel_rfl) (by kernel_rfl) (by kernel_rfl) (fun _ _ _ h => h) (Or.inl ⟨by rfl, by (intro w' _; go_simp)⟩) (by assumption) ?_
                try simp only [Act.put, List.setIfInBounds_toArray, List.set_cons_zero, List.set_cons_succ]
                refine takeD 80 (i := 8) (v := (.agg (eArr n h t' ph'))) rfl rfl (by kernel_rfl) (by kernel_rfl) (by kernel_rfl) (fun _ _ _ h => h) (Or.inl ⟨by rfl, by (intro w' _; go_simp)⟩) (by assumption) ?_
                try simp only [Act.put, List.setIfInBounds_toArray, List.set_cons_zero, List.set_cons_succ]
                refine takeD 81 (i := 9) (v := (.int .i64 at_)) rfl rfl (by kernel_rfl) (by kernel_rfl) (by kernel_rfl) (fun _ _ _ h => h) (Or.inl ⟨by rfl, by (intro w' _; go_simp)⟩) (by assumption) ?_
                try simp only [Act.put, List.setIfInBounds_toArray, List.set_cons_zero, List.set_cons_succ]
                refine takeD 82 (i := 10) (v := (.agg A)) rfl rfl (by kernel_rfl) (by kernel_rfl) (by kernel_rfl) (fun _ _ _ h => h) (Or.inl ⟨by rfl, by (intro w' _; go_simp)⟩) (by assumption) ?_
                try simp only [Act.put, List.setIfInBounds_toArray, List.set_cons_zero, List.set_cons_succ]
                refine takeD 83 (i := 11) (v := (.int .i64 er)) rfl rfl (by kernel_rfl) (by kernel_rfl) (by kernel_rfl) (fun _ _ _ h => h) (Or.inl ⟨by rfl, by (intro w' _; go_simp)⟩) (by assumption) ?_
                try simp only [Act.put, List.setIfInBounds_toArray, List.set_cons_zero, List.set_cons_succ]
                have hS2 : Below w3.heap.size w3 ((wbac).setCells bE 0 (eArr n h t' ph').toList) := bstore hS0 _ hlobE _ _
                have AF := Lib.hid (AEbac.out.store (eArr n h t' ph') rfl)
                have AG := Lib.hid (ABbac.out.kept (Keeps.setCells (eArr n h t' ph').toList (Keeps.refl (One bE) wbac) 0) (fun e => by have e : bB = bE := e; omega))
                have hS3 : Below w3.heap.size w3 (((wbac).setCells bE 0 (eArr n h t' ph').toList).setCells bB 0 (A).toList) := bstore hS2 _ hlobB _ _
                have AH := Lib.hid (AG.out.store A (by rw [HBY.out.size, arr_size]))
                have AI := Lib.hid (AF.out.kept (Keeps.setCells (A).toList (Keeps.refl (One bB) _) 0) (fun e => by have e : bE = bB := e; omega))
                refine wpAnyH_ready (rs := [14]) (by kernel_rfl) (by simp) (AllReadyH.cons rfl (fun K hK => ?_) AllReadyH.nil)
                rw [if_pos (by rfl)]
                refine wp_storeN 30 (.tmp 12) (.tmp 80) rfl rfl (bE) 0 (eArr n h t' ph') (by first | rfl | simp [Act.eval, Act.put]) (by first | rfl | simp [Act.eval, Act.put]) AEbac.out.th (eArr_size _ _ _ _) (eArr_one _ _ _ _) ?_
                refine hK.out _ _ hS2 (fun hS0 => ?_)
                clear hK K
                try simp only [Act.put, List.setIfInBounds_toArray, List.set_cons_zero, List.set_cons_succ]
                refine takeD 13 (i := 15) (v := (.int .i64 at_)) rfl rfl (by kernel_rfl) (by kernel_rfl) (by kernel_rfl) (fun _ _ _ h => h) (Or.inl ⟨by rfl, by (intro w' _; go_simp)⟩) (by assumption) ?_
                try simp only [Act.put, List.setIfInBounds_toArray, List.set_cons_zero, List.set_cons_succ]
                refine wpAnyH_ready (rs := [16]) (by kernel_rfl) (by simp) (AllReadyH.cons rfl (fun K hK => ?_) AllReadyH.nil)
                rw [if_pos (by rfl)]
                refine wp_storeN 44 (.tmp 14) (.tmp 82) rfl rfl (bB) 0 A (by first | rfl | simp [Act.eval, Act.put]) (by first | rfl | simp [Act.eval, Act.put]) (by have := AG.out.th; rwa [arr_size, ← HBY.out.size] at this) (by rw [HBY.out.size]; exact size16) HBY.out.one ?_
                refine hK.out _ _ hS3 (fun hS0 => ?_)
                clear hK K
                try simp only [Act.put, List.setIfInBounds_toArray, List.set_cons_zero, List.set_cons_succ]
                refine takeD 15 (i := 17) (v := (.int .i64 er)) rfl rfl (by kernel_rfl) (by kernel_rfl) (by kernel_rfl) (fun _ _ _ h => h) (Or.inl ⟨by rfl, by (intro w' _; go_simp)⟩) (by assumption) ?_
                try simp only [Act.put, List.setIfInBounds_toArray, List.set_cons_zero, List.set_cons_succ]
                refine wpAnyH_done (by kernel_rfl) ?_ _
                go_wp2_with fail
                go_meet
                exact ⟨⟨bE, bB, rfl, rfl, hlobE, hlobB, AI.out, AH.out, hS0⟩, rfl, rfl⟩
        case rest =>
          obtain ⟨⟨bE, bB, rfl, rfl, hlo, hlo2, ha, ha2, hb⟩, rfl, rfl⟩ := hcut
          have AE := Lib.hid ha
          have AB := Lib.hid ha2
          have A10' := Lib.hid (A10.out.below hb)
          have M4 := Lib.hid (M3.out.below hb)
          have hne : bE ≠ mb := by omega
          clear ha ha2 hb
          go_upto_region 14 with (first
            | ((with_reducible show wpList _ _ _ (⟨some _, .load 30 _, _, _, _, _⟩ :: _) _ _); refine wpList_loadA rfl AE.out 30 (.tmp 12) rfl rfl hdE hdR HES'.out ?_)
            | ((with_reducible show wpList _ _ _ (⟨none, .store _ (.tmp 7) _, _, _, _, _⟩ :: _) _ _); refine wpList_storeA rfl (b := mb) (A := eArr n h t ph) (A' := eArr n h t' ph') M4.out.r 30 (.tmp 7) _ rfl rfl (by simp [Act.eval, Act.put]) HES.out rfl (eArr_one _ _ _ _) ?_))
          obtain ⟨w5, hw⟩ : ∃ z, z = wc.setCells mb 0 (eArr n h t' ph').toList := ⟨_, rfl⟩
          rw [← hw]
          have I5 := Lib.hid (show SInv 96 4 w w5 g mb n h t' ph' by rw [hw]; exact M4.out.set)
          have A5 := Lib.hid (show ArrAt w5 b10 A by rw [hw]; exact A10'.out.kept (Keeps.setCells _ (Keeps.refl (One mb) wc) 0) (fun e => by have e : b10 = mb := e; omega))
          have B5 := Lib.hid (show ArrAt w5 bB A by rw [hw]; exact AB.out.kept (Keeps.setCells _ (Keeps.refl (One mb) wc) 0) (fun e => by have e : bB = mb := e; omega))
          clear hw AE AB A10 A10' M2 M3 M4
          have hEQ := HEQ.out
          have hNE := HNE.out
          go_upto_region 20 with (first
            | ((with_reducible show wpList _ _ _ (⟨some 89, _, _, _, _, _⟩ :: _) _ _); refine wpList_loadGA (by rfl) A5.out 44 (.tmp 10) rfl (by first | rfl | simp [Act.eval, Act.put]) Try.underlying44 rfl HAS.out ?_)
            | ((with_reducible show wpList _ _ _ (⟨some 90, _, _, _, _, _⟩ :: _) _ _); refine wpList_loadGA (by rfl) B5.out 44 (.tmp 14) rfl (by first | rfl | simp [Act.eval, Act.put]) Try.underlying44 rfl HAS.out ?_))
          clear hEQ hNE
          have hlm := I5.out.r.lt
          obtain ⟨u, hu⟩ : ∃ u, u = usd n h t' := ⟨_, rfl⟩
          have HCU := Lib.hid fun w => rUsed_ok n h t' ph' w hn hn' I5.out.q.hh I5.out.q.ht
          have HCW := Lib.hid fun w q => pFree_ok 96 4 g n h t' ph' w q
          rw [← hu] at HCU HCW
          have hult : u < n := by rw [hu]; exact usd_lt I5.out.q.hh I5.out.q.ht
          clear hu
          have c0 : w5.cell? ⟨mb, 0, none⟩ = some (.int .i64 n) := I5.out.r.cell rfl
          have c1 : w5.cell? ⟨mb, 1, none⟩ = some (.int .i64 h) := I5.out.r.cell rfl
          have c2 : w5.cell? ⟨mb, 2, none⟩ = some (.int .i64 t') := I5.out.r.cell rfl
          have c3 : w5.cell? ⟨mb, 3, none⟩ = some (.bool ph') := I5.out.r.cell rfl
          have hq0 : ∀ p : InC (Below w5.heap.size w5), p.w.cell? ⟨mb, 0, none⟩ = some (.int .i64 n) := fun p => (p.ok.cell (hlm)).trans (c0)
          have hq1 : ∀ p : InC (Below w5.heap.size w5), p.w.cell? ⟨mb, 1, none⟩ = some (.int .i64 h) := fun p => (p.ok.cell (hlm)).trans (c1)
          have hq2 : ∀ p : InC (Below w5.heap.size w5), p.w.cell? ⟨mb, 2, none⟩ = some (.int .i64 t') := fun p => (p.ok.cell (hlm)).trans (c2)
          have hq3 : ∀ p : InC (Below w5.heap.size w5), p.w.cell? ⟨mb, 3, none⟩ = some (.bool ph') := fun p => (p.ok.cell (hlm)).trans (c3)
          have HE2 : Hid (∀ p : InC (Below w5.heap.size w5), Calls Try.prog 41 #[.pointer (some ⟨g, 0, none⟩)] p.w fun e w' => e = .returned (.int .i64 ((n : Int) - 1 - (u : Nat))) ∧ Below w5.heap.size w5 w') :=
            Lib.hid fun p => (HCW.out p.w (I5.out.q.below p.ok)).mono fun e w' k => ⟨k.1, p.ok.trans (k.2.mono p.ok.size)⟩
          have HE3 : Hid (∀ p : InC (Below w5.heap.size w5), Calls Try.prog 21 #[.agg #[.int .i64 n, .int .i64 h, .int .i64 t', .bool ph']] p.w fun e w' => e = .returned (.int .i64 u) ∧ Below w5.heap.size w5 w') :=
            Lib.hid fun p => (HCU.out p.w).mono fun e w' k => ⟨k.1, p.ok.trans (k.2.mono p.ok.size)⟩
          have HE4 : Hid (∀ p : InC (Below w5.heap.size w5), Calls Try.prog 42 #[.pointer (some ⟨g, 0, none⟩)] p.w fun e w' => e = .returned (.int .i64 n) ∧ Below w5.heap.size w5 w') :=
            Lib.hid fun p => (pSize_ok 96 4 g n h t' ph' p.w (I5.out.q.below p.ok)).mono fun e w' k => ⟨k.1, p.ok.trans (k.2.mono p.ok.size)⟩
          have hNE : Nonempty (InC (Below w5.heap.size w5)) := ⟨⟨w5, Below.refl _ _⟩⟩
          clear c0 c1 c2 c3
          refine wp_quiet_in (Below w5.heap.size w5) (Below.refl _ _).drew (by kernel_rfl) (by kernel_rfl) ?_
          repeat (go_big_quiet_step (first | (with_reducible exact calls_in (HE2.out _)) | (with_reducible exact calls_in (HE3.out _)) | (with_reducible exact calls_in (HE4.out _))))
          refine wpQuiet_nil ?_
          intro _ hw'
          obtain ⟨p, hw''⟩ := hw'
          subst hw''
          have I9 := Lib.hid (I5.out.below p.ok)
          generalize p.w = W4 at *
          clear hq0 hq1 hq2 hq3 hNE HE2 HE3 HE4
          go_wp2_with fail
          go_roundw
          case rel => exact ⟨k + 1, h, t', ph', by omega, by go_num, I9.out⟩
          case measure => simp [intOf]; omega
      · have e0 : (x.k == 0) = false := by simpa using h0
        clear h0
        go_upto_region 16 with (fail)
        have hnew := rlH_lt (t := t) (k := x.n) hh
        obtain ⟨h', hv⟩ : ∃ z, z = rlH n h t x.n := ⟨_, rfl⟩
        obtain ⟨er, her⟩ : ∃ z, z = rlEr n h t x.n := ⟨_, rfl⟩
        have HC : Hid (∀ w, Calls Try.prog 35 #[.agg (eArr n h t ph), .int .i64 x.n] w fun e w' => e = .returned (.tuple #[.agg (eArr n h' t ph), .int .i64 er]) ∧ Below w.heap.size w w') := Lib.hid fun w => by rw [hv, her]; exact rRelease_any n h t ph x.n w hn hn' hh ht
        have HP : Hid (∀ w, QAt 96 4 w g n h t ph → Calls Try.prog 40 #[.pointer (some ⟨g, 0, none⟩), .int .i64 x.n] w fun e w' => e = .returned (.int .i64 er) ∧ Keeps (One g) w w' ∧ QAt 96 4 w' g n h' t ph) := Lib.hid fun w q => by rw [hv, her]; exact pRing_any _ _ _ _ _ _ _ _ _ q
        rw [← hv] at hnew
        clear hv her
        have HES := Lib.hid (eArr_size n h t ph)
        have HES' := Lib.hid (eArr_size n h' t ph)
        obtain ⟨dE, hdE, hdR⟩ := underEnd
        have hagR : ag < wr.heap.size := AW.out.lt
        go_cut [16, 17] from 98 to 108 (fun p r wc => Out1 wr (eArr n h' t ph) p wc ∧ r = .int .i64 er)
        case first =>
          refine wp_region_held_drew (S := fun w' => Below wr.heap.size wr w') (by kernel_rfl) (Below.refl _ _).drew (fun hS0 => ?_)
          refine takeD 99 (i := 0) (v := .agg (eArr n h t ph)) rfl rfl (by kernel_rfl) (by kernel_rfl) (by kernel_rfl) (fun _ _ _ h => h) (yieldsA (by rfl) 30 (.tmp 7) rfl (mb) (by first | rfl | simp [Act.eval, Act.put]) (eArr n h t ph) (fun w h => ((IR.out.r.below h).rng)) hdE hdR HES.out) (by assumption) ?_
          try simp only [Act.put, List.setIfInBounds_toArray, List.set_cons_zero, List.set_cons_succ]
          refine takeD 100 (i := 1) (v := (.slice (some ⟨ag, o, none⟩) len cap)) rfl rfl (by kernel_rfl) (by kernel_rfl) (by kernel_rfl) (fun _ _ _ h => h) (Or.inl ⟨by rfl, by (intro w' _; go_simp)⟩) (by assumption) ?_
          try simp only [Act.put, List.setIfInBounds_toArray, List.set_cons_zero, List.set_cons_succ]
          refine takeD 101 (i := 2) (v := (.int .i64 k)) rfl rfl (by kernel_rfl) (by kernel_rfl) (by kernel_rfl) (fun _ _ _ h => h) (Or.inl ⟨by rfl, by (intro w' _; go_simp)⟩) (by assumption) ?_
          try simp only [Act.put, List.setIfInBounds_toArray, List.set_cons_zero, List.set_cons_succ]
          refine takeD 102 (i := 3) (v := (.pointer (some ⟨ag, o + k * 44, none⟩))) rfl rfl (by kernel_rfl) (by kernel_rfl) (by kernel_rfl) (fun _ _ _ h => h) (Or.inl ⟨by rfl, by (intro w' _; go_simp)⟩) (by assumption) ?_
          try simp only [Act.put, List.setIfInBounds_toArray, List.set_cons_zero, List.set_cons_succ]
          refine takeD 103 (i := 4) (v := (.pointer (some ⟨ag, o + k * 44 + 1, none⟩))) rfl rfl (by kernel_rfl) (by kernel_rfl) (by kernel_rfl) (fun _ _ _ h => h) (Or.inl ⟨by rfl, by (intro w' _; go_simp)⟩) (by assumption) ?_
          try simp only [Act.put, List.setIfInBounds_toArray, List.set_cons_zero, List.set_cons_succ]
          refine takeD 104 (i := 5) (v := (.int .i64 x.n)) rfl rfl (by kernel_rfl) (by kernel_rfl) (by kernel_rfl) (fun _ _ _ h => h) (Or.inl ⟨by rfl, by (intro w' h; have h2 := ((h.cell (p := ⟨ag, o + k * 44 + 1, none⟩) hagR).trans AW.out.n); clear h; go_simp)⟩) (by assumption) ?_
          try simp only [Act.put, List.setIfInBounds_toArray, List.set_cons_zero, List.set_cons_succ]
          refine wpAnyH_ready (rs := [6, 10]) (by kernel_rfl) (by simp) (AllReadyH.cons rfl (fun K hK => ?_) (AllReadyH.cons rfl (fun K hK => ?_) AllReadyH.nil))
          · rw [if_pos (by rfl)]
            go_simp
            refine (HC.out _).mono ?_
            rintro e wc ⟨rfl, hb⟩
            have hSN : Below wr.heap.size wr wc := hS0.trans (hb.mono hS0.size)
            refine hK.out _ _ hSN (fun hS0 => ?_)
            clear hK K hb hSN
            try simp only [Act.put, List.setIfInBounds_toArray, List.set_cons_zero, List.set_cons_succ]
            refine takeD 98 (i := 7) (v := (.tuple #[.agg (eArr n h' t ph), .int .i64 er])) rfl rfl (by kernel_rfl) (by kernel_rfl) (by kernel_rfl) (fun _ _ _ h => h) (Or.inl ⟨by rfl, by (intro w' _; go_simp)⟩) (by assumption) ?_
            try simp only [Act.put, List.setIfInBounds_toArray, List.set_cons_zero, List.set_cons_succ]
            refine takeD 106 (i := 8) (v := (.agg (eArr n h' t ph))) rfl rfl (by kernel_rfl) (by kernel_rfl) (by kernel_rfl) (fun _ _ _ h => h) (Or.inl ⟨by rfl, by (intro w' _; go_simp)⟩) (by assumption) ?_
            try simp only [Act.put, List.setIfInBounds_toArray, List.set_cons_zero, List.set_cons_succ]
            refine takeD 107 (i := 9) (v := (.int .i64 er)) rfl rfl (by kernel_rfl) (by kernel_rfl) (by kernel_rfl) (fun _ _ _ h => h) (Or.inl ⟨by rfl, by (intro w' _; go_simp)⟩) (by assumption) ?_
            try simp only [Act.put, List.setIfInBounds_toArray, List.set_cons_zero, List.set_cons_succ]
            refine wpAnyH_ready (rs := [10]) (by kernel_rfl) (by simp) (AllReadyH.cons rfl (fun K hK => ?_) AllReadyH.nil)
            · rw [if_pos (by rfl)]
              refine wp_allocN 30 16 rfl rfl zeroEnd (A := eZero) rfl ?_
              obtain ⟨wca, hw⟩ : ∃ x, x = (wc).alloc (.cells eZero 30) := ⟨_, rfl⟩
              rw [← hw]
              have hb : Below (wc).heap.size (wc) wca := by rw [hw]; exact (Below.refl _ _).alloc (Nat.le_refl _) _
              have AEca := Lib.hid (show ArrAt wca (wc).heap.size eZero by rw [hw]; exact frEnd _)
              obtain ⟨bE, hbk⟩ : ∃ x, x = (wc).heap.size := ⟨_, rfl⟩
              rw [← hbk] at AEca
              have hlobE : wr.heap.size ≤ bE := by rw [hbk]; exact hS0.size
              have hhibE : bE < wca.heap.size := AEca.out.lt
              have hSN : Below wr.heap.size wr wca := hS0.trans (hb.mono hS0.size)
              rw [← hbk]
              clear hw hbk
              refine hK.out _ _ hSN (fun hS0 => ?_)
              clear hK K hb hSN
              try simp only [Act.put, List.setIfInBounds_toArray, List.set_cons_zero, List.set_cons_succ]
              have hS2 : Below wr.heap.size wr ((wca).setCells bE 0 (eArr n h' t ph).toList) := bstore hS0 _ hlobE _ _
              have AF := Lib.hid (AEca.out.store (eArr n h' t ph) rfl)
              refine wpAnyH_ready (rs := [11]) (by kernel_rfl) (by simp) (AllReadyH.cons rfl (fun K hK => ?_) AllReadyH.nil)
              rw [if_pos (by rfl)]
              refine wp_storeN 30 (.tmp 16) (.tmp 106) rfl rfl (bE) 0 (eArr n h' t ph) (by first | rfl | simp [Act.eval, Act.put]) (by first | rfl | simp [Act.eval, Act.put]) AEca.out.th (eArr_size _ _ _ _) (eArr_one _ _ _ _) ?_
              refine hK.out _ _ hS2 (fun hS0 => ?_)
              clear hK K
              try simp only [Act.put, List.setIfInBounds_toArray, List.set_cons_zero, List.set_cons_succ]
              refine takeD 17 (i := 12) (v := (.int .i64 er)) rfl rfl (by kernel_rfl) (by kernel_rfl) (by kernel_rfl) (fun _ _ _ h => h) (Or.inl ⟨by rfl, by (intro w' _; go_simp)⟩) (by assumption) ?_
              try simp only [Act.put, List.setIfInBounds_toArray, List.set_cons_zero, List.set_cons_succ]
              refine wpAnyH_done (by kernel_rfl) ?_ _
              go_wp2_with fail
              go_meet
              exact ⟨⟨bE, rfl, hlobE, AF.out, hS0⟩, rfl⟩
          · rw [if_pos (by rfl)]
            refine wp_allocN 30 16 rfl rfl zeroEnd (A := eZero) rfl ?_
            obtain ⟨wa, hw⟩ : ∃ x, x = (wr.drew).alloc (.cells eZero 30) := ⟨_, rfl⟩
            rw [← hw]
            have hb : Below (wr.drew).heap.size (wr.drew) wa := by rw [hw]; exact (Below.refl _ _).alloc (Nat.le_refl _) _
            have AEa := Lib.hid (show ArrAt wa (wr.drew).heap.size eZero by rw [hw]; exact frEnd _)
            obtain ⟨bE, hbk⟩ : ∃ x, x = (wr.drew).heap.size := ⟨_, rfl⟩
            rw [← hbk] at AEa
            have hlobE : wr.heap.size ≤ bE := by rw [hbk]; exact hS0.size
            have hhibE : bE < wa.heap.size := AEa.out.lt
            have hSN : Below wr.heap.size wr wa := hS0.trans (hb.mono hS0.size)
            rw [← hbk]
            clear hw hbk
            refine hK.out _ _ hSN (fun hS0 => ?_)
            clear hK K hb hSN
            try simp only [Act.put, List.setIfInBounds_toArray, List.set_cons_zero, List.set_cons_succ]
            refine wpAnyH_ready (rs := [6]) (by kernel_rfl) (by simp) (AllReadyH.cons rfl (fun K hK => ?_) AllReadyH.nil)
            · rw [if_pos (by rfl)]
              go_simp
              refine (HC.out _).mono ?_
              rintro e wac ⟨rfl, hb⟩
              have hSN : Below wr.heap.size wr wac := hS0.trans (hb.mono hS0.size)
              have AEac := Lib.hid (AEa.out.below hb)
              have hhibE : bE < wac.heap.size := Nat.lt_of_lt_of_le hhibE hb.size
              refine hK.out _ _ hSN (fun hS0 => ?_)
              clear hK K hb hSN
              try simp only [Act.put, List.setIfInBounds_toArray, List.set_cons_zero, List.set_cons_succ]
              refine takeD 98 (i := 7) (v := (.tuple #[.agg (eArr n h' t ph), .int .i64 er])) rfl rfl (by kernel_rfl) (by kernel_rfl) (by kernel_rfl) (fun _ _ _ h => h) (Or.inl ⟨by rfl, by (intro w' _; go_simp)⟩) (by assumption) ?_
              try simp only [Act.put, List.setIfInBounds_toArray, List.set_cons_zero, List.set_cons_succ]
              refine takeD 106 (i := 8) (v := (.agg (eArr n h' t ph))) rfl rfl (by kernel_rfl) (by kernel_rfl) (by kernel_rfl) (fun _ _ _ h => h) (Or.inl ⟨by rfl, by (intro w' _; go_simp)⟩) (by assumption) ?_
              try simp only [Act.put, List.setIfInBounds_toArray, List.set_cons_zero, List.set_cons_succ]
              refine takeD 107 (i := 9) (v := (.int .i64 er)) rfl rfl (by kernel_rfl) (by kernel_rfl) (by kernel_rfl) (fun _ _ _ h => h) (Or.inl ⟨by rfl, by (intro w' _; go_simp)⟩) (by assumption) ?_
              try simp only [Act.put, List.setIfInBounds_toArray, List.set_cons_zero, List.set_cons_succ]
              have hS2 : Below wr.heap.size wr ((wac).setCells bE 0 (eArr n h' t ph).toList) := bstore hS0 _ hlobE _ _
              have AF := Lib.hid (AEac.out.store (eArr n h' t ph) rfl)
              refine wpAnyH_ready (rs := [11]) (by kernel_rfl) (by simp) (AllReadyH.cons rfl (fun K hK => ?_) AllReadyH.nil)
              rw [if_pos (by rfl)]
              refine wp_storeN 30 (.tmp 16) (.tmp 106) rfl rfl (bE) 0 (eArr n h' t ph) (by first | rfl | simp [Act.eval, Act.put]) (by first | rfl | simp [Act.eval, Act.put]) AEac.out.th (eArr_size _ _ _ _) (eArr_one _ _ _ _) ?_
              refine hK.out _ _ hS2 (fun hS0 => ?_)
              clear hK K
              try simp only [Act.put, List.setIfInBounds_toArray, List.set_cons_zero, List.set_cons_succ]
              refine takeD 17 (i := 12) (v := (.int .i64 er)) rfl rfl (by kernel_rfl) (by kernel_rfl) (by kernel_rfl) (fun _ _ _ h => h) (Or.inl ⟨by rfl, by (intro w' _; go_simp)⟩) (by assumption) ?_
              try simp only [Act.put, List.setIfInBounds_toArray, List.set_cons_zero, List.set_cons_succ]
              refine wpAnyH_done (by kernel_rfl) ?_ _
              go_wp2_with fail
              go_meet
              exact ⟨⟨bE, rfl, hlobE, AF.out, hS0⟩, rfl⟩
        case rest =>
          obtain ⟨⟨bE, rfl, hlo, ha, hb⟩, rfl⟩ := hcut
          have AE := Lib.hid ha
          have I3 := Lib.hid (IR.out.below hb)
          have AW3 := Lib.hid (AW.out.below hb)
          have hne : bE ≠ mb := by omega
          clear ha hb
          go_upto_region 18 with (first
            | ((with_reducible show wpList _ _ _ (⟨some _, .load 30 _, _, _, _, _⟩ :: _) _ _); refine wpList_loadA rfl AE.out 30 (.tmp 16) rfl rfl hdE hdR HES'.out ?_)
            | ((with_reducible show wpList _ _ _ (⟨none, .store _ (.tmp 7) _, _, _, _, _⟩ :: _) _ _); refine wpList_storeA rfl (b := mb) (A := eArr n h t ph) (A' := eArr n h' t ph) I3.out.r 30 (.tmp 7) _ rfl rfl (by simp [Act.eval, Act.put]) HES.out rfl (eArr_one _ _ _ _) ?_))
          obtain ⟨w5, hw⟩ : ∃ x, x = wc.setCells mb 0 (eArr n h' t ph).toList := ⟨_, rfl⟩
          rw [← hw]
          have M5 := Lib.hid (show SMid 96 4 w w5 g mb n h' t h t ph ph by rw [hw]; exact SMid.ofRef I3.out _ _ _)
          have AW5 := Lib.hid (show ActIn w5 ag (o + k * 44) x by rw [hw]; exact AW3.out.kept ((Keeps.setCells _ (Keeps.refl (One mb) wc) 0).block _ AW3.out.lt (fun e => by have e : ag = mb := e; have := IR.out.m0; omega)))
          have cn := AW5.out.n
          clear hw
          go_upto_region 20 with (go_at_call 40; refine (HP.out _ M5.out.q).mono ?_; rintro e w7 ⟨rfl, hk7, hq7⟩; have I7 := Lib.hid (M5.out.done hk7 hq7); clear hk7 hq7)
          have hlm := I7.out.r.lt
          obtain ⟨u, hu⟩ : ∃ u, u = usd n h' t := ⟨_, rfl⟩
          have HCU := Lib.hid fun w => rUsed_ok n h' t ph w hn hn' I7.out.q.hh I7.out.q.ht
          have HCW := Lib.hid fun w q => pFree_ok 96 4 g n h' t ph w q
          rw [← hu] at HCU HCW
          have hult : u < n := by rw [hu]; exact usd_lt I7.out.q.hh I7.out.q.ht
          clear hu
          have c0 : w7.cell? ⟨mb, 0, none⟩ = some (.int .i64 n) := I7.out.r.cell rfl
          have c1 : w7.cell? ⟨mb, 1, none⟩ = some (.int .i64 h') := I7.out.r.cell rfl
          have c2 : w7.cell? ⟨mb, 2, none⟩ = some (.int .i64 t) := I7.out.r.cell rfl
          have c3 : w7.cell? ⟨mb, 3, none⟩ = some (.bool ph) := I7.out.r.cell rfl
          have hq0 : ∀ p : InC (Below w7.heap.size w7), p.w.cell? ⟨mb, 0, none⟩ = some (.int .i64 n) := fun p => (p.ok.cell (hlm)).trans (c0)
          have hq1 : ∀ p : InC (Below w7.heap.size w7), p.w.cell? ⟨mb, 1, none⟩ = some (.int .i64 h') := fun p => (p.ok.cell (hlm)).trans (c1)
          have hq2 : ∀ p : InC (Below w7.heap.size w7), p.w.cell? ⟨mb, 2, none⟩ = some (.int .i64 t) := fun p => (p.ok.cell (hlm)).trans (c2)
          have hq3 : ∀ p : InC (Below w7.heap.size w7), p.w.cell? ⟨mb, 3, none⟩ = some (.bool ph) := fun p => (p.ok.cell (hlm)).trans (c3)
          have HE2 : Hid (∀ p : InC (Below w7.heap.size w7), Calls Try.prog 41 #[.pointer (some ⟨g, 0, none⟩)] p.w fun e w' => e = .returned (.int .i64 ((n : Int) - 1 - (u : Nat))) ∧ Below w7.heap.size w7 w') :=
            Lib.hid fun p => (HCW.out p.w (I7.out.q.below p.ok)).mono fun e w' k => ⟨k.1, p.ok.trans (k.2.mono p.ok.size)⟩
          have HE3 : Hid (∀ p : InC (Below w7.heap.size w7), Calls Try.prog 21 #[.agg #[.int .i64 n, .int .i64 h', .int .i64 t, .bool ph]] p.w fun e w' => e = .returned (.int .i64 u) ∧ Below w7.heap.size w7 w') :=
            Lib.hid fun p => (HCU.out p.w).mono fun e w' k => ⟨k.1, p.ok.trans (k.2.mono p.ok.size)⟩
          have HE4 : Hid (∀ p : InC (Below w7.heap.size w7), Calls Try.prog 42 #[.pointer (some ⟨g, 0, none⟩)] p.w fun e w' => e = .returned (.int .i64 n) ∧ Below w7.heap.size w7 w') :=
            Lib.hid fun p => (pSize_ok 96 4 g n h' t ph p.w (I7.out.q.below p.ok)).mono fun e w' k => ⟨k.1, p.ok.trans (k.2.mono p.ok.size)⟩
          have hNE : Nonempty (InC (Below w7.heap.size w7)) := ⟨⟨w7, Below.refl _ _⟩⟩
          clear c0 c1 c2 c3
          refine wp_quiet_in (Below w7.heap.size w7) (Below.refl _ _).drew (by kernel_rfl) (by kernel_rfl) ?_
          repeat (go_big_quiet_step (first | (with_reducible exact calls_in (HE2.out _)) | (with_reducible exact calls_in (HE3.out _)) | (with_reducible exact calls_in (HE4.out _))))
          refine wpQuiet_nil ?_
          intro _ hw'
          obtain ⟨p, hw''⟩ := hw'
          subst hw''
          have I9 := Lib.hid (I7.out.below p.ok)
          generalize p.w = W4 at *
          clear hq0 hq1 hq2 hq3 hNE HE2 HE3 HE4
          go_wp2_with fail
          go_roundw
          case rel => exact ⟨k + 1, h', t, ph, by omega, by go_num, I9.out⟩
          case measure => simp [intOf]; omega
    · obtain rfl : k = len := by omega
      go_wp2_with (go_at_call 13; refine (known_any _).mono ?_; rintro e w9 ⟨rfl, hb⟩; have HB := Lib.hid (IR.out.b.trans (hb.mono IR.out.b.size)); clear hb)
      go_ret
      exact ⟨rfl, HB.out⟩

theorem p_any (size : Int) (ao : Option Addr) (len cap : Nat) (X : Nat → ActV) (w : World) (_h1 : (Lit.int .i64 size).wf = true) (h2 : ActsIn w ao len X ∧ len ≤ maxLen) :
    Calls Try.prog 7 #[.int .i64 size, .slice ao len cap] w fun e w' => e = .returned (.bool true) ∧ Below w.heap.size w w' := by
  by_cases h : 2 ≤ size ∧ size ≤ 4096
  · obtain ⟨n, rfl⟩ := Int.eq_ofNat_of_zero_le (show 0 ≤ size by omega)
    by_cases hl : len ≤ 100
    · exact p_seq n ao len cap X w (by omega) (by omega) hl h2.1
    · exact p_long n ao len cap w (by omega) (by omega) (by omega) (Nat.le_trans h2.2 (by decide))
  · exact p_bad size ao len cap w (by omega)

end Go.Proofs.Ytpoeepdpoblfcaa
