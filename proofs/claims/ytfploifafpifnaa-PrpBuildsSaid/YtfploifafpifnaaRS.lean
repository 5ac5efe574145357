/- prp: the specification's Spans. -/
import Derived.Test.YtfploifafpifnaaRA
namespace Go.Proofs.Ytfploifafpifnaa
set_option linter.unusedVariables false
set_option linter.unusedSimpArgs false
open Go.RowKit

theorem row_owns {w : World} {base g cap n size : Nat} {e : TypeId} {F : Nat → Value} (hr : w.rowIs g e (cap * size) F) (hb : base ≤ g) (hc : n ≤ cap) (hm : cap ≤ maxLen) : w.ownsRow base e size (.slice (some ⟨g, 0, none⟩) n cap) n ((List.range (n * size)).map F) := by
  obtain ⟨cur, hg, hs, hx⟩ := hr
  refine ⟨by rw [List.length_map, List.length_range], .inr ⟨g, cap, cur, rfl, hb, hg, hc, hm, hs, ?_⟩⟩
  have hns : n * size ≤ cap * size := Nat.mul_le_mul_right _ hc
  apply List.ext_getElem?
  intro i
  rw [List.getElem?_take]
  by_cases hi : i < n * size
  · rw [if_pos hi, Array.getElem?_toList, hx i (by omega)]
    rw [List.getElem?_map, List.getElem?_range hi]; rfl
  · rw [if_neg hi, List.getElem?_eq_none (by rw [List.length_map, List.length_range]; omega)]
theorem owns1 (w : World) (x : Spn) : (w.alloc (.cells #[.int .u64 x.a, .int .i64 x.n, .bool x.bk] 49)).ownsRow w.heap.size 49 3 (.slice (some ⟨w.heap.size, 0, none⟩) 1 1) 1 (spC [x]) := by
  have h := World.rowIs_alloc w #[.int .u64 x.a, .int .i64 x.n, .bool x.bk] 49 (fun i => if i = 0 then .int .u64 x.a else if i = 1 then .int .i64 x.n else .bool x.bk) (fun i hi => by
    match i, hi with
    | 0, _ => rfl
    | 1, _ => rfl
    | 2, _ => rfl)
  exact row_owns (n := 1) (cap := 1) (size := 3) h (Nat.le_refl _) (Nat.le_refl _) (by unfold maxLen; omega)
section
variable (MC : Array Value) (size : Nat) (f : Nat → Int) (L : List (Nat × Nat)) (S : Nat → Prop) (x y n : Int) (w : World) (hM : RefAt S w (.agg MC) size f L) (hsz : size ≤ 4194304) (h2 : MC.size = 2) (hx0 : 0 ≤ x) (hx1 : x ≤ 18446744073709551615) (hy0 : 0 ≤ y) (hy1 : y ≤ 18446744073709551615) (hby : Bytes f) (hn0 : -9223372036854775808 ≤ n) (hn1 : n ≤ 9223372036854775807)
include hM hsz h2 hx0 hx1 hy0 hy1 hby hn0 hn1
set_option maxRecDepth 100000 in
set_option maxHeartbeats 16000000 in
theorem rspans_any (R : Except Int (List Spn)) (hR : spansP f size x y n = R) :
    Calls Try.prog 21 #[.agg MC, .int .u64 x, .int .u64 y, .int .i64 n] w (SpPost w R) := by
  obtain ⟨W1, hW1⟩ : ∃ z, z = w.alloc (.cells MC 27) := ⟨_, rfl⟩
  have hb1 : Below w.heap.size w W1 := by rw [hW1]; exact (Below.refl _ _).alloc (Nat.le_refl _) _
  have hs1 : w.heap.size < W1.heap.size := by rw [hW1]; simp
  have HA := Lib.hid (show ArrAt W1 w.heap.size MC by rw [hW1]; exact ArrAt.fresh w MC _ (by omega))
  have HSZ := Lib.hid (show (Try.prog.info? 27).map (·.size) = some MC.size by rw [h2]; exact sizeRM)
  have HM := Lib.hid ((hM.below hb1).more (T := fun j => W1.heap.size ≤ j) (fun b hb h => by have h : W1.heap.size ≤ b := h; omega))
  have HMC := Lib.hid h2
  have HB1 := Lib.hid hb1
  have HW1 := Lib.hid hW1
  have BY := Lib.hid hby
  have HSM := Lib.hid hsz
  unfold spansP at hR
  clear hM hsz h2 hb1 hW1 hby
  by_cases c1 : n < 0
  · rw [if_pos (.inl c1)] at hR
    subst hR
    have q : decide (n < 0) = true := decide_eq_true c1
    go_enter Try.func21, Try.ntmps21
    go_upto_region 1 with fail
    rw [← HW1.out]
    go_wp2_with fail
    go_ret2
    exact ⟨HB1.out, rfl⟩
  have q1 : decide (n < 0) = false := decide_eq_false c1
  by_cases c2 : 1048576 < n
  · rw [if_pos (.inr c2)] at hR
    subst hR
    have q : decide (1048576 < n) = true := decide_eq_true c2
    go_enter Try.func21, Try.ntmps21
    go_upto_region 1 with fail
    rw [← HW1.out]
    go_wp2_with fail
    go_ret2
    exact ⟨HB1.out, rfl⟩
  have q2 : decide (1048576 < n) = false := decide_eq_false c2
  rw [if_neg (by omega)] at hR
  by_cases c3 : n = 0
  · rw [if_pos c3] at hR
    subst hR
    have q : (n == 0) = true := beq_iff_eq.2 c3
    clear c3
    go_enter Try.func21, Try.ntmps21
    go_upto_region 1 with fail
    rw [← HW1.out]
    go_wp2_with fail
    go_ret2
    exact ⟨HB1.out, _, rfl, World.ownsRow_nil _ _ _ _⟩
  have q3 : (n == 0) = false := beq_eq_false_iff_ne.2 c3
  rw [if_neg c3] at hR
  by_cases c4 : x % 4 = 0
  case neg =>
    rw [if_pos c4] at hR
    subst hR
    have q : (x % 4 != 0) = true := bne_iff_ne.2 c4
    go_enter Try.func21, Try.ntmps21
    go_upto_region 1 with fail
    rw [← HW1.out]
    go_wp2_with fail
    go_ret2
    exact ⟨HB1.out, rfl⟩
  case pos =>
    have q4 : (x % 4 != 0) = false := by rw [c4]; rfl
    rw [if_neg (fun c => c c4)] at hR
    unfold addA at hR
    simp only [] at hR
    obtain ⟨m, hm⟩ : ∃ z, z = min n (4096 - x % 4096) := ⟨_, rfl⟩
    obtain ⟨K, hK⟩ : ∃ z, z = pgs x n := ⟨_, rfl⟩
    rw [← hm, ← hK] at hR
    have HK := Lib.hid hK.symm
    have hK0 : 0 ≤ K ∧ K ≤ 257 := by rw [hK]; unfold pgs; split <;> omega
    have hm0 : 0 ≤ n - m := by rw [hm]; omega
    have hm1 : n - m ≤ 1048576 := by rw [hm]; omega
    have hm2 : 0 ≤ m ∧ m ≤ 1048576 := by rw [hm]; omega
    have b0 : 0 ≤ x % 4096 := by omega
    have b1 : x % 4096 < 4096 := by omega
    have HIF := Lib.hid (show (if 4096 - x % 4096 < n then 4096 - x % 4096 else n) = m by rw [hm, Int.min_def]; split <;> split <;> omega)
    obtain ⟨no, hno⟩ : ∃ z, z = chk size x m := ⟨_, rfl⟩
    rw [← hno] at hR
    have HCK := Lib.hid (show ∀ (a k : Int) W, 0 ≤ a → a ≤ 18446744073709551615 → 0 ≤ k → k ≤ 1048576 → Calls Try.prog 47 #[.agg MC, .int .u64 a, .int .i64 k] W fun e w' => e = .returned (.int .i64 (chk size a k)) ∧ Below W.heap.size W w' from fun a k W a0 a1 k0 k1 => by
      obtain ⟨ao, c, al, cl, e, -⟩ := HM.out
      rw [e]
      exact rcheck_any _ size c _ a k W HSM.out a0 a1 (by omega) (by omega))
    clear hm hK c1 c2 c3 c4
    have HNO := Lib.hid hno
    clear hno
    go_enter Try.func21, Try.ntmps21
    go_upto_region 1 with fail
    rw [← HW1.out]
    go_upto_region 9 with (go_at_call 33; refine (rcount_any x n K _ hx0 hx1 HK.out).mono ?_; rintro e w' ⟨rfl, rfl⟩)
    rw [HIF.out]
    by_cases hc : no = 0
    case neg =>
      rw [if_pos hc] at hR
      subst hR
      have qn : (no != 0) = true := bne_iff_ne.2 hc
      go_wp2_with (first
        | ((with_reducible show wpList _ _ _ (⟨some 44, _, _, _, _, _⟩ :: _) _ _); refine wpList_loadA rfl (HA.out) 27 (.tmp 4) rfl (by first | rfl | simp [Act.eval, Act.put]) Try.underlying27 rfl HSZ.out ?_)
        | (go_at_call 47; refine (HCK.out x m _ hx0 hx1 hm2.1 hm2.2).mono ?_; rw [← HNO.out]; rintro e w2 ⟨rfl, hb⟩; have HB2 := Lib.hid (HB1.out.trans (hb.mono HB1.out.size)); clear hb))
      go_ret2
      exact ⟨HB2.out, rfl⟩
    case pos =>
      rw [if_neg (fun c => c hc)] at hR
      simp only [List.nil_append] at hR
      have HR := Lib.hid hR
      have qn : (no != 0) = false := by rw [hc]; rfl
      clear hR hc
      go_upto_region 12 with (first
        | ((with_reducible show wpList _ _ _ (⟨some 44, _, _, _, _, _⟩ :: _) _ _); refine wpList_loadA rfl (HA.out) 27 (.tmp 4) rfl (by first | rfl | simp [Act.eval, Act.put]) Try.underlying27 rfl HSZ.out ?_)
        | (go_at_call 47; refine (HCK.out x m _ hx0 hx1 hm2.1 hm2.2).mono ?_; rw [← HNO.out]; rintro e w2 ⟨rfl, hb⟩; have HB2 := Lib.hid hb; clear hb))
      go_upto_region 17 with fail
      obtain ⟨W3, hW3⟩ : ∃ z, z = w2.alloc (.cells #[.int .u64 x, .int .i64 m, .bool false] 49) := ⟨_, rfl⟩
      rw [← hW3]
      obtain ⟨bs, hbs⟩ : ∃ z, z = W1.heap.size := ⟨_, rfl⟩
      have hzz := HB2.out.size
      have HO3 := Lib.hid (show W3.ownsRow bs 49 3 (.slice (some ⟨w2.heap.size, 0, none⟩) 1 1) 1 (spC [⟨x, m, false⟩]) by rw [hW3]; exact owns_less (owns1 w2 ⟨x, m, false⟩) (by omega))
      have HK3 := Lib.hid (show Keeps (fun j => bs ≤ j) W1 W3 by rw [hW3]; exact ((Keeps.of_below HB2.out).alloc _))
      rw [← hbs] at HM hs1
      have hbs2 : bs ≤ W1.heap.size := by omega
      have hbs3 : W1.heap.size ≤ bs := by omega
      clear hW3 hbs hzz HB2
      go_loopw [11, 13, 14, 15, 17, 18, 19, 20, 21, 22, 23] (fun v11 v13 v14 v15 v17 v18 v19 v20 v21 v22 v23 wr => ∃ (i : Nat) (s : PSt), v17 = .int .i64 (i : Nat) ∧ v14 = .int .i64 s.left ∧ v15 = .int .u64 s.list ∧ (2 < K → s.fresh = decide (i = 1)) ∧ 1 ≤ i ∧ ((i : Int) ≤ K ∨ i = 1) ∧ wr.ownsRow bs 49 3 v13 s.out.length (spC s.out) ∧ Keeps (fun j => bs ≤ j) W1 wr ∧ 0 ≤ s.list ∧ s.list ≤ 18446744073709551615 ∧ 0 ≤ s.left ∧ s.left ≤ 1048576 ∧ s.out.length ≤ i ∧ runP f size y K (K.toNat - i) i s = R) (fun _ _ _ _ v17 _ _ _ _ _ _ _ => (K - intOf v17).toNat)
      case atStart => exact ⟨1, ⟨y, true, n - m, [⟨x, m, false⟩]⟩, rfl, rfl, rfl, fun _ => rfl, Nat.le_refl _, .inr rfl, HO3.out, HK3.out, hy0, hy1, hm0, hm1, by simp, HR.out⟩
      case round =>
        obtain ⟨i, s, rfl, rfl, rfl, hfr, hi1, hiK, hown, hkeep, hl0, hl1, hf0, hf1, hol, hrun⟩ := hrel
        have HFR := Lib.hid hfr
        have HO := Lib.hid hown
        have HKP := Lib.hid hkeep
        have HRUN := Lib.hid hrun
        have HOL := Lib.hid hol
        have HAr := Lib.hid (HA.out.kept hkeep (fun e => by have e : bs ≤ w.heap.size := e; omega))
        have HMr := Lib.hid (HM.out.kept hkeep (fun _ h => h))
        have HBr := Lib.hid (HB1.out.trans (hkeep.below (B := w.heap.size) (by omega) (fun j hj e => by have e : bs ≤ j := e; omega)))
        have hwr : bs ≤ wr.heap.size := by have := hkeep.size; omega
        clear hfr hown hkeep hrun hol HO3 HK3 HR
        obtain ⟨l, hl⟩ : ∃ z, z = s.list := ⟨_, rfl⟩
        obtain ⟨lf, hlf⟩ : ∃ z, z = s.left := ⟨_, rfl⟩
        rw [← hl] at hl0 hl1 ⊢
        rw [← hlf] at hf0 hf1 ⊢
        have HL := Lib.hid hl
        have HLF := Lib.hid hlf
        clear hl hlf
        by_cases hik : (i : Int) < K
        case neg =>
          have q5 : decide ((i : Int) < K) = false := decide_eq_false hik
          have hrun := HRUN.out
          rw [show K.toNat - i = 0 by omega] at hrun
          have hRR : R = .ok s.out := by rw [← hrun]; rfl
          subst hRR
          obtain ⟨va, vm, vc, hvs⟩ := owns_slice HO.out
          subst hvs
          clear hrun
          go_wp2_with fail
          go_ret2
          exact ⟨HBr.out, _, rfl, owns_less HO.out (by omega)⟩
        case pos =>
          have q5 : decide ((i : Int) < K) = true := decide_eq_true hik
          obtain ⟨k, hk⟩ : ∃ k, K.toNat - i = k + 1 := ⟨K.toNat - i - 1, by omega⟩
          have hrun := HRUN.out
          rw [hk] at hrun
          replace HRUN := Lib.hid hrun
          have HKK := Lib.hid (show K.toNat - (i + 1) = k by omega)
          clear hrun hk
          by_cases h3 : 2 < K
          case neg =>
            have q6 : decide (2 < K) = false := decide_eq_false h3
            have HX := Lib.hid (show adrP f size y K i s = .ok (y, s) by unfold adrP; rw [if_neg h3])
            have NH3 := Lib.hid h3
            clear h3
            go_upto_region 36 with fail
            by_cases h44 : y % 4096 = 0
            case neg =>
              have hRR := run_err2 HRUN.out HX.out h44
              subst hRR
              have q9 : (y % 4096 != 0) = true := bne_iff_ne.2 h44
              clear h44
              go_wp2_with fail
              go_ret2
              exact ⟨HBr.out, rfl⟩
            case pos =>
              have q9 : (y % 4096 != 0) = false := by rw [h44]; rfl
              have H44 := Lib.hid h44
              obtain ⟨mm, hmm⟩ : ∃ z, z = min lf (4096 - y % 4096) := ⟨_, rfl⟩
              have hmm0 : 0 ≤ lf - mm := by rw [hmm]; omega
              have hmm1 : lf - mm ≤ 1048576 := by rw [hmm]; omega
              have hmm2 : 0 ≤ mm ∧ mm ≤ 1048576 := by rw [hmm]; omega
              have HIF2 := Lib.hid (show (if 4096 < lf then 4096 else lf) = mm by rw [hmm, h44, Int.min_def]; split <;> split <;> omega)
              have HMM := Lib.hid hmm.symm
              clear h44 hmm
              go_upto_region 39 with fail
              rw [HIF2.out]
              obtain ⟨no3, hno3⟩ : ∃ z, z = chk size y mm := ⟨_, rfl⟩
              have HN3 := Lib.hid hno3
              clear hno3
              by_cases hc3 : no3 = 0
              case neg =>
                have hRR := run_err3 (no := no3) HRUN.out HX.out H44.out (show chk size y (min s.left (4096 - y % 4096)) = no3 by rw [← HLF.out, HMM.out]; exact HN3.out.symm) hc3
                subst hRR
                have qn3 : (no3 != 0) = true := bne_iff_ne.2 hc3
                clear hc3
                go_wp2_with (first
                  | ((with_reducible show wpList _ _ _ (⟨some 115, _, _, _, _, _⟩ :: _) _ _); refine wpList_loadA rfl (HAr.out) 27 (.tmp 4) rfl (by first | rfl | simp [Act.eval, Act.put]) Try.underlying27 rfl HSZ.out ?_)
                  | (go_at_call 47; refine (HCK.out y mm _ (And.intro hy0 hy1).1 (And.intro hy0 hy1).2 hmm2.1 hmm2.2).mono ?_; rw [← HN3.out]; rintro e w7 ⟨rfl, hb⟩; have HB7 := Lib.hid (HBr.out.trans (hb.mono HBr.out.size)); clear hb))
                go_ret2
                exact ⟨HB7.out, rfl⟩
              case pos =>
                have qn3 : (no3 != 0) = false := by rw [hc3]; rfl
                have hrn := run_more HRUN.out HX.out H44.out (show min s.left (4096 - y % 4096) = mm by rw [← HLF.out]; exact HMM.out) (show chk size y mm = 0 by rw [← HN3.out]; exact hc3)
                rw [show ((i : Int) + 1) = ((i + 1 : Nat) : Int) by omega, ← HKK.out] at hrn
                have HRN := Lib.hid hrn
                obtain ⟨i2, hj0, hj1, hj2, hj3⟩ := info_parts infoSp
                have holn := HOL.out
                clear hc3 hrn
                go_wp2_with (first
                  | ((with_reducible show wpList _ _ _ (⟨some 115, _, _, _, _, _⟩ :: _) _ _); refine wpList_loadA rfl (HAr.out) 27 (.tmp 4) rfl (by first | rfl | simp [Act.eval, Act.put]) Try.underlying27 rfl HSZ.out ?_)
                  | (go_at_call 47; refine (HCK.out y mm _ (And.intro hy0 hy1).1 (And.intro hy0 hy1).2 hmm2.1 hmm2.2).mono ?_; rw [← HN3.out]; rintro e w7 ⟨rfl, hb⟩; have O7 := Lib.hid (HO.out.kept (w' := w7) (row := none) ⟨hb.os, hb.tape, hb.output, hb.size, fun j hj _ => hb.block j hj⟩ (by cases u13.ownBlock <;> simp)); have K7 := Lib.hid (HKP.out.trans (Keeps.of_below hb)); have hz7 := hb.size; have H7 := Lib.hid hb; clear hb)
                  | (at_builtin; refine wpList_append_lies _ rfl _ _ 25 rfl bs 49 i2 _ 3 24 Try.underlying25 hj0 hj1 hj2 hj3 rfl (by decide) u13 s.out.length (spC s.out) rfl (O7.out.alloc _) ⟨w7.heap.size, 0, none⟩ 1 1 [.int .u64 y, .int .i64 mm, .bool false] rfl rfl (World.news_of_block (cs := #[.int .u64 y, .int .i64 mm, .bool false]) (t := 49) (fr := (0, 0)) (heap_alloc_new w7 _)) (by simp [Value.oneCell']) (by decide) (by unfold maxLen; omega) (by omega) (by simp; omega) (w7.heap.size + 1) (by simp) ?_; intro g8 cap8 w8 hown8 hgr8 hat8 hlt8; have O8 := Lib.hid hown8; have K8 := Lib.hid (K7.out.trans (grown_keeps ((Below.refl _ w7).alloc (Nat.le_refl _) _) O7.out (by omega) hgr8)); clear hown8 hgr8 hat8))
                have hv17 : Value.int IntKind.i64 ((i : Int) + 1) = .int .i64 ((i + 1 : Nat) : Int) := by rw [Int.natCast_add]; rfl
                have hol2 : (s.out ++ [(⟨y, mm, false⟩ : Spn)]).length ≤ i + 1 := by rw [List.length_append]; simp; omega
                have hO : w8.ownsRow bs 49 3 (.slice (some ⟨g8, 0, none⟩) (s.out.length + 1) cap8) (s.out ++ [(⟨y, mm, false⟩ : Spn)]).length (spC (s.out ++ [⟨y, mm, false⟩])) := by
                  rw [spC_append, show (s.out ++ [(⟨y, mm, false⟩ : Spn)]).length = s.out.length + 1 by simp]
                  exact O8.out
                have hfr2 : 2 < K → s.fresh = decide (i + 1 = 1) := fun h => by exact absurd h (by have := NH3.out; omega)
                go_roundw
                case rel =>
                  exact ⟨i + 1, ⟨l, s.fresh, lf - mm, s.out ++ [⟨y, mm, false⟩]⟩, hv17, rfl, rfl, hfr2, by omega, .inl (by omega), hO, K8.out, hl0, hl1, hmm0, hmm1, hol2, (by have h := HRN.out; rw [← HL.out, ← HLF.out] at h; exact h)⟩
                case measure => simp [intOf]; omega
          case pos =>
            have q6 : decide (2 < K) = true := decide_eq_true h3
            have HAD := Lib.hid (show adrP f size y K i s = nxtP f size (K - i) ⟨l, decide (i = 1), lf, s.out⟩ by unfold adrP; rw [if_pos h3, HL.out, HLF.out, ← HFR.out h3])
            clear h3
            by_cases hf8 : i = 1 ∧ l % 8 ≠ 0
            case pos =>
              obtain ⟨rfl, h8⟩ := hf8
              have hRR := run_err1 HRUN.out (HAD.out.trans (nxt_no0 h8))
              subst hRR
              have q7 : (l % 8 != 0) = true := bne_iff_ne.2 h8
              clear h8
              go_wp2_with fail
              go_ret2
              exact ⟨HBr.out, rfl⟩
            case neg =>
              have had := HAD.out
              have hfs : nxtP f size (K - i) ⟨l, decide (i = 1), lf, s.out⟩ = nxtP f size (K - i) ⟨l, false, lf, s.out⟩ := by
                by_cases hi : i = 1
                · rw [decide_eq_true hi]; exact nxt_fresh (Classical.byContradiction fun h => hf8 ⟨hi, h⟩)
                · rw [decide_eq_false hi]
              replace HAD := Lib.hid (had.trans hfs)
              have hq : (((i : Int) == 1) = true ∧ (l % 8 != 0) = false) ∨ ((i : Int) == 1) = false := by
                by_cases hi : i = 1
                · refine .inl ⟨beq_iff_eq.2 (by omega), ?_⟩
                  have h8 : l % 8 = 0 := Classical.byContradiction fun h => hf8 ⟨hi, h⟩
                  rw [h8]; rfl
                · exact .inr (beq_eq_false_iff_ne.2 (by omega))
              clear had hfs hf8
              rcases hq with ⟨qi, q7⟩ | qi
              all_goals
                go_upto_region 23 with fail
                by_cases hc : chk size l 8 = 0
                case neg =>
                  have hRR := run_err1 HRUN.out (HAD.out.trans (nxt_no1 hc))
                  subst hRR
                  obtain ⟨no2, hno2⟩ : ∃ z, z = chk size l 8 := ⟨_, rfl⟩
                  rw [← hno2] at hc
                  have HEB := Lib.hid (fun W (hM : RefAt (fun j => bs ≤ j) W (.agg MC) size f L) => entry_bad MC size f L (fun j => bs ≤ j) l W hM HSM.out HMC.out hl0 hl1 no2 hno2.symm hc)
                  have qn2 : (no2 != 0) = true := bne_iff_ne.2 hc
                  have HN2 := Lib.hid hno2
                  clear hno2 hc
                  go_wp2_with (first
                    | ((with_reducible show wpList _ _ _ (⟨some 76, _, _, _, _, _⟩ :: _) _ _); refine wpList_loadA rfl (HAr.out) 27 (.tmp 4) rfl (by first | rfl | simp [Act.eval, Act.put]) Try.underlying27 rfl HSZ.out ?_)
                    | (go_at_call 48; refine (HEB.out _ HMr.out).mono ?_; rintro e w5 ⟨rfl, hb⟩; have HB5 := Lib.hid (HBr.out.trans (hb.mono HBr.out.size)); clear hb))
                  go_ret2
                  exact ⟨HB5.out, by rw [← HN2.out]; rfl⟩
                case pos =>
                  have HEO := Lib.hid (fun W (hM : RefAt (fun j => bs ≤ j) W (.agg MC) size f L) => entry_ok MC size f L (fun j => bs ≤ j) l W hM HSM.out HMC.out hl0 hl1 BY.out hc)
                  have HCH := Lib.hid hc
                  obtain ⟨h0c, h8c⟩ := chk_ok hc
                  have hsm := HSM.out
                  have hvb := wrd_bd BY.out l
                  obtain ⟨v, hv⟩ : ∃ z, z = wrd f l := ⟨_, rfl⟩
                  rw [← hv] at HEO hvb
                  have HV := Lib.hid hv
                  have hl8 : l + 8 ≤ 4194304 := by omega
                  clear hc hv h0c h8c hsm
                  go_upto_region 26 with (first
                    | ((with_reducible show wpList _ _ _ (⟨some 76, _, _, _, _, _⟩ :: _) _ _); refine wpList_loadA rfl (HAr.out) 27 (.tmp 4) rfl (by first | rfl | simp [Act.eval, Act.put]) Try.underlying27 rfl HSZ.out ?_)
                    | (go_at_call 48; refine (HEO.out _ HMr.out).mono ?_; rintro e w5 ⟨rfl, hb⟩; have M5 := Lib.hid (HMr.out.below hb); have A5 := Lib.hid (HAr.out.below hb); have B5 := Lib.hid (HBr.out.trans (hb.mono HBr.out.size)); have O5 := Lib.hid (HO.out.kept (w' := w5) (row := none) ⟨hb.os, hb.tape, hb.output, hb.size, fun j hj _ => hb.block j hj⟩ (by cases u13.ownBlock <;> simp)); have K5 := Lib.hid (HKP.out.trans (Keeps.of_below hb)); have hz5 := hb.size; clear hb))
                  by_cases hcas : l % 4096 = 4088 ∧ 1 < K - i
                  case neg =>
                    have HX := Lib.hid (show adrP f size y K i s = .ok (v, ⟨l + 8, false, lf, s.out⟩) by rw [HV.out]; exact HAD.out.trans (nxt_ok1 HCH.out hcas))
                    have hqc : (l % 4096 == 4088) = false ∨ ((l % 4096 == 4088) = true ∧ decide (1 < K - i) = false) := by
                      by_cases h1 : l % 4096 = 4088
                      · exact .inr ⟨beq_iff_eq.2 h1, decide_eq_false (fun h2 => hcas ⟨h1, h2⟩)⟩
                      · exact .inl (beq_eq_false_iff_ne.2 h1)
                    clear hcas
                    rcases hqc with qc | ⟨qc, qd⟩
                    all_goals
                      go_upto_region 36 with fail
                      by_cases h44 : v % 4096 = 0
                      case neg =>
                        have hRR := run_err2 HRUN.out HX.out h44
                        subst hRR
                        have q9 : (v % 4096 != 0) = true := bne_iff_ne.2 h44
                        clear h44
                        go_wp2_with fail
                        go_ret2
                        exact ⟨B5.out, rfl⟩
                      case pos =>
                        have q9 : (v % 4096 != 0) = false := by rw [h44]; rfl
                        have H44 := Lib.hid h44
                        obtain ⟨mm, hmm⟩ : ∃ z, z = min lf (4096 - v % 4096) := ⟨_, rfl⟩
                        have hmm0 : 0 ≤ lf - mm := by rw [hmm]; omega
                        have hmm1 : lf - mm ≤ 1048576 := by rw [hmm]; omega
                        have hmm2 : 0 ≤ mm ∧ mm ≤ 1048576 := by rw [hmm]; omega
                        have HIF2 := Lib.hid (show (if 4096 < lf then 4096 else lf) = mm by rw [hmm, h44, Int.min_def]; split <;> split <;> omega)
                        have HMM := Lib.hid hmm.symm
                        clear h44 hmm
                        go_upto_region 39 with fail
                        rw [HIF2.out]
                        obtain ⟨no3, hno3⟩ : ∃ z, z = chk size v mm := ⟨_, rfl⟩
                        have HN3 := Lib.hid hno3
                        clear hno3
                        by_cases hc3 : no3 = 0
                        case neg =>
                          have hRR := run_err3 (no := no3) HRUN.out HX.out H44.out (show chk size v (min lf (4096 - v % 4096)) = no3 by rw [HMM.out]; exact HN3.out.symm) hc3
                          subst hRR
                          have qn3 : (no3 != 0) = true := bne_iff_ne.2 hc3
                          clear hc3
                          go_wp2_with (first
                            | ((with_reducible show wpList _ _ _ (⟨some 115, _, _, _, _, _⟩ :: _) _ _); refine wpList_loadA rfl (A5.out) 27 (.tmp 4) rfl (by first | rfl | simp [Act.eval, Act.put]) Try.underlying27 rfl HSZ.out ?_)
                            | (go_at_call 47; refine (HCK.out v mm _ hvb.1 hvb.2 hmm2.1 hmm2.2).mono ?_; rw [← HN3.out]; rintro e w7 ⟨rfl, hb⟩; have HB7 := Lib.hid (B5.out.trans (hb.mono B5.out.size)); clear hb))
                          go_ret2
                          exact ⟨HB7.out, rfl⟩
                        case pos =>
                          have qn3 : (no3 != 0) = false := by rw [hc3]; rfl
                          have hrn := run_more HRUN.out HX.out H44.out (show min lf (4096 - v % 4096) = mm by exact HMM.out) (show chk size v mm = 0 by rw [← HN3.out]; exact hc3)
                          rw [show ((i : Int) + 1) = ((i + 1 : Nat) : Int) by omega, ← HKK.out] at hrn
                          have HRN := Lib.hid hrn
                          obtain ⟨i2, hj0, hj1, hj2, hj3⟩ := info_parts infoSp
                          have holn := HOL.out
                          clear hc3 hrn
                          go_wp2_with (first
                            | ((with_reducible show wpList _ _ _ (⟨some 115, _, _, _, _, _⟩ :: _) _ _); refine wpList_loadA rfl (A5.out) 27 (.tmp 4) rfl (by first | rfl | simp [Act.eval, Act.put]) Try.underlying27 rfl HSZ.out ?_)
                            | (go_at_call 47; refine (HCK.out v mm _ hvb.1 hvb.2 hmm2.1 hmm2.2).mono ?_; rw [← HN3.out]; rintro e w7 ⟨rfl, hb⟩; have O7 := Lib.hid (O5.out.kept (w' := w7) (row := none) ⟨hb.os, hb.tape, hb.output, hb.size, fun j hj _ => hb.block j hj⟩ (by cases u13.ownBlock <;> simp)); have K7 := Lib.hid (K5.out.trans (Keeps.of_below hb)); have hz7 := hb.size; have H7 := Lib.hid hb; clear hb)
                            | (at_builtin; refine wpList_append_lies _ rfl _ _ 25 rfl bs 49 i2 _ 3 24 Try.underlying25 hj0 hj1 hj2 hj3 rfl (by decide) u13 s.out.length (spC s.out) rfl (O7.out.alloc _) ⟨w7.heap.size, 0, none⟩ 1 1 [.int .u64 v, .int .i64 mm, .bool false] rfl rfl (World.news_of_block (cs := #[.int .u64 v, .int .i64 mm, .bool false]) (t := 49) (fr := (0, 0)) (heap_alloc_new w7 _)) (by simp [Value.oneCell']) (by decide) (by unfold maxLen; omega) (by omega) (by simp; omega) (w7.heap.size + 1) (by simp) ?_; intro g8 cap8 w8 hown8 hgr8 hat8 hlt8; have O8 := Lib.hid hown8; have K8 := Lib.hid (K7.out.trans (grown_keeps ((Below.refl _ w7).alloc (Nat.le_refl _) _) O7.out (by omega) hgr8)); clear hown8 hgr8 hat8))
                          have hv17 : Value.int IntKind.i64 ((i : Int) + 1) = .int .i64 ((i + 1 : Nat) : Int) := by rw [Int.natCast_add]; rfl
                          have hol2 : (s.out ++ [(⟨v, mm, false⟩ : Spn)]).length ≤ i + 1 := by rw [List.length_append]; simp; omega
                          have hO : w8.ownsRow bs 49 3 (.slice (some ⟨g8, 0, none⟩) (s.out.length + 1) cap8) (s.out ++ [(⟨v, mm, false⟩ : Spn)]).length (spC (s.out ++ [⟨v, mm, false⟩])) := by
                            rw [spC_append, show (s.out ++ [(⟨v, mm, false⟩ : Spn)]).length = s.out.length + 1 by simp]
                            exact O8.out
                          have hfr2 : 2 < K → false = decide (i + 1 = 1) := fun h => by rw [decide_eq_false (by omega)]
                          go_roundw
                          case rel =>
                            exact ⟨i + 1, ⟨(l + 8), false, lf - mm, s.out ++ [⟨v, mm, false⟩]⟩, hv17, rfl, rfl, hfr2, by omega, .inl (by omega), hO, K8.out, (show 0 ≤ l + 8 by omega), (show l + 8 ≤ 18446744073709551615 by omega), hmm0, hmm1, hol2, HRN.out⟩
                          case measure => simp [intOf]; omega
                  case pos =>
                    have qc : (l % 4096 == 4088) = true := beq_iff_eq.2 hcas.1
                    have qd : decide (1 < K - i) = true := decide_eq_true hcas.2
                    have HCAS := Lib.hid hcas
                    clear hcas
                    by_cases hv4 : v % 4096 = 0
                    case neg =>
                      have hRR := run_err1 HRUN.out (HAD.out.trans (nxt_no2 HCH.out HCAS.out (by rw [← HV.out]; exact hv4)))
                      subst hRR
                      have q8 : (v % 4096 != 0) = true := bne_iff_ne.2 hv4
                      clear hv4
                      go_wp2_with fail
                      go_ret2
                      exact ⟨B5.out, rfl⟩
                    case pos =>
                      have q8 : (v % 4096 != 0) = false := by rw [hv4]; rfl
                      have HV4 := Lib.hid hv4
                      clear hv4
                      by_cases hd : chk size v 8 = 0
                      case neg =>
                        have hRR := run_err1 HRUN.out (HAD.out.trans (nxt_no3 HCH.out HCAS.out (by rw [← HV.out]; exact HV4.out) (by rw [← HV.out]; exact hd)))
                        rw [← HV.out] at hRR
                        subst hRR
                        obtain ⟨no2, hno2⟩ : ∃ z, z = chk size v 8 := ⟨_, rfl⟩
                        rw [← hno2] at hd
                        have HEB := Lib.hid (fun W (hM : RefAt (fun j => bs ≤ j) W (.agg MC) size f L) => entry_bad MC size f L (fun j => bs ≤ j) v W hM HSM.out HMC.out hvb.1 hvb.2 no2 hno2.symm hd)
                        have qn2 : (no2 != 0) = true := bne_iff_ne.2 hd
                        have HN2 := Lib.hid hno2
                        clear hno2 hd
                        go_wp2_with (first
                          | ((with_reducible show wpList _ _ _ (⟨some 98, _, _, _, _, _⟩ :: _) _ _); refine wpList_loadA rfl (A5.out) 27 (.tmp 4) rfl (by first | rfl | simp [Act.eval, Act.put]) Try.underlying27 rfl HSZ.out ?_)
                          | (go_at_call 48; refine (HEB.out _ M5.out).mono ?_; rintro e w6 ⟨rfl, hb⟩; have HB6 := Lib.hid (B5.out.trans (hb.mono B5.out.size)); clear hb))
                        go_ret2
                        exact ⟨HB6.out, by rw [← HN2.out]; rfl⟩
                      case pos =>
                        have HEO2 := Lib.hid (fun W (hM : RefAt (fun j => bs ≤ j) W (.agg MC) size f L) => entry_ok MC size f L (fun j => bs ≤ j) v W hM HSM.out HMC.out hvb.1 hvb.2 BY.out hd)
                        have HX := Lib.hid (show adrP f size y K i s = .ok (wrd f v, ⟨v + 8, false, lf, s.out⟩) by rw [HV.out]; exact HAD.out.trans (nxt_ok2 HCH.out HCAS.out (by rw [← HV.out]; exact HV4.out) (by rw [← HV.out]; exact hd)))
                        obtain ⟨h0d, h8d⟩ := chk_ok hd
                        have hsm := HSM.out
                        have hv8 : v + 8 ≤ 4194304 := by omega
                        have hub := wrd_bd BY.out v
                        obtain ⟨u, hu⟩ : ∃ z, z = wrd f v := ⟨_, rfl⟩
                        rw [← hu] at HEO2 HX hub
                        clear hd h0d h8d hsm hu
                        go_upto_region 36 with (first
                          | ((with_reducible show wpList _ _ _ (⟨some 98, _, _, _, _, _⟩ :: _) _ _); refine wpList_loadA rfl (A5.out) 27 (.tmp 4) rfl (by first | rfl | simp [Act.eval, Act.put]) Try.underlying27 rfl HSZ.out ?_)
                          | (go_at_call 48; refine (HEO2.out _ M5.out).mono ?_; rintro e w6 ⟨rfl, hb⟩; have M6 := Lib.hid (M5.out.below hb); have A6 := Lib.hid (A5.out.below hb); have B6 := Lib.hid (B5.out.trans (hb.mono B5.out.size)); have O6 := Lib.hid (O5.out.kept (w' := w6) (row := none) ⟨hb.os, hb.tape, hb.output, hb.size, fun j hj _ => hb.block j hj⟩ (by cases u13.ownBlock <;> simp)); have K6 := Lib.hid (K5.out.trans (Keeps.of_below hb)); have hz6 := hb.size; clear hb))
                        by_cases h44 : u % 4096 = 0
                        case neg =>
                          have hRR := run_err2 HRUN.out HX.out h44
                          subst hRR
                          have q9 : (u % 4096 != 0) = true := bne_iff_ne.2 h44
                          clear h44
                          go_wp2_with fail
                          go_ret2
                          exact ⟨B6.out, rfl⟩
                        case pos =>
                          have q9 : (u % 4096 != 0) = false := by rw [h44]; rfl
                          have H44 := Lib.hid h44
                          obtain ⟨mm, hmm⟩ : ∃ z, z = min lf (4096 - u % 4096) := ⟨_, rfl⟩
                          have hmm0 : 0 ≤ lf - mm := by rw [hmm]; omega
                          have hmm1 : lf - mm ≤ 1048576 := by rw [hmm]; omega
                          have hmm2 : 0 ≤ mm ∧ mm ≤ 1048576 := by rw [hmm]; omega
                          have HIF2 := Lib.hid (show (if 4096 < lf then 4096 else lf) = mm by rw [hmm, h44, Int.min_def]; split <;> split <;> omega)
                          have HMM := Lib.hid hmm.symm
                          clear h44 hmm
                          go_upto_region 39 with fail
                          rw [HIF2.out]
                          obtain ⟨no3, hno3⟩ : ∃ z, z = chk size u mm := ⟨_, rfl⟩
                          have HN3 := Lib.hid hno3
                          clear hno3
                          by_cases hc3 : no3 = 0
                          case neg =>
                            have hRR := run_err3 (no := no3) HRUN.out HX.out H44.out (show chk size u (min lf (4096 - u % 4096)) = no3 by rw [HMM.out]; exact HN3.out.symm) hc3
                            subst hRR
                            have qn3 : (no3 != 0) = true := bne_iff_ne.2 hc3
                            clear hc3
                            go_wp2_with (first
                              | ((with_reducible show wpList _ _ _ (⟨some 115, _, _, _, _, _⟩ :: _) _ _); refine wpList_loadA rfl (A6.out) 27 (.tmp 4) rfl (by first | rfl | simp [Act.eval, Act.put]) Try.underlying27 rfl HSZ.out ?_)
                              | (go_at_call 47; refine (HCK.out u mm _ hub.1 hub.2 hmm2.1 hmm2.2).mono ?_; rw [← HN3.out]; rintro e w7 ⟨rfl, hb⟩; have HB7 := Lib.hid (B6.out.trans (hb.mono B6.out.size)); clear hb))
                            go_ret2
                            exact ⟨HB7.out, rfl⟩
                          case pos =>
                            have qn3 : (no3 != 0) = false := by rw [hc3]; rfl
                            have hrn := run_more HRUN.out HX.out H44.out (show min lf (4096 - u % 4096) = mm by exact HMM.out) (show chk size u mm = 0 by rw [← HN3.out]; exact hc3)
                            rw [show ((i : Int) + 1) = ((i + 1 : Nat) : Int) by omega, ← HKK.out] at hrn
                            have HRN := Lib.hid hrn
                            obtain ⟨i2, hj0, hj1, hj2, hj3⟩ := info_parts infoSp
                            have holn := HOL.out
                            clear hc3 hrn
                            go_wp2_with (first
                              | ((with_reducible show wpList _ _ _ (⟨some 115, _, _, _, _, _⟩ :: _) _ _); refine wpList_loadA rfl (A6.out) 27 (.tmp 4) rfl (by first | rfl | simp [Act.eval, Act.put]) Try.underlying27 rfl HSZ.out ?_)
                              | (go_at_call 47; refine (HCK.out u mm _ hub.1 hub.2 hmm2.1 hmm2.2).mono ?_; rw [← HN3.out]; rintro e w7 ⟨rfl, hb⟩; have O7 := Lib.hid (O6.out.kept (w' := w7) (row := none) ⟨hb.os, hb.tape, hb.output, hb.size, fun j hj _ => hb.block j hj⟩ (by cases u13.ownBlock <;> simp)); have K7 := Lib.hid (K6.out.trans (Keeps.of_below hb)); have hz7 := hb.size; have H7 := Lib.hid hb; clear hb)
                              | (at_builtin; refine wpList_append_lies _ rfl _ _ 25 rfl bs 49 i2 _ 3 24 Try.underlying25 hj0 hj1 hj2 hj3 rfl (by decide) u13 s.out.length (spC s.out) rfl (O7.out.alloc _) ⟨w7.heap.size, 0, none⟩ 1 1 [.int .u64 u, .int .i64 mm, .bool false] rfl rfl (World.news_of_block (cs := #[.int .u64 u, .int .i64 mm, .bool false]) (t := 49) (fr := (0, 0)) (heap_alloc_new w7 _)) (by simp [Value.oneCell']) (by decide) (by unfold maxLen; omega) (by omega) (by simp; omega) (w7.heap.size + 1) (by simp) ?_; intro g8 cap8 w8 hown8 hgr8 hat8 hlt8; have O8 := Lib.hid hown8; have K8 := Lib.hid (K7.out.trans (grown_keeps ((Below.refl _ w7).alloc (Nat.le_refl _) _) O7.out (by omega) hgr8)); clear hown8 hgr8 hat8))
                            have hv17 : Value.int IntKind.i64 ((i : Int) + 1) = .int .i64 ((i + 1 : Nat) : Int) := by rw [Int.natCast_add]; rfl
                            have hol2 : (s.out ++ [(⟨u, mm, false⟩ : Spn)]).length ≤ i + 1 := by rw [List.length_append]; simp; omega
                            have hO : w8.ownsRow bs 49 3 (.slice (some ⟨g8, 0, none⟩) (s.out.length + 1) cap8) (s.out ++ [(⟨u, mm, false⟩ : Spn)]).length (spC (s.out ++ [⟨u, mm, false⟩])) := by
                              rw [spC_append, show (s.out ++ [(⟨u, mm, false⟩ : Spn)]).length = s.out.length + 1 by simp]
                              exact O8.out
                            have hfr2 : 2 < K → false = decide (i + 1 = 1) := fun h => by rw [decide_eq_false (by omega)]
                            go_roundw
                            case rel =>
                              exact ⟨i + 1, ⟨(v + 8), false, lf - mm, s.out ++ [⟨u, mm, false⟩]⟩, hv17, rfl, rfl, hfr2, by omega, .inl (by omega), hO, K8.out, (show 0 ≤ v + 8 by have := hvb.1; omega), (show v + 8 ≤ 18446744073709551615 by omega), hmm0, hmm1, hol2, HRN.out⟩
                            case measure => simp [intOf]; omega
end
end Go.Proofs.Ytfploifafpifnaa
