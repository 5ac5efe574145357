/- prp: next. -/
import Derived.Test.YtfploifafpifnaaPX
namespace Go.Proofs.Ytfploifafpifnaa
set_option linter.unusedVariables false
set_option linter.unusedSimpArgs false
open Go.RowKit

/-- What next leaves. -/
def NxPost (P : Nat → Prop) (wb : Nat) (m : Value) (W : World) (R : Except Int (Int × PSt)) (e : Ending) (W' : World) : Prop := match R with
  | .error no => e = .panicked [pan no] ∧ Keeps (fun k => ¬ P k) W W'
  | .ok x => e = .returned (.int .u64 x.1) ∧ Keeps (fun k => ¬ P k) W W' ∧ Wlk P wb W' m x.2
section
variable {f : Nat → Int} {size : Nat} {K l lf : Int} {out : List Spn}
theorem nxt_no0 (h : l % 8 ≠ 0) : nxtP f size K ⟨l, true, lf, out⟩ = .error 150 := by unfold nxtP; rw [if_pos ⟨rfl, h⟩]
theorem nxt_fresh (h : l % 8 = 0) : nxtP f size K ⟨l, true, lf, out⟩ = nxtP f size K ⟨l, false, lf, out⟩ := by
  simp [nxtP, h]
theorem nxt_no1 (hc : chk size l 8 ≠ 0) : nxtP f size K ⟨l, false, lf, out⟩ = .error (chk size l 8) := by unfold nxtP; rw [if_neg (fun c => by cases c.1), if_pos hc]
theorem nxt_ok1 (hc : chk size l 8 = 0) (hk : ¬ (l % 4096 = 4088 ∧ 1 < K)) : nxtP f size K ⟨l, false, lf, out⟩ = .ok (wrd f l, ⟨l + 8, false, lf, out⟩) := by unfold nxtP; rw [if_neg (fun c => by cases c.1), if_neg (fun c => c hc), if_neg hk]
theorem nxt_no2 (hc : chk size l 8 = 0) (hk : l % 4096 = 4088 ∧ 1 < K) (hv : wrd f l % 4096 ≠ 0) : nxtP f size K ⟨l, false, lf, out⟩ = .error 150 := by unfold nxtP; rw [if_neg (fun c => by cases c.1), if_neg (fun c => c hc), if_pos hk, if_pos hv]
theorem nxt_no3 (hc : chk size l 8 = 0) (hk : l % 4096 = 4088 ∧ 1 < K) (hv : wrd f l % 4096 = 0) (hd : chk size (wrd f l) 8 ≠ 0) : nxtP f size K ⟨l, false, lf, out⟩ = .error (chk size (wrd f l) 8) := by unfold nxtP; rw [if_neg (fun c => by cases c.1), if_neg (fun c => c hc), if_pos hk, if_neg (fun c => c hv), if_pos hd]
theorem nxt_ok2 (hc : chk size l 8 = 0) (hk : l % 4096 = 4088 ∧ 1 < K) (hv : wrd f l % 4096 = 0) (hd : chk size (wrd f l) 8 = 0) : nxtP f size K ⟨l, false, lf, out⟩ = .ok (wrd f (wrd f l), ⟨wrd f l + 8, false, lf, out⟩) := by unfold nxtP; rw [if_neg (fun c => by cases c.1), if_neg (fun c => c hc), if_pos hk, if_neg (fun c => c hv), if_neg (fun c => c hd)]
end
set_option maxRecDepth 100000 in
set_option maxHeartbeats 16000000 in
theorem next_any (P : Nat → Prop) (wb b B size : Nat) (f : Nat → Int) (L : List (Nat × Nat)) (l lf K : Int) (fr : Bool) (out : List Spn) (W : World) (hM : MemAt W b B size f L) (hPb : P b) (hPB : P B) (hby : Bytes f) (h : Wlk P wb W (.pointer (some ⟨b, 0, none⟩)) ⟨l, fr, lf, out⟩) (ha0 : 0 ≤ l) (ha1 : l ≤ 18446744073709551615)
    (hK0 : -9223372036854775808 ≤ K) (hK1 : K ≤ 9223372036854775807) (R : Except Int (Int × PSt)) (hR : R = nxtP f size K ⟨l, fr, lf, out⟩) :
    Calls Try.prog 43 #[.pointer (some ⟨wb, 0, none⟩), .int .i64 K] W (NxPost P wb (.pointer (some ⟨b, 0, none⟩)) W R) := by
  have HR := Lib.hid hR
  have c1 := h.c1
  have c2 := h.c2
  have f2 := h.fz 2
  simp only [] at c1 c2
  have HW0 := Lib.hid h
  have HM0 := Lib.hid hM
  clear h hR hM
  cases fr with
  | true =>
    by_cases hl8 : l % 8 = 0
    · have qa := Lib.hid (beq_iff_eq.2 hl8)
      replace HR := Lib.hid (HR.out.trans (nxt_fresh hl8))
      clear hl8
      go_enter Try.func43, Try.ntmps43
      go_upto_region 4 with (first
        | (go_at_call 41; refine (aligned_any l 8 true _ ha0 ha1 (by omega) (by omega) qa.out).mono ?_; rintro e w' ⟨rfl, rfl⟩)
        | (go_at_call 27; refine (must1_ok _ _).mono ?_; rintro e w' ⟨rfl, rfl⟩; have y2 := (HW0.out.below ((Below.refl _ W).alloc (Nat.le_refl _) (.cells #[.bool true] 4))).fz 2; have x2 := (HW0.out.below ((Below.refl _ W).alloc (Nat.le_refl _) (.cells #[.bool true] 4))).c2))
      obtain ⟨Wc, hWc⟩ : ∃ z, z = (W.alloc (.cells #[.bool true] 4)).setCell ⟨wb, 2, none⟩ (.bool false) := ⟨_, rfl⟩
      rw [← hWc]
      have HW := Lib.hid (show Wlk P wb Wc (.pointer (some ⟨b, 0, none⟩)) ⟨l, false, lf, out⟩ by rw [hWc]; exact (HW0.out.below ((Below.refl _ W).alloc (Nat.le_refl _) (.cells #[.bool true] 4))).set2 false)
      have HK := Lib.hid (show Keeps (fun k => ¬ P k) W Wc by rw [hWc]; exact ((Keeps.refl _ W).alloc _).setCell (p := ⟨wb, 2, none⟩) (fun _ => HW0.out.notg) _)
      have HM := Lib.hid (HM0.out.kept HK.out (fun h => h hPb) (fun h => h hPB))
      clear hWc c1 c2 f2 x2 y2
      have l0 := ha0
      have l1 := ha1
      have e1 := HW.out.c1
      have HAD := Lib.hid fun (hc : chk size l 8 = 0) => address_ok P wb b B size f L ⟨l, false, lf, out⟩ Wc HM.out hby HW.out ha0 ha1 hc
      have HAB := Lib.hid fun no (hc : chk size l 8 = no) hne => address_bad P wb b B size f L ⟨l, false, lf, out⟩ Wc HM.out HW.out ha0 ha1 no hc hne
      simp only [] at e1
      obtain ⟨las, hlas⟩ : ∃ z, z = (l % 4096 == 4088) := ⟨_, rfl⟩
      have qlas : (l % 4096 == 4088) = las := hlas.symm
      have HLAS := Lib.hid hlas
      clear hlas
      by_cases hc : chk size l 8 = 0
      case neg =>
        have HNE := Lib.hid (beq_eq_false_iff_ne.2 hc)
        have HR2 := Lib.hid (HR.out.trans (nxt_no1 hc))
        clear hc qlas
        go_wp2_with fail
        refine (HAB.out _ rfl HNE.out).mono ?_
        rintro e w9 ⟨rfl, hb⟩
        rw [HR2.out]
        exact ⟨rfl, rfl, HK.out.trans (kN hb)⟩
      case pos =>
        have HA1 := Lib.hid (HAD.out hc)
        have HCK := Lib.hid hc
        obtain ⟨v, hv⟩ : ∃ z, z = wrd f l := ⟨_, rfl⟩
        have hvb := wrd_bd hby l
        rw [← hv] at HA1 hvb
        have HV := Lib.hid hv
        clear hc HAD HAB hv
        by_cases hcas : l % 4096 = 4088 ∧ 1 < K
        case neg =>
          have HR2 := Lib.hid (HR.out.trans (nxt_ok1 HCK.out hcas))
          have qp : las = false ∨ decide (1 < K) = false := by
            by_cases h1 : l % 4096 = 4088
            · exact .inr (decide_eq_false (fun h2 => hcas ⟨h1, h2⟩))
            · exact .inl (by rw [HLAS.out]; exact beq_eq_false_iff_ne.2 h1)
          clear hcas HLAS
          rcases qp with qp | qp
          · subst qp
            go_wp2_with (go_at_call 54; refine HA1.out.mono ?_; rintro e w2 ⟨rfl, hk, hw⟩; have HK2 := Lib.hid (HK.out.trans hk); have HK23 := Lib.hid hk; have HW2 := Lib.hid hw; clear hk hw)
            go_ret
            rw [HR2.out, ← HV.out]
            exact ⟨rfl, HK2.out, HW2.out⟩
          · cases las
            all_goals
              go_wp2_with (go_at_call 54; refine HA1.out.mono ?_; rintro e w2 ⟨rfl, hk, hw⟩; have HK2 := Lib.hid (HK.out.trans hk); have HK23 := Lib.hid hk; have HW2 := Lib.hid hw; clear hk hw)
              go_ret
              rw [HR2.out, ← HV.out]
              exact ⟨rfl, HK2.out, HW2.out⟩
        case pos =>
          have hlt : las = true := by rw [HLAS.out]; exact beq_iff_eq.2 hcas.1
          have qk : decide (1 < K) = true := decide_eq_true hcas.2
          subst hlt
          have HCAS := Lib.hid hcas
          clear hcas HLAS
          by_cases hv4 : v % 4096 = 0
          case neg =>
            have HR2 := Lib.hid (HR.out.trans (nxt_no2 HCK.out HCAS.out (by rw [← HV.out]; exact hv4)))
            have qv := Lib.hid (beq_eq_false_iff_ne.2 hv4)
            clear hv4
            go_wp2_with (first
              | (go_at_call 54; refine HA1.out.mono ?_; rintro e w2 ⟨rfl, hk, hw⟩; have HK2 := Lib.hid (HK.out.trans hk); have HK23 := Lib.hid hk; have HW2 := Lib.hid hw; clear hk hw)
              | (go_at_call 41; refine (aligned_any v 4096 false _ hvb.1 hvb.2 (by omega) (by omega) qv.out).mono ?_; rintro e w' ⟨rfl, rfl⟩))
            refine (must1_bad _ _).mono ?_
            rintro e w' ⟨rfl, rfl⟩
            rw [HR2.out]
            exact ⟨rfl, rfl, HK2.out.alloc _⟩
          case pos =>
            have qv := Lib.hid (beq_iff_eq.2 hv4)
            go_upto_region 9 with (first
              | (go_at_call 54; refine HA1.out.mono ?_; rintro e w2 ⟨rfl, hk, hw⟩; have HK2 := Lib.hid (HK.out.trans hk); have HK23 := Lib.hid hk; have HW2 := Lib.hid hw; have y1 := (hw.below ((Below.refl _ w2).alloc (Nat.le_refl _) (.cells #[.bool true] 4))).fz 1; clear hk hw)
              | (go_at_call 41; refine (aligned_any v 4096 true _ hvb.1 hvb.2 (by omega) (by omega) qv.out).mono ?_; rintro e w' ⟨rfl, rfl⟩)
              | (go_at_call 27; refine (must1_ok _ _).mono ?_; rintro e w' ⟨rfl, rfl⟩; have x1 := (HW2.out.below ((Below.refl _ w2).alloc (Nat.le_refl _) (.cells #[.bool true] 4))).c1))
            obtain ⟨W3, hW3⟩ : ∃ z, z = (w2.alloc (.cells #[.bool true] 4)).setCell ⟨wb, 1, none⟩ (.int .u64 v) := ⟨_, rfl⟩
            rw [← hW3]
            have hw3 : Wlk P wb W3 (.pointer (some ⟨b, 0, none⟩)) ⟨v, false, lf, out⟩ := by rw [hW3]; exact (HW2.out.below ((Below.refl _ w2).alloc (Nat.le_refl _) (.cells #[.bool true] 4))).set1 v
            have hk3 : Keeps (fun k => ¬ P k) W W3 := by rw [hW3]; exact (HK2.out.alloc _).setCell (p := ⟨wb, 1, none⟩) (fun _ => HW2.out.notg) _
            have hk23 : Keeps (fun k => ¬ P k) Wc W3 := by rw [hW3]; exact (HK23.out.alloc _).setCell (p := ⟨wb, 1, none⟩) (fun _ => HW2.out.notg) _
            have hm3 : MemAt W3 b B size f L := HM.out.kept hk23 (fun h => h hPb) (fun h => h hPB)
            have HAD := Lib.hid fun (hc : chk size v 8 = 0) => address_ok P wb b B size f L ⟨v, false, lf, out⟩ W3 hm3 hby hw3 hvb.1 hvb.2 hc
            have HAB := Lib.hid fun no (hc : chk size v 8 = no) hne => address_bad P wb b B size f L ⟨v, false, lf, out⟩ W3 hm3 hw3 hvb.1 hvb.2 no hc hne
            have HK3 := Lib.hid hk3
            clear hW3 hw3 hk3 hk23 hm3 x1 y1
            by_cases hc : chk size v 8 = 0
            · have HA2 := Lib.hid (HAD.out hc)
              have HR2 := Lib.hid (HR.out.trans (nxt_ok2 HCK.out HCAS.out (by rw [← HV.out]; exact hv4) (by rw [← HV.out]; exact hc)))
              clear HAD HAB hc hv4
              go_wp2_with (go_at_call 54; refine HA2.out.mono ?_; rintro e w4 ⟨rfl, hk, hw⟩; have HK4 := Lib.hid (HK3.out.trans hk); have HW4 := Lib.hid hw; clear hk hw)
              go_ret
              rw [HR2.out, ← HV.out]
              exact ⟨rfl, HK4.out, HW4.out⟩
            · have HNE := Lib.hid (beq_eq_false_iff_ne.2 hc)
              have HR2 := Lib.hid (HR.out.trans (nxt_no3 HCK.out HCAS.out (by rw [← HV.out]; exact hv4) (by rw [← HV.out]; exact hc)))
              clear hc HAD hv4
              go_wp2_with fail
              refine (HAB.out _ rfl HNE.out).mono ?_
              rintro e w9 ⟨rfl, hb⟩
              rw [HR2.out, ← HV.out]
              exact ⟨rfl, rfl, HK3.out.trans (kN hb)⟩
    · have qa := Lib.hid (beq_eq_false_iff_ne.2 hl8)
      have HR2 := Lib.hid (HR.out.trans (nxt_no0 hl8))
      clear hl8
      go_enter Try.func43, Try.ntmps43
      go_wp2_with (go_at_call 41; refine (aligned_any l 8 false _ ha0 ha1 (by omega) (by omega) qa.out).mono ?_; rintro e w' ⟨rfl, rfl⟩)
      refine (must1_bad _ _).mono ?_
      rintro e w' ⟨rfl, rfl⟩
      rw [HR2.out]
      exact ⟨rfl, rfl, (Keeps.refl _ W).alloc _⟩
  | false =>
    go_enter Try.func43, Try.ntmps43
    go_upto_region 4 with fail
    have HK := Lib.hid (show Keeps (fun k => ¬ P k) W W from Keeps.refl _ _)
    have HW := HW0
    have HM := HM0
    clear c1 c2 f2
    have l0 := ha0
    have l1 := ha1
    have e1 := HW.out.c1
    have HAD := Lib.hid fun (hc : chk size l 8 = 0) => address_ok P wb b B size f L ⟨l, false, lf, out⟩ W HM.out hby HW.out ha0 ha1 hc
    have HAB := Lib.hid fun no (hc : chk size l 8 = no) hne => address_bad P wb b B size f L ⟨l, false, lf, out⟩ W HM.out HW.out ha0 ha1 no hc hne
    simp only [] at e1
    obtain ⟨las, hlas⟩ : ∃ z, z = (l % 4096 == 4088) := ⟨_, rfl⟩
    have qlas : (l % 4096 == 4088) = las := hlas.symm
    have HLAS := Lib.hid hlas
    clear hlas
    by_cases hc : chk size l 8 = 0
    case neg =>
      have HNE := Lib.hid (beq_eq_false_iff_ne.2 hc)
      have HR2 := Lib.hid (HR.out.trans (nxt_no1 hc))
      clear hc qlas
      go_wp2_with fail
      refine (HAB.out _ rfl HNE.out).mono ?_
      rintro e w9 ⟨rfl, hb⟩
      rw [HR2.out]
      exact ⟨rfl, rfl, HK.out.trans (kN hb)⟩
    case pos =>
      have HA1 := Lib.hid (HAD.out hc)
      have HCK := Lib.hid hc
      obtain ⟨v, hv⟩ : ∃ z, z = wrd f l := ⟨_, rfl⟩
      have hvb := wrd_bd hby l
      rw [← hv] at HA1 hvb
      have HV := Lib.hid hv
      clear hc HAD HAB hv
      by_cases hcas : l % 4096 = 4088 ∧ 1 < K
      case neg =>
        have HR2 := Lib.hid (HR.out.trans (nxt_ok1 HCK.out hcas))
        have qp : las = false ∨ decide (1 < K) = false := by
          by_cases h1 : l % 4096 = 4088
          · exact .inr (decide_eq_false (fun h2 => hcas ⟨h1, h2⟩))
          · exact .inl (by rw [HLAS.out]; exact beq_eq_false_iff_ne.2 h1)
        clear hcas HLAS
        rcases qp with qp | qp
        · subst qp
          go_wp2_with (go_at_call 54; refine HA1.out.mono ?_; rintro e w2 ⟨rfl, hk, hw⟩; have HK2 := Lib.hid (HK.out.trans hk); have HK23 := Lib.hid hk; have HW2 := Lib.hid hw; clear hk hw)
          go_ret
          rw [HR2.out, ← HV.out]
          exact ⟨rfl, HK2.out, HW2.out⟩
        · cases las
          all_goals
            go_wp2_with (go_at_call 54; refine HA1.out.mono ?_; rintro e w2 ⟨rfl, hk, hw⟩; have HK2 := Lib.hid (HK.out.trans hk); have HK23 := Lib.hid hk; have HW2 := Lib.hid hw; clear hk hw)
            go_ret
            rw [HR2.out, ← HV.out]
            exact ⟨rfl, HK2.out, HW2.out⟩
      case pos =>
        have hlt : las = true := by rw [HLAS.out]; exact beq_iff_eq.2 hcas.1
        have qk : decide (1 < K) = true := decide_eq_true hcas.2
        subst hlt
        have HCAS := Lib.hid hcas
        clear hcas HLAS
        by_cases hv4 : v % 4096 = 0
        case neg =>
          have HR2 := Lib.hid (HR.out.trans (nxt_no2 HCK.out HCAS.out (by rw [← HV.out]; exact hv4)))
          have qv := Lib.hid (beq_eq_false_iff_ne.2 hv4)
          clear hv4
          go_wp2_with (first
            | (go_at_call 54; refine HA1.out.mono ?_; rintro e w2 ⟨rfl, hk, hw⟩; have HK2 := Lib.hid (HK.out.trans hk); have HK23 := Lib.hid hk; have HW2 := Lib.hid hw; clear hk hw)
            | (go_at_call 41; refine (aligned_any v 4096 false _ hvb.1 hvb.2 (by omega) (by omega) qv.out).mono ?_; rintro e w' ⟨rfl, rfl⟩))
          refine (must1_bad _ _).mono ?_
          rintro e w' ⟨rfl, rfl⟩
          rw [HR2.out]
          exact ⟨rfl, rfl, HK2.out.alloc _⟩
        case pos =>
          have qv := Lib.hid (beq_iff_eq.2 hv4)
          go_upto_region 9 with (first
            | (go_at_call 54; refine HA1.out.mono ?_; rintro e w2 ⟨rfl, hk, hw⟩; have HK2 := Lib.hid (HK.out.trans hk); have HK23 := Lib.hid hk; have HW2 := Lib.hid hw; have y1 := (hw.below ((Below.refl _ w2).alloc (Nat.le_refl _) (.cells #[.bool true] 4))).fz 1; clear hk hw)
            | (go_at_call 41; refine (aligned_any v 4096 true _ hvb.1 hvb.2 (by omega) (by omega) qv.out).mono ?_; rintro e w' ⟨rfl, rfl⟩)
            | (go_at_call 27; refine (must1_ok _ _).mono ?_; rintro e w' ⟨rfl, rfl⟩; have x1 := (HW2.out.below ((Below.refl _ w2).alloc (Nat.le_refl _) (.cells #[.bool true] 4))).c1))
          obtain ⟨W3, hW3⟩ : ∃ z, z = (w2.alloc (.cells #[.bool true] 4)).setCell ⟨wb, 1, none⟩ (.int .u64 v) := ⟨_, rfl⟩
          rw [← hW3]
          have hw3 : Wlk P wb W3 (.pointer (some ⟨b, 0, none⟩)) ⟨v, false, lf, out⟩ := by rw [hW3]; exact (HW2.out.below ((Below.refl _ w2).alloc (Nat.le_refl _) (.cells #[.bool true] 4))).set1 v
          have hk3 : Keeps (fun k => ¬ P k) W W3 := by rw [hW3]; exact (HK2.out.alloc _).setCell (p := ⟨wb, 1, none⟩) (fun _ => HW2.out.notg) _
          have hk23 : Keeps (fun k => ¬ P k) W W3 := by rw [hW3]; exact (HK23.out.alloc _).setCell (p := ⟨wb, 1, none⟩) (fun _ => HW2.out.notg) _
          have hm3 : MemAt W3 b B size f L := HM.out.kept hk23 (fun h => h hPb) (fun h => h hPB)
          have HAD := Lib.hid fun (hc : chk size v 8 = 0) => address_ok P wb b B size f L ⟨v, false, lf, out⟩ W3 hm3 hby hw3 hvb.1 hvb.2 hc
          have HAB := Lib.hid fun no (hc : chk size v 8 = no) hne => address_bad P wb b B size f L ⟨v, false, lf, out⟩ W3 hm3 hw3 hvb.1 hvb.2 no hc hne
          have HK3 := Lib.hid hk3
          clear hW3 hw3 hk3 hk23 hm3 x1 y1
          by_cases hc : chk size v 8 = 0
          · have HA2 := Lib.hid (HAD.out hc)
            have HR2 := Lib.hid (HR.out.trans (nxt_ok2 HCK.out HCAS.out (by rw [← HV.out]; exact hv4) (by rw [← HV.out]; exact hc)))
            clear HAD HAB hc hv4
            go_wp2_with (go_at_call 54; refine HA2.out.mono ?_; rintro e w4 ⟨rfl, hk, hw⟩; have HK4 := Lib.hid (HK3.out.trans hk); have HW4 := Lib.hid hw; clear hk hw)
            go_ret
            rw [HR2.out, ← HV.out]
            exact ⟨rfl, HK4.out, HW4.out⟩
          · have HNE := Lib.hid (beq_eq_false_iff_ne.2 hc)
            have HR2 := Lib.hid (HR.out.trans (nxt_no3 HCK.out HCAS.out (by rw [← HV.out]; exact hv4) (by rw [← HV.out]; exact hc)))
            clear hc HAD hv4
            go_wp2_with fail
            refine (HAB.out _ rfl HNE.out).mono ?_
            rintro e w9 ⟨rfl, hb⟩
            rw [HR2.out, ← HV.out]
            exact ⟨rfl, rfl, HK3.out.trans (kN hb)⟩
end Go.Proofs.Ytfploifafpifnaa
