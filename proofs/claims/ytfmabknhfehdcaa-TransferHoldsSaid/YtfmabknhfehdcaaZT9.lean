/- prp: next. -/
import Derived.Test.YtfmabknhfehdcaaZT8
namespace Go.Proofs.Ytfmabknhfehdcaa
set_option linter.unusedVariables false
set_option linter.unusedSimpArgs false
open Go.RowKit

/-- What next leaves. -/
def NxPost (P : Nat → Prop) (wb : Nat) (m : Value) (W : World) (R : Except Int (Int × PSt)) (e : Ending) (W' : World) : Prop := match R with
  | .error no => e = .panicked [pan no] ∧ Keeps (fun k => ¬ P k) W W'
  | .ok x => e = .returned (.int .u64 x.1) ∧ Keeps (fun k => ¬ P k) W W' ∧ Wlk P wb W' m x.2
section
variable {f : Nat → Int} {size : Nat} {K l lf : Int} {out : List Spn}
theorem nxt_no0 (h : l % 8 ≠ 0) : nxtP f size K ⟨l, true, lf, out⟩ = .error 150 := by unfold nxtP; rw [if_pos ⟨rfl, h⟩]
theorem nxt_fresh (h : l % 8 = 0) : nxtP f size K ⟨l, true, lf, out⟩ = nxtP f size K ⟨l, false, lf, out⟩ := by
  simp [nxtP, h]
theorem nxt_no1 (hc : chk size l 8 ≠ 0) : nxtP f size K ⟨l, false, lf, out⟩ = .error (chk size l 8) := by unfold nxtP; rw [if_neg (fun c => by cases c.1), if_pos hc]
theorem nxt_ok1 (hc : chk size l 8 = 0) (hk : ¬ (l % 4096 = 4088 ∧ 1 < K)) : nxtP f size K ⟨l, false, lf, out⟩ = .ok (wrd f l, ⟨l + 8, false, lf, out⟩) := by unfold nxtP; rw [if_neg (fun c => by cases c.1), if_neg (fun c => c hc), if_neg hk]
theorem nxt_no2 (hc : chk size l 8 = 0) (hk : l % 4096 = 4088 ∧ 1 < K) (hv : wrd f l % 4096 ≠ 0) : nxtP f size K ⟨l, false, lf, out⟩ = .error 150 := by unfold nxtP; rw [if_neg (fun c => by cases c.1), if_neg (fun c => c hc), if_pos hk, if_pos hv]
theorem nxt_no3 (hc : chk size l 8 = 0) (hk : l % 4096 = 4088 ∧ 1 < K) (hv : wrd f l % 4096 = 0) (hd : chk size (wrd f l) 8 ≠ 0) : nxtP f size K ⟨l, false, lf, out⟩ = .error (chk size (wrd f l) 8) := by unfold nxtP; rw [if_neg (fun c => by cases c.1), if_neg (fun c => c hc), if_pos hk, if_neg (fun c => c hv), if_pos hd]
theorem nxt_ok2 (hc : chk size l 8 = 0) (hk : l % 4096 = 4088 ∧ 1 < K) (hv : wrd f l % 4096 = 0) (hd : chk size (wrd f l) 8 = 0) : nxtP f size K ⟨l, false, lf, out⟩ = .ok (wrd f (wrd f l), ⟨wrd f l + 8, false, lf, out⟩) := by unfold nxtP; rw [if_neg (fun c => by cases c.1), if_neg (fun c => c hc), if_pos hk, if_neg (fun c => c hv), if_neg (fun c => c hd)]
end
set_option maxRecDepth 100000 in
set_option maxHeartbeats 16000000 in
theorem next_any (P : Nat → Prop) (wb b B size : Nat) (f : Nat → Int) (L : List (Nat × Nat)) (l lf K : Int) (fr : Bool) (out : List Spn) (W : World) (hM : MemAt W b B size f L) (hPb : P b) (hPB : P B) (hby : Bytes f) (h : Wlk P wb W (.pointer (some ⟨b, 0, none⟩)) ⟨l, fr, lf, out⟩) (ha0 : 0 ≤ l) (ha1 : l ≤ 18446744073709551615)
    (hK0 : -9223372036854775808 ≤ K) (hK1 : K ≤ 9223372036854775807) (R : Except Int (Int × PSt)) (hR : R = nxtP f size K ⟨l, fr, lf, out⟩) :
    Calls Try.prog 98 #[.pointer (some ⟨wb, 0, none⟩), .int .i64 K] W (NxPost P wb (.pointer (some ⟨b, 0, none⟩)) W R) := by
  have HR := Lib.hid hR
  have c1 := h.c1
  have c2 := h.c2
  have f2 := h.fz 2
  simp only [] at c1 c2
  have HW0 := Lib.hid h
  have HM0 := Lib.hid hM
  clear h hR hM
  cases fr with
  | true =>
    by_cases hl8 : l % 8 = 0
    · have qa := Lib.hid (beq_iff_eq.2 hl8)
      replace HR := Lib.hid (HR.out.trans (nxt_fresh hl8))
      clear hl8
      go_enter Try.func98, Try.ntmps98
      go_upto_region 4 with (first
        | (go_at_call 89; refine (aligned_any l 8 true _ ha0 ha1 (by omega) (by omega) qa.out).mono ?_; rintro e w' ⟨rfl, rfl⟩)
        | (go_at_call 61; refine (must1_ok _ _).mono ?_; rintro e w' ⟨rfl, rfl⟩; have y2 := (HW0.out.below ((Below.refl _ W).alloc (Nat.le_refl _) (.cells #[.bool true] 4))).fz 2; have x2 := (HW0.out.below ((Below.refl _ W).alloc (Nat.le_refl _) (.cells #[.bool true] 4))).c2))
      obtain ⟨Wc, hWc⟩ : ∃ z, z = (W.alloc (.cells #[.bool true] 4)).setCell ⟨wb, 2, none⟩ (.bool false) := ⟨_, rfl⟩
      rw [← hWc]
      have HW := Lib.hid (show Wlk P wb Wc (.pointer (some ⟨b, 0, none⟩)) ⟨l, false, lf, out⟩ by rw [hWc]; exact (HW0.out.below ((Below.refl _ W).alloc (Nat.le_refl _) (.cells #[.bool true] 4))).set2 false)
      have HK := Lib.hid (show Keeps (fun k => ¬ P k) W Wc by rw [hWc]; exact ((Keeps.refl _ W).alloc _).setCell (p := ⟨wb, 2, none⟩) (fun _ => HW0.out.notg) _)
      have HM := Lib.hid (HM0.out.kept HK.out (fun h => h hPb) (fun h => h hPB))
      clear hWc c1 c2 f2 x2 y2
      have l0 := ha0
      have l1 := ha1
      have e1 := HW.out.c1
      have HAD := Lib.hid fun (hc : chk size l 8 = 0) => address_ok P wb b B size f L ⟨l, false, lf, out⟩ Wc HM.out hby HW.out ha0 ha1 hc
      have HAB := Lib.hid fun no (hc : chk size l 8 = no) hne => address_bad P wb b B size f L ⟨l, false, lf, out⟩ Wc HM.out HW.out ha0 ha1 no hc hne
      simp only [] at e1
      obtain ⟨las, hlas⟩ : ∃ z, z = (l % 4096 == 4088) := ⟨_, rfl⟩
      have qlas : (l % 4096 == 4088) = las := hlas.symm
      have HLAS := Lib.hid hlas
      clear hlas
      by_cases hc : chk size l 8 = 0
      case neg =>
        have HNE := Lib.hid (beq_eq_false_iff_ne.2 hc)
        have HR2 := Lib.hid (HR.out.trans (nxt_no1 hc))
        clear hc qlas
        go_wp2_with fail
        refine (HAB.out _ rfl HNE.out).mono ?_
        rintro e w9 ⟨rfl, hb⟩
        rw [HR2.out]
        exact ⟨rfl, rfl, HK.out.trans (kN hb)⟩
      case pos =>
        have HA1 := Lib.hid (HAD.out hc)
        have HCK := Lib.hid hc
        obtain ⟨v, hv⟩ : ∃ z, z = wrd f l := ⟨_, rfl⟩
        have hvb := wrd_bd hby l
        rw [← hv] at HA1 hvb
        have HV := Lib.hid hv
        clear hc HAD HAB hv
        by_cases hcas : l % 4096 = 4088 ∧ 1 < K
        case neg =>
          have HR2 := Lib.hid (HR.out.trans (nxt_ok1 HCK.out hcas))
          have qp : las = false ∨ decide (1 < K) = false := by
            by_cases h1 : l % 4096 = 4088
            · exact .inr (decide_eq_false (fun h2 => hcas ⟨h1, h2⟩))
            · exact .inl (by rw [HLAS.out]; exact beq_eq_false_iff_ne.2 h1)
          clear hcas HLAS
          rcases qp with qp | qp
          · subst qp
            go_wp2_with (go_at_call 104; refine HA1.out.mono ?_; rintro e w2 ⟨rfl, hk, hw⟩; have HK2 := Lib.hid (HK.out.trans hk); have HK23 := Lib.hid hk; have HW2 := Lib.hid hw; clear hk hw)
            go_ret
            rw [HR2.out, ← HV.out]
            exact ⟨rfl, HK2.out, HW2.out⟩
          · cases las
            all_goals
              go_wp2_with (go_at_call 104; refine HA1.out.mono ?_; rintro e w2 ⟨rfl, hk, hw⟩; have HK2 := Lib.hid (HK.out.trans hk); have HK23 := Lib.hid hk; have HW2 := Lib.hid hw; clear hk hw)
              go_ret
              rw [HR2.out, ← HV.out]
              exact ⟨rfl, HK2.out, HW2.out⟩
        case pos =>
          have hlt : las = true := by rw [HLAS.out]; exact beq_iff_eq.2 hcas.1
          have qk : decide (1 < K) = true := decide_eq_true hcas.2
          subst hlt
          have HCAS := Lib.hid hcas
          clear hcas HLAS
          by_cases hv4 : v % 4096 = 0
          case neg =>
            have HR2 := Lib.hid (HR.out.trans (nxt_no2 HCK.out HCAS.out (by rw [← HV.out]; exact hv4)))
            have qv := Lib.hid (beq_eq_false_iff_ne.2 hv4)
            clear hv4
            go_wp2_with (first
              | (go_at_call 104; refine HA1.out.mono ?_; rintro e w2 ⟨rfl, hk, hw⟩; have HK2 := Lib.hid (HK.out.trans hk); have HK23 := Lib.hid hk; have HW2 := Lib.hid hw; clear hk hw)
              | (go_at_call 89; refine (aligned_any v 4096 false _ hvb.1 hvb.2 (by omega) (by omega) qv.out).mono ?_; rintro e w' ⟨rfl, rfl⟩))
            refine (must1_bad _ _).mono ?_
            rintro e w' ⟨rfl, rfl⟩
            rw [HR2.out]
            exact ⟨rfl, rfl, HK2.out.alloc _⟩
          case pos =>
            have qv := Lib.hid (beq_iff_eq.2 hv4)
            go_upto_region 9 with (first
              | (go_at_call 104; refine HA1.out.mono ?_; rintro e w2 ⟨rfl, hk, hw⟩; have HK2 := Lib.hid (HK.out.trans hk); have HK23 := Lib.hid hk; have HW2 := Lib.hid hw; have y1 := (hw.below ((Below.refl _ w2).alloc (Nat.le_refl _) (.cells #[.bool true] 4))).fz 1; clear hk hw)
              | (go_at_call 89; refine (aligned_any v 4096 true _ hvb.1 hvb.2 (by omega) (by omega) qv.out).mono ?_; rintro e w' ⟨rfl, rfl⟩)
              | (go_at_call 61; refine (must1_ok _ _).mono ?_; rintro e w' ⟨rfl, rfl⟩; have x1 := (HW2.out.below ((Below.refl _ w2).alloc (Nat.le_refl _) (.cells #[.bool true] 4))).c1))
            obtain ⟨W3, hW3⟩ : ∃ z, z = (w2.alloc (.cells #[.bool true] 4)).setCell ⟨wb, 1, none⟩ (.int .u64 v) := ⟨_, rfl⟩
            rw [← hW3]
            have hw3 : Wlk P wb W3 (.pointer (some ⟨b, 0, none⟩)) ⟨v, false, lf, out⟩ := by rw [hW3]; exact (HW2.out.below ((Below.refl _ w2).alloc (Nat.le_refl _) (.cells #[.bool true] 4))).set1 v
            have hk3 : Keeps (fun k => ¬ P k) W W3 := by rw [hW3]; exact (HK2.out.alloc _).setCell (p := ⟨wb, 1, none⟩) (fun _ => HW2.out.notg) _
            have hk23 : Keeps (fun k => ¬ P k) Wc W3 := by rw [hW3]; exact (HK23.out.alloc _).setCell (p := ⟨wb, 1, none⟩) (fun _ => HW2.out.notg) _
            have hm3 : MemAt W3 b B size f L := HM.out.kept hk23 (fun h => h hPb) (fun h => h hPB)
            have HAD := Lib.hid fun (hc : chk size v 8 = 0) => address_ok P wb b B size f L ⟨v, false, lf, out⟩ W3 hm3 hby hw3 hvb.1 hvb.2 hc
            have HAB := Lib.hid fun no (hc : chk size v 8 = no) hne => address_bad P wb b B size f L ⟨v, false, lf, out⟩ W3 hm3 hw3 hvb.1 hvb.2 no hc hne
            have HK3 := Lib.hid hk3
            clear hW3 hw3 hk3 hk23 hm3 x1 y1
            by_cases hc : chk size v 8 = 0
            · have HA2 := Lib.hid (HAD.out hc)
              have HR2 := Lib.hid (HR.out.trans (nxt_ok2 HCK.out HCAS.out (by rw [← HV.out]; exact hv4) (by rw [← HV.out]; exact hc)))
              clear HAD HAB hc hv4
              go_wp2_with (go_at_call 104; refine HA2.out.mono ?_; rintro e w4 ⟨rfl, hk, hw⟩; have HK4 := Lib.hid (HK3.out.trans hk); have HW4 := Lib.hid hw; clear hk hw)
              go_ret
              rw [HR2.out, ← HV.out]
              exact ⟨rfl, HK4.out, HW4.out⟩
            · have HNE := Lib.hid (beq_eq_false_iff_ne.2 hc)
              have HR2 := Lib.hid (HR.out.trans (nxt_no3 HCK.out HCAS.out (by rw [← HV.out]; exact hv4) (by rw [← HV.out]; exact hc)))
              clear hc HAD hv4
              go_wp2_with fail
              refine (HAB.out _ rfl HNE.out).mono ?_
              rintro e w9 ⟨rfl, hb⟩
              rw [HR2.out, ← HV.out]
              exact ⟨rfl, rfl, HK3.out.trans (kN hb)⟩
    · have qa := Lib.hid (beq_eq_false_iff_ne.2 hl8)
      have HR2 := Lib.hid (HR.out.trans (nxt_no0 hl8))
      clear hl8
      go_enter Try.func98, Try.ntmps98
      go_wp2_with (go_at_call 89; refine (aligned_any l 8 false _ ha0 ha1 (by omega) (by omega) qa.out).mono ?_; rintro e w' ⟨rfl, rfl⟩)
      refine (must1_bad _ _).mono ?_
      rintro e w' ⟨rfl, rfl⟩
      rw [HR2.out]
      exact ⟨rfl, rfl, (Keeps.refl _ W).alloc _⟩
  | false =>
    go_enter Try.func98, Try.ntmps98
    go_upto_region 4 with fail
    have HK := Lib.hid (show Keeps (fun k => ¬ P k) W W from Keeps.refl _ _)
    have HW := HW0
    have HM := HM0
    clear c1 c2 f2
    have l0 := ha0
    have l1 := ha1
    have e1 := HW.out.c1
    have HAD := Lib.hid fun (hc : chk size l 8 = 0) => address_ok P wb b B size f L ⟨l, false, lf, out⟩ W HM.out hby HW.out ha0 ha1 hc
    have HAB := Lib.hid fun no (hc : chk size l 8 = no) hne => address_bad P wb b B size f L ⟨l, false, lf, out⟩ W HM.out HW.out ha0 ha1 no hc hne
    simp only [] at e1
    obtain ⟨las, hlas⟩ : ∃ z, z = (l % 4096 == 4088) := ⟨_, rfl⟩
    have qlas : (l % 4096 == 4088) = las := hlas.symm
    have HLAS := Lib.hid hlas
    clear hlas
    by_cases hc : chk size l 8 = 0
    case neg =>
      have HNE := Lib.hid (beq_eq_false_iff_ne.2 hc)
      have HR2 := Lib.hid (HR.out.trans (nxt_no1 hc))
      clear hc qlas
      go_wp2_with fail
      refine (HAB.out _ rfl HNE.out).mono ?_
      rintro e w9 ⟨rfl, hb⟩
      rw [HR2.out]
      exact ⟨rfl, rfl, HK.out.trans (kN hb)⟩
    case pos =>
      have HA1 := Lib.hid (HAD.out hc)
      have HCK := Lib.hid hc
      obtain ⟨v, hv⟩ : ∃ z, z = wrd f l := ⟨_, rfl⟩
      have hvb := wrd_bd hby l
      rw [← hv] at HA1 hvb
      have HV := Lib.hid hv
      clear hc HAD HAB hv
      by_cases hcas : l % 4096 = 4088 ∧ 1 < K
      case neg =>
        have HR2 := Lib.hid (HR.out.trans (nxt_ok1 HCK.out hcas))
        have qp : las = false ∨ decide (1 < K) = false := by
          by_cases h1 : l % 4096 = 4088
          · exact .inr (decide_eq_false (fun h2 => hcas ⟨h1, h2⟩))
          · exact .inl (by rw [HLAS.out]; exact beq_eq_false_iff_ne.2 h1)
        clear hcas HLAS
        rcases qp with qp | qp
        · subst qp
          go_wp2_with (go_at_call 104; refine HA1.out.mono ?_; rintro e w2 ⟨rfl, hk, hw⟩; have HK2 := Lib.hid (HK.out.trans hk); have HK23 := Lib.hid hk; have HW2 := Lib.hid hw; clear hk hw)
          go_ret
          rw [HR2.out, ← HV.out]
          exact ⟨rfl, HK2.out, HW2.out⟩
        · cases las
          all_goals
            go_wp2_with (go_at_call 104; refine HA1.out.mono ?_; rintro e w2 ⟨rfl, hk, hw⟩; have HK2 := Lib.hid (HK.out.trans hk); have HK23 := Lib.hid hk; have HW2 := Lib.hid hw; clear hk hw)
            go_ret
            rw [HR2.out, ← HV.out]
            exact ⟨rfl, HK2.out, HW2.out⟩
      case pos =>
        have hlt : las = true := by rw [HLAS.out]; exact beq_iff_eq.2 hcas.1
        have qk : decide (1 < K) = true := decide_eq_true hcas.2
        subst hlt
        have HCAS := Lib.hid hcas
        clear hcas HLAS
        by_cases hv4 : v % 4096 = 0
        case neg =>
          have HR2 := Lib.hid (HR.out.trans (nxt_no2 HCK.out HCAS.out (by rw [← HV.out]; exact hv4)))
          have qv := Lib.hid (beq_eq_false_iff_ne.2 hv4)
          clear hv4
          go_wp2_with (first
            | (go_at_call 104; refine HA1.out.mono ?_; rintro e w2 ⟨rfl, hk, hw⟩; have HK2 := Lib.hid (HK.out.trans hk); have HK23 := Lib.hid hk; have HW2 := Lib.hid hw; clear hk hw)
            | (go_at_call 89; refine (aligned_any v 4096 false _ hvb.1 hvb.2 (by omega) (by omega) qv.out).mono ?_; rintro e w' ⟨rfl, rfl⟩))
          refine (must1_bad _ _).mono ?_
          rintro e w' ⟨rfl, rfl⟩
          rw [HR2.out]
          exact ⟨rfl, rfl, HK2.out.alloc _⟩
        case pos =>
          have qv := Lib.hid (beq_iff_eq.2 hv4)
          go_upto_region 9 with (first
            | (go_at_call 104; refine HA1.out.mono ?_; rintro e w2 ⟨rfl, hk, hw⟩; have HK2 := Lib.hid (HK.out.trans hk); have HK23 := Lib.hid hk; have HW2 := Lib.hid hw; have y1 := (hw.below ((Below.refl _ w2).alloc (Nat.le_refl _) (.cells #[.bool true] 4))).fz 1; clear hk hw)
            | (go_at_call 89; refine (aligned_any v 4096 true _ hvb.1 hvb.2 (by omega) (by omega) qv.out).mono ?_; rintro e w' ⟨rfl, rfl⟩)
            | (go_at_call 61; refine (must1_ok _ _).mono ?_; rintro e w' ⟨rfl, rfl⟩; have x1 := (HW2.out.below ((Below.refl _ w2).alloc (Nat.le_refl _) (.cells #[.bool true] 4))).c1))
          obtain ⟨W3, hW3⟩ : ∃ z, z = (w2.alloc (.cells #[.bool true] 4)).setCell ⟨wb, 1, none⟩ (.int .u64 v) := ⟨_, rfl⟩
          rw [← hW3]
          have hw3 : Wlk P wb W3 (.pointer (some ⟨b, 0, none⟩)) ⟨v, false, lf, out⟩ := by rw [hW3]; exact (HW2.out.below ((Below.refl _ w2).alloc (Nat.le_refl _) (.cells #[.bool true] 4))).set1 v
          have hk3 : Keeps (fun k => ¬ P k) W W3 := by rw [hW3]; exact (HK2.out.alloc _).setCell (p := ⟨wb, 1, none⟩) (fun _ => HW2.out.notg) _
          have hk23 : Keeps (fun k => ¬ P k) W W3 := by rw [hW3]; exact (HK23.out.alloc _).setCell (p := ⟨wb, 1, none⟩) (fun _ => HW2.out.notg) _
          have hm3 : MemAt W3 b B size f L := HM.out.kept hk23 (fun h => h hPb) (fun h => h hPB)
          have HAD := Lib.hid fun (hc : chk size v 8 = 0) => address_ok P wb b B size f L ⟨v, false, lf, out⟩ W3 hm3 hby hw3 hvb.1 hvb.2 hc
          have HAB := Lib.hid fun no (hc : chk size v 8 = no) hne => address_bad P wb b B size f L ⟨v, false, lf, out⟩ W3 hm3 hw3 hvb.1 hvb.2 no hc hne
          have HK3 := Lib.hid hk3
          clear hW3 hw3 hk3 hk23 hm3 x1 y1
          by_cases hc : chk size v 8 = 0
          · have HA2 := Lib.hid (HAD.out hc)
            have HR2 := Lib.hid (HR.out.trans (nxt_ok2 HCK.out HCAS.out (by rw [← HV.out]; exact hv4) (by rw [← HV.out]; exact hc)))
            clear HAD HAB hc hv4
            go_wp2_with (go_at_call 104; refine HA2.out.mono ?_; rintro e w4 ⟨rfl, hk, hw⟩; have HK4 := Lib.hid (HK3.out.trans hk); have HW4 := Lib.hid hw; clear hk hw)
            go_ret
            rw [HR2.out, ← HV.out]
            exact ⟨rfl, HK4.out, HW4.out⟩
          · have HNE := Lib.hid (beq_eq_false_iff_ne.2 hc)
            have HR2 := Lib.hid (HR.out.trans (nxt_no3 HCK.out HCAS.out (by rw [← HV.out]; exact hv4) (by rw [← HV.out]; exact hc)))
            clear hc HAD hv4
            go_wp2_with fail
            refine (HAB.out _ rfl HNE.out).mono ?_
            rintro e w9 ⟨rfl, hb⟩
            rw [HR2.out, ← HV.out]
            exact ⟨rfl, rfl, HK3.out.trans (kN hb)⟩
end Go.Proofs.Ytfmabknhfehdcaa

namespace Go.Proofs.Ytfmabknhfehdcaa
open Go.RowKit

theorem must1_ok' (no : Int) (b : Nat) (w : World) (hb : b = w.heap.size) : Calls Try.prog 61 #[.int .i64 no, .slice (some ⟨b, 0, none⟩) 1 1] (w.alloc (.cells #[.bool true] 4)) fun e w' => e = .returned (.tuple #[]) ∧ w.alloc (.cells #[.bool true] 4) = w' := by subst hb; exact must1_ok no w
theorem must1_bad' (no : Int) (b : Nat) (w : World) (hb : b = w.heap.size) : Calls Try.prog 61 #[.int .i64 no, .slice (some ⟨b, 0, none⟩) 1 1] (w.alloc (.cells #[.bool false] 4)) fun e w' => e = .panicked [pan no] ∧ w.alloc (.cells #[.bool false] 4) = w' := by subst hb; exact must1_bad no w
theorem must2_ok' (no : Int) (b : Nat) (w : World) (hb : b = w.heap.size) : Calls Try.prog 61 #[.int .i64 no, .slice (some ⟨b, 0, none⟩) 2 2] (w.alloc (.cells #[.bool true, .bool true] 4)) fun e w' => e = .returned (.tuple #[]) ∧ w.alloc (.cells #[.bool true, .bool true] 4) = w' := by subst hb; exact must2_ok no w
theorem must2_bad' (no : Int) (x y : Bool) (h : x = false ∨ y = false) (b : Nat) (w : World) (hb : b = w.heap.size) : Calls Try.prog 61 #[.int .i64 no, .slice (some ⟨b, 0, none⟩) 2 2] (w.alloc (.cells #[.bool x, .bool y] 4)) fun e w' => e = .panicked [pan no] ∧ w.alloc (.cells #[.bool x, .bool y] 4) = w' := by subst hb; exact must2_bad no x y h w
theorem must5_ok' (no : Int) (b : Nat) (w : World) (hb : b = w.heap.size) : Calls Try.prog 61 #[.int .i64 no, .slice (some ⟨b, 0, none⟩) 5 5] (w.alloc (.cells #[.bool true, .bool true, .bool true, .bool true, .bool true] 4)) fun e w' => e = .returned (.tuple #[]) ∧ w.alloc (.cells #[.bool true, .bool true, .bool true, .bool true, .bool true] 4) = w' := by subst hb; exact must5_ok no w

theorem spans_results (tmps : Array Value) (w : World) (ob eb : Nat) (v : Value) (x : Int) (h2 : tmps.getD 8 undef = .pointer (some ⟨ob, 0, none⟩)) (h3 : tmps.getD 9 undef = .pointer (some ⟨eb, 0, none⟩))
    (hf : w.cell? ⟨ob, 0, none⟩ = some v) (he : w.cell? ⟨eb, 0, none⟩ = some (.int .i64 x)) :
    (results Try.f92 tmps).run Try.prog w = .ok (.tuple #[v, .int .i64 x]) w := by
  have h2' : tmps[8]?.getD undef = .pointer (some ⟨ob, 0, none⟩) := by simpa using h2
  have h3' : tmps[9]?.getD undef = .pointer (some ⟨eb, 0, none⟩) := by simpa using h3
  simp [results, Try.results92, h2', h3', asAddr, go_sem, he, hf]
/-- the deferred call -/
def dfrS (ob eb : Nat) : Deferred := { target := .fn (.func 59) #[], args := #[.pointer (some ⟨eb, 0, none⟩), .func (.func 96) #[] #[.pointer (some ⟨ob, 0, none⟩)]] }
theorem spans_bad (tmps : Array Value) (w : World) (ob eb : Nat) (v : Value) (x no : Int) (R : Ending → World → Prop) (h2 : tmps.getD 8 undef = .pointer (some ⟨ob, 0, none⟩)) (h3 : tmps.getD 9 undef = .pointer (some ⟨eb, 0, none⟩))
    (hf : w.cell? ⟨ob, 0, none⟩ = some v) (hz : w.frozen? ⟨ob, 0, none⟩ = false) (he : w.cell? ⟨eb, 0, none⟩ = some (.int .i64 x)) (hz' : w.frozen? ⟨eb, 0, none⟩ = false) (hne : eb ≠ ob)
    (hR : ∀ w', Keeps (Two ob eb) w w' → R (.returned (.tuple #[.slice none 0 0, .int .i64 no])) w') :
    bodyPostD Try.prog Try.f92 R (Exit.panic [pan no]) { tmps := tmps, defers := [dfrS ob eb] } w := by
  show Leaves Try.prog Try.f92 tmps R [dfrS ob eb] (.panicking [pan no]) w
  refine leaves_cons (f := 59) (args := #[.pointer (some ⟨eb, 0, none⟩), .func (.func 96) #[] #[.pointer (some ⟨ob, 0, none⟩)]]) (by simp) (by simp [go_sem]) ?_
  refine (caught_panicking 96 _ (One ob) eb _ _ x no w (clears_spans ob) ⟨⟨v, hf⟩, hz⟩ he hz' (fun e => hne e) (fun a b h k => k.cell h (fun e => hne (Eq.symm e)))).mono ?_
  rintro e u' w'' ⟨rfl, rfl, hk, hc, hc2⟩
  show Leaves Try.prog Try.f92 tmps R [] .returning w''
  exact ⟨_, spans_results tmps w'' ob eb _ no h2 h3 hc hc2, hR w'' (hk.mono fun j _ e => e.elim (fun e => .inl e) (fun e => .inr e))⟩
theorem spans_good (tmps : Array Value) (w : World) (ob eb : Nat) (v : Value) (x : Int) (R : Ending → World → Prop) (h2 : tmps.getD 8 undef = .pointer (some ⟨ob, 0, none⟩)) (h3 : tmps.getD 9 undef = .pointer (some ⟨eb, 0, none⟩))
    (hf : w.cell? ⟨ob, 0, none⟩ = some v) (he : w.cell? ⟨eb, 0, none⟩ = some (.int .i64 x)) (hR : R (.returned (.tuple #[v, .int .i64 x])) w) :
    bodyPostD Try.prog Try.f92 R Exit.ret { tmps := tmps, defers := [dfrS ob eb] } w := by
  show Leaves Try.prog Try.f92 tmps R [dfrS ob eb] .returning w
  refine leaves_cons (f := 59) (args := #[.pointer (some ⟨eb, 0, none⟩), .func (.func 96) #[] #[.pointer (some ⟨ob, 0, none⟩)]]) (by simp) (by simp [go_sem]) ?_
  refine (caught_idle _ _ w).mono ?_
  rintro e u' w'' ⟨rfl, rfl, rfl⟩
  show Leaves Try.prog Try.f92 tmps R [] .returning _
  exact ⟨_, spans_results tmps _ ob eb v x h2 h3 hf he, hR⟩
/-- What lies in memory while Spans runs: its variables. -/
structure SSt (w W : World) : Prop where
  below : Below w.heap.size w W
  out : W.cell? ⟨w.heap.size, 0, none⟩ = some (.slice none 0 0)
  ofz : W.frozen? ⟨w.heap.size, 0, none⟩ = false
  err : W.cell? ⟨w.heap.size + 1, 0, none⟩ = some (.int .i64 0)
  efz : W.frozen? ⟨w.heap.size + 1, 0, none⟩ = false
namespace SSt
variable {w W W' : World}
theorem lt (h : SSt w W) : w.heap.size + 1 < W.heap.size := World.block_lt_of_cell? _ _ h.err
theorem kept {S : Nat → Prop} (h : SSt w W) (k : Keeps S W W') (hS : ∀ j, j ≤ w.heap.size + 1 → ¬ S j) : SSt w W' := by
  have hl := h.lt
  refine ⟨h.below.trans (k.below h.below.size (fun j hj => hS j (by omega))), k.cell h.out (hS _ (by simp)), ?_, k.cell h.err (hS _ (by simp)), ?_⟩
  · rw [World.frozen?_of_block (a := ⟨w.heap.size, 0, none⟩) (k.block (w.heap.size) (by omega) (hS _ (by omega)))]; exact h.ofz
  · rw [World.frozen?_of_block (a := ⟨w.heap.size + 1, 0, none⟩) (k.block (w.heap.size + 1) (by omega) (hS _ (by omega)))]; exact h.efz
theorem beyond (h : SSt w W) (hb : Below W.heap.size W W') : SSt w W' := h.kept (Keeps.of_below (S := fun _ => False) hb) (fun _ _ e => e)
end SSt

theorem sst_start (w : World) : SSt w ((w.alloc (.cells #[.slice none 0 0] 31)).alloc (.cells #[.int .i64 0] 50)) := by
  refine ⟨((Below.refl _ w).alloc (Nat.le_refl _) _).alloc (by simp) _, ?_, ?_, ?_, ?_⟩
  all_goals go_simp
theorem sp_bad {w W : World} {no : Int} {tmps : Array Value} (S : SSt w W) (h8 : tmps.getD 8 undef = .pointer (some ⟨w.heap.size, 0, none⟩)) (h9 : tmps.getD 9 undef = .pointer (some ⟨w.heap.size + 1, 0, none⟩)) :
    bodyPostD Try.prog Try.f92 (SpPost w (.error no)) (Exit.panic [pan no]) { tmps := tmps, defers := [dfrS (w.heap.size) (w.heap.size + 1)] } W :=
  spans_bad tmps W _ _ _ 0 no _ h8 h9 S.out S.ofz S.err S.efz (by omega) fun w' k => ⟨S.below.trans (k.below (B := w.heap.size) S.below.size (fun j hj e => by rcases e with e | e <;> omega)), rfl⟩

section
variable {f : Nat → Int} {size : Nat} {second K i : Int} {k : Nat} {s : PSt} {R : Except Int (List Spn)}
theorem run_err1 {no : Int} (h : runP f size second K (k + 1) i s = R) (hx : adrP f size second K i s = .error no) : R = .error no := by
  rw [← h]; unfold runP stepP; rw [hx]
theorem run_err2 {x : Int × PSt} (h : runP f size second K (k + 1) i s = R) (hx : adrP f size second K i s = .ok x) (ha : x.1 % 4096 ≠ 0) : R = .error 150 := by
  rw [← h]; unfold runP stepP; rw [hx]; simp only []; rw [if_pos ha]
theorem run_err3 {x : Int × PSt} (h : runP f size second K (k + 1) i s = R) (hx : adrP f size second K i s = .ok x) (ha : x.1 % 4096 = 0) {no : Int} (hc : chk size x.1 (min x.2.left (4096 - x.1 % 4096)) = no) (hn : no ≠ 0) : R = .error no := by
  rw [← h]; unfold runP stepP; rw [hx]; simp only []; rw [if_neg (fun c => c ha)]; unfold addA; rw [hc, if_pos hn]
theorem run_more {x : Int × PSt} {m : Int} (h : runP f size second K (k + 1) i s = R) (hx : adrP f size second K i s = .ok x) (ha : x.1 % 4096 = 0) (hm : min x.2.left (4096 - x.1 % 4096) = m) (hc : chk size x.1 m = 0) :
    runP f size second K k (i + 1) ⟨x.2.list, x.2.fresh, x.2.left - m, x.2.out ++ [⟨x.1, m, false⟩]⟩ = R := by
  rw [← h]
  conv => rhs; unfold runP stepP
  rw [hx]; simp only []; rw [if_neg (fun c => c ha)]; unfold addA; rw [hm, hc, if_neg (by omega)]
theorem nxt_keeps {x : Int × PSt} (hf : Bytes f) (hz : size ≤ 4194304) (hl : 0 ≤ s.list) (h : nxtP f size K s = .ok x) : (0 ≤ x.1 ∧ x.1 ≤ 18446744073709551615) ∧ (0 ≤ x.2.list ∧ x.2.list ≤ 18446744073709551615) ∧ x.2.left = s.left ∧ x.2.out = s.out := by
  unfold nxtP at h
  split at h
  · cases h
  · split at h
    · cases h
    · rename_i hc
      obtain ⟨c1, c2⟩ := chk_ok (Classical.not_not.1 hc)
      split at h
      · split at h
        · cases h
        · split at h
          · cases h
          · rename_i hd
            obtain ⟨d1, d2⟩ := chk_ok (Classical.not_not.1 hd)
            cases h
            have := (wrd_bd hf s.list).1
            exact ⟨wrd_bd hf _, ⟨by simp only []; omega, by simp only []; omega⟩, rfl, rfl⟩
      · cases h
        refine ⟨wrd_bd hf _, ?_, rfl, rfl⟩
        simp only []
        omega
end
end Go.Proofs.Ytfmabknhfehdcaa
