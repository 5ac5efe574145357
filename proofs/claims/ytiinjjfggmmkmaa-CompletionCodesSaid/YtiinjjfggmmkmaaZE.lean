/- sort: the two partitions. -/
import Derived.Test.YtiinjjfggmmkmaaZA
import Derived.Deep.CutBlock
namespace Go.Proofs.Ytiinjjfggmmkmaa
set_option linter.unusedVariables false
set_option linter.unusedSimpArgs false
open Go.RowKit Go.Sort

theorem su_go (p : Int → Bool) (d : Array Int) (j i : Nat) (h : i ≤ j) (hp : p d[i]! = true) : scanUp p d j i = scanUp p d j (i + 1) := by
  conv => lhs; rw [scanUp]
  simp [h, hp]
theorem su_stop (p : Int → Bool) (d : Array Int) (j i : Nat) (h : ¬ i ≤ j ∨ p d[i]! = false) : scanUp p d j i = i := by
  rw [scanUp]
  rcases h with h | h <;> simp [h]
theorem sd2_go (p : Int → Bool) (d : Array Int) (i k : Nat) (h : i ≤ k + 1) (hp : p d[k + 1]! = true) : scanDown p d i (k + 1) = scanDown p d i k := by
  conv => lhs; rw [scanDown]
  simp [h, hp]
theorem sd2_stop (p : Int → Bool) (d : Array Int) (i j : Nat) (h : ¬ i ≤ j ∨ p d[j]! = false) : scanDown p d i j = j := by
  cases j with
  | zero => rw [scanDown]
  | succ k =>
    rw [scanDown]
    rcases h with h | h <;> simp [h]
/-- where the two scans stop -/
theorem two_scans (p q : Int → Bool) (hq : ∀ x, q x = !p x) (d : Array Int) (i j : Nat) (hi : 0 < i) (hij : i ≤ j + 1) :
    i ≤ scanUp p d j i ∧ scanUp p d j i ≤ j + 1 ∧ scanDown q d (scanUp p d j i) j ≤ j ∧ scanUp p d j i ≤ scanDown q d (scanUp p d j i) j + 1 ∧
    (¬ scanUp p d j i > scanDown q d (scanUp p d j i) j → scanUp p d j i < scanDown q d (scanUp p d j i) j) := by
  obtain ⟨h1, h2, h3, h4, _, _, h5⟩ := round_facts p q hq d (i - 1) (j + 1) i j (by omega) hij (fun t h1 h2 => by omega) (fun t h1 h2 => by omega)
  exact ⟨h1, h2, h3, h4, fun h => (h5 h).2.2⟩
/-- partitionEqual -/
theorem partEq_todo : True := trivial

set_option maxRecDepth 100000 in
set_option maxHeartbeats 8000000 in
theorem partEq_any (g o c a b pv : Nat) (d : Array Int) (w : World) (h : Rw w w g o d) (hp1 : a ≤ pv) (hp2 : pv < b) (hb : b ≤ d.size) (hN0 : d.size < 2305843009213693952) :
    Calls Try.prog 71 #[.slice (some ⟨g, o, none⟩) d.size c, .int .i64 a, .int .i64 b, .int .i64 pv] w fun e w' => e = .returned (.int .i64 (partitionEqual ltInt d a b pv).1) ∧ Rw w w' g o (partitionEqual ltInt d a b pv).2 := by
  have H := Lib.hid h
  have HL := Lib.hid less_any
  clear h
  obtain ⟨N, hN⟩ : ∃ N, N = d.size := ⟨_, rfl⟩
  rw [← hN] at hb hN0 ⊢
  have HN := Lib.hid hN
  clear hN
  have ea : IntKind.i64.wrap ((a : Int) + 1) = (a : Int) + 1 := IntWalk.i64_in _ (by omega)
  have eb : IntKind.i64.wrap ((b : Int) - 1) = ((b - 1 : Nat) : Int) := by rw [IntWalk.i64_in _ (by omega)]; omega
  go_enter Try.func71, Try.ntmps71
  go_upto_region 1 with fail
  go_cut [9] from 11 to 24 (fun v0 wc => v0 = undef ∧ Rw w wc g o (swp d a pv))
  case first =>
    have h1 : a < (d).size := by have := HN.out; omega
    have h2 : pv < (d).size := by have := HN.out; omega
    have cI := H.out.cell h1
    have cJ := H.out.cell h2
    have fI := H.out.frozen h1
    have fJ := H.out.frozen h2
    obtain ⟨xI, hxI⟩ : ∃ x, x = (d)[a]! := ⟨_, rfl⟩
    obtain ⟨xJ, hxJ⟩ : ∃ x, x = (d)[pv]! := ⟨_, rfl⟩
    have hSW := fun n => (H.out.drewN n).swap h1 h2
    rw [← hxI] at cI
    rw [← hxJ] at cJ
    rw [← hxJ, ← hxI] at hSW
    have HSW := Lib.hid hSW
    clear hxI hxJ hSW
    by_cases he0 : pv = a
    · have he : o + pv = o + a := by omega
      have hax : xJ = xI := by
        have := cJ
        rw [he, cI] at this
        injection this with this
        injection this with _ this
        exact this.symm
      have HSW0 := Lib.hid (show ∀ n, Rw w (((w.drewN n).setCell ⟨g, o + a, none⟩ (.int .u16 xI)).setCell ⟨g, o + a, none⟩ (.int .u16 xI)) g o (swp d a pv) from fun n => by
        have := HSW.out n
        rw [hax, he] at this
        exact this)
      clear cJ fJ hax he0
      go_region_with fail
      all_goals
        go_wp2_with fail
        go_meet
        exact ⟨rfl, HSW0.out 1⟩
    · have hne : ¬ (o + pv = o + a) := by omega
      go_region_with fail
      all_goals
        go_wp2_with fail
        go_meet
        exact ⟨rfl, HSW.out 1⟩
  case rest =>
    obtain ⟨rfl, hR⟩ := hcut
    have R0 := Lib.hid hR
    clear hR
    have hjb : (b - 1 : Nat) < b := by omega
    go_wp2_with fail
    go_loopw [9, 10] (fun vi vj wr => ∃ (i j : Nat) (dk : Array Int), vi = .int .i64 i ∧ vj = .int .i64 j ∧ a < i ∧ i ≤ j + 1 ∧ j < b ∧ dk.size = N ∧ Rw w wr g o dk ∧ partEqLoop ltInt a i j dk = partEqLoop ltInt a (a + 1) (b - 1) (swp d a pv)) (fun vi vj _ => (intOf vj + 1 - intOf vi).toNat)
    case atStart => exact ⟨a + 1, b - 1, swp d a pv, by go_num, rfl, by omega, by omega, by omega, by rw [size_swp]; exact HN.out.symm, R0.out, rfl⟩
    case round =>
      obtain ⟨i, j, dk, rfl, rfl, hai, hij, hjb, hsk, hrw, hO⟩ := hrel
      clear R0 ea eb
      have R := Lib.hid hrw
      have HO := Lib.hid hO
      have HS := Lib.hid hsk
      clear hrw hO hsk
      obtain ⟨wo, hwo⟩ : ∃ wo : World, wo = wr := ⟨_, rfl⟩
      subst hwo
      have T := Lib.hid (two_scans (fun x => !ltInt dk[a]! x) (fun x => ltInt dk[a]! x) (fun x => by simp) dk i j (by omega) hij)
      go_upto_block 2 with fail
      go_cut [9] from 29 to 82 (fun v wc => v = .int .i64 ((scanUp (fun x => !ltInt dk[a]! x) dk j i : Nat) : Int) ∧ Rw w wc g o dk)
      case first =>
        go_wp2_with fail
        go_loopw [9] (fun vi wr2 => ∃ t : Nat, vi = .int .i64 t ∧ i ≤ t ∧ t ≤ j + 1 ∧ scanUp (fun x => !ltInt dk[a]! x) dk j t = scanUp (fun x => !ltInt dk[a]! x) dk j i ∧ Rw w wr2 g o dk) (fun vi _ => (j + 1 - (intOf vi).toNat))
        case atStart => exact ⟨i, rfl, Nat.le_refl _, by omega, rfl, R.out⟩
        case round =>
          obtain ⟨t, rfl, ht1, ht2, hsu, hrw2⟩ := hrel
          have R2 := Lib.hid hrw2
          have HU := Lib.hid hsu
          clear hrw2 hsu
          by_cases hle : t ≤ j
          · have hsz := HS.out
            have h0 : a < (dk).size := by omega
            have h1 : t < (dk).size := by omega
            have c0 := R2.out.cell h0
            have c1 := R2.out.cell h1
            obtain ⟨x0, hx0⟩ : ∃ x, x = (dk)[a]! := ⟨_, rfl⟩
            obtain ⟨x1, hx1⟩ : ∃ x, x = (dk)[t]! := ⟨_, rfl⟩
            rw [← hx0] at c0
            rw [← hx1] at c1
            have HX0 := Lib.hid hx0
            have HX1 := Lib.hid hx1
            clear hx0 hx1 hsz
            have dl : decide ((t : Int) ≤ (j : Int)) = true := by simp; omega
            have dl2 : decide (t ≤ j) = true := by simp; omega
            have e1 : IntKind.i64.wrap ((t : Int) + 1) = (t : Int) + 1 := IntWalk.i64_in _ (by omega)
            go_upto_region 3 with fail
            go_quiet (first | (go_at_call 70; refine Calls.quiet_of_same (HL.out _ _ _)))
            cases hl : ltInt x0 x1 with
            | false =>
              go_wp2_with fail
              go_roundw
              case rel => exact ⟨t + 1, by go_num, by omega, by omega, by rw [← HU.out, su_go _ _ _ _ hle (by have := hl; rw [HX0.out, HX1.out] at this; simpa using this)], R2.out.drewN _⟩
              case measure => simp [intOf]; omega
            | true =>
              go_wp2_with fail
              go_meet
              exact ⟨by rw [← HU.out, su_stop _ _ _ _ (.inr (by have := hl; rw [HX0.out, HX1.out] at this; simpa using this))], R2.out.drewN _⟩
          · have d1 : decide ((t : Int) ≤ (j : Int)) = false := by simp; omega
            have d2 : decide (t ≤ j) = false := by simp; omega
            go_upto_region 3 with fail
            go_quiet (first | (go_at_call 70; refine Calls.quiet_of_same (HL.out _ _ _)))
            go_wp2_with fail
            go_meet
            exact ⟨by rw [← HU.out, su_stop _ _ _ _ (.inl hle)], R2.out.drewN _⟩
      case rest =>
        obtain ⟨rfl, hR⟩ := hcut
        have R3 := Lib.hid hR
        clear hR R
        have T1 := T.out.1
        have T2 := T.out.2.1
        obtain ⟨i2, hi2⟩ : ∃ z, z = scanUp (fun x => !ltInt dk[a]! x) dk j i := ⟨_, rfl⟩
        rw [← hi2] at T1 T2 ⊢
        have HI2 := Lib.hid hi2
        clear hi2
        go_upto_block 4 with fail
        go_cut [10] from 29 to 82 (fun v wc => v = .int .i64 ((scanDown (fun x => ltInt dk[a]! x) dk i2 j : Nat) : Int) ∧ Rw w wc g o dk)
        case first =>
          go_wp2_with fail
          go_loopw [10] (fun vi wr2 => ∃ t : Nat, vi = .int .i64 t ∧ i2 ≤ t + 1 ∧ t ≤ j ∧ scanDown (fun x => ltInt dk[a]! x) dk i2 t = scanDown (fun x => ltInt dk[a]! x) dk i2 j ∧ Rw w wr2 g o dk) (fun vi _ => ((intOf vi).toNat))
          case atStart => exact ⟨j, rfl, by omega, Nat.le_refl _, rfl, R3.out⟩
          case round =>
            obtain ⟨t, rfl, ht1, ht2, hsu, hrw2⟩ := hrel
            have R2 := Lib.hid hrw2
            have HU := Lib.hid hsu
            clear hrw2 hsu
            by_cases hle : i2 ≤ t
            · have hsz := HS.out
              have h0 : a < (dk).size := by omega
              have h1 : t < (dk).size := by omega
              have c0 := R2.out.cell h0
              have c1 := R2.out.cell h1
              obtain ⟨x0, hx0⟩ : ∃ x, x = (dk)[a]! := ⟨_, rfl⟩
              obtain ⟨x1, hx1⟩ : ∃ x, x = (dk)[t]! := ⟨_, rfl⟩
              rw [← hx0] at c0
              rw [← hx1] at c1
              have HX0 := Lib.hid hx0
              have HX1 := Lib.hid hx1
              clear hx0 hx1 hsz
              have dl : decide ((i2 : Int) ≤ (t : Int)) = true := by simp; omega
              have dl2 : decide (i2 ≤ t) = true := by simp; omega
              have e1 : IntKind.i64.wrap ((t : Int) - 1) = (t : Int) - 1 := IntWalk.i64_in _ (by omega)
              go_upto_region 5 with fail
              go_quiet (first | (go_at_call 70; refine Calls.quiet_of_same (HL.out _ _ _)))
              cases hl : ltInt x0 x1 with
              | true =>
                go_wp2_with fail
                go_roundw
                case rel => exact ⟨t - 1, by rw [show ((t - 1 : Nat) : Int) = (t : Int) - 1 by omega], by omega, by omega, by rw [← HU.out]; obtain ⟨t0, rfl⟩ : ∃ t0, t = t0 + 1 := ⟨t - 1, by omega⟩; rw [Nat.add_sub_cancel]; exact (sd2_go _ _ _ _ hle (by have := hl; rw [HX0.out, HX1.out] at this; simpa using this)).symm, R2.out.drewN _⟩
                case measure => simp [intOf]; omega
              | false =>
                go_wp2_with fail
                go_meet
                exact ⟨by rw [← HU.out, sd2_stop _ _ _ _ (.inr (by have := hl; rw [HX0.out, HX1.out] at this; simpa using this))], R2.out.drewN _⟩
            · have d1 : decide ((i2 : Int) ≤ (t : Int)) = false := by simp; omega
              have d2 : decide (i2 ≤ t) = false := by simp; omega
              go_upto_region 5 with fail
              go_quiet (first | (go_at_call 70; refine Calls.quiet_of_same (HL.out _ _ _)))
              go_wp2_with fail
              go_meet
              exact ⟨by rw [← HU.out, sd2_stop _ _ _ _ (.inl hle)], R2.out.drewN _⟩
        case rest =>
          obtain ⟨rfl, hR⟩ := hcut
          have R4 := Lib.hid hR
          clear hR R3
          have T3 := T.out.2.2
          rw [← HI2.out] at T3
          obtain ⟨j2, hj2⟩ : ∃ z, z = scanDown (fun x => ltInt dk[a]! x) dk i2 j := ⟨_, rfl⟩
          rw [← hj2] at T3 ⊢
          have HJ2 := Lib.hid hj2
          obtain ⟨T3, T4, T5⟩ := T3
          have HE := Lib.hid (partEqLoop_eq ltInt a i j dk)
          clear hj2
          by_cases hgt : i2 > j2
          · have hre : partitionEqual ltInt d a b pv = (i2, dk) := by
              show partEqLoop ltInt a (a + 1) (b - 1) (swp d a pv) = _
              rw [← HO.out, HE.out, ← HI2.out, ← HJ2.out, if_pos hgt]
            have HRE := Lib.hid hre
            clear hre T5
            go_wp2_with fail
            go_ret
            rw [HRE.out]
            exact ⟨rfl, R4.out⟩
          · have hlt := T5 hgt
            have hre : partEqLoop ltInt a i j dk = partEqLoop ltInt a (i2 + 1) (j2 - 1) (swp dk i2 j2) := by
              rw [HE.out, ← HI2.out, ← HJ2.out, if_neg hgt]
            have HRE := Lib.hid hre
            have hgt2 : ¬ (j2 < i2) := by omega
            clear hre T5
            go_upto_region 8 with fail
            go_cut [9] from 65 to 78 (fun v0 wc => v0 = .int .i64 (i2 : Nat) ∧ Rw w wc g o (swp dk i2 j2))
            case first =>
              have h1 : i2 < (dk).size := by have := HS.out; omega
              have h2 : j2 < (dk).size := by have := HS.out; omega
              have cI := R4.out.cell h1
              have cJ := R4.out.cell h2
              have fI := R4.out.frozen h1
              have fJ := R4.out.frozen h2
              obtain ⟨xI, hxI⟩ : ∃ x, x = (dk)[i2]! := ⟨_, rfl⟩
              obtain ⟨xJ, hxJ⟩ : ∃ x, x = (dk)[j2]! := ⟨_, rfl⟩
              have hSW := fun n => (R4.out.drewN n).swap h1 h2
              rw [← hxI] at cI
              rw [← hxJ] at cJ
              rw [← hxJ, ← hxI] at hSW
              have HSW := Lib.hid hSW
              clear hxI hxJ hSW
              have hne : ¬ (o + j2 = o + i2) := by omega
              go_region_with fail
              all_goals
                go_wp2_with fail
                go_meet
                exact ⟨rfl, HSW.out 1⟩
            case rest =>
              obtain ⟨rfl, hR⟩ := hcut
              have R5 := Lib.hid hR
              clear hR R4
              have e1 : IntKind.i64.wrap ((i2 : Int) + 1) = (i2 : Int) + 1 := IntWalk.i64_in _ (by omega)
              have e2 : IntKind.i64.wrap ((j2 : Int) - 1) = (j2 : Int) - 1 := IntWalk.i64_in _ (by omega)
              go_wp2_with fail
              go_roundw
              case rel => exact ⟨i2 + 1, j2 - 1, swp dk i2 j2, by go_num, by rw [show ((j2 - 1 : Nat) : Int) = (j2 : Int) - 1 by omega], by omega, by omega, by omega, by rw [size_swp]; exact HS.out, R5.out, by rw [← HRE.out]; exact HO.out⟩
              case measure => simp [intOf]; omega
/-- what partition leaves -/
def PartPost (w : World) (g o : Nat) (r : Nat × Array Int) (a : Nat) (e : Ending) (w' : World) : Prop := (∃ ap : Bool, e = .returned (.tuple #[.int .i64 r.1, .bool ap])) ∧ Rw w w' g o (swp r.2 r.1 a)

set_option maxRecDepth 100000 in
set_option maxHeartbeats 16000000 in
theorem part_any (g o c a b pv : Nat) (d : Array Int) (w : World) (h : Rw w w g o d) (hp1 : a ≤ pv) (hp2 : pv < b) (hb : b ≤ d.size) (hN0 : d.size < 2305843009213693952) :
    Calls Try.prog 72 #[.slice (some ⟨g, o, none⟩) d.size c, .int .i64 a, .int .i64 b, .int .i64 pv] w (PartPost w g o (partLoop ltInt a (a + 1) (b - 1) (swp d a pv)) a) := by
  have H := Lib.hid h
  have HL := Lib.hid less_any
  clear h
  obtain ⟨N, hN⟩ : ∃ N, N = d.size := ⟨_, rfl⟩
  rw [← hN] at hb hN0 ⊢
  have HN := Lib.hid hN
  clear hN
  obtain ⟨jb, hjbe⟩ : ∃ jb, jb = b - 1 := ⟨_, rfl⟩
  obtain ⟨i0, hi0⟩ : ∃ i0, i0 = a + 1 := ⟨_, rfl⟩
  rw [← hjbe, ← hi0]
  have ea : IntKind.i64.wrap ((a : Int) + 1) = (i0 : Int) := by rw [IntWalk.i64_in _ (by omega)]; omega
  have eb : IntKind.i64.wrap ((b : Int) - 1) = (jb : Int) := by rw [IntWalk.i64_in _ (by omega)]; omega
  have hjb : jb < b := by omega
  have haj : i0 ≤ jb + 1 := by omega
  have hai : a < i0 := by omega
  clear hjbe hi0
  obtain ⟨d0, hd0⟩ : ∃ d0, d0 = swp d a pv := ⟨_, rfl⟩
  rw [← hd0]
  have HD0 := Lib.hid hd0
  clear hd0
  go_enter Try.func72, Try.ntmps72
  go_upto_region 1 with fail
  go_cut [10] from 12 to 25 (fun v0 wc => v0 = undef ∧ Rw w wc g o (swp d a pv))
  case first =>
    have h1 : a < (d).size := by have := HN.out; omega
    have h2 : pv < (d).size := by have := HN.out; omega
    have cI := H.out.cell h1
    have cJ := H.out.cell h2
    have fI := H.out.frozen h1
    have fJ := H.out.frozen h2
    obtain ⟨xI, hxI⟩ : ∃ x, x = (d)[a]! := ⟨_, rfl⟩
    obtain ⟨xJ, hxJ⟩ : ∃ x, x = (d)[pv]! := ⟨_, rfl⟩
    have hSW := fun n => (H.out.drewN n).swap h1 h2
    rw [← hxI] at cI
    rw [← hxJ] at cJ
    rw [← hxJ, ← hxI] at hSW
    have HSW := Lib.hid hSW
    clear hxI hxJ hSW
    by_cases he0 : pv = a
    · have he : o + pv = o + a := by omega
      have hax : xJ = xI := by
        have := cJ
        rw [he, cI] at this
        injection this with this
        injection this with _ this
        exact this.symm
      have HSW0 := Lib.hid (show ∀ n, Rw w (((w.drewN n).setCell ⟨g, o + a, none⟩ (.int .u16 xI)).setCell ⟨g, o + a, none⟩ (.int .u16 xI)) g o (swp d a pv) from fun n => by
        have := HSW.out n
        rw [hax, he] at this
        exact this)
      clear cJ fJ hax he0
      go_region_with fail
      all_goals
        go_wp2_with fail
        go_meet
        exact ⟨rfl, HSW0.out 1⟩
    · have hne : ¬ (o + pv = o + a) := by omega
      go_region_with fail
      all_goals
        go_wp2_with fail
        go_meet
        exact ⟨rfl, HSW.out 1⟩
  case rest =>
    obtain ⟨rfl, hR⟩ := hcut
    have hsz0 : d0.size = N := by rw [HD0.out, size_swp]; exact HN.out.symm
    rw [← HD0.out] at hR
    have HS := Lib.hid hsz0
    have R := Lib.hid hR
    clear hR hsz0
    go_upto_block 0 with fail
    clear ea eb
    have T := Lib.hid (two_scans (fun x => ltInt x d0[a]!) (fun x => !ltInt x d0[a]!) (fun x => by simp) d0 i0 jb (by omega) (by omega))
    go_upto_block 0 with fail
    go_cut [10] from 30 to 45 (fun v wc => v = .int .i64 ((scanUp (fun x => ltInt x d0[a]!) d0 jb i0 : Nat) : Int) ∧ Rw w wc g o d0)
    case first =>
      go_wp2_with fail
      go_loopw [10] (fun vi wr2 => ∃ t : Nat, vi = .int .i64 t ∧ i0 ≤ t ∧ t ≤ jb + 1 ∧ scanUp (fun x => ltInt x d0[a]!) d0 jb t = scanUp (fun x => ltInt x d0[a]!) d0 jb i0 ∧ Rw w wr2 g o d0) (fun vi _ => (jb + 1 - (intOf vi).toNat))
      case atStart => exact ⟨i0, rfl, Nat.le_refl _, by omega, rfl, R.out⟩
      case round =>
        obtain ⟨t, rfl, ht1, ht2, hsu, hrw2⟩ := hrel
        have R2 := Lib.hid hrw2
        have HU := Lib.hid hsu
        clear hrw2 hsu
        by_cases hle : t ≤ jb
        · have hsz := HS.out
          have h0 : a < (d0).size := by omega
          have h1 : t < (d0).size := by omega
          have c0 := R2.out.cell h0
          have c1 := R2.out.cell h1
          obtain ⟨x0, hx0⟩ : ∃ x, x = (d0)[a]! := ⟨_, rfl⟩
          obtain ⟨x1, hx1⟩ : ∃ x, x = (d0)[t]! := ⟨_, rfl⟩
          rw [← hx0] at c0
          rw [← hx1] at c1
          have HX0 := Lib.hid hx0
          have HX1 := Lib.hid hx1
          clear hx0 hx1 hsz
          have dl : decide ((t : Int) ≤ (jb : Int)) = true := by simp; omega
          have dl2 : decide (t ≤ jb) = true := by simp; omega
          have e1 : IntKind.i64.wrap ((t : Int) + 1) = (t : Int) + 1 := IntWalk.i64_in _ (by omega)
          go_upto_region 3 with fail
          go_quiet (first | (go_at_call 70; refine Calls.quiet_of_same (HL.out _ _ _)))
          cases hl : ltInt x1 x0 with
          | true =>
            go_wp2_with fail
            go_roundw
            case rel => exact ⟨t + 1, by go_num, by omega, by omega, by rw [← HU.out, su_go _ _ _ _ hle (by have := hl; rw [HX0.out, HX1.out] at this; simpa using this)], R2.out.drewN _⟩
            case measure => simp [intOf]; omega
          | false =>
            go_wp2_with fail
            go_meet
            exact ⟨by rw [← HU.out, su_stop _ _ _ _ (.inr (by have := hl; rw [HX0.out, HX1.out] at this; simpa using this))], R2.out.drewN _⟩
        · have d1 : decide ((t : Int) ≤ (jb : Int)) = false := by simp; omega
          have d2 : decide (t ≤ jb) = false := by simp; omega
          go_upto_region 3 with fail
          go_quiet (first | (go_at_call 70; refine Calls.quiet_of_same (HL.out _ _ _)))
          go_wp2_with fail
          go_meet
          exact ⟨by rw [← HU.out, su_stop _ _ _ _ (.inl hle)], R2.out.drewN _⟩
    case rest =>
      obtain ⟨rfl, hR⟩ := hcut
      have R3 := Lib.hid hR
      clear hR R
      have T1 := T.out.1
      have T2 := T.out.2.1
      obtain ⟨i2, hi2⟩ : ∃ z, z = scanUp (fun x => ltInt x d0[a]!) d0 jb i0 := ⟨_, rfl⟩
      rw [← hi2] at T1 T2 ⊢
      have HI2 := Lib.hid hi2
      clear hi2
      go_upto_block 2 with fail
      go_cut [11] from 46 to 62 (fun v wc => v = .int .i64 ((scanDown (fun x => !ltInt x d0[a]!) d0 i2 jb : Nat) : Int) ∧ Rw w wc g o d0)
      case first =>
        go_wp2_with fail
        go_loopw [11] (fun vi wr2 => ∃ t : Nat, vi = .int .i64 t ∧ i2 ≤ t + 1 ∧ t ≤ jb ∧ scanDown (fun x => !ltInt x d0[a]!) d0 i2 t = scanDown (fun x => !ltInt x d0[a]!) d0 i2 jb ∧ Rw w wr2 g o d0) (fun vi _ => ((intOf vi).toNat))
        case atStart => exact ⟨jb, rfl, by omega, Nat.le_refl _, rfl, R3.out⟩
        case round =>
          obtain ⟨t, rfl, ht1, ht2, hsu, hrw2⟩ := hrel
          have R2 := Lib.hid hrw2
          have HU := Lib.hid hsu
          clear hrw2 hsu
          by_cases hle : i2 ≤ t
          · have hsz := HS.out
            have h0 : a < (d0).size := by omega
            have h1 : t < (d0).size := by omega
            have c0 := R2.out.cell h0
            have c1 := R2.out.cell h1
            obtain ⟨x0, hx0⟩ : ∃ x, x = (d0)[a]! := ⟨_, rfl⟩
            obtain ⟨x1, hx1⟩ : ∃ x, x = (d0)[t]! := ⟨_, rfl⟩
            rw [← hx0] at c0
            rw [← hx1] at c1
            have HX0 := Lib.hid hx0
            have HX1 := Lib.hid hx1
            clear hx0 hx1 hsz
            have dl : decide ((i2 : Int) ≤ (t : Int)) = true := by simp; omega
            have dl2 : decide (i2 ≤ t) = true := by simp; omega
            have e1 : IntKind.i64.wrap ((t : Int) - 1) = (t : Int) - 1 := IntWalk.i64_in _ (by omega)
            go_upto_region 5 with fail
            go_quiet (first | (go_at_call 70; refine Calls.quiet_of_same (HL.out _ _ _)))
            cases hl : ltInt x1 x0 with
            | false =>
              go_wp2_with fail
              go_roundw
              case rel => exact ⟨t - 1, by rw [show ((t - 1 : Nat) : Int) = (t : Int) - 1 by omega], by omega, by omega, by rw [← HU.out]; obtain ⟨t0, rfl⟩ : ∃ t0, t = t0 + 1 := ⟨t - 1, by omega⟩; rw [Nat.add_sub_cancel]; exact (sd2_go _ _ _ _ hle (by have := hl; rw [HX0.out, HX1.out] at this; simpa using this)).symm, R2.out.drewN _⟩
              case measure => simp [intOf]; omega
            | true =>
              go_wp2_with fail
              go_meet
              exact ⟨by rw [← HU.out, sd2_stop _ _ _ _ (.inr (by have := hl; rw [HX0.out, HX1.out] at this; simpa using this))], R2.out.drewN _⟩
          · have d1 : decide ((i2 : Int) ≤ (t : Int)) = false := by simp; omega
            have d2 : decide (i2 ≤ t) = false := by simp; omega
            go_upto_region 5 with fail
            go_quiet (first | (go_at_call 70; refine Calls.quiet_of_same (HL.out _ _ _)))
            go_wp2_with fail
            go_meet
            exact ⟨by rw [← HU.out, sd2_stop _ _ _ _ (.inl hle)], R2.out.drewN _⟩
      case rest =>
        obtain ⟨rfl, hR⟩ := hcut
        have R4 := Lib.hid hR
        clear hR R3
        have T3 := T.out.2.2
        rw [← HI2.out] at T3
        obtain ⟨j2, hj2⟩ : ∃ z, z = scanDown (fun x => !ltInt x d0[a]!) d0 i2 jb := ⟨_, rfl⟩
        rw [← hj2] at T3 ⊢
        have HJ2 := Lib.hid hj2
        obtain ⟨T3, T4, T5⟩ := T3
        clear hj2

        have HE := Lib.hid (partLoop_eq ltInt a i0 jb d0)
        have h1a : a < i2 := by omega
        by_cases hgt : i2 > j2
        · have hre : partLoop ltInt a i0 jb d0 = (j2, d0) := by
            rw [HE.out, ← HI2.out, ← HJ2.out, if_pos hgt]
          have HRE := Lib.hid hre
          clear hre T5
          have h2 : j2 < N := by omega
          go_upto_region 8 with fail
          go_cut [11] from 66 to 79 (fun v0 wc => v0 = .int .i64 (j2 : Nat) ∧ Rw w wc g o (swp d0 j2 a))
          case first =>
            have h1 : j2 < (d0).size := by have := HS.out; omega
            have h2 : a < (d0).size := by have := HS.out; omega
            have cI := R4.out.cell h1
            have cJ := R4.out.cell h2
            have fI := R4.out.frozen h1
            have fJ := R4.out.frozen h2
            obtain ⟨xI, hxI⟩ : ∃ x, x = (d0)[j2]! := ⟨_, rfl⟩
            obtain ⟨xJ, hxJ⟩ : ∃ x, x = (d0)[a]! := ⟨_, rfl⟩
            have hSW := fun n => (R4.out.drewN n).swap h1 h2
            rw [← hxI] at cI
            rw [← hxJ] at cJ
            rw [← hxJ, ← hxI] at hSW
            have HSW := Lib.hid hSW
            clear hxI hxJ hSW
            by_cases he0 : a = j2
            · have he : o + a = o + j2 := by omega
              have hax : xJ = xI := by
                have := cJ
                rw [he, cI] at this
                injection this with this
                injection this with _ this
                exact this.symm
              have HSW0 := Lib.hid (show ∀ n, Rw w (((wc.drewN n).setCell ⟨g, o + j2, none⟩ (.int .u16 xI)).setCell ⟨g, o + j2, none⟩ (.int .u16 xI)) g o (swp d0 j2 a) from fun n => by
                have := HSW.out n
                rw [hax, he] at this
                exact this)
              clear cJ fJ hax he0
              go_region_with fail
              all_goals
                go_wp2_with fail
                go_meet
                exact ⟨rfl, HSW0.out 1⟩
            · have hne : ¬ (o + a = o + j2) := by omega
              go_region_with fail
              all_goals
                go_wp2_with fail
                go_meet
                exact ⟨rfl, HSW.out 1⟩
          case rest =>
            obtain ⟨rfl, hR⟩ := hcut
            have R5 := Lib.hid hR
            clear hR R4
            go_wp2_with fail
            go_ret2
            rw [HRE.out]
            exact ⟨⟨true, rfl⟩, R5.out⟩
        · have hlt := T5 hgt
          have hre : partLoop ltInt a i0 jb d0 = partLoop ltInt a (i2 + 1) (j2 - 1) (swp d0 i2 j2) := by
            rw [HE.out, ← HI2.out, ← HJ2.out, if_neg hgt]
          have HRE := Lib.hid hre
          have hgt2 : ¬ (j2 < i2) := by omega
          clear hre T5
          go_upto_region 10 with fail
          go_cut [10] from 81 to 94 (fun v0 wc => v0 = .int .i64 (i2 : Nat) ∧ Rw w wc g o (swp d0 i2 j2))
          case first =>
            have h1 : i2 < (d0).size := by have := HS.out; omega
            have h2 : j2 < (d0).size := by have := HS.out; omega
            have cI := R4.out.cell h1
            have cJ := R4.out.cell h2
            have fI := R4.out.frozen h1
            have fJ := R4.out.frozen h2
            obtain ⟨xI, hxI⟩ : ∃ x, x = (d0)[i2]! := ⟨_, rfl⟩
            obtain ⟨xJ, hxJ⟩ : ∃ x, x = (d0)[j2]! := ⟨_, rfl⟩
            have hSW := fun n => (R4.out.drewN n).swap h1 h2
            rw [← hxI] at cI
            rw [← hxJ] at cJ
            rw [← hxJ, ← hxI] at hSW
            have HSW := Lib.hid hSW
            clear hxI hxJ hSW
            have hne : ¬ (o + j2 = o + i2) := by omega
            go_region_with fail
            all_goals
              go_wp2_with fail
              go_meet
              exact ⟨rfl, HSW.out 1⟩
          case rest =>
            obtain ⟨rfl, hR⟩ := hcut
            have R5 := Lib.hid hR
            clear hR R4
            have e1 : IntKind.i64.wrap ((i2 : Int) + 1) = (i2 : Int) + 1 := IntWalk.i64_in _ (by omega)
            have e2 : IntKind.i64.wrap ((j2 : Int) - 1) = ((j2 - 1 : Nat) : Int) := by rw [IntWalk.i64_in _ (by omega)]; omega
            go_wp2_with fail
            go_loopw [10, 11] (fun vi vj wr => ∃ (i j : Nat) (dk : Array Int), vi = .int .i64 i ∧ vj = .int .i64 j ∧ a < i ∧ i ≤ j + 1 ∧ j < b ∧ dk.size = N ∧ Rw w wr g o dk ∧ partLoop ltInt a i j dk = partLoop ltInt a i0 jb d0) (fun vi vj _ => (intOf vj + 1 - intOf vi).toNat)
            case atStart => exact ⟨i2 + 1, j2 - 1, swp d0 i2 j2, by go_num, rfl, by omega, by omega, by omega, by rw [size_swp]; exact HS.out, R5.out, HRE.out.symm⟩
            case round =>
              obtain ⟨i, j, dk, rfl, rfl, hai, hij, hjb, hsk, hrw, hO⟩ := hrel
              clear R5 e1 e2 HRE HE HI2 HJ2 HS T
              have HO := Lib.hid hO
              have HS := Lib.hid hsk
              have R := Lib.hid hrw
              clear hrw hO hsk
              obtain ⟨wo, hwo⟩ : ∃ wo : World, wo = wr := ⟨_, rfl⟩
              subst hwo
              clear hgt hgt2 hlt T1 T2 T3 T4 h1a
              have T := Lib.hid (two_scans (fun x => ltInt x dk[a]!) (fun x => !ltInt x dk[a]!) (fun x => by simp) dk i j (by omega) (by omega))
              go_upto_block 6 with fail
              go_cut [10] from 99 to 152 (fun v wc => v = .int .i64 ((scanUp (fun x => ltInt x dk[a]!) dk j i : Nat) : Int) ∧ Rw w wc g o dk)
              case first =>
                go_wp2_with fail
                go_loopw [10] (fun vi wr2 => ∃ t : Nat, vi = .int .i64 t ∧ i ≤ t ∧ t ≤ j + 1 ∧ scanUp (fun x => ltInt x dk[a]!) dk j t = scanUp (fun x => ltInt x dk[a]!) dk j i ∧ Rw w wr2 g o dk) (fun vi _ => (j + 1 - (intOf vi).toNat))
                case atStart => exact ⟨i, rfl, Nat.le_refl _, by omega, rfl, R.out⟩
                case round =>
                  obtain ⟨t, rfl, ht1, ht2, hsu, hrw2⟩ := hrel
                  have R2 := Lib.hid hrw2
                  have HU := Lib.hid hsu
                  clear hrw2 hsu
                  by_cases hle : t ≤ j
                  · have hsz := HS.out
                    have h0 : a < (dk).size := by omega
                    have h1 : t < (dk).size := by omega
                    have c0 := R2.out.cell h0
                    have c1 := R2.out.cell h1
                    obtain ⟨x0, hx0⟩ : ∃ x, x = (dk)[a]! := ⟨_, rfl⟩
                    obtain ⟨x1, hx1⟩ : ∃ x, x = (dk)[t]! := ⟨_, rfl⟩
                    rw [← hx0] at c0
                    rw [← hx1] at c1
                    have HX0 := Lib.hid hx0
                    have HX1 := Lib.hid hx1
                    clear hx0 hx1 hsz
                    have dl : decide ((t : Int) ≤ (j : Int)) = true := by simp; omega
                    have dl2 : decide (t ≤ j) = true := by simp; omega
                    have e1 : IntKind.i64.wrap ((t : Int) + 1) = (t : Int) + 1 := IntWalk.i64_in _ (by omega)
                    go_upto_region 13 with fail
                    go_quiet (first | (go_at_call 70; refine Calls.quiet_of_same (HL.out _ _ _)))
                    cases hl : ltInt x1 x0 with
                    | true =>
                      go_wp2_with fail
                      go_roundw
                      case rel => exact ⟨t + 1, by go_num, by omega, by omega, by rw [← HU.out, su_go _ _ _ _ hle (by have := hl; rw [HX0.out, HX1.out] at this; simpa using this)], R2.out.drewN _⟩
                      case measure => simp [intOf]; omega
                    | false =>
                      go_wp2_with fail
                      go_meet
                      exact ⟨by rw [← HU.out, su_stop _ _ _ _ (.inr (by have := hl; rw [HX0.out, HX1.out] at this; simpa using this))], R2.out.drewN _⟩
                  · have d1 : decide ((t : Int) ≤ (j : Int)) = false := by simp; omega
                    have d2 : decide (t ≤ j) = false := by simp; omega
                    go_upto_region 13 with fail
                    go_quiet (first | (go_at_call 70; refine Calls.quiet_of_same (HL.out _ _ _)))
                    go_wp2_with fail
                    go_meet
                    exact ⟨by rw [← HU.out, su_stop _ _ _ _ (.inl hle)], R2.out.drewN _⟩
              case rest =>
                obtain ⟨rfl, hR⟩ := hcut
                have R3 := Lib.hid hR
                clear hR R
                have T1 := T.out.1
                have T2 := T.out.2.1
                obtain ⟨i2, hi2⟩ : ∃ z, z = scanUp (fun x => ltInt x dk[a]!) dk j i := ⟨_, rfl⟩
                rw [← hi2] at T1 T2 ⊢
                have HI2 := Lib.hid hi2
                clear hi2
                go_upto_block 8 with fail
                go_cut [11] from 99 to 152 (fun v wc => v = .int .i64 ((scanDown (fun x => !ltInt x dk[a]!) dk i2 j : Nat) : Int) ∧ Rw w wc g o dk)
                case first =>
                  go_wp2_with fail
                  go_loopw [11] (fun vi wr2 => ∃ t : Nat, vi = .int .i64 t ∧ i2 ≤ t + 1 ∧ t ≤ j ∧ scanDown (fun x => !ltInt x dk[a]!) dk i2 t = scanDown (fun x => !ltInt x dk[a]!) dk i2 j ∧ Rw w wr2 g o dk) (fun vi _ => ((intOf vi).toNat))
                  case atStart => exact ⟨j, rfl, by omega, Nat.le_refl _, rfl, R3.out⟩
                  case round =>
                    obtain ⟨t, rfl, ht1, ht2, hsu, hrw2⟩ := hrel
                    have R2 := Lib.hid hrw2
                    have HU := Lib.hid hsu
                    clear hrw2 hsu
                    by_cases hle : i2 ≤ t
                    · have hsz := HS.out
                      have h0 : a < (dk).size := by omega
                      have h1 : t < (dk).size := by omega
                      have c0 := R2.out.cell h0
                      have c1 := R2.out.cell h1
                      obtain ⟨x0, hx0⟩ : ∃ x, x = (dk)[a]! := ⟨_, rfl⟩
                      obtain ⟨x1, hx1⟩ : ∃ x, x = (dk)[t]! := ⟨_, rfl⟩
                      rw [← hx0] at c0
                      rw [← hx1] at c1
                      have HX0 := Lib.hid hx0
                      have HX1 := Lib.hid hx1
                      clear hx0 hx1 hsz
                      have dl : decide ((i2 : Int) ≤ (t : Int)) = true := by simp; omega
                      have dl2 : decide (i2 ≤ t) = true := by simp; omega
                      have e1 : IntKind.i64.wrap ((t : Int) - 1) = (t : Int) - 1 := IntWalk.i64_in _ (by omega)
                      go_upto_region 15 with fail
                      go_quiet (first | (go_at_call 70; refine Calls.quiet_of_same (HL.out _ _ _)))
                      cases hl : ltInt x1 x0 with
                      | false =>
                        go_wp2_with fail
                        go_roundw
                        case rel => exact ⟨t - 1, by rw [show ((t - 1 : Nat) : Int) = (t : Int) - 1 by omega], by omega, by omega, by rw [← HU.out]; obtain ⟨t0, rfl⟩ : ∃ t0, t = t0 + 1 := ⟨t - 1, by omega⟩; rw [Nat.add_sub_cancel]; exact (sd2_go _ _ _ _ hle (by have := hl; rw [HX0.out, HX1.out] at this; simpa using this)).symm, R2.out.drewN _⟩
                        case measure => simp [intOf]; omega
                      | true =>
                        go_wp2_with fail
                        go_meet
                        exact ⟨by rw [← HU.out, sd2_stop _ _ _ _ (.inr (by have := hl; rw [HX0.out, HX1.out] at this; simpa using this))], R2.out.drewN _⟩
                    · have d1 : decide ((i2 : Int) ≤ (t : Int)) = false := by simp; omega
                      have d2 : decide (i2 ≤ t) = false := by simp; omega
                      go_upto_region 15 with fail
                      go_quiet (first | (go_at_call 70; refine Calls.quiet_of_same (HL.out _ _ _)))
                      go_wp2_with fail
                      go_meet
                      exact ⟨by rw [← HU.out, sd2_stop _ _ _ _ (.inl hle)], R2.out.drewN _⟩
                case rest =>
                  obtain ⟨rfl, hR⟩ := hcut
                  have R4 := Lib.hid hR
                  clear hR R3
                  have T3 := T.out.2.2
                  rw [← HI2.out] at T3
                  obtain ⟨j2, hj2⟩ : ∃ z, z = scanDown (fun x => !ltInt x dk[a]!) dk i2 j := ⟨_, rfl⟩
                  rw [← hj2] at T3 ⊢
                  have HJ2 := Lib.hid hj2
                  obtain ⟨T3, T4, T5⟩ := T3
                  clear hj2

                  have HE := Lib.hid (partLoop_eq ltInt a i j dk)
                  have h1a : a < i2 := by omega
                  by_cases hgt : i2 > j2
                  · have hre : partLoop ltInt a i0 jb d0 = (j2, dk) := by
                      rw [← HO.out, HE.out, ← HI2.out, ← HJ2.out, if_pos hgt]
                    have HRE := Lib.hid hre
                    clear hre T5
                    have h2 : j2 < N := by omega
                    go_upto_region 21 with fail
                    go_cut [11] from 153 to 166 (fun v0 wc => v0 = .int .i64 (j2 : Nat) ∧ Rw w wc g o (swp dk j2 a))
                    case first =>
                      have h1 : j2 < (dk).size := by have := HS.out; omega
                      have h2 : a < (dk).size := by have := HS.out; omega
                      have cI := R4.out.cell h1
                      have cJ := R4.out.cell h2
                      have fI := R4.out.frozen h1
                      have fJ := R4.out.frozen h2
                      obtain ⟨xI, hxI⟩ : ∃ x, x = (dk)[j2]! := ⟨_, rfl⟩
                      obtain ⟨xJ, hxJ⟩ : ∃ x, x = (dk)[a]! := ⟨_, rfl⟩
                      have hSW := fun n => (R4.out.drewN n).swap h1 h2
                      rw [← hxI] at cI
                      rw [← hxJ] at cJ
                      rw [← hxJ, ← hxI] at hSW
                      have HSW := Lib.hid hSW
                      clear hxI hxJ hSW
                      by_cases he0 : a = j2
                      · have he : o + a = o + j2 := by omega
                        have hax : xJ = xI := by
                          have := cJ
                          rw [he, cI] at this
                          injection this with this
                          injection this with _ this
                          exact this.symm
                        have HSW0 := Lib.hid (show ∀ n, Rw w (((wc.drewN n).setCell ⟨g, o + j2, none⟩ (.int .u16 xI)).setCell ⟨g, o + j2, none⟩ (.int .u16 xI)) g o (swp dk j2 a) from fun n => by
                          have := HSW.out n
                          rw [hax, he] at this
                          exact this)
                        clear cJ fJ hax he0
                        go_region_with fail
                        all_goals
                          go_wp2_with fail
                          go_meet
                          exact ⟨rfl, HSW0.out 1⟩
                      · have hne : ¬ (o + a = o + j2) := by omega
                        go_region_with fail
                        all_goals
                          go_wp2_with fail
                          go_meet
                          exact ⟨rfl, HSW.out 1⟩
                    case rest =>
                      obtain ⟨rfl, hR⟩ := hcut
                      have R5 := Lib.hid hR
                      clear hR R4
                      go_wp2_with fail
                      go_ret2
                      rw [HRE.out]
                      exact ⟨⟨false, rfl⟩, R5.out⟩
                  · have hlt := T5 hgt
                    have hre : partLoop ltInt a i j dk = partLoop ltInt a (i2 + 1) (j2 - 1) (swp dk i2 j2) := by
                      rw [HE.out, ← HI2.out, ← HJ2.out, if_neg hgt]
                    have HRE := Lib.hid hre
                    have hgt2 : ¬ (j2 < i2) := by omega
                    clear hre T5
                    go_upto_region 18 with fail
                    go_cut [10] from 99 to 152 (fun v0 wc => v0 = .int .i64 (i2 : Nat) ∧ Rw w wc g o (swp dk i2 j2))
                    case first =>
                      have h1 : i2 < (dk).size := by have := HS.out; omega
                      have h2 : j2 < (dk).size := by have := HS.out; omega
                      have cI := R4.out.cell h1
                      have cJ := R4.out.cell h2
                      have fI := R4.out.frozen h1
                      have fJ := R4.out.frozen h2
                      obtain ⟨xI, hxI⟩ : ∃ x, x = (dk)[i2]! := ⟨_, rfl⟩
                      obtain ⟨xJ, hxJ⟩ : ∃ x, x = (dk)[j2]! := ⟨_, rfl⟩
                      have hSW := fun n => (R4.out.drewN n).swap h1 h2
                      rw [← hxI] at cI
                      rw [← hxJ] at cJ
                      rw [← hxJ, ← hxI] at hSW
                      have HSW := Lib.hid hSW
                      clear hxI hxJ hSW
                      have hne : ¬ (o + j2 = o + i2) := by omega
                      go_region_with fail
                      all_goals
                        go_wp2_with fail
                        go_meet
                        exact ⟨rfl, HSW.out 1⟩
                    case rest =>
                      obtain ⟨rfl, hR⟩ := hcut
                      have R5 := Lib.hid hR
                      clear hR R4
                      have e1 : IntKind.i64.wrap ((i2 : Int) + 1) = (i2 : Int) + 1 := IntWalk.i64_in _ (by omega)
                      have e2 : IntKind.i64.wrap ((j2 : Int) - 1) = (j2 : Int) - 1 := IntWalk.i64_in _ (by omega)
                      go_wp2_with fail
                      go_roundw
                      case rel => exact ⟨i2 + 1, j2 - 1, swp dk i2 j2, by go_num, by rw [show ((j2 - 1 : Nat) : Int) = (j2 : Int) - 1 by omega], by omega, by omega, by omega, by rw [size_swp]; exact HS.out, R5.out, by rw [← HRE.out]; exact HO.out⟩
                      case measure => simp [intOf]; omega
end Go.Proofs.Ytiinjjfggmmkmaa
