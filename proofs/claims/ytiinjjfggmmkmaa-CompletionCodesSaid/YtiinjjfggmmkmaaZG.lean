/- sort: pdqsort: the range is sorted. -/
import Derived.Test.YtiinjjfggmmkmaaZB
import Derived.Test.YtiinjjfggmmkmaaZD
import Derived.Test.YtiinjjfggmmkmaaZE
import Derived.Test.YtiinjjfggmmkmaaZF
import Derived.Deep.CutBlock
import Derived.Sort.LotD3
namespace Go.Proofs.Ytiinjjfggmmkmaa
set_option linter.unusedVariables false
set_option linter.unusedSimpArgs false
open Go.RowKit Go.Sort

/-- What the loop of pdqsort holds: of what [a', b') of dk becomes when it is sorted, the whole is sorted. -/
structure Goes (a b a' b' : Nat) (d dk : Array Int) : Prop where
  hab : a' ≤ b'
  hb : b' ≤ dk.size
  hs : dk.size = d.size
  len : b' - a' ≤ b - a
  below : Sort.Below ltInt a' b' dk
  fin : ∀ R, PermIn a' b' dk R → SortedIn ltInt a' b' R → PermIn a b d R ∧ SortedIn ltInt a b R
namespace Goes
variable {a b a' b' : Nat} {d dk d1 : Array Int}
theorem start (hab : a ≤ b) (hb : b ≤ d.size) (hB : Sort.Below ltInt a b d) : Goes a b a b d d := ⟨hab, hb, rfl, Nat.le_refl _, hB, fun _ h1 h2 => ⟨h1, h2⟩⟩
theorem perm (h : Goes a b a' b' d dk) (hp : PermIn a' b' dk d1) : Goes a b a' b' d d1 :=
  ⟨h.hab, by rw [hp.1]; exact h.hb, hp.1.trans h.hs, h.len, h.below.perm h.hb hp, fun R h1 h2 => h.fin R (permIn_trans _ _ _ a' b' hp h1) h2⟩
theorem eq (h : Goes a b a' b' d dk) {p : Nat} (h0 : 0 < a') (hp1 : a' ≤ p) (hp2 : p < b') (hl : ltInt dk[a' - 1]! dk[p]! = false) :
    a' < (partitionEqual ltInt dk a' b' p).1 ∧ (partitionEqual ltInt dk a' b' p).1 ≤ b' ∧ Goes a b (partitionEqual ltInt dk a' b' p).1 b' d (partitionEqual ltInt dk a' b' p).2 := by
  obtain ⟨h1, h2, h3, h4, h5⟩ := round_eq swo_ltInt (partitionEqual_holds _) h0 hp1 hp2 h.hb h.below hl (show partitionEqual ltInt dk a' b' p = ((partitionEqual ltInt dk a' b' p).1, (partitionEqual ltInt dk a' b' p).2) from rfl)
  have := h.len
  exact ⟨h1, h2, h2, by rw [h3]; exact h.hb, h3.trans h.hs, by omega, h4, fun R r1 r2 => by
    obtain ⟨q1, q2⟩ := h5 R r1 r2
    exact h.fin R q1 q2⟩
theorem part (h : Goes a b a' b' d dk) {p mid : Nat} {d4 : Array Int} (hp1 : a' ≤ p) (hp2 : p < b') (hm : mid = (partition ltInt dk a' b' p).1) (hd : d4 = (partition ltInt dk a' b' p).2.2) :
    a' ≤ mid ∧ mid < b' ∧ d4.size = dk.size ∧ Sort.Below ltInt a' mid d4 ∧ Sort.Below ltInt (mid + 1) b' d4 ∧
    (∀ L, PermIn a' mid d4 L → SortedIn ltInt a' mid L → Goes a b (mid + 1) b' d L) ∧ (∀ L, PermIn (mid + 1) b' d4 L → SortedIn ltInt (mid + 1) b' L → Goes a b a' mid d L) := by
  obtain ⟨h1, h2, h3, h4, h5, h6, h7⟩ := round_part swo_ltInt (partition_holds _) hp1 hp2 h.hb h.below (mid := mid) (d4 := d4) (ap := (partition ltInt dk a' b' p).2.1) (by rw [hm, hd])
  have hl := h.len
  have hb := h.hb
  refine ⟨h1, h2, h3, h4, h5, fun L l1 l2 => ?_, fun L l1 l2 => ?_⟩
  · obtain ⟨q1, q2⟩ := h6 L l1 l2
    exact ⟨by omega, by rw [l1.1, h3]; exact hb, by rw [l1.1, h3]; exact h.hs, by omega, q1, fun R r1 r2 => by
      obtain ⟨s1, s2⟩ := q2 R r1 r2
      exact h.fin R s1 s2⟩
  · obtain ⟨q1, q2⟩ := h7 L l1 l2
    exact ⟨by omega, by rw [l1.1, h3]; omega, by rw [l1.1, h3]; exact h.hs, by omega, q1, fun R r1 r2 => by
      obtain ⟨s1, s2⟩ := q2 R r1 r2
      exact h.fin R s1 s2⟩
end Goes

/-- what pdqsort leaves -/
def PdqPost (w : World) (g o a b : Nat) (d : Array Int) (e : Ending) (w' : World) : Prop := e = .returned (.tuple #[]) ∧ ∃ d', (PermIn a b d d' ∧ SortedIn ltInt a b d') ∧ Rw w w' g o d'
/-- what the choice of the pivot leaves -/
def PivPost (w : World) (g o a b : Nat) (d : Array Int) (e : Ending) (w' : World) : Prop :=
  (∃ (p : Nat) (hint : Int), e = .returned (.tuple #[.int .i64 p, .int .i64 hint]) ∧ a ≤ p ∧ p < b) ∧ Rw w w' g o d

set_option maxRecDepth 100000 in
set_option maxHeartbeats 16000000 in
theorem pdq_step (g o c N a b lim : Nat) (d : Array Int) (w : World) (h : Rw w w g o d) (hN : d.size = N) (hN0 : N < 16777216) (hlim : lim < 4611686018427387904) (hgo : Goes a b a b d d)
    (ih : ∀ (a1 b1 l1 : Nat) (d1 : Array Int) (w1 : World), b1 - a1 < b - a → a1 ≤ b1 → b1 ≤ N → l1 < 4611686018427387904 → d1.size = N → Sort.Below ltInt a1 b1 d1 → Rw w1 w1 g o d1 →
      Calls Try.prog 59 #[.slice (some ⟨g, o, none⟩) N c, .int .i64 a1, .int .i64 b1, .int .i64 l1] w1 (PdqPost w1 g o a1 b1 d1)) :
    Calls Try.prog 59 #[.slice (some ⟨g, o, none⟩) N c, .int .i64 a, .int .i64 b, .int .i64 lim] w (PdqPost w g o a b d) := by
  have H := Lib.hid h
  have HL := Lib.hid less_any
  have IH := Lib.hid ih
  have HG := Lib.hid hgo
  have HN := Lib.hid hN
  clear h ih hgo hN
  go_enter Try.func59, Try.ntmps59
  go_wp2_with fail
  go_loopw [1, 2, 3, 8, 9] (fun va vb vl vwb vwp wr => ∃ (a' b' l : Nat) (wb wp : Bool) (dk : Array Int), va = .int .i64 a' ∧ vb = .int .i64 b' ∧ vl = .int .i64 l ∧ vwb = .bool wb ∧ vwp = .bool wp ∧ l < 4611686018427387904 ∧ a' ≤ b' ∧ b' ≤ N ∧ Goes a b a' b' d dk ∧ Rw w wr g o dk) (fun va vb _ _ _ _ => (intOf vb - intOf va).toNat)
  case atStart => exact ⟨a, b, lim, true, true, d, rfl, rfl, rfl, rfl, rfl, hlim, HG.out.hab, by rw [← HN.out]; exact HG.out.hb, HG.out, H.out⟩
  case round =>
    obtain ⟨a', b', l, wb, wp, dk, rfl, rfl, rfl, rfl, rfl, hl, hab, hbN, hgo, hrw⟩ := hrel
    have R := Lib.hid hrw
    have GO := Lib.hid hgo
    have HS := Lib.hid (hgo.hs.trans HN.out)
    clear hrw hgo
    obtain ⟨wo, hwo⟩ : ∃ wo : World, wo = wr := ⟨_, rfl⟩
    subst hwo
    have ebl : IntKind.i64.wrap ((b' : Int) - (a' : Int)) = ((b' - a' : Nat) : Int) := by rw [IntWalk.i64_in _ (by omega)]; omega
    by_cases h12 : b' - a' ≤ 12
    · have hins := insertion_any g o c a' b' dk wo R.out.self hab (by rw [HS.out]; exact hbN) (by rw [HS.out]; omega)
      rw [HS.out] at hins
      have HI := Lib.hid hins
      clear hins
      go_wp2_with (go_at_call 64; refine HI.out.mono ?_; rintro e w1 ⟨rfl, hw1⟩; have R1 := Lib.hid hw1; clear hw1)
      go_end0
      have hf := insertionSort_holds swo_ltInt dk a' b' hab (by rw [HS.out]; exact hbN)
      exact ⟨rfl, _, GO.out.fin _ hf.1 hf.2, R.out.trans R1.out⟩
    · have h12' : a' + 12 < b' := by omega
      by_cases hl0 : l = 0
      · have hheap := heap_any g o c a' b' dk wo R.out.self hab (by rw [HS.out]; exact hbN) (by rw [HS.out]; omega)
        rw [HS.out] at hheap
        have HI := Lib.hid hheap
        have b1 : ((l : Int) == 0) = true := by simp; omega
        have b2 : (l == 0) = true := by simp; omega
        clear hheap hl0
        go_wp2_with (go_at_call 65; refine HI.out.mono ?_; rintro e w1 ⟨rfl, hw1⟩; have R1 := Lib.hid hw1; clear hw1)
        go_end0
        have hf := heapSort_holds swo_ltInt dk a' b' hab (by rw [HS.out]; exact hbN)
        exact ⟨rfl, _, GO.out.fin _ hf.1 hf.2, R.out.trans R1.out⟩
      · have b1 : ((l : Int) == 0) = false := by simp; omega
        have b2 : (l == 0) = false := by simp; omega
        have elm : IntKind.i64.wrap ((l : Int) - 1) = ((l - 1 : Nat) : Int) := by rw [IntWalk.i64_in _ (by omega)]; omega
        clear hl0
        go_upto_if 35 with fail
        go_cut [3] from 19 to 133 (fun v wc => ∃ (l1 : Nat) (d1 : Array Int), v = .int .i64 l1 ∧ l1 < 4611686018427387904 ∧ Goes a b a' b' d d1 ∧ Rw w wc g o d1)
        case first =>
          cases wb with
          | true =>
            go_wp2_with fail
            go_meet
            exact ⟨l, dk, rfl, hl, GO.out, R.out⟩
          | false =>
            have hbr := break_any g o c a' b' dk wo R.out.self h12' (by rw [HS.out]; exact hbN) (by rw [HS.out]; exact hN0)
            rw [HS.out] at hbr
            have HI := Lib.hid hbr
            clear hbr
            go_wp2_with (go_at_call 66; refine HI.out.mono ?_; rintro e w1 ⟨rfl, d1, hp1, hw1⟩; have R1 := Lib.hid hw1; have P1 := Lib.hid hp1; clear hw1 hp1)
            go_meet
            exact ⟨l - 1, d1, rfl, by omega, GO.out.perm P1.out, R.out.trans R1.out⟩
        case rest =>
          obtain ⟨l1, d1, rfl, hl1, hgo, hR⟩ := hcut
          have HS1 := Lib.hid (hgo.hs.trans HN.out)
          have GO1 := Lib.hid hgo
          have R1 := Lib.hid hR
          clear hgo hR R GO HS b1 b2 elm hl
          have hpv : Calls Try.prog 67 #[.slice (some ⟨g, o, none⟩) d1.size c, .int .i64 a', .int .i64 b'] wc (PivPost wc g o a' b' d1) :=
            pivot_any g o c a' b' d1 wc R1.out.self h12' (by rw [HS1.out]; exact hbN) (by rw [HS1.out]; omega)
          rw [HS1.out] at hpv
          have HI := Lib.hid hpv
          clear hpv
          go_upto_region 10 with fail
          go_wp2_with fail
          refine HI.out.mono ?_
          rintro e w1 ⟨⟨p, hint, rfl, hp1, hp2⟩, hw1⟩
          have R2 := Lib.hid (R1.out.trans hw1)
          clear hw1 HI R1
          have hinti : ((hint : Int) == 2) = decide (hint = 2) := by rw [Bool.eq_iff_iff]; simp
          have eb1 : IntKind.i64.wrap ((b' : Int) - 1) = (b' : Int) - 1 := IntWalk.i64_in _ (by omega)
          have epa : IntKind.i64.wrap ((p : Int) - (a' : Int)) = (p : Int) - (a' : Int) := IntWalk.i64_in _ (by omega)
          have epp : IntKind.i64.wrap ((b' : Int) - 1 - ((p : Int) - (a' : Int))) = ((b' - 1 - (p - a') : Nat) : Int) := by rw [IntWalk.i64_in _ (by omega)]; omega
          obtain ⟨qd, hqd⟩ : ∃ qd, qd = (hint == 2) := ⟨_, rfl⟩
          rw [← hqd] at hinti
          have HQD := Lib.hid hqd
          have hqd2 := hqd.symm
          clear hqd hinti
          go_upto_if 50 with fail
          go_cut [11, 12] from 19 to 133 (fun v11 v12 wc => ∃ (p1 : Nat) (hint1 : Int) (d2 : Array Int), v11 = .int .i64 p1 ∧ v12 = .int .i64 hint1 ∧ a' ≤ p1 ∧ p1 < b' ∧ Goes a b a' b' d d2 ∧ Rw w wc g o d2)
          case first =>
            cases qd with
            | false =>
              go_wp2_with fail
              go_meet
              exact ⟨p, hint, d1, rfl, rfl, hp1, hp2, GO1.out, R2.out⟩
            | true =>
              have hrv := reverse_any g o c a' b' d1 w1 R2.out.self (by omega) (by rw [HS1.out]; exact hbN) (by rw [HS1.out]; omega)
              rw [HS1.out] at hrv
              have HI := Lib.hid hrv
              clear hrv
              go_wp2_with (go_at_call 68; refine HI.out.mono ?_; rintro e w2 ⟨rfl, d2, hp3, hw2⟩; have R3 := Lib.hid hw2; have P3 := Lib.hid hp3; clear hw2 hp3)
              go_meet
              exact ⟨b' - 1 - (p - a'), 1, d2, rfl, rfl, by omega, by omega, GO1.out.perm P3.out, R2.out.trans R3.out⟩
          case rest =>
            obtain ⟨p1, hint1, d2, rfl, rfl, hq1, hq2, hgo, hR⟩ := hcut
            have HS2 := Lib.hid (hgo.hs.trans HN.out)
            have GO2 := Lib.hid hgo
            have R3 := Lib.hid hR
            clear hgo hR R2 GO1 HS1 eb1 epa epp hqd2 hp1 hp2
            obtain ⟨qh, hqh⟩ : ∃ qh, qh = (hint1 == 1) := ⟨_, rfl⟩
            have hqh2 := hqh.symm
            clear hqh
            go_upto_region 15 with fail
            go_cut [68] from 19 to 133 (fun v wc => ∃ q : Bool, v = .bool q ∧ Rw w wc g o d2)
            case first =>
              cases wb <;> cases wp <;> cases qh <;>
                (go_wp2_with fail
                 go_meet
                 exact ⟨_, rfl, R3.out⟩)
            case rest =>
              obtain ⟨q, rfl, hR⟩ := hcut
              have R4 := Lib.hid hR
              clear hR R3 hqh2
              go_upto_if 68 with fail
              go_cut [11] from 19 to 133 (fun v wc => v = .int .i64 p1 ∧ ∃ d3 : Array Int, Goes a b a' b' d d3 ∧ Rw w wc g o d3)
              case first =>
                cases q with
                | false =>
                  go_wp2_with fail
                  go_meet
                  exact ⟨rfl, d2, GO2.out, R4.out⟩
                | true =>
                  have hpi := pis_any g o c a' b' d2 wc R4.out.self (by omega) (by rw [HS2.out]; exact hbN) (by rw [HS2.out]; omega)
                  have hps := partialInsertionSort_holds swo_ltInt d2 a' b' (by omega) (by rw [HS2.out]; exact hbN) GO2.out.below
                  rw [HS2.out] at hpi
                  obtain ⟨⟨x, y⟩, hr⟩ : ∃ r, r = partialInsertionSort ltInt d2 a' b' := ⟨_, rfl⟩
                  rw [← hr] at hpi hps
                  have HI := Lib.hid hpi
                  have HPS := Lib.hid hps
                  clear hpi hr hps
                  cases y with
                  | true =>
                    go_wp2_with (go_at_call 69; refine HI.out.mono ?_; rintro e w2 ⟨rfl, hw2⟩; have R5 := Lib.hid hw2; clear hw2)
                    refine bodyPost_ret (results_none rfl _ _ _) rfl ?_
                    exact ⟨rfl, _, GO2.out.fin _ HPS.out.1 (by first | exact HPS.out.2 trivial | exact HPS.out.2 rfl | exact HPS.out.2), R4.out.trans R5.out⟩
                  | false =>
                    go_wp2_with (go_at_call 69; refine HI.out.mono ?_; rintro e w2 ⟨rfl, hw2⟩; have R5 := Lib.hid hw2; clear hw2)
                    go_meet
                    exact ⟨rfl, _, GO2.out.perm HPS.out.1, R4.out.trans R5.out⟩
              case rest =>
                obtain ⟨rfl, d3, hgo, hR⟩ := hcut
                have HS3 := Lib.hid (hgo.hs.trans HN.out)
                have GO3 := Lib.hid hgo
                have R5 := Lib.hid hR
                clear hgo hR R4 GO2 HS2
                go_upto_region 17 with fail
                go_cut [87] from 19 to 133 (fun v wc => ∃ q : Bool, v = .bool q ∧ (q = true → 0 < a' ∧ ltInt d3[a' - 1]! d3[p1]! = false) ∧ Rw w wc g o d3)
                case first =>
                  by_cases ha0 : 0 < a'
                  · have ea : IntKind.i64.wrap ((a' : Int) - 1) = ((a' - 1 : Nat) : Int) := by rw [IntWalk.i64_in _ (by omega)]; omega
                    have h0 : a' - 1 < d3.size := by have := HS3.out; omega
                    have h1 : p1 < d3.size := by have := HS3.out; omega
                    have c0 := R5.out.cell h0
                    have c1 := R5.out.cell h1
                    obtain ⟨x0, hx0⟩ : ∃ x, x = d3[a' - 1]! := ⟨_, rfl⟩
                    obtain ⟨x1, hx1⟩ : ∃ x, x = d3[p1]! := ⟨_, rfl⟩
                    rw [← hx0] at c0
                    rw [← hx1] at c1
                    have HX0 := Lib.hid hx0
                    have HX1 := Lib.hid hx1
                    obtain ⟨a1, ha1⟩ : ∃ a1, a1 = a' - 1 := ⟨_, rfl⟩
                    rw [← ha1] at ea c0
                    have ha1N : a1 < N := by omega
                    have hp1N : p1 < N := by omega
                    clear hx0 hx1 ha1 h0 h1
                    have dl : decide ((0 : Int) < (a' : Int)) = true := by simp; omega
                    have dl2 : decide (0 < a') = true := by simp; omega
                    go_quiet (first | (go_at_call 70; refine Calls.quiet_of_same (HL.out _ _ _)))
                    cases hl : ltInt x0 x1 with
                    | true =>
                      go_wp2_with fail
                      go_meet
                      exact ⟨_, rfl, fun h => by simp at h, R5.out.drewN _⟩
                    | false =>
                      go_wp2_with fail
                      go_meet
                      exact ⟨_, rfl, fun _ => ⟨ha0, by rw [← HX0.out, ← HX1.out]; exact hl⟩, R5.out.drewN _⟩
                  · have d1 : decide ((0 : Int) < (a' : Int)) = false := by simp; omega
                    have d2 : decide (0 < a') = false := by simp; omega
                    go_quiet (first | (go_at_call 70; refine Calls.quiet_of_same (HL.out _ _ _)))
                    go_wp2_with fail
                    go_meet
                    exact ⟨_, rfl, fun h => by simp at h, R5.out.drewN _⟩
                case rest =>
                  obtain ⟨q, rfl, hq, hR⟩ := hcut
                  have R6 := Lib.hid hR
                  have HQ := Lib.hid hq
                  clear hR R5 hq
                  cases q with
                  | true =>
                    have hq := HQ.out rfl
                    have hpe := partEq_any g o c a' b' p1 d3 wc R6.out.self hq1 hq2 (by rw [HS3.out]; exact hbN) (by rw [HS3.out]; omega)
                    have hge := GO3.out.eq hq.1 hq1 hq2 hq.2
                    rw [HS3.out] at hpe
                    obtain ⟨⟨m, d4⟩, hr⟩ : ∃ r, r = partitionEqual ltInt d3 a' b' p1 := ⟨_, rfl⟩
                    rw [← hr] at hpe hge
                    obtain ⟨g1, g2, g3⟩ := hge
                    have HI := Lib.hid hpe
                    have GO4 := Lib.hid g3
                    simp only [] at g1 g2
                    clear hpe hr g3 hq
                    go_wp2_with (go_at_call 71; refine HI.out.mono ?_; rintro e w2 ⟨rfl, hw2⟩; have R7 := Lib.hid hw2; clear hw2)
                    go_roundw
                    case rel => exact ⟨m, b', l1, wb, wp, d4, rfl, rfl, rfl, rfl, rfl, hl1, g2, hbN, GO4.out, R6.out.trans R7.out⟩
                    case measure => simp [intOf]; omega
                  | false =>
                    have hpt := part_any g o c a' b' p1 d3 wc R6.out.self hq1 hq2 (by rw [HS3.out]; exact hbN) (by rw [HS3.out]; omega)
                    rw [HS3.out] at hpt
                    obtain ⟨m, hm⟩ : ∃ m, m = (partition ltInt d3 a' b' p1).1 := ⟨_, rfl⟩
                    obtain ⟨d4, hd4⟩ : ∃ d4, d4 = (partition ltInt d3 a' b' p1).2.2 := ⟨_, rfl⟩
                    have hgp := GO3.out.part hq1 hq2 hm hd4
                    rw [partition_fst] at hm
                    rw [partition_arr] at hd4
                    have hpp : ∀ e w2, PartPost wc g o (partLoop ltInt a' (a' + 1) (b' - 1) (swp d3 a' p1)) a' e w2 → (∃ ap : Bool, e = .returned (.tuple #[.int .i64 m, .bool ap])) ∧ Rw wc w2 g o d4 := by
                      intro e w2 ⟨x, y⟩
                      rw [hm, hd4]
                      exact ⟨x, y⟩
                    have HI := Lib.hid hpt
                    have HPP := Lib.hid hpp
                    obtain ⟨g1, g2, g3, g4, g5, g6, g7⟩ := hgp
                    have HS4 := Lib.hid (g3.trans HS3.out)
                    have HB1 := Lib.hid g4
                    have HB2 := Lib.hid g5
                    have HG1 := Lib.hid g6
                    have HG2 := Lib.hid g7
                    clear hm hd4 hpp hpt g3 g4 g5 g6 g7
                    have e1 : IntKind.i64.wrap ((m : Int) - (a' : Int)) = ((m - a' : Nat) : Int) := by rw [IntWalk.i64_in _ (by omega)]; omega
                    have e2 : IntKind.i64.wrap ((b' : Int) - (m : Int)) = ((b' - m : Nat) : Int) := by rw [IntWalk.i64_in _ (by omega)]; omega
                    have e3 : IntKind.i64.wrap ((m : Int) + 1) = ((m + 1 : Nat) : Int) := by rw [IntWalk.i64_in _ (by omega)]; omega
                    go_wp2_with (go_at_call 72; refine HI.out.mono ?_; intro e w2 hpost; obtain ⟨⟨ap, rfl⟩, hw2⟩ := HPP.out e w2 hpost; have R7 := Lib.hid (R6.out.trans hw2); clear hw2 hpost)
                    · have hS := HS4.out
                      refine (IH.out a' m l1 d4 w2 (by have := GO3.out.len; omega) g1 (by omega) hl1 hS HB1.out R7.out.self).mono ?_
                      rintro e w3 ⟨rfl, d5, ⟨hp5, hs5⟩, hw3⟩
                      have R8 := Lib.hid (R7.out.trans hw3)
                      have GO5 := Lib.hid (HG1.out d5 hp5 hs5)
                      clear hp5 hs5 hw3 hS
                      go_wp2_with fail
                      go_roundw
                      case rel => exact ⟨m + 1, b', l1, _, ap, d5, by go_num, rfl, rfl, rfl, rfl, hl1, by omega, hbN, GO5.out, R8.out⟩
                      case measure => simp [intOf]; omega
                    · have hS := HS4.out
                      have em : ((m : Int) + 1) = ((m + 1 : Nat) : Int) := by omega
                      refine (IH.out (m + 1) b' l1 d4 w2 (by have := GO3.out.len; omega) (by omega) hbN hl1 hS HB2.out R7.out.self).mono ?_
                      rintro e w3 ⟨rfl, d5, ⟨hp5, hs5⟩, hw3⟩
                      have R8 := Lib.hid (R7.out.trans hw3)
                      have GO5 := Lib.hid (HG2.out d5 hp5 hs5)
                      clear hp5 hs5 hw3 hS em
                      go_wp2_with fail
                      go_roundw
                      case rel => exact ⟨a', m, l1, _, ap, d5, rfl, rfl, rfl, rfl, rfl, hl1, g1, by omega, GO5.out, R8.out⟩
                      case measure => simp [intOf]; omega

theorem pdq_any (g o c N : Nat) (hN0 : N < 16777216) : ∀ (n a b lim : Nat) (d : Array Int) (w : World), b - a < n → a ≤ b → b ≤ N → lim < 4611686018427387904 → d.size = N → Sort.Below ltInt a b d → Rw w w g o d →
    Calls Try.prog 59 #[.slice (some ⟨g, o, none⟩) N c, .int .i64 a, .int .i64 b, .int .i64 lim] w (PdqPost w g o a b d) := by
  intro n
  induction n with
  | zero => intro a b lim d w h; omega
  | succ n ih =>
    intro a b lim d w h hab hb hl hd hB hr
    exact pdq_step g o c N a b lim d w hr hd hN0 hl (Goes.start hab (by rw [hd]; exact hb) hB) (fun a1 b1 l1 d1 w1 h1 => ih a1 b1 l1 d1 w1 (by omega))

/-- what Sort leaves: a sorted permutation -/
def SortPost (w : World) (g o : Nat) (d : Array Int) (e : Ending) (w' : World) : Prop := e = .returned (.tuple #[]) ∧ ∃ d', (PermIn 0 d.size d d' ∧ SortedIn ltInt 0 d.size d') ∧ Rw w w' g o d'
set_option maxHeartbeats 4000000 in
theorem sort_any (g o c N : Nat) (d : Array Int) (w : World) (h : Rw w w g o d) (hN : d.size = N) (hN0 : N < 16777216) :
    Calls Try.prog 44 #[.slice (some ⟨g, o, none⟩) N c] w (SortPost w g o d) := by
  have H := Lib.hid h
  have HN := Lib.hid hN
  have HL := Lib.hid (len_any N hN0 w)
  have e0 : IntKind.u64.wrap (N : Int) = (N : Int) := IntWalk.u64_in _ (by omega)
  clear h hN
  go_enter Try.func44, Try.ntmps44
  go_wp2_with (go_at_call 60; refine HL.out.mono ?_; rintro e w' ⟨⟨L, rfl, hL, -, -⟩, rfl⟩)
  refine (pdq_any g o c N hN0 (N + 1) 0 N L d _ (by omega) (by omega) (Nat.le_refl _) (by omega) HN.out (.inl rfl) H.out).mono ?_
  rintro e w' ⟨rfl, d', hps, hw'⟩
  have HPS := Lib.hid hps
  have HW := Lib.hid hw'
  clear hps hw'
  go_wp2_with fail
  go_end0
  exact ⟨rfl, d', by rw [HN.out]; exact HPS.out, HW.out⟩
end Go.Proofs.Ytiinjjfggmmkmaa
