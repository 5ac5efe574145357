/- connect: the law ConnectWatches returns true and writes to nothing that was there. -/
import Derived.Test.YtchkipafjnehfaaKnown
import Derived.Test.YtchkipafjnehfaaWR2
import Derived.Test.YtchkipafjnehfaaR2
import Derived.Test.YtchkipafjnehfaaViews
import Derived.Deep.CutRange
import Derived.Deep.RegionWith
namespace Go.Proofs.Ytchkipafjnehfaa
open Go.RowKit

/-- Some error number. -/
def TouchPost (b : Nat) (w : World) (e : Ending) (w' : World) : Prop := ∃ k : Int, e = .returned (.int .i64 k) ∧ Keeps (One b) w w'
theorem touch_some (b : Nat) (l n t now : Int) (o : Bool) (w : World) (h : WatchAt w b l n t o) (hl : 0 ≤ l) (hl' : l ≤ 9223372036854775807) (ht : 0 ≤ t) (htn : t ≤ n) (hn : n ≤ 9223372036854775807) (hw : now ≤ 9223372036854775807) :
    Calls Try.prog 17 #[.pointer (some ⟨b, 0, none⟩), .int .i64 now] w (TouchPost b w) := by
  cases hov : ov l (max n now) t o
  · exact (touch_ok b l n t now _ o w h hl hl' ht htn hn hw rfl hov).mono fun _ _ ⟨he, hk, _⟩ => ⟨0, he, hk⟩
  · exact (touch_late b l n t now _ o w h hl hl' ht htn hn hw rfl hov).mono fun _ _ ⟨he, hk, _⟩ => ⟨8, he, hk⟩

/-- What lies in memory between two rounds. -/
structure WInv (w : World) (b mb : Nat) (l n t : Int) (o : Bool) (W : World) : Prop where
  watch : WatchAt W b l n t o
  ref : W.rowIs mb 51 4 (rcell l n t o)
  t0 : 0 ≤ t
  tn : t ≤ n
  n1 : n ≤ 9223372036854775807
  below : Below w.heap.size w W
  b0 : w.heap.size ≤ b
  m0 : w.heap.size ≤ mb
  ne : b ≠ mb

theorem WInv.of_below {w W W' : World} {b mb : Nat} {l n t : Int} {o : Bool} (h : WInv w b mb l n t o W) (hb : Below W.heap.size W W') : WInv w b mb l n t o W' :=
  ⟨h.watch.below hb, h.ref.of_block (hb.block _ h.ref.lt), h.t0, h.tn, h.n1, h.below.trans (hb.mono h.below.size), h.b0, h.m0, h.ne⟩
theorem WInv.kept {S : Nat → Prop} {w W W' : World} {b mb : Nat} {l n t : Int} {o : Bool} (h : WInv w b mb l n t o W) (k : Keeps S W W') (h1 : ¬ S b) (h2 : ¬ S mb) (h3 : ∀ j, S j → w.heap.size ≤ j) : WInv w b mb l n t o W' :=
  ⟨h.watch.kept k h1, k.rowIs h.ref h2, h.t0, h.tn, h.n1, h.below.trans (k.below (B := w.heap.size) h.below.size (fun j hj e => by have := h3 j e; omega)), h.b0, h.m0, h.ne⟩

set_option maxRecDepth 100000 in
set_option maxHeartbeats 4000000 in
theorem watches_walk (l : Int) (a1 : Option Addr) (len1 cap1 : Nat) (z : Nat → Int) (a2 : Option Addr) (len2 cap2 : Nat) (B : Nat → Bool) (w : World) (hl : 0 ≤ l) (hl' : l ≤ 9223372036854775807) (hlen : len1 ≤ 50) (hlen2 : len2 ≤ 9223372036854775807)
    (hz : ∀ i, i < len1 → ∃ x, a1 = some x ∧ w.cell? (x.add i) = some (.int .i64 (z i)) ∧ -9223372036854775808 ≤ z i ∧ z i ≤ 9223372036854775807)
    (hB : ∀ i, i < len2 → ∃ x, a2 = some x ∧ w.cell? (x.add i) = some (.bool (B i))) :
    Calls Try.prog 6 #[.int .i64 l, .slice a1 len1 cap1, .slice a2 len2 cap2] w fun e w' => e = .returned (.bool true) ∧ Below w.heap.size w w' := by
  have HZ := Lib.hid hz
  have HBo := Lib.hid hB
  clear hz hB
  have d1 : decide (l < 0) = false := by simp; omega
  have d2 : decide ((50 : Int) < (len1 : Int)) = false := by simp; omega
  go_enter Try.func6, Try.ntmps6
  go_wp2_with fail
  refine (newwatch_ok l w (by omega)).mono ?_
  rintro e w1 ⟨b, rfl, hwa, hb, hb1⟩
  have HWA := Lib.hid hwa
  have HB1 := Lib.hid hb1
  have hs1 := hb1.size
  have hblt := hwa.lt
  clear hwa hb1
  go_wp2_with fail
  obtain ⟨W0, hW0⟩ : ∃ W0, W0 = w1.alloc (.cells #[.int .i64 l, .int .i64 0, .int .i64 0, .bool false] 51) := ⟨_, rfl⟩
  rw [← hW0]
  have hI0 : WInv w b w1.heap.size l 0 0 false W0 := by
    refine ⟨?_, ?_, by omega, by omega, by omega, ?_, hb, hs1, by omega⟩
    · rw [hW0]; exact HWA.out.kept ((Keeps.refl (fun _ => False) _).alloc _) (fun h => h)
    · rw [hW0]; exact World.rowIs_alloc w1 _ _ _ (fun i hi => by match i, hi with | 0, _ => rfl | 1, _ => rfl | 2, _ => rfl | 3, _ => rfl)
    · rw [hW0]; exact HB1.out.alloc HB1.out.size _
  have HI0 := Lib.hid hI0
  clear hI0 hW0
  generalize w1.heap.size = mb at *
  go_loopw [10] (fun i wr => ∃ (k : Nat) (n t : Int) (o : Bool), k ≤ len1 ∧ i = .int .i64 k ∧ WInv w b mb l n t o wr) (fun i _ => len1 - (intOf i).toNat)
  case atStart => exact ⟨0, 0, 0, false, Nat.zero_le _, rfl, HI0.out⟩
  case round =>
    obtain ⟨k, n, t, o, hk, rfl, hI⟩ := hrel
    have HI := Lib.hid hI
    obtain ⟨-, -, ht0, htn, hn1, -, hb0, hm0, hne⟩ := hI
    by_cases hlt : k < len1
    · obtain ⟨x, rfl, hc, hz0, hz1⟩ := HZ.out k hlt
      have HC := Lib.hid hc
      obtain ⟨d, hd⟩ : ∃ d, z k = d := ⟨_, rfl⟩
      rw [hd] at hz0 hz1
      have HD := Lib.hid hd
      obtain ⟨D, hD⟩ : ∃ D, D = dueOf l t := ⟨_, rfl⟩
      have HDu := Lib.hid hD
      clear hc hd hD
      go_wp2_with fail
      refine (wcopy_ok b l n t o wr HI.out.watch).mono ?_
      rintro e w2 ⟨c, rfl, hc2, hcs, hb2⟩
      have HI2 := Lib.hid (HI.out.of_below hb2)
      have hcb : c ≠ b ∧ c ≠ mb := by
        have h1 := HI.out.watch.lt
        have h2 := HI.out.ref.lt
        omega
      have HCW := Lib.hid hc2
      have hcw : w.heap.size ≤ c := by have := HI.out.below.size; omega
      clear hc2 hb2
      go_wp2_with fail
      have hl2 := HI2.out.ref.lt
      have hQ0 : ∀ p : InC (Below w2.heap.size w2), p.w.cell? ⟨mb, 0, none⟩ = some (.int .i64 l) := fun p => (p.ok.cell hl2).trans (HI2.out.ref.cell (by omega))
      have hQ1 : ∀ p : InC (Below w2.heap.size w2), p.w.cell? ⟨mb, 1, none⟩ = some (.int .i64 n) := fun p => (p.ok.cell hl2).trans (HI2.out.ref.cell (by omega))
      have hQ2 : ∀ p : InC (Below w2.heap.size w2), p.w.cell? ⟨mb, 2, none⟩ = some (.int .i64 t) := fun p => (p.ok.cell hl2).trans (HI2.out.ref.cell (by omega))
      have hQ3 : ∀ p : InC (Below w2.heap.size w2), p.w.cell? ⟨mb, 3, none⟩ = some (.bool o) := fun p => (p.ok.cell hl2).trans (HI2.out.ref.cell (by omega))
      have HE1 : Hid (∀ p : InC (Below w2.heap.size w2), Calls Try.prog 18 #[.pointer (some ⟨c, 0, none⟩)] p.w fun e w' => e = .returned (.int .i64 D) ∧ Below w2.heap.size w2 w') := by
        refine Lib.hid fun p => (due_ok c l n t D o p.w (HCW.out.below p.ok) hl hl' ht0 (by omega) HDu.out).mono ?_
        rintro e w' ⟨rfl, q, rfl⟩
        exact ⟨rfl, p.ok.trans ⟨rfl, rfl, rfl, Nat.le_refl _, fun _ _ => rfl⟩⟩
      have HE2 : Hid (∀ p : InC (Below w2.heap.size w2), Calls Try.prog 25 #[.agg #[.int .i64 l, .int .i64 n, .int .i64 t, .bool o]] p.w fun e w' => e = .returned (.int .i64 D) ∧ Below w2.heap.size w2 w') := by
        refine Lib.hid fun p => (refDue_any l n t D o p.w hl hl' ht0 (by omega) HDu.out).mono ?_
        rintro e w' ⟨rfl, hb⟩
        exact ⟨rfl, p.ok.trans (hb.mono p.ok.size)⟩
      have hNE : Nonempty (InC (Below w2.heap.size w2)) := ⟨⟨w2, Below.refl _ _⟩⟩
      refine wp_quiet_in (Below w2.heap.size w2) (Below.refl _ _).drew (by kernel_rfl) (by kernel_rfl) ?_
      repeat (go_big_quiet_step (first | (with_reducible exact calls_in (HE1.out _)) | (with_reducible exact calls_in (HE2.out _))))
      refine wpQuiet_nil ?_
      intro _ hw'
      obtain ⟨p, hw''⟩ := hw'
      subst hw''
      have HI3 := Lib.hid (HI2.out.of_below p.ok)
      have HCW3 := Lib.hid (HCW.out.below p.ok)
      generalize p.w = W3 at *
      clear hQ0 hQ1 hQ2 hQ3 HE1 HE2 hNE HI2 HCW
      go_wp2_with fail
      refine (touch_some c l n t 9000000000000000000 o W3 HCW3.out hl hl' ht0 htn hn1 (by omega)).mono ?_
      rintro e W4 ⟨q0, rfl, hk4⟩
      have HI4 := Lib.hid (HI3.out.kept hk4 (fun e => hcb.1 (Eq.symm e)) (fun e => hcb.2 (Eq.symm e)) (fun j e => by have e : j = c := e; omega))
      clear hk4 HI3 HCW3
      go_upto_region 16 with (fail)
      go_cut [73] from 64 to 74 (fun v wc => ∃ q : Bool, v = .bool q ∧ wc = W4)
      case first =>
        by_cases h2 : k < len2
        · obtain ⟨x2, rfl, hcB⟩ := HBo.out k h2
          have cB := (HI4.out.below.cell (World.block_lt_of_cell? _ _ hcB)).trans hcB
          clear hcB
          go_wp2_with fail
          go_meet
          exact ⟨_, rfl, rfl⟩
        · have d3 : decide (k < len2) = false := decide_eq_false h2
          go_wp2_with fail
          go_meet
          exact ⟨_, rfl, rfl⟩
      case rest =>
        obtain ⟨q, rfl, rfl⟩ := hcut
        have cz := (HI4.out.below.cell (World.block_lt_of_cell? _ _ HC.out)).trans HC.out
        rw [HD.out] at cz
        obtain ⟨m, hm⟩ : ∃ m, m = max n d := ⟨_, rfl⟩
        have hm1 : n ≤ m := by omega
        have hm2 : m ≤ 9223372036854775807 := by omega
        have HM := Lib.hid hm
        have HCD : w.cell? (x.add k) = some (.int .i64 d) := by rw [← HD.out]; exact HC.out
        clear hm HC HD
        have HC0 := Lib.hid HCD
        clear HCD
        cases q
        · obtain ⟨o', ho'⟩ : ∃ o', ov l m t o = o' := ⟨_, rfl⟩
          have HO := Lib.hid ho'
          clear ho'
          go_wp2_with fail
          refine (expired_ok b l n t d m o o' wc HI4.out.watch hl hl' ht0 htn hn1 hz1 HM.out HO.out).mono ?_
          rintro e W5 ⟨rfl, hk5, hw5⟩
          have HW5 := Lib.hid hw5
          have HR5 := Lib.hid (hk5.rowIs HI4.out.ref (fun e => hne (Eq.symm e)))
          have HB5 := Lib.hid (HI4.out.below.trans (hk5.below (B := w.heap.size) HI4.out.below.size (fun j hj e => by have e : j = b := e; omega)))
          have cz5 := (HB5.out.cell (World.block_lt_of_cell? _ _ HC0.out)).trans HC0.out
          have m0 : W5.cell? ⟨mb, 0, none⟩ = some (.int .i64 l) := HR5.out.cell (by omega)
          have m1 : W5.cell? ⟨mb, 1, none⟩ = some (.int .i64 n) := HR5.out.cell (by omega)
          have m2 : W5.cell? ⟨mb, 2, none⟩ = some (.int .i64 t) := HR5.out.cell (by omega)
          have m3 : W5.cell? ⟨mb, 3, none⟩ = some (.bool o) := HR5.out.cell (by omega)
          clear hk5 hw5 HI4 cz
          go_wp2_with fail
          go_cut [107] from 102 to 108 (fun _ wc => WInv w b mb l m t o' wc)
          case first =>
            go_region_with (go_at_call 27; refine (refPass_any l n t d m o o' _ hl hl' ht0 htn hn1 hz1 HM.out HO.out.symm).mono ?_; rintro e w6 ⟨rfl, hb6⟩; have kk : Keeps (fun _ => False) W5 w6 := (Keeps.refl _ W5).drew.trans (Keeps.of_below hb6); have hR6 := kk.rowIs HR5.out (fun h => h); have HR6 := Lib.hid hR6; have HW6 := Lib.hid (HW5.out.kept kk (fun h => h)); have HB6 := Lib.hid (HB5.out.trans (kk.below (B := w.heap.size) HB5.out.size (fun _ _ h => h))); have n0 : w6.cell? ⟨mb, 0, none⟩ = some (.int .i64 l) := hR6.cell (by omega); have n1 : w6.cell? ⟨mb, 1, none⟩ = some (.int .i64 n) := hR6.cell (by omega); have n2 : w6.cell? ⟨mb, 2, none⟩ = some (.int .i64 t) := hR6.cell (by omega); have n3 : w6.cell? ⟨mb, 3, none⟩ = some (.bool o) := hR6.cell (by omega); have nf := hR6.frozen; clear hb6 kk hR6; unfold rw)
            all_goals
              go_wp2_with fail
              go_meet
              have kq : Keeps (One mb) w6 ((((w6.setCell ⟨mb, 0, none⟩ (.int .i64 l)).setCell ⟨mb, 1, none⟩ (.int .i64 m)).setCell ⟨mb, 2, none⟩ (.int .i64 t)).setCell ⟨mb, 3, none⟩ (.bool o')) := ((((Keeps.refl _ _).set1 _ _).set1 _ _).set1 _ _).set1 _ _
              refine ⟨HW6.out.kept kq (fun e => hne e), ((((HR6.out.set 0 _).set 1 _).set 2 _).set 3 _).congr fun i hi => by
                match i, hi with
                | 0, _ => rfl
                | 1, _ => rfl
                | 2, _ => rfl
                | 3, _ => rfl, ht0, by omega, hm2, HB6.out.trans (kq.below (B := w.heap.size) HB6.out.size (fun j hj e => by have e : j = mb := e; omega)), hb0, hm0, hne⟩
          case rest =>
            have HI7 := Lib.hid hcut
            have r3 : wc.cell? ⟨mb, 3, none⟩ = some (.bool o') := hcut.ref.cell (by omega)
            clear hcut m0 m1 m2 m3 cz5
            go_wp2_with fail
            clear r3
            obtain ⟨D2, hD2⟩ : ∃ D2, D2 = dueOf l t := ⟨_, rfl⟩
            have HD2 := Lib.hid hD2
            clear hD2
            have hl2 := HI7.out.ref.lt
            have hT0 : 0 ≤ t := by omega
            have hT1 : t ≤ 9223372036854775807 := by omega
            have hQ0 : ∀ p : InC (Below wc.heap.size wc), p.w.cell? ⟨mb, 0, none⟩ = some (.int .i64 l) := fun p => (p.ok.cell hl2).trans (HI7.out.ref.cell (by omega))
            have hQ1 : ∀ p : InC (Below wc.heap.size wc), p.w.cell? ⟨mb, 1, none⟩ = some (.int .i64 m) := fun p => (p.ok.cell hl2).trans (HI7.out.ref.cell (by omega))
            have hQ2 : ∀ p : InC (Below wc.heap.size wc), p.w.cell? ⟨mb, 2, none⟩ = some (.int .i64 t) := fun p => (p.ok.cell hl2).trans (HI7.out.ref.cell (by omega))
            have hQ3 : ∀ p : InC (Below wc.heap.size wc), p.w.cell? ⟨mb, 3, none⟩ = some (.bool o') := fun p => (p.ok.cell hl2).trans (HI7.out.ref.cell (by omega))
            have HE1 : Hid (∀ p : InC (Below wc.heap.size wc), Calls Try.prog 18 #[.pointer (some ⟨b, 0, none⟩)] p.w fun e w' => e = .returned (.int .i64 D2) ∧ Below wc.heap.size wc w') := by
              refine Lib.hid fun p => (due_ok b l m t D2 o' p.w (HI7.out.watch.below p.ok) hl hl' hT0 hT1 HD2.out).mono ?_
              rintro e w' ⟨rfl, q, rfl⟩
              exact ⟨rfl, p.ok.trans ⟨rfl, rfl, rfl, Nat.le_refl _, fun _ _ => rfl⟩⟩
            have HE2 : Hid (∀ p : InC (Below wc.heap.size wc), Calls Try.prog 25 #[.agg #[.int .i64 l, .int .i64 m, .int .i64 t, .bool o']] p.w fun e w' => e = .returned (.int .i64 D2) ∧ Below wc.heap.size wc w') := by
              refine Lib.hid fun p => (refDue_any l m t D2 o' p.w hl hl' hT0 hT1 HD2.out).mono ?_
              rintro e w' ⟨rfl, hb⟩
              exact ⟨rfl, p.ok.trans (hb.mono p.ok.size)⟩
            have hNE : Nonempty (InC (Below wc.heap.size wc)) := ⟨⟨wc, Below.refl _ _⟩⟩
            refine wp_quiet_in (Below wc.heap.size wc) (Below.refl _ _).drew (by kernel_rfl) (by kernel_rfl) ?_
            repeat (go_big_quiet_step (first | (with_reducible exact calls_in (HE1.out _)) | (with_reducible exact calls_in (HE2.out _))))
            refine wpQuiet_nil ?_
            intro _ hw'
            obtain ⟨p, hw''⟩ := hw'
            subst hw''
            have HI8 := Lib.hid (HI7.out.of_below p.ok)
            generalize p.w = W8 at *
            clear hQ0 hQ1 hQ2 hQ3 HE1 HE2 hNE HI7
            go_wp2_with fail
            go_roundw
            case rel => exact ⟨k + 1, m, t, o', by omega, by go_num, HI8.out⟩
            case measure => simp [intOf]; omega
        · cases hov : ov l m t o
          · have HO := Lib.hid hov
            clear hov
            go_wp2_with fail
            refine (touch_ok b l n t d m o wc HI4.out.watch hl hl' ht0 htn hn1 hz1 HM.out HO.out).mono ?_
            rintro e W5 ⟨rfl, hk5, hw5⟩
            have HW5 := Lib.hid hw5
            have HR5 := Lib.hid (hk5.rowIs HI4.out.ref (fun e => hne (Eq.symm e)))
            have HB5 := Lib.hid (HI4.out.below.trans (hk5.below (B := w.heap.size) HI4.out.below.size (fun j hj e => by have e : j = b := e; omega)))
            have cz5 := (HB5.out.cell (World.block_lt_of_cell? _ _ HC0.out)).trans HC0.out
            have cz6 : ∀ ob, (W5.alloc ob).cell? (x.add k) = some (.int .i64 d) := fun ob => (World.cell?_alloc_lt _ _ _ (World.block_lt_of_cell? _ _ cz5)).trans cz5
            have hmb := HR5.out.lt
            have m0 : W5.cell? ⟨mb, 0, none⟩ = some (.int .i64 l) := HR5.out.cell (by omega)
            have m1 : W5.cell? ⟨mb, 1, none⟩ = some (.int .i64 n) := HR5.out.cell (by omega)
            have m2 : W5.cell? ⟨mb, 2, none⟩ = some (.int .i64 t) := HR5.out.cell (by omega)
            have m3 : W5.cell? ⟨mb, 3, none⟩ = some (.bool o) := HR5.out.cell (by omega)
            clear hk5 hw5 HI4 cz
            go_wp2_with fail
            go_cut [13, 14] from 80 to 89 (fun p q wc => ∃ nb, p = .pointer (some ⟨nb, 0, none⟩) ∧ q = .int .i64 0 ∧ wc.cell? ⟨nb, 0, none⟩ = some (.int .i64 l) ∧ wc.cell? ⟨nb, 1, none⟩ = some (.int .i64 m) ∧ wc.cell? ⟨nb, 2, none⟩ = some (.int .i64 m) ∧ wc.cell? ⟨nb, 3, none⟩ = some (.bool false) ∧ Below W5.heap.size W5 wc)
            case first =>
              go_region_with (go_at_call 26; refine (refTouch_ok l n t d m o _ hl hl' ht0 htn hn1 hz1 HM.out HO.out.symm).mono ?_; rintro e w6 ⟨rfl, hb6⟩; obtain ⟨hc, hf⟩ := bcell hb6; have hz := hb6.size; simp at hz; have hz1' : W5.heap.size ≤ w6.heap.size := (by omega); have hBB : Below W5.heap.size W5 w6 := (by first | exact ((Below.refl _ W5).drew).trans (hb6.mono (by simp)) | exact (((Below.refl _ W5).alloc (Nat.le_refl _) _).drew).trans (hb6.mono (by simp))); clear hb6; unfold rw)
              all_goals
                go_wp2_with fail
                go_meet
                refine ⟨_, rfl, rfl, ?_, ?_, ?_, ?_, ?_⟩
                · go_simp
                · go_simp
                · go_simp
                · go_simp
                · first | exact hBB.alloc hBB.size _ | exact (((hBB.setCell (p := ⟨W5.heap.size, 0, none⟩) (by simp) _).setCell (p := ⟨W5.heap.size, 1, none⟩) (by simp) _).setCell (p := ⟨W5.heap.size, 2, none⟩) (by simp) _).setCell (p := ⟨W5.heap.size, 3, none⟩) (by simp) _
            case rest =>
              obtain ⟨nb, rfl, rfl, e0, e1, e2, e3, hb7⟩ := hcut
              have hR7 := HR5.out.of_block (hb7.block _ hmb)
              have HR7 := Lib.hid hR7
              have HW7 := Lib.hid (HW5.out.below hb7)
              have HB7 := Lib.hid (HB5.out.trans (hb7.mono HB5.out.size))
              have n0 : wc.cell? ⟨mb, 0, none⟩ = some (.int .i64 l) := hR7.cell (by omega)
              have n1 : wc.cell? ⟨mb, 1, none⟩ = some (.int .i64 n) := hR7.cell (by omega)
              have n2 : wc.cell? ⟨mb, 2, none⟩ = some (.int .i64 t) := hR7.cell (by omega)
              have n3 : wc.cell? ⟨mb, 3, none⟩ = some (.bool o) := hR7.cell (by omega)
              have nf := hR7.frozen
              clear m0 m1 m2 m3 cz5 cz6 hR7 hb7 HR5 HW5 HB5
              go_wp2_with fail
              have kq : Keeps (One mb) wc ((((wc.setCell ⟨mb, 0, none⟩ (.int .i64 l)).setCell ⟨mb, 1, none⟩ (.int .i64 m)).setCell ⟨mb, 2, none⟩ (.int .i64 m)).setCell ⟨mb, 3, none⟩ (.bool false)) := ((((Keeps.refl _ _).set1 _ _).set1 _ _).set1 _ _).set1 _ _
              have hI7 : WInv w b mb l m m false ((((wc.setCell ⟨mb, 0, none⟩ (.int .i64 l)).setCell ⟨mb, 1, none⟩ (.int .i64 m)).setCell ⟨mb, 2, none⟩ (.int .i64 m)).setCell ⟨mb, 3, none⟩ (.bool false)) := by
                refine ⟨HW7.out.kept kq (fun e => hne e), ((((HR7.out.set 0 _).set 1 _).set 2 _).set 3 _).congr fun i hi => by
                  match i, hi with
                  | 0, _ => rfl
                  | 1, _ => rfl
                  | 2, _ => rfl
                  | 3, _ => rfl, by omega, by omega, hm2, HB7.out.trans (kq.below (B := w.heap.size) HB7.out.size (fun j hj e => by have e : j = mb := e; omega)), hb0, hm0, hne⟩
              have HI7 := Lib.hid hI7
              clear hI7 kq n0 n1 n2 n3 nf HR7 HW7 HB7
              generalize ((((wc.setCell ⟨mb, 0, none⟩ (.int .i64 l)).setCell ⟨mb, 1, none⟩ (.int .i64 m)).setCell ⟨mb, 2, none⟩ (.int .i64 m)).setCell ⟨mb, 3, none⟩ (.bool false)) = W7 at *
              obtain ⟨D2, hD2⟩ : ∃ D2, D2 = dueOf l m := ⟨_, rfl⟩
              have HD2 := Lib.hid hD2
              clear hD2
              have hl2 := HI7.out.ref.lt
              have hT0 : 0 ≤ m := by omega
              have hT1 : m ≤ 9223372036854775807 := by omega
              have hQ0 : ∀ p : InC (Below W7.heap.size W7), p.w.cell? ⟨mb, 0, none⟩ = some (.int .i64 l) := fun p => (p.ok.cell hl2).trans (HI7.out.ref.cell (by omega))
              have hQ1 : ∀ p : InC (Below W7.heap.size W7), p.w.cell? ⟨mb, 1, none⟩ = some (.int .i64 m) := fun p => (p.ok.cell hl2).trans (HI7.out.ref.cell (by omega))
              have hQ2 : ∀ p : InC (Below W7.heap.size W7), p.w.cell? ⟨mb, 2, none⟩ = some (.int .i64 m) := fun p => (p.ok.cell hl2).trans (HI7.out.ref.cell (by omega))
              have hQ3 : ∀ p : InC (Below W7.heap.size W7), p.w.cell? ⟨mb, 3, none⟩ = some (.bool false) := fun p => (p.ok.cell hl2).trans (HI7.out.ref.cell (by omega))
              have HE1 : Hid (∀ p : InC (Below W7.heap.size W7), Calls Try.prog 18 #[.pointer (some ⟨b, 0, none⟩)] p.w fun e w' => e = .returned (.int .i64 D2) ∧ Below W7.heap.size W7 w') := by
                refine Lib.hid fun p => (due_ok b l m m D2 false p.w (HI7.out.watch.below p.ok) hl hl' hT0 hT1 HD2.out).mono ?_
                rintro e w' ⟨rfl, q, rfl⟩
                exact ⟨rfl, p.ok.trans ⟨rfl, rfl, rfl, Nat.le_refl _, fun _ _ => rfl⟩⟩
              have HE2 : Hid (∀ p : InC (Below W7.heap.size W7), Calls Try.prog 25 #[.agg #[.int .i64 l, .int .i64 m, .int .i64 m, .bool false]] p.w fun e w' => e = .returned (.int .i64 D2) ∧ Below W7.heap.size W7 w') := by
                refine Lib.hid fun p => (refDue_any l m m D2 false p.w hl hl' hT0 hT1 HD2.out).mono ?_
                rintro e w' ⟨rfl, hb⟩
                exact ⟨rfl, p.ok.trans (hb.mono p.ok.size)⟩
              have hNE : Nonempty (InC (Below W7.heap.size W7)) := ⟨⟨W7, Below.refl _ _⟩⟩
              refine wp_quiet_in (Below W7.heap.size W7) (Below.refl _ _).drew (by kernel_rfl) (by kernel_rfl) ?_
              repeat (go_big_quiet_step (first | (with_reducible exact calls_in (HE1.out _)) | (with_reducible exact calls_in (HE2.out _))))
              refine wpQuiet_nil ?_
              intro _ hw'
              obtain ⟨p, hw''⟩ := hw'
              subst hw''
              have HI8 := Lib.hid (HI7.out.of_below p.ok)
              generalize p.w = W8 at *
              clear hQ0 hQ1 hQ2 hQ3 HE1 HE2 hNE HI7
              go_wp2_with fail
              go_roundw
              case rel => exact ⟨k + 1, m, m, false, by omega, by go_num, HI8.out⟩
              case measure => simp [intOf]; omega
          · have HO := Lib.hid hov
            clear hov
            go_wp2_with fail
            refine (touch_late b l n t d m o wc HI4.out.watch hl hl' ht0 htn hn1 hz1 HM.out HO.out).mono ?_
            rintro e W5 ⟨rfl, hk5, hw5⟩
            have HW5 := Lib.hid hw5
            have HR5 := Lib.hid (hk5.rowIs HI4.out.ref (fun e => hne (Eq.symm e)))
            have HB5 := Lib.hid (HI4.out.below.trans (hk5.below (B := w.heap.size) HI4.out.below.size (fun j hj e => by have e : j = b := e; omega)))
            have cz5 := (HB5.out.cell (World.block_lt_of_cell? _ _ HC0.out)).trans HC0.out
            have cz6 : ∀ ob, (W5.alloc ob).cell? (x.add k) = some (.int .i64 d) := fun ob => (World.cell?_alloc_lt _ _ _ (World.block_lt_of_cell? _ _ cz5)).trans cz5
            have hmb := HR5.out.lt
            have m0 : W5.cell? ⟨mb, 0, none⟩ = some (.int .i64 l) := HR5.out.cell (by omega)
            have m1 : W5.cell? ⟨mb, 1, none⟩ = some (.int .i64 n) := HR5.out.cell (by omega)
            have m2 : W5.cell? ⟨mb, 2, none⟩ = some (.int .i64 t) := HR5.out.cell (by omega)
            have m3 : W5.cell? ⟨mb, 3, none⟩ = some (.bool o) := HR5.out.cell (by omega)
            clear hk5 hw5 HI4 cz
            go_wp2_with fail
            go_cut [13, 14] from 80 to 89 (fun p q wc => ∃ nb, p = .pointer (some ⟨nb, 0, none⟩) ∧ q = .int .i64 8 ∧ wc.cell? ⟨nb, 0, none⟩ = some (.int .i64 l) ∧ wc.cell? ⟨nb, 1, none⟩ = some (.int .i64 m) ∧ wc.cell? ⟨nb, 2, none⟩ = some (.int .i64 t) ∧ wc.cell? ⟨nb, 3, none⟩ = some (.bool true) ∧ Below W5.heap.size W5 wc)
            case first =>
              go_region_with (go_at_call 26; refine (refTouch_late l n t d m o _ hl hl' ht0 htn hn1 hz1 HM.out HO.out.symm).mono ?_; rintro e w6 ⟨rfl, hb6⟩; obtain ⟨hc, hf⟩ := bcell hb6; have hz := hb6.size; simp at hz; have hz1' : W5.heap.size ≤ w6.heap.size := (by omega); have hBB : Below W5.heap.size W5 w6 := (by first | exact ((Below.refl _ W5).drew).trans (hb6.mono (by simp)) | exact (((Below.refl _ W5).alloc (Nat.le_refl _) _).drew).trans (hb6.mono (by simp))); clear hb6; unfold rw)
              all_goals
                go_wp2_with fail
                go_meet
                refine ⟨_, rfl, rfl, ?_, ?_, ?_, ?_, ?_⟩
                · go_simp
                · go_simp
                · go_simp
                · go_simp
                · first | exact hBB.alloc hBB.size _ | exact (((hBB.setCell (p := ⟨W5.heap.size, 0, none⟩) (by simp) _).setCell (p := ⟨W5.heap.size, 1, none⟩) (by simp) _).setCell (p := ⟨W5.heap.size, 2, none⟩) (by simp) _).setCell (p := ⟨W5.heap.size, 3, none⟩) (by simp) _
            case rest =>
              obtain ⟨nb, rfl, rfl, e0, e1, e2, e3, hb7⟩ := hcut
              have hR7 := HR5.out.of_block (hb7.block _ hmb)
              have HR7 := Lib.hid hR7
              have HW7 := Lib.hid (HW5.out.below hb7)
              have HB7 := Lib.hid (HB5.out.trans (hb7.mono HB5.out.size))
              have n0 : wc.cell? ⟨mb, 0, none⟩ = some (.int .i64 l) := hR7.cell (by omega)
              have n1 : wc.cell? ⟨mb, 1, none⟩ = some (.int .i64 n) := hR7.cell (by omega)
              have n2 : wc.cell? ⟨mb, 2, none⟩ = some (.int .i64 t) := hR7.cell (by omega)
              have n3 : wc.cell? ⟨mb, 3, none⟩ = some (.bool o) := hR7.cell (by omega)
              have nf := hR7.frozen
              clear m0 m1 m2 m3 cz5 cz6 hR7 hb7 HR5 HW5 HB5
              go_wp2_with fail
              have kq : Keeps (One mb) wc ((((wc.setCell ⟨mb, 0, none⟩ (.int .i64 l)).setCell ⟨mb, 1, none⟩ (.int .i64 m)).setCell ⟨mb, 2, none⟩ (.int .i64 t)).setCell ⟨mb, 3, none⟩ (.bool true)) := ((((Keeps.refl _ _).set1 _ _).set1 _ _).set1 _ _).set1 _ _
              have hI7 : WInv w b mb l m t true ((((wc.setCell ⟨mb, 0, none⟩ (.int .i64 l)).setCell ⟨mb, 1, none⟩ (.int .i64 m)).setCell ⟨mb, 2, none⟩ (.int .i64 t)).setCell ⟨mb, 3, none⟩ (.bool true)) := by
                refine ⟨HW7.out.kept kq (fun e => hne e), ((((HR7.out.set 0 _).set 1 _).set 2 _).set 3 _).congr fun i hi => by
                  match i, hi with
                  | 0, _ => rfl
                  | 1, _ => rfl
                  | 2, _ => rfl
                  | 3, _ => rfl, by omega, by omega, hm2, HB7.out.trans (kq.below (B := w.heap.size) HB7.out.size (fun j hj e => by have e : j = mb := e; omega)), hb0, hm0, hne⟩
              have HI7 := Lib.hid hI7
              clear hI7 kq n0 n1 n2 n3 nf HR7 HW7 HB7
              generalize ((((wc.setCell ⟨mb, 0, none⟩ (.int .i64 l)).setCell ⟨mb, 1, none⟩ (.int .i64 m)).setCell ⟨mb, 2, none⟩ (.int .i64 t)).setCell ⟨mb, 3, none⟩ (.bool true)) = W7 at *
              obtain ⟨D2, hD2⟩ : ∃ D2, D2 = dueOf l t := ⟨_, rfl⟩
              have HD2 := Lib.hid hD2
              clear hD2
              have hl2 := HI7.out.ref.lt
              have hT0 : 0 ≤ t := by omega
              have hT1 : t ≤ 9223372036854775807 := by omega
              have hQ0 : ∀ p : InC (Below W7.heap.size W7), p.w.cell? ⟨mb, 0, none⟩ = some (.int .i64 l) := fun p => (p.ok.cell hl2).trans (HI7.out.ref.cell (by omega))
              have hQ1 : ∀ p : InC (Below W7.heap.size W7), p.w.cell? ⟨mb, 1, none⟩ = some (.int .i64 m) := fun p => (p.ok.cell hl2).trans (HI7.out.ref.cell (by omega))
              have hQ2 : ∀ p : InC (Below W7.heap.size W7), p.w.cell? ⟨mb, 2, none⟩ = some (.int .i64 t) := fun p => (p.ok.cell hl2).trans (HI7.out.ref.cell (by omega))
              have hQ3 : ∀ p : InC (Below W7.heap.size W7), p.w.cell? ⟨mb, 3, none⟩ = some (.bool true) := fun p => (p.ok.cell hl2).trans (HI7.out.ref.cell (by omega))
              have HE1 : Hid (∀ p : InC (Below W7.heap.size W7), Calls Try.prog 18 #[.pointer (some ⟨b, 0, none⟩)] p.w fun e w' => e = .returned (.int .i64 D2) ∧ Below W7.heap.size W7 w') := by
                refine Lib.hid fun p => (due_ok b l m t D2 true p.w (HI7.out.watch.below p.ok) hl hl' hT0 hT1 HD2.out).mono ?_
                rintro e w' ⟨rfl, q, rfl⟩
                exact ⟨rfl, p.ok.trans ⟨rfl, rfl, rfl, Nat.le_refl _, fun _ _ => rfl⟩⟩
              have HE2 : Hid (∀ p : InC (Below W7.heap.size W7), Calls Try.prog 25 #[.agg #[.int .i64 l, .int .i64 m, .int .i64 t, .bool true]] p.w fun e w' => e = .returned (.int .i64 D2) ∧ Below W7.heap.size W7 w') := by
                refine Lib.hid fun p => (refDue_any l m t D2 true p.w hl hl' hT0 hT1 HD2.out).mono ?_
                rintro e w' ⟨rfl, hb⟩
                exact ⟨rfl, p.ok.trans (hb.mono p.ok.size)⟩
              have hNE : Nonempty (InC (Below W7.heap.size W7)) := ⟨⟨W7, Below.refl _ _⟩⟩
              refine wp_quiet_in (Below W7.heap.size W7) (Below.refl _ _).drew (by kernel_rfl) (by kernel_rfl) ?_
              repeat (go_big_quiet_step (first | (with_reducible exact calls_in (HE1.out _)) | (with_reducible exact calls_in (HE2.out _))))
              refine wpQuiet_nil ?_
              intro _ hw'
              obtain ⟨p, hw''⟩ := hw'
              subst hw''
              have HI8 := Lib.hid (HI7.out.of_below p.ok)
              generalize p.w = W8 at *
              clear hQ0 hQ1 hQ2 hQ3 HE1 HE2 hNE HI7
              go_wp2_with fail
              go_roundw
              case rel => exact ⟨k + 1, m, t, true, by omega, by go_num, HI8.out⟩
              case measure => simp [intOf]; omega
    · have hkn : k = len1 := by omega
      subst hkn
      go_wp2_with fail
      refine (known_any _).mono ?_
      rintro e w2 ⟨rfl, hb2⟩
      go_wp2_with fail
      go_ret
      exact ⟨rfl, HI.out.below.trans (hb2.mono HI.out.below.size)⟩
end Go.Proofs.Ytchkipafjnehfaa
