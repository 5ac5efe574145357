/- connect: Decode of any entry. -/
import Derived.Test.YtchkipafjnehfaaDH
namespace Go.Proofs.Ytchkipafjnehfaa
set_option linter.unusedVariables false
set_option linter.unusedSimpArgs false
open Go.RowKit

set_option maxRecDepth 100000 in
set_option maxHeartbeats 4000000 in
theorem decode_b0 (B : Nat → Int) (w : World) (hB : ∀ j, 0 ≤ B j ∧ B j ≤ 255) (b0 : B 0 ≠ 127) :
    Calls Try.prog 30 #[.agg (arr 64 (bB B))] w (DecPost B 64 False false F0 w) := by
  have HBB := Lib.hid hB
  have hq : (B 0 == 127) = false := by simpa using b0
  clear hB b0
  have hmf : ∀ (fn : Fn) (first cap : Array Value) (w : World), (Instr.makeFunc fn first cap).run Try.prog w = .ok (.func fn first cap) w := fun _ _ _ _ => rfl
  go_enter_defers Try.func30, Try.ntmps30
  go_wp2_with fail
  obtain ⟨W0, hW0⟩ : ∃ W0, W0 = (((w.alloc (.cells (arr 64 (bB B)) 43)).alloc (.cells #[.int .u8 0, .int .u16 0, .int .u16 0, .int .u16 0, .int .u32 0, .bool false, .int .u32 0, .int .u64 0, .int .u32 0] 42)).alloc (.cells #[.int .i64 0] 24)).alloc (.cells #[.pointer (some ⟨w.heap.size, 0, none⟩), .int .i64 0, .bool true] 84) := ⟨_, rfl⟩
  rw [← hW0]
  have S0 := Lib.hid (dst_start B w W0 hW0)
  clear hW0
  refine (field_good S0.out.rdr 0 1 0 HBB.out (by omega) (by omega) (by omega) (fun j h1 h2 => by omega)).mono ?_
  rintro e w1 ⟨rfl, k1, h1⟩
  have S1 := Lib.hid (S0.out.step k1.two1 h1)
  clear k1 h1
  rw [le_one]
  go_wp2_with fail
  refine (must_bad _).mono ?_
  rintro e w' ⟨rfl, rfl⟩
  exact dec_bad w _ B 64 False false F0 _ _ rfl rfl S1.out.rdr.fab S1.out.err S1.out.below (fun h => h.1)

set_option maxRecDepth 100000 in
set_option maxHeartbeats 4000000 in
theorem decode_b1 (B : Nat → Int) (w : World) (hB : ∀ j, 0 ≤ B j ∧ B j ≤ 255) (b0 : B 0 = 127) (b1 : B 1 ≠ 64) :
    Calls Try.prog 30 #[.agg (arr 64 (bB B))] w (DecPost B 64 False false F0 w) := by
  have HBB := Lib.hid hB
  have HB0 := Lib.hid b0
  have hq : (B 1 == 64) = false := by simpa using b1
  clear hB b0 b1
  have hmf : ∀ (fn : Fn) (first cap : Array Value) (w : World), (Instr.makeFunc fn first cap).run Try.prog w = .ok (.func fn first cap) w := fun _ _ _ _ => rfl
  go_enter_defers Try.func30, Try.ntmps30
  go_wp2_with fail
  obtain ⟨W0, hW0⟩ : ∃ W0, W0 = (((w.alloc (.cells (arr 64 (bB B)) 43)).alloc (.cells #[.int .u8 0, .int .u16 0, .int .u16 0, .int .u16 0, .int .u32 0, .bool false, .int .u32 0, .int .u64 0, .int .u32 0] 42)).alloc (.cells #[.int .i64 0] 24)).alloc (.cells #[.pointer (some ⟨w.heap.size, 0, none⟩), .int .i64 0, .bool true] 84) := ⟨_, rfl⟩
  rw [← hW0]
  have S0 := Lib.hid (dst_start B w W0 hW0)
  clear hW0
  refine (field_good S0.out.rdr 0 1 0 HBB.out (by omega) (by omega) (by omega) (fun j h1 h2 => by omega)).mono ?_
  rintro e w1 ⟨rfl, k1, h1⟩
  have S1 := Lib.hid (S0.out.step k1.two1 h1)
  clear k1 h1
  rw [le_one, HB0.out]
  go_wp2_with fail
  refine (must_ok _).mono ?_
  rintro e w' ⟨rfl, rfl⟩
  go_wp2_with fail
  refine (field_good S1.out.rdr 1 1 0 HBB.out (by omega) (by omega) (by omega) (fun j h1 h2 => by omega)).mono ?_
  rintro e w2 ⟨rfl, k2, h2⟩
  have S2 := Lib.hid (S1.out.step k2.two1 h2)
  clear k2 h2
  rw [le_one]
  go_wp2_with fail
  refine (must_bad _).mono ?_
  rintro e w' ⟨rfl, rfl⟩
  exact dec_bad w _ B 64 False false F0 _ _ rfl rfl S2.out.rdr.fab S2.out.err S2.out.below (fun h => h.1)

set_option maxRecDepth 100000 in
set_option maxHeartbeats 4000000 in
theorem decode_miss (B : Nat → Int) (w : World) (hB : ∀ j, 0 ≤ B j ∧ B j ≤ 255) (b0 : B 0 = 127) (b1 : B 1 = 64)
    (hfind : Instr.findNow (.int .u8) (.int .u8 (B 4)) layEs.toList 0 = some none) :
    Calls Try.prog 30 #[.agg (arr 64 (bB B))] w (DecPost B 64 False false F0 w) := by
  have HF := Lib.hid hfind
  have HBB := Lib.hid hB
  have HB0 := Lib.hid b0
  have HB1 := Lib.hid b1
  clear hfind hB b0 b1
  have hmf : ∀ (fn : Fn) (first cap : Array Value) (w : World), (Instr.makeFunc fn first cap).run Try.prog w = .ok (.func fn first cap) w := fun _ _ _ _ => rfl
  go_enter_defers Try.func30, Try.ntmps30
  go_wp2_with fail
  obtain ⟨W0, hW0⟩ : ∃ W0, W0 = (((w.alloc (.cells (arr 64 (bB B)) 43)).alloc (.cells #[.int .u8 0, .int .u16 0, .int .u16 0, .int .u16 0, .int .u32 0, .bool false, .int .u32 0, .int .u64 0, .int .u32 0] 42)).alloc (.cells #[.int .i64 0] 24)).alloc (.cells #[.pointer (some ⟨w.heap.size, 0, none⟩), .int .i64 0, .bool true] 84) := ⟨_, rfl⟩
  rw [← hW0]
  have S0 := Lib.hid (dst_start B w W0 hW0)
  clear hW0
  refine (field_good S0.out.rdr 0 1 0 HBB.out (by omega) (by omega) (by omega) (fun j h1 h2 => by omega)).mono ?_
  rintro e w1 ⟨rfl, k1, h1⟩
  have S1 := Lib.hid (S0.out.step k1.two1 h1)
  clear k1 h1
  rw [le_one, HB0.out]
  go_wp2_with fail
  refine (must_ok _).mono ?_
  rintro e w' ⟨rfl, rfl⟩
  go_wp2_with fail
  refine (field_good S1.out.rdr 1 1 0 HBB.out (by omega) (by omega) (by omega) (fun j h1 h2 => by omega)).mono ?_
  rintro e w2 ⟨rfl, k2, h2⟩
  have S2 := Lib.hid (S1.out.step k2.two1 h2)
  clear k2 h2
  rw [le_one, HB1.out]
  go_wp2_with fail
  refine (must_ok _).mono ?_
  rintro e w' ⟨rfl, rfl⟩
  go_wp2_with fail
  refine (field_good S2.out.rdr 2 2 0 HBB.out (by omega) (by omega) (by omega) (fun j h1 h2 => by omega)).mono ?_
  rintro e w3 ⟨rfl, k3, h3⟩
  have S3 := Lib.hid (S2.out.step k3.two1 h3)
  clear k3 h3
  have ew2 : IntKind.u16.wrap (le B 2 2) = le B 2 2 := IntWalk.u16_in _ (le2 HBB.out 2)
  have ew4 : IntKind.u8.wrap (B 4) = B 4 := IntWalk.u8_in _ (HBB.out 4)
  go_wp2_with fail
  refine (field_good S3.out.rdr 4 1 0 HBB.out (by omega) (by omega) (by omega) (fun j h1 h2 => by omega)).mono ?_
  rintro e w4 ⟨rfl, k4, h4⟩
  rw [le_one]
  have g1 : w4.cell? ⟨w.heap.size + 1, 1, none⟩ = some (.int .u16 0) := h4.fc 1 (by omega)
  have g0 : w4.cell? ⟨w.heap.size + 1, 0, none⟩ = some (.int .u8 0) := h4.fc 0 (by omega)
  have z0 := h4.ff 0
  have z1 := h4.ff 1
  obtain ⟨W5, hW5⟩ : ∃ W5, W5 = (w4.setCell ⟨w.heap.size + 1, 1, none⟩ (.int .u16 (le B 2 2))).setCell ⟨w.heap.size + 1, 0, none⟩ (.int .u8 (B 4)) := ⟨_, rfl⟩
  have S5 := Lib.hid (show DSt w W5 B 5 ⟨B 4, le B 2 2, 0, 0, 0, false, 0, 0, 0⟩ by
    rw [hW5]
    refine S3.out.step (k4.two1.trans (((Keeps.refl (One (w.heap.size + 1)) w4).set1 1 _).set1 0 _).two2) ?_
    refine Rdr.put (Rdr.put h4 (g := ⟨0, le B 2 2, 0, 0, 0, false, 0, 0, 0⟩) 1 _ ?_) 0 _ ?_
    · intro j hj; unfold fcell F0; simp only []; match j, hj with | 0, _ => rfl | 1, _ => rfl | 2, _ => rfl | 3, _ => rfl | 4, _ => rfl | 5, _ => rfl | 6, _ => rfl | 7, _ => rfl | 8, _ => rfl
    · intro j hj; match j, hj with | 0, _ => rfl | 1, _ => rfl | 2, _ => rfl | 3, _ => rfl | 4, _ => rfl | 5, _ => rfl | 6, _ => rfl | 7, _ => rfl | 8, _ => rfl)
  have HW5 := Lib.hid hW5
  clear hW5 k4 h4
  go_upto_region 7 with (fail)
  rw [← HW5.out]
  clear g0 g1 z0 z1
  have q0 : W5.cell? ⟨w.heap.size + 1, 0, none⟩ = some (.int .u8 (B 4)) := S5.out.rdr.fc 0 (by omega)
  have q1 : W5.cell? ⟨w.heap.size + 1, 1, none⟩ = some (.int .u16 (le B 2 2)) := S5.out.rdr.fc 1 (by omega)
  have hl1 : w.heap.size + 1 < W5.heap.size := World.rowIs.lt S5.out.rdr.fab
  go_cut [6, 7] from 29 to 35 (fun lp b wc => ∃ lb, lp = .pointer (some ⟨lb, 0, none⟩) ∧ b = .bool false ∧ Below W5.heap.size W5 wc)
  case first =>
    refine wp_normal ?_
    go_region_with (go_at_call 39; refine (layouts_any _).mono ?_; rintro e w6 ⟨mb, rfl, hm, hmb, hb⟩; obtain ⟨hc, hf⟩ := bcell hb; obtain ⟨l1, l2⟩ := miss_both w6 mb hm (B 4) HF.out; have hz := hb.size; simp at hz; have hz1 : W5.heap.size ≤ w6.heap.size := (by omega); have hz2 : w.heap.size + 1 < w6.heap.size := (by omega); have hB : Below W5.heap.size W5 w6 := (by first | exact ((Below.refl _ W5).drew).trans (hb.mono (by simp)) | exact (((Below.refl _ W5).alloc (Nat.le_refl _) _).drew).trans (hb.mono (by simp))); obtain ⟨hc2, hf2⟩ := bcell hB; clear hm hmb hb)
    all_goals
      refine NormalOnly.intro ?_
      simp only [List.getElem_toArray, List.getElem_cons_succ, List.getElem_cons_zero, Act.put, List.setIfInBounds_toArray, List.set_cons_succ, List.set_cons_zero]
      go_wp2_with fail
      go_meet
      refine ⟨_, rfl, rfl, ?_⟩
      first | exact hB.alloc hB.size _ | exact (hB.setCell (p := ⟨W5.heap.size, 0, none⟩) (by simp) _).setCell (p := ⟨W5.heap.size, 1, none⟩) (by simp) _
  case rest =>
    obtain ⟨lb, rfl, rfl, hb⟩ := hcut
    have S6 := Lib.hid (S5.out.beyond hb)
    clear q0 q1 hb
    go_wp2_with fail
    refine (must_bad _).mono ?_
    rintro e w' ⟨rfl, rfl⟩
    exact dec_bad w _ B 64 False false F0 _ _ rfl rfl S6.out.rdr.fab S6.out.err S6.out.below (fun h => h.1)

/-- The entry's command; none. -/
def AnyPost (B : Nat → Int) (w : World) (e : Ending) (w' : World) : Prop :=
  (((vld (dF B) = true ∧ Same (dF B) B) ∧ e = .returned (.tuple #[(dF B).v, .int .i64 0])) ∨ (¬ (vld (dF B) = true ∧ Same (dF B) B) ∧ e = .returned (.tuple #[F0.v, .int .i64 6]))) ∧ Below w.heap.size w w'

theorem DecPost.any {B : Nat → Int} {p : Nat} {C : Prop} {c : Bool} {f : Fab} {w : World} {e : Ending} {w' : World} (h : DecPost B p C c f w e w') (hf : dF B = f) (hi : Acc B p C c ↔ vld (dF B) = true ∧ Same (dF B) B) : AnyPost B w e w' := by
  obtain ⟨h, hb⟩ := h
  refine ⟨?_, hb⟩
  rcases h with ⟨h, rfl⟩ | ⟨h, rfl⟩
  · exact .inl ⟨hi.1 h, by rw [hf]⟩
  · exact .inr ⟨fun k => h (hi.2 k), rfl⟩
theorem DecPost.none {B : Nat → Int} {w : World} {e : Ending} {w' : World} (h : DecPost B 64 False false F0 w e w') (hi : ¬ (vld (dF B) = true ∧ Same (dF B) B)) : AnyPost B w e w' := by
  obtain ⟨h, hb⟩ := h
  refine ⟨?_, hb⟩
  rcases h with ⟨h, -⟩ | ⟨-, rfl⟩
  · exact h.1.elim
  · exact .inr ⟨hi, rfl⟩

theorem decode_any (B : Nat → Int) (w : World) (hB : ∀ j, 0 ≤ B j ∧ B j ≤ 255) : Calls Try.prog 30 #[.agg (arr 64 (bB B))] w (AnyPost B w) := by
  by_cases b0 : B 0 = 127
  case neg => exact (decode_b0 B w hB b0).mono fun e w' h => h.none fun k => b0 k.2.b0
  by_cases b1 : B 1 = 64
  case neg => exact (decode_b1 B w hB b0 b1).mono fun e w' h => h.none fun k => b1 k.2.b1
  have ew := wideB_eq B
  by_cases h0 : B 4 = 0
  · refine (decode_hit B w hB 0 55 57 56 (PropC B (B 4) (le B 2 2)) _ ⟨B 4, le B 2 2, 0, 0, 0, wideB B, le B 44 4, le B 48 8, 0⟩ b0 b1 (by omega) (by rw [h0]; rfl) (fun args w => by simp [go_sem]) (fun args w => by simp [go_sem]) (fun cb ab fb w h => set_r cb ab fb B _ _ w hB h) (fun w => set_any _ w (le4 hB 44))).mono fun e w' h => h.any ?_ (acc_set hB b0 b1 h0)
    unfold dF
    rw [if_pos h0, ew]
  by_cases h1 : B 4 = 1
  · refine (decode_hit B w hB 1 59 60 52 (Zer B 5 42 ∧ Zer B 46 48) _ ⟨B 4, le B 2 2, le B 42 2, le B 44 2, le B 48 4, false, 0, 0, 0⟩ b0 b1 (by omega) (by rw [h1]; rfl) (fun args w => by simp [go_sem]) (fun args w => by simp [go_sem]) (fun cb ab fb w h => conn_r cb ab fb B _ _ w hB h) (fun w => conn_any _ w)).mono fun e w' h => h.any ?_ (acc_conn hB b0 b1 h1)
    unfold dF
    rw [if_neg h0, if_pos h1]
  by_cases h4 : B 4 = 4
  · refine (decode_hit B w hB 2 56 58 48 (PropC B (B 4) (le B 2 2)) _ ⟨B 4, le B 2 2, 0, 0, 0, wideB B, le B 44 4, 0, 0⟩ b0 b1 (by omega) (by rw [h4]; rfl) (fun args w => by simp [go_sem]) (fun args w => by simp [go_sem]) (fun cb ab fb w h => prop_r cb ab fb B _ _ w hB h) (fun w => aligned_any _ w (le4 hB 44))).mono fun e w' h => h.any ?_ (acc_prop hB b0 b1 h4)
    unfold dF
    rw [if_neg h0, if_neg h1, if_pos h4, ew]
  by_cases h5 : B 4 = 5
  · refine (decode_hit B w hB 3 53 54 48 (Zer B 5 44) _ ⟨B 4, le B 2 2, 0, 0, 0, false, 0, 0, le B 44 4⟩ b0 b1 (by omega) (by rw [h5]; rfl) (fun args w => by simp [go_sem]) (fun args w => by simp [go_sem]) (fun cb ab fb w h => auth_r cb ab fb B _ _ w hB h) (fun w => auth_any _ w)).mono fun e w' h => h.any ?_ (acc_auth hB b0 b1 (.inl h5))
    unfold dF
    rw [if_neg h0, if_neg h1, if_neg h4, if_pos h5]
  by_cases h6 : B 4 = 6
  · refine (decode_hit B w hB 4 53 54 48 (Zer B 5 44) _ ⟨B 4, le B 2 2, 0, 0, 0, false, 0, 0, le B 44 4⟩ b0 b1 (by omega) (by rw [h6]; rfl) (fun args w => by simp [go_sem]) (fun args w => by simp [go_sem]) (fun cb ab fb w h => auth_r cb ab fb B _ _ w hB h) (fun w => auth_any _ w)).mono fun e w' h => h.any ?_ (acc_auth hB b0 b1 (.inr h6))
    unfold dF
    rw [if_neg h0, if_neg h1, if_neg h4, if_neg h5, if_pos h6]
  by_cases h8 : B 4 = 8
  · refine (decode_hit B w hB 5 61 62 5 True true ⟨B 4, le B 2 2, 0, 0, 0, false, 0, 0, 0⟩ b0 b1 (by omega) (by rw [h8]; rfl) (fun args w => by simp [go_sem]) (fun args w => by simp [go_sem]) (fun cb ab fb w h => disc_r cb ab fb 5 B _ w h) (fun w => always_any _ w)).mono fun e w' h => h.any ?_ (acc_disc hB b0 b1 h8)
    unfold dF
    rw [if_neg h0, if_neg h1, if_neg h4, if_neg h5, if_neg h6]
  exact (decode_miss B w hB b0 b1 (find_miss (B 4) h0 h1 h4 h5 h6 h8)).mono fun e w' h => h.none fun k => by rw [vld_none h0 h1 h4 h5 h6 h8] at k; exact absurd k.1 (by decide)
end Go.Proofs.Ytchkipafjnehfaa
