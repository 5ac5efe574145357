/- connect: Decode of an entry. -/
import Derived.Test.YtchkipafjnehfaaDQ
import Derived.Deep.CutRange
import Derived.Deep.RegionWith
namespace Go.Proofs.Ytchkipafjnehfaa
set_option linter.unusedVariables false
set_option linter.unusedSimpArgs false
open Go.RowKit

def DecPost (B : Nat → Int) (p : Nat) (C : Prop) (c : Bool) (f : Fab) (w : World) (e : Ending) (w' : World) : Prop :=
  (((C ∧ c = true ∧ Zer B p 64) ∧ e = .returned (.tuple #[f.v, .int .i64 0])) ∨ (¬ (C ∧ c = true ∧ Zer B p 64) ∧ e = .returned (.tuple #[F0.v, .int .i64 6]))) ∧ Below w.heap.size w w'

/-- Ends normally, in K. -/
def NormalOnly (K : Act → World → Prop) : Exit → Act → World → Prop
  | .normal, a, w => K a w
  | _, _, _ => False
theorem NormalOnly.intro {K : Act → World → Prop} {a : Act} {w : World} (h : K a w) : NormalOnly K .normal a w := h
/-- A statement that ends normally alone: where a panic would read the frame (a function that defers). -/
theorem wp_normal {P : Program} {Q : Exit → Act → World → Prop} {a : Act} {w : World} {c : Code} (h : c.wp P (NormalOnly fun a w => Q .normal a w) a w) : c.wp P Q a w :=
  wp_mono h fun e _ _ q => by cases e <;> first | exact q | exact q.elim

theorem FabAt.fresh (w : World) (f : Fab) : FabAt (w.alloc (.cells #[.int .u8 f.kind, .int .u16 f.id, .int .u16 f.queue, .int .u16 f.size, .int .u32 f.keep, .bool f.wide, .int .u32 f.offset, .int .u64 f.value, .int .u32 f.length] 42)) w.heap.size f :=
  World.rowIs_alloc w _ _ _ (fun i hi => by match i, hi with | 0, _ => rfl | 1, _ => rfl | 2, _ => rfl | 3, _ => rfl | 4, _ => rfl | 5, _ => rfl | 6, _ => rfl | 7, _ => rfl | 8, _ => rfl)

/-- What lies in memory while Decode runs. -/
structure DSt (w W : World) (B : Nat → Int) (p : Nat) (f : Fab) : Prop where
  rdr : Rdr W (w.heap.size + 1 + 1 + 1) w.heap.size (w.heap.size + 1) p B f
  err : W.rowIs (w.heap.size + 1 + 1) 24 1 (fun _ => .int .i64 0)
  below : Below w.heap.size w W

theorem DSt.step {w W W' : World} {B : Nat → Int} {p q : Nat} {f g : Fab} (h : DSt w W B p f) (k : Keeps (Two (w.heap.size + 1 + 1 + 1) (w.heap.size + 1)) W W') (hr : Rdr W' (w.heap.size + 1 + 1 + 1) w.heap.size (w.heap.size + 1) q B g) : DSt w W' B q g :=
  ⟨hr, k.rowIs h.err (fun e => by rcases e with e | e <;> omega), h.below.trans (k.below (B := w.heap.size) h.below.size (fun j hj e => by rcases e with e | e <;> omega))⟩

theorem dst_start (B : Nat → Int) (w W : World) (hW : W = (((w.alloc (.cells (arr 64 (bB B)) 43)).alloc (.cells #[.int .u8 0, .int .u16 0, .int .u16 0, .int .u16 0, .int .u32 0, .bool false, .int .u32 0, .int .u64 0, .int .u32 0] 42)).alloc (.cells #[.int .i64 0] 24)).alloc (.cells #[.pointer (some ⟨w.heap.size, 0, none⟩), .int .i64 0, .bool true] 84)) :
    DSt w W B 0 F0 := by
  subst hW
  have e1 : (w.alloc (.cells (arr 64 (bB B)) 43)).heap.size = w.heap.size + 1 := by simp
  have h1 := rowIs_arr w 43 64 (bB B)
  obtain ⟨W1, hW1⟩ : ∃ W1, W1 = w.alloc (.cells (arr 64 (bB B)) 43) := ⟨_, rfl⟩
  have b1 : Below w.heap.size w W1 := by rw [hW1]; exact (Below.refl _ _).alloc (Nat.le_refl _) _
  rw [← hW1] at e1 h1 ⊢
  have h2 : FabAt (W1.alloc (.cells #[.int .u8 0, .int .u16 0, .int .u16 0, .int .u16 0, .int .u32 0, .bool false, .int .u32 0, .int .u64 0, .int .u32 0] 42)) W1.heap.size F0 := FabAt.fresh W1 F0
  rw [e1] at h2
  obtain ⟨W2, hW2⟩ : ∃ W2, W2 = W1.alloc (.cells #[.int .u8 0, .int .u16 0, .int .u16 0, .int .u16 0, .int .u32 0, .bool false, .int .u32 0, .int .u64 0, .int .u32 0] 42) := ⟨_, rfl⟩
  have e2 : W2.heap.size = w.heap.size + 1 + 1 := by rw [hW2]; simp [e1]
  have b2 : Below w.heap.size w W2 := by rw [hW2]; exact b1.alloc b1.size _
  have h12 : W2.rowIs w.heap.size 43 64 (bB B) := by rw [hW2]; exact World.rowIs.alloc h1 _
  have h2' : FabAt W2 (w.heap.size + 1) F0 := by rw [hW2]; exact h2
  rw [← hW2]
  clear hW2 h2 h1
  have h3 := World.rowIs_alloc W2 #[.int .i64 0] 24 (fun _ => .int .i64 0) (fun i hi => by match i, hi with | 0, _ => rfl)
  rw [e2] at h3
  obtain ⟨W3, hW3⟩ : ∃ W3, W3 = W2.alloc (.cells #[.int .i64 0] 24) := ⟨_, rfl⟩
  have e3 : W3.heap.size = w.heap.size + 1 + 1 + 1 := by rw [hW3]; simp [e2]
  rw [← hW3] at h3 ⊢
  have b3 : Below w.heap.size w W3 := by rw [hW3]; exact b2.alloc b2.size _
  have h13 : W3.rowIs w.heap.size 43 64 (bB B) := by rw [hW3]; exact World.rowIs.alloc h12 _
  have h23 : FabAt W3 (w.heap.size + 1) F0 := by rw [hW3]; exact World.rowIs.alloc h2' _
  clear hW3
  have h4 := World.rowIs_alloc W3 #[.pointer (some ⟨w.heap.size, 0, none⟩), .int .i64 0, .bool true] 84 (ccell w.heap.size 0) (fun i hi => by match i, hi with | 0, _ => rfl | 1, _ => rfl | 2, _ => rfl)
  rw [e3] at h4
  exact ⟨⟨h4, World.rowIs.alloc h13 _, World.rowIs.alloc h23 _, by omega, by omega, by omega⟩, World.rowIs.alloc h3 _, b3.alloc b3.size _⟩

theorem DSt.beyond {w W W' : World} {B : Nat → Int} {p : Nat} {f : Fab} (h : DSt w W B p f) (hb : Below W.heap.size W W') : DSt w W' B p f :=
  have k : Keeps (Two (w.heap.size + 1 + 1 + 1) (w.heap.size + 1)) W W' := Keeps.anyBelow hb
  ⟨h.rdr.below hb, k.rowIs h.err (fun e => by rcases e with e | e <;> omega), h.below.trans (hb.mono h.below.size)⟩

theorem dec_bad (w W : World) (B : Nat → Int) (p : Nat) (C : Prop) (c : Bool) (f : Fab) (tmps : Array Value) (g : Fab) (h2 : tmps.getD 2 undef = .pointer (some ⟨w.heap.size + 1, 0, none⟩)) (h3 : tmps.getD 3 undef = .pointer (some ⟨w.heap.size + 1 + 1, 0, none⟩))
    (hf : FabAt W (w.heap.size + 1) g) (he : W.rowIs (w.heap.size + 1 + 1) 24 1 (fun _ => .int .i64 0)) (hb : Below w.heap.size w W) (hC : ¬ (C ∧ c = true ∧ Zer B p 64)) :
    bodyPostD Try.prog Try.f30 (DecPost B p C c f w) (Exit.panic [fmtP]) { tmps := tmps, defers := [dfr (w.heap.size + 1) (w.heap.size + 1 + 1)] } W :=
  door_bad tmps W _ _ g 0 _ h2 h3 hf (he.cell (i := 0) (by omega)) (he.frozen 0) (by omega) fun w' k =>
    ⟨.inr ⟨hC, rfl⟩, hb.trans (k.below (B := w.heap.size) hb.size (fun j hj e => by rcases e with e | e <;> omega))⟩

/-- A command stored over itself, and then the error. -/
theorem restored (fb eb : Nat) (f : Fab) (w : World) (hf : FabAt w fb f) (he : w.cell? ⟨eb, 0, none⟩ = some (.int .i64 0)) (hne : eb ≠ fb) :
    ∃ W', (((((((((w.setCell ⟨fb, 0, none⟩ (.int .u8 f.kind)).setCell ⟨fb, 1, none⟩ (.int .u16 f.id)).setCell ⟨fb, 2, none⟩ (.int .u16 f.queue)).setCell ⟨fb, 3, none⟩ (.int .u16 f.size)).setCell ⟨fb, 4, none⟩ (.int .u32 f.keep)).setCell ⟨fb, 5, none⟩ (.bool f.wide)).setCell ⟨fb, 6, none⟩ (.int .u32 f.offset)).setCell ⟨fb, 7, none⟩ (.int .u64 f.value)).setCell ⟨fb, 8, none⟩ (.int .u32 f.length)).setCell ⟨eb, 0, none⟩ (.int .i64 0) = W' ∧ Keeps (Two fb eb) w W' ∧ FabAt W' fb f ∧ W'.cell? ⟨eb, 0, none⟩ = some (.int .i64 0) := by
  have hK : Keeps (One fb) w (((((((((w.setCell ⟨fb, 0, none⟩ (.int .u8 f.kind)).setCell ⟨fb, 1, none⟩ (.int .u16 f.id)).setCell ⟨fb, 2, none⟩ (.int .u16 f.queue)).setCell ⟨fb, 3, none⟩ (.int .u16 f.size)).setCell ⟨fb, 4, none⟩ (.int .u32 f.keep)).setCell ⟨fb, 5, none⟩ (.bool f.wide)).setCell ⟨fb, 6, none⟩ (.int .u32 f.offset)).setCell ⟨fb, 7, none⟩ (.int .u64 f.value)).setCell ⟨fb, 8, none⟩ (.int .u32 f.length)) := ((((((((((Keeps.refl _ w).set1 _ _).set1 _ _).set1 _ _).set1 _ _).set1 _ _).set1 _ _).set1 _ _).set1 _ _).set1 _ _)
  have hF := ((((((((hf.same 0 _ rfl).same 1 _ rfl).same 2 _ rfl).same 3 _ rfl).same 4 _ rfl).same 5 _ rfl).same 6 _ rfl).same 7 _ rfl).same 8 _ rfl
  obtain ⟨W, hW⟩ : ∃ W, W = (((((((((w.setCell ⟨fb, 0, none⟩ (.int .u8 f.kind)).setCell ⟨fb, 1, none⟩ (.int .u16 f.id)).setCell ⟨fb, 2, none⟩ (.int .u16 f.queue)).setCell ⟨fb, 3, none⟩ (.int .u16 f.size)).setCell ⟨fb, 4, none⟩ (.int .u32 f.keep)).setCell ⟨fb, 5, none⟩ (.bool f.wide)).setCell ⟨fb, 6, none⟩ (.int .u32 f.offset)).setCell ⟨fb, 7, none⟩ (.int .u64 f.value)).setCell ⟨fb, 8, none⟩ (.int .u32 f.length)) := ⟨_, rfl⟩
  rw [show fcell f 0 = .int .u8 f.kind from rfl] at hF
  have hF : FabAt W fb f := by rw [hW]; exact hF
  rw [← hW] at hK ⊢
  have hk2 : Keeps (One eb) W (W.setCell ⟨eb, 0, none⟩ (.int .i64 0)) := (Keeps.refl _ _).set1 _ _
  refine ⟨_, rfl, hK.two1.trans hk2.two2, hk2.rowIs hF (fun e => hne (Eq.symm e)), ?_⟩
  have hc : W.cell? ⟨eb, 0, none⟩ = some (.int .i64 0) := hK.cell he (fun e => hne e)
  exact World.cell?_setCell_same _ _ _ hc

set_option maxRecDepth 100000 in
set_option maxHeartbeats 4000000 in
theorem decode_hit (B : Nat → Int) (w : World) (hB : ∀ j, 0 ≤ B j ∧ B j ≤ 255) (i fa fv p : Nat) (C : Prop) (c : Bool) (f : Fab) (b0 : B 0 = 127) (b1 : B 1 = 64) (hp : p ≤ 64)
    (hfind : Instr.findNow (.int .u8) (.int .u8 (B 4)) layEs.toList 0 = some (some (i, lay fa fv)))
    (efa : ∀ args w, (callFunc fa args).run Try.prog w = .ok (.enter fa args) w) (efv : ∀ args w, (callFunc fv args).run Try.prog w = .ok (.enter fv args) w)
    (hr : ∀ (cb ab fb : Nat) (w : World), Rdr w cb ab fb 5 B ⟨B 4, le B 2 2, 0, 0, 0, false, 0, 0, 0⟩ → Calls Try.prog fa #[.pointer (some ⟨cb, 0, none⟩), .pointer (some ⟨fb, 0, none⟩)] w (ReadPost cb ab fb p B C f w))
    (hv : ∀ w, Calls Try.prog fv #[f.v] w fun e w' => e = .returned (.bool c) ∧ Below w.heap.size w w') :
    Calls Try.prog 30 #[.agg (arr 64 (bB B))] w (DecPost B p C c f w) := by
  have HF := Lib.hid hfind
  have HR := Lib.hid hr
  have HV := Lib.hid hv
  have HBB := Lib.hid hB
  have HB0 := Lib.hid b0
  have HB1 := Lib.hid b1
  clear hfind hr hv hB b0 b1
  have hmf : ∀ (fn : Fn) (first cap : Array Value) (w : World), (Instr.makeFunc fn first cap).run Try.prog w = .ok (.func fn first cap) w := fun _ _ _ _ => rfl
  go_enter_defers Try.func30, Try.ntmps30
  go_wp2_with fail
  obtain ⟨W0, hW0⟩ : ∃ W0, W0 = (((w.alloc (.cells (arr 64 (bB B)) 43)).alloc (.cells #[.int .u8 0, .int .u16 0, .int .u16 0, .int .u16 0, .int .u32 0, .bool false, .int .u32 0, .int .u64 0, .int .u32 0] 42)).alloc (.cells #[.int .i64 0] 24)).alloc (.cells #[.pointer (some ⟨w.heap.size, 0, none⟩), .int .i64 0, .bool true] 84) := ⟨_, rfl⟩
  rw [← hW0]
  have S0 := Lib.hid (dst_start B w W0 hW0)
  clear hW0
  refine (field_good S0.out.rdr 0 1 0 HBB.out (by omega) (by omega) (by omega) (fun j h1 h2 => by omega)).mono ?_
  rintro e w1 ⟨rfl, k1, h1⟩
  have S1 := Lib.hid (S0.out.step k1.two1 h1)
  clear k1 h1
  rw [le_one, HB0.out]
  go_wp2_with fail
  refine (must_ok _).mono ?_
  rintro e w' ⟨rfl, rfl⟩
  go_wp2_with fail
  refine (field_good S1.out.rdr 1 1 0 HBB.out (by omega) (by omega) (by omega) (fun j h1 h2 => by omega)).mono ?_
  rintro e w2 ⟨rfl, k2, h2⟩
  have S2 := Lib.hid (S1.out.step k2.two1 h2)
  clear k2 h2
  rw [le_one, HB1.out]
  go_wp2_with fail
  refine (must_ok _).mono ?_
  rintro e w' ⟨rfl, rfl⟩
  go_wp2_with fail
  refine (field_good S2.out.rdr 2 2 0 HBB.out (by omega) (by omega) (by omega) (fun j h1 h2 => by omega)).mono ?_
  rintro e w3 ⟨rfl, k3, h3⟩
  have S3 := Lib.hid (S2.out.step k3.two1 h3)
  clear k3 h3
  have ew2 : IntKind.u16.wrap (le B 2 2) = le B 2 2 := IntWalk.u16_in _ (le2 HBB.out 2)
  have ew4 : IntKind.u8.wrap (B 4) = B 4 := IntWalk.u8_in _ (HBB.out 4)
  go_wp2_with fail
  refine (field_good S3.out.rdr 4 1 0 HBB.out (by omega) (by omega) (by omega) (fun j h1 h2 => by omega)).mono ?_
  rintro e w4 ⟨rfl, k4, h4⟩
  rw [le_one]
  have g1 : w4.cell? ⟨w.heap.size + 1, 1, none⟩ = some (.int .u16 0) := h4.fc 1 (by omega)
  have g0 : w4.cell? ⟨w.heap.size + 1, 0, none⟩ = some (.int .u8 0) := h4.fc 0 (by omega)
  have z0 := h4.ff 0
  have z1 := h4.ff 1
  obtain ⟨W5, hW5⟩ : ∃ W5, W5 = (w4.setCell ⟨w.heap.size + 1, 1, none⟩ (.int .u16 (le B 2 2))).setCell ⟨w.heap.size + 1, 0, none⟩ (.int .u8 (B 4)) := ⟨_, rfl⟩
  have S5 := Lib.hid (show DSt w W5 B 5 ⟨B 4, le B 2 2, 0, 0, 0, false, 0, 0, 0⟩ by
    rw [hW5]
    refine S3.out.step (k4.two1.trans (((Keeps.refl (One (w.heap.size + 1)) w4).set1 1 _).set1 0 _).two2) ?_
    refine Rdr.put (Rdr.put h4 (g := ⟨0, le B 2 2, 0, 0, 0, false, 0, 0, 0⟩) 1 _ ?_) 0 _ ?_
    · intro j hj; unfold fcell F0; simp only []; match j, hj with | 0, _ => rfl | 1, _ => rfl | 2, _ => rfl | 3, _ => rfl | 4, _ => rfl | 5, _ => rfl | 6, _ => rfl | 7, _ => rfl | 8, _ => rfl
    · intro j hj; match j, hj with | 0, _ => rfl | 1, _ => rfl | 2, _ => rfl | 3, _ => rfl | 4, _ => rfl | 5, _ => rfl | 6, _ => rfl | 7, _ => rfl | 8, _ => rfl)
  have HW5 := Lib.hid hW5
  clear hW5 k4 h4
  go_upto_region 7 with (fail)
  rw [← HW5.out]
  clear g0 g1 z0 z1
  have q0 : W5.cell? ⟨w.heap.size + 1, 0, none⟩ = some (.int .u8 (B 4)) := S5.out.rdr.fc 0 (by omega)
  have q1 : W5.cell? ⟨w.heap.size + 1, 1, none⟩ = some (.int .u16 (le B 2 2)) := S5.out.rdr.fc 1 (by omega)
  have hl1 : w.heap.size + 1 < W5.heap.size := World.rowIs.lt S5.out.rdr.fab
  go_cut [6, 7] from 29 to 35 (fun lp b wc => ∃ lb, lp = .pointer (some ⟨lb, 0, none⟩) ∧ b = .bool true ∧ W5.heap.size ≤ lb ∧ wc.cell? ⟨lb, 0, none⟩ = some (.func (.func fa) #[] #[]) ∧ wc.cell? ⟨lb, 1, none⟩ = some (.func (.func fv) #[] #[]) ∧ Below W5.heap.size W5 wc)
  case first =>
    refine wp_normal ?_
    go_region_with (go_at_call 39; refine (layouts_any _).mono ?_; rintro e w6 ⟨mb, rfl, hm, hmb, hb⟩; obtain ⟨hc, hf⟩ := bcell hb; obtain ⟨l1, l2⟩ := lay_both w6 mb hm (B 4) i _ true HF.out; unfold lay at l1 l2; have hz := hb.size; simp at hz; have hz1 : W5.heap.size ≤ w6.heap.size := (by omega); have hz2 : w.heap.size + 1 < w6.heap.size := (by omega); have hB : Below W5.heap.size W5 w6 := (by first | exact ((Below.refl _ W5).drew).trans (hb.mono (by simp)) | exact (((Below.refl _ W5).alloc (Nat.le_refl _) _).drew).trans (hb.mono (by simp))); obtain ⟨hc2, hf2⟩ := bcell hB; clear hm hmb hb)
    all_goals
      refine NormalOnly.intro ?_
      simp only [List.getElem_toArray, List.getElem_cons_succ, List.getElem_cons_zero, Act.put, List.setIfInBounds_toArray, List.set_cons_succ, List.set_cons_zero]
      go_wp2_with fail
      go_meet
      refine ⟨_, rfl, rfl, ?_, ?_, ?_, ?_⟩
      · omega
      · go_simp
      · go_simp
      · first | exact hB.alloc hB.size _ | exact (hB.setCell (p := ⟨W5.heap.size, 0, none⟩) (by simp) _).setCell (p := ⟨W5.heap.size, 1, none⟩) (by simp) _
  case rest =>
    obtain ⟨lb, rfl, rfl, hlb, l0, l1, hb⟩ := hcut
    have S6 := Lib.hid (S5.out.beyond hb)
    have hs5 : w.heap.size + 1 + 1 + 1 < W5.heap.size := World.rowIs.lt S5.out.rdr.cur
    have HHB := Lib.hid hb
    clear q0 q1 hb
    go_wp2_with fail
    refine (must_ok _).mono ?_
    rintro e w' ⟨rfl, rfl⟩
    go_wp2_with fail
    refine (HR.out _ _ _ _ S6.out.rdr).mono ?_
    rintro e w7 ⟨k7, h⟩
    rcases h with ⟨rfl, hC, h7⟩ | ⟨rfl, hC, g, hg⟩
    case inr =>
      exact dec_bad w w7 B p C c f _ g rfl rfl hg (k7.rowIs S6.out.err (fun e => by rcases e with e | e <;> omega)) (S6.out.below.trans (k7.below (B := w.heap.size) S6.out.below.size (fun j hj e => by rcases e with e | e <;> omega))) (fun h => hC h.1)
    have S7 := Lib.hid (S6.out.step k7 h7)
    have m1 : w7.cell? ⟨lb, 1, none⟩ = some (.func (.func fv) #[] #[]) := k7.cell l1 (fun e => by rcases e with e | e <;> (have e : lb = _ := e; omega))
    have HCC := Lib.hid hC
    clear hC h7 k7 l0 l1
    have p0 : w7.cell? ⟨w.heap.size + 1, 0, none⟩ = some (.int .u8 f.kind) := S7.out.rdr.fc 0 (by omega)
    have p1 : w7.cell? ⟨w.heap.size + 1, 1, none⟩ = some (.int .u16 f.id) := S7.out.rdr.fc 1 (by omega)
    have p2 : w7.cell? ⟨w.heap.size + 1, 2, none⟩ = some (.int .u16 f.queue) := S7.out.rdr.fc 2 (by omega)
    have p3 : w7.cell? ⟨w.heap.size + 1, 3, none⟩ = some (.int .u16 f.size) := S7.out.rdr.fc 3 (by omega)
    have p4 : w7.cell? ⟨w.heap.size + 1, 4, none⟩ = some (.int .u32 f.keep) := S7.out.rdr.fc 4 (by omega)
    have p5 : w7.cell? ⟨w.heap.size + 1, 5, none⟩ = some (.bool f.wide) := S7.out.rdr.fc 5 (by omega)
    have p6 : w7.cell? ⟨w.heap.size + 1, 6, none⟩ = some (.int .u32 f.offset) := S7.out.rdr.fc 6 (by omega)
    have p7 : w7.cell? ⟨w.heap.size + 1, 7, none⟩ = some (.int .u64 f.value) := S7.out.rdr.fc 7 (by omega)
    have p8 : w7.cell? ⟨w.heap.size + 1, 8, none⟩ = some (.int .u32 f.length) := S7.out.rdr.fc 8 (by omega)
    go_wp2_with fail
    refine (HV.out w7).mono ?_
    rintro e w8 ⟨rfl, hb8⟩
    have S8 := Lib.hid (S7.out.beyond hb8)
    clear p0 p1 p2 p3 p4 p5 p6 p7 p8 hb8 m1
    cases c
    · go_wp2_with fail
      refine (must_bad _).mono ?_
      rintro e w' ⟨rfl, rfl⟩
      exact dec_bad w w8 B p C false f _ f rfl rfl S8.out.rdr.fab S8.out.err S8.out.below (fun h => by have := h.2.1; cases this)
    go_wp2_with fail
    refine (must_ok _).mono ?_
    rintro e w' ⟨rfl, rfl⟩
    go_wp2_with fail
    refine (zeros_any _ _ p 64 B w8 S8.out.rdr.cur S8.out.rdr.row hp (by omega) S8.out.rdr.n1).mono ?_
    rintro e w9 ⟨k9, h⟩
    have F9 := Lib.hid (show FabAt w9 (w.heap.size + 1) f from k9.rowIs S8.out.rdr.fab (fun e => by have e : w.heap.size + 1 = w.heap.size + 1 + 1 + 1 := e; omega))
    have E9 := Lib.hid (k9.rowIs S8.out.err (fun e => by have e : w.heap.size + 1 + 1 = w.heap.size + 1 + 1 + 1 := e; omega))
    have B9 := Lib.hid (S8.out.below.trans (k9.below (B := w.heap.size) S8.out.below.size (fun j hj e => by have e : j = w.heap.size + 1 + 1 + 1 := e; omega)))
    rcases h with ⟨rfl, hz, hcu⟩ | ⟨rfl, hz⟩
    case inr => exact dec_bad w w9 B p C true f _ f rfl rfl F9.out E9.out B9.out (fun h => hz h.2.2)
    have HZ := Lib.hid hz
    clear hz hcu k9
    have p0 : w9.cell? ⟨w.heap.size + 1, 0, none⟩ = some (.int .u8 f.kind) := World.rowIs.cell F9.out (by omega)
    have p1 : w9.cell? ⟨w.heap.size + 1, 1, none⟩ = some (.int .u16 f.id) := World.rowIs.cell F9.out (by omega)
    have p2 : w9.cell? ⟨w.heap.size + 1, 2, none⟩ = some (.int .u16 f.queue) := World.rowIs.cell F9.out (by omega)
    have p3 : w9.cell? ⟨w.heap.size + 1, 3, none⟩ = some (.int .u16 f.size) := World.rowIs.cell F9.out (by omega)
    have p4 : w9.cell? ⟨w.heap.size + 1, 4, none⟩ = some (.int .u32 f.keep) := World.rowIs.cell F9.out (by omega)
    have p5 : w9.cell? ⟨w.heap.size + 1, 5, none⟩ = some (.bool f.wide) := World.rowIs.cell F9.out (by omega)
    have p6 : w9.cell? ⟨w.heap.size + 1, 6, none⟩ = some (.int .u32 f.offset) := World.rowIs.cell F9.out (by omega)
    have p7 : w9.cell? ⟨w.heap.size + 1, 7, none⟩ = some (.int .u64 f.value) := World.rowIs.cell F9.out (by omega)
    have p8 : w9.cell? ⟨w.heap.size + 1, 8, none⟩ = some (.int .u32 f.length) := World.rowIs.cell F9.out (by omega)
    have z0 := World.rowIs.frozen F9.out 0
    have z1 := World.rowIs.frozen F9.out 1
    have z2 := World.rowIs.frozen F9.out 2
    have z3 := World.rowIs.frozen F9.out 3
    have z4 := World.rowIs.frozen F9.out 4
    have z5 := World.rowIs.frozen F9.out 5
    have z6 := World.rowIs.frozen F9.out 6
    have z7 := World.rowIs.frozen F9.out 7
    have z8 := World.rowIs.frozen F9.out 8
    have y0 : w9.cell? ⟨w.heap.size + 1 + 1, 0, none⟩ = some (.int .i64 0) := E9.out.cell (i := 0) (by omega)
    have y1 := E9.out.frozen 0
    go_wp2_with fail
    obtain ⟨W10, hW10, k10, f10, e10⟩ := restored (w.heap.size + 1) (w.heap.size + 1 + 1) f w9 F9.out y0 (by omega)
    rw [hW10]
    exact door_good _ W10 (w.heap.size + 1) (w.heap.size + 1 + 1) f 0 _ rfl rfl f10 e10 ⟨.inl ⟨⟨HCC.out, rfl, HZ.out⟩, rfl⟩, B9.out.trans (k10.below (B := w.heap.size) B9.out.size (fun j hj e => by rcases e with e | e <;> omega))⟩
end Go.Proofs.Ytchkipafjnehfaa
