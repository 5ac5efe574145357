/- connect: the reference's Decode. -/
import Derived.Test.YtchkipafjnehfaaDI
import Derived.Deep.RegionHeld3
import Derived.Test.YtchkipafjnehfaaR2
namespace Go.Proofs.Ytchkipafjnehfaa
set_option linter.unusedVariables false
set_option linter.unusedSimpArgs false
open Go.RowKit

theorem held_of {w : World} {h : Nat} {B : Nat → Int} (i : Nat) (hi : i < 64) (r : w.rowIs h 43 64 (bB B)) : w.rangeAt h 0 (arr 64 (bB B)).toList ∧ w.cell? ⟨h, i, none⟩ = some (.int .u8 (B i)) := ⟨rowIs_range0 r, r.cell hi⟩
theorem row_far {w : World} {h : Nat} {B : Nat → Int} (r : w.rowIs h 43 64 (bB B)) {lb : Nat} (k : Nat) (u : Value) (hne : lb ≠ h) : (w.setCell ⟨lb, k, none⟩ u).rowIs h 43 64 (bB B) :=
  ((Keeps.refl (One lb) w).set1 k u).rowIs r (fun e => hne (Eq.symm e))

theorem row_below {w w' : World} {h : Nat} {B : Nat → Int} (r : w.rowIs h 43 64 (bB B)) (hb : Below w.heap.size w w') : w'.rowIs h 43 64 (bB B) := r.of_block (hb.block _ r.lt)
theorem nine_k (W : World) (lb : Nat) (u0 u1 u2 u3 u4 u5 u6 u7 u8 : Value) : Keeps (One lb) W (((((((((W.setCell ⟨lb, 0, none⟩ u0).setCell ⟨lb, 1, none⟩ u1).setCell ⟨lb, 2, none⟩ u2).setCell ⟨lb, 3, none⟩ u3).setCell ⟨lb, 4, none⟩ u4).setCell ⟨lb, 5, none⟩ u5).setCell ⟨lb, 6, none⟩ u6).setCell ⟨lb, 7, none⟩ u7).setCell ⟨lb, 8, none⟩ u8) :=
  ((((((((((Keeps.refl _ W).set1 _ _).set1 _ _).set1 _ _).set1 _ _).set1 _ _).set1 _ _).set1 _ _).set1 _ _).set1 _ _)

theorem row_drew {w : World} {h : Nat} {B : Nat → Int} (r : w.rowIs h 43 64 (bB B)) : w.drew.rowIs h 43 64 (bB B) := World.rowIs.of_block r rfl
theorem row_nine {W : World} {lb h : Nat} {B : Nat → Int} {u0 u1 u2 u3 u4 u5 u6 u7 u8 : Value} (r : W.rowIs h 43 64 (bB B)) (hne : lb ≠ h) : (((((((((W.setCell ⟨lb, 0, none⟩ u0).setCell ⟨lb, 1, none⟩ u1).setCell ⟨lb, 2, none⟩ u2).setCell ⟨lb, 3, none⟩ u3).setCell ⟨lb, 4, none⟩ u4).setCell ⟨lb, 5, none⟩ u5).setCell ⟨lb, 6, none⟩ u6).setCell ⟨lb, 7, none⟩ u7).setCell ⟨lb, 8, none⟩ u8).rowIs h 43 64 (bB B) :=
  (nine_k W lb u0 u1 u2 u3 u4 u5 u6 u7 u8).rowIs r (fun e => hne (Eq.symm e))

/-- What lies in memory while the reference's Decode runs. -/
structure RSt (w W : World) (B : Nat → Int) (lb : Nat) (f : Fab) : Prop where
  row : W.rowIs w.heap.size 43 64 (bB B)
  res : FabAt W (w.heap.size + 1) F0
  fab : FabAt W lb f
  hlb : w.heap.size + 1 < lb
  below : Below w.heap.size w W

theorem refstart (B : Nat → Int) (w W : World) (hW : W = (w.alloc (.cells (arr 64 (bB B)) 43)).alloc (.cells #[.int .u8 0, .int .u16 0, .int .u16 0, .int .u16 0, .int .u32 0, .bool false, .int .u32 0, .int .u64 0, .int .u32 0] 42)) :
    W.rowIs w.heap.size 43 64 (bB B) ∧ FabAt W (w.heap.size + 1) F0 ∧ Below w.heap.size w W ∧ W.heap.size = w.heap.size + 1 + 1 := by
  subst hW
  have e1 : (w.alloc (.cells (arr 64 (bB B)) 43)).heap.size = w.heap.size + 1 := by simp
  refine ⟨World.rowIs.alloc (rowIs_arr w 43 64 (bB B)) _, ?_, ((Below.refl _ _).alloc (Nat.le_refl _) _).alloc (by simp) _, by simp⟩
  have := FabAt.fresh (w.alloc (.cells (arr 64 (bB B)) 43)) F0
  rw [e1] at this
  exact this

/-- Nine stores over a command of zeros. -/
theorem nine {W : World} {lb : Nat} {g : Fab} (f : Fab) (h : FabAt W lb g) : FabAt (((((((((W.setCell ⟨lb, 0, none⟩ (.int .u8 f.kind)).setCell ⟨lb, 1, none⟩ (.int .u16 f.id)).setCell ⟨lb, 2, none⟩ (.int .u16 f.queue)).setCell ⟨lb, 3, none⟩ (.int .u16 f.size)).setCell ⟨lb, 4, none⟩ (.int .u32 f.keep)).setCell ⟨lb, 5, none⟩ (.bool f.wide)).setCell ⟨lb, 6, none⟩ (.int .u32 f.offset)).setCell ⟨lb, 7, none⟩ (.int .u64 f.value)).setCell ⟨lb, 8, none⟩ (.int .u32 f.length)) lb f ∧
    Keeps (One lb) W (((((((((W.setCell ⟨lb, 0, none⟩ (.int .u8 f.kind)).setCell ⟨lb, 1, none⟩ (.int .u16 f.id)).setCell ⟨lb, 2, none⟩ (.int .u16 f.queue)).setCell ⟨lb, 3, none⟩ (.int .u16 f.size)).setCell ⟨lb, 4, none⟩ (.int .u32 f.keep)).setCell ⟨lb, 5, none⟩ (.bool f.wide)).setCell ⟨lb, 6, none⟩ (.int .u32 f.offset)).setCell ⟨lb, 7, none⟩ (.int .u64 f.value)).setCell ⟨lb, 8, none⟩ (.int .u32 f.length)) := by
  refine ⟨?_, ((((((((((Keeps.refl _ W).set1 _ _).set1 _ _).set1 _ _).set1 _ _).set1 _ _).set1 _ _).set1 _ _).set1 _ _).set1 _ _)⟩
  refine ((((((((((World.rowIs.set h 0 _).set 1 _).set 2 _).set 3 _).set 4 _).set 5 _).set 6 _).set 7 _).set 8 _).congr fun j hj => ?_)
  match j, hj with
  | 0, _ => rfl
  | 1, _ => rfl
  | 2, _ => rfl
  | 3, _ => rfl
  | 4, _ => rfl
  | 5, _ => rfl
  | 6, _ => rfl
  | 7, _ => rfl
  | 8, _ => rfl

theorem rst1 {w W0 w3 : World} {B : Nat → Int} (s0 : W0.heap.size = w.heap.size + 1 + 1) (r0 : W0.rowIs w.heap.size 43 64 (bB B)) (f0 : FabAt W0 (w.heap.size + 1) F0) (b0 : Below w.heap.size w W0) (hb : Below W0.drew.heap.size W0.drew w3) (f : Fab) :
    RSt w (w3.alloc (.cells #[.int .u8 f.kind, .int .u16 f.id, .int .u16 f.queue, .int .u16 f.size, .int .u32 f.keep, .bool f.wide, .int .u32 f.offset, .int .u64 f.value, .int .u32 f.length] 42)) B w3.heap.size f := by
  have hz : W0.heap.size ≤ w3.heap.size := hb.size
  exact ⟨World.rowIs.alloc (r0.of_block (hb.block _ r0.lt)) _, World.rowIs.alloc (World.rowIs.of_block f0 (hb.block _ (World.rowIs.lt f0))) _, FabAt.fresh w3 f, by omega,
    (b0.trans ((Below.drew (Below.refl _ W0)).trans hb |>.mono b0.size)).alloc (Nat.le_trans b0.size hz) _⟩
theorem rst2 {w W0 w3 : World} {B : Nat → Int} (s0 : W0.heap.size = w.heap.size + 1 + 1) (r0 : W0.rowIs w.heap.size 43 64 (bB B)) (f0 : FabAt W0 (w.heap.size + 1) F0) (b0 : Below w.heap.size w W0)
    (hb : Below (W0.alloc (.cells #[.int .u8 0, .int .u16 0, .int .u16 0, .int .u16 0, .int .u32 0, .bool false, .int .u32 0, .int .u64 0, .int .u32 0] 42)).drew.heap.size (W0.alloc (.cells #[.int .u8 0, .int .u16 0, .int .u16 0, .int .u16 0, .int .u32 0, .bool false, .int .u32 0, .int .u64 0, .int .u32 0] 42)).drew w3) (f : Fab) (lb : Nat) (hlb : lb = w.heap.size + 1 + 1) :
    RSt w (((((((((w3.setCell ⟨lb, 0, none⟩ (.int .u8 f.kind)).setCell ⟨lb, 1, none⟩ (.int .u16 f.id)).setCell ⟨lb, 2, none⟩ (.int .u16 f.queue)).setCell ⟨lb, 3, none⟩ (.int .u16 f.size)).setCell ⟨lb, 4, none⟩ (.int .u32 f.keep)).setCell ⟨lb, 5, none⟩ (.bool f.wide)).setCell ⟨lb, 6, none⟩ (.int .u32 f.offset)).setCell ⟨lb, 7, none⟩ (.int .u64 f.value)).setCell ⟨lb, 8, none⟩ (.int .u32 f.length)) B lb f := by
  have f1 := FabAt.fresh W0 F0
  obtain ⟨W1, hW1⟩ : ∃ W1, W1 = W0.alloc (.cells #[.int .u8 0, .int .u16 0, .int .u16 0, .int .u16 0, .int .u32 0, .bool false, .int .u32 0, .int .u64 0, .int .u32 0] 42) := ⟨_, rfl⟩
  have f1 : FabAt W1 W0.heap.size F0 := by rw [hW1]; exact f1
  have r1 : W1.rowIs w.heap.size 43 64 (bB B) := by rw [hW1]; exact World.rowIs.alloc r0 _
  have f2 : FabAt W1 (w.heap.size + 1) F0 := by rw [hW1]; exact World.rowIs.alloc f0 _
  have b1 : Below w.heap.size w W1 := by rw [hW1]; exact b0.alloc b0.size _
  rw [← hW1] at hb
  rw [s0, ← hlb] at f1
  have g1 : FabAt w3 lb F0 := World.rowIs.of_block f1 (hb.block _ (World.rowIs.lt f1))
  have k := (nine f g1).2
  exact ⟨k.rowIs (r1.of_block (hb.block _ r1.lt)) (fun e => by have e : w.heap.size = lb := e; omega), k.rowIs (World.rowIs.of_block f2 (hb.block _ (World.rowIs.lt f2))) (fun e => by have e : w.heap.size + 1 = lb := e; omega), (nine f g1).1, by omega,
    (b1.trans ((Below.drew (Below.refl _ W1)).trans hb |>.mono b1.size)).trans (k.below (B := w.heap.size) (Nat.le_trans b1.size hb.size) (fun j hj e => by have e : j = lb := e; omega))⟩

theorem RSt.put {w W : World} {B : Nat → Int} {lb : Nat} {f g : Fab} (h : RSt w W B lb f) (i : Nat) (u : Value) (hu : ∀ j, j < 9 → (if j = i then u else fcell f j) = fcell g j) : RSt w (W.setCell ⟨lb, i, none⟩ u) B lb g :=
  have k : Keeps (One lb) W (W.setCell ⟨lb, i, none⟩ u) := (Keeps.refl _ _).set1 _ _
  have n := h.hlb
  ⟨k.rowIs h.row (fun e => by have e : w.heap.size = lb := e; omega), k.rowIs h.res (fun e => by have e : w.heap.size + 1 = lb := e; omega), h.fab.put i u hu, n, h.below.trans (k.below (B := w.heap.size) h.below.size (fun j hj e => by have e : j = lb := e; omega))⟩
theorem RSt.beyond {w W W' : World} {B : Nat → Int} {lb : Nat} {f : Fab} (h : RSt w W B lb f) (hb : Below W.heap.size W W') : RSt w W' B lb f :=
  ⟨h.row.of_block (hb.block _ h.row.lt), World.rowIs.of_block h.res (hb.block _ (World.rowIs.lt h.res)), World.rowIs.of_block h.fab (hb.block _ (World.rowIs.lt h.fab)), h.hlb, h.below.trans (hb.mono h.below.size)⟩
theorem RSt.drew {w W : World} {B : Nat → Int} {lb : Nat} {f : Fab} (h : RSt w W B lb f) : RSt w W.drew B lb f :=
  ⟨h.row.of_block rfl, World.rowIs.of_block h.res rfl, World.rowIs.of_block h.fab rfl, h.hlb, h.below.drew⟩
theorem RSt.fc {w W : World} {B : Nat → Int} {lb : Nat} {f : Fab} (h : RSt w W B lb f) (i : Nat) (hi : i < 9) : W.cell? ⟨lb, i, none⟩ = some (fcell f i) := World.rowIs.cell h.fab hi
theorem RSt.ff {w W : World} {B : Nat → Int} {lb : Nat} {f : Fab} (h : RSt w W B lb f) (i : Nat) : W.frozen? ⟨lb, i, none⟩ = false := World.rowIs.frozen h.fab i

theorem same_iff (f : Fab) (B : Nat → Int) : Same f B ↔ ((List.range 64).all fun i => nb (encF f i) == B i) = true := by
  have hb := encF_bytes f
  unfold Same bB
  rw [List.all_eq_true]
  constructor
  · intro h i hi
    have := h i (List.mem_range.1 hi)
    rw [hb i] at this
    injection this with _ h
    simpa using h
  · intro h j hj
    have := h j (List.mem_range.2 hj)
    rw [hb j, eq_of_beq this]

/-- What the reference says. -/
def RefPost (B : Nat → Int) (w : World) (e : Ending) (w' : World) : Prop :=
  (((vld (dF B) = true ∧ Same (dF B) B) ∧ e = .returned (.tuple #[(dF B).v, .bool true])) ∨ (¬ (vld (dF B) = true ∧ Same (dF B) B) ∧ e = .returned (.tuple #[F0.v, .bool false]))) ∧ Below w.heap.size w w'

set_option maxHeartbeats 1000000 in
theorem refdec_results (tmps : Array Value) (w : World) (fb : Nat) (f : Fab) (b : Bool) (h2 : tmps.getD 2 undef = .pointer (some ⟨fb, 0, none⟩)) (h3 : tmps.getD 3 undef = .bool b) (hf : FabAt w fb f) :
    (results Try.f31 tmps).run Try.prog w = .ok (.tuple #[f.v, .bool b]) w := by
  have f0 : w.cell? ⟨fb, 0, none⟩ = some (.int .u8 f.kind) := World.rowIs.cell hf (by omega)
  have f1 : w.cell? ⟨fb, 1, none⟩ = some (.int .u16 f.id) := World.rowIs.cell hf (by omega)
  have f2 : w.cell? ⟨fb, 2, none⟩ = some (.int .u16 f.queue) := World.rowIs.cell hf (by omega)
  have f3 : w.cell? ⟨fb, 3, none⟩ = some (.int .u16 f.size) := World.rowIs.cell hf (by omega)
  have f4 : w.cell? ⟨fb, 4, none⟩ = some (.int .u32 f.keep) := World.rowIs.cell hf (by omega)
  have f5 : w.cell? ⟨fb, 5, none⟩ = some (.bool f.wide) := World.rowIs.cell hf (by omega)
  have f6 : w.cell? ⟨fb, 6, none⟩ = some (.int .u32 f.offset) := World.rowIs.cell hf (by omega)
  have f7 : w.cell? ⟨fb, 7, none⟩ = some (.int .u64 f.value) := World.rowIs.cell hf (by omega)
  have f8 : w.cell? ⟨fb, 8, none⟩ = some (.int .u32 f.length) := World.rowIs.cell hf (by omega)
  have h2' : tmps[2]?.getD undef = .pointer (some ⟨fb, 0, none⟩) := by simpa using h2
  have h3' : tmps[3]?.getD undef = .bool b := by simpa using h3
  simp [results, Try.results31, h2', h3', asAddr, go_sem, f0, f1, f2, f3, f4, f5, f6, f7, f8, Fab.v]

set_option maxRecDepth 100000 in
set_option maxHeartbeats 4000000 in
theorem refdecode_any (B : Nat → Int) (w : World) (hB : ∀ j, 0 ≤ B j ∧ B j ≤ 255) : Calls Try.prog 31 #[.agg (arr 64 (bB B))] w (RefPost B w) := by
  have HBB := Lib.hid hB
  have hu := Try.underlying43
  have hi : (Try.prog.info? 43).map (·.size) = some (arr 64 (bB B)).toList.length := by rw [arr64]; simp [arr]
  clear hB
  have ew2 : IntKind.u16.wrap (le B 2 2) = le B 2 2 := IntWalk.u16_in _ (le2 HBB.out 2)
  go_enter Try.func31, Try.ntmps31
  go_upto_region 1 with (fail)
  obtain ⟨W0, hW0⟩ : ∃ W0, W0 = (w.alloc (.cells (arr 64 (bB B)) 43)).alloc (.cells #[.int .u8 0, .int .u16 0, .int .u16 0, .int .u16 0, .int .u32 0, .bool false, .int .u32 0, .int .u64 0, .int .u32 0] 42) := ⟨_, rfl⟩
  rw [← hW0]
  obtain ⟨r0, f0, b0, s0⟩ := refstart B w W0 hW0
  have R0 := Lib.hid r0
  have F00 := Lib.hid f0
  have B0 := Lib.hid b0
  clear hW0 r0 f0 b0
  go_cut [4] from 5 to 10 (fun p wc => ∃ lb, p = .pointer (some ⟨lb, 0, none⟩) ∧ RSt w wc B lb ⟨B 4, le B 2 2, 0, 0, 0, false, 0, 0, 0⟩)
  case first =>
    have hlW : w.heap.size < W0.heap.size := by omega
    go_region_held3 (fun w' => w'.rangeAt w.heap.size 0 (arr 64 (bB B)).toList ∧ w'.cell? ⟨w.heap.size, 4, none⟩ = some (.int .u8 (B 4)))
      (with_reducible (first | exact held_of 4 (by omega) R3.out | exact held_of 4 (by omega) (World.rowIs.alloc R3.out _) | exact held_of 4 (by omega) (row_drew R0.out) | exact held_of 4 (by omega) (row_drew (World.rowIs.alloc R0.out _)) | exact held_of 4 (by omega) (World.rowIs.alloc (row_drew R0.out) _) | exact held_of 4 (by omega) (row_nine R3.out (by omega)) | exact held_of 4 (by omega) (row_nine (World.rowIs.alloc R3.out _) (by omega))))
      (first | (go_at_call 48; refine (refget B HBB.out 2 2 (by omega) (by omega) _).mono ?_; rintro e w3 ⟨rfl, hb⟩; have R3 := Lib.hid (show w3.rowIs w.heap.size 43 64 (bB B) from (by first | exact R0.out.of_block (hb.block _ R0.out.lt) | exact (World.rowIs.alloc R0.out _).of_block (hb.block _ (by simp; omega)))); obtain ⟨hc, hf⟩ := bcell hb; have hz := hb.size; simp at hz; have hzz : w.heap.size < w3.heap.size := (by omega); have HBW := Lib.hid hb; clear hb))
    all_goals
      go_wp2_with fail
      go_meet
      refine ⟨_, rfl, ?_⟩
      first | exact rst1 s0 R0.out F00.out B0.out HBW.out ⟨B 4, le B 2 2, 0, 0, 0, false, 0, 0, 0⟩ | exact rst2 s0 R0.out F00.out B0.out HBW.out ⟨B 4, le B 2 2, 0, 0, 0, false, 0, 0, 0⟩ _ rfl
  case rest =>
    obtain ⟨lb, rfl, hst⟩ := hcut
    have ST := Lib.hid hst
    have c0 : wc.cell? ⟨lb, 0, none⟩ = some (.int .u8 (B 4)) := World.rowIs.cell hst.fab (by omega)
    clear hst
    obtain ⟨k1, k2⟩ := HBB.out 4
    repeat ((fail_if_success (with_reducible show Code.wp _ (Code.block _ _) _ _ _)); first | go_values | go_skip | go_guarded | go_step | go_upon | go_back | go_simp)
    have hne : lb ≠ w.heap.size := by have := ST.out.hlb; omega
    have hu4 : IntKind.u32.wrap (le B 44 4) = le B 44 4 := IntWalk.u32_in _ (le4 HBB.out 44)
    have hu5 : IntKind.u32.wrap (le B 48 4) = le B 48 4 := IntWalk.u32_in _ (le4 HBB.out 48)
    have hu6 : IntKind.u16.wrap (le B 42 2) = le B 42 2 := IntWalk.u16_in _ (le2 HBB.out 42)
    have hu7 : IntKind.u16.wrap (le B 44 2) = le B 44 2 := IntWalk.u16_in _ (le2 HBB.out 44)
    have HG48 := Lib.hid (show ∀ w, Calls Try.prog 48 #[.agg (arr 64 (bB B)), .int .i64 48, .int .i64 8] w fun e w' => e = .returned (.int .u64 (le B 48 8)) ∧ Below w.heap.size w w' from fun w => refget B HBB.out 48 8 (by omega) (by omega) w)
    have HG42 := Lib.hid (show ∀ w, Calls Try.prog 48 #[.agg (arr 64 (bB B)), .int .i64 42, .int .i64 2] w fun e w' => e = .returned (.int .u64 (le B 42 2)) ∧ Below w.heap.size w w' from fun w => refget B HBB.out 42 2 (by omega) (by omega) w)
    have HG442 := Lib.hid (show ∀ w, Calls Try.prog 48 #[.agg (arr 64 (bB B)), .int .i64 44, .int .i64 2] w fun e w' => e = .returned (.int .u64 (le B 44 2)) ∧ Below w.heap.size w w' from fun w => refget B HBB.out 44 2 (by omega) (by omega) w)
    have HG484 := Lib.hid (show ∀ w, Calls Try.prog 48 #[.agg (arr 64 (bB B)), .int .i64 48, .int .i64 4] w fun e w' => e = .returned (.int .u64 (le B 48 4)) ∧ Below w.heap.size w w' from fun w => refget B HBB.out 48 4 (by omega) (by omega) w)
    have HG444 := Lib.hid (show ∀ w, Calls Try.prog 48 #[.agg (arr 64 (bB B)), .int .i64 44, .int .i64 4] w fun e w' => e = .returned (.int .u64 (le B 44 4)) ∧ Below w.heap.size w w' from fun w => refget B HBB.out 44 4 (by omega) (by omega) w)
    go_cut [14] from 15 to 51 (fun _ w5 => RSt w w5 B lb (dF B))
    case first =>
      by_cases h0 : B 4 = 0
      · have e0 : (B 4 == 0) = true := by simpa using h0
        have HD := Lib.hid (show dF B = ⟨B 4, le B 2 2, 0, 0, 0, B 40 == 1, le B 44 4, le B 48 8, 0⟩ by unfold dF; rw [if_pos h0])
        clear h0
        go_upto_region 5 with (fail)
        go_region_held3 (fun w' => w'.rangeAt w.heap.size 0 (arr 64 (bB B)).toList ∧ w'.cell? ⟨w.heap.size, 40, none⟩ = some (.int .u8 (B 40)))
          (with_reducible (first | exact held_of 40 (by omega) ST3.out.row | exact held_of 40 (by omega) (row_far ST3.out.row _ _ hne) | exact held_of 40 (by omega) (row_far (row_far ST3.out.row _ _ hne) _ _ hne) | exact held_of 40 (by omega) ST.out.drew.row))
          (first | (go_at_call 48; refine (refget B HBB.out 44 4 (by omega) (by omega) _).mono ?_; rintro e w3 ⟨rfl, hb⟩; have ST3 := Lib.hid (ST.out.drew.beyond hb); have p5 : w3.cell? ⟨lb, 5, none⟩ = some (.bool false) := ST3.out.fc 5 (by omega); have p6 : w3.cell? ⟨lb, 6, none⟩ = some (.int .u32 0) := ST3.out.fc 6 (by omega); have z5 := ST3.out.ff 5; have z6 := ST3.out.ff 6; clear hb))
        obtain ⟨W4, hW4⟩ : ∃ W4, W4 = (w3.setCell ⟨lb, 5, none⟩ (.bool (B 40 == 1))).setCell ⟨lb, 6, none⟩ (.int .u32 (le B 44 4)) := ⟨_, rfl⟩
        rw [← hW4]
        have S4 : RSt w W4 B lb ⟨B 4, le B 2 2, 0, 0, 0, B 40 == 1, le B 44 4, 0, 0⟩ := by
          rw [hW4]
          exact (ST3.out.put (g := ⟨B 4, le B 2 2, 0, 0, 0, B 40 == 1, 0, 0, 0⟩) 5 _ (fun j hj => by match j, hj with | 0, _ => rfl | 1, _ => rfl | 2, _ => rfl | 3, _ => rfl | 4, _ => rfl | 5, _ => rfl | 6, _ => rfl | 7, _ => rfl | 8, _ => rfl)).put 6 _ (fun j hj => by match j, hj with | 0, _ => rfl | 1, _ => rfl | 2, _ => rfl | 3, _ => rfl | 4, _ => rfl | 5, _ => rfl | 6, _ => rfl | 7, _ => rfl | 8, _ => rfl)
        have ST4 := Lib.hid S4
        have q0 : W4.cell? ⟨lb, 0, none⟩ = some (.int .u8 (B 4)) := S4.fc 0 (by omega)
        clear S4 hW4 p5 p6 z5 z6 c0
        go_wp2_with (first | ((with_reducible show wpList _ _ _ (⟨some 28, _, _, _, _, _⟩ :: _) _ _); refine wpList_load_mid rfl 43 (.tmp 1) rfl w.heap.size 0 rfl (arr 64 (bB B)).toList _ (rowIs_range0 ST4.out.row) hu rfl hi ?_) | (go_at_call 48; (with_reducible refine (HG48.out _).mono ?_); rintro e w5 ⟨rfl, hb⟩; have ST5 := Lib.hid (ST4.out.beyond hb); have p7 := ST5.out.fc 7 (by omega); have z7 := ST5.out.ff 7; clear hb))
        go_meet
        rw [HD.out]
        exact ST5.out.put 7 _ (fun j hj => by match j, hj with | 0, _ => rfl | 1, _ => rfl | 2, _ => rfl | 3, _ => rfl | 4, _ => rfl | 5, _ => rfl | 6, _ => rfl | 7, _ => rfl | 8, _ => rfl)
      have e0 : (B 4 == 0) = false := by simpa using h0
      by_cases h4 : B 4 = 4
      · have e4 : (B 4 == 4) = true := by simpa using h4
        have HD := Lib.hid (show dF B = ⟨B 4, le B 2 2, 0, 0, 0, B 40 == 1, le B 44 4, 0, 0⟩ by unfold dF; rw [if_neg h0, if_neg (by omega), if_pos h4])
        clear h0 h4
        go_upto_region 5 with (fail)
        go_region_held3 (fun w' => w'.rangeAt w.heap.size 0 (arr 64 (bB B)).toList ∧ w'.cell? ⟨w.heap.size, 40, none⟩ = some (.int .u8 (B 40)))
          (with_reducible (first | exact held_of 40 (by omega) ST3.out.row | exact held_of 40 (by omega) (row_far ST3.out.row _ _ hne) | exact held_of 40 (by omega) (row_far (row_far ST3.out.row _ _ hne) _ _ hne) | exact held_of 40 (by omega) ST.out.drew.row))
          (first | (go_at_call 48; refine (refget B HBB.out 44 4 (by omega) (by omega) _).mono ?_; rintro e w3 ⟨rfl, hb⟩; have ST3 := Lib.hid (ST.out.drew.beyond hb); have p5 : w3.cell? ⟨lb, 5, none⟩ = some (.bool false) := ST3.out.fc 5 (by omega); have p6 : w3.cell? ⟨lb, 6, none⟩ = some (.int .u32 0) := ST3.out.fc 6 (by omega); have z5 := ST3.out.ff 5; have z6 := ST3.out.ff 6; clear hb))
        obtain ⟨W4, hW4⟩ : ∃ W4, W4 = (w3.setCell ⟨lb, 5, none⟩ (.bool (B 40 == 1))).setCell ⟨lb, 6, none⟩ (.int .u32 (le B 44 4)) := ⟨_, rfl⟩
        rw [← hW4]
        have S4 : RSt w W4 B lb ⟨B 4, le B 2 2, 0, 0, 0, B 40 == 1, le B 44 4, 0, 0⟩ := by
          rw [hW4]
          exact (ST3.out.put (g := ⟨B 4, le B 2 2, 0, 0, 0, B 40 == 1, 0, 0, 0⟩) 5 _ (fun j hj => by match j, hj with | 0, _ => rfl | 1, _ => rfl | 2, _ => rfl | 3, _ => rfl | 4, _ => rfl | 5, _ => rfl | 6, _ => rfl | 7, _ => rfl | 8, _ => rfl)).put 6 _ (fun j hj => by match j, hj with | 0, _ => rfl | 1, _ => rfl | 2, _ => rfl | 3, _ => rfl | 4, _ => rfl | 5, _ => rfl | 6, _ => rfl | 7, _ => rfl | 8, _ => rfl)
        have ST4 := Lib.hid S4
        have q0 : W4.cell? ⟨lb, 0, none⟩ = some (.int .u8 (B 4)) := S4.fc 0 (by omega)
        clear S4 hW4 p5 p6 z5 z6 c0
        go_wp2_with fail
        go_meet
        rw [HD.out]
        exact ST4.out
      have e4 : (B 4 == 4) = false := by simpa using h4
      by_cases h1 : B 4 = 1
      · have e1 : (B 4 == 1) = true := by simpa using h1
        have HD := Lib.hid (show dF B = ⟨B 4, le B 2 2, le B 42 2, le B 44 2, le B 48 4, false, 0, 0, 0⟩ by unfold dF; rw [if_neg h0, if_pos h1])
        clear h0 h4 h1
        go_upto_region 9 with (fail)
        refine wp_region_noPanic ?_
        refine wp_region_held_drew (S := fun w' => w'.rowIs w.heap.size 43 64 (bB B)) (by kernel_rfl) ST.out.drew.row (fun hS0 => ?_)
        refine wpAnyH_take (i := 0) rfl (by decide +kernel) (by decide +kernel) (by decide +kernel) (fun _ _ _ h => h) (yieldsIf_load_mid (by rfl) 43 (.tmp 1) rfl w.heap.size 0 rfl (arr 64 (bB B)).toList _ (fun w h => rowIs_range0 h) hu rfl hi) (by assumption) ?_
        try simp only [Act.put, List.setIfInBounds_toArray, List.set_cons_zero, List.set_cons_succ]
        refine wpAnyH_take (i := 3) rfl (by decide +kernel) (by decide +kernel) (by decide +kernel) (fun _ _ _ h => h) (yieldsIf_load_mid (by rfl) 43 (.tmp 1) rfl w.heap.size 0 rfl (arr 64 (bB B)).toList _ (fun w h => rowIs_range0 h) hu rfl hi) (by assumption) ?_
        try simp only [Act.put, List.setIfInBounds_toArray, List.set_cons_zero, List.set_cons_succ]
        refine wpAnyH_take (i := 6) rfl (by decide +kernel) (by decide +kernel) (by decide +kernel) (fun _ _ _ h => h) (yieldsIf_load_mid (by rfl) 43 (.tmp 1) rfl w.heap.size 0 rfl (arr 64 (bB B)).toList _ (fun w h => rowIs_range0 h) hu rfl hi) (by assumption) ?_
        try simp only [Act.put, List.setIfInBounds_toArray, List.set_cons_zero, List.set_cons_succ]
        refine wpAnyH_ready (rs := [1]) (by decide +kernel) (by simp) (AllReadyH.cons rfl (fun K hK => ?_) AllReadyH.nil)
        rw [if_pos (by rfl)]
        go_simp
        (with_reducible refine (HG42.out _).mono ?_)
        rintro e wn3 ⟨rfl, hb⟩
        have ST3 := Lib.hid (ST.out.drew.beyond hb)
        refine hK.out _ _ ST3.out.row (fun hSST3 => ?_)
        clear hK K hS0 hb
        try simp only [Act.put, List.setIfInBounds_toArray, List.set_cons_zero, List.set_cons_succ]
        refine wpAnyH_take (i := 2) (v := .int .u16 (le B 42 2)) rfl (by decide +kernel) (by decide +kernel) (by decide +kernel) (fun _ _ _ h => h) (Or.inl ⟨by rfl, by (intro w' _; go_simp)⟩) (by assumption) ?_
        try simp only [Act.put, List.setIfInBounds_toArray, List.set_cons_zero, List.set_cons_succ]
        try (refine wpAnyH_take (i := 9) (v := .pointer (some ⟨lb, 2, none⟩)) rfl (by decide +kernel) (by decide +kernel) (by decide +kernel) (fun _ _ _ h => h) (Or.inl ⟨by rfl, by (intro w' _; go_simp)⟩) (by assumption) ?_)
        try simp only [Act.put, List.setIfInBounds_toArray, List.set_cons_zero, List.set_cons_succ]
        try (refine wpAnyH_take (i := 11) (v := .pointer (some ⟨lb, 3, none⟩)) rfl (by decide +kernel) (by decide +kernel) (by decide +kernel) (fun _ _ _ h => h) (Or.inl ⟨by rfl, by (intro w' _; go_simp)⟩) (by assumption) ?_)
        try simp only [Act.put, List.setIfInBounds_toArray, List.set_cons_zero, List.set_cons_succ]
        try (refine wpAnyH_take (i := 13) (v := .pointer (some ⟨lb, 4, none⟩)) rfl (by decide +kernel) (by decide +kernel) (by decide +kernel) (fun _ _ _ h => h) (Or.inl ⟨by rfl, by (intro w' _; go_simp)⟩) (by assumption) ?_)
        try simp only [Act.put, List.setIfInBounds_toArray, List.set_cons_zero, List.set_cons_succ]
        refine wpAnyH_ready (rs := [4]) (by decide +kernel) (by simp) (AllReadyH.cons rfl (fun K hK => ?_) AllReadyH.nil)
        rw [if_pos (by rfl)]
        go_simp
        (with_reducible refine (HG442.out _).mono ?_)
        rintro e wn5 ⟨rfl, hb⟩
        have ST5 := Lib.hid (ST3.out.beyond hb)
        refine hK.out _ _ ST5.out.row (fun hSST5 => ?_)
        clear hK K hSST3 hb
        try simp only [Act.put, List.setIfInBounds_toArray, List.set_cons_zero, List.set_cons_succ]
        refine wpAnyH_take (i := 5) (v := .int .u16 (le B 44 2)) rfl (by decide +kernel) (by decide +kernel) (by decide +kernel) (fun _ _ _ h => h) (Or.inl ⟨by rfl, by (intro w' _; go_simp)⟩) (by assumption) ?_
        try simp only [Act.put, List.setIfInBounds_toArray, List.set_cons_zero, List.set_cons_succ]
        try (refine wpAnyH_take (i := 9) (v := .pointer (some ⟨lb, 2, none⟩)) rfl (by decide +kernel) (by decide +kernel) (by decide +kernel) (fun _ _ _ h => h) (Or.inl ⟨by rfl, by (intro w' _; go_simp)⟩) (by assumption) ?_)
        try simp only [Act.put, List.setIfInBounds_toArray, List.set_cons_zero, List.set_cons_succ]
        try (refine wpAnyH_take (i := 11) (v := .pointer (some ⟨lb, 3, none⟩)) rfl (by decide +kernel) (by decide +kernel) (by decide +kernel) (fun _ _ _ h => h) (Or.inl ⟨by rfl, by (intro w' _; go_simp)⟩) (by assumption) ?_)
        try simp only [Act.put, List.setIfInBounds_toArray, List.set_cons_zero, List.set_cons_succ]
        try (refine wpAnyH_take (i := 13) (v := .pointer (some ⟨lb, 4, none⟩)) rfl (by decide +kernel) (by decide +kernel) (by decide +kernel) (fun _ _ _ h => h) (Or.inl ⟨by rfl, by (intro w' _; go_simp)⟩) (by assumption) ?_)
        try simp only [Act.put, List.setIfInBounds_toArray, List.set_cons_zero, List.set_cons_succ]
        refine wpAnyH_ready (rs := [7]) (by decide +kernel) (by simp) (AllReadyH.cons rfl (fun K hK => ?_) AllReadyH.nil)
        rw [if_pos (by rfl)]
        go_simp
        (with_reducible refine (HG484.out _).mono ?_)
        rintro e wn7 ⟨rfl, hb⟩
        have ST7 := Lib.hid (ST5.out.beyond hb)
        refine hK.out _ _ ST7.out.row (fun hSST7 => ?_)
        clear hK K hSST5 hb
        have p2 : wn7.cell? ⟨lb, 2, none⟩ = some (.int .u16 0) := ST7.out.fc 2 (by omega)
        have z2 := ST7.out.ff 2
        have p3 : wn7.cell? ⟨lb, 3, none⟩ = some (.int .u16 0) := ST7.out.fc 3 (by omega)
        have z3 := ST7.out.ff 3
        have p4 : wn7.cell? ⟨lb, 4, none⟩ = some (.int .u32 0) := ST7.out.fc 4 (by omega)
        have z4 := ST7.out.ff 4
        try simp only [Act.put, List.setIfInBounds_toArray, List.set_cons_zero, List.set_cons_succ]
        try (refine wpAnyH_take (i := 8) (v := .int .u32 (le B 48 4)) rfl (by decide +kernel) (by decide +kernel) (by decide +kernel) (fun _ _ _ h => h) (Or.inl ⟨by rfl, by (intro w' _; go_simp)⟩) (by assumption) ?_)
        try simp only [Act.put, List.setIfInBounds_toArray, List.set_cons_zero, List.set_cons_succ]
        try (refine wpAnyH_take (i := 9) (v := .pointer (some ⟨lb, 2, none⟩)) rfl (by decide +kernel) (by decide +kernel) (by decide +kernel) (fun _ _ _ h => h) (Or.inl ⟨by rfl, by (intro w' _; go_simp)⟩) (by assumption) ?_)
        try simp only [Act.put, List.setIfInBounds_toArray, List.set_cons_zero, List.set_cons_succ]
        try (refine wpAnyH_take (i := 11) (v := .pointer (some ⟨lb, 3, none⟩)) rfl (by decide +kernel) (by decide +kernel) (by decide +kernel) (fun _ _ _ h => h) (Or.inl ⟨by rfl, by (intro w' _; go_simp)⟩) (by assumption) ?_)
        try simp only [Act.put, List.setIfInBounds_toArray, List.set_cons_zero, List.set_cons_succ]
        try (refine wpAnyH_take (i := 13) (v := .pointer (some ⟨lb, 4, none⟩)) rfl (by decide +kernel) (by decide +kernel) (by decide +kernel) (fun _ _ _ h => h) (Or.inl ⟨by rfl, by (intro w' _; go_simp)⟩) (by assumption) ?_)
        try simp only [Act.put, List.setIfInBounds_toArray, List.set_cons_zero, List.set_cons_succ]
        refine wpAnyH_ready (rs := [10]) (by decide +kernel) (by simp) (AllReadyH.cons rfl (fun K hK => ?_) AllReadyH.nil)
        rw [if_pos (by rfl)]
        go_simp
        refine hK.out _ _ (row_far ST7.out.row _ _ hne) (fun hT1 => ?_)
        clear hK K hSST7
        try simp only [Act.put, List.setIfInBounds_toArray, List.set_cons_zero, List.set_cons_succ]
        try (refine wpAnyH_take (i := 8) (v := .int .u32 (le B 48 4)) rfl (by decide +kernel) (by decide +kernel) (by decide +kernel) (fun _ _ _ h => h) (Or.inl ⟨by rfl, by (intro w' _; go_simp)⟩) (by assumption) ?_)
        try simp only [Act.put, List.setIfInBounds_toArray, List.set_cons_zero, List.set_cons_succ]
        try (refine wpAnyH_take (i := 9) (v := .pointer (some ⟨lb, 2, none⟩)) rfl (by decide +kernel) (by decide +kernel) (by decide +kernel) (fun _ _ _ h => h) (Or.inl ⟨by rfl, by (intro w' _; go_simp)⟩) (by assumption) ?_)
        try simp only [Act.put, List.setIfInBounds_toArray, List.set_cons_zero, List.set_cons_succ]
        try (refine wpAnyH_take (i := 11) (v := .pointer (some ⟨lb, 3, none⟩)) rfl (by decide +kernel) (by decide +kernel) (by decide +kernel) (fun _ _ _ h => h) (Or.inl ⟨by rfl, by (intro w' _; go_simp)⟩) (by assumption) ?_)
        try simp only [Act.put, List.setIfInBounds_toArray, List.set_cons_zero, List.set_cons_succ]
        try (refine wpAnyH_take (i := 13) (v := .pointer (some ⟨lb, 4, none⟩)) rfl (by decide +kernel) (by decide +kernel) (by decide +kernel) (fun _ _ _ h => h) (Or.inl ⟨by rfl, by (intro w' _; go_simp)⟩) (by assumption) ?_)
        try simp only [Act.put, List.setIfInBounds_toArray, List.set_cons_zero, List.set_cons_succ]
        refine wpAnyH_ready (rs := [12]) (by decide +kernel) (by simp) (AllReadyH.cons rfl (fun K hK => ?_) AllReadyH.nil)
        rw [if_pos (by rfl)]
        go_simp
        refine hK.out _ _ (row_far (row_far ST7.out.row _ _ hne) _ _ hne) (fun hT2 => ?_)
        clear hK K hT1
        try simp only [Act.put, List.setIfInBounds_toArray, List.set_cons_zero, List.set_cons_succ]
        try (refine wpAnyH_take (i := 8) (v := .int .u32 (le B 48 4)) rfl (by decide +kernel) (by decide +kernel) (by decide +kernel) (fun _ _ _ h => h) (Or.inl ⟨by rfl, by (intro w' _; go_simp)⟩) (by assumption) ?_)
        try simp only [Act.put, List.setIfInBounds_toArray, List.set_cons_zero, List.set_cons_succ]
        try (refine wpAnyH_take (i := 9) (v := .pointer (some ⟨lb, 2, none⟩)) rfl (by decide +kernel) (by decide +kernel) (by decide +kernel) (fun _ _ _ h => h) (Or.inl ⟨by rfl, by (intro w' _; go_simp)⟩) (by assumption) ?_)
        try simp only [Act.put, List.setIfInBounds_toArray, List.set_cons_zero, List.set_cons_succ]
        try (refine wpAnyH_take (i := 11) (v := .pointer (some ⟨lb, 3, none⟩)) rfl (by decide +kernel) (by decide +kernel) (by decide +kernel) (fun _ _ _ h => h) (Or.inl ⟨by rfl, by (intro w' _; go_simp)⟩) (by assumption) ?_)
        try simp only [Act.put, List.setIfInBounds_toArray, List.set_cons_zero, List.set_cons_succ]
        try (refine wpAnyH_take (i := 13) (v := .pointer (some ⟨lb, 4, none⟩)) rfl (by decide +kernel) (by decide +kernel) (by decide +kernel) (fun _ _ _ h => h) (Or.inl ⟨by rfl, by (intro w' _; go_simp)⟩) (by assumption) ?_)
        try simp only [Act.put, List.setIfInBounds_toArray, List.set_cons_zero, List.set_cons_succ]
        refine wpAnyH_ready (rs := [14]) (by decide +kernel) (by simp) (AllReadyH.cons rfl (fun K hK => ?_) AllReadyH.nil)
        rw [if_pos (by rfl)]
        go_simp
        refine hK.out _ _ (row_far (row_far (row_far ST7.out.row _ _ hne) _ _ hne) _ _ hne) (fun hT3 => ?_)
        clear hK K hT2
        try simp only [Act.put, List.setIfInBounds_toArray, List.set_cons_zero, List.set_cons_succ]
        refine wpAnyH_done (by kernel_rfl) ?_ _
        refine NoPanic.normal ?_
        go_wp2_with fail
        go_meet
        rw [HD.out]
        exact ((ST7.out.put (g := ⟨B 4, le B 2 2, le B 42 2, 0, 0, false, 0, 0, 0⟩) 2 _ (fun j hj => by match j, hj with | 0, _ => rfl | 1, _ => rfl | 2, _ => rfl | 3, _ => rfl | 4, _ => rfl | 5, _ => rfl | 6, _ => rfl | 7, _ => rfl | 8, _ => rfl)).put (g := ⟨B 4, le B 2 2, le B 42 2, le B 44 2, 0, false, 0, 0, 0⟩) 3 _ (fun j hj => by match j, hj with | 0, _ => rfl | 1, _ => rfl | 2, _ => rfl | 3, _ => rfl | 4, _ => rfl | 5, _ => rfl | 6, _ => rfl | 7, _ => rfl | 8, _ => rfl)).put 4 _ (fun j hj => by match j, hj with | 0, _ => rfl | 1, _ => rfl | 2, _ => rfl | 3, _ => rfl | 4, _ => rfl | 5, _ => rfl | 6, _ => rfl | 7, _ => rfl | 8, _ => rfl)
      have e1 : (B 4 == 1) = false := by simpa using h1
      by_cases h5 : B 4 = 5
      · have e5 : (B 4 == 5) = true := by simpa using h5
        have HD := Lib.hid (show dF B = ⟨B 4, le B 2 2, 0, 0, 0, false, 0, 0, le B 44 4⟩ by unfold dF; rw [if_neg h0, if_neg h1, if_neg h4, if_pos h5])
        clear h0 h1 h4 h5
        go_wp2_with (first | ((with_reducible show wpList _ _ _ (⟨some 48, _, _, _, _, _⟩ :: _) _ _); refine wpList_load_mid rfl 43 (.tmp 1) rfl w.heap.size 0 rfl (arr 64 (bB B)).toList _ (rowIs_range0 ST.out.row) hu rfl hi ?_) | (go_at_call 48; (with_reducible refine (HG444.out _).mono ?_); rintro e w5 ⟨rfl, hb⟩; have ST5 := Lib.hid (ST.out.beyond hb); have p8 := ST5.out.fc 8 (by omega); have z8 := ST5.out.ff 8; clear hb))
        go_meet
        rw [HD.out]
        exact ST5.out.put 8 _ (fun j hj => by match j, hj with | 0, _ => rfl | 1, _ => rfl | 2, _ => rfl | 3, _ => rfl | 4, _ => rfl | 5, _ => rfl | 6, _ => rfl | 7, _ => rfl | 8, _ => rfl)
      have e5 : (B 4 == 5) = false := by simpa using h5
      by_cases h6 : B 4 = 6
      · have e6 : (B 4 == 6) = true := by simpa using h6
        have HD := Lib.hid (show dF B = ⟨B 4, le B 2 2, 0, 0, 0, false, 0, 0, le B 44 4⟩ by unfold dF; rw [if_neg h0, if_neg h1, if_neg h4, if_neg h5, if_pos h6])
        clear h0 h1 h4 h5 h6
        go_wp2_with (first | ((with_reducible show wpList _ _ _ (⟨some 48, _, _, _, _, _⟩ :: _) _ _); refine wpList_load_mid rfl 43 (.tmp 1) rfl w.heap.size 0 rfl (arr 64 (bB B)).toList _ (rowIs_range0 ST.out.row) hu rfl hi ?_) | (go_at_call 48; (with_reducible refine (HG444.out _).mono ?_); rintro e w5 ⟨rfl, hb⟩; have ST5 := Lib.hid (ST.out.beyond hb); have p8 := ST5.out.fc 8 (by omega); have z8 := ST5.out.ff 8; clear hb))
        go_meet
        rw [HD.out]
        exact ST5.out.put 8 _ (fun j hj => by match j, hj with | 0, _ => rfl | 1, _ => rfl | 2, _ => rfl | 3, _ => rfl | 4, _ => rfl | 5, _ => rfl | 6, _ => rfl | 7, _ => rfl | 8, _ => rfl)
      have e6 : (B 4 == 6) = false := by simpa using h6
      have HD := Lib.hid (show dF B = ⟨B 4, le B 2 2, 0, 0, 0, false, 0, 0, 0⟩ by unfold dF; rw [if_neg h0, if_neg h1, if_neg h4, if_neg h5, if_neg h6])
      clear h0 h1 h4 h5 h6
      go_wp2_with fail
      go_meet
      rw [HD.out]
      exact ST.out
    case rest =>
      have hok := dF_ok HBB.out
      obtain ⟨f, hf⟩ : ∃ f, dF B = f := ⟨_, rfl⟩
      have HF := Lib.hid hf
      rw [hf] at hcut hok
      have hse := same_iff f B
      clear hf hu4 hu5 hu6 hu7 ew2 c0 HG48 HG42 HG442 HG484 HG444
      obtain ⟨kind, id, queue, size, keep, wide, offset, value, length⟩ := f
      have SR := Lib.hid hcut
      clear hcut
      have hlw : lb < wc.heap.size := World.rowIs.lt SR.out.fab
      have hlh : w.heap.size < wc.heap.size := SR.out.row.lt
      go_upto_region 13 with (fail)
      have hq0 : ∀ p : InC (Below wc.heap.size wc), p.w.cell? ⟨lb, 0, none⟩ = some (.int .u8 kind) := fun p => (p.ok.cell hlw).trans (SR.out.fc 0 (by omega))
      have hq1 : ∀ p : InC (Below wc.heap.size wc), p.w.cell? ⟨lb, 1, none⟩ = some (.int .u16 id) := fun p => (p.ok.cell hlw).trans (SR.out.fc 1 (by omega))
      have hq2 : ∀ p : InC (Below wc.heap.size wc), p.w.cell? ⟨lb, 2, none⟩ = some (.int .u16 queue) := fun p => (p.ok.cell hlw).trans (SR.out.fc 2 (by omega))
      have hq3 : ∀ p : InC (Below wc.heap.size wc), p.w.cell? ⟨lb, 3, none⟩ = some (.int .u16 size) := fun p => (p.ok.cell hlw).trans (SR.out.fc 3 (by omega))
      have hq4 : ∀ p : InC (Below wc.heap.size wc), p.w.cell? ⟨lb, 4, none⟩ = some (.int .u32 keep) := fun p => (p.ok.cell hlw).trans (SR.out.fc 4 (by omega))
      have hq5 : ∀ p : InC (Below wc.heap.size wc), p.w.cell? ⟨lb, 5, none⟩ = some (.bool wide) := fun p => (p.ok.cell hlw).trans (SR.out.fc 5 (by omega))
      have hq6 : ∀ p : InC (Below wc.heap.size wc), p.w.cell? ⟨lb, 6, none⟩ = some (.int .u32 offset) := fun p => (p.ok.cell hlw).trans (SR.out.fc 6 (by omega))
      have hq7 : ∀ p : InC (Below wc.heap.size wc), p.w.cell? ⟨lb, 7, none⟩ = some (.int .u64 value) := fun p => (p.ok.cell hlw).trans (SR.out.fc 7 (by omega))
      have hq8 : ∀ p : InC (Below wc.heap.size wc), p.w.cell? ⟨lb, 8, none⟩ = some (.int .u32 length) := fun p => (p.ok.cell hlw).trans (SR.out.fc 8 (by omega))
      have hL : ∀ p : InC (Below wc.heap.size wc), (Instr.loadAt 43 (.pointer (some ⟨w.heap.size, 0, none⟩))).run Try.prog p.w = .ok (.agg (arr 64 (bB B))) p.w := fun p => by
        have h := run_loadAt_mid (P := Try.prog) p.w w.heap.size 0 43 (arr 64 (bB B)).toList _ (rowIs_range0 (SR.out.row.of_block (p.ok.block _ SR.out.row.lt))) Try.underlying43 rfl (by rw [arr64]; simp [arr])
        rwa [Array.toArray_toList] at h
      have HL := Lib.hid hL
      clear hL
      have hNE : Nonempty (InC (Below wc.heap.size wc)) := ⟨⟨wc, Below.refl _ _⟩⟩
      have hlb2 : w.heap.size + 1 < lb := SR.out.hlb
      have HOK := Lib.hid hok
      have HSE := Lib.hid hse
      clear hok hse hi hu
      cases hv : vld ⟨kind, id, queue, size, keep, wide, offset, value, length⟩
      · have HV := Lib.hid hv
        clear hv
        have HC1 := Lib.hid (show ∀ p : InC (Below wc.heap.size wc), Calls Try.prog 20 #[.agg #[.int .u8 kind, .int .u16 id, .int .u16 queue, .int .u16 size, .int .u32 keep, .bool wide, .int .u32 offset, .int .u64 value, .int .u32 length]] p.w fun e w' => e = .returned (.bool false) ∧ Below wc.heap.size wc w' from fun p => (refvalid_any ⟨kind, id, queue, size, keep, wide, offset, value, length⟩ p.w HOK.out).mono fun e w' h => ⟨by rw [HV.out] at h; exact h.1, p.ok.trans (h.2.mono p.ok.size)⟩)
        refine wp_quiet_in (Below wc.heap.size wc) (Below.refl _ _).drew (by kernel_rfl) (by kernel_rfl) ?_
        repeat (first
          | ((with_reducible show wpQuiet _ _ _ _ (⟨some 58, .load _ _, _, _, _, _⟩ :: _) _); refine wpQuiet_load rfl 43 (.tmp 1) rfl (.pointer (some ⟨w.heap.size, 0, none⟩)) rfl (fun w' hp => by { obtain ⟨p, rfl⟩ := hp; exact HL.out p }) ?_; simp only [Act.put, List.setIfInBounds_toArray, List.set_cons_succ, List.set_cons_zero])
          | go_big_quiet_step (first | (with_reducible exact calls_in (HC1.out _))))
        refine wpQuiet_nil ?_
        intro _ hw'
        obtain ⟨p, hw''⟩ := hw'
        subst hw''
        have S4 := Lib.hid (SR.out.beyond p.ok)
        generalize p.w = W4 at *
        clear hq0 hq1 hq2 hq3 hq4 hq5 hq6 hq7 hq8 HL hNE HC1
        have r0 : W4.cell? ⟨w.heap.size + 1, 0, none⟩ = some (.int .u8 0) := World.rowIs.cell S4.out.res (by omega)
        have z0 := World.rowIs.frozen S4.out.res 0
        have r1 : W4.cell? ⟨w.heap.size + 1, 1, none⟩ = some (.int .u16 0) := World.rowIs.cell S4.out.res (by omega)
        have z1 := World.rowIs.frozen S4.out.res 1
        have r2 : W4.cell? ⟨w.heap.size + 1, 2, none⟩ = some (.int .u16 0) := World.rowIs.cell S4.out.res (by omega)
        have z2 := World.rowIs.frozen S4.out.res 2
        have r3 : W4.cell? ⟨w.heap.size + 1, 3, none⟩ = some (.int .u16 0) := World.rowIs.cell S4.out.res (by omega)
        have z3 := World.rowIs.frozen S4.out.res 3
        have r4 : W4.cell? ⟨w.heap.size + 1, 4, none⟩ = some (.int .u32 0) := World.rowIs.cell S4.out.res (by omega)
        have z4 := World.rowIs.frozen S4.out.res 4
        have r5 : W4.cell? ⟨w.heap.size + 1, 5, none⟩ = some (.bool false) := World.rowIs.cell S4.out.res (by omega)
        have z5 := World.rowIs.frozen S4.out.res 5
        have r6 : W4.cell? ⟨w.heap.size + 1, 6, none⟩ = some (.int .u32 0) := World.rowIs.cell S4.out.res (by omega)
        have z6 := World.rowIs.frozen S4.out.res 6
        have r7 : W4.cell? ⟨w.heap.size + 1, 7, none⟩ = some (.int .u64 0) := World.rowIs.cell S4.out.res (by omega)
        have z7 := World.rowIs.frozen S4.out.res 7
        have r8 : W4.cell? ⟨w.heap.size + 1, 8, none⟩ = some (.int .u32 0) := World.rowIs.cell S4.out.res (by omega)
        have z8 := World.rowIs.frozen S4.out.res 8
        go_wp2_with fail
        exact bodyPost_ret (refdec_results _ _ (w.heap.size + 1) F0 false rfl rfl (nine F0 S4.out.res).1) rfl ⟨.inr ⟨fun k => by rw [HF.out, HV.out] at k; exact absurd k.1 (by decide), rfl⟩, S4.out.below.trans ((nine F0 S4.out.res).2.below (B := w.heap.size) S4.out.below.size (fun j hj e => by have e : j = w.heap.size + 1 := e; omega))⟩
      · have HV := Lib.hid hv
        clear hv
        have HC1 := Lib.hid (show ∀ p : InC (Below wc.heap.size wc), Calls Try.prog 20 #[.agg #[.int .u8 kind, .int .u16 id, .int .u16 queue, .int .u16 size, .int .u32 keep, .bool wide, .int .u32 offset, .int .u64 value, .int .u32 length]] p.w fun e w' => e = .returned (.bool true) ∧ Below wc.heap.size wc w' from fun p => (refvalid_any ⟨kind, id, queue, size, keep, wide, offset, value, length⟩ p.w HOK.out).mono fun e w' h => ⟨by rw [HV.out] at h; exact h.1, p.ok.trans (h.2.mono p.ok.size)⟩)
        have hg := encF_bytes ⟨kind, id, queue, size, keep, wide, offset, value, length⟩
        obtain ⟨G, hG⟩ : ∃ G, encF ⟨kind, id, queue, size, keep, wide, offset, value, length⟩ = G := ⟨_, rfl⟩
        have HC2 := Lib.hid (show ∀ p : InC (Below wc.heap.size wc), Calls Try.prog 22 #[.agg #[.int .u8 kind, .int .u16 id, .int .u16 queue, .int .u16 size, .int .u32 keep, .bool wide, .int .u32 offset, .int .u64 value, .int .u32 length]] p.w fun e w' => e = .returned (.agg (arr 64 G)) ∧ Below wc.heap.size wc w' from fun p => (refencode_any ⟨kind, id, queue, size, keep, wide, offset, value, length⟩ p.w HOK.out HV.out).mono fun e w' h => ⟨by rw [hG] at h; exact h.1, p.ok.trans (h.2.mono p.ok.size)⟩)
        rw [hG] at HSE hg
        have eG : G = fun i => .int .u8 (nb (G i)) := funext hg
        obtain ⟨s, hs⟩ : ∃ s, ((List.range 64).all fun i => nb (G i) == B i) = s := ⟨_, rfl⟩
        have hEQ : ∀ p : InC (Below wc.heap.size wc), (Op.equalIn 10000 43 (.agg (arr 64 G)) (.agg (arr 64 (bB B)))).run Try.prog p.w = .ok s p.w := fun p => by
          have h := equal64 (fun i => nb (G i)) B p.w
          rw [← eG, hs] at h
          exact h
        have hNQ : ∀ p : InC (Below wc.heap.size wc), (binOp .neq 43 (.agg (arr 64 G)) (.agg (arr 64 (bB B)))).run Try.prog p.w = .ok (.bool (!s)) p.w := fun p => by
          have h := neq64 (fun i => nb (G i)) B p.w
          rw [← eG, hs] at h
          exact h
        rw [hs] at HSE
        clear eG hg hs hG
        refine wp_quiet_in (Below wc.heap.size wc) (Below.refl _ _).drew (by kernel_rfl) (by kernel_rfl) ?_
        repeat (first
          | ((with_reducible show wpQuiet _ _ _ _ (⟨some 58, .load _ _, _, _, _, _⟩ :: _) _); refine wpQuiet_load rfl 43 (.tmp 1) rfl (.pointer (some ⟨w.heap.size, 0, none⟩)) rfl (fun w' hp => by { obtain ⟨p, rfl⟩ := hp; exact HL.out p }) ?_; simp only [Act.put, List.setIfInBounds_toArray, List.set_cons_succ, List.set_cons_zero])
          | go_big_quiet_step (first | (with_reducible exact calls_in (HC1.out _)) | (with_reducible exact calls_in (HC2.out _))))
        refine wpQuiet_nil ?_
        intro _ hw'
        obtain ⟨p, hw''⟩ := hw'
        subst hw''
        have S4 := Lib.hid (SR.out.beyond p.ok)
        generalize p.w = W4 at *
        clear hq0 hq1 hq2 hq3 hq4 hq5 hq6 hq7 hq8 HL hNE HC1 HC2 hEQ hNQ
        have r0 : W4.cell? ⟨w.heap.size + 1, 0, none⟩ = some (.int .u8 0) := World.rowIs.cell S4.out.res (by omega)
        have z0 := World.rowIs.frozen S4.out.res 0
        have r1 : W4.cell? ⟨w.heap.size + 1, 1, none⟩ = some (.int .u16 0) := World.rowIs.cell S4.out.res (by omega)
        have z1 := World.rowIs.frozen S4.out.res 1
        have r2 : W4.cell? ⟨w.heap.size + 1, 2, none⟩ = some (.int .u16 0) := World.rowIs.cell S4.out.res (by omega)
        have z2 := World.rowIs.frozen S4.out.res 2
        have r3 : W4.cell? ⟨w.heap.size + 1, 3, none⟩ = some (.int .u16 0) := World.rowIs.cell S4.out.res (by omega)
        have z3 := World.rowIs.frozen S4.out.res 3
        have r4 : W4.cell? ⟨w.heap.size + 1, 4, none⟩ = some (.int .u32 0) := World.rowIs.cell S4.out.res (by omega)
        have z4 := World.rowIs.frozen S4.out.res 4
        have r5 : W4.cell? ⟨w.heap.size + 1, 5, none⟩ = some (.bool false) := World.rowIs.cell S4.out.res (by omega)
        have z5 := World.rowIs.frozen S4.out.res 5
        have r6 : W4.cell? ⟨w.heap.size + 1, 6, none⟩ = some (.int .u32 0) := World.rowIs.cell S4.out.res (by omega)
        have z6 := World.rowIs.frozen S4.out.res 6
        have r7 : W4.cell? ⟨w.heap.size + 1, 7, none⟩ = some (.int .u64 0) := World.rowIs.cell S4.out.res (by omega)
        have z7 := World.rowIs.frozen S4.out.res 7
        have r8 : W4.cell? ⟨w.heap.size + 1, 8, none⟩ = some (.int .u32 0) := World.rowIs.cell S4.out.res (by omega)
        have z8 := World.rowIs.frozen S4.out.res 8
        have t0 : W4.cell? ⟨lb, 0, none⟩ = some (.int .u8 kind) := S4.out.fc 0 (by omega)
        have t1 : W4.cell? ⟨lb, 1, none⟩ = some (.int .u16 id) := S4.out.fc 1 (by omega)
        have t2 : W4.cell? ⟨lb, 2, none⟩ = some (.int .u16 queue) := S4.out.fc 2 (by omega)
        have t3 : W4.cell? ⟨lb, 3, none⟩ = some (.int .u16 size) := S4.out.fc 3 (by omega)
        have t4 : W4.cell? ⟨lb, 4, none⟩ = some (.int .u32 keep) := S4.out.fc 4 (by omega)
        have t5 : W4.cell? ⟨lb, 5, none⟩ = some (.bool wide) := S4.out.fc 5 (by omega)
        have t6 : W4.cell? ⟨lb, 6, none⟩ = some (.int .u32 offset) := S4.out.fc 6 (by omega)
        have t7 : W4.cell? ⟨lb, 7, none⟩ = some (.int .u64 value) := S4.out.fc 7 (by omega)
        have t8 : W4.cell? ⟨lb, 8, none⟩ = some (.int .u32 length) := S4.out.fc 8 (by omega)
        cases s
        · go_wp2_with fail
          exact bodyPost_ret (refdec_results _ _ (w.heap.size + 1) F0 false rfl rfl (nine F0 S4.out.res).1) rfl ⟨.inr ⟨fun k => by rw [HF.out] at k; exact absurd (HSE.out.1 k.2) (by decide), rfl⟩, S4.out.below.trans ((nine F0 S4.out.res).2.below (B := w.heap.size) S4.out.below.size (fun j hj e => by have e : j = w.heap.size + 1 := e; omega))⟩
        · go_wp2_with fail
          exact bodyPost_ret (refdec_results _ _ (w.heap.size + 1) ⟨kind, id, queue, size, keep, wide, offset, value, length⟩ true rfl rfl (nine ⟨kind, id, queue, size, keep, wide, offset, value, length⟩ S4.out.res).1) rfl ⟨.inl ⟨by rw [HF.out]; exact ⟨HV.out, HSE.out.2 trivial⟩, by rw [HF.out]⟩, S4.out.below.trans ((nine ⟨kind, id, queue, size, keep, wide, offset, value, length⟩ S4.out.res).2.below (B := w.heap.size) S4.out.below.size (fun j hj e => by have e : j = w.heap.size + 1 := e; omega))⟩
end Go.Proofs.Ytchkipafjnehfaa
