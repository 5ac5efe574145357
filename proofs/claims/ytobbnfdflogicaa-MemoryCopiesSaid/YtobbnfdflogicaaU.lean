/- memory: act. -/
import Derived.Test.YtobbnfdflogicaaT
import Derived.Test.YtobbnfdflogicaaAct
import Derived.Test.YtobbnfdflogicaaLHolds
import Derived.Deep.RegionHeld3
import Derived.Deep.DrawnRows
namespace Go.Proofs.Ytobbnfdflogicaa
open Go.RowKit
attribute [local go_sem ↓] Go.wp_at_zero Go.wp_at_succ

/-- What act leaves: the same contents in both memories, in the old blocks or in new ones. -/
def ActPost (S : Nat → Prop) (b B n : Nat) (L : List (Nat × Nat)) (w : World) (e : Ending) (w' : World) : Prop :=
  ∃ b' B' f' L' v', e = .returned (.tuple #[.pointer (some ⟨b', 0, none⟩), v', .bool true]) ∧ MemAt w' b' B' n f' L' ∧ RefAt (fun j => S j ∨ j = b' ∨ j = B') w' v' n f' L' ∧ L'.length ≤ L.length + 1 ∧
    Keeps (Two b B) w w' ∧ ((b' = b ∧ B' = B) ∨ (w.heap.size ≤ b' ∧ w.heap.size ≤ B'))

/-- What lies in memory while act runs, w the world at its start. -/
structure ActInv (b B n : Nat) (f : Nat → Int) (L : List (Nat × Nat)) (w : World) (ao : Addr) (c : Nat) (al : Option Addr) (ll cl : Nat) (x : Nat → Value) (W : World) : Prop where
  mem : MemAt W b B n f L
  box4 : W.rowIs w.heap.size 52 2 (fun i => if i = 0 then .slice (some ao) n c else .slice al ll cl)
  box5 : W.rowIs (w.heap.size + 1) 58 5 x
  res : W.rowIs (w.heap.size + 1 + 1) 52 2 (fun _ => .slice none 0 0)
  keeps : Keeps (Two b B) w W

def actX (what k addr : Int) (xo : Option Addr) (xl xc : Nat) (val : Int) : Nat → Value := fun i => (actCells what k addr xo xl xc val).getD i undef

/-- the blocks that act writes: the memory's, its bytes', the result's -/
def Act3 (b B H : Nat) : Nat → Prop := fun j => j = b ∨ j = B ∨ j = H + 1 + 1
theorem Keeps.setR {b B H : Nat} {a w : World} (h : Keeps (Act3 b B H) a w) (i : Nat) (u : Value) : Keeps (Act3 b B H) a (w.setCell ⟨H + 1 + 1, i, none⟩ u) := h.setCell (p := ⟨H + 1 + 1, i, none⟩) (fun _ => .inr (.inr rfl)) u
theorem Keeps.frozen' {S : Nat → Prop} {a b : World} (h : Keeps S a b) {p : Addr} (hr : p.block < a.heap.size) (hS : ¬ S p.block) (hf : a.frozen? p = false) : b.frozen? p = false :=
  (World.frozen?_of_block (w := a) (h.block p.block hr hS)).trans hf

theorem act_start {b B n : Nat} {f : Nat → Int} {L : List (Nat × Nat)} {w w3 : World} {ao : Addr} {c : Nat} {al : Option Addr} {ll cl : Nat} {what k addr : Int} {xo : Option Addr} {xl xc : Nat} {val : Int} (hM : MemAt w b B n f L)
    (hw : w3 = ((w.alloc (.cells #[.slice (some ao) n c, .slice al ll cl] 52)).alloc (.cells #[.int .i64 what, .int .i64 k, .int .u64 addr, .slice xo xl xc, .int .u8 val] 58)).alloc (.cells #[.slice none 0 0, .slice none 0 0] 52)) :
    ActInv b B n f L w ao c al ll cl (actX what k addr xo xl xc val) w3 := by
  subst hw
  have a1 := World.rowIs_alloc w #[.slice (some ao) n c, .slice al ll cl] 52 (fun i => if i = 0 then .slice (some ao) n c else .slice al ll cl) (fun i hi => by match i, hi with | 0, _ => rfl | 1, _ => rfl)
  have a2 := World.rowIs_alloc (w.alloc (.cells #[.slice (some ao) n c, .slice al ll cl] 52)) #[.int .i64 what, .int .i64 k, .int .u64 addr, .slice xo xl xc, .int .u8 val] 58 (actX what k addr xo xl xc val) (fun i hi => by match i, hi with | 0, _ => rfl | 1, _ => rfl | 2, _ => rfl | 3, _ => rfl | 4, _ => rfl)
  have a3 := World.rowIs_alloc ((w.alloc (.cells #[.slice (some ao) n c, .slice al ll cl] 52)).alloc (.cells #[.int .i64 what, .int .i64 k, .int .u64 addr, .slice xo xl xc, .int .u8 val] 58)) #[.slice none 0 0, .slice none 0 0] 52 (fun _ => .slice none 0 0) (fun i hi => by match i, hi with | 0, _ => rfl | 1, _ => rfl)
  simp only [World.size_alloc] at a2 a3
  exact ⟨((hM.alloc _).alloc _).alloc _, (a1.alloc _).alloc _, a2.alloc _, a3, (((Keeps.refl _ w).alloc _).alloc _).alloc _⟩

/-- what the specification's memory holds, in a later world -/
theorem RefAt.act {S : Nat → Prop} {b B n : Nat} {f : Nat → Int} {L : List (Nat × Nat)} {v : Value} {w W : World} (h : RefAt S w v n f L) (hSb : S b) (hSB : S B) (k : Keeps (Act3 b B w.heap.size) w W) : RefAt (fun j => S j ∨ j = w.heap.size + 1 + 1) W v n f L :=
  (h.more (T := fun j => S j ∨ j = w.heap.size + 1 + 1) (fun j hj e => e.elim id (fun e => by omega))).kept k (fun j e => by
    rcases e with rfl | rfl | e
    · exact .inl hSb
    · exact .inl hSB
    · exact .inr e)
theorem ActPost.of {S : Nat → Prop} {b B n : Nat} {f : Nat → Int} {L L' : List (Nat × Nat)} {v : Value} {w W : World} (hSb : S b) (hSB : S B) (hM : MemAt W b B n f L') (hR : RefAt (fun j => S j ∨ j = w.heap.size + 1 + 1) W v n f L') (hl : L'.length ≤ L.length + 1) (k : Keeps (Act3 b B w.heap.size) w W) :
    ActPost S b B n L w (.returned (.tuple #[.pointer (some ⟨b, 0, none⟩), v, .bool true])) W :=
  ⟨b, B, f, L', v, rfl, hM, hR.more (fun j _ e => by
    rcases e with e | rfl | rfl
    · exact .inl e
    · exact .inl hSb
    · exact .inl hSB), hl, k.mono (fun j hj e => by
    rcases e with e | e | e
    · exact .inl e
    · exact .inr e
    · omega), .inl ⟨rfl, rfl⟩⟩
theorem RefAt.cleared {S : Nat → Prop} {w : World} {x y : Value} {n : Nat} {f : Nat → Int} {L : List (Nat × Nat)} (h : RefAt S w (.agg #[x, y]) n f L) : RefAt S w (.agg #[x, .slice none 0 0]) n f [] := by
  obtain ⟨ao, c, al, cl, e, h2, h3, h4, h5, h6, h7, h8⟩ := h
  injection e with e
  injection e with e
  simp only [List.cons.injEq, and_true] at e
  obtain ⟨rfl, -⟩ := e
  exact ⟨ao, c, none, 0, rfl, h2, h3, Nat.le_refl _, by omega, fun _ => ⟨rfl, rfl⟩, h7, fun h => absurd h (by simp)⟩
theorem ActInv.keeps3 {b B n : Nat} {f : Nat → Int} {L : List (Nat × Nat)} {w : World} {ao : Addr} {c : Nat} {al : Option Addr} {ll cl : Nat} {x : Nat → Value} {W : World} (h : ActInv b B n f L w ao c al ll cl x W) : Keeps (Act3 b B w.heap.size) w W :=
  h.keeps.mono fun j _ e => by
    rcases e with e | e
    · exact .inl e
    · exact .inr (.inl e)
theorem wl_len (n : Nat) (L : List (Nat × Nat)) (addr k : Int) : (wl' n L addr k).length ≤ L.length + 1 := by
  unfold wl' logged
  split
  · split
    · omega
    · simp
  · omega

set_option maxRecDepth 100000 in
set_option maxHeartbeats 4000000 in
theorem act_clear (S : Nat → Prop) (b B : Nat) (v : Value) (n : Nat) (f : Nat → Int) (L : List (Nat × Nat)) (k addr : Int) (xo : Option Addr) (xl xc : Nat) (val : Int) (w : World) (hM : MemAt w b B n f L) (hR : RefAt S w v n f L) (hSb : S b) (hSB : S B) (hS : ∀ j, S j → j < w.heap.size) :
   Calls Try.prog 21 #[.pointer (some ⟨b, 0, none⟩), v, .agg (actCells 5 k addr xo xl xc val).toArray] w (ActPost S b B n L w) := by
  have HR := Lib.hid hR
  obtain ⟨ao, c, al, cl, rfl, h2, h3, h4, h5, h6, h7, h8⟩ := hR
  have HM := Lib.hid hM
  have hn4 := hM.small
  clear h6 h7 h8 hM
  show Calls Try.prog 21 #[_, _, .agg #[.int .i64 5, .int .i64 k, .int .u64 addr, .slice xo xl xc, .int .u8 val]] w _
  go_enter Try.func21, Try.ntmps21
  go_wp2_with fail
  obtain ⟨w3, hw3⟩ : ∃ w3, w3 = ((w.alloc (.cells #[.slice (some ao) n c, .slice none 0 0] 52)).alloc (.cells #[.int .i64 5, .int .i64 k, .int .u64 addr, .slice xo xl xc, .int .u8 val] 58)).alloc (.cells #[.slice none 0 0, .slice none 0 0] 52) := ⟨_, rfl⟩
  rw [← hw3]
  have hI := act_start HM.out hw3
  clear hw3
  have hb0 := HM.out.lt
  have hB0 := HM.out.lt'
  have hH := hI.res.lt
  have hH1 : w.heap.size + 1 < w3.heap.size := by omega
  have hH0 : w.heap.size < w3.heap.size := by omega
  have q0 : w3.cell? ⟨w.heap.size, 0, none⟩ = some (.slice (some ao) n c) := hI.box4.cell (i := 0) (by omega)
  have q1 : w3.cell? ⟨w.heap.size, 1, none⟩ = some (.slice none 0 0) := hI.box4.cell (i := 1) (by omega)
  have s0 := hI.res.cell (i := 0) (by omega)
  have s1 := hI.res.cell (i := 1) (by omega)
  have z0 := hI.res.frozen 0
  have z1 := hI.res.frozen 1
  have x1 : w3.cell? ⟨w.heap.size + 1, 1, none⟩ = some (.int .i64 k) := hI.box5.cell (i := 1) (by omega)
  have x2 : w3.cell? ⟨w.heap.size + 1, 2, none⟩ = some (.int .u64 addr) := hI.box5.cell (i := 2) (by omega)
  have x3 : w3.cell? ⟨w.heap.size + 1, 3, none⟩ = some (.slice xo xl xc) := hI.box5.cell (i := 3) (by omega)
  have x4 : w3.cell? ⟨w.heap.size + 1, 4, none⟩ = some (.int .u8 val) := hI.box5.cell (i := 4) (by omega)
  have HI := Lib.hid hI
  clear hI
  go_region_held3 (fun w' => w'.cell? ⟨w.heap.size, 0, none⟩ = some (.slice (some ao) n c) ∧ w'.cell? ⟨w.heap.size, 1, none⟩ = some (.slice none 0 0)) (exact ⟨Keeps.cell (S := Act3 b B w.heap.size) (by repeat (first | assumption | exact Keeps.refl _ _ | refine Keeps.drew ?_ | refine Keeps.setR ?_ _ _)) q0 (fun e => by rcases e with e | e | e <;> simp only [] at e <;> omega), Keeps.cell (S := Act3 b B w.heap.size) (by repeat (first | assumption | exact Keeps.refl _ _ | refine Keeps.drew ?_ | refine Keeps.setR ?_ _ _)) q1 (fun e => by rcases e with e | e | e <;> simp only [] at e <;> omega)⟩) (first | (go_at_call 15; go_loud (refine (clear_ok b B n f L _ (HI.out.mem.kept (S := One (w.heap.size + 1 + 1)) (by repeat (first | exact Keeps.refl _ _ | refine Keeps.drew ?_ | refine Keeps.set1 ?_ _ _)) (fun e => by have e : b = w.heap.size + 1 + 1 := e; omega) (fun e => by have e : B = w.heap.size + 1 + 1 := e; omega))).mono ?_; rintro e w4 ⟨rfl, hk4, hM4⟩; have K4 : Keeps (Act3 b B w.heap.size) w3 w4 := Keeps.trans (by repeat (first | assumption | exact Keeps.refl _ _ | refine Keeps.drew ?_ | refine Keeps.setR ?_ _ _)) (hk4.mono (fun _ _ e => .inl e)); (first | (have s0 : w4.cell? ⟨w.heap.size + 1 + 1, 0, none⟩ = some (.slice none 0 0) := hk4.cell (by go_simp) (fun e => by have e : w.heap.size + 1 + 1 = b := e; omega); have s1 : w4.cell? ⟨w.heap.size + 1 + 1, 1, none⟩ = some (.slice none 0 0) := hk4.cell (by go_simp) (fun e => by have e : w.heap.size + 1 + 1 = b := e; omega)) | (have s0 : w4.cell? ⟨w.heap.size + 1 + 1, 0, none⟩ = some (.slice (some ao) n c) := hk4.cell (by go_simp) (fun e => by have e : w.heap.size + 1 + 1 = b := e; omega); have s1 : w4.cell? ⟨w.heap.size + 1 + 1, 1, none⟩ = some (.slice none 0 0) := hk4.cell (by go_simp) (fun e => by have e : w.heap.size + 1 + 1 = b := e; omega))); have hH4 : w.heap.size + 1 + 1 < w4.heap.size := Nat.lt_of_lt_of_le (by first | omega | (simp; done) | (simp; omega)) hk4.size; have z0 : w4.frozen? ⟨w.heap.size + 1 + 1, 0, none⟩ = false := (hk4.frozen' (by first | omega | (simp; done) | (simp; omega)) (fun e => by have e : w.heap.size + 1 + 1 = b := e; omega) (by go_simp)); have z1 : w4.frozen? ⟨w.heap.size + 1 + 1, 1, none⟩ = false := (hk4.frozen' (by first | omega | (simp; done) | (simp; omega)) (fun e => by have e : w.heap.size + 1 + 1 = b := e; omega) (by go_simp)))) | (go_at_call 11; refine (num_any _ _).mono ?_; rintro e w' ⟨rfl, rfl⟩))
  go_wp2_with fail
  obtain ⟨W, hW⟩ : ∃ W, W = (w4.setCell ⟨w.heap.size + 1 + 1, 0, none⟩ (.slice (some ao) n c)).setCell ⟨w.heap.size + 1 + 1, 1, none⟩ (.slice none 0 0) := ⟨_, rfl⟩
  have KW : Keeps (Act3 b B w.heap.size) w W := HI.out.keeps3.trans (by rw [hW]; exact (K4.setR _ _).setR _ _)
  have hM : MemAt W b B n f [] := by rw [hW]; exact hM4.kept (((Keeps.refl (One (w.heap.size + 1 + 1)) _).set1 _ _).set1 _ _) (fun e => by have e : b = w.heap.size + 1 + 1 := e; omega) (fun e => by have e : B = w.heap.size + 1 + 1 := e; omega)
  have u0 : W.cell? ⟨w.heap.size + 1 + 1, 0, none⟩ = some (.slice (some ao) n c) := by rw [hW]; go_simp
  have u1 : W.cell? ⟨w.heap.size + 1 + 1, 1, none⟩ = some (.slice none 0 0) := by rw [hW]; go_simp
  rw [← hW]
  exact bodyPost_ret (v := .tuple #[.pointer (some ⟨b, 0, none⟩), .agg #[.slice (some ao) n c, .slice none 0 0], .bool true]) (by simp [results, Try.results21, go_sem, u0, u1]) rfl (ActPost.of hSb hSB hM (HR.out.act hSb hSB KW).cleared (by simp) KW)

set_option maxRecDepth 100000 in
set_option maxHeartbeats 4000000 in
theorem act_check (S : Nat → Prop) (b B : Nat) (v : Value) (n : Nat) (f : Nat → Int) (L : List (Nat × Nat)) (k addr : Int) (xo : Option Addr) (xl xc : Nat) (val : Int) (w : World) (hM : MemAt w b B n f L) (hR : RefAt S w v n f L) (hSb : S b) (hSB : S B) (hS : ∀ j, S j → j < w.heap.size) (ha : 0 ≤ addr) (ha' : addr ≤ 18446744073709551615) (hk : -9223372036854775808 ≤ k) (hk' : k ≤ 9223372036854775807) (hL : L.length ≤ 999) :
   Calls Try.prog 21 #[.pointer (some ⟨b, 0, none⟩), v, .agg (actCells 6 k addr xo xl xc val).toArray] w (ActPost S b B n L w) := by
  have HR := Lib.hid hR
  obtain ⟨ao, c, al, cl, rfl, h2, h3, h4, h5, h6, h7, h8⟩ := hR
  have HM := Lib.hid hM
  have hn4 := hM.small
  clear h6 h7 h8 hM
  show Calls Try.prog 21 #[_, _, .agg #[.int .i64 6, .int .i64 k, .int .u64 addr, .slice xo xl xc, .int .u8 val]] w _
  go_enter Try.func21, Try.ntmps21
  go_wp2_with fail
  obtain ⟨w3, hw3⟩ : ∃ w3, w3 = ((w.alloc (.cells #[.slice (some ao) n c, .slice al L.length cl] 52)).alloc (.cells #[.int .i64 6, .int .i64 k, .int .u64 addr, .slice xo xl xc, .int .u8 val] 58)).alloc (.cells #[.slice none 0 0, .slice none 0 0] 52) := ⟨_, rfl⟩
  rw [← hw3]
  have hI := act_start HM.out hw3
  clear hw3
  have hb0 := HM.out.lt
  have hB0 := HM.out.lt'
  have hH := hI.res.lt
  have hH1 : w.heap.size + 1 < w3.heap.size := by omega
  have hH0 : w.heap.size < w3.heap.size := by omega
  have q0 : w3.cell? ⟨w.heap.size, 0, none⟩ = some (.slice (some ao) n c) := hI.box4.cell (i := 0) (by omega)
  have q1 : w3.cell? ⟨w.heap.size, 1, none⟩ = some (.slice al L.length cl) := hI.box4.cell (i := 1) (by omega)
  have s0 := hI.res.cell (i := 0) (by omega)
  have s1 := hI.res.cell (i := 1) (by omega)
  have z0 := hI.res.frozen 0
  have z1 := hI.res.frozen 1
  have x1 : w3.cell? ⟨w.heap.size + 1, 1, none⟩ = some (.int .i64 k) := hI.box5.cell (i := 1) (by omega)
  have x2 : w3.cell? ⟨w.heap.size + 1, 2, none⟩ = some (.int .u64 addr) := hI.box5.cell (i := 2) (by omega)
  have x3 : w3.cell? ⟨w.heap.size + 1, 3, none⟩ = some (.slice xo xl xc) := hI.box5.cell (i := 3) (by omega)
  have x4 : w3.cell? ⟨w.heap.size + 1, 4, none⟩ = some (.int .u8 val) := hI.box5.cell (i := 4) (by omega)
  have HI := Lib.hid hI
  clear hI
  go_region_held3 (fun w' => w'.cell? ⟨w.heap.size, 0, none⟩ = some (.slice (some ao) n c) ∧ w'.cell? ⟨w.heap.size, 1, none⟩ = some (.slice al L.length cl) ∧ w'.cell? ⟨w.heap.size + 1, 1, none⟩ = some (.int .i64 k) ∧ w'.cell? ⟨w.heap.size + 1, 2, none⟩ = some (.int .u64 addr)) (exact ⟨Keeps.cell (S := One (w.heap.size + 1 + 1)) (by repeat (first | assumption | exact Keeps.refl _ _ | refine Keeps.drew ?_ | refine Keeps.set1 ?_ _ _)) q0 (fun e => by have e := (show _ = w.heap.size + 1 + 1 from e); simp only [] at e; omega), Keeps.cell (S := One (w.heap.size + 1 + 1)) (by repeat (first | assumption | exact Keeps.refl _ _ | refine Keeps.drew ?_ | refine Keeps.set1 ?_ _ _)) q1 (fun e => by have e := (show _ = w.heap.size + 1 + 1 from e); simp only [] at e; omega), Keeps.cell (S := One (w.heap.size + 1 + 1)) (by repeat (first | assumption | exact Keeps.refl _ _ | refine Keeps.drew ?_ | refine Keeps.set1 ?_ _ _)) x1 (fun e => by have e := (show _ = w.heap.size + 1 + 1 from e); simp only [] at e; omega), Keeps.cell (S := One (w.heap.size + 1 + 1)) (by repeat (first | assumption | exact Keeps.refl _ _ | refine Keeps.drew ?_ | refine Keeps.set1 ?_ _ _)) x2 (fun e => by have e := (show _ = w.heap.size + 1 + 1 from e); simp only [] at e; omega)⟩) (first | (go_at_call 18; refine (check_is b B n f L addr k (chk n addr k) _ (HI.out.mem.kept (S := One (w.heap.size + 1 + 1)) (by repeat (first | assumption | exact Keeps.refl _ _ | refine Keeps.drew ?_ | refine Keeps.set1 ?_ _ _)) (fun e => by have e : b = w.heap.size + 1 + 1 := e; omega) (fun e => by have e : B = w.heap.size + 1 + 1 := e; omega)) ha ha' hk hk' rfl).mono ?_; rintro e w4 ⟨rfl, hb4⟩; have hk4 := Keeps.of_below (S := fun _ => False) hb4; clear hb4; have K4 : Keeps (One (w.heap.size + 1 + 1)) w3 w4 := Keeps.trans (by repeat (first | assumption | exact Keeps.refl _ _ | refine Keeps.drew ?_ | refine Keeps.set1 ?_ _ _)) (Keeps.mono hk4 (fun _ _ e => False.elim e)); (first | (have s0 : w4.cell? ⟨w.heap.size + 1 + 1, 0, none⟩ = some (.slice none 0 0) := hk4.cell (by go_simp) (fun e => e); have s1 : w4.cell? ⟨w.heap.size + 1 + 1, 1, none⟩ = some (.slice none 0 0) := hk4.cell (by go_simp) (fun e => e)) | (have s0 : w4.cell? ⟨w.heap.size + 1 + 1, 0, none⟩ = some (.slice (some ao) n c) := hk4.cell (by go_simp) (fun e => e); have s1 : w4.cell? ⟨w.heap.size + 1 + 1, 1, none⟩ = some (.slice al L.length cl) := hk4.cell (by go_simp) (fun e => e))); have hH4 : w.heap.size + 1 + 1 < w4.heap.size := Nat.lt_of_lt_of_le (by first | omega | (simp; done) | (simp; omega)) hk4.size; have z0 : w4.frozen? ⟨w.heap.size + 1 + 1, 0, none⟩ = false := (hk4.frozen' (by first | omega | (simp; done) | (simp; omega)) (fun e => e) (by go_simp)); have z1 : w4.frozen? ⟨w.heap.size + 1 + 1, 1, none⟩ = false := (hk4.frozen' (by first | omega | (simp; done) | (simp; omega)) (fun e => e) (by go_simp))) | (go_at_call 38; refine (rcheck_any (some ao) n c _ addr k _ hn4 ha ha' hk hk').mono ?_; rintro e w4 ⟨rfl, hb4⟩; have hk4 := Keeps.of_below (S := fun _ => False) hb4; clear hb4; have K4 : Keeps (One (w.heap.size + 1 + 1)) w3 w4 := Keeps.trans (by repeat (first | assumption | exact Keeps.refl _ _ | refine Keeps.drew ?_ | refine Keeps.set1 ?_ _ _)) (Keeps.mono hk4 (fun _ _ e => False.elim e)); go_loud ((first | (have s0 : w4.cell? ⟨w.heap.size + 1 + 1, 0, none⟩ = some (.slice none 0 0) := hk4.cell (by go_simp) (fun e => e); have s1 : w4.cell? ⟨w.heap.size + 1 + 1, 1, none⟩ = some (.slice none 0 0) := hk4.cell (by go_simp) (fun e => e)) | (have s0 : w4.cell? ⟨w.heap.size + 1 + 1, 0, none⟩ = some (.slice (some ao) n c) := hk4.cell (by go_simp) (fun e => e); have s1 : w4.cell? ⟨w.heap.size + 1 + 1, 1, none⟩ = some (.slice al L.length cl) := hk4.cell (by go_simp) (fun e => e))); have hH4 : w.heap.size + 1 + 1 < w4.heap.size := Nat.lt_of_lt_of_le (by first | omega | (simp; done) | (simp; omega)) hk4.size; have z0 : w4.frozen? ⟨w.heap.size + 1 + 1, 0, none⟩ = false := (hk4.frozen' (by first | omega | (simp; done) | (simp; omega)) (fun e => e) (by go_simp)); have z1 : w4.frozen? ⟨w.heap.size + 1 + 1, 1, none⟩ = false := (hk4.frozen' (by first | omega | (simp; done) | (simp; omega)) (fun e => e) (by go_simp)))) | (go_at_call 11; refine (num_any _ _).mono ?_; rintro e w' ⟨rfl, rfl⟩))
  go_wp2_with fail
  obtain ⟨W, hW⟩ : ∃ W, W = (w4.setCell ⟨w.heap.size + 1 + 1, 0, none⟩ (.slice (some ao) n c)).setCell ⟨w.heap.size + 1 + 1, 1, none⟩ (.slice al L.length cl) := ⟨_, rfl⟩
  have KW4 : Keeps (Act3 b B w.heap.size) w4 W := by rw [hW]; exact (((Keeps.refl _ _).setR _ _).setR _ _)
  have KW : Keeps (Act3 b B w.heap.size) w W := Keeps.trans (HI.out.keeps3.trans (Keeps.mono K4 (fun _ _ e => .inr (.inr e)))) KW4
  have KW1 : Keeps (One (w.heap.size + 1 + 1)) w4 W := by rw [hW]; exact (((Keeps.refl _ _).set1 _ _).set1 _ _)
  have hM := (HI.out.mem.kept K4 (fun e => by have e : b = w.heap.size + 1 + 1 := e; omega) (fun e => by have e : B = w.heap.size + 1 + 1 := e; omega)).kept KW1 (fun e => by have e : b = w.heap.size + 1 + 1 := e; omega) (fun e => by have e : B = w.heap.size + 1 + 1 := e; omega)
  have u0 : W.cell? ⟨w.heap.size + 1 + 1, 0, none⟩ = some (.slice (some ao) n c) := by rw [hW]; go_simp
  have u1 : W.cell? ⟨w.heap.size + 1 + 1, 1, none⟩ = some (.slice al L.length cl) := by rw [hW]; go_simp
  rw [← hW]
  exact bodyPost_ret (v := .tuple #[.pointer (some ⟨b, 0, none⟩), .agg #[.slice (some ao) n c, .slice al L.length cl], .bool true]) (by simp [results, Try.results21, go_sem, u0, u1]) rfl (ActPost.of hSb hSB hM (HR.out.act hSb hSB KW) (by omega) KW)

set_option maxRecDepth 100000 in
set_option maxHeartbeats 4000000 in
theorem act_fill (S : Nat → Prop) (b B : Nat) (v : Value) (n : Nat) (f : Nat → Int) (L : List (Nat × Nat)) (k addr : Int) (xo : Option Addr) (xl xc : Nat) (val : Int) (w : World) (hM : MemAt w b B n f L) (hR : RefAt S w v n f L) (hSb : S b) (hSB : S B) (hS : ∀ j, S j → j < w.heap.size) (ha : 0 ≤ addr) (ha' : addr ≤ 18446744073709551615) (hk : -9223372036854775808 ≤ k) (hk' : k ≤ 9223372036854775807) (hL : L.length ≤ 999) :
   Calls Try.prog 21 #[.pointer (some ⟨b, 0, none⟩), v, .agg (actCells 2 k addr xo xl xc val).toArray] w (ActPost S b B n L w) := by
  have HR := Lib.hid hR
  obtain ⟨ao, c, al, cl, rfl, h2, h3, h4, h5, h6, h7, h8⟩ := hR
  have HM := Lib.hid hM
  have hn4 := hM.small
  clear h6 h7 h8 hM
  show Calls Try.prog 21 #[_, _, .agg #[.int .i64 2, .int .i64 k, .int .u64 addr, .slice xo xl xc, .int .u8 val]] w _
  go_enter Try.func21, Try.ntmps21
  go_wp2_with fail
  obtain ⟨w3, hw3⟩ : ∃ w3, w3 = ((w.alloc (.cells #[.slice (some ao) n c, .slice al L.length cl] 52)).alloc (.cells #[.int .i64 2, .int .i64 k, .int .u64 addr, .slice xo xl xc, .int .u8 val] 58)).alloc (.cells #[.slice none 0 0, .slice none 0 0] 52) := ⟨_, rfl⟩
  rw [← hw3]
  have hI := act_start HM.out hw3
  clear hw3
  have hb0 := HM.out.lt
  have hB0 := HM.out.lt'
  have hH := hI.res.lt
  have hH1 : w.heap.size + 1 < w3.heap.size := by omega
  have hH0 : w.heap.size < w3.heap.size := by omega
  have q0 : w3.cell? ⟨w.heap.size, 0, none⟩ = some (.slice (some ao) n c) := hI.box4.cell (i := 0) (by omega)
  have q1 : w3.cell? ⟨w.heap.size, 1, none⟩ = some (.slice al L.length cl) := hI.box4.cell (i := 1) (by omega)
  have s0 := hI.res.cell (i := 0) (by omega)
  have s1 := hI.res.cell (i := 1) (by omega)
  have z0 := hI.res.frozen 0
  have z1 := hI.res.frozen 1
  have x1 : w3.cell? ⟨w.heap.size + 1, 1, none⟩ = some (.int .i64 k) := hI.box5.cell (i := 1) (by omega)
  have x2 : w3.cell? ⟨w.heap.size + 1, 2, none⟩ = some (.int .u64 addr) := hI.box5.cell (i := 2) (by omega)
  have x3 : w3.cell? ⟨w.heap.size + 1, 3, none⟩ = some (.slice xo xl xc) := hI.box5.cell (i := 3) (by omega)
  have x4 : w3.cell? ⟨w.heap.size + 1, 4, none⟩ = some (.int .u8 val) := hI.box5.cell (i := 4) (by omega)
  have HI := Lib.hid hI
  clear hI
  refine (rfill_any (fun j => S j ∨ j = w.heap.size + 1 + 1) _ n f L addr k val w3 (HR.out.act hSb hSB HI.out.keeps3) hn4 ha ha' hk hk' (by omega) (fun j e => by rcases e with e | e; exact Nat.lt_trans (hS j e) (by omega); omega)).mono ?_
  rintro e w4 ⟨v4, rfl, hr4, hb4⟩
  have HR4 := Lib.hid hr4
  have HB4 := Lib.hid hb4
  obtain ⟨ao4, c4, al4, cl4, rfl, -⟩ := hr4
  have hle := hb4.size
  go_wp2_with fail
  obtain ⟨w5, hw5⟩ : ∃ w5, w5 = w4.alloc (.cells #[.slice (some ao4) n c4, .slice al4 (wl' n L addr k).length cl4] 52) := ⟨_, rfl⟩
  rw [← hw5]
  have hb35 : Below w3.heap.size w3 w5 := by rw [hw5]; exact HB4.out.alloc HB4.out.size _
  have HR5 : Hid (RefAt (fun j => S j ∨ j = w.heap.size + 1 + 1) w5 (.agg #[.slice (some ao4) n c4, .slice al4 (wl' n L addr k).length cl4]) n (wf' n f addr k (fun _ => val)) (wl' n L addr k)) := by rw [hw5]; exact Lib.hid (HR4.out.below ((Below.refl _ _).alloc (Nat.le_refl _) _))
  have r0 : w5.cell? ⟨w4.heap.size, 0, none⟩ = some (.slice (some ao4) n c4) := by rw [hw5]; go_simp
  have r1 : w5.cell? ⟨w4.heap.size, 1, none⟩ = some (.slice al4 (wl' n L addr k).length cl4) := by rw [hw5]; go_simp
  clear hw5
  have HB35 := Lib.hid hb35
  have HM5 := Lib.hid (HI.out.mem.below hb35)
  have s0 : w5.cell? ⟨w.heap.size + 1 + 1, 0, none⟩ = some (.slice none 0 0) := (hb35.cell (p := ⟨w.heap.size + 1 + 1, 0, none⟩) hH).trans s0
  have s1 : w5.cell? ⟨w.heap.size + 1 + 1, 1, none⟩ = some (.slice none 0 0) := (hb35.cell (p := ⟨w.heap.size + 1 + 1, 1, none⟩) hH).trans s1
  have z0 : w5.frozen? ⟨w.heap.size + 1 + 1, 0, none⟩ = false := (hb35.frozen (p := ⟨w.heap.size + 1 + 1, 0, none⟩) hH).trans z0
  have z1 : w5.frozen? ⟨w.heap.size + 1 + 1, 1, none⟩ = false := (hb35.frozen (p := ⟨w.heap.size + 1 + 1, 1, none⟩) hH).trans z1
  have x1 : w5.cell? ⟨w.heap.size + 1, 1, none⟩ = some (.int .i64 k) := (hb35.cell (p := ⟨w.heap.size + 1, 1, none⟩) (Nat.lt_of_succ_lt hH)).trans x1
  have x2 : w5.cell? ⟨w.heap.size + 1, 2, none⟩ = some (.int .u64 addr) := (hb35.cell (p := ⟨w.heap.size + 1, 2, none⟩) (Nat.lt_of_succ_lt hH)).trans x2
  have x3 : w5.cell? ⟨w.heap.size + 1, 3, none⟩ = some (.slice xo xl xc) := (hb35.cell (p := ⟨w.heap.size + 1, 3, none⟩) (Nat.lt_of_succ_lt hH)).trans x3
  have x4 : w5.cell? ⟨w.heap.size + 1, 4, none⟩ = some (.int .u8 val) := (hb35.cell (p := ⟨w.heap.size + 1, 4, none⟩) (Nat.lt_of_succ_lt hH)).trans x4
  have hH5 : w.heap.size + 1 + 1 < w5.heap.size := Nat.lt_of_lt_of_le hH hb35.size
  clear hb35 hb4
  go_region_held3 (fun w' => w'.cell? ⟨w4.heap.size, 0, none⟩ = some (.slice (some ao4) n c4) ∧ w'.cell? ⟨w4.heap.size, 1, none⟩ = some (.slice al4 (wl' n L addr k).length cl4) ∧ w'.cell? ⟨w.heap.size + 1, 1, none⟩ = some (.int .i64 k) ∧ w'.cell? ⟨w.heap.size + 1, 2, none⟩ = some (.int .u64 addr) ∧ w'.cell? ⟨w.heap.size + 1, 4, none⟩ = some (.int .u8 val)) (exact ⟨Keeps.cell (S := Act3 b B w.heap.size) (by repeat (first | assumption | exact Keeps.refl _ _ | refine Keeps.drew ?_ | refine Keeps.setR ?_ _ _)) r0 (fun e => by rcases e with e | e | e <;> simp only [] at e <;> omega), Keeps.cell (S := Act3 b B w.heap.size) (by repeat (first | assumption | exact Keeps.refl _ _ | refine Keeps.drew ?_ | refine Keeps.setR ?_ _ _)) r1 (fun e => by rcases e with e | e | e <;> simp only [] at e <;> omega), Keeps.cell (S := Act3 b B w.heap.size) (by repeat (first | assumption | exact Keeps.refl _ _ | refine Keeps.drew ?_ | refine Keeps.setR ?_ _ _)) x1 (fun e => by rcases e with e | e | e <;> simp only [] at e <;> omega), Keeps.cell (S := Act3 b B w.heap.size) (by repeat (first | assumption | exact Keeps.refl _ _ | refine Keeps.drew ?_ | refine Keeps.setR ?_ _ _)) x2 (fun e => by rcases e with e | e | e <;> simp only [] at e <;> omega), Keeps.cell (S := Act3 b B w.heap.size) (by repeat (first | assumption | exact Keeps.refl _ _ | refine Keeps.drew ?_ | refine Keeps.setR ?_ _ _)) x4 (fun e => by rcases e with e | e | e <;> simp only [] at e <;> omega)⟩) (first | (go_at_call 26; refine (pfill_any b B n f L addr k val _ (HM5.out.kept (S := One (w.heap.size + 1 + 1)) (by repeat (first | assumption | exact Keeps.refl _ _ | refine Keeps.drew ?_ | refine Keeps.set1 ?_ _ _)) (fun e => by have e : b = w.heap.size + 1 + 1 := e; omega) (fun e => by have e : B = w.heap.size + 1 + 1 := e; omega)) ha ha' hk hk' (by omega)).mono ?_; rintro e w6 ⟨rfl, hM6, hk6⟩; have K6 : Keeps (Act3 b B w.heap.size) w5 w6 := Keeps.trans (by repeat (first | assumption | exact Keeps.refl _ _ | refine Keeps.drew ?_ | refine Keeps.setR ?_ _ _)) (hk6.mono (fun _ _ e => e.elim .inl (fun e => .inr (.inl e)))); go_loud ((first | (have s0 : w6.cell? ⟨w.heap.size + 1 + 1, 0, none⟩ = some (.slice none 0 0) := hk6.cell (by go_simp) (fun e => by rcases e with e | e <;> simp only [] at e <;> omega); have s1 : w6.cell? ⟨w.heap.size + 1 + 1, 1, none⟩ = some (.slice none 0 0) := hk6.cell (by go_simp) (fun e => by rcases e with e | e <;> simp only [] at e <;> omega)) | (have s0 : w6.cell? ⟨w.heap.size + 1 + 1, 0, none⟩ = some (.slice (some ao) n c) := hk6.cell (by go_simp) (fun e => by rcases e with e | e <;> simp only [] at e <;> omega); have s1 : w6.cell? ⟨w.heap.size + 1 + 1, 1, none⟩ = some (.slice al4 (wl' n L addr k).length cl4) := hk6.cell (by go_simp) (fun e => by rcases e with e | e <;> simp only [] at e <;> omega))); have hH4 : w.heap.size + 1 + 1 < w6.heap.size := Nat.lt_of_lt_of_le (by first | omega | (simp; done) | (simp; omega)) hk6.size; have z0 : w6.frozen? ⟨w.heap.size + 1 + 1, 0, none⟩ = false := (hk6.frozen' (by first | omega | (simp; done) | (simp; omega)) (fun e => by rcases e with e | e <;> simp only [] at e <;> omega) (by go_simp)); have z1 : w6.frozen? ⟨w.heap.size + 1 + 1, 1, none⟩ = false := (hk6.frozen' (by first | omega | (simp; done) | (simp; omega)) (fun e => by rcases e with e | e <;> simp only [] at e <;> omega) (by go_simp)))) | (go_at_call 11; refine (num_any _ _).mono ?_; rintro e w' ⟨rfl, rfl⟩))
  go_wp2_with fail
  obtain ⟨W, hW⟩ : ∃ W, W = (w6.setCell ⟨w.heap.size + 1 + 1, 0, none⟩ (.slice (some ao4) n c4)).setCell ⟨w.heap.size + 1 + 1, 1, none⟩ (.slice al4 (wl' n L addr k).length cl4) := ⟨_, rfl⟩
  have KW4 : Keeps (Act3 b B w.heap.size) w6 W := by rw [hW]; exact (((Keeps.refl _ _).setR _ _).setR _ _)
  have KW : Keeps (Act3 b B w.heap.size) w W := Keeps.trans (HI.out.keeps3.trans (Keeps.trans (Keeps.of_below HB35.out) K6)) KW4
  have KW1 : Keeps (One (w.heap.size + 1 + 1)) w6 W := by rw [hW]; exact (((Keeps.refl _ _).set1 _ _).set1 _ _)
  have hM := (hM6).kept KW1 (fun e => by have e : b = w.heap.size + 1 + 1 := e; omega) (fun e => by have e : B = w.heap.size + 1 + 1 := e; omega)
  have u0 : W.cell? ⟨w.heap.size + 1 + 1, 0, none⟩ = some (.slice (some ao4) n c4) := by rw [hW]; go_simp
  have u1 : W.cell? ⟨w.heap.size + 1 + 1, 1, none⟩ = some (.slice al4 (wl' n L addr k).length cl4) := by rw [hW]; go_simp
  rw [← hW]
  exact bodyPost_ret (v := .tuple #[.pointer (some ⟨b, 0, none⟩), .agg #[.slice (some ao4) n c4, .slice al4 (wl' n L addr k).length cl4], .bool true]) (by simp [results, Try.results21, go_sem, u0, u1]) rfl (ActPost.of hSb hSB hM (HR5.out.kept (Keeps.trans K6 KW4) (fun j e => by rcases e with rfl | rfl | e; exact .inl hSb; exact .inl hSB; exact .inr e)) (wl_len n L addr k) KW)
end Go.Proofs.Ytobbnfdflogicaa
