/- prp: Build: what its panics leave; the ways that end ahead of the lists. -/
import Derived.Test.YtfmabknhfehdcaaGreatZP21
import Derived.BigRegion
import Derived.RegionTactic
namespace Go.Proofs.YtfmabknhfehdcaaGreat
set_option linter.unusedSimpArgs false
set_option linter.unusedVariables false
open Go.RowKit
theorem clears_build (fb sb : Nat) (hne : fb ≠ sb) : Clears 45 #[.pointer (some ⟨fb, 0, none⟩), .pointer (some ⟨sb, 0, none⟩)] (Two fb sb) (fun w => ((∃ v, w.cell? ⟨fb, 0, none⟩ = some v) ∧ w.frozen? ⟨fb, 0, none⟩ = false) ∧ (∃ v, w.cell? ⟨sb, 0, none⟩ = some v) ∧ w.frozen? ⟨sb, 0, none⟩ = false)
  (fun w => w.cell? ⟨fb, 0, none⟩ = some (.int .u64 0) ∧ w.cell? ⟨sb, 0, none⟩ = some (.int .u64 0)) := by
 refine ⟨fun args w => by simp [go_sem], fun w h => ?_⟩
 obtain ⟨⟨⟨v, hc⟩, hf⟩, ⟨v2, hc2⟩, hf2⟩ := h
 have hk1 : Keeps (Two fb sb) w (w.setCell ⟨fb, 0, none⟩ (.int .u64 0)) := ((Keeps.refl (One fb) w).set1 _ _).two1
 have hk2 : Keeps (Two fb sb) w ((w.setCell ⟨fb, 0, none⟩ (.int .u64 0)).setCell ⟨sb, 0, none⟩ (.int .u64 0)) := hk1.setCell (p := ⟨sb, 0, none⟩) (fun _ => .inr rfl) _
 have e1 : (w.setCell ⟨fb, 0, none⟩ (.int .u64 0)).cell? ⟨sb, 0, none⟩ = some v2 := (World.cell?_setCell_other w _ _ _ (fun e => hne (by cases e; rfl))).trans hc2
 have e2 : ((w.setCell ⟨fb, 0, none⟩ (.int .u64 0)).setCell ⟨sb, 0, none⟩ (.int .u64 0)).cell? ⟨fb, 0, none⟩ = some (.int .u64 0) := (World.cell?_setCell_other _ _ _ _ (fun e => hne (by cases e; rfl))).trans (World.cell?_setCell_same _ _ _ hc)
 have HK2 := Lib.hid hk2
 have HE2 := Lib.hid e2
 have HE3 := Lib.hid (World.cell?_setCell_same _ _ (.int .u64 0) e1)
 have hf3 : (w.setCell ⟨fb, 0, none⟩ (.int .u64 0)).frozen? ⟨sb, 0, none⟩ = false := (World.frozen?_of_block (w := w) (a := ⟨sb, 0, none⟩) (Below.heap_setCell _ _ _ _ (fun e => hne e.symm))).trans hf2
 clear hk1 hk2 e2
 go_enter Tryz.func45, Tryz.ntmps45
 go_wp2_with fail
 go_end0
 exact ⟨rfl, HK2.out, HE2.out, HE3.out⟩
theorem build_results (tmps : Array Value) (w : World) (fb sb eb : Nat) (v1 v2 v3 : Value) (h1 : tmps.getD 10 undef = .pointer (some ⟨fb, 0, none⟩)) (h2 : tmps.getD 11 undef = .pointer (some ⟨sb, 0, none⟩)) (h3 : tmps.getD 12 undef = .pointer (some ⟨eb, 0, none⟩))
  (c1 : w.cell? ⟨fb, 0, none⟩ = some v1) (c2 : w.cell? ⟨sb, 0, none⟩ = some v2) (c3 : w.cell? ⟨eb, 0, none⟩ = some v3) :
  (results Tryz.f20 tmps).run Tryz.prog w = .ok (.tuple #[v1, v2, v3]) w := by
 have h1' : tmps[10]?.getD undef = .pointer (some ⟨fb, 0, none⟩) := by simpa using h1
 have h2' : tmps[11]?.getD undef = .pointer (some ⟨sb, 0, none⟩) := by simpa using h2
 have h3' : tmps[12]?.getD undef = .pointer (some ⟨eb, 0, none⟩) := by simpa using h3
 simp [results, Tryz.results20, h1', h2', h3', asAddr, go_sem, c1, c2, c3]
/-- the deferred call -/
def dfrB (fb sb eb : Nat) : Deferred := { target := .fn (.func 44) #[], args := #[.pointer (some ⟨eb, 0, none⟩), .func (.func 45) #[] #[.pointer (some ⟨fb, 0, none⟩), .pointer (some ⟨sb, 0, none⟩)]] }
/-- What lies in memory while Build runs: its variables. -/
structure BSt (w : World) (mp : Value) (x : Int) (W : World) : Prop where
 below : Below w.heap.size w W
 m : W.cell? ⟨w.heap.size, 0, none⟩ = some mp
 r1 : W.rowIs (w.heap.size + 1) 24 1 (fun _ => .int .u64 x)
 r2 : W.rowIs (w.heap.size + 1 + 1) 24 1 (fun _ => .int .u64 0)
 r3 : W.rowIs (w.heap.size + 1 + 1 + 1) 38 1 (fun _ => .int .i64 0)
namespace BSt
set_option linter.unusedSimpArgs false
set_option linter.unusedVariables false
variable {w W W' : World} {mp : Value} {x : Int}
theorem lt (h : BSt w mp x W) : w.heap.size + 3 < W.heap.size := h.r3.lt
theorem kept {S : Nat → Prop} (h : BSt w mp x W) (k : Keeps S W W') (hS : ∀ j, j ≤ w.heap.size + 3 → ¬ S j) : BSt w mp x W' := by
 have hl := h.lt
 exact ⟨h.below.trans (k.below h.below.size (fun j hj => hS j (by omega))), k.cell h.m (hS _ (by show w.heap.size ≤ _; omega)), k.rowIs h.r1 (hS _ (by omega)), k.rowIs h.r2 (hS _ (by omega)), k.rowIs h.r3 (hS _ (by omega))⟩
theorem go (h : BSt w mp x W) (hb : Below W.heap.size W W') : BSt w mp x W' := h.kept (Keeps.of_below (S := fun _ => False) hb) (fun _ _ e => e)
theorem set1 (h : BSt w mp x W) (y : Int) : BSt w mp y (W.setCell ⟨w.heap.size + 1, 0, none⟩ (.int .u64 y)) := by
 have k : Keeps (One (w.heap.size + 1)) W (W.setCell ⟨w.heap.size + 1, 0, none⟩ (.int .u64 y)) := (Keeps.refl _ _).set1 _ _
 refine ⟨h.below.setCell (p := ⟨w.heap.size + 1, 0, none⟩) (by show w.heap.size ≤ w.heap.size + 1; omega) _, k.cell h.m (fun e => by have e : w.heap.size = w.heap.size + 1 := e; omega), ?_, k.rowIs h.r2 (fun e => by have e : w.heap.size + 1 + 1 = w.heap.size + 1 := e; omega), k.rowIs h.r3 (fun e => by have e : w.heap.size + 1 + 1 + 1 = w.heap.size + 1 := e; omega)⟩
 exact (h.r1.set 0 _).congr fun i hi => by
  have : i = 0 := by omega
  subst this; rfl
end BSt
theorem bst_start (w : World) (mp : Value) : BSt w mp 0 ((((w.alloc (.cells #[mp] 30)).alloc (.cells #[.int .u64 0] 24)).alloc (.cells #[.int .u64 0] 24)).alloc (.cells #[.int .i64 0] 38)) := by
 obtain ⟨W1, h1⟩ : ∃ z, z = w.alloc (.cells #[mp] 30) := ⟨_, rfl⟩
 have s1 : W1.heap.size = w.heap.size + 1 := by rw [h1]; simp
 have c1 : W1.cell? ⟨w.heap.size, 0, none⟩ = some mp := by rw [h1]; go_simp
 have b1 : Below w.heap.size w W1 := by rw [h1]; exact (Below.refl _ _).alloc (Nat.le_refl _) _
 rw [← h1]
 have r1 := World.rowIs_alloc W1 #[.int .u64 0] 24 (fun _ => .int .u64 0) (fun i hi => by simp at hi; subst hi; rfl)
 obtain ⟨W2, h2⟩ : ∃ z, z = W1.alloc (.cells #[.int .u64 0] 24) := ⟨_, rfl⟩
 rw [← h2] at r1 ⊢
 have s2 : W2.heap.size = w.heap.size + 1 + 1 := by rw [h2]; simp [s1]
 have k2 : Keeps (fun _ => False) W1 W2 := by rw [h2]; exact (Keeps.refl _ _).alloc _
 have r2 := World.rowIs_alloc W2 #[.int .u64 0] 24 (fun _ => .int .u64 0) (fun i hi => by simp at hi; subst hi; rfl)
 obtain ⟨W3, h3⟩ : ∃ z, z = W2.alloc (.cells #[.int .u64 0] 24) := ⟨_, rfl⟩
 rw [← h3] at r2 ⊢
 have s3 : W3.heap.size = w.heap.size + 1 + 1 + 1 := by rw [h3]; simp [s2]
 have k3 : Keeps (fun _ => False) W2 W3 := by rw [h3]; exact (Keeps.refl _ _).alloc _
 have r3 := World.rowIs_alloc W3 #[.int .i64 0] 38 (fun _ => .int .i64 0) (fun i hi => by simp at hi; subst hi; rfl)
 obtain ⟨W4, h4⟩ : ∃ z, z = W3.alloc (.cells #[.int .i64 0] 38) := ⟨_, rfl⟩
 rw [← h4] at r3 ⊢
 have k4 : Keeps (fun _ => False) W3 W4 := by rw [h4]; exact (Keeps.refl _ _).alloc _
 rw [s1] at r1
 rw [s2] at r2
 rw [s3] at r3
 simp only [List.size_toArray, List.length_cons, List.length_nil, Nat.zero_add] at r1 r2 r3
 exact ⟨((b1.trans ((k2.trans (k3.trans k4)).below (B := w.heap.size) (by omega) (fun _ _ e => e)))), (k2.trans (k3.trans k4)).cell c1 (fun e => e), (k3.trans k4).rowIs r1 (fun e => e), k4.rowIs r2 (fun e => e), r3⟩
theorem bl_bad {w W : World} {mp : Value} {x no : Int} {tmps : Array Value} {R : Ending → World → Prop} (S : BSt w mp x W) (h1 : tmps.getD 10 undef = .pointer (some ⟨w.heap.size + 1, 0, none⟩)) (h2 : tmps.getD 11 undef = .pointer (some ⟨w.heap.size + 1 + 1, 0, none⟩)) (h3 : tmps.getD 12 undef = .pointer (some ⟨w.heap.size + 1 + 1 + 1, 0, none⟩))
  (hR : ∀ w', Keeps (fun j => w.heap.size < j ∧ j ≤ w.heap.size + 3) W w' → R (.returned (.tuple #[.int .u64 0, .int .u64 0, .int .i64 no])) w') :
  bodyPostD Tryz.prog Tryz.f20 R (Exit.panic [pan no]) { tmps := tmps, defers := [dfrB (w.heap.size + 1) (w.heap.size + 1 + 1) (w.heap.size + 1 + 1 + 1)] } W := by
 show Leaves Tryz.prog Tryz.f20 tmps R [dfrB (w.heap.size + 1) (w.heap.size + 1 + 1) (w.heap.size + 1 + 1 + 1)] (.panicking [pan no]) W
 refine leaves_cons (f := 44) (args := #[.pointer (some ⟨w.heap.size + 1 + 1 + 1, 0, none⟩), .func (.func 45) #[] #[.pointer (some ⟨w.heap.size + 1, 0, none⟩), .pointer (some ⟨w.heap.size + 1 + 1, 0, none⟩)]]) (by simp) (by simp [go_sem]) ?_
 refine (caught_panicking 45 _ (Two (w.heap.size + 1) (w.heap.size + 1 + 1)) (w.heap.size + 1 + 1 + 1) _ _ 0 no W (clears_build _ _ (by omega)) ⟨⟨⟨_, S.r1.cell (by omega)⟩, S.r1.frozen 0⟩, ⟨_, S.r2.cell (by omega)⟩, S.r2.frozen 0⟩ (S.r3.cell (by omega)) (S.r3.frozen 0) (fun e => by rcases e with e | e <;> omega)
  (fun a b h k => ⟨k.cell h.1 (fun e => by have e : w.heap.size + 1 = w.heap.size + 1 + 1 + 1 := e; omega), k.cell h.2 (fun e => by have e : w.heap.size + 1 + 1 = w.heap.size + 1 + 1 + 1 := e; omega)⟩)).mono ?_
 rintro e u' w'' ⟨rfl, rfl, hk, hc, hc2⟩
 show Leaves Tryz.prog Tryz.f20 tmps R [] .returning w''
 exact ⟨_, build_results tmps w'' _ _ _ _ _ _ h1 h2 h3 hc.1 hc.2 hc2, hR w'' (hk.mono fun j _ e => by rcases e with (e | e) | e <;> omega)⟩
theorem bl_good (tmps : Array Value) (W : World) (fb sb eb : Nat) (v1 v2 v3 : Value) (R : Ending → World → Prop) (h1 : tmps.getD 10 undef = .pointer (some ⟨fb, 0, none⟩)) (h2 : tmps.getD 11 undef = .pointer (some ⟨sb, 0, none⟩)) (h3 : tmps.getD 12 undef = .pointer (some ⟨eb, 0, none⟩))
  (c1 : W.cell? ⟨fb, 0, none⟩ = some v1) (c2 : W.cell? ⟨sb, 0, none⟩ = some v2) (c3 : W.cell? ⟨eb, 0, none⟩ = some v3) (hR : R (.returned (.tuple #[v1, v2, v3])) W) :
  bodyPostD Tryz.prog Tryz.f20 R Exit.ret { tmps := tmps, defers := [dfrB fb sb eb] } W := by
 show Leaves Tryz.prog Tryz.f20 tmps R [dfrB fb sb eb] .returning W
 refine leaves_cons (f := 44) (args := #[.pointer (some ⟨eb, 0, none⟩), .func (.func 45) #[] #[.pointer (some ⟨fb, 0, none⟩), .pointer (some ⟨sb, 0, none⟩)]]) (by simp) (by simp [go_sem]) ?_
 refine (caught_idle _ _ W).mono ?_
 rintro e u' w'' ⟨rfl, rfl, rfl⟩
 show Leaves Tryz.prog Tryz.f20 tmps R [] .returning _
 exact ⟨_, build_results tmps _ fb sb eb v1 v2 v3 h1 h2 h3 c1 c2 c3, hR⟩
/-- a result of Build that leaves the memory alone -/
def BRes (w : World) (x y no : Int) (e : Ending) (w' : World) : Prop := e = .returned (.tuple #[.int .u64 x, .int .u64 y, .int .i64 no]) ∧ Below w.heap.size w w'
theorem bl_bad' {w W : World} {mp : Value} {x no : Int} {tmps : Array Value} (S : BSt w mp x W) (h1 : tmps.getD 10 undef = .pointer (some ⟨w.heap.size + 1, 0, none⟩)) (h2 : tmps.getD 11 undef = .pointer (some ⟨w.heap.size + 1 + 1, 0, none⟩)) (h3 : tmps.getD 12 undef = .pointer (some ⟨w.heap.size + 1 + 1 + 1, 0, none⟩)) :
  bodyPostD Tryz.prog Tryz.f20 (BRes w 0 0 no) (Exit.panic [pan no]) { tmps := tmps, defers := [dfrB (w.heap.size + 1) (w.heap.size + 1 + 1) (w.heap.size + 1 + 1 + 1)] } W :=
 bl_bad S h1 h2 h3 fun w' k => ⟨rfl, S.below.trans (k.below (B := w.heap.size) S.below.size (fun j hj e => by omega))⟩
section
variable (la pa : Option Addr) (nl np lc pc : Nat) (l p : Nat → Int) (o N : Int) (b B size : Nat) (f : Nat → Int) (L : List (Nat × Nat)) (w : World) (hM : MemAt w b B size f L) (hs : 0 < size) (hl : UAt w la nl l) (hp : UAt w pa np p) (hul : U64 nl l) (hup : U64 np p) (hnl : nl ≤ 1000000) (hnp : np ≤ 1000000)
  (ho0 : -9223372036854775808 ≤ o) (ho1 : o ≤ 9223372036854775807) (hN0 : -9223372036854775808 ≤ N) (hN1 : N ≤ 9223372036854775807)
include hM hs hl hp hul hup hnl hnp ho0 ho1 hN0 hN1
set_option maxRecDepth 100000 in
set_option maxHeartbeats 4000000 in
theorem bld_arg (hv : ¬ VArg np nl p l o N) : Calls Tryz.prog 20 #[.pointer (some ⟨b, 0, none⟩), .slice la nl lc, .slice pa np pc, .int .i64 o, .int .i64 N] w (BRes w 0 0 2) := by
 have HNO := Lib.hid hv
 clear hv
 have HM := Lib.hid hM
 obtain ⟨sz, hsz⟩ : ∃ z : Int, z = size := ⟨_, rfl⟩
 have dz : decide (0 < sz) = true := decide_eq_true (by omega)
 have HZ := Lib.hid hsz
 have HL := Lib.hid hl
 have HP := Lib.hid hp
 have HUP := Lib.hid hup
 have HUL := Lib.hid hul
 have HVL := Lib.hid (fun W (hb : Below w.heap.size w W) => valid_any la pa nl np lc pc l p o N W (hl.below hb) (hp.below hb) hul hup hnl hnp ho0 ho1 hN0 hN1)
 clear hM hs hsz hl hp hul hup
 have hmf : ∀ (fn : Fn) (first cap : Array Value) (w : World), (Instr.makeFunc fn first cap).run Tryz.prog w = .ok (.func fn first cap) w := fun _ _ _ _ => rfl
 go_enter_defers Tryz.func20, Tryz.ntmps20
 go_upto_region 2 with (fail)
 obtain ⟨W0, hW0⟩ : ∃ W0, W0 = (((w.alloc (.cells #[.pointer (some ⟨b, 0, none⟩)] 30)).alloc (.cells #[.int .u64 0] 24)).alloc (.cells #[.int .u64 0] 24)).alloc (.cells #[.int .i64 0] 38) := ⟨_, rfl⟩
 rw [← hW0]
 have S0 := Lib.hid (show BSt w (.pointer (some ⟨b, 0, none⟩)) 0 W0 by rw [hW0]; exact bst_start w _)
 clear hW0
 have c0 := S0.out.m
 go_upto_region 3 with (first
  | (go_at_call 19; refine (size_is b B size f L sz _ (HM.out.below S0.out.below) HZ.out).mono ?_; rintro e w' ⟨rfl, rfl⟩)
  | (go_at_call 46; (with_reducible refine (must1_ok' _ _ _ (by simp)).mono ?_); rintro e w' ⟨rfl, rfl⟩))
 have S1 := Lib.hid (S0.out.go ((Below.refl _ _).alloc (Nat.le_refl _) (.cells #[.bool true] 4)))
 obtain ⟨W1, hW1⟩ : ∃ z, z = W0.alloc (.cells #[.bool true] 4) := ⟨_, rfl⟩
 rw [← hW1] at S1 ⊢
 have HV1 := Lib.hid (HVL.out W1 S1.out.below)
 clear hW1 S0 HVL c0
 go_wp2_with fail
 refine HV1.out.mono ?_
 rintro e w2 ⟨⟨hv, -⟩ | ⟨-, rfl⟩, hb⟩
 ·exact absurd hv HNO.out
 ·exact bl_bad' (S1.out.go hb) rfl rfl rfl
end
end Go.Proofs.YtfmabknhfehdcaaGreat
namespace Go.Proofs.YtfmabknhfehdcaaGreat
set_option linter.unusedSimpArgs false
set_option linter.unusedVariables false
open Go.RowKit
theorem bset {B : Nat} {a b : World} (h : Below B a b) (p : Addr) (hp : B ≤ p.block) (v : Value) : Below B a (b.setCell p v) := h.setCell hp v
section
variable (la pa : Option Addr) (nl np lc pc : Nat) (l p : Nat → Int) (o N : Int) (b B size : Nat) (f : Nat → Int) (L : List (Nat × Nat)) (w : World) (hM : MemAt w b B size f L) (hs : 0 < size) (hl : UAt w la nl l) (hp : UAt w pa np p) (hul : U64 nl l) (hup : U64 np p) (hnl : nl ≤ 1000000) (hnp : np ≤ 1000000)
  (ho0 : -9223372036854775808 ≤ o) (ho1 : o ≤ 9223372036854775807) (hN0 : -9223372036854775808 ≤ N) (hN1 : N ≤ 9223372036854775807)
include hM hs hl hp hul hup hnl hnp ho0 ho1 hN0 hN1
set_option maxRecDepth 100000 in
set_option maxHeartbeats 4000000 in
theorem bld_0 (hv : VArg np nl p l o N) (h : np = 0) : Calls Tryz.prog 20 #[.pointer (some ⟨b, 0, none⟩), .slice la nl lc, .slice pa np pc, .int .i64 o, .int .i64 N] w (BRes w 0 0 0) := by
 have q0 : ((np : Int) == 0) = true := beq_iff_eq.2 (by omega)
 clear h
 have HM := Lib.hid hM
 obtain ⟨sz, hsz⟩ : ∃ z : Int, z = size := ⟨_, rfl⟩
 have dz : decide (0 < sz) = true := decide_eq_true (by omega)
 have HZ := Lib.hid hsz
 have HL := Lib.hid hl
 have HP := Lib.hid hp
 have HUP := Lib.hid hup
 have HUL := Lib.hid hul
 have HVL := Lib.hid (fun W (hb : Below w.heap.size w W) => valid_any la pa nl np lc pc l p o N W (hl.below hb) (hp.below hb) hul hup hnl hnp ho0 ho1 hN0 hN1)
 clear hM hs hsz hl hp hul hup
 have hmf : ∀ (fn : Fn) (first cap : Array Value) (w : World), (Instr.makeFunc fn first cap).run Tryz.prog w = .ok (.func fn first cap) w := fun _ _ _ _ => rfl
 go_enter_defers Tryz.func20, Tryz.ntmps20
 go_upto_region 2 with (fail)
 obtain ⟨W0, hW0⟩ : ∃ W0, W0 = (((w.alloc (.cells #[.pointer (some ⟨b, 0, none⟩)] 30)).alloc (.cells #[.int .u64 0] 24)).alloc (.cells #[.int .u64 0] 24)).alloc (.cells #[.int .i64 0] 38) := ⟨_, rfl⟩
 rw [← hW0]
 have S0 := Lib.hid (show BSt w (.pointer (some ⟨b, 0, none⟩)) 0 W0 by rw [hW0]; exact bst_start w _)
 clear hW0
 have c0 := S0.out.m
 go_upto_region 3 with (first
  | (go_at_call 19; refine (size_is b B size f L sz _ (HM.out.below S0.out.below) HZ.out).mono ?_; rintro e w' ⟨rfl, rfl⟩)
  | (go_at_call 46; (with_reducible refine (must1_ok' _ _ _ (by simp)).mono ?_); rintro e w' ⟨rfl, rfl⟩))
 have S1 := Lib.hid (S0.out.go ((Below.refl _ _).alloc (Nat.le_refl _) (.cells #[.bool true] 4)))
 obtain ⟨W1, hW1⟩ : ∃ z, z = W0.alloc (.cells #[.bool true] 4) := ⟨_, rfl⟩
 rw [← hW1] at S1 ⊢
 have HV1 := Lib.hid (HVL.out W1 S1.out.below)
 clear hW1 S0 HVL c0
 have HVA := Lib.hid hv
 clear hv
 have HV2 := Lib.hid (show Calls Tryz.prog 47 #[.slice la nl lc, .slice pa np pc, .int .i64 o, .int .i64 N] W1 fun e w' => e = .returned (.tuple #[]) ∧ Below W1.heap.size W1 w' from HV1.out.mono fun e w' h => by
  rcases h with ⟨⟨-, rfl⟩ | ⟨hno, -⟩, hb⟩
  ·exact ⟨rfl, hb⟩
  ·exact absurd HVA.out hno)
 clear HV1
 go_upto_region 4 with (go_at_call 47; refine HV2.out.mono ?_; rintro e w2 ⟨rfl, hb⟩; have S2 := Lib.hid (S1.out.go hb); clear hb)
 have s1 := S2.out.r1.cell (i := 0) (by omega)
 have f1 := S2.out.r1.frozen 0
 have s2 := S2.out.r2.cell (i := 0) (by omega)
 have f2 := S2.out.r2.frozen 0
 have s3 := S2.out.r3.cell (i := 0) (by omega)
 have f3 := S2.out.r3.frozen 0
 go_wp2_with fail
 refine bl_good _ _ _ _ _ (.int .u64 (0)) (.int .u64 (0)) (.int .i64 0) _ rfl rfl rfl (by go_simp) (by go_simp) (by go_simp) ⟨rfl, ?_⟩
 exact ((S2.out.below.setCell (p := ⟨w.heap.size + 1, 0, none⟩) (by show w.heap.size ≤ w.heap.size + 1; omega) _).setCell (p := ⟨w.heap.size + 1 + 1, 0, none⟩) (by show w.heap.size ≤ w.heap.size + 1 + 1; omega) _).setCell (p := ⟨w.heap.size + 1 + 1 + 1, 0, none⟩) (by show w.heap.size ≤ w.heap.size + 1 + 1 + 1; omega) _
set_option maxRecDepth 100000 in
set_option maxHeartbeats 4000000 in
theorem bld_1 (hv : VArg np nl p l o N) (h : np = 1) : Calls Tryz.prog 20 #[.pointer (some ⟨b, 0, none⟩), .slice la nl lc, .slice pa np pc, .int .i64 o, .int .i64 N] w (BRes w (p 0 + o) 0 0) := by
 have q0 : ((np : Int) == 0) = false := beq_eq_false_iff_ne.2 (by omega)
 have q1 : ((np : Int) == 1) = true := beq_iff_eq.2 (by omega)
 have hpos : (0 : Int) < (np : Int) := by omega
 clear h
 have HM := Lib.hid hM
 obtain ⟨sz, hsz⟩ : ∃ z : Int, z = size := ⟨_, rfl⟩
 have dz : decide (0 < sz) = true := decide_eq_true (by omega)
 have HZ := Lib.hid hsz
 have HL := Lib.hid hl
 have HP := Lib.hid hp
 have HUP := Lib.hid hup
 have HUL := Lib.hid hul
 have HVL := Lib.hid (fun W (hb : Below w.heap.size w W) => valid_any la pa nl np lc pc l p o N W (hl.below hb) (hp.below hb) hul hup hnl hnp ho0 ho1 hN0 hN1)
 clear hM hs hsz hl hp hul hup
 have hmf : ∀ (fn : Fn) (first cap : Array Value) (w : World), (Instr.makeFunc fn first cap).run Tryz.prog w = .ok (.func fn first cap) w := fun _ _ _ _ => rfl
 go_enter_defers Tryz.func20, Tryz.ntmps20
 go_upto_region 2 with (fail)
 obtain ⟨W0, hW0⟩ : ∃ W0, W0 = (((w.alloc (.cells #[.pointer (some ⟨b, 0, none⟩)] 30)).alloc (.cells #[.int .u64 0] 24)).alloc (.cells #[.int .u64 0] 24)).alloc (.cells #[.int .i64 0] 38) := ⟨_, rfl⟩
 rw [← hW0]
 have S0 := Lib.hid (show BSt w (.pointer (some ⟨b, 0, none⟩)) 0 W0 by rw [hW0]; exact bst_start w _)
 clear hW0
 have c0 := S0.out.m
 go_upto_region 3 with (first
  | (go_at_call 19; refine (size_is b B size f L sz _ (HM.out.below S0.out.below) HZ.out).mono ?_; rintro e w' ⟨rfl, rfl⟩)
  | (go_at_call 46; (with_reducible refine (must1_ok' _ _ _ (by simp)).mono ?_); rintro e w' ⟨rfl, rfl⟩))
 have S1 := Lib.hid (S0.out.go ((Below.refl _ _).alloc (Nat.le_refl _) (.cells #[.bool true] 4)))
 obtain ⟨W1, hW1⟩ : ∃ z, z = W0.alloc (.cells #[.bool true] 4) := ⟨_, rfl⟩
 rw [← hW1] at S1 ⊢
 have HV1 := Lib.hid (HVL.out W1 S1.out.below)
 clear hW1 S0 HVL c0
 have HVA := Lib.hid hv
 clear hv
 have HV2 := Lib.hid (show Calls Tryz.prog 47 #[.slice la nl lc, .slice pa np pc, .int .i64 o, .int .i64 N] W1 fun e w' => e = .returned (.tuple #[]) ∧ Below W1.heap.size W1 w' from HV1.out.mono fun e w' h => by
  rcases h with ⟨⟨-, rfl⟩ | ⟨hno, -⟩, hb⟩
  ·exact ⟨rfl, hb⟩
  ·exact absurd HVA.out hno)
 clear HV1
 go_upto_region 4 with (go_at_call 47; refine HV2.out.mono ?_; rintro e w2 ⟨rfl, hb⟩; have S2 := Lib.hid (S1.out.go hb); clear hb)
 have s1 := S2.out.r1.cell (i := 0) (by omega)
 have f1 := S2.out.r1.frozen 0
 have s2 := S2.out.r2.cell (i := 0) (by omega)
 have f2 := S2.out.r2.frozen 0
 have s3 := S2.out.r3.cell (i := 0) (by omega)
 have f3 := S2.out.r3.frozen 0
 have ho0' := HVA.out.o0
 have ho1' := HVA.out.o1
 obtain ⟨g, oo, hpa, hc⟩ := HP.out (by omega)
 subst hpa
 have hg : g < w.heap.size := World.block_lt_of_cell? _ _ (hc 0 (by omega))
 have k0 := (S2.out.below.cell (p := ⟨g, oo + 0, none⟩) hg).trans (hc 0 (by omega))
 rw [Nat.add_zero] at k0
 have u0 := HUP.out 0 (by omega)
 have v0 := HVA.out.pg 0 (by omega)
 have HC := Lib.hid hc
 obtain ⟨p0, hp0⟩ : ∃ z, z = p 0 := ⟨_, rfl⟩
 rw [← hp0] at k0 u0 v0
 have HP0 := Lib.hid hp0
 have p00 := u0.1
 have p01 := u0.2
 have p0o : p0 + o ≤ 18446744073709551615 := by omega
 have V0 := Lib.hid v0
 clear hc hp0 v0 u0
 go_wp2_with fail
 refine bl_good _ _ _ _ _ (.int .u64 (p0 + o)) (.int .u64 (0)) (.int .i64 0) _ rfl rfl rfl (by go_simp) (by go_simp) (by go_simp) ⟨by rw [HP0.out], ?_⟩
 exact by
  repeat (first | exact S2.out.below | refine bset ?_ _ (by simp only []; omega) _ | refine Below.drew ?_)
set_option maxRecDepth 100000 in
set_option maxHeartbeats 4000000 in
theorem bld_2 (hv : VArg np nl p l o N) (h : np = 2) : Calls Tryz.prog 20 #[.pointer (some ⟨b, 0, none⟩), .slice la nl lc, .slice pa np pc, .int .i64 o, .int .i64 N] w (BRes w (p 0 + o) (p 1) 0) := by
 have q0 : ((np : Int) == 0) = false := beq_eq_false_iff_ne.2 (by omega)
 have q1 : ((np : Int) == 1) = false := beq_eq_false_iff_ne.2 (by omega)
 have q2 : ((np : Int) == 2) = true := beq_iff_eq.2 (by omega)
 have hpos : (0 : Int) < (np : Int) := by omega
 have hpos1 : (1 : Int) < (np : Int) := by omega
 clear h
 have HM := Lib.hid hM
 obtain ⟨sz, hsz⟩ : ∃ z : Int, z = size := ⟨_, rfl⟩
 have dz : decide (0 < sz) = true := decide_eq_true (by omega)
 have HZ := Lib.hid hsz
 have HL := Lib.hid hl
 have HP := Lib.hid hp
 have HUP := Lib.hid hup
 have HUL := Lib.hid hul
 have HVL := Lib.hid (fun W (hb : Below w.heap.size w W) => valid_any la pa nl np lc pc l p o N W (hl.below hb) (hp.below hb) hul hup hnl hnp ho0 ho1 hN0 hN1)
 clear hM hs hsz hl hp hul hup
 have hmf : ∀ (fn : Fn) (first cap : Array Value) (w : World), (Instr.makeFunc fn first cap).run Tryz.prog w = .ok (.func fn first cap) w := fun _ _ _ _ => rfl
 go_enter_defers Tryz.func20, Tryz.ntmps20
 go_upto_region 2 with (fail)
 obtain ⟨W0, hW0⟩ : ∃ W0, W0 = (((w.alloc (.cells #[.pointer (some ⟨b, 0, none⟩)] 30)).alloc (.cells #[.int .u64 0] 24)).alloc (.cells #[.int .u64 0] 24)).alloc (.cells #[.int .i64 0] 38) := ⟨_, rfl⟩
 rw [← hW0]
 have S0 := Lib.hid (show BSt w (.pointer (some ⟨b, 0, none⟩)) 0 W0 by rw [hW0]; exact bst_start w _)
 clear hW0
 have c0 := S0.out.m
 go_upto_region 3 with (first
  | (go_at_call 19; refine (size_is b B size f L sz _ (HM.out.below S0.out.below) HZ.out).mono ?_; rintro e w' ⟨rfl, rfl⟩)
  | (go_at_call 46; (with_reducible refine (must1_ok' _ _ _ (by simp)).mono ?_); rintro e w' ⟨rfl, rfl⟩))
 have S1 := Lib.hid (S0.out.go ((Below.refl _ _).alloc (Nat.le_refl _) (.cells #[.bool true] 4)))
 obtain ⟨W1, hW1⟩ : ∃ z, z = W0.alloc (.cells #[.bool true] 4) := ⟨_, rfl⟩
 rw [← hW1] at S1 ⊢
 have HV1 := Lib.hid (HVL.out W1 S1.out.below)
 clear hW1 S0 HVL c0
 have HVA := Lib.hid hv
 clear hv
 have HV2 := Lib.hid (show Calls Tryz.prog 47 #[.slice la nl lc, .slice pa np pc, .int .i64 o, .int .i64 N] W1 fun e w' => e = .returned (.tuple #[]) ∧ Below W1.heap.size W1 w' from HV1.out.mono fun e w' h => by
  rcases h with ⟨⟨-, rfl⟩ | ⟨hno, -⟩, hb⟩
  ·exact ⟨rfl, hb⟩
  ·exact absurd HVA.out hno)
 clear HV1
 go_upto_region 4 with (go_at_call 47; refine HV2.out.mono ?_; rintro e w2 ⟨rfl, hb⟩; have S2 := Lib.hid (S1.out.go hb); clear hb)
 have s1 := S2.out.r1.cell (i := 0) (by omega)
 have f1 := S2.out.r1.frozen 0
 have s2 := S2.out.r2.cell (i := 0) (by omega)
 have f2 := S2.out.r2.frozen 0
 have s3 := S2.out.r3.cell (i := 0) (by omega)
 have f3 := S2.out.r3.frozen 0
 have ho0' := HVA.out.o0
 have ho1' := HVA.out.o1
 obtain ⟨g, oo, hpa, hc⟩ := HP.out (by omega)
 subst hpa
 have hg : g < w.heap.size := World.block_lt_of_cell? _ _ (hc 0 (by omega))
 have k0 := (S2.out.below.cell (p := ⟨g, oo + 0, none⟩) hg).trans (hc 0 (by omega))
 rw [Nat.add_zero] at k0
 have u0 := HUP.out 0 (by omega)
 have v0 := HVA.out.pg 0 (by omega)
 have HC := Lib.hid hc
 obtain ⟨p0, hp0⟩ : ∃ z, z = p 0 := ⟨_, rfl⟩
 rw [← hp0] at k0 u0 v0
 have HP0 := Lib.hid hp0
 have p00 := u0.1
 have p01 := u0.2
 have p0o : p0 + o ≤ 18446744073709551615 := by omega
 have V0 := Lib.hid v0
 clear hc hp0 v0 u0
 have k1 := (S2.out.below.cell (p := ⟨g, oo + 1, none⟩) hg).trans (HC.out 1 (by omega))
 obtain ⟨p1, hp1⟩ : ∃ z, z = p 1 := ⟨_, rfl⟩
 rw [← hp1] at k1
 have HP1 := Lib.hid hp1
 clear hp1
 go_wp2_with fail
 go_region
 all_goals
  go_wp2_with fail
  refine bl_good _ _ _ _ _ (.int .u64 (p0 + o)) (.int .u64 (p1)) (.int .i64 0) _ rfl rfl rfl (by go_simp) (by go_simp) (by go_simp) ⟨by rw [HP0.out, HP1.out], ?_⟩
 exact by
  repeat (first | exact S2.out.below | refine bset ?_ _ (by simp only []; omega) _ | refine Below.drew ?_)
end
end Go.Proofs.YtfmabknhfehdcaaGreat
namespace Go.Proofs.YtfmabknhfehdcaaGreat
set_option linter.unusedSimpArgs false
set_option linter.unusedVariables false
open Go.RowKit
section
variable (la pa : Option Addr) (nl np lc pc : Nat) (l p : Nat → Int) (o N : Int) (b B size : Nat) (f : Nat → Int) (L : List (Nat × Nat)) (w : World) (hM : MemAt w b B size f L) (hs : 0 < size) (hl : UAt w la nl l) (hp : UAt w pa np p) (hul : U64 nl l) (hup : U64 np p) (hnl : nl ≤ 1000000) (hnp : np ≤ 1000000)
  (ho0 : -9223372036854775808 ≤ o) (ho1 : o ≤ 9223372036854775807) (hN0 : -9223372036854775808 ≤ N) (hN1 : N ≤ 9223372036854775807)
include hM hs hl hp hul hup hnl hnp ho0 ho1 hN0 hN1
set_option maxRecDepth 100000 in
set_option maxHeartbeats 4000000 in
theorem bld_full (hv : VArg np nl p l o N) (h : 3 ≤ np) (hfl : nl = 0 ∨ (nl : Int) < lstsP (l 0) np) : Calls Tryz.prog 20 #[.pointer (some ⟨b, 0, none⟩), .slice la nl lc, .slice pa np pc, .int .i64 o, .int .i64 N] w (BRes w 0 0 7) := by
 have q0 : ((np : Int) == 0) = false := beq_eq_false_iff_ne.2 (by omega)
 have q1 : ((np : Int) == 1) = false := beq_eq_false_iff_ne.2 (by omega)
 have q2 : ((np : Int) == 2) = false := beq_eq_false_iff_ne.2 (by omega)
 have hpos : (0 : Int) < (np : Int) := by omega
 have HFL := Lib.hid hfl
 clear h hfl
 have HM := Lib.hid hM
 obtain ⟨sz, hsz⟩ : ∃ z : Int, z = size := ⟨_, rfl⟩
 have dz : decide (0 < sz) = true := decide_eq_true (by omega)
 have HZ := Lib.hid hsz
 have HL := Lib.hid hl
 have HP := Lib.hid hp
 have HUP := Lib.hid hup
 have HUL := Lib.hid hul
 have HVL := Lib.hid (fun W (hb : Below w.heap.size w W) => valid_any la pa nl np lc pc l p o N W (hl.below hb) (hp.below hb) hul hup hnl hnp ho0 ho1 hN0 hN1)
 clear hM hs hsz hl hp hul hup
 have hmf : ∀ (fn : Fn) (first cap : Array Value) (w : World), (Instr.makeFunc fn first cap).run Tryz.prog w = .ok (.func fn first cap) w := fun _ _ _ _ => rfl
 go_enter_defers Tryz.func20, Tryz.ntmps20
 go_upto_region 2 with (fail)
 obtain ⟨W0, hW0⟩ : ∃ W0, W0 = (((w.alloc (.cells #[.pointer (some ⟨b, 0, none⟩)] 30)).alloc (.cells #[.int .u64 0] 24)).alloc (.cells #[.int .u64 0] 24)).alloc (.cells #[.int .i64 0] 38) := ⟨_, rfl⟩
 rw [← hW0]
 have S0 := Lib.hid (show BSt w (.pointer (some ⟨b, 0, none⟩)) 0 W0 by rw [hW0]; exact bst_start w _)
 clear hW0
 have c0 := S0.out.m
 go_upto_region 3 with (first
  | (go_at_call 19; refine (size_is b B size f L sz _ (HM.out.below S0.out.below) HZ.out).mono ?_; rintro e w' ⟨rfl, rfl⟩)
  | (go_at_call 46; (with_reducible refine (must1_ok' _ _ _ (by simp)).mono ?_); rintro e w' ⟨rfl, rfl⟩))
 have S1 := Lib.hid (S0.out.go ((Below.refl _ _).alloc (Nat.le_refl _) (.cells #[.bool true] 4)))
 obtain ⟨W1, hW1⟩ : ∃ z, z = W0.alloc (.cells #[.bool true] 4) := ⟨_, rfl⟩
 rw [← hW1] at S1 ⊢
 have HV1 := Lib.hid (HVL.out W1 S1.out.below)
 clear hW1 S0 HVL c0
 have HVA := Lib.hid hv
 clear hv
 have HV2 := Lib.hid (show Calls Tryz.prog 47 #[.slice la nl lc, .slice pa np pc, .int .i64 o, .int .i64 N] W1 fun e w' => e = .returned (.tuple #[]) ∧ Below W1.heap.size W1 w' from HV1.out.mono fun e w' h => by
  rcases h with ⟨⟨-, rfl⟩ | ⟨hno, -⟩, hb⟩
  ·exact ⟨rfl, hb⟩
  ·exact absurd HVA.out hno)
 clear HV1
 go_upto_region 4 with (go_at_call 47; refine HV2.out.mono ?_; rintro e w2 ⟨rfl, hb⟩; have S2 := Lib.hid (S1.out.go hb); clear hb)
 have s1 := S2.out.r1.cell (i := 0) (by omega)
 have f1 := S2.out.r1.frozen 0
 have s2 := S2.out.r2.cell (i := 0) (by omega)
 have f2 := S2.out.r2.frozen 0
 have s3 := S2.out.r3.cell (i := 0) (by omega)
 have f3 := S2.out.r3.frozen 0
 have ho0' := HVA.out.o0
 have ho1' := HVA.out.o1
 obtain ⟨g, oo, hpa, hc⟩ := HP.out (by omega)
 subst hpa
 have hg : g < w.heap.size := World.block_lt_of_cell? _ _ (hc 0 (by omega))
 have k0 := (S2.out.below.cell (p := ⟨g, oo + 0, none⟩) hg).trans (hc 0 (by omega))
 rw [Nat.add_zero] at k0
 have u0 := HUP.out 0 (by omega)
 have v0 := HVA.out.pg 0 (by omega)
 have HC := Lib.hid hc
 obtain ⟨p0, hp0⟩ : ∃ z, z = p 0 := ⟨_, rfl⟩
 rw [← hp0] at k0 u0 v0
 have HP0 := Lib.hid hp0
 have p00 := u0.1
 have p01 := u0.2
 have p0o : p0 + o ≤ 18446744073709551615 := by omega
 have V0 := Lib.hid v0
 clear hc hp0 v0 u0
 go_upto_region 12 with fail
 obtain ⟨W3, hW3⟩ : ∃ z, z = w2.setCell ⟨w.heap.size + 1, 0, none⟩ (.int .u64 (p0 + o)) := ⟨_, rfl⟩
 rw [← hW3]
 have S3 := Lib.hid (show BSt w (.pointer (some ⟨b, 0, none⟩)) (p0 + o) W3 by rw [hW3]; exact S2.out.set1 (p0 + o))
 have K3 := Lib.hid (show Keeps (One (w.heap.size + 1)) w2 W3 by rw [hW3]; exact (Keeps.refl _ _).set1 _ _)
 clear hW3 s1 f1 s2 f2 s3 f3 k0
 by_cases hn0 : nl = 0
 ·have qn : decide (0 < (nl : Int)) = false := decide_eq_false (by omega)
  have qm : decide (0 < nl) = false := decide_eq_false (by omega)
  clear hn0
  go_wp2_with fail
  refine (must1_bad' _ _ _ (by first | rfl | simp)).mono ?_
  rintro e w' ⟨rfl, rfl⟩
  exact bl_bad' (S3.out.go ((Below.refl _ _).alloc (Nat.le_refl _) _)) rfl rfl rfl
 ·have qn : decide (0 < (nl : Int)) = true := decide_eq_true (by omega)
  have qm : decide (0 < nl) = true := decide_eq_true (by omega)
  have qp : 0 < nl := by omega
  have hnp0 : (0 : Int) < (nl : Int) := by omega
  obtain ⟨gl, ol, hla, hcl⟩ := HL.out (by omega)
  subst hla
  have hgl : gl < w.heap.size := World.block_lt_of_cell? _ _ (hcl 0 (by omega))
  have l0 := (S3.out.below.cell (p := ⟨gl, ol + 0, none⟩) hgl).trans (hcl 0 (by omega))
  rw [Nat.add_zero] at l0
  have ul := HUL.out 0 (by omega)
  have hlt := HFL.out.resolve_left hn0
  obtain ⟨v, hv⟩ : ∃ z, z = l 0 := ⟨_, rfl⟩
  rw [← hv] at l0 ul hlt
  have ul0 := ul.1
  have ul1 := ul.2
  obtain ⟨K, hK⟩ : ∃ z, lstsP v np = z := ⟨_, rfl⟩
  rw [hK] at hlt
  have qk : decide (K ≤ (nl : Int)) = false := decide_eq_false (by omega)
  have HK := Lib.hid hK
  have HCL := Lib.hid hcl
  clear hK hcl ul hlt hn0 hv
  go_wp2_with (go_at_call 48; refine (lists_any v np K _ ul0 ul1 (by omega) (by omega) HK.out).mono ?_; rintro e w' ⟨rfl, rfl⟩)
  refine (must1_bad' _ _ _ (by first | rfl | simp)).mono ?_
  rintro e w' ⟨rfl, rfl⟩
  exact bl_bad' (S3.out.go ((Below.refl _ _).alloc (Nat.le_refl _) _)) rfl rfl rfl
end
end Go.Proofs.YtfmabknhfehdcaaGreat
