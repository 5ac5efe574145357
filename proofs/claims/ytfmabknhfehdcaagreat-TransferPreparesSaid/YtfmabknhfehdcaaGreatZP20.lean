/- prp: Spans: what its panics leave; the steps of the plain walk. -/
import Derived.Test.YtfmabknhfehdcaaGreatZP19
namespace Go.Proofs.YtfmabknhfehdcaaGreat
set_option linter.unusedSimpArgs false
set_option linter.unusedVariables false
open Go.RowKit
theorem must1_ok' (no : Int) (b : Nat) (w : World) (hb : b = w.heap.size) : Calls Tryz.prog 46 #[.int .i64 no, .slice (some ⟨b, 0, none⟩) 1 1] (w.alloc (.cells #[.bool true] 4)) fun e w' => e = .returned (.tuple #[]) ∧ w.alloc (.cells #[.bool true] 4) = w' := by subst hb; exact must1_ok no w
theorem must1_bad' (no : Int) (b : Nat) (w : World) (hb : b = w.heap.size) : Calls Tryz.prog 46 #[.int .i64 no, .slice (some ⟨b, 0, none⟩) 1 1] (w.alloc (.cells #[.bool false] 4)) fun e w' => e = .panicked [pan no] ∧ w.alloc (.cells #[.bool false] 4) = w' := by subst hb; exact must1_bad no w
theorem must2_ok' (no : Int) (b : Nat) (w : World) (hb : b = w.heap.size) : Calls Tryz.prog 46 #[.int .i64 no, .slice (some ⟨b, 0, none⟩) 2 2] (w.alloc (.cells #[.bool true, .bool true] 4)) fun e w' => e = .returned (.tuple #[]) ∧ w.alloc (.cells #[.bool true, .bool true] 4) = w' := by subst hb; exact must2_ok no w
theorem must2_bad' (no : Int) (x y : Bool) (h : x = false ∨ y = false) (b : Nat) (w : World) (hb : b = w.heap.size) : Calls Tryz.prog 46 #[.int .i64 no, .slice (some ⟨b, 0, none⟩) 2 2] (w.alloc (.cells #[.bool x, .bool y] 4)) fun e w' => e = .panicked [pan no] ∧ w.alloc (.cells #[.bool x, .bool y] 4) = w' := by subst hb; exact must2_bad no x y h w
theorem must5_ok' (no : Int) (b : Nat) (w : World) (hb : b = w.heap.size) : Calls Tryz.prog 46 #[.int .i64 no, .slice (some ⟨b, 0, none⟩) 5 5] (w.alloc (.cells #[.bool true, .bool true, .bool true, .bool true, .bool true] 4)) fun e w' => e = .returned (.tuple #[]) ∧ w.alloc (.cells #[.bool true, .bool true, .bool true, .bool true, .bool true] 4) = w' := by subst hb; exact must5_ok no w
theorem spans_results (tmps : Array Value) (w : World) (ob eb : Nat) (v : Value) (x : Int) (h2 : tmps.getD 8 undef = .pointer (some ⟨ob, 0, none⟩)) (h3 : tmps.getD 9 undef = .pointer (some ⟨eb, 0, none⟩))
  (hf : w.cell? ⟨ob, 0, none⟩ = some v) (he : w.cell? ⟨eb, 0, none⟩ = some (.int .i64 x)) :
  (results Tryz.f87 tmps).run Tryz.prog w = .ok (.tuple #[v, .int .i64 x]) w := by
 have h2' : tmps[8]?.getD undef = .pointer (some ⟨ob, 0, none⟩) := by simpa using h2
 have h3' : tmps[9]?.getD undef = .pointer (some ⟨eb, 0, none⟩) := by simpa using h3
 simp [results, Tryz.results87, h2', h3', asAddr, go_sem, he, hf]
/-- the deferred call -/
def dfrS (ob eb : Nat) : Deferred := { target := .fn (.func 44) #[], args := #[.pointer (some ⟨eb, 0, none⟩), .func (.func 93) #[] #[.pointer (some ⟨ob, 0, none⟩)]] }
theorem spans_bad (tmps : Array Value) (w : World) (ob eb : Nat) (v : Value) (x no : Int) (R : Ending → World → Prop) (h2 : tmps.getD 8 undef = .pointer (some ⟨ob, 0, none⟩)) (h3 : tmps.getD 9 undef = .pointer (some ⟨eb, 0, none⟩))
  (hf : w.cell? ⟨ob, 0, none⟩ = some v) (hz : w.frozen? ⟨ob, 0, none⟩ = false) (he : w.cell? ⟨eb, 0, none⟩ = some (.int .i64 x)) (hz' : w.frozen? ⟨eb, 0, none⟩ = false) (hne : eb ≠ ob)
  (hR : ∀ w', Keeps (Two ob eb) w w' → R (.returned (.tuple #[.slice none 0 0, .int .i64 no])) w') :
  bodyPostD Tryz.prog Tryz.f87 R (Exit.panic [pan no]) { tmps := tmps, defers := [dfrS ob eb] } w := by
 show Leaves Tryz.prog Tryz.f87 tmps R [dfrS ob eb] (.panicking [pan no]) w
 refine leaves_cons (f := 44) (args := #[.pointer (some ⟨eb, 0, none⟩), .func (.func 93) #[] #[.pointer (some ⟨ob, 0, none⟩)]]) (by simp) (by simp [go_sem]) ?_
 refine (caught_panicking 93 _ (One ob) eb _ _ x no w (clears_spans ob) ⟨⟨v, hf⟩, hz⟩ he hz' (fun e => hne e) (fun a b h k => k.cell h (fun e => hne (Eq.symm e)))).mono ?_
 rintro e u' w'' ⟨rfl, rfl, hk, hc, hc2⟩
 show Leaves Tryz.prog Tryz.f87 tmps R [] .returning w''
 exact ⟨_, spans_results tmps w'' ob eb _ no h2 h3 hc hc2, hR w'' (hk.mono fun j _ e => e.elim (fun e => .inl e) (fun e => .inr e))⟩
theorem spans_good (tmps : Array Value) (w : World) (ob eb : Nat) (v : Value) (x : Int) (R : Ending → World → Prop) (h2 : tmps.getD 8 undef = .pointer (some ⟨ob, 0, none⟩)) (h3 : tmps.getD 9 undef = .pointer (some ⟨eb, 0, none⟩))
  (hf : w.cell? ⟨ob, 0, none⟩ = some v) (he : w.cell? ⟨eb, 0, none⟩ = some (.int .i64 x)) (hR : R (.returned (.tuple #[v, .int .i64 x])) w) :
  bodyPostD Tryz.prog Tryz.f87 R Exit.ret { tmps := tmps, defers := [dfrS ob eb] } w := by
 show Leaves Tryz.prog Tryz.f87 tmps R [dfrS ob eb] .returning w
 refine leaves_cons (f := 44) (args := #[.pointer (some ⟨eb, 0, none⟩), .func (.func 93) #[] #[.pointer (some ⟨ob, 0, none⟩)]]) (by simp) (by simp [go_sem]) ?_
 refine (caught_idle _ _ w).mono ?_
 rintro e u' w'' ⟨rfl, rfl, rfl⟩
 show Leaves Tryz.prog Tryz.f87 tmps R [] .returning _
 exact ⟨_, spans_results tmps _ ob eb v x h2 h3 hf he, hR⟩
/-- What lies in memory while Spans runs: its variables. -/
structure SSt (w W : World) : Prop where
 below : Below w.heap.size w W
 out : W.cell? ⟨w.heap.size, 0, none⟩ = some (.slice none 0 0)
 ofz : W.frozen? ⟨w.heap.size, 0, none⟩ = false
 err : W.cell? ⟨w.heap.size + 1, 0, none⟩ = some (.int .i64 0)
 efz : W.frozen? ⟨w.heap.size + 1, 0, none⟩ = false
namespace SSt
set_option linter.unusedSimpArgs false
set_option linter.unusedVariables false
variable {w W W' : World}
theorem lt (h : SSt w W) : w.heap.size + 1 < W.heap.size := World.block_lt_of_cell? _ _ h.err
theorem kept {S : Nat → Prop} (h : SSt w W) (k : Keeps S W W') (hS : ∀ j, j ≤ w.heap.size + 1 → ¬ S j) : SSt w W' := by
 have hl := h.lt
 refine ⟨h.below.trans (k.below h.below.size (fun j hj => hS j (by omega))), k.cell h.out (hS _ (by simp)), ?_, k.cell h.err (hS _ (by simp)), ?_⟩
 ·rw [World.frozen?_of_block (a := ⟨w.heap.size, 0, none⟩) (k.block (w.heap.size) (by omega) (hS _ (by omega)))]; exact h.ofz
 ·rw [World.frozen?_of_block (a := ⟨w.heap.size + 1, 0, none⟩) (k.block (w.heap.size + 1) (by omega) (hS _ (by omega)))]; exact h.efz
theorem beyond (h : SSt w W) (hb : Below W.heap.size W W') : SSt w W' := h.kept (Keeps.of_below (S := fun _ => False) hb) (fun _ _ e => e)
end SSt
theorem sst_start (w : World) : SSt w ((w.alloc (.cells #[.slice none 0 0] 32)).alloc (.cells #[.int .i64 0] 38)) := by
 refine ⟨((Below.refl _ w).alloc (Nat.le_refl _) _).alloc (by simp) _, ?_, ?_, ?_, ?_⟩
 all_goals go_simp
theorem sp_bad {w W : World} {no : Int} {tmps : Array Value} (S : SSt w W) (h8 : tmps.getD 8 undef = .pointer (some ⟨w.heap.size, 0, none⟩)) (h9 : tmps.getD 9 undef = .pointer (some ⟨w.heap.size + 1, 0, none⟩)) :
  bodyPostD Tryz.prog Tryz.f87 (SpPost w (.error no)) (Exit.panic [pan no]) { tmps := tmps, defers := [dfrS (w.heap.size) (w.heap.size + 1)] } W :=
 spans_bad tmps W _ _ _ 0 no _ h8 h9 S.out S.ofz S.err S.efz (by omega) fun w' k => ⟨S.below.trans (k.below (B := w.heap.size) S.below.size (fun j hj e => by rcases e with e | e <;> omega)), rfl⟩
section
variable {f : Nat → Int} {size : Nat} {second K i : Int} {k : Nat} {s : PSt} {R : Except Int (List Spn)}
theorem run_err1 {no : Int} (h : runP f size second K (k + 1) i s = R) (hx : adrP f size second K i s = .error no) : R = .error no := by
 rw [← h]; unfold runP stepP; rw [hx]
theorem run_err2 {x : Int × PSt} (h : runP f size second K (k + 1) i s = R) (hx : adrP f size second K i s = .ok x) (ha : x.1 % 4096 ≠ 0) : R = .error 150 := by
 rw [← h]; unfold runP stepP; rw [hx]; simp only []; rw [if_pos ha]
theorem run_err3 {x : Int × PSt} (h : runP f size second K (k + 1) i s = R) (hx : adrP f size second K i s = .ok x) (ha : x.1 % 4096 = 0) {no : Int} (hc : chk size x.1 (min x.2.left (4096 - x.1 % 4096)) = no) (hn : no ≠ 0) : R = .error no := by
 rw [← h]; unfold runP stepP; rw [hx]; simp only []; rw [if_neg (fun c => c ha)]; unfold addA; rw [hc, if_pos hn]
theorem run_more {x : Int × PSt} {m : Int} (h : runP f size second K (k + 1) i s = R) (hx : adrP f size second K i s = .ok x) (ha : x.1 % 4096 = 0) (hm : min x.2.left (4096 - x.1 % 4096) = m) (hc : chk size x.1 m = 0) :
  runP f size second K k (i + 1) ⟨x.2.list, x.2.fresh, x.2.left - m, x.2.out ++ [⟨x.1, m, false⟩]⟩ = R := by
 rw [← h]
 conv => rhs; unfold runP stepP
 rw [hx]; simp only []; rw [if_neg (fun c => c ha)]; unfold addA; rw [hm, hc, if_neg (by omega)]
theorem nxt_keeps {x : Int × PSt} (hf : Bytes f) (hz : size ≤ 4194304) (hl : 0 ≤ s.list) (h : nxtP f size K s = .ok x) : (0 ≤ x.1 ∧ x.1 ≤ 18446744073709551615) ∧ (0 ≤ x.2.list ∧ x.2.list ≤ 18446744073709551615) ∧ x.2.left = s.left ∧ x.2.out = s.out := by
 unfold nxtP at h
 split at h
 ·cases h
 ·split at h
  ·cases h
  ·rename_i hc
   obtain ⟨c1, c2⟩ := chk_ok (Classical.not_not.1 hc)
   split at h
   ·split at h
    ·cases h
    ·split at h
     ·cases h
     ·rename_i hd
      obtain ⟨d1, d2⟩ := chk_ok (Classical.not_not.1 hd)
      cases h
      have := (wrd_bd hf s.list).1
      exact ⟨wrd_bd hf _, ⟨by simp only []; omega, by simp only []; omega⟩, rfl, rfl⟩
   ·cases h
    refine ⟨wrd_bd hf _, ?_, rfl, rfl⟩
    simp only []
    omega
end
end Go.Proofs.YtfmabknhfehdcaaGreat
namespace Go.Proofs.YtfmabknhfehdcaaGreat
set_option linter.unusedSimpArgs false
set_option linter.unusedVariables false
open Go.RowKit
/-- What holds in the loop of Spans. -/
structure LSt (w : World) (b B size : Nat) (f : Nat → Int) (L : List (Nat × Nat)) (wb : Nat) (s : PSt) (W : World) : Prop where
 sst : SSt w W
 mem : MemAt W b B size f L
 wlk : Wlk (fun j => j < wb) wb W (.pointer (some ⟨b, 0, none⟩)) s
 wbl : w.heap.size + 1 < wb
 bl : b < w.heap.size
 Bl : B < w.heap.size
namespace LSt
set_option linter.unusedSimpArgs false
set_option linter.unusedVariables false
variable {w : World} {b B size : Nat} {f : Nat → Int} {L : List (Nat × Nat)} {wb : Nat} {s : PSt} {W W' : World}
theorem step (h : LSt w b B size f L wb s W) {s' : PSt} (k : Keeps (fun j => ¬ j < wb) W W') (hw : Wlk (fun j => j < wb) wb W' (.pointer (some ⟨b, 0, none⟩)) s') : LSt w b B size f L wb s' W' := by
 have h1 := h.wbl; have h2 := h.bl; have h3 := h.Bl
 exact ⟨h.sst.kept k (fun j hj e => e (by omega)), h.mem.kept k (fun e => e (by omega)) (fun e => e (by omega)), hw, h1, h2, h3⟩
theorem go (h : LSt w b B size f L wb s W) (hb : Below W.heap.size W W') : LSt w b B size f L wb s W' := h.step (Keeps.of_below hb) (h.wlk.below hb)
end LSt
theorem build_walk (p : Option Addr) (l n : Int) (w : World) : (Instr.build 153 #[(0, .pointer p), (1, .int .u64 l), (2, .bool true), (4, .int .i64 n)]).run Tryz.prog w = .ok (.agg #[.pointer p, .int .u64 l, .bool true, .slice none 0 0, .int .i64 n]) w := by kernel_rfl
theorem Wlk.fresh (P : Nat → Prop) (m : Value) (l n : Int) (w : World) (hP : ∀ k, P k → k < w.heap.size) : Wlk P w.heap.size (w.alloc (.cells #[m, .int .u64 l, .bool true, .slice none 0 0, .int .i64 n] 153)) m ⟨l, true, n, []⟩ := by
 refine ⟨⟨.slice none 0 0, World.rowIs_alloc w _ _ _ (fun i hi => ?_), World.ownsRow_nil _ _ _ _, fun k hk e => by cases e⟩, fun h => by have := hP _ h; omega, fun k hk => by have := hP k hk; simp; omega⟩
 match i, hi with
 | 0, _ => rfl
 | 1, _ => rfl
 | 2, _ => rfl
 | 3, _ => rfl
 | 4, _ => rfl
section
variable (x y n : Int) (b B size : Nat) (f : Nat → Int) (L : List (Nat × Nat)) (w : World) (hM : MemAt w b B size f L) (hs : 0 < size) (hx0 : 0 ≤ x) (hx1 : x ≤ 18446744073709551615)
include hM hs hx0 hx1
omit hx0 hx1 in
set_option maxRecDepth 100000 in
set_option maxHeartbeats 4000000 in
theorem spans_arg (hn : n < 0 ∨ 1048576 < n) :
  Calls Tryz.prog 87 #[.pointer (some ⟨b, 0, none⟩), .int .u64 x, .int .u64 y, .int .i64 n] w (SpPost w (.error 2)) := by
 have hq : decide (0 ≤ n) = false ∨ decide (n ≤ 1048576) = false := hn.imp (fun h => decide_eq_false (by omega)) (fun h => decide_eq_false (by omega))
 have HQ := Lib.hid hq
 clear hn hq
 have HM := Lib.hid hM
 obtain ⟨sz, hsz⟩ : ∃ z : Int, z = size := ⟨_, rfl⟩
 have dz : decide (0 < sz) = true := decide_eq_true (by omega)
 have HZ := Lib.hid hsz
 have HBL := Lib.hid hM.lt
 have HBL' := Lib.hid hM.lt'
 have HSM := Lib.hid hM.small
 clear hM hs hsz
 have hmf : ∀ (fn : Fn) (first cap : Array Value) (w : World), (Instr.makeFunc fn first cap).run Tryz.prog w = .ok (.func fn first cap) w := fun _ _ _ _ => rfl
 go_enter_defers Tryz.func87, Tryz.ntmps87
 go_upto_region 2 with (fail)
 obtain ⟨W0, hW0⟩ : ∃ W0, W0 = (w.alloc (.cells #[.slice none 0 0] 32)).alloc (.cells #[.int .i64 0] 38) := ⟨_, rfl⟩
 rw [← hW0]
 have S0 := Lib.hid (show SSt w W0 by rw [hW0]; exact sst_start w)
 clear hW0
 go_upto_region 3 with (first
  | (go_at_call 19; refine (size_is b B size f L sz _ (HM.out.below S0.out.below) HZ.out).mono ?_; rintro e w' ⟨rfl, rfl⟩)
  | (go_at_call 46; (with_reducible refine (must1_ok' _ _ _ (by simp)).mono ?_); rintro e w' ⟨rfl, rfl⟩))
 have S1 := Lib.hid (S0.out.beyond ((Below.refl _ _).alloc (Nat.le_refl _) (.cells #[.bool true] 4)))
 obtain ⟨W1, hW1⟩ : ∃ z, z = W0.alloc (.cells #[.bool true] 4) := ⟨_, rfl⟩
 rw [← hW1] at S1 ⊢
 clear hW1
 obtain ⟨p, hp⟩ : ∃ z, decide (0 ≤ n) = z := ⟨_, rfl⟩
 obtain ⟨q, hq⟩ : ∃ z, decide (n ≤ 1048576) = z := ⟨_, rfl⟩
 rw [hp, hq] at HQ
 go_wp2_with fail
 refine (must2_bad' _ _ _ HQ.out _ _ (by simp)).mono ?_
 rintro e w' ⟨rfl, rfl⟩
 exact sp_bad (S1.out.beyond ((Below.refl _ _).alloc (Nat.le_refl _) _)) rfl rfl
omit hx0 hx1 in
set_option maxRecDepth 100000 in
set_option maxHeartbeats 4000000 in
theorem spans_zero (hn : n = 0) :
  Calls Tryz.prog 87 #[.pointer (some ⟨b, 0, none⟩), .int .u64 x, .int .u64 y, .int .i64 n] w (SpPost w (.ok [])) := by
 subst hn
 have HM := Lib.hid hM
 obtain ⟨sz, hsz⟩ : ∃ z : Int, z = size := ⟨_, rfl⟩
 have dz : decide (0 < sz) = true := decide_eq_true (by omega)
 have HZ := Lib.hid hsz
 have HBL := Lib.hid hM.lt
 have HBL' := Lib.hid hM.lt'
 have HSM := Lib.hid hM.small
 clear hM hs hsz
 have hmf : ∀ (fn : Fn) (first cap : Array Value) (w : World), (Instr.makeFunc fn first cap).run Tryz.prog w = .ok (.func fn first cap) w := fun _ _ _ _ => rfl
 go_enter_defers Tryz.func87, Tryz.ntmps87
 go_upto_region 2 with (fail)
 obtain ⟨W0, hW0⟩ : ∃ W0, W0 = (w.alloc (.cells #[.slice none 0 0] 32)).alloc (.cells #[.int .i64 0] 38) := ⟨_, rfl⟩
 rw [← hW0]
 have S0 := Lib.hid (show SSt w W0 by rw [hW0]; exact sst_start w)
 clear hW0
 go_upto_region 4 with (first
  | (go_at_call 19; refine (size_is b B size f L sz _ (HM.out.below S0.out.below) HZ.out).mono ?_; rintro e w' ⟨rfl, rfl⟩)
  | (go_at_call 46; (with_reducible refine (must1_ok' _ _ _ (by simp)).mono ?_); rintro e w' ⟨rfl, rfl⟩)
  | (go_at_call 46; (with_reducible refine (must2_ok' _ _ _ (by simp)).mono ?_); rintro e w' ⟨rfl, rfl⟩))
 have S1 := Lib.hid (S0.out.beyond (((Below.refl _ _).alloc (Nat.le_refl _) (.cells #[.bool true] 4)).alloc (by simp) (.cells #[.bool true, .bool true] 4)))
 obtain ⟨W1, hW1⟩ : ∃ z, z = (W0.alloc (.cells #[.bool true] 4)).alloc (.cells #[.bool true, .bool true] 4) := ⟨_, rfl⟩
 rw [← hW1] at S1 ⊢
 have M1 := Lib.hid (HM.out.below S1.out.below)
 clear hW1 S0
 have o1 := S1.out.out
 have o2 := S1.out.ofz
 have o3 := S1.out.err
 have o4 := S1.out.efz
 go_wp2_with fail
 refine spans_good _ _ _ _ (.slice none 0 0) 0 _ rfl rfl ?_ ?_ ?_
 ·go_simp
 ·go_simp
 ·have hl := S1.out.below
  exact ⟨(hl.setCell (p := ⟨w.heap.size, 0, none⟩) (by simp) _).setCell (p := ⟨w.heap.size + 1, 0, none⟩) (by simp) _, _, rfl, World.ownsRow_nil _ _ _ _⟩
set_option maxRecDepth 100000 in
set_option maxHeartbeats 16000000 in
theorem spans_pos (hy0 : 0 ≤ y) (hy1 : y ≤ 18446744073709551615) (hby : Bytes f) (h1 : 1 ≤ n) (h2 : n ≤ 1048576) (R : Except Int (List Spn)) (hR : spansP f size x y n = R) :
  Calls Tryz.prog 87 #[.pointer (some ⟨b, 0, none⟩), .int .u64 x, .int .u64 y, .int .i64 n] w (SpPost w R) := by
 have p1 : decide (0 ≤ n) = true := decide_eq_true (by omega)
 have p2 : decide (n ≤ 1048576) = true := decide_eq_true h2
 have p3 : (n == 0) = false := beq_eq_false_iff_ne.2 (by omega)
 have hbw := build_walk
 unfold spansP at hR
 rw [if_neg (by omega), if_neg (by omega)] at hR
 have HM := Lib.hid hM
 obtain ⟨sz, hsz⟩ : ∃ z : Int, z = size := ⟨_, rfl⟩
 have dz : decide (0 < sz) = true := decide_eq_true (by omega)
 have HZ := Lib.hid hsz
 have HBL := Lib.hid hM.lt
 have HBL' := Lib.hid hM.lt'
 have HSM := Lib.hid hM.small
 clear hM hs hsz
 have hmf : ∀ (fn : Fn) (first cap : Array Value) (w : World), (Instr.makeFunc fn first cap).run Tryz.prog w = .ok (.func fn first cap) w := fun _ _ _ _ => rfl
 go_enter_defers Tryz.func87, Tryz.ntmps87
 go_upto_region 2 with (fail)
 obtain ⟨W0, hW0⟩ : ∃ W0, W0 = (w.alloc (.cells #[.slice none 0 0] 32)).alloc (.cells #[.int .i64 0] 38) := ⟨_, rfl⟩
 rw [← hW0]
 have S0 := Lib.hid (show SSt w W0 by rw [hW0]; exact sst_start w)
 clear hW0
 go_upto_region 4 with (first
  | (go_at_call 19; refine (size_is b B size f L sz _ (HM.out.below S0.out.below) HZ.out).mono ?_; rintro e w' ⟨rfl, rfl⟩)
  | (go_at_call 46; (with_reducible refine (must1_ok' _ _ _ (by simp)).mono ?_); rintro e w' ⟨rfl, rfl⟩)
  | (go_at_call 46; (with_reducible refine (must2_ok' _ _ _ (by simp)).mono ?_); rintro e w' ⟨rfl, rfl⟩))
 have S1 := Lib.hid (S0.out.beyond (((Below.refl _ _).alloc (Nat.le_refl _) (.cells #[.bool true] 4)).alloc (by simp) (.cells #[.bool true, .bool true] 4)))
 obtain ⟨W1, hW1⟩ : ∃ z, z = (W0.alloc (.cells #[.bool true] 4)).alloc (.cells #[.bool true, .bool true] 4) := ⟨_, rfl⟩
 rw [← hW1] at S1 ⊢
 have M1 := Lib.hid (HM.out.below S1.out.below)
 clear hW1 S0
 have o1 := S1.out.out
 have o2 := S1.out.ofz
 have o3 := S1.out.err
 have o4 := S1.out.efz
 have BY := Lib.hid hby
 by_cases h4 : x % 4 = 0
 case neg =>
  rw [if_pos h4] at hR
  subst hR
  have q4 := Lib.hid (beq_eq_false_iff_ne.2 h4)
  go_upto_region 7 with fail
  have hb2 : Below W1.heap.size W1 (W1.alloc (.cells #[.pointer (some ⟨b, 0, none⟩), .int .u64 y, .bool true, .slice none 0 0, .int .i64 n] 153)) := (Below.refl _ _).alloc (Nat.le_refl _) _
  have HB2 := Lib.hid (hb2.alloc hb2.size (.cells #[.bool false] 4))
  clear hb2 h4
  go_wp2_with (go_at_call 83; refine (aligned_any x 4 false _ hx0 hx1 (by omega) (by omega) q4.out).mono ?_; rintro e w' ⟨rfl, rfl⟩)
  refine (must1_bad' _ _ _ (by simp)).mono ?_
  rintro e w' ⟨rfl, rfl⟩
  exact sp_bad (S1.out.beyond HB2.out) rfl rfl
 case pos =>
  rw [if_neg (fun c => c h4)] at hR
  have q4 := Lib.hid (beq_iff_eq.2 h4)
  have HR := Lib.hid hR
  clear hR h4 hby
  go_upto_region 8 with (first
   | (go_at_call 83; refine (aligned_any x 4 true _ hx0 hx1 (by omega) (by omega) q4.out).mono ?_; rintro e w' ⟨rfl, rfl⟩)
   | (go_at_call 46; (with_reducible refine (must1_ok' _ _ _ (by simp)).mono ?_); rintro e w' ⟨rfl, rfl⟩))
  clear o1 o2 o3 o4 hbw
  obtain ⟨W2, hW2⟩ : ∃ z, z = W1.alloc (.cells #[.pointer (some ⟨b, 0, none⟩), .int .u64 y, .bool true, .slice none 0 0, .int .i64 n] 153) := ⟨_, rfl⟩
  have b2 : Below W1.heap.size W1 W2 := by rw [hW2]; exact (Below.refl _ _).alloc (Nat.le_refl _) _
  have hwk : Wlk (fun j => j < W1.heap.size) W1.heap.size W2 (.pointer (some ⟨b, 0, none⟩)) ⟨y, true, n, []⟩ := by rw [hW2]; exact Wlk.fresh _ _ _ _ _ (fun k hk => hk)
  rw [← hW2]
  obtain ⟨W3, hW3⟩ : ∃ z, z = W2.alloc (.cells #[.bool true] 4) := ⟨_, rfl⟩
  rw [← hW3]
  have b3 : Below W2.heap.size W2 W3 := by rw [hW3]; exact (Below.refl _ _).alloc (Nat.le_refl _) _
  have hl3 : LSt w b B size f L W1.heap.size ⟨y, true, n, []⟩ W3 := ⟨(S1.out.beyond b2).beyond b3, (M1.out.below b2).below b3, hwk.below b3, S1.out.lt, HBL.out, HBL'.out⟩
  obtain ⟨wb, hwb⟩ : ∃ z, z = W1.heap.size := ⟨_, rfl⟩
  rw [← hwb] at hl3 ⊢
  have L3 := Lib.hid hl3
  clear hW2 b2 hwk hW3 b3 hl3 hwb S1 M1 HM
  obtain ⟨m, hm⟩ : ∃ z, z = min n (4096 - x % 4096) := ⟨_, rfl⟩
  obtain ⟨K, hK⟩ : ∃ z, z = pgs x n := ⟨_, rfl⟩
  have HK := Lib.hid hK.symm
  have hK0 : 0 ≤ K ∧ K ≤ 257 := by rw [hK]; unfold pgs; split <;> omega
  have hm0 : 0 ≤ n - m := by rw [hm]; omega
  have hm1 : n - m ≤ 1048576 := by rw [hm]; omega
  have HMM := Lib.hid hm.symm
  have hR := HR.out
  unfold addA at hR
  simp only [] at hR
  rw [← hm, ← hK] at hR
  clear HR hK hm
  by_cases hc : chk size x m = 0
  case neg =>
   rw [if_pos hc] at hR
   subst hR
   have HNE := Lib.hid (beq_eq_false_iff_ne.2 hc)
   clear hc
   go_wp2_with fail
   refine (add_bad (fun j => j < wb) wb b B size f L ⟨y, true, n, []⟩ x m W3 L3.out.mem L3.out.wlk hx0 hx1 (by show 0 ≤ n; omega) (by show n ≤ 1048576; omega) HMM.out _ rfl HNE.out).mono ?_
   rintro e w' ⟨rfl, hb⟩
   exact sp_bad (L3.out.sst.beyond hb) rfl rfl
  case pos =>
   rw [if_neg (fun c => c hc)] at hR
   simp only [List.nil_append] at hR
   have HR := Lib.hid hR
   have HC := Lib.hid hc
   clear hR hc
   go_upto_region 11 with (first
    | (go_at_call 94; refine (add_ok (fun j => j < wb) wb b B size f L ⟨y, true, n, []⟩ x m W3 L3.out.mem L3.out.wlk hx0 hx1 (by simp only []; omega) (by simp only []; omega) HMM.out HC.out (by simp)).mono ?_; rintro e W4 ⟨rfl, hk, hw⟩; have L4 := Lib.hid (L3.out.step hk hw); clear hk hw)
    | (go_at_call 53; refine (count_any x n K _ hx0 hx1 HK.out).mono ?_; rintro e w' ⟨rfl, rfl⟩))
   go_loopw [12, 13] (fun v12 v13 wr => ∃ (i : Nat) (s : PSt), v12 = .int .i64 (i : Nat) ∧ 1 ≤ i ∧ ((i : Int) ≤ K ∨ i = 1) ∧ LSt w b B size f L wb s wr ∧ 0 ≤ s.list ∧ s.list ≤ 18446744073709551615 ∧ 0 ≤ s.left ∧ s.left ≤ 1048576 ∧ s.out.length ≤ i ∧ runP f size y K (K.toNat - i) i s = R) (fun v12 _ _ => (K - intOf v12).toNat)
   case atStart => exact ⟨1, _, rfl, Nat.le_refl _, .inr rfl, L4.out, hy0, hy1, hm0, hm1, by simp, HR.out⟩
   case round =>
    obtain ⟨i, s, rfl, hi1, hiK, hL, hl0, hl1, hf0, hf1, hol, hrun⟩ := hrel
    have HL := Lib.hid hL
    have HRUN := Lib.hid hrun
    have HOL := Lib.hid hol
    clear hL hrun hol L3 L4 HR HC HMM
    by_cases hik : (i : Int) < K
    ·have q5 : decide ((i : Int) < K) = true := decide_eq_true hik
     obtain ⟨k, hk⟩ : ∃ k, K.toNat - i = k + 1 := ⟨K.toNat - i - 1, by omega⟩
     have hrun := HRUN.out
     rw [hk] at hrun
     replace HRUN := Lib.hid hrun
     have hk2 : K.toNat - (i + 1) = k := by omega
     have HKK := Lib.hid hk2
     clear hrun hk hk2
     by_cases h3 : 2 < K
     ·have q6 : decide (2 < K) = true := decide_eq_true h3
      have had : adrP f size y K i s = nxtP f size (K - i) s := by unfold adrP; rw [if_pos h3]
      have HNX := Lib.hid (next_any (fun j => j < wb) wb b B size f L s.list s.left (K - i) s.fresh s.out wr HL.out.mem (by have := HL.out.bl; have := HL.out.wbl; omega) (by have := HL.out.Bl; have := HL.out.wbl; omega) BY.out HL.out.wlk hl0 hl1 (by omega) (by omega) _ rfl)
      have hxc : (∃ no, nxtP f size (K - i) s = .error no) ∨ ∃ z, nxtP f size (K - i) s = .ok z := by
       cases nxtP f size (K - i) s with
       | error no => exact .inl ⟨no, rfl⟩
       | ok z => exact .inr ⟨z, rfl⟩
      rcases hxc with ⟨no, hx⟩ | ⟨z, hx⟩
      ·have hRR := run_err1 HRUN.out (had.trans hx)
       subst hRR
       have hx' : nxtP f size (K - i) ⟨s.list, s.fresh, s.left, s.out⟩ = .error no := hx
       rw [hx'] at HNX
       clear hx hx' had
       go_wp2_with fail
       refine HNX.out.mono ?_
       rintro e w' ⟨rfl, hk⟩
       exact sp_bad (HL.out.sst.kept hk (fun j hj e => e (by have := HL.out.wbl; omega))) rfl rfl
      ·obtain ⟨⟨a0, a1⟩, ⟨b0, b1⟩, e1, e2⟩ := nxt_keeps BY.out HSM.out hl0 hx
       have hx' : nxtP f size (K - i) ⟨s.list, s.fresh, s.left, s.out⟩ = .ok z := hx
       rw [hx'] at HNX
       have HX := Lib.hid (had.trans hx)
       obtain ⟨a, s'⟩ := z
       simp only [] at a0 a1 b0 b1 e1 e2
       have HE1 := Lib.hid e1
       have HE2 := Lib.hid e2
       have f0' : 0 ≤ s'.left := by rw [e1]; exact hf0
       have f1' : s'.left ≤ 1048576 := by rw [e1]; exact hf1
       have hol' := Lib.hid (show s'.out.length ≤ i by rw [e2]; exact HOL.out)
       clear hx hx' had e1 e2
       go_upto_region 16 with (go_at_call 95; refine HNX.out.mono ?_; rintro e W5 ⟨rfl, hk, hw⟩; have L5 := Lib.hid (HL.out.step hk hw); clear hk hw)
       by_cases h44 : a % 4096 = 0
       case neg =>
        have hRR := run_err2 HRUN.out HX.out h44
        subst hRR
        have qa := Lib.hid (beq_eq_false_iff_ne.2 h44)
        clear h44
        go_wp2_with (go_at_call 83; refine (aligned_any a 4096 false _ a0 a1 (by omega) (by omega) qa.out).mono ?_; rintro e w' ⟨rfl, rfl⟩)
        refine (must1_bad' _ _ _ (by simp)).mono ?_
        rintro e w' ⟨rfl, rfl⟩
        exact sp_bad (L5.out.sst.beyond ((Below.refl _ _).alloc (Nat.le_refl _) _)) rfl rfl
       case pos =>
        have qa := Lib.hid (beq_iff_eq.2 h44)
        have H44 := Lib.hid h44
        obtain ⟨m, hm⟩ : ∃ z, z = min s'.left (4096 - a % 4096) := ⟨_, rfl⟩
        have hm0 : 0 ≤ s'.left - m := by rw [hm]; omega
        have hm1 : s'.left - m ≤ 1048576 := by rw [hm]; omega
        have HMM := Lib.hid hm.symm
        clear h44 hm
        go_upto_region 17 with (first
         | (go_at_call 83; refine (aligned_any a 4096 true _ a0 a1 (by omega) (by omega) qa.out).mono ?_; rintro e w' ⟨rfl, rfl⟩)
         | (go_at_call 46; (with_reducible refine (must1_ok' _ _ _ (by simp)).mono ?_); rintro e w' ⟨rfl, rfl⟩))
        have L6 := Lib.hid (L5.out.go ((Below.refl _ _).alloc (Nat.le_refl _) (.cells #[.bool true] 4)))
        obtain ⟨W6, hW6⟩ : ∃ z, z = W5.alloc (.cells #[.bool true] 4) := ⟨_, rfl⟩
        rw [← hW6] at L6 ⊢
        clear hW6
        by_cases hc : chk size a m = 0
        case neg =>
         have hRR := run_err3 HRUN.out HX.out H44.out (no := chk size a m) (by simp only []; rw [HMM.out]) hc
         subst hRR
         have HNE := Lib.hid (beq_eq_false_iff_ne.2 hc)
         clear hc
         go_wp2_with fail
         refine (add_bad (fun j => j < wb) wb b B size f L s' a m W6 L6.out.mem L6.out.wlk a0 a1 f0' f1' HMM.out _ rfl HNE.out).mono ?_
         rintro e w' ⟨rfl, hb⟩
         exact sp_bad (L6.out.sst.beyond hb) rfl rfl
        case pos =>
         have HRN := Lib.hid (run_more HRUN.out HX.out H44.out HMM.out hc)
         have HC := Lib.hid hc
         have hlen := HOL.out
         clear hc hlen
         go_wp2_with (go_at_call 94; refine (add_ok (fun j => j < wb) wb b B size f L s' a m W6 L6.out.mem L6.out.wlk a0 a1 f0' f1' HMM.out HC.out (by have := hol'.out; omega)).mono ?_; rintro e W7 ⟨rfl, hk, hw⟩; have L7 := Lib.hid (L6.out.step hk hw); clear hk hw)
         have hrn := HRN.out
         rw [show ((i : Int) + 1) = ((i + 1 : Nat) : Int) by omega, ← HKK.out] at hrn
         have hv12 : Value.int IntKind.i64 ((i : Int) + 1) = .int .i64 ((i + 1 : Nat) : Int) := by rw [Int.natCast_add]; rfl
         have hol2 : (s'.out ++ [(⟨a, m, false⟩ : Spn)]).length ≤ i + 1 := by rw [List.length_append]; have := hol'.out; simp; omega
         go_roundw
         case rel =>
          first
           | exact ⟨i + 1, _, hv12, by omega, .inl (by omega), L7.out, b0, b1, hm0, hm1, hol2, hrn⟩
           | ((repeat apply Exists.intro); exact ⟨⟨i + 1, _, hv12, by omega, .inl (by omega), L7.out, b0, b1, hm0, hm1, hol2, hrn⟩, rfl⟩)
         case measure => simp [intOf]; omega
     ·have q6 : decide (2 < K) = false := decide_eq_false h3
      have HX := Lib.hid (show adrP f size y K i s = .ok (y, s) by unfold adrP; rw [if_neg h3])
      have L5 := HL
      have a0 := hy0
      have a1 := hy1
      have b0 := hl0
      have b1 := hl1
      have f0' := hf0
      have f1' := hf1
      have hol' := HOL
      clear h3
      go_upto_region 16 with fail
      by_cases h44 : y % 4096 = 0
      case neg =>
       have hRR := run_err2 HRUN.out HX.out h44
       subst hRR
       have qa := Lib.hid (beq_eq_false_iff_ne.2 h44)
       clear h44
       go_wp2_with (go_at_call 83; refine (aligned_any y 4096 false _ a0 a1 (by omega) (by omega) qa.out).mono ?_; rintro e w' ⟨rfl, rfl⟩)
       refine (must1_bad' _ _ _ (by simp)).mono ?_
       rintro e w' ⟨rfl, rfl⟩
       exact sp_bad (L5.out.sst.beyond ((Below.refl _ _).alloc (Nat.le_refl _) _)) rfl rfl
      case pos =>
       have qa := Lib.hid (beq_iff_eq.2 h44)
       have H44 := Lib.hid h44
       obtain ⟨m, hm⟩ : ∃ z, z = min s.left (4096 - y % 4096) := ⟨_, rfl⟩
       have hm0 : 0 ≤ s.left - m := by rw [hm]; omega
       have hm1 : s.left - m ≤ 1048576 := by rw [hm]; omega
       have HMM := Lib.hid hm.symm
       clear h44 hm
       go_upto_region 17 with (first
        | (go_at_call 83; refine (aligned_any y 4096 true _ a0 a1 (by omega) (by omega) qa.out).mono ?_; rintro e w' ⟨rfl, rfl⟩)
        | (go_at_call 46; (with_reducible refine (must1_ok' _ _ _ (by simp)).mono ?_); rintro e w' ⟨rfl, rfl⟩))
       have L6 := Lib.hid (L5.out.go ((Below.refl _ _).alloc (Nat.le_refl _) (.cells #[.bool true] 4)))
       obtain ⟨W6, hW6⟩ : ∃ z, z = wr.alloc (.cells #[.bool true] 4) := ⟨_, rfl⟩
       rw [← hW6] at L6 ⊢
       clear hW6
       by_cases hc : chk size y m = 0
       case neg =>
        have hRR := run_err3 HRUN.out HX.out H44.out (no := chk size y m) (by simp only []; rw [HMM.out]) hc
        subst hRR
        have HNE := Lib.hid (beq_eq_false_iff_ne.2 hc)
        clear hc
        go_wp2_with fail
        refine (add_bad (fun j => j < wb) wb b B size f L s y m W6 L6.out.mem L6.out.wlk a0 a1 f0' f1' HMM.out _ rfl HNE.out).mono ?_
        rintro e w' ⟨rfl, hb⟩
        exact sp_bad (L6.out.sst.beyond hb) rfl rfl
       case pos =>
        have HRN := Lib.hid (run_more HRUN.out HX.out H44.out HMM.out hc)
        have HC := Lib.hid hc
        have hlen := HOL.out
        clear hc hlen
        go_wp2_with (go_at_call 94; refine (add_ok (fun j => j < wb) wb b B size f L s y m W6 L6.out.mem L6.out.wlk a0 a1 f0' f1' HMM.out HC.out (by have := hol'.out; omega)).mono ?_; rintro e W7 ⟨rfl, hk, hw⟩; have L7 := Lib.hid (L6.out.step hk hw); clear hk hw)
        have hrn := HRN.out
        rw [show ((i : Int) + 1) = ((i + 1 : Nat) : Int) by omega, ← HKK.out] at hrn
        have hv12 : Value.int IntKind.i64 ((i : Int) + 1) = .int .i64 ((i + 1 : Nat) : Int) := by rw [Int.natCast_add]; rfl
        have hol2 : (s.out ++ [(⟨y, m, false⟩ : Spn)]).length ≤ i + 1 := by rw [List.length_append]; have := hol'.out; simp; omega
        go_roundw
        case rel =>
         first
          | exact ⟨i + 1, _, hv12, by omega, .inl (by omega), L7.out, b0, b1, hm0, hm1, hol2, hrn⟩
          | ((repeat apply Exists.intro); exact ⟨⟨i + 1, _, hv12, by omega, .inl (by omega), L7.out, b0, b1, hm0, hm1, hol2, hrn⟩, rfl⟩)
        case measure => simp [intOf]; omega
    ·have q5 : decide ((i : Int) < K) = false := decide_eq_false hik
     have hrun := HRUN.out
     rw [show K.toNat - i = 0 by omega] at hrun
     have hRR : R = .ok s.out := by rw [← hrun]; rfl
     subst hRR
     obtain ⟨v, hr, hown, hp⟩ := HL.out.wlk.ex
     have c3 : wr.cell? ⟨wb, 3, none⟩ = some v := hr.cell (i := 3) (by omega)
     have hn1 : v.ownBlock ≠ some w.heap.size := hp _ (by have := HL.out.wbl; omega)
     have hn2 : v.ownBlock ≠ some (w.heap.size + 1) := hp _ (by have := HL.out.wbl; omega)
     obtain ⟨va, vm, vc, hvs⟩ := owns_slice hown
     subst hvs
     have o1 := HL.out.sst.out
     have o2 := HL.out.sst.ofz
     have o3 := HL.out.sst.err
     have o4 := HL.out.sst.efz
     have hwb := HL.out.wbl
     clear hrun
     go_wp2_with fail
     refine spans_good _ _ _ _ (.slice va vm vc) 0 _ rfl rfl ?_ ?_ ?_
     ·go_simp
     ·go_simp
     ·have hl := HL.out.sst.below
      refine ⟨(hl.setCell (p := ⟨w.heap.size, 0, none⟩) (by simp) _).setCell (p := ⟨w.heap.size + 1, 0, none⟩) (by simp) _, _, rfl, ?_⟩
      exact owns_less (owns_put (owns_put hown hn1 _) hn2 _) (by omega)
end
end Go.Proofs.YtfmabknhfehdcaaGreat
namespace Go.Proofs.YtfmabknhfehdcaaGreat
set_option linter.unusedSimpArgs false
set_option linter.unusedVariables false
open Go.RowKit Go.Shelf
attribute [local go_sem] Oper.semAt_some
end Go.Proofs.YtfmabknhfehdcaaGreat
