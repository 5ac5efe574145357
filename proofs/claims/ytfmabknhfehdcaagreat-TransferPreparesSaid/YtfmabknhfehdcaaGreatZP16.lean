/- sgl: Spans: the kinds' functions, the door, one descriptor examined. -/
import Derived.Test.YtfmabknhfehdcaaGreatZP15
import Derived.Test.YtfmabknhfehdcaaGreatZP11
namespace Go.Proofs.YtfmabknhfehdcaaGreat
set_option linter.unusedSimpArgs false
set_option linter.unusedVariables false
open Go.RowKit
def fnV (f : Nat) : Value := .func (.func f) #[] #[]
def kindEs : Array MapEntry := #[⟨.int .i64 1, fnV 97, 0⟩, ⟨.int .i64 5, fnV 97, 1⟩, ⟨.int .i64 2, fnV 98, 2⟩, ⟨.int .i64 3, fnV 99, 3⟩, ⟨.int .i64 4, fnV 99, 4⟩]
/-- What examining a descriptor leaves. -/
def ExPost (P : Nat → Prop) (wb : Nat) (m : Value) (th : Bool) (ex : Int) (W : World) : Except Int WSt → Ending → World → Prop
 | .error no, e, W' => e = .panicked [pan no] ∧ Keeps (fun k => ¬ P k) W W'
 | .ok s', e, W' => e = .returned (.tuple #[]) ∧ Keeps (fun k => ¬ P k) W W' ∧ sWlk P wb W' m th ex s'
/-- The function of a kind, and what it does. -/
theorem exam_fn (size : Nat) (f : Nat → Int) (b B : Nat) (L : List (Nat × Nat)) (th : Bool) (d : Dsc) (hv : Vld d) (hd : d.Ok) :
  ∃ i fk, Instr.findNow (.int .i64) (.int .i64 d.k) kindEs.toList 0 = some (some (i, fnV fk)) ∧ (∀ args w, (callFunc fk args).run Tryz.prog w = .ok (.enter fk args) w) ∧
   ∀ (P : Nat → Prop) (wb : Nat) (ex : Int) (s : WSt) (W : World), MemAt W b B size f L → sWlk P wb W (.pointer (some ⟨b, 0, none⟩)) th ex s → s.Ok size → s.left ≤ 1048576 →
    Calls Tryz.prog fk #[.pointer (some ⟨wb, 0, none⟩), .agg d.cells] W (ExPost P wb (.pointer (some ⟨b, 0, none⟩)) th ex W (exam size th d s)) := by
 obtain ⟨⟨k1, k5⟩, ⟨n0, n1⟩, -, -⟩ := hv
 have hblk : d.k ≠ 2 → d.k ≠ 3 → d.k ≠ 4 → ∀ (P : Nat → Prop) (wb : Nat) (ex : Int) (s : WSt) (W : World), MemAt W b B size f L → sWlk P wb W (.pointer (some ⟨b, 0, none⟩)) th ex s → s.Ok size → s.left ≤ 1048576 →
    Calls Tryz.prog 97 #[.pointer (some ⟨wb, 0, none⟩), .agg d.cells] W (ExPost P wb (.pointer (some ⟨b, 0, none⟩)) th ex W (exam size th d s)) := by
  intro h2 h3 h4 P wb ex s W hM h hs hl
  unfold exam
  rw [if_neg (by omega), if_neg h2]
  by_cases hk : chk size d.a d.n = 0
  ·rw [if_neg (by omega)]
   exact block_ok P wb b B size f L th ex s d W hM h hd hk (by have := hs.l1; have := hs.l0; omega) hl
  ·rw [if_pos hk]
   exact (block_bad wb b B size f L d W hM h.c0 hd _ rfl (beq_eq_false_iff_ne.2 hk)).mono fun e W' h => ⟨h.1, kN h.2⟩
 have hseg : (d.k = 3 ∨ d.k = 4) → ∀ (P : Nat → Prop) (wb : Nat) (ex : Int) (s : WSt) (W : World), MemAt W b B size f L → sWlk P wb W (.pointer (some ⟨b, 0, none⟩)) th ex s → s.Ok size → s.left ≤ 1048576 →
    Calls Tryz.prog 99 #[.pointer (some ⟨wb, 0, none⟩), .agg d.cells] W (ExPost P wb (.pointer (some ⟨b, 0, none⟩)) th ex W (exam size th d s)) := by
  intro h34 P wb ex s W hM h hs hl
  have hn1 := hd.n.2
  have hsm := hM.small
  unfold exam
  rw [if_pos h34]
  by_cases cA : 0 < d.n
  ·have qA := decide_eq_true cA
   by_cases cB : d.n % 16 = 0
   ·have qB : (d.n % 16 == 0) = true := beq_iff_eq.2 cB
    have done : ∀ (ho : s.ins = false ∨ (s.las = false ∧ s.at' = s.en)), Calls Tryz.prog 99 #[.pointer (some ⟨wb, 0, none⟩), .agg d.cells] W (ExPost P wb (.pointer (some ⟨b, 0, none⟩)) th ex W (if chk size d.a d.n ≠ 0 then .error (chk size d.a d.n) else .ok { s with ins := true, las := decide (d.k = 4), at' := d.a, en := d.a + d.n })) := by
     intro ho
     by_cases hk : chk size d.a d.n = 0
     ·rw [if_neg (by omega)]
      have hes := chk_ok hk
      cases qC : s.ins
      ·exact seg_first P wb b B size f L th ex s d W h hn1 qA qB cA qC hM hd hk (by omega)
      ·have ho := ho.resolve_left (by rw [qC]; decide)
       exact seg_next P wb b B size f L th ex s d W h hn1 qA qB cA qC ho.1 (beq_iff_eq.2 ho.2) hM hd hk (by omega)
     ·rw [if_pos hk]
      cases qC : s.ins
      ·exact (seg_first_no P wb b B size f L th ex s d W h hn1 qA qB cA qC hM hd _ rfl (beq_eq_false_iff_ne.2 hk)).mono fun e W' h => ⟨h.1, kN h.2⟩
      ·have ho := ho.resolve_left (by rw [qC]; decide)
       exact (seg_next_no P wb b B size f L th ex s d W h hn1 qA qB cA qC ho.1 (beq_iff_eq.2 ho.2) hM hd _ rfl (beq_eq_false_iff_ne.2 hk)).mono fun e W' h => ⟨h.1, kN h.2⟩
    by_cases ho : s.ins = false ∨ (s.las = false ∧ s.at' = s.en)
    ·rw [if_neg (fun c => c ⟨cA, cB, ho⟩)]
     exact done ho
    ·rw [if_pos (fun c => ho c.2.2)]
     have qC : s.ins = true := by cases e : s.ins with | true => rfl | false => exact absurd (.inl e) ho
     cases qD : s.las
     ·exact (seg_mid P wb b B size f L th ex s d W h hn1 qA qB cA qC qD (beq_eq_false_iff_ne.2 (fun e => ho (.inr ⟨qD, e⟩)))).mono fun e W' h => ⟨h.1, kN h.2⟩
     ·exact (seg_last P wb b B size f L th ex s d W h hn1 qA qB cA qC qD).mono fun e W' h => ⟨h.1, kN h.2⟩
   ·rw [if_pos (fun c => cB c.2.1)]
    exact (seg_m P wb b B size f L th ex s d W h hn1 qA (beq_eq_false_iff_ne.2 cB) cA).mono fun e W' h => ⟨h.1, kN h.2⟩
  ·rw [if_pos (fun c => cA c.1)]
   exact (seg_n P wb b B size f L th ex s d W h hn1 (decide_eq_false cA)).mono fun e W' h => ⟨h.1, kN h.2⟩
 have hk : d.k = 1 ∨ d.k = 2 ∨ d.k = 3 ∨ d.k = 4 ∨ d.k = 5 := by omega
 rcases hk with hk | hk | hk | hk | hk
 ·exact ⟨0, 97, by rw [hk]; rfl, fun args w => by simp [go_sem], hblk (by omega) (by omega) (by omega)⟩
 ·refine ⟨2, 98, by rw [hk]; rfl, fun args w => by simp [go_sem], fun P wb ex s W hM h hs hl => ?_⟩
  unfold exam
  rw [if_neg (by omega), if_pos hk]
  exact bucket_any P wb th ex s d W _ h hd (by have := hs.l1; have := hs.l0; omega) hl
 ·exact ⟨3, 99, by rw [hk]; rfl, fun args w => by simp [go_sem], hseg (.inl hk)⟩
 ·exact ⟨4, 99, by rw [hk]; rfl, fun args w => by simp [go_sem], hseg (.inr hk)⟩
 ·exact ⟨1, 97, by rw [hk]; rfl, fun args w => by simp [go_sem], hblk (by omega) (by omega) (by omega)⟩
theorem sspans_results (tmps : Array Value) (w : World) (ob eb : Nat) (v : Value) (x : Int) (h2 : tmps.getD 8 undef = .pointer (some ⟨ob, 0, none⟩)) (h3 : tmps.getD 9 undef = .pointer (some ⟨eb, 0, none⟩))
  (hf : w.cell? ⟨ob, 0, none⟩ = some v) (he : w.cell? ⟨eb, 0, none⟩ = some (.int .i64 x)) :
  (results Tryz.f89 tmps).run Tryz.prog w = .ok (.tuple #[v, .int .i64 x]) w := by
 have h2' : tmps[8]?.getD undef = .pointer (some ⟨ob, 0, none⟩) := by simpa using h2
 have h3' : tmps[9]?.getD undef = .pointer (some ⟨eb, 0, none⟩) := by simpa using h3
 simp [results, Tryz.results89, h2', h3', asAddr, go_sem, he, hf]
/-- the deferred call -/
def sdfrS (ob eb : Nat) : Deferred := { target := .fn (.func 56) #[], args := #[.pointer (some ⟨eb, 0, none⟩), .func (.func 96) #[] #[.pointer (some ⟨ob, 0, none⟩)]] }
theorem sspans_bad (tmps : Array Value) (w : World) (ob eb : Nat) (v : Value) (x no : Int) (R : Ending → World → Prop) (h2 : tmps.getD 8 undef = .pointer (some ⟨ob, 0, none⟩)) (h3 : tmps.getD 9 undef = .pointer (some ⟨eb, 0, none⟩))
  (hf : w.cell? ⟨ob, 0, none⟩ = some v) (hz : w.frozen? ⟨ob, 0, none⟩ = false) (he : w.cell? ⟨eb, 0, none⟩ = some (.int .i64 x)) (hz' : w.frozen? ⟨eb, 0, none⟩ = false) (hne : eb ≠ ob)
  (hR : ∀ w', Keeps (Two ob eb) w w' → R (.returned (.tuple #[.slice none 0 0, .int .i64 no])) w') :
  bodyPostD Tryz.prog Tryz.f89 R (Exit.panic [pan no]) { tmps := tmps, defers := [sdfrS ob eb] } w := by
 show Leaves Tryz.prog Tryz.f89 tmps R [sdfrS ob eb] (.panicking [pan no]) w
 refine leaves_cons (f := 56) (args := #[.pointer (some ⟨eb, 0, none⟩), .func (.func 96) #[] #[.pointer (some ⟨ob, 0, none⟩)]]) (by simp) (by simp [go_sem]) ?_
 refine (scaught_panicking 96 ob eb _ _ x no w (sclears_spans ob) ⟨⟨v, hf⟩, hz⟩ he hz' hne (fun a b h k => k.cell h (fun e => hne (Eq.symm e)))).mono ?_
 rintro e u' w'' ⟨rfl, rfl, hk, hc, hc2⟩
 show Leaves Tryz.prog Tryz.f89 tmps R [] .returning w''
 exact ⟨_, sspans_results tmps w'' ob eb _ no h2 h3 hc hc2, hR w'' hk⟩
theorem sspans_good (tmps : Array Value) (w : World) (ob eb : Nat) (v : Value) (x : Int) (R : Ending → World → Prop) (h2 : tmps.getD 8 undef = .pointer (some ⟨ob, 0, none⟩)) (h3 : tmps.getD 9 undef = .pointer (some ⟨eb, 0, none⟩))
  (hf : w.cell? ⟨ob, 0, none⟩ = some v) (he : w.cell? ⟨eb, 0, none⟩ = some (.int .i64 x)) (hR : R (.returned (.tuple #[v, .int .i64 x])) w) :
  bodyPostD Tryz.prog Tryz.f89 R Exit.ret { tmps := tmps, defers := [sdfrS ob eb] } w := by
 show Leaves Tryz.prog Tryz.f89 tmps R [sdfrS ob eb] .returning w
 refine leaves_cons (f := 56) (args := #[.pointer (some ⟨eb, 0, none⟩), .func (.func 96) #[] #[.pointer (some ⟨ob, 0, none⟩)]]) (by simp) (by simp [go_sem]) ?_
 refine (scaught_idle _ _ w).mono ?_
 rintro e u' w'' ⟨rfl, rfl, rfl⟩
 show Leaves Tryz.prog Tryz.f89 tmps R [] .returning _
 exact ⟨_, sspans_results tmps _ ob eb v x h2 h3 hf he, hR⟩
end Go.Proofs.YtfmabknhfehdcaaGreat
namespace Go.Proofs.YtfmabknhfehdcaaGreat
set_option linter.unusedSimpArgs false
set_option linter.unusedVariables false
open Go.RowKit
/-- What lies in memory while Spans runs: its variables. -/
structure sSSt (w W : World) : Prop where
 below : Below w.heap.size w W
 out : W.cell? ⟨w.heap.size + 1, 0, none⟩ = some (.slice none 0 0)
 ofz : W.frozen? ⟨w.heap.size + 1, 0, none⟩ = false
 err : W.cell? ⟨w.heap.size + 2, 0, none⟩ = some (.int .i64 0)
 efz : W.frozen? ⟨w.heap.size + 2, 0, none⟩ = false
namespace sSSt
set_option linter.unusedSimpArgs false
set_option linter.unusedVariables false
variable {w W W' : World}
theorem lt (h : sSSt w W) : w.heap.size + 2 < W.heap.size := World.block_lt_of_cell? _ _ h.err
theorem kept {S : Nat → Prop} (h : sSSt w W) (k : Keeps S W W') (hS : ∀ j, j ≤ w.heap.size + 2 → ¬ S j) : sSSt w W' := by
 have hl := h.lt
 refine ⟨h.below.trans (k.below h.below.size (fun j hj => hS j (by omega))), k.cell h.out (hS _ (by simp)), ?_, k.cell h.err (hS _ (by simp)), ?_⟩
 ·rw [World.frozen?_of_block (a := ⟨w.heap.size + 1, 0, none⟩) (k.block (w.heap.size + 1) (by omega) (hS _ (by omega)))]; exact h.ofz
 ·rw [World.frozen?_of_block (a := ⟨w.heap.size + 2, 0, none⟩) (k.block (w.heap.size + 2) (by omega) (hS _ (by omega)))]; exact h.efz
theorem beyond (h : sSSt w W) (hb : Below W.heap.size W W') : sSSt w W' := h.kept (Keeps.of_below (S := fun _ => False) hb) (fun _ _ e => e)
end sSSt
theorem ssst_start (w : World) (D : Array Value) (hD : 0 < D.size) : sSSt w (((w.alloc (.cells D 72)).alloc (.cells #[.slice none 0 0] 32)).alloc (.cells #[.int .i64 0] 38)) := by
 refine ⟨(((Below.refl _ w).alloc (Nat.le_refl _) _).alloc (by simp) _).alloc (by simp; omega) _, ?_, ?_, ?_, ?_⟩
 all_goals go_simp
theorem ssp_bad {w W : World} {no : Int} {tmps : Array Value} (S : sSSt w W) (h8 : tmps.getD 8 undef = .pointer (some ⟨w.heap.size + 1, 0, none⟩)) (h9 : tmps.getD 9 undef = .pointer (some ⟨w.heap.size + 2, 0, none⟩)) :
  bodyPostD Tryz.prog Tryz.f89 (SpPost w (.error no)) (Exit.panic [pan no]) { tmps := tmps, defers := [sdfrS (w.heap.size + 1) (w.heap.size + 2)] } W :=
 sspans_bad tmps W _ _ _ 0 no _ h8 h9 S.out S.ofz S.err S.efz (by omega) fun w' k => ⟨S.below.trans (k.below (B := w.heap.size) S.below.size (fun j hj e => by rcases e with e | e <;> omega)), rfl⟩
section
variable (d : Dsc) (n : Int) (th : Bool) (b B size : Nat) (f : Nat → Int) (L : List (Nat × Nat)) (w : World) (hM : MemAt w b B size f L) (hs : 0 < size) (hd : d.Ok)
include hM hs hd
set_option maxRecDepth 100000 in
set_option maxHeartbeats 4000000 in
theorem spans_inv (hv : vldD d = false) :
  Calls Tryz.prog 89 #[.pointer (some ⟨b, 0, none⟩), .agg d.cells, .int .i64 n, .bool th] w (SpPost w (.error 2)) := by
 have HM := Lib.hid hM
 have HV := Lib.hid fun w => svalid_any d false hv w hd
 obtain ⟨A, hA⟩ : ∃ A, A = d.cells := ⟨_, rfl⟩
 have HA4 := Lib.hid (show 0 < A.size by rw [hA]; exact Nat.succ_pos 3)
 have HSZ := Lib.hid (show (Tryz.prog.info? 72).map (·.size) = some A.size by rw [hA]; exact sizeD)
 have HFR := Lib.hid (fun w => show ArrAt (w.alloc (.cells A 72)) w.heap.size A from ArrAt.fresh w A _ HA4.out)
 rw [← hA] at HV ⊢
 obtain ⟨sz, hsz⟩ : ∃ z : Int, z = size := ⟨_, rfl⟩
 have dz : decide (0 < sz) = true := decide_eq_true (by omega)
 have HZ := Lib.hid hsz
 clear hM hA hs hsz hv hd
 have hmf : ∀ (fn : Fn) (first cap : Array Value) (w : World), (Instr.makeFunc fn first cap).run Tryz.prog w = .ok (.func fn first cap) w := fun _ _ _ _ => rfl
 go_enter_defers Tryz.func89, Tryz.ntmps89
 go_upto_region 2 with (fail)
 obtain ⟨W0, hW0⟩ : ∃ W0, W0 = (((w.alloc (.cells A 72)).alloc (.cells #[.slice none 0 0] 32)).alloc (.cells #[.int .i64 0] 38)) := ⟨_, rfl⟩
 rw [← hW0]
 have S0 := Lib.hid (show sSSt w W0 by rw [hW0]; exact ssst_start w A HA4.out)
 have AD := Lib.hid (show ArrAt W0 w.heap.size A by rw [hW0]; exact ((HFR.out w).alloc _).alloc _)
 clear hW0
 go_wp2_with (first
  | (go_at_call 19; refine (size_is b B size f L sz _ (HM.out.below S0.out.below) HZ.out).mono ?_; rintro e w' ⟨rfl, rfl⟩)
  | ((with_reducible show wpList _ _ _ (⟨some 18, _, _, _, _, _⟩ :: _) _ _); refine wpList_loadA rfl AD.out 72 (.tmp 5) rfl (by first | rfl | simp [Act.eval, Act.put]) Tryz.underlying72 rfl HSZ.out ?_)
  | (go_at_call 63; refine (HV.out _).mono ?_; rintro e w1 ⟨rfl, hb⟩; have S1 := Lib.hid (S0.out.beyond hb); clear hb)
  | (go_at_call_of 58 (Value.bool true); refine (must_ok _ _).mono ?_; rintro e w' ⟨rfl, rfl⟩))
 refine (must_bad _ _).mono ?_
 rintro e w' ⟨rfl, rfl⟩
 exact ssp_bad S1.out rfl rfl
end
end Go.Proofs.YtfmabknhfehdcaaGreat
namespace Go.Proofs.YtfmabknhfehdcaaGreat
set_option linter.unusedSimpArgs false
set_option linter.unusedVariables false
open Go.RowKit
namespace sWlk
set_option linter.unusedSimpArgs false
set_option linter.unusedVariables false
variable {P : Nat → Prop} {wb : Nat} {W W' : World} {m : Value} {th : Bool} {ex : Int} {s : WSt}
/-- A block that is not the walk's own turned. -/
theorem kept1 (h : sWlk P wb W m th ex s) {g : Nat} (hg : P g) (k : Keeps (One g) W W') : sWlk P wb W' m th ex s := by
 obtain ⟨v, hr, ho, hp⟩ := h.ex
 refine ⟨⟨v, k.rowIs hr (fun e => h.notg (by have e : wb = g := e; rw [e]; exact hg)), ho.kept (row := some g) ⟨k.os, k.tape, k.output, k.size, fun j hj hne => k.block j hj (fun e => hne (by have e : j = g := e; rw [e]))⟩ (.inr (fun e => hp g hg e)), hp⟩, h.notg, fun j hj => Nat.lt_of_lt_of_le (h.lt j hj) k.size⟩
theorem set4 (h : sWlk P wb W m th ex s) (x : Int) : sWlk P wb (W.setCell ⟨wb, 4, none⟩ (.int .i64 x)) m th x s := by
 obtain ⟨v, hr, ho, hp⟩ := h.ex
 refine ⟨⟨v, (hr.set 4 _).congr fun i _ => ?_, own_set ho 4 _, hp⟩, h.notg, fun k hk => by have := h.lt k hk; simpa using this⟩
 unfold swcell
 by_cases e : i = 4
 ·subst e; rfl
 ·simp only [e, if_false]
theorem set5 (h : sWlk P wb W m th ex s) (x : Int) : sWlk P wb (W.setCell ⟨wb, 5, none⟩ (.int .u64 x)) m th ex { s with at' := x } := by
 obtain ⟨v, hr, ho, hp⟩ := h.ex
 refine ⟨⟨v, (hr.set 5 _).congr fun i _ => ?_, own_set ho 5 _, hp⟩, h.notg, fun k hk => by have := h.lt k hk; simpa using this⟩
 unfold swcell
 by_cases e : i = 5
 ·subst e; rfl
 ·simp only [e, if_false]
end sWlk
theorem sbuild_walk (p : Option Addr) (th : Bool) (n : Int) (w : World) : (Instr.build 160 #[(0, .pointer p), (1, .bool th), (2, .int .i64 n)]).run Tryz.prog w = .ok (.agg #[.pointer p, .bool th, .int .i64 n, .slice none 0 0, .int .i64 0, .int .u64 0, .int .u64 0, .bool false, .bool false]) w := by kernel_rfl
def wArr (m : Value) (th : Bool) (n : Int) : Array Value := #[m, .bool th, .int .i64 n, .slice none 0 0, .int .i64 0, .int .u64 0, .int .u64 0, .bool false, .bool false]
theorem sWlk.fresh (P : Nat → Prop) (m : Value) (th : Bool) (n : Int) (w : World) (hP : ∀ k, P k → k < w.heap.size) : sWlk P w.heap.size (w.alloc (.cells (wArr m th n) 160)) m th 0 ⟨false, false, 0, 0, n, []⟩ := by
 refine ⟨⟨.slice none 0 0, World.rowIs_alloc w (wArr m th n) 160 _ fun i hi => ?_, World.ownsRow_nil _ _ _ _, fun k _ e => by cases e⟩, fun e => by have := hP _ e; omega, fun k hk => by have := hP k hk; simp; omega⟩
 have hi : i < 9 := hi
 match i, hi with
 | 0, _ => rfl | 1, _ => rfl | 2, _ => rfl | 3, _ => rfl | 4, _ => rfl | 5, _ => rfl | 6, _ => rfl | 7, _ => rfl | 8, _ => rfl
/-- What holds in the loop of Spans. -/
structure sLSt (w : World) (b B size : Nat) (f : Nat → Int) (L : List (Nat × Nat)) (kb wb lb : Nat) (th : Bool) (ex : Int) (s : WSt) (d : Dsc) (W : World) : Prop where
 sst : sSSt w W
 mem : MemAt W b B size f L
 map : W.heap[kb]? = some (.map kindEs 5)
 arr : ArrAt W lb d.cells
 wlk : sWlk (fun j => j ≤ kb ∨ j = lb) wb W (.pointer (some ⟨b, 0, none⟩)) th ex s
 kbl : w.heap.size + 2 < kb
 bl : b < w.heap.size
 Bl : B < w.heap.size
 lbl : kb < lb
namespace sLSt
set_option linter.unusedSimpArgs false
set_option linter.unusedVariables false
variable {w : World} {b B size : Nat} {f : Nat → Int} {L : List (Nat × Nat)} {kb wb lb : Nat} {th : Bool} {ex : Int} {s : WSt} {d : Dsc} {W W' : World}
theorem wbk (h : sLSt w b B size f L kb wb lb th ex s d W) : kb < wb := by have := h.wlk.notg; omega
theorem step (h : sLSt w b B size f L kb wb lb th ex s d W) {ex' : Int} {s' : WSt} (k : Keeps (fun j => ¬ (j ≤ kb ∨ j = lb)) W W') (hw : sWlk (fun j => j ≤ kb ∨ j = lb) wb W' (.pointer (some ⟨b, 0, none⟩)) th ex' s') : sLSt w b B size f L kb wb lb th ex' s' d W' := by
 have h1 := h.kbl; have h2 := h.bl; have h3 := h.Bl
 refine ⟨h.sst.kept k (fun j hj e => e (.inl (by omega))), h.mem.kept k (fun e => e (.inl (by omega))) (fun e => e (.inl (by omega))), ?_, ?_, hw, h1, h2, h3, h.lbl⟩
 ·rw [k.block kb (h.wlk.lt kb (.inl (Nat.le_refl _))) (fun e => e (.inl (Nat.le_refl _)))]; exact h.map
 ·exact h.arr.kept k (fun e => e (.inr rfl))
theorem beyond (h : sLSt w b B size f L kb wb lb th ex s d W) (hb : Below W.heap.size W W') : sLSt w b B size f L kb wb lb th ex s d W' :=
 h.step (Keeps.of_below hb) (h.wlk.below hb)
theorem set4 (h : sLSt w b B size f L kb wb lb th ex s d W) (x : Int) : sLSt w b B size f L kb wb lb th x s d (W.setCell ⟨wb, 4, none⟩ (.int .i64 x)) :=
 h.step ((Keeps.refl _ W).setCell (p := ⟨wb, 4, none⟩) (fun _ => h.wlk.notg) _) (h.wlk.set4 x)
theorem set5 (h : sLSt w b B size f L kb wb lb th ex s d W) (x : Int) : sLSt w b B size f L kb wb lb th ex { s with at' := x } d (W.setCell ⟨wb, 5, none⟩ (.int .u64 x)) :=
 h.step ((Keeps.refl _ W).setCell (p := ⟨wb, 5, none⟩) (fun _ => h.wlk.notg) _) (h.wlk.set5 x)
theorem put (h : sLSt w b B size f L kb wb lb th ex s d W) (d' : Dsc) : sLSt w b B size f L kb wb lb th ex s d' (W.setCells lb 0 d'.cells.toList) := by
 have k : Keeps (One lb) W (W.setCells lb 0 d'.cells.toList) := Keeps.store (S := One lb) (Keeps.refl _ _) (fun _ => rfl) _ _
 have h1 := h.kbl; have h2 := h.bl; have h3 := h.Bl; have h4 := h.lbl
 refine ⟨h.sst.kept k (fun j hj e => by have e : j = lb := e; omega), h.mem.kept k (fun e => by have e : b = lb := e; omega) (fun e => by have e : B = lb := e; omega), ?_, h.arr.store d'.cells rfl, h.wlk.kept1 (.inr rfl) k, h1, h2, h3, h4⟩
 rw [k.block kb (h.wlk.lt kb (.inl (Nat.le_refl _))) (fun e => by have e : kb = lb := e; omega)]
 exact h.map
/-- A new variable of the loop. -/
theorem var (h : sLSt w b B size f L kb wb lb th ex s d W) (d' : Dsc) (hb : Below W.heap.size W W') (l' : Nat) (h1 : W.heap.size ≤ l') (h2 : l' < W'.heap.size) (ha : ArrAt W' l' d'.cells) : sLSt w b B size f L kb wb l' th ex s d' W' := by
 have k := h.beyond hb
 refine ⟨k.sst, k.mem, k.map, ha, (h.wlk.more hb).less ?_, h.kbl, h.bl, h.Bl, ?_⟩
 ·intro j hj
  rcases hj with hj | rfl
  ·exact .inl (.inl hj)
  ·exact .inr ⟨h1, h2⟩
 ·have := h.wlk.lt kb (.inl (Nat.le_refl _)); omega
theorem cells (h : sLSt w b B size f L kb wb lb th ex s d W) : ∃ v, W.cell? ⟨wb, 2, none⟩ = some (.int .i64 s.left) ∧ W.cell? ⟨wb, 3, none⟩ = some v ∧ W.cell? ⟨wb, 4, none⟩ = some (.int .i64 ex) ∧ W.cell? ⟨wb, 5, none⟩ = some (.int .u64 s.at') ∧ W.cell? ⟨wb, 6, none⟩ = some (.int .u64 s.en) ∧
  W.frozen? ⟨wb, 4, none⟩ = false ∧ W.frozen? ⟨wb, 5, none⟩ = false ∧ W.ownsRow (wb + 1) 65 3 v s.out.length (spC s.out) ∧ v.ownBlock ≠ some (w.heap.size + 1) ∧ v.ownBlock ≠ some (w.heap.size + 2) := by
 obtain ⟨v, hr, ho, hp⟩ := h.wlk.ex
 have := h.kbl
 exact ⟨v, hr.cell (i := 2) (by omega), hr.cell (i := 3) (by omega), hr.cell (i := 4) (by omega), hr.cell (i := 5) (by omega), hr.cell (i := 6) (by omega), hr.frozen 4, hr.frozen 5, ho, hp _ (.inl (by omega)), hp _ (.inl (by omega))⟩
end sLSt
/-- What is still to be reckoned. -/
def nxtS (f : Nat → Int) (size : Nat) (th : Bool) (k : Nat) (d : Dsc) (s : WSt) : Except Int (List Spn) := if s.left = 0 then .ok s.out else runS f size th (1023 - k) d s
theorem spansM_nxt {f : Nat → Int} {size : Nat} {d : Dsc} {n : Int} {th : Bool} (hv : Vld d) (h0 : 0 ≤ n) (h1 : n ≤ 1048576) : spansM f size d n th = nxtS f size th 0 d ⟨false, false, 0, 0, n, []⟩ := by
 unfold spansM nxtS
 rw [if_neg (by simp [hv, h0, h1])]
theorem nxt_exam {f : Nat → Int} {size : Nat} {th : Bool} {k : Nat} {d : Dsc} {s : WSt} {R : Except Int (List Spn)} (h : nxtS f size th k d s = R) (hl : s.left ≠ 0) {no : Int} (he : exam size th d s = .error no) : R = .error no := by
 unfold nxtS at h
 rw [if_neg hl] at h
 cases hm : 1023 - k with
 | zero => rw [hm] at h; unfold runS at h; rw [he] at h; exact h.symm
 | succ m => rw [hm] at h; unfold runS at h; rw [he] at h; exact h.symm
theorem nxt_done {f : Nat → Int} {size : Nat} {th : Bool} {k : Nat} {d : Dsc} {s s' : WSt} {R : Except Int (List Spn)} (h : nxtS f size th k d s = R) (hl : s.left ≠ 0) (he : exam size th d s = .ok s') (h0 : s'.left = 0) : R = .ok s'.out := by
 unfold nxtS at h
 rw [if_neg hl] at h
 cases hm : 1023 - k with
 | zero => rw [hm] at h; unfold runS at h; rw [he] at h; simp only [h0, if_true] at h; exact h.symm
 | succ m => rw [hm] at h; unfold runS at h; rw [he] at h; simp only [h0, if_true] at h; exact h.symm
theorem nxt_short {f : Nat → Int} {size : Nat} {th : Bool} {k : Nat} {d : Dsc} {s s' : WSt} {R : Except Int (List Spn)} (h : nxtS f size th k d s = R) (hl : s.left ≠ 0) (he : exam size th d s = .ok s') (h0 : s'.left ≠ 0) (h1 : ¬ s'.at' < s'.en) : R = .error 162 := by
 unfold nxtS at h
 rw [if_neg hl] at h
 cases hm : 1023 - k with
 | zero => rw [hm] at h; unfold runS at h; rw [he] at h; simp only [h0, h1, if_false, not_false_eq_true, if_true] at h; exact h.symm
 | succ m => rw [hm] at h; unfold runS at h; rw [he] at h; simp only [h0, h1, if_false, not_false_eq_true, if_true] at h; exact h.symm
theorem nxt_long {f : Nat → Int} {size : Nat} {th : Bool} {k : Nat} {d : Dsc} {s s' : WSt} {R : Except Int (List Spn)} (h : nxtS f size th k d s = R) (hl : s.left ≠ 0) (he : exam size th d s = .ok s') (h0 : s'.left ≠ 0) (h1 : s'.at' < s'.en) (hk : k = 1023) : R = .error 5 := by
 subst hk
 unfold nxtS at h
 rw [if_neg hl, Nat.sub_self] at h
 unfold runS at h
 rw [he] at h
 simp only [h0, h1, if_false, not_true_eq_false] at h
 exact h.symm
theorem nxt_more {f : Nat → Int} {size : Nat} {th : Bool} {k : Nat} {d : Dsc} {s s' : WSt} {R : Except Int (List Spn)} (h : nxtS f size th k d s = R) (hl : s.left ≠ 0) (he : exam size th d s = .ok s') (h0 : s'.left ≠ 0) (h1 : s'.at' < s'.en) (hk : k < 1023) :
  (errAt f s'.at' ≠ 0 → R = .error (errAt f s'.at')) ∧ (errAt f s'.at' = 0 → ¬ Vld (dscAt f s'.at') → R = .error 2) ∧ (errAt f s'.at' = 0 → Vld (dscAt f s'.at') → nxtS f size th (k + 1) (dscAt f s'.at') { s' with at' := s'.at' + 16 } = R) := by
 unfold nxtS at h
 rw [if_neg hl, show 1023 - k = (1023 - (k + 1)) + 1 by omega] at h
 unfold runS at h
 rw [he] at h
 simp only [h0, h1, if_false, not_true_eq_false] at h
 refine ⟨fun e => ?_, fun e v => ?_, fun e v => ?_⟩
 ·rw [if_pos e] at h; exact h.symm
 ·rw [if_neg (fun c => c e), if_pos v] at h; exact h.symm
 ·rw [if_neg (fun c => c e), if_neg (fun c => c v)] at h
  unfold nxtS
  simp only [h0, if_false]
  exact h
/-- how many are still left -/
def exLeft (wb : Nat) (W : World) : Nat := 1024 - (match W.cell? ⟨wb, 4, none⟩ with | some (.int _ n) => n.toNat | _ => 0)
theorem exLeft_of {w : World} {b B size : Nat} {f : Nat → Int} {L : List (Nat × Nat)} {kb wb lb : Nat} {th : Bool} {k : Nat} {s : WSt} {d : Dsc} {W : World} (h : sLSt w b B size f L kb wb lb th (k : Int) s d W) : exLeft wb W = 1024 - k := by
 obtain ⟨v, -, -, h4, -⟩ := h.cells
 unfold exLeft
 rw [h4]
 simp
end Go.Proofs.YtfmabknhfehdcaaGreat
