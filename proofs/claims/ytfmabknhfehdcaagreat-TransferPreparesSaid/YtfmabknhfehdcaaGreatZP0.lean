/- Small facts on worlds, used by all proofs of this seat: what a call keeps, rows of cells, two facts on comparing a slice with nil. -/
import Derived.Test.YtfmabknhfehdcaaGreatRows
import Derived.WalkKit
import Derived.WalkSpells
import Derived.WalkLawsBesides
import Derived.Deep.OwnRows
import Derived.ScopeJumps
import Derived.Lib.Hide
import Derived.BigRegion
import Derived.BigQuiet
import Derived.Deep.QuietTactic
import Derived.StillTailTactics
namespace Go.Proofs.YtfmabknhfehdcaaGreat
set_option linter.unusedSimpArgs false
set_option linter.unusedVariables false
open Go.RowKit
/-- All blocks that were there, but those in S, are as they were. -/
structure Keeps (S : Nat → Prop) (w w' : World) : Prop where
 os : w'.os = w.os
 tape : w'.tape = w.tape
 output : w'.output = w.output
 size : w.heap.size ≤ w'.heap.size
 block : ∀ k, k < w.heap.size → ¬ S k → w'.heap[k]? = w.heap[k]?
/-- A slice of integers that came in: nil, or it leads to a row of 'cap' cells, the numbers zs (the first 'len' are its elements), each fitting its kind. -/
def IsRow (k : IntKind) (w : World) (a : Option Addr) (len cap : Nat) (zs : List Int) : Prop :=
 (a = none ∧ len = 0 ∧ cap = 0 ∧ zs = []) ∨
 ∃ x, a = some x ∧ len ≤ cap ∧ cap ≤ maxLen ∧ zs.length = cap ∧ (∀ i, i < zs.length → w.cell? (x.add i) = some (.int k (zs.getD i 0))) ∧ ∀ n ∈ zs, (Lit.int k n).wf = true
theorem wf_i64 {n : Int} (h : (Lit.int .i64 n).wf = true) : -9223372036854775808 ≤ n ∧ n ≤ 9223372036854775807 := by
 simp only [Lit.wf, Bool.and_eq_true, decide_eq_true_eq] at h
 exact h
theorem wf_u64 {n : Int} (h : (Lit.int .u64 n).wf = true) : 0 ≤ n ∧ n ≤ 18446744073709551615 := by
 simp only [Lit.wf, Bool.and_eq_true, decide_eq_true_eq] at h
 exact h
theorem wf_u32 {n : Int} (h : (Lit.int .u32 n).wf = true) : 0 ≤ n ∧ n ≤ 4294967295 := by
 simp only [Lit.wf, Bool.and_eq_true, decide_eq_true_eq] at h
 exact h
theorem wf_u16 {n : Int} (h : (Lit.int .u16 n).wf = true) : 0 ≤ n ∧ n ≤ 65535 := by
 simp only [Lit.wf, Bool.and_eq_true, decide_eq_true_eq] at h
 exact h
theorem wf_u8 {n : Int} (h : (Lit.int .u8 n).wf = true) : 0 ≤ n ∧ n ≤ 255 := by
 simp only [Lit.wf, Bool.and_eq_true, decide_eq_true_eq] at h
 exact h
namespace Keeps
set_option linter.unusedSimpArgs false
set_option linter.unusedVariables false
theorem refl (S : Nat → Prop) (w : World) : Keeps S w w := ⟨rfl, rfl, rfl, Nat.le_refl _, fun _ _ _ => rfl⟩
theorem trans {S : Nat → Prop} {a b c : World} (h : Keeps S a b) (k : Keeps S b c) : Keeps S a c :=
 ⟨k.os.trans h.os, k.tape.trans h.tape, k.output.trans h.output, Nat.le_trans h.size k.size,
  fun i hi hS => (k.block i (Nat.lt_of_lt_of_le hi h.size) hS).trans (h.block i hi hS)⟩
theorem mono {S T : Nat → Prop} {a b : World} (h : Keeps S a b) (hS : ∀ k, k < a.heap.size → S k → T k) : Keeps T a b :=
 ⟨h.os, h.tape, h.output, h.size, fun k hk hT => h.block k hk fun hs => hT (hS k hk hs)⟩
theorem drew {S : Nat → Prop} {a w : World} (h : Keeps S a w) : Keeps S a w.drew := ⟨h.os, h.tape, h.output, h.size, h.block⟩
theorem drewN {S : Nat → Prop} {a w : World} (h : Keeps S a w) (n : Nat) : Keeps S a (w.drewN n) := ⟨h.os, h.tape, h.output, h.size, h.block⟩
theorem alloc {S : Nat → Prop} {a w : World} (h : Keeps S a w) (o : Obj) : Keeps S a (w.alloc o) :=
 ⟨h.os, h.tape, h.output, by have := h.size; simp; omega, fun k hk hS =>
  (Below.heap_alloc _ _ _ (Nat.lt_of_lt_of_le hk h.size)).trans (h.block k hk hS)⟩
theorem setCell {S : Nat → Prop} {a w : World} (h : Keeps S a w) {p : Addr} (hp : p.block < a.heap.size → S p.block) (u : Value) : Keeps S a (w.setCell p u) :=
 ⟨h.os, h.tape, h.output, by have := h.size; simp; omega, fun k hk hS =>
  (Below.heap_setCell _ _ _ _ (fun e => hS (by subst e; exact hp hk))).trans (h.block k hk hS)⟩
theorem below {S : Nat → Prop} {a b : World} (h : Keeps S a b) {B : Nat} (hB : B ≤ a.heap.size) (hS : ∀ k, k < B → ¬ S k) : Below B a b :=
 ⟨h.os, h.tape, h.output, h.size, fun k hk => h.block k (by omega) (hS k hk)⟩
theorem of_below {S : Nat → Prop} {a b : World} (h : Below a.heap.size a b) : Keeps S a b :=
 ⟨h.os, h.tape, h.output, h.size, fun k hk _ => h.block k hk⟩
theorem rowIs {S : Nat → Prop} {a b : World} (h : Keeps S a b) {g : Nat} {t : TypeId} {n : Nat} {f : Nat → Value} (hr : a.rowIs g t n f) (hS : ¬ S g) : b.rowIs g t n f :=
 hr.of_block (h.block g hr.lt hS)
theorem cell {S : Nat → Prop} {a b : World} (h : Keeps S a b) {p : Addr} {v : Value} (hr : a.cell? p = some v) (hS : ¬ S p.block) : b.cell? p = some v :=
 (World.cell?_of_block (w := a) (h.block p.block (World.block_lt_of_cell? _ _ hr) hS)).trans hr
end Keeps
/-- block b alone -/
def One (b : Nat) : Nat → Prop := fun k => k = b
/-- the blocks b and c -/
def Two (b c : Nat) : Nat → Prop := fun k => k = b ∨ k = c
theorem Keeps.set1 {b : Nat} {a w : World} (h : Keeps (One b) a w) (i : Nat) (u : Value) : Keeps (One b) a (w.setCell ⟨b, i, none⟩ u) := h.setCell (p := ⟨b, i, none⟩) (fun _ => rfl) u
theorem Keeps.two1 {b c : Nat} {a w : World} (h : Keeps (One b) a w) : Keeps (Two b c) a w := h.mono fun _ _ h => .inl h
theorem Keeps.two2 {b c : Nat} {a w : World} (h : Keeps (One c) a w) : Keeps (Two b c) a w := h.mono fun _ _ h => .inr h
@[go_sem] theorem eqnil_bytes (w : World) (a : Option Addr) (n c : Nat) : (binOp .eql 31 (.slice a n c) (.slice none 0 0)).run Tryz.prog w = .ok (.bool a.isNone) w :=
 Lib.run_eql_slice_nil w 31 5 a n c 0 0 Tryz.underlying31
section
variable {P : Program} {ops : Array Oper} {Q : Exit → Act → World → Prop} {a : Act} {w : World} {rest : List Oper} {o : Oper}
/-- A struct or an array built out of one part, its outcome known. -/
theorem wpList_build1 (hgd : o.guard = none) (t i : Nat) (x : Operand) (ho : o.op = .build t #[(i, x)]) (v0 : Value) (hx : a.eval x = v0)
  {v : Value} (hb : (Instr.build t #[(i, v0)]).run P w = .ok v w) (h : wpList P ops Q rest (a.put o.dst v) w) : wpList P ops Q (o :: rest) a w :=
 wpList_plain hgd fun K hK => by
  unfold Oper.wp execOp
  simp only [ho, List.map_toArray, List.map_cons, List.map_nil, hx]
  simp only [Sem.run_bind, hb, Result.andThen_ok, Sem.run_pure]
  exact hK _ _ h
/-- A struct or an array built out of two parts, its outcome known. -/
theorem wpList_build2 (hgd : o.guard = none) (t i j : Nat) (x y : Operand) (ho : o.op = .build t #[(i, x), (j, y)]) (v0 v1 : Value) (hx : a.eval x = v0) (hy : a.eval y = v1)
  {v : Value} (hb : (Instr.build t #[(i, v0), (j, v1)]).run P w = .ok v w) (h : wpList P ops Q rest (a.put o.dst v) w) : wpList P ops Q (o :: rest) a w :=
 wpList_plain hgd fun K hK => by
  unfold Oper.wp execOp
  simp only [ho, List.map_toArray, List.map_cons, List.map_nil, hx, hy]
  simp only [Sem.run_bind, hb, Result.andThen_ok, Sem.run_pure]
  exact hK _ _ h
/-- A new variable, its zero value known. -/
theorem wpList_alloc (hgd : o.guard = none) (t : Nat) (ho : o.op = .alloc t) {v : Value} (hz : ∀ w, (zeroValue t).run P w = .ok v w)
  (h : wpList P ops Q rest (a.put o.dst (.pointer (some ⟨w.heap.size, 0, none⟩))) (w.alloc (.cells v.cells t))) : wpList P ops Q (o :: rest) a w :=
 wpList_plain hgd fun K hK => by
  unfold Oper.wp execOp
  simp only [ho, Instr.alloc]
  simp only [Sem.run_bind, hz, Result.andThen_ok]
  simp [go_sem]
  exact hK _ _ h
/-- The zero value of a struct or an array. -/
theorem wpList_build0 (hgd : o.guard = none) (t : Nat) (ho : o.op = .build t #[])
  {v : Value} (hb : (Instr.build t #[]).run P w = .ok v w) (h : wpList P ops Q rest (a.put o.dst v) w) : wpList P ops Q (o :: rest) a w :=
 wpList_plain hgd fun K hK => by
  unfold Oper.wp execOp
  simp only [ho, List.map_toArray, List.map_nil]
  simp only [Sem.run_bind, hb, Result.andThen_ok, Sem.run_pure]
  exact hK _ _ h
end
/-- As Q; by a goto to label l: N. -/
def Exit.fwd (l : Nat) (N : Act → World → Prop) (Q : Exit → Act → World → Prop) : Exit → Act → World → Prop
 | .goto l', a, w => l' = l ∧ N a w
 | e, a, w => Q e a w
section
variable {P : Program} {a : Act} {w : World} {Q : Exit → Act → World → Prop} {l : Nat} {N : Act → World → Prop}
@[go_sem] theorem Exit.fwd_normal : Exit.fwd l N Q .normal a w = Q .normal a w := rfl
@[go_sem] theorem Exit.fwd_exit (id : Nat) : Exit.fwd l N Q (.exit id) a w = Q (.exit id) a w := rfl
@[go_sem] theorem Exit.fwd_ret : Exit.fwd l N Q .ret a w = Q .ret a w := rfl
@[go_sem] theorem Exit.fwd_panic (ch : List PanicEntry) : Exit.fwd l N Q (.panic ch) a w = Q (.panic ch) a w := rfl
theorem Exit.fwd_goto (h : N a w) : Exit.fwd l N Q (.goto l) a w := ⟨rfl, h⟩
/-- A scope out of whose head the run may jump forward to one label. -/
theorem wp_scope_fwd {c rest : Code} (l : Nat) (hf : findLabel c l = some rest)
  (h : c.wp P (Exit.fwd l (rest.wp P (Exit.noGoto Q)) Q) a w) : (Code.scope c).wp P Q a w := by
 refine wp_scope_jumps l (fun a w => rest.wp P (Exit.noGoto Q) a w) (fun _ _ => 0) hf ?_ ?_
 ·refine wp_mono h fun e a w q => ?_
  cases e <;> exact q
 ·intro a w h
  refine wp_mono h fun e a w q => ?_
  cases e <;> first | exact q | exact q.elim
end
end Go.Proofs.YtfmabknhfehdcaaGreat
namespace Go.Proofs.YtfmabknhfehdcaaGreat
set_option linter.unusedSimpArgs false
set_option linter.unusedVariables false
open Go.RowKit
set_option maxHeartbeats 400000 in
theorem none_some (b : Nat) (a : Option Addr) (n c : Nat) (w : World) (h : w.cell? ⟨b, 769, none⟩ = some (.slice a n c)) :
  Calls Tryz.prog 43 #[.pointer (some ⟨b, 0, none⟩)] w fun e w' => e = .returned (.bool a.isNone) ∧ w = w' := by
 go_enter Tryz.func43, Tryz.ntmps43
 go_wp2
 go_ret
 exact ⟨rfl, rfl⟩
set_option maxHeartbeats 400000 in
theorem index_two (b : Nat) (x y : Bool) (w : World) (hx : w.cell? ⟨b, 0, none⟩ = some (.bool x)) (hy : w.cell? ⟨b, 1, none⟩ = some (.bool y)) :
  Calls Tryz.prog 92 #[.slice (some ⟨b, 0, none⟩) 2 2, .bool false] w fun e w' => e = .returned (.int .i64 (if x = false then 0 else if y = false then 1 else -1)) ∧ w = w' := by
 cases x <;> cases y
 all_goals
  go_enter Tryz.func92, Tryz.ntmps92
  go_wp2
  refine wp_loop_rounds 3 ?_
  rw [rounds_succ]
  go_wp2
  try (rw [rounds_succ]; go_wp2)
  try (rw [rounds_succ]; go_wp2)
  go_ret
  exact ⟨rfl, rfl⟩
set_option maxHeartbeats 400000 in
theorem contains_two (b : Nat) (x y : Bool) (w : World) (hx : w.cell? ⟨b, 0, none⟩ = some (.bool x)) (hy : w.cell? ⟨b, 1, none⟩ = some (.bool y)) :
  Calls Tryz.prog 82 #[.slice (some ⟨b, 0, none⟩) 2 2, .bool false] w fun e w' => e = .returned (.bool (!(x && y))) ∧ w = w' := by
 cases x <;> cases y
 all_goals
  go_enter Tryz.func82, Tryz.ntmps82
  go_wp2_with (go_at_call 92; refine (index_two _ _ _ _ hx hy).mono ?_; rintro e w' ⟨rfl, rfl⟩)
  go_ret
  exact ⟨rfl, rfl⟩
set_option maxHeartbeats 400000 in
theorem all_two (b : Nat) (x y : Bool) (w : World) (hx : w.cell? ⟨b, 0, none⟩ = some (.bool x)) (hy : w.cell? ⟨b, 1, none⟩ = some (.bool y)) :
  Calls Tryz.prog 90 #[.slice (some ⟨b, 0, none⟩) 2 2] w fun e w' => e = .returned (.bool (x && y)) ∧ w = w' := by
 go_enter Tryz.func90, Tryz.ntmps90
 go_wp2_with (go_at_call 82; refine (contains_two _ _ _ _ hx hy).mono ?_; rintro e w' ⟨rfl, rfl⟩)
 go_ret
 exact ⟨by simp, rfl⟩
/-- Check on a memory with n bytes -/
def chk (size : Nat) (addr n : Int) : Int := if n < 0 then 2 else if addr ≤ size ∧ n ≤ size - addr then 0 else 3
/-- the last test of Check -/
def fits (size : Nat) (addr n : Int) : Bool := decide (addr ≤ size ∧ n ≤ size - addr)
set_option maxHeartbeats 400000 in
theorem check_made (b : Nat) (a : Addr) (size c : Nat) (addr n : Int) (w : World) (h : w.cell? ⟨b, 769, none⟩ = some (.slice (some a) size c))
  (hs : size ≤ 4194304) (ha : 0 ≤ addr) (ha' : addr ≤ 18446744073709551615) (hn : -9223372036854775808 ≤ n) (hn' : n ≤ 9223372036854775807) :
  Calls Tryz.prog 79 #[.pointer (some ⟨b, 0, none⟩), .int .u64 addr, .int .i64 n] w fun e w' => e = .returned (.int .i64 (chk size addr n)) ∧ Below w.heap.size w w' := by
 have hb := World.block_lt_of_cell? _ _ h
 simp only [] at hb
 by_cases h1 : n < 0
 ·go_enter Tryz.func79, Tryz.ntmps79
  go_wp2_with (first | (with_reducible refine wp_scope_fwd 0 rfl ?_) | (with_reducible refine Exit.fwd_goto ?_) | go_step3 | (go_at_call 43; refine (none_some _ _ _ _ _ h).mono ?_; rintro e w' ⟨rfl, rfl⟩))
  simp only [Exit.noGoto_ret]
  go_ret
  exact ⟨by simp [chk, h1], Below.refl _ _⟩
 ·by_cases h2 : addr ≤ size
  ·have d2 := decide_eq_true h2
   by_cases h3 : n ≤ size - addr
   ·have d3 := decide_eq_true h3
    go_enter Tryz.func79, Tryz.ntmps79
    go_wp2_with (first | (with_reducible refine wp_scope_fwd 0 rfl ?_) | (with_reducible refine Exit.fwd_goto ?_) | go_step3 | (go_at_call 43; refine (none_some _ _ _ _ _ h).mono ?_; rintro e w' ⟨rfl, rfl⟩) | (go_at_call 90; refine (all_two _ _ _ _ (World.cell?_alloc_new _ _ _ _) (World.cell?_alloc_new _ _ _ _)).mono ?_; rintro e w' ⟨rfl, rfl⟩))
    simp only [Exit.fwd_ret]
    go_ret
    exact ⟨by simp [chk]; omega, (Below.refl _ _).alloc (Nat.le_refl _) _⟩
   ·have d3 := decide_eq_false h3
    go_enter Tryz.func79, Tryz.ntmps79
    go_wp2_with (first | (with_reducible refine wp_scope_fwd 0 rfl ?_) | (with_reducible refine Exit.fwd_goto ?_) | go_step3 | (go_at_call 43; refine (none_some _ _ _ _ _ h).mono ?_; rintro e w' ⟨rfl, rfl⟩) | (go_at_call 90; refine (all_two _ _ _ _ (World.cell?_alloc_new _ _ _ _) (World.cell?_alloc_new _ _ _ _)).mono ?_; rintro e w' ⟨rfl, rfl⟩))
    simp only [Exit.noGoto_ret]
    go_ret
    exact ⟨by simp [chk]; omega, (Below.refl _ _).alloc (Nat.le_refl _) _⟩
  ·have d2 := decide_eq_false h2
   go_enter Tryz.func79, Tryz.ntmps79
   go_wp2_with (first | (with_reducible refine wp_scope_fwd 0 rfl ?_) | (with_reducible refine Exit.fwd_goto ?_) | go_step3 | (go_at_call 43; refine (none_some _ _ _ _ _ h).mono ?_; rintro e w' ⟨rfl, rfl⟩) | (go_at_call 90; refine (all_two _ _ _ _ (World.cell?_alloc_new _ _ _ _) (World.cell?_alloc_new _ _ _ _)).mono ?_; rintro e w' ⟨rfl, rfl⟩))
   simp only [Exit.noGoto_ret]
   go_ret
   exact ⟨by simp [chk]; omega, (Below.refl _ _).alloc (Nat.le_refl _) _⟩
end Go.Proofs.YtfmabknhfehdcaaGreat
namespace Go.Proofs.YtfmabknhfehdcaaGreat
set_option linter.unusedSimpArgs false
set_option linter.unusedVariables false
open Go.RowKit
set_option maxHeartbeats 400000 in
theorem span_ok (b B : Nat) (size cap addr n : Nat) (w : World) (h : w.cell? ⟨b, 769, none⟩ = some (.slice (some ⟨B, 0, none⟩) size cap))
  (hs : size ≤ 4194304) (hcap : size ≤ cap) (hcap' : cap ≤ 9223372036854775807) (hf : addr + n ≤ size) :
  Calls Tryz.prog 37 #[.pointer (some ⟨b, 0, none⟩), .int .u64 addr, .int .i64 n] w fun e w' => (∃ ad, e = .returned (.tuple #[.slice (some ad) n n, .int .i64 0]) ∧ (0 < n → ad = ⟨B, addr, none⟩)) ∧ Below w.heap.size w w' := by
 have hc : chk size addr n = 0 := by unfold chk; rw [if_neg (by omega), if_pos (by omega)]
 rcases Nat.eq_zero_or_pos n with rfl | hn
 ·simp only [Int.natCast_zero] at hc ⊢
  go_enter Tryz.func37, Tryz.ntmps37
  go_wp2_with (first | (go_at_call 79; refine (check_made _ _ _ _ _ _ _ h hs (by omega) (by omega) (by omega) (by omega)).mono ?_; rw [hc]; rintro e w1 ⟨rfl, hb⟩; have h1 := hb.cell (p := ⟨b, 769, none⟩) (World.block_lt_of_cell? _ _ h); rw [h] at h1; clear h))
  go_ret2
  exact ⟨⟨_, rfl, fun h => absurd h (Nat.lt_irrefl 0)⟩, hb⟩
 ·have hne : ¬ n = 0 := by omega
  go_enter Tryz.func37, Tryz.ntmps37
  go_wp2_with (first | (go_at_call 79; refine (check_made _ _ _ _ _ _ _ h hs (by omega) (by omega) (by omega) (by omega)).mono ?_; rw [hc]; rintro e w1 ⟨rfl, hb⟩; have h1 := hb.cell (p := ⟨b, 769, none⟩) (World.block_lt_of_cell? _ _ h); rw [h] at h1; clear h))
  go_ret2
  exact ⟨⟨⟨B, addr, none⟩, by simp, fun _ => rfl⟩, hb⟩
set_option maxHeartbeats 400000 in
theorem span_err (b B : Nat) (size cap : Nat) (addr n : Int) (w : World) (h : w.cell? ⟨b, 769, none⟩ = some (.slice (some ⟨B, 0, none⟩) size cap))
  (hs : size ≤ 4194304) (ha : 0 ≤ addr) (ha' : addr ≤ 18446744073709551615) (hn : -9223372036854775808 ≤ n) (hn' : n ≤ 9223372036854775807) (hc : (chk size addr n != 0) = true) :
  Calls Tryz.prog 37 #[.pointer (some ⟨b, 0, none⟩), .int .u64 addr, .int .i64 n] w fun e w' => e = .returned (.tuple #[.slice none 0 0, .int .i64 (chk size addr n)]) ∧ Below w.heap.size w w' := by
 generalize hk : chk size addr n = k at *
 have HK := Lib.hid hk
 clear hk
 go_enter Tryz.func37, Tryz.ntmps37
 go_wp2_with (first | (go_at_call 79; refine (check_made _ _ _ _ _ _ _ h hs ha ha' hn hn').mono ?_; rw [HK.out]; rintro e w1 ⟨rfl, hb⟩))
 go_ret2
 exact ⟨rfl, hb⟩
/-- The cells behind 'store': n cells from 'off' on hold what the function gives. -/
def stored (f : Nat → Value) (off n : Nat) (g : Nat → Int) : Nat → Value := fun j => if off ≤ j ∧ j < off + n then .int .u8 (g (j - off)) else f j
set_option maxHeartbeats 1000000 in
theorem store_any (B m : Nat) (f : Nat → Value) (ad : Addr) (off n c K : Nat) (lb : Array Value) (g : Nat → Int) (w : World) (hr : w.rowIs B 5 m f)
  (had : 0 < n → ad = ⟨B, off, none⟩) (hm : off + n ≤ m) (hm' : m ≤ 9223372036854775807)
  (eK : ∀ args w, (callFunc K args).run Tryz.prog w = .ok (.enter K args) w)
  (H : ∀ i : Nat, i < n → ∀ w1, Keeps (One B) w w1 → Calls Tryz.prog K (#[.int .i64 i] ++ lb) w1 fun e w' => e = .returned (.int .u8 (g i)) ∧ w1 = w') :
  Calls Tryz.prog 72 #[.slice (some ad) n c, .func (.func K) #[] lb] w fun e w' => e = .returned (.tuple #[]) ∧ Keeps (One B) w w' ∧ w'.rowIs B 5 m (stored f off n g) := by
 have HH := Lib.hid H
 have hadH := Lib.hid had
 clear H had
 go_enter Tryz.func72, Tryz.ntmps72
 go_wp2
 go_loopw [4, 7] (fun _ i wr => ∃ k : Nat, k ≤ n ∧ i = .int .i64 k ∧ Keeps (One B) w wr ∧ wr.rowIs B 5 m (stored f off k g)) (fun _ i _ => n - (intOf i).toNat)
 case atStart => exact ⟨0, Nat.zero_le _, rfl, Keeps.refl _ _, hr.congr fun i _ => by simp [stored]; omega⟩
 case round =>
  obtain ⟨k, hk, rfl, hkp, hrow⟩ := hrel
  by_cases hlt : k < n
  ·have ha := hadH.out (by omega)
   subst ha
   have hc := hrow.cell (i := off + k) (by omega)
   have hf := hrow.frozen (off + k)
   go_wp2_with fail
   refine (HH.out k hlt _ hkp).mono ?_
   rintro e w1 ⟨rfl, rfl⟩
   go_wp2_with fail
   go_roundw
   case rel =>
    refine ⟨k + 1, by omega, by go_num, hkp.set1 _ _, (hrow.set (off + k) _).congr ?_⟩
    intro j hj
    simp only [stored]
    by_cases h1 : j = off + k
    ·subst h1; simp
    ·rw [if_neg h1]
     by_cases h2 : off ≤ j ∧ j < off + k
     ·rw [if_pos h2, if_pos (by omega)]
     ·rw [if_neg h2, if_neg (by omega)]
   case measure => simp [intOf]; omega
  ·have hkn : k = n := by omega
   subst hkn
   go_wp2_with fail
   go_end0
   exact ⟨rfl, hkp, hrow⟩
end Go.Proofs.YtfmabknhfehdcaaGreat
namespace Go.Proofs.YtfmabknhfehdcaaGreat
set_option linter.unusedSimpArgs false
set_option linter.unusedVariables false
open Go.RowKit
set_option maxHeartbeats 1000000 in
theorem add_any (b c : Nat) (G : Nat → Value) (ad ln : Nat) (w : World) (hr : w.rowIs b 90 770 G) (hc : G 768 = .int .i64 c) (hlt : c < 4611686018427387904) :
  Calls Tryz.prog 73 #[.pointer (some ⟨b, 0, none⟩), .agg #[.int .u64 ad, .int .i64 ln, .bool false]] w fun e w' =>
   e = .returned (.tuple #[]) ∧ Keeps (One b) w w' ∧ w'.rowIs b 90 770 (fun i => if i = 768 then .int .i64 (c + 1 : Nat) else if i = 3 * (c % 256) then .int .u64 ad else if i = 3 * (c % 256) + 1 then .int .i64 ln else if i = 3 * (c % 256) + 2 then .bool false else G i) := by
 have h768 := hr.cell (i := 768) (by omega)
 rw [hc] at h768
 have hf := hr.frozen
 have hlt' := hr.lt
 obtain ⟨k, hk⟩ : ∃ k, k = c % 256 := ⟨_, rfl⟩
 have hk' : k < 256 := by omega
 have h0 := hr.cell (i := k * 3) (by omega)
 have h1 := hr.cell (i := k * 3 + 1) (by omega)
 have h2 := hr.cell (i := k * 3 + 2) (by omega)
 have HK := Lib.hid hk
 clear hk
 have hK2 : ((c : Int) % 256) = k := by have := HK.out; omega
 go_enter Tryz.func73, Tryz.ntmps73
 go_wp2
 go_region
 go_wp2
 go_end0
 have hk := HK.out
 subst hk
 refine ⟨rfl, ?_, ?_⟩
 ·exact (((((Keeps.refl (One b) w).set1 _ _).set1 _ _).set1 _ _).set1 _ _).alloc _ |>.drew
 ·refine ((((((hr.set _ _).set _ _).set _ _).set _ _).alloc _).drew).congr fun i hi => ?_
  by_cases e1 : i = 768
  ·rw [if_pos e1, if_pos e1]; rfl
  ·rw [if_neg e1, if_neg e1]
   by_cases e2 : i = 3 * (c % 256)
   ·rw [if_pos e2, if_neg (by omega), if_neg (by omega), if_pos (by omega)]
   ·rw [if_neg e2]
    by_cases e3 : i = 3 * (c % 256) + 1
    ·rw [if_pos e3, if_neg (by omega), if_pos (by omega)]
    ·rw [if_neg e3]
     by_cases e4 : i = 3 * (c % 256) + 2
     ·rw [if_pos e4, if_pos (by omega)]
     ·rw [if_neg e4, if_neg (by omega), if_neg (by omega), if_neg (by omega)]
/-- The cells of a log: the last 256 spans of L. -/
structure RingOK (G : Nat → Value) (L : List (Nat × Nat)) : Prop where
 one : ∀ i, i < 769 → (G i).oneCell' = true
 at' : ∀ i (h : i < L.length), L.length ≤ i + 256 → G (3 * (i % 256)) = .int .u64 (L[i]'h).1 ∧ G (3 * (i % 256) + 1) = .int .i64 (L[i]'h).2 ∧ G (3 * (i % 256) + 2) = .bool false
/-- Block b is a memory whose bytes are the block B: size bytes f, the log L. -/
structure MemAt (w : World) (b B size : Nat) (f : Nat → Int) (L : List (Nat × Nat)) : Prop where
 ne : b ≠ B
 small : size ≤ 4194304
 obj : ∃ G cap F, w.rowIs b 90 770 G ∧ G 768 = .int .i64 L.length ∧ G 769 = .slice (some ⟨B, 0, none⟩) size cap ∧ RingOK G L ∧
  w.rowIs B 5 cap F ∧ size ≤ cap ∧ cap ≤ 9223372036854775807 ∧ ∀ i, i < size → F i = .int .u8 (f i)
namespace MemAt
set_option linter.unusedSimpArgs false
set_option linter.unusedVariables false
theorem kept {S : Nat → Prop} {w w' : World} {b B size : Nat} {f : Nat → Int} {L : List (Nat × Nat)} (h : MemAt w b B size f L) (k : Keeps S w w') (hb : ¬ S b) (hB : ¬ S B) : MemAt w' b B size f L := by
 obtain ⟨h1, h2, G, cap, F, h4, h5, h6, h7, h8, h9⟩ := h
 exact ⟨h1, h2, G, cap, F, k.rowIs h4 hb, h5, h6, h7, k.rowIs h8 hB, h9⟩
theorem slice {w : World} {b B size : Nat} {f : Nat → Int} {L : List (Nat × Nat)} (h : MemAt w b B size f L) : ∃ cap, w.cell? ⟨b, 769, none⟩ = some (.slice (some ⟨B, 0, none⟩) size cap) ∧ size ≤ cap ∧ cap ≤ 9223372036854775807 := by
 obtain ⟨h1, h2, G, cap, F, h4, h5, h6, h7, h8, h9, h10, h11⟩ := h
 exact ⟨cap, by rw [h4.cell (by omega), h6], h9, h10⟩
theorem cells {w : World} {b B size : Nat} {f : Nat → Int} {L : List (Nat × Nat)} (h : MemAt w b B size f L) : ∀ i, i < size → w.cell? ⟨B, i, none⟩ = some (.int .u8 (f i)) := by
 obtain ⟨h1, h2, G, cap, F, h4, h5, h6, h7, h8, h9, h10, h11⟩ := h
 intro i hi
 rw [h8.cell (by omega), h11 i hi]
theorem lt {w : World} {b B size : Nat} {f : Nat → Int} {L : List (Nat × Nat)} (h : MemAt w b B size f L) : b < w.heap.size := by
 obtain ⟨h1, h2, G, cap, F, h4, h5⟩ := h
 exact h4.lt
theorem lt' {w : World} {b B size : Nat} {f : Nat → Int} {L : List (Nat × Nat)} (h : MemAt w b B size f L) : B < w.heap.size := by
 obtain ⟨h1, h2, G, cap, F, h4, h5, h6, h7, h8, h9⟩ := h
 exact h8.lt
theorem congr {w : World} {b B size : Nat} {f g : Nat → Int} {L : List (Nat × Nat)} (h : MemAt w b B size f L) (e : ∀ i, i < size → f i = g i) : MemAt w b B size g L := by
 obtain ⟨h1, h2, G, cap, F, h4, h5, h6, h7, h8, h9, h10, h11⟩ := h
 exact ⟨h1, h2, G, cap, F, h4, h5, h6, h7, h8, h9, h10, fun i hi => by rw [h11 i hi, e i hi]⟩
end MemAt
theorem ring_add {G : Nat → Value} {L : List (Nat × Nat)} (ad ln : Nat) (h : RingOK G L) :
  RingOK (fun i => if i = 768 then .int .i64 (L.length + 1 : Nat) else if i = 3 * (L.length % 256) then .int .u64 ad else if i = 3 * (L.length % 256) + 1 then .int .i64 ln else if i = 3 * (L.length % 256) + 2 then .bool false else G i) (L ++ [(ad, ln)]) := by
 refine ⟨fun i hi => ?_, ?_⟩
 ·have := h.one i hi
  split
  ·rfl
  ·split
   ·rfl
   ·split
    ·rfl
    ·split
     ·rfl
     ·exact this
 intro i hi hr
 simp only [List.length_append, List.length_cons, List.length_nil] at hi hr
 have hm := Nat.mod_lt i (show 0 < 256 by omega)
 rcases Nat.lt_or_ge i L.length with hl | hl
 ·have hne : i % 256 ≠ L.length % 256 := by omega
  obtain ⟨a1, a2, a3⟩ := h.at' i hl (by omega)
  rw [List.getElem_append_left hl]
  refine ⟨?_, ?_, ?_⟩ <;> (try dsimp only)
  ·rw [if_neg (by omega), if_neg (by omega), if_neg (by omega), if_neg (by omega)]; exact a1
  ·rw [if_neg (by omega), if_neg (by omega), if_neg (by omega), if_neg (by omega)]; exact a2
  ·rw [if_neg (by omega), if_neg (by omega), if_neg (by omega), if_neg (by omega)]; exact a3
 ·have he : i = L.length := by omega
  subst he
  simp only [List.getElem_append_right (Nat.le_refl _), Nat.sub_self, List.getElem_cons_zero]
  refine ⟨?_, ?_, ?_⟩ <;> (try dsimp only)
  ·rw [if_neg (by omega), if_pos trivial]
  ·rw [if_neg (by omega), if_neg (by omega), if_pos trivial]
  ·rw [if_neg (by omega), if_neg (by omega), if_neg (by omega), if_pos trivial]
end Go.Proofs.YtfmabknhfehdcaaGreat
namespace Go.Proofs.YtfmabknhfehdcaaGreat
set_option linter.unusedSimpArgs false
set_option linter.unusedVariables false
open Go.RowKit
/-- n bytes g from addr on, the others f -/
def upd (f : Nat → Int) (addr n : Nat) (g : Nat → Int) : Nat → Int := fun j => if addr ≤ j ∧ j < addr + n then g (j - addr) else f j
/-- the log after a write -/
def logged (L : List (Nat × Nat)) (addr n : Nat) : List (Nat × Nat) := if n = 0 then L else L ++ [(addr, n)]
theorem stored_upd (F : Nat → Value) (f : Nat → Int) (addr n : Nat) (g : Nat → Int) (i : Nat) (h : F i = .int .u8 (f i)) : stored F addr n g i = .int .u8 (upd f addr n g i) := by
 unfold stored upd
 by_cases h : addr ≤ i ∧ i < addr + n
 ·rw [if_pos h, if_pos h]
 ·rw [if_neg h, if_neg h]; assumption
set_option maxHeartbeats 1000000 in
theorem put_ok (b B size : Nat) (f : Nat → Int) (L : List (Nat × Nat)) (addr n K : Nat) (lb : Array Value) (g : Nat → Int) (w : World) (h : MemAt w b B size f L)
  (hL : L.length < 4611686018427387904) (hf : addr + n ≤ size)
  (eK : ∀ args w, (callFunc K args).run Tryz.prog w = .ok (.enter K args) w)
  (H : ∀ i : Nat, i < n → ∀ w1, Keeps (Two b B) w w1 → Calls Tryz.prog K (#[.int .i64 i] ++ lb) w1 fun e w' => e = .returned (.int .u8 (g i)) ∧ w1 = w') :
  Calls Tryz.prog 30 #[.pointer (some ⟨b, 0, none⟩), .int .u64 addr, .int .i64 n, .func (.func K) #[] lb] w fun e w' =>
   e = .returned (.int .i64 0) ∧ Keeps (Two b B) w w' ∧ MemAt w' b B size (upd f addr n g) (logged L addr n) := by
 have hs := h.small
 obtain ⟨c0, hsl, hc1, hc2⟩ := h.slice
 have HH := Lib.hid H
 have EE := Lib.hid eK
 have hM := Lib.hid h
 have hsl' := Lib.hid hsl
 clear H eK h hsl
 rcases Nat.eq_zero_or_pos n with rfl | hn
 ·go_enter Tryz.func30, Tryz.ntmps30
  go_wp2_with fail
  refine (span_ok _ _ _ _ _ 0 _ hsl'.out hs hc1 hc2 hf).mono ?_
  rintro e w1 ⟨⟨ad, rfl, -⟩, hb⟩
  go_wp2_with fail
  go_ret
  refine ⟨rfl, Keeps.of_below hb, ?_⟩
  exact ((hM.out.kept (Keeps.of_below (S := fun _ => False) hb) (fun h => h) (fun h => h)).congr (fun i _ => by unfold upd; rw [if_neg (by omega)]))
 ·go_enter Tryz.func30, Tryz.ntmps30
  go_wp2_with fail
  refine (span_ok _ _ _ _ _ n _ hsl'.out hs hc1 hc2 hf).mono ?_
  rintro e w1 ⟨⟨ad, rfl, had⟩, hb⟩
  obtain rfl := had hn
  have hM1 := hM.out.kept (Keeps.of_below (S := fun _ => False) hb) (fun h => h) (fun h => h)
  have hne := hM1.ne
  obtain ⟨G, cap, F, g1, g2, g3, g4, g5, g6, g7, g8⟩ := hM1.obj
  have g1' := Lib.hid g1
  have g2' := Lib.hid g2
  have g3' := Lib.hid g3
  have g4' := Lib.hid g4
  have g5' := Lib.hid g5
  have g8' := Lib.hid g8
  clear g1 g2 g3 g4 g5 g8
  go_wp2_with fail
  refine (store_any B cap _ _ addr n n K lb g _ g5'.out (fun _ => rfl) (by omega) g7 EE.out (fun i hi w2 h2 => HH.out i hi w2 ((Keeps.of_below hb).trans h2.two2))).mono ?_
  rintro e w2 ⟨rfl, hk2, hr2⟩
  have g1'' := Lib.hid (hk2.rowIs g1'.out hne)
  go_wp2_with fail
  refine (add_any b L.length G addr n _ g1''.out g2'.out hL).mono ?_
  rintro e w3 ⟨rfl, hk3, hr3⟩
  go_wp2_with fail
  go_ret
  have hn0 : n ≠ 0 := by omega
  refine ⟨rfl, ((Keeps.of_below hb).trans hk2.two2).trans hk3.two1, hne, hs, _, cap, _, hr3, ?_, ?_, ?_, hk3.rowIs hr2 (fun e => hne e.symm), g6, g7, fun i hi => stored_upd F f addr n g i (g8'.out i hi)⟩
  ·simp [logged, hn0]
  ·rw [if_neg (by omega), if_neg (by omega), if_neg (by omega), if_neg (by omega)]; exact g3'.out
  ·unfold logged; rw [if_neg hn0]; exact ring_add addr n g4'.out
set_option maxHeartbeats 1000000 in
theorem put_err (b B size : Nat) (f : Nat → Int) (L : List (Nat × Nat)) (addr n : Int) (fv : Value) (w : World) (h : MemAt w b B size f L)
  (ha : 0 ≤ addr) (ha' : addr ≤ 18446744073709551615) (hn : -9223372036854775808 ≤ n) (hn' : n ≤ 9223372036854775807) (hc : (chk size addr n != 0) = true) :
  Calls Tryz.prog 30 #[.pointer (some ⟨b, 0, none⟩), .int .u64 addr, .int .i64 n, fv] w fun e w' =>
   e = .returned (.int .i64 (chk size addr n)) ∧ Below w.heap.size w w' := by
 have hs := h.small
 obtain ⟨cap, hsl, -, -⟩ := h.slice
 clear h
 have HC := Lib.hid hc
 have hc0 : (chk size addr n == 0) = false := by simpa using hc
 generalize hk : chk size addr n = k at *
 have HK := Lib.hid hk
 clear hk hc
 go_enter Tryz.func30, Tryz.ntmps30
 go_wp2_with fail
 refine (span_err _ _ _ _ _ _ _ hsl hs ha ha' hn hn' (by rw [HK.out]; exact HC.out)).mono ?_
 rw [HK.out]
 rintro e w1 ⟨rfl, hb⟩
 go_wp2_with fail
 go_ret
 exact ⟨rfl, hb⟩
/-- The slice v holds the n bytes s, outside of the blocks S. -/
structure Src (S : Nat → Prop) (w : World) (ao : Option Addr) (n : Nat) (s : Nat → Int) : Prop where
 small : n ≤ 4611686018427387904
 at' : 0 < n → ∃ g o, ao = some ⟨g, o, none⟩ ∧ ¬ S g ∧ ∀ i, i < n → w.cell? ⟨g, o + i, none⟩ = some (.int .u8 (s i))
theorem Src.kept {S T : Nat → Prop} {w w' : World} {ao : Option Addr} {n : Nat} {s : Nat → Int} (h : Src S w ao n s) (k : Keeps T w w') (hT : ∀ b, T b → S b) : Src S w' ao n s := by
 refine ⟨h.small, fun hn => ?_⟩
 obtain ⟨g, o, rfl, hg, hc⟩ := h.at' hn
 exact ⟨g, o, rfl, hg, fun i hi => k.cell (hc i hi) (fun ht => hg (hT _ ht))⟩
set_option maxHeartbeats 1000000 in
theorem write1_any (x g o n c : Nat) (s : Nat → Int) (i : Nat) (w : World) (hx : w.cell? ⟨x, 0, none⟩ = some (.slice (some ⟨g, o, none⟩) n c)) (hi : i < n) (_hn : n ≤ 4611686018427387904)
  (hc : w.cell? ⟨g, o + i, none⟩ = some (.int .u8 (s i))) :
  Calls Tryz.prog 31 (#[.int .i64 i] ++ #[.pointer (some ⟨x, 0, none⟩)]) w fun e w' => e = .returned (.int .u8 (s i)) ∧ w = w' := by
 show Calls Tryz.prog 31 #[.int .i64 i, .pointer (some ⟨x, 0, none⟩)] w _
 go_enter Tryz.func31, Tryz.ntmps31
 go_wp2
 go_ret
 exact ⟨rfl, rfl⟩
theorem write1_enter (args : Array Value) (w : World) : (callFunc 31 args).run Tryz.prog w = .ok (.enter 31 args) w := by
 simp [go_sem]
set_option maxHeartbeats 1000000 in
theorem write_ok (b B size : Nat) (f : Nat → Int) (L : List (Nat × Nat)) (addr n c : Nat) (ao : Option Addr) (s : Nat → Int) (w : World) (h : MemAt w b B size f L)
  (hL : L.length < 4611686018427387904) (hf : addr + n ≤ size) (hsrc : Src (Two b B) w ao n s) :
  Calls Tryz.prog 11 #[.pointer (some ⟨b, 0, none⟩), .int .u64 addr, .slice ao n c] w fun e w' =>
   e = .returned (.int .i64 0) ∧ Keeps (Two b B) w w' ∧ MemAt w' b B size (upd f addr n s) (logged L addr n) := by
 have hM := Lib.hid h
 have hS := Lib.hid hsrc
 have hlt := h.lt
 have hlt' := h.lt'
 clear h hsrc
 go_enter Tryz.func11, Tryz.ntmps11
 go_wp2_with fail
 have hk0 : Keeps (Two b B) w (w.alloc (.cells #[.slice ao n c] 31)) := (Keeps.refl _ w).alloc _
 refine (put_ok b B size f L addr n 31 _ s _ (hM.out.kept (((Keeps.refl (fun _ => False) w).alloc _)) (fun h => h) (fun h => h)) hL hf write1_enter ?_).mono ?_
 ·intro i hi w1 h1
  obtain ⟨g, o, rfl, hg, hc⟩ := (hS.out).at' (by omega)
  exact write1_any w.heap.size g o n c s i w1 (h1.cell (World.cell?_alloc_new _ _ _ _) (by rintro (e | e) <;> simp at e <;> omega)) hi hS.out.small ((hk0.trans h1).cell (hc i hi) hg)
 ·rintro e w1 ⟨rfl, hk, hm⟩
  go_wp2_with fail
  go_ret
  exact ⟨rfl, hk0.trans hk, hm⟩
end Go.Proofs.YtfmabknhfehdcaaGreat
