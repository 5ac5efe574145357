/- Small facts on worlds, used by all proofs of this seat: what a call keeps, rows of cells, two facts on comparing a slice with nil. -/
import Derived.Test.YtiinjjfggmmkmaaRows
import Derived.WalkKit
import Derived.WalkSpells
import Derived.WalkLawsBesides
import Derived.Deep.OwnRows
import Derived.ScopeJumps
import Derived.Lib.Hide
namespace Go.Proofs.Ytiinjjfggmmkmaa
set_option linter.unusedVariables false
set_option linter.unusedSimpArgs false
open Go.RowKit

/-- All blocks that were there, but those in S, are as they were. -/
structure Keeps (S : Nat → Prop) (w w' : World) : Prop where
  os : w'.os = w.os
  tape : w'.tape = w.tape
  output : w'.output = w.output
  size : w.heap.size ≤ w'.heap.size
  block : ∀ k, k < w.heap.size → ¬ S k → w'.heap[k]? = w.heap[k]?

/-- A slice of integers that came in: nil, or it leads to a row of 'cap' cells, the numbers zs (the first 'len' are its elements), each fitting its kind. -/
def IsRow (k : IntKind) (w : World) (a : Option Addr) (len cap : Nat) (zs : List Int) : Prop :=
  (a = none ∧ len = 0 ∧ cap = 0 ∧ zs = []) ∨
  ∃ x, a = some x ∧ len ≤ cap ∧ cap ≤ maxLen ∧ zs.length = cap ∧ (∀ i, i < zs.length → w.cell? (x.add i) = some (.int k (zs.getD i 0))) ∧ ∀ n ∈ zs, (Lit.int k n).wf = true

theorem wf_i64 {n : Int} (h : (Lit.int .i64 n).wf = true) : -9223372036854775808 ≤ n ∧ n ≤ 9223372036854775807 := by
  simp only [Lit.wf, Bool.and_eq_true, decide_eq_true_eq] at h
  exact h
theorem wf_u64 {n : Int} (h : (Lit.int .u64 n).wf = true) : 0 ≤ n ∧ n ≤ 18446744073709551615 := by
  simp only [Lit.wf, Bool.and_eq_true, decide_eq_true_eq] at h
  exact h
theorem wf_u32 {n : Int} (h : (Lit.int .u32 n).wf = true) : 0 ≤ n ∧ n ≤ 4294967295 := by
  simp only [Lit.wf, Bool.and_eq_true, decide_eq_true_eq] at h
  exact h
theorem wf_u16 {n : Int} (h : (Lit.int .u16 n).wf = true) : 0 ≤ n ∧ n ≤ 65535 := by
  simp only [Lit.wf, Bool.and_eq_true, decide_eq_true_eq] at h
  exact h
theorem wf_u8 {n : Int} (h : (Lit.int .u8 n).wf = true) : 0 ≤ n ∧ n ≤ 255 := by
  simp only [Lit.wf, Bool.and_eq_true, decide_eq_true_eq] at h
  exact h

namespace Keeps
theorem refl (S : Nat → Prop) (w : World) : Keeps S w w := ⟨rfl, rfl, rfl, Nat.le_refl _, fun _ _ _ => rfl⟩
theorem trans {S : Nat → Prop} {a b c : World} (h : Keeps S a b) (k : Keeps S b c) : Keeps S a c :=
  ⟨k.os.trans h.os, k.tape.trans h.tape, k.output.trans h.output, Nat.le_trans h.size k.size,
    fun i hi hS => (k.block i (Nat.lt_of_lt_of_le hi h.size) hS).trans (h.block i hi hS)⟩
theorem mono {S T : Nat → Prop} {a b : World} (h : Keeps S a b) (hS : ∀ k, k < a.heap.size → S k → T k) : Keeps T a b :=
  ⟨h.os, h.tape, h.output, h.size, fun k hk hT => h.block k hk fun hs => hT (hS k hk hs)⟩
theorem drew {S : Nat → Prop} {a w : World} (h : Keeps S a w) : Keeps S a w.drew := ⟨h.os, h.tape, h.output, h.size, h.block⟩
theorem drewN {S : Nat → Prop} {a w : World} (h : Keeps S a w) (n : Nat) : Keeps S a (w.drewN n) := ⟨h.os, h.tape, h.output, h.size, h.block⟩
theorem alloc {S : Nat → Prop} {a w : World} (h : Keeps S a w) (o : Obj) : Keeps S a (w.alloc o) :=
  ⟨h.os, h.tape, h.output, by have := h.size; simp; omega, fun k hk hS =>
    (Below.heap_alloc _ _ _ (Nat.lt_of_lt_of_le hk h.size)).trans (h.block k hk hS)⟩
theorem setCell {S : Nat → Prop} {a w : World} (h : Keeps S a w) {p : Addr} (hp : p.block < a.heap.size → S p.block) (u : Value) : Keeps S a (w.setCell p u) :=
  ⟨h.os, h.tape, h.output, by have := h.size; simp; omega, fun k hk hS =>
    (Below.heap_setCell _ _ _ _ (fun e => hS (by subst e; exact hp hk))).trans (h.block k hk hS)⟩
theorem below {S : Nat → Prop} {a b : World} (h : Keeps S a b) {B : Nat} (hB : B ≤ a.heap.size) (hS : ∀ k, k < B → ¬ S k) : Below B a b :=
  ⟨h.os, h.tape, h.output, h.size, fun k hk => h.block k (by omega) (hS k hk)⟩
theorem of_below {S : Nat → Prop} {a b : World} (h : Below a.heap.size a b) : Keeps S a b :=
  ⟨h.os, h.tape, h.output, h.size, fun k hk _ => h.block k hk⟩
theorem rowIs {S : Nat → Prop} {a b : World} (h : Keeps S a b) {g : Nat} {t : TypeId} {n : Nat} {f : Nat → Value} (hr : a.rowIs g t n f) (hS : ¬ S g) : b.rowIs g t n f :=
  hr.of_block (h.block g hr.lt hS)
theorem cell {S : Nat → Prop} {a b : World} (h : Keeps S a b) {p : Addr} {v : Value} (hr : a.cell? p = some v) (hS : ¬ S p.block) : b.cell? p = some v :=
  (World.cell?_of_block (w := a) (h.block p.block (World.block_lt_of_cell? _ _ hr) hS)).trans hr
end Keeps

/-- block b alone -/
def One (b : Nat) : Nat → Prop := fun k => k = b
/-- the blocks b and c -/
def Two (b c : Nat) : Nat → Prop := fun k => k = b ∨ k = c
theorem Keeps.set1 {b : Nat} {a w : World} (h : Keeps (One b) a w) (i : Nat) (u : Value) : Keeps (One b) a (w.setCell ⟨b, i, none⟩ u) := h.setCell (p := ⟨b, i, none⟩) (fun _ => rfl) u
theorem Keeps.two1 {b c : Nat} {a w : World} (h : Keeps (One b) a w) : Keeps (Two b c) a w := h.mono fun _ _ h => .inl h
theorem Keeps.two2 {b c : Nat} {a w : World} (h : Keeps (One c) a w) : Keeps (Two b c) a w := h.mono fun _ _ h => .inr h

@[go_sem] theorem eqnil_bytes (w : World) (a : Option Addr) (n c : Nat) : (binOp .eql 66 (.slice a n c) (.slice none 0 0)).run Try.prog w = .ok (.bool a.isNone) w :=
  Lib.run_eql_slice_nil w 66 5 a n c 0 0 Try.underlying66

section
variable {P : Program} {ops : Array Oper} {Q : Exit → Act → World → Prop} {a : Act} {w : World} {rest : List Oper} {o : Oper}
/-- A struct or an array built out of one part, its outcome known. -/
theorem wpList_build1 (hgd : o.guard = none) (t i : Nat) (x : Operand) (ho : o.op = .build t #[(i, x)]) (v0 : Value) (hx : a.eval x = v0)
    {v : Value} (hb : (Instr.build t #[(i, v0)]).run P w = .ok v w) (h : wpList P ops Q rest (a.put o.dst v) w) : wpList P ops Q (o :: rest) a w :=
  wpList_plain hgd fun K hK => by
    unfold Oper.wp execOp
    simp only [ho, List.map_toArray, List.map_cons, List.map_nil, hx]
    simp only [Sem.run_bind, hb, Result.andThen_ok, Sem.run_pure]
    exact hK _ _ h
/-- A struct or an array built out of two parts, its outcome known. -/
theorem wpList_build2 (hgd : o.guard = none) (t i j : Nat) (x y : Operand) (ho : o.op = .build t #[(i, x), (j, y)]) (v0 v1 : Value) (hx : a.eval x = v0) (hy : a.eval y = v1)
    {v : Value} (hb : (Instr.build t #[(i, v0), (j, v1)]).run P w = .ok v w) (h : wpList P ops Q rest (a.put o.dst v) w) : wpList P ops Q (o :: rest) a w :=
  wpList_plain hgd fun K hK => by
    unfold Oper.wp execOp
    simp only [ho, List.map_toArray, List.map_cons, List.map_nil, hx, hy]
    simp only [Sem.run_bind, hb, Result.andThen_ok, Sem.run_pure]
    exact hK _ _ h
/-- A new variable, its zero value known. -/
theorem wpList_alloc (hgd : o.guard = none) (t : Nat) (ho : o.op = .alloc t) {v : Value} (hz : ∀ w, (zeroValue t).run P w = .ok v w)
    (h : wpList P ops Q rest (a.put o.dst (.pointer (some ⟨w.heap.size, 0, none⟩))) (w.alloc (.cells v.cells t))) : wpList P ops Q (o :: rest) a w :=
  wpList_plain hgd fun K hK => by
    unfold Oper.wp execOp
    simp only [ho, Instr.alloc]
    simp only [Sem.run_bind, hz, Result.andThen_ok]
    simp [go_sem]
    exact hK _ _ h
/-- The zero value of a struct or an array. -/
theorem wpList_build0 (hgd : o.guard = none) (t : Nat) (ho : o.op = .build t #[])
    {v : Value} (hb : (Instr.build t #[]).run P w = .ok v w) (h : wpList P ops Q rest (a.put o.dst v) w) : wpList P ops Q (o :: rest) a w :=
  wpList_plain hgd fun K hK => by
    unfold Oper.wp execOp
    simp only [ho, List.map_toArray, List.map_nil]
    simp only [Sem.run_bind, hb, Result.andThen_ok, Sem.run_pure]
    exact hK _ _ h
end

/-- As Q; by a goto to label l: N. -/
def Exit.fwd (l : Nat) (N : Act → World → Prop) (Q : Exit → Act → World → Prop) : Exit → Act → World → Prop
  | .goto l', a, w => l' = l ∧ N a w
  | e, a, w => Q e a w
section
variable {P : Program} {a : Act} {w : World} {Q : Exit → Act → World → Prop} {l : Nat} {N : Act → World → Prop}
@[go_sem] theorem Exit.fwd_normal : Exit.fwd l N Q .normal a w = Q .normal a w := rfl
@[go_sem] theorem Exit.fwd_exit (id : Nat) : Exit.fwd l N Q (.exit id) a w = Q (.exit id) a w := rfl
@[go_sem] theorem Exit.fwd_ret : Exit.fwd l N Q .ret a w = Q .ret a w := rfl
@[go_sem] theorem Exit.fwd_panic (ch : List PanicEntry) : Exit.fwd l N Q (.panic ch) a w = Q (.panic ch) a w := rfl
theorem Exit.fwd_goto (h : N a w) : Exit.fwd l N Q (.goto l) a w := ⟨rfl, h⟩
/-- A scope out of whose head the run may jump forward to one label. -/
theorem wp_scope_fwd {c rest : Code} (l : Nat) (hf : findLabel c l = some rest)
    (h : c.wp P (Exit.fwd l (rest.wp P (Exit.noGoto Q)) Q) a w) : (Code.scope c).wp P Q a w := by
  refine wp_scope_jumps l (fun a w => rest.wp P (Exit.noGoto Q) a w) (fun _ _ => 0) hf ?_ ?_
  · refine wp_mono h fun e a w q => ?_
    cases e <;> exact q
  · intro a w h
    refine wp_mono h fun e a w q => ?_
    cases e <;> first | exact q | exact q.elim
end

end Go.Proofs.Ytiinjjfggmmkmaa
