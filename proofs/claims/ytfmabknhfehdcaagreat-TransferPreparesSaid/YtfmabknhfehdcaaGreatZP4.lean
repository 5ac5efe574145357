/- A loop over an iterator, as the plain walk meets it. -/
import Derived.RangeFuncNested
import Derived.RangeFuncBound
import Derived.RangeFuncCalls
import Derived.RangeFuncLeaves
import Derived.Shelf.Abstract
import Derived.Shelf.RegionOpen
import Derived.OwnWalkIn
import Derived.TacticsInMore
import Derived.LoopNIn
import Derived.LoopIn
import Derived.Sort.QuietIn
import Derived.Deep.QuietTactic
import Derived.BigQuiet
import Derived.Test.YtfmabknhfehdcaaGreatZP0
import Derived.Test.YtfmabknhfehdcaaGreatZP1
import Derived.OrdersHeld
namespace Go.Proofs.YtfmabknhfehdcaaGreat
set_option linter.unusedSimpArgs false
set_option linter.unusedVariables false
open Go.RowKit Go.Shelf
/-- What a loop over an iterator does to memory by itself: new blocks; blocks from N on that are no cells. -/
structure Quiet (N : Nat) (A B : World) : Prop where
 os : B.os = A.os
 tape : B.tape = A.tape
 output : B.output = A.output
 size : A.heap.size ≤ B.heap.size
 cells : ∀ (k : Nat) (c : Array Value) (t : TypeId) (f : Nat × Nat), A.heap[k]? = some (Obj.cells c t f) → B.heap[k]? = some (Obj.cells c t f)
 old : ∀ k : Nat, k < N → k < A.heap.size → B.heap[k]? = A.heap[k]?
theorem Quiet.refl (N : Nat) (A : World) : Quiet N A A := ⟨rfl, rfl, rfl, Nat.le_refl _, fun _ _ _ _ h => h, fun _ _ _ => rfl⟩
theorem Quiet.alloc (N : Nat) (A : World) (o : Obj) : Quiet N A (A.alloc o) :=
 ⟨rfl, rfl, rfl, by simp, fun k c t f h => (Below.heap_alloc _ _ _ (lt_of_block h)).trans h, fun k _ h => Below.heap_alloc _ _ _ h⟩
theorem Quiet.rowIs {N : Nat} {A B : World} (h : Quiet N A B) {g : Nat} {t : TypeId} {n : Nat} {f : Nat → Value} (hr : A.rowIs g t n f) : B.rowIs g t n f := by
 obtain ⟨c, h1, h2⟩ := hr
 exact ⟨c, h.cells _ _ _ _ h1, h2⟩
theorem Quiet.cell {N : Nat} {A B : World} (h : Quiet N A B) {p : Addr} {v : Value} (hr : A.cell? p = some v) : B.cell? p = some v := by
 unfold World.cell? at hr ⊢
 cases hA : A.heap[p.block]? with
 | none => rw [hA] at hr; cases hr
 | some o =>
  cases o with
  | cells c t f => rw [h.cells _ _ _ _ hA]; rw [hA] at hr; exact hr
  | _ => rw [hA] at hr; cases hr
theorem Quiet.below {N : Nat} {A B w : World} (h : Quiet N A B) (hb : Below w.heap.size w A) (hN : w.heap.size ≤ N) : Below w.heap.size w B :=
 ⟨h.os.trans hb.os, h.tape.trans hb.tape, h.output.trans hb.output, Nat.le_trans hb.size h.size, fun k hk =>
  (h.old k (by omega) (by have := hb.size; omega)).trans (hb.block k hk)⟩
theorem Quiet.keeps {N : Nat} {S : Nat → Prop} {A B w : World} (h : Quiet N A B) (hb : Keeps S w A) (hN : w.heap.size ≤ N) : Keeps S w B :=
 ⟨h.os.trans hb.os, h.tape.trans hb.tape, h.output.trans hb.output, Nat.le_trans hb.size h.size, fun k hk hS =>
  (h.old k (by omega) (by have := hb.size; omega)).trans (hb.block k hk hS)⟩
/-! A region that draws its order, in a round: out of the plain walk's structure. -/
def noDefer (ops : Array Oper) : Bool := ops.all fun o => match o.op with | .defer _ => false | _ => true
end Go.Proofs.YtfmabknhfehdcaaGreat
namespace Go.Proofs.YtfmabknhfehdcaaGreat
set_option linter.unusedSimpArgs false
set_option linter.unusedVariables false
open Go.RowKit
/-- An array (or a struct) lies whole in block b and may be written. -/
structure ArrAt (W : World) (b : Nat) (A : Array Value) : Prop where
 rng : W.rangeAt b 0 A.toList
 th : W.there b 0 A.size
 pos : 0 < A.size
namespace ArrAt
set_option linter.unusedSimpArgs false
set_option linter.unusedVariables false
variable {W W' : World} {b : Nat} {A A' : Array Value}
theorem cell (h : ArrAt W b A) {i : Nat} {v : Value} (hv : A[i]? = some v) : W.cell? ⟨b, i, none⟩ = some v := by
 have := h.rng i v (by simpa using hv)
 rwa [Nat.zero_add] at this
theorem frozen (h : ArrAt W b A) {i : Nat} (hi : i < A.size) : W.frozen? ⟨b, i, none⟩ = false := by
 have := (h.th i hi).2
 rwa [Nat.zero_add] at this
theorem lt (h : ArrAt W b A) : b < W.heap.size := World.block_lt_of_cell? W ⟨b, 0, none⟩ (h.cell (i := 0) (Array.getElem?_eq_getElem h.pos))
theorem fresh (w : World) (A : Array Value) (T : TypeId) (h0 : 0 < A.size) : ArrAt (w.alloc (.cells A T)) w.heap.size A := by
 have h := World.rowIs_alloc w A T (fun j => A.getD j undef) (fun j hj => by
  simp only [Array.getD_eq_getD_getElem?]
  rw [Array.getElem?_eq_getElem hj]; rfl)
 refine ⟨fun j v hv => ?_, fun j hj => ?_, h0⟩
 ·have hj : j < A.size := by simpa using (List.getElem?_eq_some_iff.1 hv).1
  rw [Nat.zero_add, World.rowIs.cell h hj]
  simp only [Array.getElem?_toList] at hv
  simp only [Array.getD_eq_getD_getElem?, hv]; rfl
 ·rw [Nat.zero_add]
  exact ⟨by rw [World.rowIs.cell h hj]; rfl, World.rowIs.frozen h j⟩
theorem kept {S : Nat → Prop} (h : ArrAt W b A) (k : Keeps S W W') (hS : ¬ S b) : ArrAt W' b A := by
 have e := k.block b h.lt hS
 refine ⟨fun j v hv => ?_, fun j hj => ?_, h.pos⟩
 ·rw [World.cell?_of_block (w := W) (a := ⟨b, 0 + j, none⟩) e]; exact h.rng j v hv
 ·rw [World.cell?_of_block (w := W) (a := ⟨b, 0 + j, none⟩) e, World.frozen?_of_block (w := W) (a := ⟨b, 0 + j, none⟩) e]; exact h.th j hj
theorem below (h : ArrAt W b A) (k : Below W.heap.size W W') : ArrAt W' b A := h.kept (Keeps.of_below (S := fun _ => False) k) (fun e => e)
theorem alloc (h : ArrAt W b A) (o : Obj) : ArrAt (W.alloc o) b A := h.kept (S := fun _ => False) ((Keeps.refl _ _).alloc o) (fun e => e)
theorem drew (h : ArrAt W b A) : ArrAt W.drew b A := h.kept (S := fun _ => False) (Keeps.refl _ _).drew (fun e => e)
theorem store (h : ArrAt W b A) (A' : Array Value) (hs : A'.size = A.size) : ArrAt (W.setCells b 0 A'.toList) b A' :=
 ⟨World.rangeAt_setCells_same _ _ _ _ (by simp [hs]; exact h.th), by rw [hs]; exact World.there_setCells h.th _ _ _, by rw [hs]; exact h.pos⟩
theorem set (h : ArrAt W b A) (i : Nat) (v : Value) (hi : i < A.size) : ArrAt (W.setCell ⟨b, i, none⟩ v) b (A.setIfInBounds i v) := by
 have hw := h.cell (i := i) (Array.getElem?_eq_getElem hi)
 refine ⟨fun j u hu => ?_, fun j hj => ?_, by simpa using h.pos⟩
 ·simp only [Array.toList_setIfInBounds, Nat.zero_add] at hu ⊢
  rw [List.getElem?_set] at hu
  by_cases e : i = j
  ·subst e
   rw [if_pos rfl, if_pos (by simpa using hi)] at hu
   cases hu
   exact World.cell?_setCell_same _ _ _ hw
  ·rw [if_neg e] at hu
   rw [World.cell?_setCell_other _ _ _ _ (by simp)]
   have := h.rng j u hu
   rwa [Nat.zero_add] at this
 ·have hj' : j < A.size := by simpa using hj
  obtain ⟨h1, h2⟩ := h.th j hj'
  refine ⟨?_, ?_⟩
  ·have := World.isSome_setCells b [v] i W ⟨b, 0 + j, none⟩ h1
   exact this
  ·have := World.frozen?_setCells b [v] i W ⟨b, 0 + j, none⟩
   exact this.trans h2
theorem loadVar {P : Program} (h : ArrAt W b A) {T : TypeId} {d : TypeDesc} (hu : P.underlying T = some d) (hd : d.isRow = true) (hi : (P.info? T).map (·.size) = some A.size) :
  (loadVar T ⟨b, 0, none⟩).run P W = .ok (.agg A) W := by
 have := run_loadVar_mid (P := P) W b 0 T A.toList d h.rng hu hd (by simpa using hi)
 simpa using this
end ArrAt
theorem Keeps.store {S : Nat → Prop} {a w : World} {b : Nat} (h : Keeps S a w) (hb : b < a.heap.size → S b) : ∀ (vs : List Value) (o : Nat), Keeps S a (w.setCells b o vs) := by
 intro vs
 induction vs generalizing w with
 | nil => intro o; exact h
 | cons v r ih => intro o; exact ih (h.setCell (p := ⟨b, o, none⟩) hb v) (o + 1)
theorem bstore {B : Nat} {a b : World} (h : Below B a b) (g : Nat) (hg : B ≤ g) : ∀ (vs : List Value) (o : Nat), Below B a (b.setCells g o vs) := by
 intro vs
 induction vs generalizing b with
 | nil => intro o; exact h
 | cons v r ih => intro o; exact ih (h.setCell (p := ⟨g, o, none⟩) hg v) (o + 1)
section
variable {P : Program} {ops : Array Oper} {Q : Exit → Act → World → Prop} {a : Act} {w : World} {rest : List Oper} {o : Oper}
/-- The load of an array that lies whole. -/
theorem wpList_loadA (hgd : o.guard = none) {b : Nat} {A : Array Value} (H : ArrAt w b A) (ty : TypeId) (x : Operand) (ho : o.op = .load ty x) (hx : a.eval x = .pointer (some ⟨b, 0, none⟩)) {d : TypeDesc}
  (hu : P.underlying ty = some d) (hd : d.isRow = true) (hi : (P.info? ty).map (·.size) = some A.size) (h : wpList P ops Q rest (a.put o.dst (.agg A)) w) : wpList P ops Q (o :: rest) a w :=
 wpList_load_mid hgd ty x ho b 0 hx A.toList d H.rng hu hd (by simpa using hi) (by simpa using h)
/-- The store of an array over one that lies whole. -/
theorem wpList_storeA (hgd : o.guard = none) {b : Nat} {A A' : Array Value} (H : ArrAt w b A) (ty : TypeId) (x y : Operand) (ho : o.op = .store ty x y) (hx : a.eval x = .pointer (some ⟨b, 0, none⟩)) (hy : a.eval y = .agg A')
  (hi : (P.info? ty).map (·.size) = some A.size) (hs : A'.size = A.size) (h1 : A'.all (·.oneCell') = true) (h : wpList P ops Q rest (a.put o.dst undef) (w.setCells b 0 A'.toList)) : wpList P ops Q (o :: rest) a w :=
 wpList_store_mid hgd ty x y ho b 0 A' hx hy (by rw [hs]; exact H.th) (by rw [hs]; exact hi) h1 h
end
/-- In a region that draws its order: under an S that gives the range, the load of an array yields it. -/
theorem yieldsA {P : Program} {ops : Array Oper} {S : World → Prop} {op : Oper} {a : Act} (hw : Region.wanted op (yielded ops a.tmps) = true) (ty : TypeId) (x : Operand) (ho : op.op = .load ty x)
  (b : Nat) (hx : a.eval x = .pointer (some ⟨b, 0, none⟩)) (A : Array Value) {d : TypeDesc} (hS : ∀ w, S w → w.rangeAt b 0 A.toList) (hu : P.underlying ty = some d) (hd : d.isRow = true) (hi : (P.info? ty).map (·.size) = some A.size) :
  YieldsIf P ops S op (.agg A) a := by
 have := yieldsIf_load_mid (P := P) (ops := ops) (S := S) (op := op) (a := a) hw ty x ho b 0 hx A.toList d hS hu hd (by simpa using hi)
 rwa [Array.toArray_toList] at this
/-- As wpAnyH_take, the temporary named. -/
theorem takeD {P : Program} {md : Region.Mode} {ops : Array Oper} {Q : Exit → Act → World → Prop} {S : World → Prop} {i : Nat} {oi : Oper} {v : Value} {fuel : Nat} {listed : Array Bool} {a : Act} {w : World} (d : Tmp) (hi : ops[i]? = some oi) (hd : oi.dst = some d)
  (hs : Region.noSelect ops = true) (hf : Region.free md ops listed i = true) (hr : (Region.ready md ops listed).contains i = true)
  (hQ : ∀ c a w, Q (.panic c) (a.put oi.dst v) w → Q (.panic c) a w) (hy : YieldsIf P ops S oi v a) (hS : S w)
  (h : wpAnyH P md ops Q S fuel (listed.setIfInBounds i true) (a.put (some d) v) w) : wpAnyH P md ops Q S (fuel + 1) listed a w :=
 wpAnyH_take hi hs hf hr hQ hy hS (by rw [hd]; exact h)
/-- A store of an array in such a region. -/
theorem wp_storeN {P : Program} {op : Oper} {a : Act} {w : World} {K : Act → World → Prop} {Q : Exit → Act → World → Prop} (ty : TypeId) (x y : Operand) (ho : op.op = .store ty x y) (hd : op.dst = none)
  (b o : Nat) (cells : Array Value) (hx : a.eval x = .pointer (some ⟨b, o, none⟩)) (hy : a.eval y = .agg cells)
  (ht : w.there b o cells.size) (hi : (P.info? ty).map (·.size) = some cells.size) (h1 : cells.all (·.oneCell') = true)
  (h : K a (w.setCells b o cells.toList)) : op.wp P a w K Q :=
 wp_store_mid ty x y ho b o cells hx hy ht hi h1 (by rw [hd]; exact h)
/-- A new variable in such a region, its zero value known. -/
theorem wp_allocN {P : Program} {op : Oper} {a : Act} {w : World} {K : Act → World → Prop} {Q : Exit → Act → World → Prop} (t d : Nat) (ho : op.op = .alloc t) (hd : op.dst = some d) {v : Value} (hz : ∀ w, (zeroValue t).run P w = .ok v w) {A : Array Value} (hA : v.cells = A)
  (h : K (a.put (some d) (.pointer (some ⟨w.heap.size, 0, none⟩))) (w.alloc (.cells A t))) : op.wp P a w K Q := by
 unfold Oper.wp execOp
 simp only [ho, Instr.alloc]
 simp only [Sem.run_bind, hz, Result.andThen_ok]
 simp [go_sem]
 subst hA
 rw [hd]
 exact h
/-- The load of an array out of the middle of a block. -/
theorem wpList_loadR {P : Program} {ops : Array Oper} {Q : Exit → Act → World → Prop} {a : Act} {w : World} {rest : List Oper} {o : Oper} (hgd : o.guard = none) {b p : Nat} {A : Array Value} (H : w.rangeAt b p A.toList) (ty : TypeId) (x : Operand) (ho : o.op = .load ty x) (hx : a.eval x = .pointer (some ⟨b, p, none⟩)) {d : TypeDesc}
  (hu : P.underlying ty = some d) (hd : d.isRow = true) (hi : (P.info? ty).map (·.size) = some A.size) (h : wpList P ops Q rest (a.put o.dst (.agg A)) w) : wpList P ops Q (o :: rest) a w :=
 wpList_load_mid hgd ty x ho b p hx A.toList d H hu hd (by simpa using hi) (by simpa using h)
/-- In a region that draws its order: the load of an array out of the middle of a block. -/
theorem yieldsR {P : Program} {ops : Array Oper} {S : World → Prop} {op : Oper} {a : Act} (hw : Region.wanted op (yielded ops a.tmps) = true) (ty : TypeId) (x : Operand) (ho : op.op = .load ty x)
  (b p : Nat) (hx : a.eval x = .pointer (some ⟨b, p, none⟩)) (A : Array Value) {d : TypeDesc} (hS : ∀ w, S w → w.rangeAt b p A.toList) (hu : P.underlying ty = some d) (hd : d.isRow = true) (hi : (P.info? ty).map (·.size) = some A.size) :
  YieldsIf P ops S op (.agg A) a := by
 have := yieldsIf_load_mid (P := P) (ops := ops) (S := S) (op := op) (a := a) hw ty x ho b p hx A.toList d hS hu hd (by simpa using hi)
 rwa [Array.toArray_toList] at this
theorem results_tct {fn : Func} {p u x : Tmp} {ty : TypeId} (h : fn.results = #[.tmp x, .cell p ty, .tmp u]) (tmps : Array Value) (P : Program) (w : World) {b : Nat} {A : Array Value} (H : ArrAt w b A) {d : TypeDesc}
  (hp : tmps.getD p undef = .pointer (some ⟨b, 0, none⟩)) (hu : P.underlying ty = some d) (hd : d.isRow = true) (hi : (P.info? ty).map (·.size) = some A.size) :
  (results fn tmps).run P w = .ok (.tuple #[tmps.getD x undef, .agg A, tmps.getD u undef]) w := by
 simp only [results, h]
 simp only [Array.getD_eq_getD_getElem?] at hp
 simp [Result.andThen, hp, asAddr, H.loadVar hu hd hi]
theorem results_ct {fn : Func} {p u : Tmp} {ty : TypeId} (h : fn.results = #[.cell p ty, .tmp u]) (tmps : Array Value) (P : Program) (w : World) {b : Nat} {A : Array Value} (H : ArrAt w b A) {d : TypeDesc}
  (hp : tmps.getD p undef = .pointer (some ⟨b, 0, none⟩)) (hu : P.underlying ty = some d) (hd : d.isRow = true) (hi : (P.info? ty).map (·.size) = some A.size) :
  (results fn tmps).run P w = .ok (.tuple #[.agg A, tmps.getD u undef]) w := by
 simp only [results, h]
 simp only [Array.getD_eq_getD_getElem?] at hp
 simp [Result.andThen, hp, asAddr, H.loadVar hu hd hi]
theorem results_c {fn : Func} {p : Tmp} {ty : TypeId} (h : fn.results = #[.cell p ty]) (tmps : Array Value) (P : Program) (w : World) {b : Nat} {A : Array Value} (H : ArrAt w b A) {d : TypeDesc}
  (hp : tmps.getD p undef = .pointer (some ⟨b, 0, none⟩)) (hu : P.underlying ty = some d) (hd : d.isRow = true) (hi : (P.info? ty).map (·.size) = some A.size) :
  (results fn tmps).run P w = .ok (.agg A) w := by
 simp only [results, h]
 simp only [Array.getD_eq_getD_getElem?] at hp
 simp [hp, asAddr, H.loadVar hu hd hi]
end Go.Proofs.YtfmabknhfehdcaaGreat
