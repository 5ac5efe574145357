/- queue: what lies in memory between two calls of a sequence. -/
import Derived.Test.YtpoeepdpoblfcaaTypes
import Derived.Test.YtpoeepdpoblfcaaKnown
import Derived.Deep.CutRange
import Derived.Deep.DrawnRows
namespace Go.Proofs.Ytpoeepdpoblfcaa
open Go.RowKit

/-- The cells of a reference's end. -/
def eArr (n h t : Nat) (ph : Bool) : Array Value := #[.int .i64 n, .int .i64 h, .int .i64 t, .bool ph]
theorem eArr_one (n h t : Nat) (ph : Bool) : (eArr n h t ph).all (·.oneCell') = true := by simp [eArr, Value.oneCell']
theorem eArr_size (n h t : Nat) (ph : Bool) : (Try.prog.info? 30).map (·.size) = some (eArr n h t ph).size := sizeEnd
def eZero : Array Value := #[.int .i64 0, .int .i64 0, .int .i64 0, .bool false]
theorem zeroEnd (w : World) : (zeroValue 30).run Try.prog w = .ok (.agg eZero) w := by kernel_rfl
theorem eZero_size : (Try.prog.info? 30).map (·.size) = some eZero.size := sizeEnd
theorem frEnd (w : World) : ArrAt (w.alloc (.cells eZero 30)) w.heap.size eZero := ArrAt.fresh _ _ _ (by simp [eZero])

/-- The end at block g and the reference's end at block mb, in the same state. -/
structure SInv (T m : Nat) (w W : World) (g mb n h t : Nat) (ph : Bool) : Prop where
  q : QAt T m W g n h t ph
  r : ArrAt W mb (eArr n h t ph)
  b : Below w.heap.size w W
  g0 : w.heap.size ≤ g
  m0 : w.heap.size ≤ mb
  ne : g ≠ mb
namespace SInv
variable {T m : Nat} {w W W' : World} {g mb n h t : Nat} {ph : Bool}
theorem kept {S : Nat → Prop} (i : SInv T m w W g mb n h t ph) (k : Keeps S W W') (h1 : ¬ S g) (h2 : ¬ S mb) (h3 : ∀ j, S j → w.heap.size ≤ j) : SInv T m w W' g mb n h t ph :=
  ⟨i.q.kept k h1, i.r.kept k h2, i.b.trans (k.below i.b.size (fun j hj e => by have := h3 j e; omega)), i.g0, i.m0, i.ne⟩
theorem below (i : SInv T m w W g mb n h t ph) (k : Below W.heap.size W W') : SInv T m w W' g mb n h t ph := i.kept (Keeps.of_below (S := fun _ => False) k) (fun e => e) (fun e => e) (fun _ e => e.elim)
end SInv
/-- The end has moved on, the reference's has not yet. -/
structure SMid (T m : Nat) (w W : World) (g mb n h t h' t' : Nat) (ph ph' : Bool) : Prop where
  q : QAt T m W g n h' t' ph'
  r : ArrAt W mb (eArr n h t ph)
  b : Below w.heap.size w W
  g0 : w.heap.size ≤ g
  m0 : w.heap.size ≤ mb
  ne : g ≠ mb
namespace SMid
variable {T m : Nat} {w W W' : World} {g mb n h t h' t' : Nat} {ph ph' : Bool}
theorem of (i : SInv T m w W g mb n h t ph) (k : Keeps (One g) W W') (q : QAt T m W' g n h' t' ph') : SMid T m w W' g mb n h t h' t' ph ph' :=
  ⟨q, i.r.kept k (fun e => i.ne e.symm), i.b.trans (k.below i.b.size (fun j hj e => by have e : j = g := e; have := i.g0; omega)), i.g0, i.m0, i.ne⟩
theorem kept {S : Nat → Prop} (i : SMid T m w W g mb n h t h' t' ph ph') (k : Keeps S W W') (h1 : ¬ S g) (h2 : ¬ S mb) (h3 : ∀ j, S j → w.heap.size ≤ j) : SMid T m w W' g mb n h t h' t' ph ph' :=
  ⟨i.q.kept k h1, i.r.kept k h2, i.b.trans (k.below i.b.size (fun j hj e => by have := h3 j e; omega)), i.g0, i.m0, i.ne⟩
theorem below (i : SMid T m w W g mb n h t h' t' ph ph') (k : Below W.heap.size W W') : SMid T m w W' g mb n h t h' t' ph ph' := i.kept (Keeps.of_below (S := fun _ => False) k) (fun e => e) (fun e => e) (fun _ e => e.elim)
/-- the reference's end set -/
theorem set (i : SMid T m w W g mb n h t h' t' ph ph') : SInv T m w (W.setCells mb 0 (eArr n h' t' ph').toList) g mb n h' t' ph' := by
  have k : Keeps (One mb) W (W.setCells mb 0 (eArr n h' t' ph').toList) := Keeps.setCells _ (Keeps.refl _ _) 0
  exact ⟨i.q.kept k i.ne, i.r.store _ rfl, i.b.trans (k.below i.b.size (fun j hj e => by have e : j = mb := e; have := i.m0; omega)), i.g0, i.m0, i.ne⟩
end SMid
/-- The reference moved first. -/
theorem SMid.ofRef {T m : Nat} {w W : World} {g mb n h t : Nat} {ph : Bool} (i : SInv T m w W g mb n h t ph) (h' t' : Nat) (ph' : Bool) : SMid T m w (W.setCells mb 0 (eArr n h' t' ph').toList) g mb n h' t' h t ph' ph := by
  have k : Keeps (One mb) W (W.setCells mb 0 (eArr n h' t' ph').toList) := Keeps.setCells _ (Keeps.refl _ _) 0
  exact ⟨i.q.kept k i.ne, i.r.store _ rfl, i.b.trans (k.below i.b.size (fun j hj e => by have e : j = mb := e; have := i.m0; omega)), i.g0, i.m0, i.ne⟩
theorem SMid.done {T m : Nat} {w W W' : World} {g mb n h t h' t' : Nat} {ph ph' : Bool} (i : SMid T m w W g mb n h' t' h t ph' ph) (k : Keeps (One g) W W') (q : QAt T m W' g n h' t' ph') : SInv T m w W' g mb n h' t' ph' :=
  ⟨q, i.r.kept k (fun e => i.ne e.symm), i.b.trans (k.below i.b.size (fun j hj e => by have e : j = g := e; have := i.g0; omega)), i.g0, i.m0, i.ne⟩

/-- What a drawn statement that calls the reference leaves: the new end at block b, the numbers, an array. -/
def Out1 (W : World) (E : Array Value) (p : Value) (wc : World) : Prop := ∃ b, p = .pointer (some ⟨b, 0, none⟩) ∧ W.heap.size ≤ b ∧ ArrAt wc b E ∧ Below W.heap.size W wc
def Out2 (W : World) (E A : Array Value) (p q : Value) (wc : World) : Prop := ∃ b c, p = .pointer (some ⟨b, 0, none⟩) ∧ q = .pointer (some ⟨c, 0, none⟩) ∧ W.heap.size ≤ b ∧ W.heap.size ≤ c ∧ ArrAt wc b E ∧ ArrAt wc c A ∧ Below W.heap.size W wc
theorem wpList_loadGA {P : Program} {ops : Array Oper} {Q : Exit → Act → World → Prop} {a : Act} {w : World} {rest : List Oper} {o : Oper} (hw : Region.wanted o (yielded ops a.tmps) = true) {b : Nat} {A : Array Value} (H : ArrAt w b A) (ty : TypeId) (x : Operand) (ho : o.op = .load ty x) (hx : a.eval x = .pointer (some ⟨b, 0, none⟩)) {d : TypeDesc}
    (hu : P.underlying ty = some d) (hd : d.isRow = true) (hi : (P.info? ty).map (·.size) = some A.size) (h : wpList P ops Q rest (a.put o.dst (.agg A)) w) : wpList P ops Q (o :: rest) a w :=
  wpList_load_midG hw ty x ho b 0 hx A.toList d H.rng hu hd (by simpa using hi) (by simpa using h)
theorem Keeps.ofBelowAt {W W' : World} (b : Below W.heap.size W W') : Keeps (fun _ => False) W W' := Keeps.of_below b
end Go.Proofs.Ytpoeepdpoblfcaa
