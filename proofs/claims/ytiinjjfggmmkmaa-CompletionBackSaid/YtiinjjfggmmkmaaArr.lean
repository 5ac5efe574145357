/- Arrays and structs that lie whole in a block; results that lie in cells. Over any program. -/
import Derived.Test.YtiinjjfggmmkmaaRow
import Derived.OrdersHeld
namespace Go.Proofs.Ytiinjjfggmmkmaa
set_option linter.unusedVariables false
set_option linter.unusedSimpArgs false
open Go.RowKit

theorem size_setCells (b : Nat) : ∀ (vs : List Value) (o : Nat) (w : World), (w.setCells b o vs).heap.size = w.heap.size
  | [], _, _ => rfl
  | v :: r, o, w => by rw [World.setCells, size_setCells b r]; simp

theorem there_set {w : World} {b o n : Nat} (h : w.there b o n) (c i : Nat) (v : Value) : (w.setCell ⟨c, i, none⟩ v).there b o n := World.there_setCells h c i [v]

/-- An array (or a struct) lies whole in block b and may be written. -/
structure ArrAt (W : World) (b : Nat) (A : Array Value) : Prop where
  rng : W.rangeAt b 0 A.toList
  th : W.there b 0 A.size
  pos : 0 < A.size
namespace ArrAt
variable {W W' : World} {b : Nat} {A A' : Array Value}
theorem cell (h : ArrAt W b A) {i : Nat} {v : Value} (hv : A[i]? = some v) : W.cell? ⟨b, i, none⟩ = some v := by
  have := h.rng i v (by simpa using hv)
  rwa [Nat.zero_add] at this
theorem frozen (h : ArrAt W b A) {i : Nat} (hi : i < A.size) : W.frozen? ⟨b, i, none⟩ = false := by
  have := (h.th i hi).2
  rwa [Nat.zero_add] at this
theorem lt (h : ArrAt W b A) : b < W.heap.size := World.block_lt_of_cell? W ⟨b, 0, none⟩ (h.cell (i := 0) (Array.getElem?_eq_getElem h.pos))
theorem fresh (w : World) (A : Array Value) (T : TypeId) (h0 : 0 < A.size) : ArrAt (w.alloc (.cells A T)) w.heap.size A := by
  have h := World.rowIs_alloc w A T (fun j => A.getD j undef) (fun j hj => by
    simp only [Array.getD_eq_getD_getElem?]
    rw [Array.getElem?_eq_getElem hj]; rfl)
  refine ⟨fun j v hv => ?_, fun j hj => ?_, h0⟩
  · have hj : j < A.size := by simpa using (List.getElem?_eq_some_iff.1 hv).1
    rw [Nat.zero_add, World.rowIs.cell h hj]
    simp only [Array.getElem?_toList] at hv
    simp only [Array.getD_eq_getD_getElem?, hv]; rfl
  · rw [Nat.zero_add]
    exact ⟨by rw [World.rowIs.cell h hj]; rfl, World.rowIs.frozen h j⟩
theorem kept {S : Nat → Prop} (h : ArrAt W b A) (k : Keeps S W W') (hS : ¬ S b) : ArrAt W' b A := by
  have e := k.block b h.lt hS
  refine ⟨fun j v hv => ?_, fun j hj => ?_, h.pos⟩
  · rw [World.cell?_of_block (w := W) (a := ⟨b, 0 + j, none⟩) e]; exact h.rng j v hv
  · rw [World.cell?_of_block (w := W) (a := ⟨b, 0 + j, none⟩) e, World.frozen?_of_block (w := W) (a := ⟨b, 0 + j, none⟩) e]; exact h.th j hj
theorem below (h : ArrAt W b A) (k : Below W.heap.size W W') : ArrAt W' b A := h.kept (Keeps.of_below (S := fun _ => False) k) (fun e => e)
theorem alloc (h : ArrAt W b A) (o : Obj) : ArrAt (W.alloc o) b A := h.kept (S := fun _ => False) ((Keeps.refl _ _).alloc o) (fun e => e)
theorem drew (h : ArrAt W b A) : ArrAt W.drew b A := h.kept (S := fun _ => False) (Keeps.refl _ _).drew (fun e => e)
theorem store (h : ArrAt W b A) (A' : Array Value) (hs : A'.size = A.size) : ArrAt (W.setCells b 0 A'.toList) b A' :=
  ⟨World.rangeAt_setCells_same _ _ _ _ (by simp [hs]; exact h.th), by rw [hs]; exact World.there_setCells h.th _ _ _, by rw [hs]; exact h.pos⟩
theorem set (h : ArrAt W b A) (i : Nat) (v : Value) (hi : i < A.size) : ArrAt (W.setCell ⟨b, i, none⟩ v) b (A.setIfInBounds i v) := by
  have hw := h.cell (i := i) (Array.getElem?_eq_getElem hi)
  refine ⟨fun j u hu => ?_, fun j hj => ?_, by simpa using h.pos⟩
  · simp only [Array.toList_setIfInBounds, Nat.zero_add] at hu ⊢
    rw [List.getElem?_set] at hu
    by_cases e : i = j
    · subst e
      rw [if_pos rfl, if_pos (by simpa using hi)] at hu
      cases hu
      exact World.cell?_setCell_same _ _ _ hw
    · rw [if_neg e] at hu
      rw [World.cell?_setCell_other _ _ _ _ (by simp)]
      have := h.rng j u hu
      rwa [Nat.zero_add] at this
  · have hj' : j < A.size := by simpa using hj
    obtain ⟨h1, h2⟩ := h.th j hj'
    refine ⟨?_, ?_⟩
    · have := World.isSome_setCells b [v] i W ⟨b, 0 + j, none⟩ h1
      exact this
    · have := World.frozen?_setCells b [v] i W ⟨b, 0 + j, none⟩
      exact this.trans h2
theorem loadVar {P : Program} (h : ArrAt W b A) {T : TypeId} {d : TypeDesc} (hu : P.underlying T = some d) (hd : d.isRow = true) (hi : (P.info? T).map (·.size) = some A.size) :
    (loadVar T ⟨b, 0, none⟩).run P W = .ok (.agg A) W := by
  have := run_loadVar_mid (P := P) W b 0 T A.toList d h.rng hu hd (by simpa using hi)
  simpa using this
theorem loadAt {P : Program} (h : ArrAt W b A) {T : TypeId} {d : TypeDesc} (hu : P.underlying T = some d) (hd : d.isRow = true) (hi : (P.info? T).map (·.size) = some A.size) :
    (Instr.loadAt T (.pointer (some ⟨b, 0, none⟩))).run P W = .ok (.agg A) W := by
  have := run_loadAt_mid (P := P) W b 0 T A.toList d h.rng hu hd (by simpa using hi)
  simpa using this
end ArrAt

theorem Keeps.store {S : Nat → Prop} {a w : World} {b : Nat} (h : Keeps S a w) (hb : b < a.heap.size → S b) : ∀ (vs : List Value) (o : Nat), Keeps S a (w.setCells b o vs) := by
  intro vs
  induction vs generalizing w with
  | nil => intro o; exact h
  | cons v r ih => intro o; exact ih (h.setCell (p := ⟨b, o, none⟩) hb v) (o + 1)
theorem bstore {B : Nat} {a b : World} (h : Below B a b) (g : Nat) (hg : B ≤ g) : ∀ (vs : List Value) (o : Nat), Below B a (b.setCells g o vs) := by
  intro vs
  induction vs generalizing b with
  | nil => intro o; exact h
  | cons v r ih => intro o; exact ih (h.setCell (p := ⟨g, o, none⟩) hg v) (o + 1)

section
variable {P : Program} {ops : Array Oper} {Q : Exit → Act → World → Prop} {a : Act} {w : World} {rest : List Oper} {o : Oper}
/-- The load of an array that lies whole. -/
theorem wpList_loadA (hgd : o.guard = none) {b : Nat} {A : Array Value} (H : ArrAt w b A) (ty : TypeId) (x : Operand) (ho : o.op = .load ty x) (hx : a.eval x = .pointer (some ⟨b, 0, none⟩)) {d : TypeDesc}
    (hu : P.underlying ty = some d) (hd : d.isRow = true) (hi : (P.info? ty).map (·.size) = some A.size) (h : wpList P ops Q rest (a.put o.dst (.agg A)) w) : wpList P ops Q (o :: rest) a w :=
  wpList_load_mid hgd ty x ho b 0 hx A.toList d H.rng hu hd (by simpa using hi) (by simpa using h)
/-- The store of an array over one that lies whole. -/
theorem wpList_storeA (hgd : o.guard = none) {b : Nat} {A A' : Array Value} (H : ArrAt w b A) (ty : TypeId) (x y : Operand) (ho : o.op = .store ty x y) (hx : a.eval x = .pointer (some ⟨b, 0, none⟩)) (hy : a.eval y = .agg A')
    (hi : (P.info? ty).map (·.size) = some A.size) (hs : A'.size = A.size) (h1 : A'.all (·.oneCell') = true) (h : wpList P ops Q rest (a.put o.dst undef) (w.setCells b 0 A'.toList)) : wpList P ops Q (o :: rest) a w :=
  wpList_store_mid hgd ty x y ho b 0 A' hx hy (by rw [hs]; exact H.th) (by rw [hs]; exact hi) h1 h
end

/-- In a region that draws its order: under an S that gives the range, the load of an array yields it. -/
theorem yieldsA {P : Program} {ops : Array Oper} {S : World → Prop} {op : Oper} {a : Act} (hw : Region.wanted op (yielded ops a.tmps) = true) (ty : TypeId) (x : Operand) (ho : op.op = .load ty x)
    (b : Nat) (hx : a.eval x = .pointer (some ⟨b, 0, none⟩)) (A : Array Value) {d : TypeDesc} (hS : ∀ w, S w → w.rangeAt b 0 A.toList) (hu : P.underlying ty = some d) (hd : d.isRow = true) (hi : (P.info? ty).map (·.size) = some A.size) :
    YieldsIf P ops S op (.agg A) a := by
  have := yieldsIf_load_mid (P := P) (ops := ops) (S := S) (op := op) (a := a) hw ty x ho b 0 hx A.toList d hS hu hd (by simpa using hi)
  rwa [Array.toArray_toList] at this

/-- As wpAnyH_take, the temporary named. -/
theorem takeD {P : Program} {md : Region.Mode} {ops : Array Oper} {Q : Exit → Act → World → Prop} {S : World → Prop} {i : Nat} {oi : Oper} {v : Value} {fuel : Nat} {listed : Array Bool} {a : Act} {w : World} (d : Tmp) (hi : ops[i]? = some oi) (hd : oi.dst = some d)
    (hs : Region.noSelect ops = true) (hf : Region.free md ops listed i = true) (hr : (Region.ready md ops listed).contains i = true)
    (hQ : ∀ c a w, Q (.panic c) (a.put oi.dst v) w → Q (.panic c) a w) (hy : YieldsIf P ops S oi v a) (hS : S w)
    (h : wpAnyH P md ops Q S fuel (listed.setIfInBounds i true) (a.put (some d) v) w) : wpAnyH P md ops Q S (fuel + 1) listed a w :=
  wpAnyH_take hi hs hf hr hQ hy hS (by rw [hd]; exact h)
/-- A store of an array in such a region. -/
theorem wp_storeN {P : Program} {op : Oper} {a : Act} {w : World} {K : Act → World → Prop} {Q : Exit → Act → World → Prop} (ty : TypeId) (x y : Operand) (ho : op.op = .store ty x y) (hd : op.dst = none)
    (b o : Nat) (cells : Array Value) (hx : a.eval x = .pointer (some ⟨b, o, none⟩)) (hy : a.eval y = .agg cells)
    (ht : w.there b o cells.size) (hi : (P.info? ty).map (·.size) = some cells.size) (h1 : cells.all (·.oneCell') = true)
    (h : K a (w.setCells b o cells.toList)) : op.wp P a w K Q :=
  wp_store_mid ty x y ho b o cells hx hy ht hi h1 (by rw [hd]; exact h)

/-- A new variable in such a region, its zero value known. -/
theorem wp_allocN {P : Program} {op : Oper} {a : Act} {w : World} {K : Act → World → Prop} {Q : Exit → Act → World → Prop} (t d : Nat) (ho : op.op = .alloc t) (hd : op.dst = some d) {v : Value} (hz : ∀ w, (zeroValue t).run P w = .ok v w) {A : Array Value} (hA : v.cells = A)
    (h : K (a.put (some d) (.pointer (some ⟨w.heap.size, 0, none⟩))) (w.alloc (.cells A t))) : op.wp P a w K Q := by
  unfold Oper.wp execOp
  simp only [ho, Instr.alloc]
  simp only [Sem.run_bind, hz, Result.andThen_ok]
  simp [go_sem]
  subst hA
  rw [hd]
  exact h
/-- The load of an array out of the middle of a block. -/
theorem wpList_loadR {P : Program} {ops : Array Oper} {Q : Exit → Act → World → Prop} {a : Act} {w : World} {rest : List Oper} {o : Oper} (hgd : o.guard = none) {b p : Nat} {A : Array Value} (H : w.rangeAt b p A.toList) (ty : TypeId) (x : Operand) (ho : o.op = .load ty x) (hx : a.eval x = .pointer (some ⟨b, p, none⟩)) {d : TypeDesc}
    (hu : P.underlying ty = some d) (hd : d.isRow = true) (hi : (P.info? ty).map (·.size) = some A.size) (h : wpList P ops Q rest (a.put o.dst (.agg A)) w) : wpList P ops Q (o :: rest) a w :=
  wpList_load_mid hgd ty x ho b p hx A.toList d H hu hd (by simpa using hi) (by simpa using h)
/-- In a region that draws its order: the load of an array out of the middle of a block. -/
theorem yieldsR {P : Program} {ops : Array Oper} {S : World → Prop} {op : Oper} {a : Act} (hw : Region.wanted op (yielded ops a.tmps) = true) (ty : TypeId) (x : Operand) (ho : op.op = .load ty x)
    (b p : Nat) (hx : a.eval x = .pointer (some ⟨b, p, none⟩)) (A : Array Value) {d : TypeDesc} (hS : ∀ w, S w → w.rangeAt b p A.toList) (hu : P.underlying ty = some d) (hd : d.isRow = true) (hi : (P.info? ty).map (·.size) = some A.size) :
    YieldsIf P ops S op (.agg A) a := by
  have := yieldsIf_load_mid (P := P) (ops := ops) (S := S) (op := op) (a := a) hw ty x ho b p hx A.toList d hS hu hd (by simpa using hi)
  rwa [Array.toArray_toList] at this

theorem results_tct {fn : Func} {p u x : Tmp} {ty : TypeId} (h : fn.results = #[.tmp x, .cell p ty, .tmp u]) (tmps : Array Value) (P : Program) (w : World) {b : Nat} {A : Array Value} (H : ArrAt w b A) {d : TypeDesc}
    (hp : tmps.getD p undef = .pointer (some ⟨b, 0, none⟩)) (hu : P.underlying ty = some d) (hd : d.isRow = true) (hi : (P.info? ty).map (·.size) = some A.size) :
    (results fn tmps).run P w = .ok (.tuple #[tmps.getD x undef, .agg A, tmps.getD u undef]) w := by
  simp only [results, h]
  simp only [Array.getD_eq_getD_getElem?] at hp
  simp [Result.andThen, hp, asAddr, H.loadVar hu hd hi]
theorem results_ct {fn : Func} {p u : Tmp} {ty : TypeId} (h : fn.results = #[.cell p ty, .tmp u]) (tmps : Array Value) (P : Program) (w : World) {b : Nat} {A : Array Value} (H : ArrAt w b A) {d : TypeDesc}
    (hp : tmps.getD p undef = .pointer (some ⟨b, 0, none⟩)) (hu : P.underlying ty = some d) (hd : d.isRow = true) (hi : (P.info? ty).map (·.size) = some A.size) :
    (results fn tmps).run P w = .ok (.tuple #[.agg A, tmps.getD u undef]) w := by
  simp only [results, h]
  simp only [Array.getD_eq_getD_getElem?] at hp
  simp [Result.andThen, hp, asAddr, H.loadVar hu hd hi]
theorem results_ctt {fn : Func} {p u x : Tmp} {ty : TypeId} (h : fn.results = #[.cell p ty, .tmp u, .tmp x]) (tmps : Array Value) (P : Program) (w : World) {b : Nat} {A : Array Value} (H : ArrAt w b A) {d : TypeDesc}
    (hp : tmps.getD p undef = .pointer (some ⟨b, 0, none⟩)) (hu : P.underlying ty = some d) (hd : d.isRow = true) (hi : (P.info? ty).map (·.size) = some A.size) :
    (results fn tmps).run P w = .ok (.tuple #[.agg A, tmps.getD u undef, tmps.getD x undef]) w := by
  simp only [results, h]
  simp only [Array.getD_eq_getD_getElem?] at hp
  simp [Result.andThen, hp, asAddr, H.loadVar hu hd hi]
theorem results_ctct {fn : Func} {p p2 u u2 : Tmp} {ty ty2 : TypeId} (h : fn.results = #[.cell p ty, .tmp u, .cell p2 ty2, .tmp u2]) (tmps : Array Value) (P : Program) (w : World) {b b2 : Nat} {A A2 : Array Value} (H : ArrAt w b A) (H2 : ArrAt w b2 A2) {d d2 : TypeDesc}
    (hp : tmps.getD p undef = .pointer (some ⟨b, 0, none⟩)) (hu : P.underlying ty = some d) (hd : d.isRow = true) (hi : (P.info? ty).map (·.size) = some A.size)
    (hp2 : tmps.getD p2 undef = .pointer (some ⟨b2, 0, none⟩)) (hu2 : P.underlying ty2 = some d2) (hd2 : d2.isRow = true) (hi2 : (P.info? ty2).map (·.size) = some A2.size) :
    (results fn tmps).run P w = .ok (.tuple #[.agg A, tmps.getD u undef, .agg A2, tmps.getD u2 undef]) w := by
  simp only [results, h]
  simp only [Array.getD_eq_getD_getElem?] at hp hp2
  simp [Sem.run_bind, Result.andThen, hp, hp2, asAddr, H.loadVar hu hd hi, H2.loadVar hu2 hd2 hi2]
theorem results_cctt {fn : Func} {p p2 u u2 : Tmp} {ty ty2 : TypeId} (h : fn.results = #[.cell p ty, .cell p2 ty2, .tmp u, .tmp u2]) (tmps : Array Value) (P : Program) (w : World) {b b2 : Nat} {A A2 : Array Value} (H : ArrAt w b A) (H2 : ArrAt w b2 A2) {d d2 : TypeDesc}
    (hp : tmps.getD p undef = .pointer (some ⟨b, 0, none⟩)) (hu : P.underlying ty = some d) (hd : d.isRow = true) (hi : (P.info? ty).map (·.size) = some A.size)
    (hp2 : tmps.getD p2 undef = .pointer (some ⟨b2, 0, none⟩)) (hu2 : P.underlying ty2 = some d2) (hd2 : d2.isRow = true) (hi2 : (P.info? ty2).map (·.size) = some A2.size) :
    (results fn tmps).run P w = .ok (.tuple #[.agg A, .agg A2, tmps.getD u undef, tmps.getD u2 undef]) w := by
  simp only [results, h]
  simp only [Array.getD_eq_getD_getElem?] at hp hp2
  simp [Sem.run_bind, Result.andThen, hp, hp2, asAddr, H.loadVar hu hd hi, H2.loadVar hu2 hd2 hi2]
theorem results_c {fn : Func} {p : Tmp} {ty : TypeId} (h : fn.results = #[.cell p ty]) (tmps : Array Value) (P : Program) (w : World) {b : Nat} {A : Array Value} (H : ArrAt w b A) {d : TypeDesc}
    (hp : tmps.getD p undef = .pointer (some ⟨b, 0, none⟩)) (hu : P.underlying ty = some d) (hd : d.isRow = true) (hi : (P.info? ty).map (·.size) = some A.size) :
    (results fn tmps).run P w = .ok (.agg A) w := by
  simp only [results, h]
  simp only [Array.getD_eq_getD_getElem?] at hp
  simp [hp, asAddr, H.loadVar hu hd hi]
end Go.Proofs.Ytiinjjfggmmkmaa
