/- A loop over an iterator, as the plain walk meets it. -/
import Derived.RangeFuncNested
import Derived.RangeFuncBound
import Derived.RangeFuncCalls
import Derived.RangeFuncLeaves
import Derived.Shelf.Abstract
import Derived.Shelf.RegionOpen
import Derived.OwnWalkIn
import Derived.TacticsInMore
import Derived.LoopNIn
import Derived.LoopIn
import Derived.Sort.QuietIn
import Derived.Deep.QuietTactic
import Derived.BigQuiet
import Derived.Test.YtfmabknhfehdcaaQN0
import Derived.Test.YtfmabknhfehdcaaQN1
import Derived.OrdersHeld
namespace Go.Proofs.Ytfmabknhfehdcaa
set_option linter.unusedVariables false
set_option linter.unusedSimpArgs false
open Go.RowKit Go.Shelf

/-- What a loop over an iterator does to memory by itself: new blocks; blocks from N on that are no cells. -/
structure Quiet (N : Nat) (A B : World) : Prop where
  os : B.os = A.os
  tape : B.tape = A.tape
  output : B.output = A.output
  size : A.heap.size ≤ B.heap.size
  cells : ∀ (k : Nat) (c : Array Value) (t : TypeId) (f : Nat × Nat), A.heap[k]? = some (Obj.cells c t f) → B.heap[k]? = some (Obj.cells c t f)
  old : ∀ k : Nat, k < N → k < A.heap.size → B.heap[k]? = A.heap[k]?

theorem own_of {β : Type} {N : Nat} {I : β → World → Prop} (h : ∀ s A B, I s A → Quiet N A B → I s B) : OwnFrom N I := fun s A B row hs hg hr =>
  h s A B hs ⟨hg.os, hg.tape, hg.output, hg.size,
    fun k c t f hk => (hg.block k (lt_of_block hk) (fun e => by
      obtain ⟨-, o, ho, hc⟩ := hr k e.symm
      rw [hk] at ho; cases ho; cases hc)).trans hk,
    fun k hk hk' => hg.block k hk' (fun e => by
      obtain ⟨h1, -⟩ := hr k e.symm
      omega)⟩

theorem Quiet.refl (N : Nat) (A : World) : Quiet N A A := ⟨rfl, rfl, rfl, Nat.le_refl _, fun _ _ _ _ h => h, fun _ _ _ => rfl⟩
theorem Quiet.alloc (N : Nat) (A : World) (o : Obj) : Quiet N A (A.alloc o) :=
  ⟨rfl, rfl, rfl, by simp, fun k c t f h => (Below.heap_alloc _ _ _ (lt_of_block h)).trans h, fun k _ h => Below.heap_alloc _ _ _ h⟩
theorem Quiet.rowIs {N : Nat} {A B : World} (h : Quiet N A B) {g : Nat} {t : TypeId} {n : Nat} {f : Nat → Value} (hr : A.rowIs g t n f) : B.rowIs g t n f := by
  obtain ⟨c, h1, h2⟩ := hr
  exact ⟨c, h.cells _ _ _ _ h1, h2⟩
theorem Quiet.cell {N : Nat} {A B : World} (h : Quiet N A B) {p : Addr} {v : Value} (hr : A.cell? p = some v) : B.cell? p = some v := by
  unfold World.cell? at hr ⊢
  cases hA : A.heap[p.block]? with
  | none => rw [hA] at hr; cases hr
  | some o =>
    cases o with
    | cells c t f => rw [h.cells _ _ _ _ hA]; rw [hA] at hr; exact hr
    | _ => rw [hA] at hr; cases hr
theorem Quiet.below {N : Nat} {A B w : World} (h : Quiet N A B) (hb : Below w.heap.size w A) (hN : w.heap.size ≤ N) : Below w.heap.size w B :=
  ⟨h.os.trans hb.os, h.tape.trans hb.tape, h.output.trans hb.output, Nat.le_trans hb.size h.size, fun k hk =>
    (h.old k (by omega) (by have := hb.size; omega)).trans (hb.block k hk)⟩
theorem Quiet.keeps {N : Nat} {S : Nat → Prop} {A B w : World} (h : Quiet N A B) (hb : Keeps S w A) (hN : w.heap.size ≤ N) : Keeps S w B :=
  ⟨h.os.trans hb.os, h.tape.trans hb.tape, h.output.trans hb.output, Nat.le_trans hb.size h.size, fun k hk hS =>
    (h.old k (by omega) (by have := hb.size; omega)).trans (hb.block k hk hS)⟩

theorem KeepsFrom.of_keeps {N : Nat} {S : Nat → Prop} {A B : World} (h : Keeps S A B) (hS : ∀ k, S k → k < N) : KeepsFrom N A B :=
  ⟨h.size, fun k o hk ho hc => (h.block k (lt_of_block ho) (fun s => by have := hS k s; omega)).trans ho⟩

theorem calls_marks {P : Program} {f : FuncId} {fn : Func} {c : Code} {args : Array Value} {w : World} {R : Ending → World → Prop}
    (hf : P.funcs[f]? = some fn) (hb : fn.body = some c)
    (h : c.wp P (bodyPostM Fence.wide 9 P fn R) { tmps := args ++ Array.replicate (fn.ntmps - args.size) undef, defers := [] } w) : Calls P f args w R :=
  callsIn_wide.1 (callsIn_of_wp_marks (n := 9) hf hb trivial (wpIn_wide.2 h) rfl)

theorem wp_range {P : Program} {α : Type} {g : Operand} {ps : Array Tmp} {assign body : Code} {Q : Exit → Act → World → Prop} {a : Act} {w : World}
    {gf : Nat} {lb : Array Value} (hg : a.eval g = .func (.func gf) #[] lb) (eg : ∀ args w, (callFunc gf args).run P w = .ok (.enter gf args) w)
    {encs : α → Array Value} {Kp : World → World → Prop} {S Sp : List α → Prop} {N : Nat} (hseq : SeqStopsK Fence.wide 8 P gf lb encs Kp S Sp N w)
    (hKt : ∀ {A B C : World}, Kp A B → Kp B C → Kp A C) (hKb : ∀ (W : World) (l : Nat) (o o' : Obj), w.heap.size ≤ l → W.heap[l]? = some o → o.isCells = false → o.isWalk = false → Kp W (W.putObj l o')) (hps : ∀ x, (encs x).size = ps.size)
    (I : List α → World → Prop) (Ix : Code → List α → World → Prop) (hI : OwnFrom w.heap.size I) (hIx : ∀ c, OwnFrom w.heap.size (Ix c)) (h0 : I [] w) (Ax : α → Act → World → Prop) (hAx : ∀ x a', OwnFrom w.heap.size (fun (_ : Unit) W => Ax x a' W))
    (hassign : ∀ (l : Nat) (pre : List α) (x : α) (W : World) (K : Act → World → Prop), I pre W → (∀ a' W', KeepsFrom w.heap.size W W' → Kp W W' → I pre W' → Ax x a' W' → K a' W') →
      assign.wpIn (Fence.wide.inRound l) 7 P (Exit.then K (fun _ _ _ => False)) { tmps := (ps.zip (encs x)).foldl (fun t (p, v) => t.setIfInBounds p v) a.tmps, defers := [] } W)
    (hbody : ∀ (l : Nat) (pre : List α) (x : α) (a' : Act) (W : World), w.heap.size ≤ l → (∃ r, W.heap[l]? = some (.loop r)) → I pre W → Ax x a' W → pre.length < N → body.wpIn (Fence.wide.inRound l) 7 P (ownPostG w.heap.size Kp I Ix (pre ++ [x]) W) a' W)
    (hdone : ∀ (D : Nat) (xs : List α) (W : World), w.heap.size ≤ D → S xs → I xs W → W.heap[D]? = some (.deferred (some [])) → Q .normal { a with defers := { target := .collected D, args := #[] } :: a.defers } W)
    (hstop : ∀ (D : Nat) (c : Code) (pre : List α) (W : World), w.heap.size ≤ D → Sp pre → Ix c pre W → W.heap[D]? = some (.deferred (some [])) → c.wp P Q { a with defers := { target := .collected D, args := #[] } :: a.defers } W) :
    (Code.rangeFunc g ps assign body).wp P Q a w :=
  (wpIn_wide (n := 9)).1 (wpIn_rangeFunc_ownH rfl (by omega) hg trivial eg hseq hKt hKb (Below.refl _ _) hps I Ix hI hIx h0 Ax hAx hassign hbody hdone
    (fun D c pre W h1 h2 h3 h4 => wpIn_wide.2 (hstop D c pre W h1 h2 h3 h4)))

/-! A region that draws its order, in a round: out of the plain walk's structure. -/

def noDefer (ops : Array Oper) : Bool := ops.all fun o => match o.op with | .defer _ => false | _ => true

theorem noDefer_at {ops : Array Oper} (h : noDefer ops = true) {i : Nat} {o : Oper} (ho : ops[i]? = some o) : ∀ c, o.op ≠ .defer c := by
  intro c hc
  unfold noDefer at h
  rw [Array.all_eq_true_iff_forall_mem] at h
  have := h o (Array.mem_of_getElem? ho)
  rw [hc] at this
  cases this

theorem operIn_round {P : Program} {o : Oper} {a : Act} {w : World} {K : Act → World → Prop} {Q : Exit → Act → World → Prop} (r n : Nat) (hd : ∀ c, o.op ≠ .defer c)
    (h : o.wp P a w K Q) : o.wpIn (Fence.wide.inRound r) n P a w K Q := by
  refine ⟨fun _ _ => trivial, ?_⟩
  unfold Oper.wp at h
  rw [Fence.inRound_round, Oper.semAt_eq _ _ _ hd]
  cases hr : (execOp a.eval o).run P w with
  | ok x w' =>
    rw [hr] at h
    cases x <;> first
      | exact h
      | exact h.elim
      | exact ⟨fun hs => (by cases hs), callsIn_wide.2 h⟩
      | exact ⟨fun hs => (by cases hs), fun c cs _ => let ⟨v, w', q, s⟩ := h c cs; ⟨v, w', q, stepsIn_wide.2 s⟩⟩
  | halt x w' =>
    rw [hr] at h
    cases x <;> first
      | exact h
      | exact h.elim

theorem wpOpsIn_round {P : Program} {ops : Array Oper} {Q : Exit → Act → World → Prop} (r n : Nat) (hnd : noDefer ops = true) (hQ : ¬ LetsOut Q) :
    ∀ (l : List Nat) (a : Act) (w : World), wpOps P ops Q l a w → wpOpsIn (Fence.wide.inRound r) n P ops Q l a w := by
  intro l
  induction l with
  | nil => intro a w h; exact h
  | cons i rest ih =>
    intro a w h
    simp only [wpOps] at h
    simp only [wpOpsIn]
    cases ho : ops[i]? with
    | none => rw [ho] at h; exact ih _ _ h
    | some o =>
      rw [ho] at h
      simp only at h ⊢
      split
      · rename_i hw
        rw [if_pos hw] at h
        rcases h with h | h
        · exact Oper.wpIn_mono ih (operIn_round r n (noDefer_at hnd ho) h)
        · exact absurd h.2 hQ
      · rename_i hw
        rw [if_neg hw] at h
        exact ⟨fun _ _ => trivial, ih _ _ h⟩

theorem wpIn_region_any_round {P : Program} {ops : Array Oper} {Q : Exit → Act → World → Prop} {r n id : Nat} {a : Act} {w : World} (hm : P.follows .mixedOrders = true) (hnd : noDefer ops = true) (hQ : ¬ LetsOut Q)
    (h : wpAny P .any ops Q ops.size (Array.replicate ops.size false) a { w with drawn := w.drawn + 1 }) : (Code.region id ops true).wpIn (Fence.wide.inRound r) n P Q a w :=
  wpIn_region_draw fun t => by
    simp only [Region.schedule, hm, Bool.true_or, if_true]
    exact wpOpsIn_round r n hnd hQ _ _ _ (wpAny_sound ops.size t _ a _ h)

/-- One walk in the order of the text, in a round. -/
theorem wpIn_quiet_round {P : Program} {r n id : Nat} {Q : Exit → Act → World → Prop} {a : Act} {w : World} {l : List Oper} (hm : P.follows .mixedOrders = true) (hnd : noDefer l.toArray = true) (hB : Region.lexB .any l.toArray = true) (hQ : ¬ LetsOut Q)
    (h : wpQuiet P l.toArray (fun w' => ∃ n, w' = w.drewN n) (fun a' => ∀ w', (∃ n, w' = w.drewN n) → Q .normal a' w') l a) : (Code.region id l.toArray true).wpIn (Fence.wide.inRound r) n P Q a w := by
  simp only [Region.lexB, Bool.and_eq_true] at hB
  refine wpIn_region_any_round hm hnd hQ (wpAny_of_quiet (C := fun w' => ∃ n, w' = w.drewN n) (Q := fun a' => ∀ w', (∃ n, w' = w.drewN n) → Q .normal a' w') (fun _ w' hw' h => h w' hw') _ _ _ _ ⟨1, rfl⟩ ?_)
  have := wpAnyQ_lex (C := fun w' => ∃ n, w' = w.drewN n) (md := .any) hB.1 l 0 (Array.replicate l.toArray.size false) a (by simp) (by simpa using hB.2) h
  simpa using this

end Go.Proofs.Ytfmabknhfehdcaa

namespace Go.Proofs.Ytfmabknhfehdcaa
open Go.RowKit

theorem size_setCells (b : Nat) : ∀ (vs : List Value) (o : Nat) (w : World), (w.setCells b o vs).heap.size = w.heap.size
  | [], _, _ => rfl
  | v :: r, o, w => by rw [World.setCells, size_setCells b r]; simp

theorem there_set {w : World} {b o n : Nat} (h : w.there b o n) (c i : Nat) (v : Value) : (w.setCell ⟨c, i, none⟩ v).there b o n := World.there_setCells h c i [v]

/-- An array (or a struct) lies whole in block b and may be written. -/
structure ArrAt (W : World) (b : Nat) (A : Array Value) : Prop where
  rng : W.rangeAt b 0 A.toList
  th : W.there b 0 A.size
  pos : 0 < A.size
namespace ArrAt
variable {W W' : World} {b : Nat} {A A' : Array Value}
theorem cell (h : ArrAt W b A) {i : Nat} {v : Value} (hv : A[i]? = some v) : W.cell? ⟨b, i, none⟩ = some v := by
  have := h.rng i v (by simpa using hv)
  rwa [Nat.zero_add] at this
theorem frozen (h : ArrAt W b A) {i : Nat} (hi : i < A.size) : W.frozen? ⟨b, i, none⟩ = false := by
  have := (h.th i hi).2
  rwa [Nat.zero_add] at this
theorem lt (h : ArrAt W b A) : b < W.heap.size := World.block_lt_of_cell? W ⟨b, 0, none⟩ (h.cell (i := 0) (Array.getElem?_eq_getElem h.pos))
theorem fresh (w : World) (A : Array Value) (T : TypeId) (h0 : 0 < A.size) : ArrAt (w.alloc (.cells A T)) w.heap.size A := by
  have h := World.rowIs_alloc w A T (fun j => A.getD j undef) (fun j hj => by
    simp only [Array.getD_eq_getD_getElem?]
    rw [Array.getElem?_eq_getElem hj]; rfl)
  refine ⟨fun j v hv => ?_, fun j hj => ?_, h0⟩
  · have hj : j < A.size := by simpa using (List.getElem?_eq_some_iff.1 hv).1
    rw [Nat.zero_add, World.rowIs.cell h hj]
    simp only [Array.getElem?_toList] at hv
    simp only [Array.getD_eq_getD_getElem?, hv]; rfl
  · rw [Nat.zero_add]
    exact ⟨by rw [World.rowIs.cell h hj]; rfl, World.rowIs.frozen h j⟩
theorem kept {S : Nat → Prop} (h : ArrAt W b A) (k : Keeps S W W') (hS : ¬ S b) : ArrAt W' b A := by
  have e := k.block b h.lt hS
  refine ⟨fun j v hv => ?_, fun j hj => ?_, h.pos⟩
  · rw [World.cell?_of_block (w := W) (a := ⟨b, 0 + j, none⟩) e]; exact h.rng j v hv
  · rw [World.cell?_of_block (w := W) (a := ⟨b, 0 + j, none⟩) e, World.frozen?_of_block (w := W) (a := ⟨b, 0 + j, none⟩) e]; exact h.th j hj
theorem below (h : ArrAt W b A) (k : Below W.heap.size W W') : ArrAt W' b A := h.kept (Keeps.of_below (S := fun _ => False) k) (fun e => e)
theorem alloc (h : ArrAt W b A) (o : Obj) : ArrAt (W.alloc o) b A := h.kept (S := fun _ => False) ((Keeps.refl _ _).alloc o) (fun e => e)
theorem drew (h : ArrAt W b A) : ArrAt W.drew b A := h.kept (S := fun _ => False) (Keeps.refl _ _).drew (fun e => e)
theorem store (h : ArrAt W b A) (A' : Array Value) (hs : A'.size = A.size) : ArrAt (W.setCells b 0 A'.toList) b A' :=
  ⟨World.rangeAt_setCells_same _ _ _ _ (by simp [hs]; exact h.th), by rw [hs]; exact World.there_setCells h.th _ _ _, by rw [hs]; exact h.pos⟩
theorem set (h : ArrAt W b A) (i : Nat) (v : Value) (hi : i < A.size) : ArrAt (W.setCell ⟨b, i, none⟩ v) b (A.setIfInBounds i v) := by
  have hw := h.cell (i := i) (Array.getElem?_eq_getElem hi)
  refine ⟨fun j u hu => ?_, fun j hj => ?_, by simpa using h.pos⟩
  · simp only [Array.toList_setIfInBounds, Nat.zero_add] at hu ⊢
    rw [List.getElem?_set] at hu
    by_cases e : i = j
    · subst e
      rw [if_pos rfl, if_pos (by simpa using hi)] at hu
      cases hu
      exact World.cell?_setCell_same _ _ _ hw
    · rw [if_neg e] at hu
      rw [World.cell?_setCell_other _ _ _ _ (by simp)]
      have := h.rng j u hu
      rwa [Nat.zero_add] at this
  · have hj' : j < A.size := by simpa using hj
    obtain ⟨h1, h2⟩ := h.th j hj'
    refine ⟨?_, ?_⟩
    · have := World.isSome_setCells b [v] i W ⟨b, 0 + j, none⟩ h1
      exact this
    · have := World.frozen?_setCells b [v] i W ⟨b, 0 + j, none⟩
      exact this.trans h2
theorem loadVar {P : Program} (h : ArrAt W b A) {T : TypeId} {d : TypeDesc} (hu : P.underlying T = some d) (hd : d.isRow = true) (hi : (P.info? T).map (·.size) = some A.size) :
    (loadVar T ⟨b, 0, none⟩).run P W = .ok (.agg A) W := by
  have := run_loadVar_mid (P := P) W b 0 T A.toList d h.rng hu hd (by simpa using hi)
  simpa using this
theorem loadAt {P : Program} (h : ArrAt W b A) {T : TypeId} {d : TypeDesc} (hu : P.underlying T = some d) (hd : d.isRow = true) (hi : (P.info? T).map (·.size) = some A.size) :
    (Instr.loadAt T (.pointer (some ⟨b, 0, none⟩))).run P W = .ok (.agg A) W := by
  have := run_loadAt_mid (P := P) W b 0 T A.toList d h.rng hu hd (by simpa using hi)
  simpa using this
end ArrAt

theorem Keeps.store {S : Nat → Prop} {a w : World} {b : Nat} (h : Keeps S a w) (hb : b < a.heap.size → S b) : ∀ (vs : List Value) (o : Nat), Keeps S a (w.setCells b o vs) := by
  intro vs
  induction vs generalizing w with
  | nil => intro o; exact h
  | cons v r ih => intro o; exact ih (h.setCell (p := ⟨b, o, none⟩) hb v) (o + 1)
theorem bstore {B : Nat} {a b : World} (h : Below B a b) (g : Nat) (hg : B ≤ g) : ∀ (vs : List Value) (o : Nat), Below B a (b.setCells g o vs) := by
  intro vs
  induction vs generalizing b with
  | nil => intro o; exact h
  | cons v r ih => intro o; exact ih (h.setCell (p := ⟨g, o, none⟩) hg v) (o + 1)

section
variable {P : Program} {ops : Array Oper} {Q : Exit → Act → World → Prop} {a : Act} {w : World} {rest : List Oper} {o : Oper}
/-- The load of an array that lies whole. -/
theorem wpList_loadA (hgd : o.guard = none) {b : Nat} {A : Array Value} (H : ArrAt w b A) (ty : TypeId) (x : Operand) (ho : o.op = .load ty x) (hx : a.eval x = .pointer (some ⟨b, 0, none⟩)) {d : TypeDesc}
    (hu : P.underlying ty = some d) (hd : d.isRow = true) (hi : (P.info? ty).map (·.size) = some A.size) (h : wpList P ops Q rest (a.put o.dst (.agg A)) w) : wpList P ops Q (o :: rest) a w :=
  wpList_load_mid hgd ty x ho b 0 hx A.toList d H.rng hu hd (by simpa using hi) (by simpa using h)
/-- The store of an array over one that lies whole. -/
theorem wpList_storeA (hgd : o.guard = none) {b : Nat} {A A' : Array Value} (H : ArrAt w b A) (ty : TypeId) (x y : Operand) (ho : o.op = .store ty x y) (hx : a.eval x = .pointer (some ⟨b, 0, none⟩)) (hy : a.eval y = .agg A')
    (hi : (P.info? ty).map (·.size) = some A.size) (hs : A'.size = A.size) (h1 : A'.all (·.oneCell') = true) (h : wpList P ops Q rest (a.put o.dst undef) (w.setCells b 0 A'.toList)) : wpList P ops Q (o :: rest) a w :=
  wpList_store_mid hgd ty x y ho b 0 A' hx hy (by rw [hs]; exact H.th) (by rw [hs]; exact hi) h1 h
end

/-- In a region that draws its order: under an S that gives the range, the load of an array yields it. -/
theorem yieldsA {P : Program} {ops : Array Oper} {S : World → Prop} {op : Oper} {a : Act} (hw : Region.wanted op (yielded ops a.tmps) = true) (ty : TypeId) (x : Operand) (ho : op.op = .load ty x)
    (b : Nat) (hx : a.eval x = .pointer (some ⟨b, 0, none⟩)) (A : Array Value) {d : TypeDesc} (hS : ∀ w, S w → w.rangeAt b 0 A.toList) (hu : P.underlying ty = some d) (hd : d.isRow = true) (hi : (P.info? ty).map (·.size) = some A.size) :
    YieldsIf P ops S op (.agg A) a := by
  have := yieldsIf_load_mid (P := P) (ops := ops) (S := S) (op := op) (a := a) hw ty x ho b 0 hx A.toList d hS hu hd (by simpa using hi)
  rwa [Array.toArray_toList] at this

/-- As wpAnyH_take, the temporary named. -/
theorem takeD {P : Program} {md : Region.Mode} {ops : Array Oper} {Q : Exit → Act → World → Prop} {S : World → Prop} {i : Nat} {oi : Oper} {v : Value} {fuel : Nat} {listed : Array Bool} {a : Act} {w : World} (d : Tmp) (hi : ops[i]? = some oi) (hd : oi.dst = some d)
    (hs : Region.noSelect ops = true) (hf : Region.free md ops listed i = true) (hr : (Region.ready md ops listed).contains i = true)
    (hQ : ∀ c a w, Q (.panic c) (a.put oi.dst v) w → Q (.panic c) a w) (hy : YieldsIf P ops S oi v a) (hS : S w)
    (h : wpAnyH P md ops Q S fuel (listed.setIfInBounds i true) (a.put (some d) v) w) : wpAnyH P md ops Q S (fuel + 1) listed a w :=
  wpAnyH_take hi hs hf hr hQ hy hS (by rw [hd]; exact h)
/-- A store of an array in such a region. -/
theorem wp_storeN {P : Program} {op : Oper} {a : Act} {w : World} {K : Act → World → Prop} {Q : Exit → Act → World → Prop} (ty : TypeId) (x y : Operand) (ho : op.op = .store ty x y) (hd : op.dst = none)
    (b o : Nat) (cells : Array Value) (hx : a.eval x = .pointer (some ⟨b, o, none⟩)) (hy : a.eval y = .agg cells)
    (ht : w.there b o cells.size) (hi : (P.info? ty).map (·.size) = some cells.size) (h1 : cells.all (·.oneCell') = true)
    (h : K a (w.setCells b o cells.toList)) : op.wp P a w K Q :=
  wp_store_mid ty x y ho b o cells hx hy ht hi h1 (by rw [hd]; exact h)

/-- A new variable in such a region, its zero value known. -/
theorem wp_allocN {P : Program} {op : Oper} {a : Act} {w : World} {K : Act → World → Prop} {Q : Exit → Act → World → Prop} (t d : Nat) (ho : op.op = .alloc t) (hd : op.dst = some d) {v : Value} (hz : ∀ w, (zeroValue t).run P w = .ok v w) {A : Array Value} (hA : v.cells = A)
    (h : K (a.put (some d) (.pointer (some ⟨w.heap.size, 0, none⟩))) (w.alloc (.cells A t))) : op.wp P a w K Q := by
  unfold Oper.wp execOp
  simp only [ho, Instr.alloc]
  simp only [Sem.run_bind, hz, Result.andThen_ok]
  simp [go_sem]
  subst hA
  rw [hd]
  exact h
/-- The load of an array out of the middle of a block. -/
theorem wpList_loadR {P : Program} {ops : Array Oper} {Q : Exit → Act → World → Prop} {a : Act} {w : World} {rest : List Oper} {o : Oper} (hgd : o.guard = none) {b p : Nat} {A : Array Value} (H : w.rangeAt b p A.toList) (ty : TypeId) (x : Operand) (ho : o.op = .load ty x) (hx : a.eval x = .pointer (some ⟨b, p, none⟩)) {d : TypeDesc}
    (hu : P.underlying ty = some d) (hd : d.isRow = true) (hi : (P.info? ty).map (·.size) = some A.size) (h : wpList P ops Q rest (a.put o.dst (.agg A)) w) : wpList P ops Q (o :: rest) a w :=
  wpList_load_mid hgd ty x ho b p hx A.toList d H hu hd (by simpa using hi) (by simpa using h)
/-- In a region that draws its order: the load of an array out of the middle of a block. -/
theorem yieldsR {P : Program} {ops : Array Oper} {S : World → Prop} {op : Oper} {a : Act} (hw : Region.wanted op (yielded ops a.tmps) = true) (ty : TypeId) (x : Operand) (ho : op.op = .load ty x)
    (b p : Nat) (hx : a.eval x = .pointer (some ⟨b, p, none⟩)) (A : Array Value) {d : TypeDesc} (hS : ∀ w, S w → w.rangeAt b p A.toList) (hu : P.underlying ty = some d) (hd : d.isRow = true) (hi : (P.info? ty).map (·.size) = some A.size) :
    YieldsIf P ops S op (.agg A) a := by
  have := yieldsIf_load_mid (P := P) (ops := ops) (S := S) (op := op) (a := a) hw ty x ho b p hx A.toList d hS hu hd (by simpa using hi)
  rwa [Array.toArray_toList] at this

theorem results_tct {fn : Func} {p u x : Tmp} {ty : TypeId} (h : fn.results = #[.tmp x, .cell p ty, .tmp u]) (tmps : Array Value) (P : Program) (w : World) {b : Nat} {A : Array Value} (H : ArrAt w b A) {d : TypeDesc}
    (hp : tmps.getD p undef = .pointer (some ⟨b, 0, none⟩)) (hu : P.underlying ty = some d) (hd : d.isRow = true) (hi : (P.info? ty).map (·.size) = some A.size) :
    (results fn tmps).run P w = .ok (.tuple #[tmps.getD x undef, .agg A, tmps.getD u undef]) w := by
  simp only [results, h]
  simp only [Array.getD_eq_getD_getElem?] at hp
  simp [Result.andThen, hp, asAddr, H.loadVar hu hd hi]
theorem results_ct {fn : Func} {p u : Tmp} {ty : TypeId} (h : fn.results = #[.cell p ty, .tmp u]) (tmps : Array Value) (P : Program) (w : World) {b : Nat} {A : Array Value} (H : ArrAt w b A) {d : TypeDesc}
    (hp : tmps.getD p undef = .pointer (some ⟨b, 0, none⟩)) (hu : P.underlying ty = some d) (hd : d.isRow = true) (hi : (P.info? ty).map (·.size) = some A.size) :
    (results fn tmps).run P w = .ok (.tuple #[.agg A, tmps.getD u undef]) w := by
  simp only [results, h]
  simp only [Array.getD_eq_getD_getElem?] at hp
  simp [Result.andThen, hp, asAddr, H.loadVar hu hd hi]
theorem results_ctt {fn : Func} {p u x : Tmp} {ty : TypeId} (h : fn.results = #[.cell p ty, .tmp u, .tmp x]) (tmps : Array Value) (P : Program) (w : World) {b : Nat} {A : Array Value} (H : ArrAt w b A) {d : TypeDesc}
    (hp : tmps.getD p undef = .pointer (some ⟨b, 0, none⟩)) (hu : P.underlying ty = some d) (hd : d.isRow = true) (hi : (P.info? ty).map (·.size) = some A.size) :
    (results fn tmps).run P w = .ok (.tuple #[.agg A, tmps.getD u undef, tmps.getD x undef]) w := by
  simp only [results, h]
  simp only [Array.getD_eq_getD_getElem?] at hp
  simp [Result.andThen, hp, asAddr, H.loadVar hu hd hi]
theorem results_ctct {fn : Func} {p p2 u u2 : Tmp} {ty ty2 : TypeId} (h : fn.results = #[.cell p ty, .tmp u, .cell p2 ty2, .tmp u2]) (tmps : Array Value) (P : Program) (w : World) {b b2 : Nat} {A A2 : Array Value} (H : ArrAt w b A) (H2 : ArrAt w b2 A2) {d d2 : TypeDesc}
    (hp : tmps.getD p undef = .pointer (some ⟨b, 0, none⟩)) (hu : P.underlying ty = some d) (hd : d.isRow = true) (hi : (P.info? ty).map (·.size) = some A.size)
    (hp2 : tmps.getD p2 undef = .pointer (some ⟨b2, 0, none⟩)) (hu2 : P.underlying ty2 = some d2) (hd2 : d2.isRow = true) (hi2 : (P.info? ty2).map (·.size) = some A2.size) :
    (results fn tmps).run P w = .ok (.tuple #[.agg A, tmps.getD u undef, .agg A2, tmps.getD u2 undef]) w := by
  simp only [results, h]
  simp only [Array.getD_eq_getD_getElem?] at hp hp2
  simp [Sem.run_bind, Result.andThen, hp, hp2, asAddr, H.loadVar hu hd hi, H2.loadVar hu2 hd2 hi2]
theorem results_cctt {fn : Func} {p p2 u u2 : Tmp} {ty ty2 : TypeId} (h : fn.results = #[.cell p ty, .cell p2 ty2, .tmp u, .tmp u2]) (tmps : Array Value) (P : Program) (w : World) {b b2 : Nat} {A A2 : Array Value} (H : ArrAt w b A) (H2 : ArrAt w b2 A2) {d d2 : TypeDesc}
    (hp : tmps.getD p undef = .pointer (some ⟨b, 0, none⟩)) (hu : P.underlying ty = some d) (hd : d.isRow = true) (hi : (P.info? ty).map (·.size) = some A.size)
    (hp2 : tmps.getD p2 undef = .pointer (some ⟨b2, 0, none⟩)) (hu2 : P.underlying ty2 = some d2) (hd2 : d2.isRow = true) (hi2 : (P.info? ty2).map (·.size) = some A2.size) :
    (results fn tmps).run P w = .ok (.tuple #[.agg A, .agg A2, tmps.getD u undef, tmps.getD u2 undef]) w := by
  simp only [results, h]
  simp only [Array.getD_eq_getD_getElem?] at hp hp2
  simp [Sem.run_bind, Result.andThen, hp, hp2, asAddr, H.loadVar hu hd hi, H2.loadVar hu2 hd2 hi2]
theorem results_c {fn : Func} {p : Tmp} {ty : TypeId} (h : fn.results = #[.cell p ty]) (tmps : Array Value) (P : Program) (w : World) {b : Nat} {A : Array Value} (H : ArrAt w b A) {d : TypeDesc}
    (hp : tmps.getD p undef = .pointer (some ⟨b, 0, none⟩)) (hu : P.underlying ty = some d) (hd : d.isRow = true) (hi : (P.info? ty).map (·.size) = some A.size) :
    (results fn tmps).run P w = .ok (.agg A) w := by
  simp only [results, h]
  simp only [Array.getD_eq_getD_getElem?] at hp
  simp [hp, asAddr, H.loadVar hu hd hi]
end Go.Proofs.Ytfmabknhfehdcaa
