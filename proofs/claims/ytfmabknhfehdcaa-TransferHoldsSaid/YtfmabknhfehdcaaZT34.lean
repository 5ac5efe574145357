/- sgl: what the examples of the chapter need: operations under guards, lists made on the spot. -/
import Derived.Test.YtfmabknhfehdcaaZT33
import Derived.Test.YtfmabknhfehdcaaZT28
import Derived.Test.YtfmabknhfehdcaaZT15
import Derived.Test.YtfmabknhfehdcaaZT10
namespace Go.Proofs.Ytfmabknhfehdcaa
set_option linter.unusedVariables false
set_option linter.unusedSimpArgs false
open Go.RowKit

section
variable {P : Program} {ops : Array Oper} {Q : Exit → Act → World → Prop} {a : Act} {w : World} {rest : List Oper} {o : Oper}
/-- An operation whose value is known, under a guard that holds. -/
theorem wpList_valG (hw : Region.wanted o (yielded ops a.tmps) = true) {v : Value} (he : (execOp a.eval o).run P w = .ok (.value v) w) (h : wpList P ops Q rest (a.put o.dst v) w) : wpList P ops Q (o :: rest) a w :=
  wpList_step fun K hK => by
    rw [if_pos hw]
    unfold Oper.wp
    rw [he]
    exact hK _ _ h
theorem wpList_loadAG (hw : Region.wanted o (yielded ops a.tmps) = true) {b : Nat} {A : Array Value} (H : ArrAt w b A) (ty : TypeId) (x : Operand) (ho : o.op = .load ty x) (hx : a.eval x = .pointer (some ⟨b, 0, none⟩)) {d : TypeDesc}
    (hu : P.underlying ty = some d) (hd : d.isRow = true) (hi : (P.info? ty).map (·.size) = some A.size) (h : wpList P ops Q rest (a.put o.dst (.agg A)) w) : wpList P ops Q (o :: rest) a w :=
  wpList_load_midG hw ty x ho b 0 hx A.toList d H.rng hu hd (by simpa using hi) (by simpa using h)
end

/-- the cells of descriptors -/
def dCs : List Dsc → List Value
  | [] => []
  | d :: r => d.cells.toList ++ dCs r
theorem bytes_lst (l : Nat → Dsc) : Bytes (lstB l) := fun i => by
  unfold lstB
  split
  · exact byteOf_bd _ _
  · exact byteOf_bd _ _

/-- the descriptors of the examples -/
def wkL : List Dsc := [⟨1, 1000, 8, 0⟩, ⟨2, 0, 4, 0⟩, ⟨1, 2000, 8, 0⟩]
end Go.Proofs.Ytfmabknhfehdcaa

namespace Go.Proofs.Ytfmabknhfehdcaa
open Go.RowKit

theorem exec_eql {P : Program} {o : Oper} {a : Act} {w : World} (t : TypeId) (x y : Operand) (rt : TypeId) (ho : o.op = .binOp .eql t x y rt) (v0 v1 : Value) (hx : a.eval x = v0) (hy : a.eval y = v1)
    (hg : (eqGuard .eql t x y v0 v1).run P w = .ok () w) {v : Value} (hb : (binOp .eql t v0 v1).run P w = .ok v w) : (execOp a.eval o).run P w = .ok (.value v) w := by
  unfold execOp
  simp only [ho, hx, hy]
  simp only [Sem.run_bind, hg, hb, Result.andThen_ok, Sem.run_pure]
/-- The examples so far: nothing older is touched, the memory is there. -/
structure sWk (w : World) (b B : Nat) (f : Nat → Int) (L : List (Nat × Nat)) (S : List (Nat × Array Value)) (W : World) : Prop where
  below : Below w.heap.size w W
  mem : MemAt W b B 4096 f L
  arr : ∀ x ∈ S, ArrAt W x.1 x.2
theorem sWk.go {w : World} {b B : Nat} {f : Nat → Int} {L : List (Nat × Nat)} {S : List (Nat × Array Value)} {W W' : World} (h : sWk w b B f L S W) (hb : Below W.heap.size W W') : sWk w b B f L S W' := ⟨h.below.trans (hb.mono h.below.size), h.mem.below hb, fun x hx => (h.arr x hx).below hb⟩
theorem sWk.add {w : World} {b B : Nat} {f : Nat → Int} {L : List (Nat × Nat)} {S : List (Nat × Array Value)} {W : World} (h : sWk w b B f L S W) {g : Nat} {A : Array Value} (ha : ArrAt W g A) : sWk w b B f L ((g, A) :: S) W := ⟨h.below, h.mem, fun x hx => by
  rcases List.mem_cons.1 hx with rfl | hx
  · exact ha
  · exact h.arr x hx⟩

end Go.Proofs.Ytfmabknhfehdcaa

namespace Go.Proofs.Ytfmabknhfehdcaa
open Go.ChangeShapes Go.WideShapes Go.ChangeAt Go.RowKit Go.Deep

def lI64 : Leaf := some (some .i64)
def lU8 : Leaf := some (some .u8)
def lU32 : Leaf := some (some .u32)
def slU64 : Leaf := some (some .u64)
theorem flI64 : FlatT Try.prog 3 [lI64] := FlatT.int Try.underlying3 (by kernel_rfl)
theorem flU8 : FlatT Try.prog 5 [lU8] := FlatT.int Try.underlying5 (by kernel_rfl)
theorem flU32 : FlatT Try.prog 23 [lU32] := FlatT.int Try.underlying23 (by kernel_rfl)
def lsDsc : List Leaf := [lI64, slU64, lI64, lU32]
def slsCel : List Leaf := lsDsc ++ [slU64, lU8]
def svN (v : Value) : Int := match v with | .int _ n => n | _ => 0
def dscOf (V : Nat → Value) : Dsc := ⟨svN (V 0), svN (V 1), svN (V 2), svN (V 3)⟩
theorem arr_eq {A : Array Value} {n : Nat} {V : Nat → Value} (hs : A.size = n) (h : ∀ j, j < n → A[j]? = some (V j)) : arr n V = A := by
  apply Array.ext_getElem?
  intro j
  by_cases hj : j < n
  · rw [h j hj]; simp [arr, hj]
  · rw [Array.getElem?_eq_none (by simp [arr]; omega), Array.getElem?_eq_none (by omega)]
/-- A cell of a list. -/
structure CelV where
  d : Dsc
  at' : Int
  sp : Int
structure CelV.Ok (x : CelV) : Prop where
  d : x.d.Ok
  a : 0 ≤ x.at' ∧ x.at' ≤ 18446744073709551615
  s : 0 ≤ x.sp ∧ x.sp ≤ 255
structure CelIn (W : World) (g o : Nat) (x : CelV) : Prop where
  d : W.rangeAt g o x.d.cells.toList
  a : W.cell? ⟨g, o + 4, none⟩ = some (.int .u64 x.at')
  s : W.cell? ⟨g, o + 5, none⟩ = some (.int .u8 x.sp)
/-- A list of cells lies at ao. -/
def sCAt (w : World) (ao : Option Addr) (n : Nat) (l : Nat → CelV) : Prop := ∀ i, i < n → ∃ g o, ao = some ⟨g, o, none⟩ ∧ CelIn w g (o + i * 6) (l i)
end Go.Proofs.Ytfmabknhfehdcaa

namespace Go.Proofs.Ytfmabknhfehdcaa
open Go.RowKit Go.Shelf

theorem Quiet.arr {N : Nat} {A B : World} (h : Quiet N A B) {b : Nat} {X : Array Value} (ha : ArrAt A b X) : ArrAt B b X := by
  have e : B.heap[b]? = A.heap[b]? := by
    have h0 := ha.cell (i := 0) (Array.getElem?_eq_getElem ha.pos)
    unfold World.cell? at h0
    cases hA : A.heap[b]? with
    | none => rw [hA] at h0; cases h0
    | some o =>
      cases o with
      | cells c t f => rw [h.cells _ _ _ _ hA]
      | _ => rw [hA] at h0; cases h0
  refine ⟨fun j v hv => ?_, fun j hj => ?_, ha.pos⟩
  · rw [World.cell?_of_block (w := A) (a := ⟨b, 0 + j, none⟩) e]; exact ha.rng j v hv
  · rw [World.cell?_of_block (w := A) (a := ⟨b, 0 + j, none⟩) e, World.frozen?_of_block (w := A) (a := ⟨b, 0 + j, none⟩) e]; exact ha.th j hj
theorem run_bs1 (d : Dsc) (w : World) : (Instr.buildSlice 100 1 #[(0, .agg d.cells)]).run Try.prog w = .ok (.slice (some ⟨w.heap.size, 0, none⟩) 1 1) (w.alloc (.cells d.cells 66)) := by kernel_rfl
theorem wpList_bs {P : Program} {ops : Array Oper} {Q : Exit → Act → World → Prop} {a : Act} {w : World} {rest : List Oper} {o : Oper} (hgd : o.guard = none) (t n : Nat) (parts : Array (Nat × Operand)) (ho : o.op = .buildSlice t n parts) (pv : Array (Nat × Value)) (hp : parts.map (fun p => (p.1, a.eval p.2)) = pv)
    {v : Value} {w' : World} (hb : (Instr.buildSlice t n pv).run P w = .ok v w') (h : wpList P ops Q rest (a.put o.dst v) w') : wpList P ops Q (o :: rest) a w :=
  wpList_plain hgd fun K hK => by
    subst hp
    unfold Oper.wp execOp
    simp only [ho]
    simp only [Sem.run_bind, hb, Result.andThen_ok, Sem.run_pure]
    exact hK _ _ h
/-- What lies in memory in SglNone. -/
structure sNoneI (w : World) (D : Array Value) (q : Option Addr) (Z : Array Value) (g8 : Nat) (W : World) : Prop where
  below : Below w.heap.size w W
  nomem : NoMem W q
  r3 : ArrAt W w.heap.size D
  r6 : W.rowIs (w.heap.size + 1) 4 1 (fun _ => .bool false)
  r8 : ArrAt W g8 Z
theorem sNoneI.quiet {w A B : World} {N : Nat} {D : Array Value} {q : Option Addr} {Z : Array Value} {g8 : Nat} (h : sNoneI w D q Z g8 A) (k : Quiet N A B) (hN : w.heap.size ≤ N) : sNoneI w D q Z g8 B :=
  ⟨k.below h.below hN, k.nomem h.nomem, k.arr h.r3, k.rowIs h.r6, k.arr h.r8⟩
theorem sNoneI.go {w A B : World} {D : Array Value} {q : Option Addr} {Z : Array Value} {g8 : Nat} (h : sNoneI w D q Z g8 A) (k : Below A.heap.size A B) : sNoneI w D q Z g8 B :=
  ⟨h.below.trans (k.mono h.below.size), h.nomem.below k, h.r3.below k, (Keeps.of_below (S := fun _ => False) k).rowIs h.r6 (fun e => e), h.r8.below k⟩

end Go.Proofs.Ytfmabknhfehdcaa

namespace Go.Proofs.Ytfmabknhfehdcaa
open Go.RowKit Go.Shelf

theorem build_cm0 (w : World) : (Instr.build 28 #[]).run Try.prog w = .ok (.agg zCm) w := by kernel_rfl
theorem results_cm2 {fn : Func} {p q : Tmp} (h : fn.results = #[.cell p 28, .tmp q]) {tmps : Array Value} {w : World} {s : Nat} {A : Array Value} {v : Value} (H : ArrAt w s A) (h4 : (Try.prog.info? 28).map (·.size) = some A.size)
    (hp : tmps.getD p undef = .pointer (some ⟨s, 0, none⟩)) (hq : tmps.getD q undef = v) : (results fn tmps).run Try.prog w = .ok (.tuple #[.agg A, v]) w := by
  have hp' : tmps[p]?.getD undef = .pointer (some ⟨s, 0, none⟩) := by simpa using hp
  have hq' : tmps[q]?.getD undef = v := by simpa using hq
  have hl2 := H.loadVar (P := Try.prog) Try.underlying28 rfl h4
  simp only [results, h]
  simp [Sem.run_bind, Result.andThen, hp', hq', asAddr, hl2]
end Go.Proofs.Ytfmabknhfehdcaa
