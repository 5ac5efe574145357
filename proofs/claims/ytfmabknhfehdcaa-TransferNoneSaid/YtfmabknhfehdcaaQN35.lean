/- sgl: works: the chapter's examples. -/
import Derived.Test.YtfmabknhfehdcaaQN34
import Derived.Test.YtfmabknhfehdcaaQN32
import Derived.Test.YtfmabknhfehdcaaQN20
import Derived.Test.YtfmabknhfehdcaaQN23
import Derived.Test.YtfmabknhfehdcaaQN33
namespace Go.Proofs.Ytfmabknhfehdcaa
set_option linter.unusedVariables false
set_option linter.unusedSimpArgs false
open Go.RowKit

theorem below_alloc {x y : World} {o : Obj} (h : Below (x.alloc o).heap.size (x.alloc o) y) : Below x.heap.size x y := ((Below.refl _ x).alloc (Nat.le_refl _) o).trans (h.mono (by simp))
theorem exec_eql {P : Program} {o : Oper} {a : Act} {w : World} (t : TypeId) (x y : Operand) (rt : TypeId) (ho : o.op = .binOp .eql t x y rt) (v0 v1 : Value) (hx : a.eval x = v0) (hy : a.eval y = v1)
    (hg : (eqGuard .eql t x y v0 v1).run P w = .ok () w) {v : Value} (hb : (binOp .eql t v0 v1).run P w = .ok v w) : (execOp a.eval o).run P w = .ok (.value v) w := by
  unfold execOp
  simp only [ho, hx, hy]
  simp only [Sem.run_bind, hg, hb, Result.andThen_ok, Sem.run_pure]
theorem guardW (i j : Nat) (X Y : Array Value) (w : World) : (eqGuard .neq 25 (.tmp i) (.tmp j) (.agg X) (.agg Y)).run Try.prog w = .ok () w := by kernel_rfl
theorem guardD (i j : Nat) (X Y : Array Value) (w : World) : (eqGuard .neq 66 (.tmp i) (.tmp j) (.agg X) (.agg Y)).run Try.prog w = .ok () w := by kernel_rfl
theorem guardDe (i j : Nat) (X Y : Array Value) (w : World) : (eqGuard .eql 66 (.tmp i) (.tmp j) (.agg X) (.agg Y)).run Try.prog w = .ok () w := by kernel_rfl
theorem neqW1 (w : World) : (binOp .neq 25 (.agg #[.int .u64 4096, .int .u64 512]) (.agg #[.int .u64 4096, .int .u64 512])).run Try.prog w = .ok (.bool false) w := by kernel_rfl
theorem neqW2 (w : World) : (binOp .neq 25 (.agg #[.int .u64 1, .int .u64 4611686018477719554]) (.agg #[.int .u64 1, .int .u64 4611686018477719554])).run Try.prog w = .ok (.bool false) w := by kernel_rfl
theorem neqD1 (w : World) : (binOp .neq 66 (.agg (⟨2, 0, 7, 0⟩ : Dsc).cells) (.agg (⟨2, 0, 7, 0⟩ : Dsc).cells)).run Try.prog w = .ok (.bool false) w := by kernel_rfl
theorem eqlD1 (w : World) : (binOp .eql 66 (.agg (⟨4, 0, 48, 0⟩ : Dsc).cells) (.agg (⟨4, 0, 48, 0⟩ : Dsc).cells)).run Try.prog w = .ok (.bool true) w := by kernel_rfl
theorem buildD1 (w : World) : (Instr.build 66 #[(0, .int .i64 2), (1, .int .u64 1), (2, .int .i64 5)]).run Try.prog w = .ok (.agg (⟨2, 1, 5, 0⟩ : Dsc).cells) w := by kernel_rfl
/-- The examples so far: nothing older is touched, the memory is there. -/
structure sWk (w : World) (b B : Nat) (f : Nat → Int) (L : List (Nat × Nat)) (S : List (Nat × Array Value)) (W : World) : Prop where
  below : Below w.heap.size w W
  mem : MemAt W b B 4096 f L
  arr : ∀ x ∈ S, ArrAt W x.1 x.2
theorem sWk.go {w : World} {b B : Nat} {f : Nat → Int} {L : List (Nat × Nat)} {S : List (Nat × Array Value)} {W W' : World} (h : sWk w b B f L S W) (hb : Below W.heap.size W W') : sWk w b B f L S W' := ⟨h.below.trans (hb.mono h.below.size), h.mem.below hb, fun x hx => (h.arr x hx).below hb⟩
theorem sWk.add {w : World} {b B : Nat} {f : Nat → Int} {L : List (Nat × Nat)} {S : List (Nat × Array Value)} {W : World} (h : sWk w b B f L S W) {g : Nat} {A : Array Value} (ha : ArrAt W g A) : sWk w b B f L ((g, A) :: S) W := ⟨h.below, h.mem, fun x hx => by
  rcases List.mem_cons.1 hx with rfl | hx
  · exact ha
  · exact h.arr x hx⟩

theorem swkC6 (b B : Nat) (x : World) (hM : MemAt x b B 4096 (fun _ => 0) []) :
    Calls Try.prog 38 #[.pointer (some ⟨b, 0, none⟩), .int .u64 0, .slice (some ⟨x.heap.size, 0, none⟩) 3 3] (x.alloc (.cells #[.int .i64 1, .int .u64 1000, .int .i64 8, .int .u32 0, .int .i64 2, .int .u64 0, .int .i64 4, .int .u32 0, .int .i64 1, .int .u64 2000, .int .i64 8, .int .u32 0] 66)) fun e w' => e = .returned (.tuple #[.agg (⟨4, 0, 48, 0⟩ : Dsc).cells, .int .i64 0]) ∧ Keeps (Two b B) x w' ∧ MemAt w' b B 4096 (upd (fun _ => 0) 0 48 (lstB fun i => wkL.getD i zDsc)) [(0, 48)] := by
  have hb : Below x.heap.size x (x.alloc (.cells #[.int .i64 1, .int .u64 1000, .int .i64 8, .int .u32 0, .int .i64 2, .int .u64 0, .int .i64 4, .int .u32 0, .int .i64 1, .int .u64 2000, .int .i64 8, .int .u32 0] 66)) := (Below.refl _ _).alloc (Nat.le_refl _) _
  refine (wkBld b B _ 3 (some ⟨x.heap.size, 0, none⟩) (hM.below hb) (dAt_fresh x wkL 66 3 rfl)).mono ?_
  rintro e w' ⟨rfl, hk, hm⟩
  exact ⟨rfl, (Keeps.of_below hb).trans hk, hm⟩
end Go.Proofs.Ytfmabknhfehdcaa

namespace Go.Proofs.Ytfmabknhfehdcaa
open Go.ChangeShapes Go.WideShapes Go.ChangeAt Go.RowKit Go.Deep

def lI64 : Leaf := some (some .i64)
def lU8 : Leaf := some (some .u8)
def lU32 : Leaf := some (some .u32)
def slU64 : Leaf := some (some .u64)
theorem flI64 : FlatT Try.prog 3 [lI64] := FlatT.int Try.underlying3 (by kernel_rfl)
theorem flK : FlatT Try.prog 64 [lI64] := FlatT.int Try.underlying64 (by kernel_rfl)
theorem flU8 : FlatT Try.prog 5 [lU8] := FlatT.int Try.underlying5 (by kernel_rfl)
theorem flU32 : FlatT Try.prog 23 [lU32] := FlatT.int Try.underlying23 (by kernel_rfl)
theorem sflU64 : FlatT Try.prog 24 [slU64] := FlatT.int Try.underlying24 (by kernel_rfl)
def lsDsc : List Leaf := [lI64, slU64, lI64, lU32]
theorem flDsc : FlatT Try.prog 66 lsDsc :=
  FlatT.struct [(0, [lI64]), (1, [slU64]), (2, [lI64]), (3, [lU32])] Try.underlying66 (by kernel_rfl)
    (fun i s hs => by
      match i, hs with
      | 0, hs => cases hs; exact ⟨_, rfl, rfl, flK⟩
      | 1, hs => cases hs; exact ⟨_, rfl, rfl, sflU64⟩
      | 2, hs => cases hs; exact ⟨_, rfl, rfl, flI64⟩
      | 3, hs => cases hs; exact ⟨_, rfl, rfl, flU32⟩
      | n + 4, hs => simp at hs) (by decide)
def slsCel : List Leaf := lsDsc ++ [slU64, lU8]
def svN (v : Value) : Int := match v with | .int _ n => n | _ => 0
theorem sleaf_int {k : IntKind} {v : Value} (h : leafOk (some (some k)) v) : v = .int k (svN v) ∧ (Lit.int k (svN v)).wf = true := by
  obtain ⟨n, rfl, hw⟩ := h
  exact ⟨rfl, hw⟩
def dscOf (V : Nat → Value) : Dsc := ⟨svN (V 0), svN (V 1), svN (V 2), svN (V 3)⟩
theorem dscOf_spec {V : Nat → Value} (h : ∀ (j : Nat) l, lsDsc[j]? = some l → leafOk l (V j)) : (∀ j, j < 4 → (dscOf V).cells[j]? = some (V j)) ∧ (dscOf V).Ok := by
  have h0 := sleaf_int (h 0 lI64 rfl)
  have h1 := sleaf_int (h 1 slU64 rfl)
  have h2 := sleaf_int (h 2 lI64 rfl)
  have h3 := sleaf_int (h 3 lU32 rfl)
  refine ⟨fun j hj => ?_, ⟨wf_i64 h0.2, wf_u64 h1.2, wf_i64 h2.2, wf_u32 h3.2⟩⟩
  match j, hj with
  | 0, _ => exact congrArg some h0.1.symm
  | 1, _ => exact congrArg some h1.1.symm
  | 2, _ => exact congrArg some h2.1.symm
  | 3, _ => exact congrArg some h3.1.symm
theorem arr_eq {A : Array Value} {n : Nat} {V : Nat → Value} (hs : A.size = n) (h : ∀ j, j < n → A[j]? = some (V j)) : arr n V = A := by
  apply Array.ext_getElem?
  intro j
  by_cases hj : j < n
  · rw [h j hj]; simp [arr, hj]
  · rw [Array.getElem?_eq_none (by simp [arr]; omega), Array.getElem?_eq_none (by omega)]
set_option maxRecDepth 100000 in
theorem dsc_view {H : Type} {enc : TypeId × Value → H} {base : Nat} (W : World) (u : Value) (d : DataW H) (p : List MemPlace) (hok : Value.okWide Try.prog W .any base 66 u)
    (h : DataW.Trod enc Try.prog W 0 (fun _ => true) true 66 u d p) : ∃ x : Dsc, u = .agg x.cells ∧ x.Ok := by
  obtain ⟨cs, rfl, -⟩ := okWide_struct Try.underlying66 hok
  obtain ⟨V, e, hV⟩ := flDsc.view W _ d p ⟨_, rfl⟩ h
  obtain ⟨h1, h2⟩ := dscOf_spec hV
  exact ⟨dscOf V, e.trans (congrArg Value.agg (arr_eq rfl h1)), h2⟩
theorem rng_of {W : World} {g o : Nat} {A : Array Value} {V : Nat → Value} (hs : A.size = 4) (h : ∀ j, j < 4 → A[j]? = some (V j)) (hc : ∀ j, j < 4 → W.cell? ⟨g, o + j, none⟩ = some (V j)) : W.rangeAt g o A.toList := by
  intro j v hv
  have hv : A[j]? = some v := by simpa using hv
  have hj : j < 4 := by rw [← hs]; exact (Array.getElem?_eq_some_iff.1 hv).1
  rw [h j hj] at hv
  cases hv
  exact hc j hj
set_option maxRecDepth 100000 in
theorem dscs_view {H : Type} {enc : TypeId × Value → H} {base : Nat} (W : World) (u : Value) (d : DataW H) (p : List MemPlace) (hok : Value.okWide Try.prog W .any base 100 u)
    (h : DataW.Trod enc Try.prog W 0 (fun _ => true) true 100 u d p) : ∃ ao n c l, u = .slice ao n c ∧ (DAt W ao n l ∧ (∀ i, i < n → (l i).Ok) ∧ n ≤ maxLen) := by
  obtain ⟨ao, n, c, X, rfl, hX, hn⟩ := flDsc.slice (by decide) Try.underlying100 W u d p hok h
  refine ⟨ao, n, c, fun i => dscOf (X i), rfl, fun i hi => ?_, fun i hi => ?_, hn⟩
  · obtain ⟨g, o, e, hc, hk⟩ := hX i hi
    exact ⟨g, o, e, rng_of rfl (dscOf_spec hk).1 (fun j hj => hc j hj)⟩
  · obtain ⟨g, o, e, hc, hk⟩ := hX i hi
    exact (dscOf_spec hk).2
/-- A cell of a list. -/
structure CelV where
  d : Dsc
  at' : Int
  sp : Int
structure CelV.Ok (x : CelV) : Prop where
  d : x.d.Ok
  a : 0 ≤ x.at' ∧ x.at' ≤ 18446744073709551615
  s : 0 ≤ x.sp ∧ x.sp ≤ 255
structure CelIn (W : World) (g o : Nat) (x : CelV) : Prop where
  d : W.rangeAt g o x.d.cells.toList
  a : W.cell? ⟨g, o + 4, none⟩ = some (.int .u64 x.at')
  s : W.cell? ⟨g, o + 5, none⟩ = some (.int .u8 x.sp)
/-- A list of cells lies at ao. -/
def sCAt (w : World) (ao : Option Addr) (n : Nat) (l : Nat → CelV) : Prop := ∀ i, i < n → ∃ g o, ao = some ⟨g, o, none⟩ ∧ CelIn w g (o + i * 6) (l i)
end Go.Proofs.Ytfmabknhfehdcaa

namespace Go.Proofs.Ytfmabknhfehdcaa
open Go.RowKit Go.Shelf

theorem Quiet.arr {N : Nat} {A B : World} (h : Quiet N A B) {b : Nat} {X : Array Value} (ha : ArrAt A b X) : ArrAt B b X := by
  have e : B.heap[b]? = A.heap[b]? := by
    have h0 := ha.cell (i := 0) (Array.getElem?_eq_getElem ha.pos)
    unfold World.cell? at h0
    cases hA : A.heap[b]? with
    | none => rw [hA] at h0; cases h0
    | some o =>
      cases o with
      | cells c t f => rw [h.cells _ _ _ _ hA]
      | _ => rw [hA] at h0; cases h0
  refine ⟨fun j v hv => ?_, fun j hj => ?_, ha.pos⟩
  · rw [World.cell?_of_block (w := A) (a := ⟨b, 0 + j, none⟩) e]; exact ha.rng j v hv
  · rw [World.cell?_of_block (w := A) (a := ⟨b, 0 + j, none⟩) e, World.frozen?_of_block (w := A) (a := ⟨b, 0 + j, none⟩) e]; exact ha.th j hj
theorem eqlDsc0 (w : World) : (binOp .eql 66 (.agg zDsc.cells) (.agg zDsc.cells)).run Try.prog w = .ok (.bool true) w := by
  unfold Dsc.cells
  simp [go_sem]
theorem wpList_build0G {P : Program} {ops : Array Oper} {Q : Exit → Act → World → Prop} {a : Act} {w : World} {rest : List Oper} {o : Oper} (hw : Region.wanted o (yielded ops a.tmps) = true) (t : Nat) (ho : o.op = .build t #[])
    {v : Value} (hb : (Instr.build t #[]).run P w = .ok v w) (h : wpList P ops Q rest (a.put o.dst v) w) : wpList P ops Q (o :: rest) a w :=
  wpList_step fun K hK => by
    rw [if_pos hw]
    unfold Oper.wp execOp
    simp only [ho, List.map_toArray, List.map_nil]
    simp only [Sem.run_bind, hb, Result.andThen_ok, Sem.run_pure]
    exact hK _ _ h
theorem run_bs1 (d : Dsc) (w : World) : (Instr.buildSlice 100 1 #[(0, .agg d.cells)]).run Try.prog w = .ok (.slice (some ⟨w.heap.size, 0, none⟩) 1 1) (w.alloc (.cells d.cells 66)) := by kernel_rfl
theorem wpList_bs {P : Program} {ops : Array Oper} {Q : Exit → Act → World → Prop} {a : Act} {w : World} {rest : List Oper} {o : Oper} (hgd : o.guard = none) (t n : Nat) (parts : Array (Nat × Operand)) (ho : o.op = .buildSlice t n parts) (pv : Array (Nat × Value)) (hp : parts.map (fun p => (p.1, a.eval p.2)) = pv)
    {v : Value} {w' : World} (hb : (Instr.buildSlice t n pv).run P w = .ok v w') (h : wpList P ops Q rest (a.put o.dst v) w') : wpList P ops Q (o :: rest) a w :=
  wpList_plain hgd fun K hK => by
    subst hp
    unfold Oper.wp execOp
    simp only [ho]
    simp only [Sem.run_bind, hb, Result.andThen_ok, Sem.run_pure]
    exact hK _ _ h
/-- What lies in memory in SglNone. -/
structure sNoneI (w : World) (D : Array Value) (q : Option Addr) (Z : Array Value) (g8 : Nat) (W : World) : Prop where
  below : Below w.heap.size w W
  nomem : NoMem W q
  r3 : ArrAt W w.heap.size D
  r6 : W.rowIs (w.heap.size + 1) 4 1 (fun _ => .bool false)
  r8 : ArrAt W g8 Z
theorem sNoneI.quiet {w A B : World} {N : Nat} {D : Array Value} {q : Option Addr} {Z : Array Value} {g8 : Nat} (h : sNoneI w D q Z g8 A) (k : Quiet N A B) (hN : w.heap.size ≤ N) : sNoneI w D q Z g8 B :=
  ⟨k.below h.below hN, k.nomem h.nomem, k.arr h.r3, k.rowIs h.r6, k.arr h.r8⟩
theorem sNoneI.go {w A B : World} {D : Array Value} {q : Option Addr} {Z : Array Value} {g8 : Nat} (h : sNoneI w D q Z g8 A) (k : Below A.heap.size A B) : sNoneI w D q Z g8 B :=
  ⟨h.below.trans (k.mono h.below.size), h.nomem.below k, h.r3.below k, (Keeps.of_below (S := fun _ => False) k).rowIs h.r6 (fun e => e), h.r8.below k⟩

end Go.Proofs.Ytfmabknhfehdcaa

namespace Go.Proofs.Ytfmabknhfehdcaa
open Go.RowKit Go.Shelf

theorem build_cm0 (w : World) : (Instr.build 28 #[]).run Try.prog w = .ok (.agg zCm) w := by kernel_rfl
theorem results_cm2 {fn : Func} {p q : Tmp} (h : fn.results = #[.cell p 28, .tmp q]) {tmps : Array Value} {w : World} {s : Nat} {A : Array Value} {v : Value} (H : ArrAt w s A) (h4 : (Try.prog.info? 28).map (·.size) = some A.size)
    (hp : tmps.getD p undef = .pointer (some ⟨s, 0, none⟩)) (hq : tmps.getD q undef = v) : (results fn tmps).run Try.prog w = .ok (.tuple #[.agg A, v]) w := by
  have hp' : tmps[p]?.getD undef = .pointer (some ⟨s, 0, none⟩) := by simpa using hp
  have hq' : tmps[q]?.getD undef = v := by simpa using hq
  have hl2 := H.loadVar (P := Try.prog) Try.underlying28 rfl h4
  simp only [results, h]
  simp [Sem.run_bind, Result.andThen, hp', hq', asAddr, hl2]
theorem build_mm0 (w : World) : (Instr.build 74 #[]).run Try.prog w = .ok (.agg (zjl ++ [Value.slice none 0 0]).toArray) w := by kernel_rfl
set_option maxRecDepth 100000 in
set_option maxHeartbeats 4000000 in
theorem treach_none (p : Option Addr) (C : Array Value) (n : Int) (th : Bool) (w : World) (h16 : C.size = 16)
    (hsp : ∀ W, Below w.heap.size w W → Calls Try.prog 24 #[.pointer p, .agg C, .int .i64 n, .bool th] W fun e w' => ∃ S : Array Value, e = .returned (.tuple #[.slice none 0 0, .agg S]) ∧ S.size = 4 ∧ S.all (·.oneCell') = true ∧ Below W.heap.size W w') :
    Calls Try.prog 25 #[.pointer p, .agg C, .int .i64 n, .bool th] w fun e w' => ∃ c, e = .returned (.func (.func 52) #[] #[.pointer (some ⟨c, 0, none⟩)]) ∧ w.heap.size ≤ c ∧ Below w.heap.size w w' ∧ w'.cell? ⟨c, 0, none⟩ = some (.slice none 0 0) := by
  have HSP := Lib.hid hsp
  have H16 := Lib.hid h16
  have HCZ := Lib.hid (show (Try.prog.info? 28).map (·.size) = some C.size by rw [h16]; exact sizeCm)
  clear hsp h16
  have hmf : ∀ (fn : Fn) (first cap : Array Value) (w : World), (Instr.makeFunc fn first cap).run Try.prog w = .ok (.func fn first cap) w := fun _ _ _ _ => rfl
  go_enter Try.func25, Try.ntmps25
  go_upto_region 1 with fail
  obtain ⟨W0, hW0⟩ : ∃ W0, W0 = w.alloc (.cells C 28) := ⟨_, rfl⟩
  rw [← hW0]
  have AC := Lib.hid (show ArrAt W0 w.heap.size C by rw [hW0]; exact ArrAt.fresh w C _ (by rw [H16.out]; decide))
  have HB0 := Lib.hid (show Below w.heap.size w W0 by rw [hW0]; exact (Below.refl _ _).alloc (Nat.le_refl _) _)
  clear hW0
  go_upto_region 2 with (first
    | ((with_reducible show wpList _ _ _ (⟨some 13, _, _, _, _, _⟩ :: _) _ _); refine wpList_loadA rfl AC.out 28 (.tmp 5) rfl (by first | rfl | simp [Act.eval, Act.put]) Try.underlying28 rfl HCZ.out ?_)
    | (go_at_call 24; refine (HSP.out W0 HB0.out).mono ?_; rintro e w1 ⟨S, rfl, hs, ho, hb⟩; have HS4 := Lib.hid hs; have HO4 := Lib.hid ho; have B1 := Lib.hid (HB0.out.trans (hb.mono HB0.out.size)); have HF1 := Lib.hid (show ArrAt ((w1.alloc (.cells #[.slice none 0 0] 31)).alloc (.cells st0 38)) (w1.heap.size + 1) st0 by simpa using ArrAt.fresh (w1.alloc (.cells #[.slice none 0 0] 31)) st0 38 (by decide)); clear hb hs ho)
    | ((with_reducible show wpList _ _ _ (⟨some 10, _, _, _, _, _⟩ :: _) _ _); refine wpList_alloc rfl 38 rfl zeroSt ?_; rw [show (Value.agg st0).cells = st0 from rfl])
    | ((with_reducible show wpList _ _ _ (⟨none, .store 38 _ _, _, _, _, _⟩ :: _) _ _); refine wpList_storeA rfl (b := w1.heap.size + 1) (A := st0) (A' := S) HF1.out 38 (.tmp 10) (.tmp 18) rfl (by simp [Act.eval, Act.put]) (by simp [Act.eval, Act.put]) sizeSt (by rw [HS4.out]; rfl) HO4.out ?_))
  obtain ⟨W3, hW3⟩ : ∃ z, z = ((w1.alloc (.cells #[.slice none 0 0] 31)).alloc (.cells st0 38)).setCells (w1.heap.size + 1) 0 S.toList := ⟨_, rfl⟩
  rw [← hW3]
  have hb3 : Below w1.heap.size w1 W3 := by rw [hW3]; exact bstore (((Below.refl _ _).alloc (Nat.le_refl _) _).alloc (by simp) _) _ (by omega) _ _
  have hc3 : W3.cell? ⟨w1.heap.size, 0, none⟩ = some (.slice none 0 0) := by
    have h0 : ArrAt (w1.alloc (.cells #[.slice none 0 0] 31)) w1.heap.size #[.slice none 0 0] := ArrAt.fresh w1 _ _ (by simp)
    have h1 := h0.alloc (.cells st0 38)
    have k : Keeps (One (w1.heap.size + 1)) ((w1.alloc (.cells #[.slice none 0 0] 31)).alloc (.cells st0 38)) W3 := by rw [hW3]; exact Keeps.store (S := One (w1.heap.size + 1)) (Keeps.refl _ _) (fun _ => rfl) _ _
    exact (h1.kept k (fun e => by have e : w1.heap.size = w1.heap.size + 1 := e; omega)).cell (i := 0) rfl
  have B3 := Lib.hid (B1.out.trans (hb3.mono B1.out.size))
  have C3 := Lib.hid hc3
  clear hW3 hb3 hc3 HF1
  go_wp2
  go_ret
  exact ⟨_, rfl, B1.out.size, B3.out, C3.out⟩
set_option maxRecDepth 100000 in
set_option maxHeartbeats 2000000 in
theorem treach1_none (n : Nat) (hn : 2 ≤ n) (c : Nat) (w : World) (hc : w.cell? ⟨c, 0, none⟩ = some (.slice none 0 0)) :
    SeqStopsK Fence.wide n Try.prog 52 #[.pointer (some ⟨c, 0, none⟩)] (encS []) (KeepA none) (fun xs => xs = []) (fun _ => False) 0 w := fun lb J Jx W hW hJ hJx hY h0 => by
  have hcW : W.cell? ⟨c, 0, none⟩ = some (.slice none 0 0) := (hW.cell (World.block_lt_of_cell? _ _ hc)).trans hc
  have HJ := Lib.hid hJ
  have HH := Lib.hid h0
  clear hW hc hY h0
  refine callsIn_of_wp Try.func52 rfl trivial ?_ rfl
  simp only [Try.ntmps52, List.size_toArray, List.length_cons, List.length_nil, Nat.reduceAdd, Nat.reduceSub, Array.replicate_succ, Array.replicate_zero, List.push_toArray, List.append_toArray, List.nil_append, List.cons_append]
  gi_wp2
  refine wpIn_wide.2 (wp_scope_straight ((wpIn_wide (n := n)).1 ?_))
  gi_wp2_with (with_reducible refine wpIn_label ?_)
  gi_loopw [8] (fun i wr => i = .int .i64 0 ∧ J [] wr) (fun i _ => 0)
  case atStart => exact ⟨rfl, HH.out⟩
  case round =>
    obtain ⟨rfl, hJk⟩ := hrel
    have HK := Lib.hid hJk
    clear hJk
    gi_wp2
    rw [Exit.noGoto_normal]
    go_end0
    exact ⟨⟨_, rfl⟩, .inl ⟨_, rfl, HK.out⟩⟩
set_option maxRecDepth 100000 in
set_option maxHeartbeats 4000000 in
theorem prep_none (p : Option Addr) (C : Array Value) (w : World) (hp : NoMem w p) (h16 : C.size = 16) : Calls Try.prog 17 #[.pointer p, .agg C, .slice none 0 0, .slice none 0 0, .int .i64 0, .int .i64 0] w fun e w' => e = .returned (.tuple #[.agg zCm, .int .i64 1]) ∧ Below w.heap.size w w' := by
  have HP := Lib.hid hp
  have H16 := Lib.hid h16
  have HZ := Lib.hid zeroCm
  have HB := Lib.hid build_cm0
  have HSZ := Lib.hid (show (Try.prog.info? 28).map (·.size) = some zCm.size from sizeCm)
  have HZ1 := Lib.hid (show zCm.all (·.oneCell') = true by simp [zCm, Value.oneCell'])
  have HZ0 := Lib.hid (show 0 < zCm.size by decide)
  clear hp h16
  obtain ⟨Z, hZ⟩ : ∃ Z, Z = zCm := ⟨_, rfl⟩
  rw [← hZ] at HZ HB HSZ HZ1 HZ0 ⊢
  clear hZ
  go_enter Try.func17, Try.ntmps17
  go_upto_region 1 with ((with_reducible show wpList _ _ _ (⟨some 12, _, _, _, _, _⟩ :: _) _ _); refine wpList_alloc rfl 28 rfl HZ.out ?_; rw [show (Value.agg Z).cells = Z from rfl])
  obtain ⟨W0, hW0⟩ : ∃ W0, W0 = (w.alloc (.cells C 28)).alloc (.cells Z 28) := ⟨_, rfl⟩
  rw [← hW0]
  have AC := Lib.hid (show ArrAt W0 (w.heap.size + 1) Z by rw [hW0]; simpa using ArrAt.fresh (w.alloc (.cells C 28)) Z 28 HZ0.out)
  have HB0 := Lib.hid (show Below w.heap.size w W0 by rw [hW0]; exact ((Below.refl _ _).alloc (Nat.le_refl _) _).alloc (by simp) _)
  clear hW0
  go_wp2_with (first
    | (go_at_call 34; refine (size_no _ _ (HP.out.below HB0.out)).mono ?_; rintro e w' ⟨rfl, rfl⟩)
    | ((with_reducible show wpList _ _ _ (⟨some 39, _, _, _, _, _⟩ :: _) _ _); refine wpList_build0 rfl 28 rfl (HB.out _) ?_)
    | ((with_reducible show wpList _ _ _ (⟨none, .store _ _ _, _, _, _, _⟩ :: _) _ _); refine wpList_storeA rfl (b := w.heap.size + 1) (A := Z) (A' := Z) AC.out 28 (.tmp 12) (.tmp 39) rfl (by simp [Act.eval, Act.put]) (by simp [Act.eval, Act.put]) HSZ.out rfl HZ1.out ?_))
  have hs := AC.out.store Z rfl
  refine bodyPost_ret (v := .tuple #[.agg Z, .int .i64 1]) (results_cm2 Try.results17 hs HSZ.out rfl rfl) rfl ⟨rfl, bstore HB0.out _ (by omega) _ _⟩
end Go.Proofs.Ytfmabknhfehdcaa
