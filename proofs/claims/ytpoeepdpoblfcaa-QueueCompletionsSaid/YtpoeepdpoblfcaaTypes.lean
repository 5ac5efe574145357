/- queue: commands, completions, entries and acts that came in. -/
import Derived.Test.YtpoeepdpoblfcaaFlat
import Derived.Test.YtpoeepdpoblfcaaEnds
namespace Go.Proofs.Ytpoeepdpoblfcaa
open Go.ChangeShapes Go.WideShapes Go.ChangeAt Go.RowKit Go.Deep

theorem FlatT.arr1 {P : Program} {t e : TypeId} {n : Nat} {l : Leaf} (ht : P.underlying t = some (.array n e)) (he : FlatT P e [l]) (hc : P.cellsOf t = n) : FlatT P t (List.replicate n l) :=
  FlatT.array (n := n) ht he (by simpa using hc) (by simp) (by simp) (fun j hj => by
    simp only [List.length_replicate] at hj
    simp [hj, Nat.mod_one])

def lI64 : Leaf := some (some .i64)
def lU8 : Leaf := some (some .u8)
def lU16 : Leaf := some (some .u16)
def lU32 : Leaf := some (some .u32)
def lU64 : Leaf := some (some .u64)
def lB : Leaf := some none
theorem flI64 : FlatT Try.prog 3 [lI64] := FlatT.int Try.underlying3 (by kernel_rfl)
theorem flU8 : FlatT Try.prog 5 [lU8] := FlatT.int Try.underlying5 (by kernel_rfl)
theorem flU16 : FlatT Try.prog 32 [lU16] := FlatT.int Try.underlying32 (by kernel_rfl)
theorem flU32 : FlatT Try.prog 33 [lU32] := FlatT.int Try.underlying33 (by kernel_rfl)
theorem flU64 : FlatT Try.prog 34 [lU64] := FlatT.int Try.underlying34 (by kernel_rfl)
theorem flB : FlatT Try.prog 4 [lB] := FlatT.bool Try.underlying4 (by kernel_rfl)
theorem flA2 : FlatT Try.prog 35 (List.replicate 2 lU64) := FlatT.arr1 Try.underlying35 flU64 (by kernel_rfl)
theorem flA6 : FlatT Try.prog 36 (List.replicate 6 lU32) := FlatT.arr1 Try.underlying36 flU32 (by kernel_rfl)
theorem flR2 : FlatT Try.prog 39 (List.replicate 2 lU32) := FlatT.arr1 Try.underlying39 flU32 (by kernel_rfl)
theorem flA16 : FlatT Try.prog 44 (List.replicate 16 lU8) := FlatT.arr1 Try.underlying44 flU8 (by kernel_rfl)
def lsCmd : List Leaf := [lU8, lU8, lB, lU16, lU32, lU32, lU32, lU64, lU64, lU64, lU32, lU32, lU32, lU32, lU32, lU32]
theorem flCmd : FlatT Try.prog 38 lsCmd :=
  FlatT.struct [(0, [lU8]), (1, [lU8]), (2, [lB]), (3, [lU16]), (4, [lU32]), (5, [lU32]), (6, [lU32]), (7, [lU64]), (8, List.replicate 2 lU64), (10, List.replicate 6 lU32)] Try.underlying38 (by kernel_rfl)
    (fun i s hs => by
      match i, hs with
      | 0, hs => cases hs; exact ⟨_, rfl, rfl, flU8⟩
      | 1, hs => cases hs; exact ⟨_, rfl, rfl, flU8⟩
      | 2, hs => cases hs; exact ⟨_, rfl, rfl, flB⟩
      | 3, hs => cases hs; exact ⟨_, rfl, rfl, flU16⟩
      | 4, hs => cases hs; exact ⟨_, rfl, rfl, flU32⟩
      | 5, hs => cases hs; exact ⟨_, rfl, rfl, flU32⟩
      | 6, hs => cases hs; exact ⟨_, rfl, rfl, flU32⟩
      | 7, hs => cases hs; exact ⟨_, rfl, rfl, flU64⟩
      | 8, hs => cases hs; exact ⟨_, rfl, rfl, flA2⟩
      | 9, hs => cases hs; exact ⟨_, rfl, rfl, flA6⟩
      | n + 10, hs => simp at hs) (by decide)
def lsSt : List Leaf := [lU8, lU8, lB, lB]
theorem flSt : FlatT Try.prog 41 lsSt :=
  FlatT.struct [(0, [lU8]), (1, [lU8]), (2, [lB]), (3, [lB])] Try.underlying41 (by kernel_rfl)
    (fun i s hs => by
      match i, hs with
      | 0, hs => cases hs; exact ⟨_, rfl, rfl, flU8⟩
      | 1, hs => cases hs; exact ⟨_, rfl, rfl, flU8⟩
      | 2, hs => cases hs; exact ⟨_, rfl, rfl, flB⟩
      | 3, hs => cases hs; exact ⟨_, rfl, rfl, flB⟩
      | n + 4, hs => simp at hs) (by decide)
def lsCpl : List Leaf := [lU32, lU32, lU16, lU16, lU16, lB, lU8, lU8, lB, lB]
theorem flCpl : FlatT Try.prog 43 lsCpl :=
  FlatT.struct [(0, List.replicate 2 lU32), (2, [lU16]), (3, [lU16]), (4, [lU16]), (5, [lB]), (6, lsSt)] Try.underlying43 (by kernel_rfl)
    (fun i s hs => by
      match i, hs with
      | 0, hs => cases hs; exact ⟨_, rfl, rfl, flR2⟩
      | 1, hs => cases hs; exact ⟨_, rfl, rfl, flU16⟩
      | 2, hs => cases hs; exact ⟨_, rfl, rfl, flU16⟩
      | 3, hs => cases hs; exact ⟨_, rfl, rfl, flU16⟩
      | 4, hs => cases hs; exact ⟨_, rfl, rfl, flB⟩
      | 5, hs => cases hs; exact ⟨_, rfl, rfl, flSt⟩
      | n + 6, hs => simp at hs) (by decide)
def lsAct : List Leaf := [lI64, lI64] ++ lsCmd ++ lsCpl ++ List.replicate 16 lU8
theorem flAct : FlatT Try.prog 46 lsAct :=
  FlatT.struct [(0, [lI64]), (1, [lI64]), (2, lsCmd), (18, lsCpl), (28, List.replicate 16 lU8)] Try.underlying46 (by kernel_rfl)
    (fun i s hs => by
      match i, hs with
      | 0, hs => cases hs; exact ⟨_, rfl, rfl, flI64⟩
      | 1, hs => cases hs; exact ⟨_, rfl, rfl, flI64⟩
      | 2, hs => cases hs; exact ⟨_, rfl, rfl, flCmd⟩
      | 3, hs => cases hs; exact ⟨_, rfl, rfl, flCpl⟩
      | 4, hs => cases hs; exact ⟨_, rfl, rfl, flA16⟩
      | n + 5, hs => simp at hs) (by decide)

/-! The values -/
def vN (v : Value) : Int := match v with | .int _ n => n | _ => 0
def vB (v : Value) : Bool := match v with | .bool b => b | _ => false
theorem leaf_int {k : IntKind} {v : Value} (h : leafOk (some (some k)) v) : v = .int k (vN v) ∧ (Lit.int k (vN v)).wf = true := by
  obtain ⟨n, rfl, hw⟩ := h
  exact ⟨rfl, hw⟩
theorem leaf_bool {v : Value} (h : leafOk (some none) v) : v = .bool (vB v) := by
  obtain ⟨b, rfl⟩ := h
  rfl

/-- the command of 16 cells -/
def cmdOf (V : Nat → Value) : Cmd := { op := vN (V 0), fused := vN (V 1), sgl := vB (V 2), id := vN (V 3), nsid := vN (V 4), c2 := vN (V 5), c3 := vN (V 6), mt := vN (V 7), d0 := vN (V 8), d1 := vN (V 9), w0 := vN (V 10), w1 := vN (V 11), w2 := vN (V 12), w3 := vN (V 13), w4 := vN (V 14), w5 := vN (V 15) }
theorem cmdOf_spec {V : Nat → Value} (h : ∀ (j : Nat) l, lsCmd[j]? = some l → leafOk l (V j)) : (∀ j, j < 16 → (cmdOf V).cells[j]? = some (V j)) ∧ (cmdOf V).Ok := by
  have h0 := leaf_int (h 0 lU8 rfl)
  have h1 := leaf_int (h 1 lU8 rfl)
  have h2 := leaf_bool (h 2 lB rfl)
  have h3 := leaf_int (h 3 lU16 rfl)
  have h4 := leaf_int (h 4 lU32 rfl)
  have h5 := leaf_int (h 5 lU32 rfl)
  have h6 := leaf_int (h 6 lU32 rfl)
  have h7 := leaf_int (h 7 lU64 rfl)
  have h8 := leaf_int (h 8 lU64 rfl)
  have h9 := leaf_int (h 9 lU64 rfl)
  have h10 := leaf_int (h 10 lU32 rfl)
  have h11 := leaf_int (h 11 lU32 rfl)
  have h12 := leaf_int (h 12 lU32 rfl)
  have h13 := leaf_int (h 13 lU32 rfl)
  have h14 := leaf_int (h 14 lU32 rfl)
  have h15 := leaf_int (h 15 lU32 rfl)
  refine ⟨fun j hj => ?_, ⟨wf_u8 h0.2, wf_u8 h1.2, wf_u16 h3.2, wf_u32 h4.2, wf_u32 h5.2, wf_u32 h6.2, wf_u64 h7.2, wf_u64 h8.2, wf_u64 h9.2, wf_u32 h10.2, wf_u32 h11.2, wf_u32 h12.2, wf_u32 h13.2, wf_u32 h14.2, wf_u32 h15.2⟩⟩
  match j, hj with
  | 0, _ => exact congrArg some h0.1.symm
  | 1, _ => exact congrArg some h1.1.symm
  | 2, _ => exact congrArg some h2.symm
  | 3, _ => exact congrArg some h3.1.symm
  | 4, _ => exact congrArg some h4.1.symm
  | 5, _ => exact congrArg some h5.1.symm
  | 6, _ => exact congrArg some h6.1.symm
  | 7, _ => exact congrArg some h7.1.symm
  | 8, _ => exact congrArg some h8.1.symm
  | 9, _ => exact congrArg some h9.1.symm
  | 10, _ => exact congrArg some h10.1.symm
  | 11, _ => exact congrArg some h11.1.symm
  | 12, _ => exact congrArg some h12.1.symm
  | 13, _ => exact congrArg some h13.1.symm
  | 14, _ => exact congrArg some h14.1.symm
  | 15, _ => exact congrArg some h15.1.symm
  | n + 16, h => exact absurd h (by omega)
/-- the completion of 10 cells -/
def cplOf (V : Nat → Value) : Cpl := { r0 := vN (V 0), r1 := vN (V 1), head := vN (V 2), queue := vN (V 3), id := vN (V 4), ph := vB (V 5), ty := vN (V 6), code := vN (V 7), more := vB (V 8), never := vB (V 9) }
theorem cplOf_spec {V : Nat → Value} (h : ∀ (j : Nat) l, lsCpl[j]? = some l → leafOk l (V j)) : (∀ j, j < 10 → (cplOf V).cells[j]? = some (V j)) ∧ (cplOf V).Ok := by
  have h0 := leaf_int (h 0 lU32 rfl)
  have h1 := leaf_int (h 1 lU32 rfl)
  have h2 := leaf_int (h 2 lU16 rfl)
  have h3 := leaf_int (h 3 lU16 rfl)
  have h4 := leaf_int (h 4 lU16 rfl)
  have h5 := leaf_bool (h 5 lB rfl)
  have h6 := leaf_int (h 6 lU8 rfl)
  have h7 := leaf_int (h 7 lU8 rfl)
  have h8 := leaf_bool (h 8 lB rfl)
  have h9 := leaf_bool (h 9 lB rfl)
  refine ⟨fun j hj => ?_, ⟨wf_u32 h0.2, wf_u32 h1.2, wf_u16 h2.2, wf_u16 h3.2, wf_u16 h4.2, wf_u8 h6.2, wf_u8 h7.2⟩⟩
  match j, hj with
  | 0, _ => exact congrArg some h0.1.symm
  | 1, _ => exact congrArg some h1.1.symm
  | 2, _ => exact congrArg some h2.1.symm
  | 3, _ => exact congrArg some h3.1.symm
  | 4, _ => exact congrArg some h4.1.symm
  | 5, _ => exact congrArg some h5.symm
  | 6, _ => exact congrArg some h6.1.symm
  | 7, _ => exact congrArg some h7.1.symm
  | 8, _ => exact congrArg some h8.symm
  | 9, _ => exact congrArg some h9.symm
/-- the bytes of n cells -/
def bytesOf (n : Nat) (V : Nat → Value) (j : Nat) : Int := if j < n then vN (V j) else 0
theorem bytesOf_spec {n : Nat} {V : Nat → Value} (h : ∀ (j : Nat) l, (List.replicate n lU8)[j]? = some l → leafOk l (V j)) : (∀ j, j < n → V j = .int .u8 (bytesOf n V j)) ∧ ∀ j, 0 ≤ bytesOf n V j ∧ bytesOf n V j ≤ 255 := by
  have hj : ∀ j, j < n → V j = .int .u8 (vN (V j)) ∧ (Lit.int .u8 (vN (V j))).wf = true := fun j hj => leaf_int (h j lU8 (by simp [hj]))
  refine ⟨fun j h => ?_, fun j => ?_⟩
  · unfold bytesOf; rw [if_pos h]; exact (hj j h).1
  · unfold bytesOf
    by_cases e : j < n
    · rw [if_pos e]; exact wf_u8 (hj j e).2
    · rw [if_neg e]; omega

/-- An act. -/
structure ActV where
  k : Int
  n : Int
  c : Cmd
  p : Cpl
  b : Nat → Int
def actOf (V : Nat → Value) : ActV := { k := vN (V 0), n := vN (V 1), c := cmdOf fun j => V (2 + j), p := cplOf fun j => V (18 + j), b := bytesOf 16 fun j => V (28 + j) }
structure ActV.Ok (x : ActV) : Prop where
  k : -9223372036854775808 ≤ x.k ∧ x.k ≤ 9223372036854775807
  n : -9223372036854775808 ≤ x.n ∧ x.n ≤ 9223372036854775807
  c : x.c.Ok
  p : x.p.Ok
  b : ∀ j, 0 ≤ x.b j ∧ x.b j ≤ 255
/-- An act lies in memory. -/
structure ActIn (W : World) (g o : Nat) (x : ActV) : Prop where
  k : W.cell? ⟨g, o, none⟩ = some (.int .i64 x.k)
  n : W.cell? ⟨g, o + 1, none⟩ = some (.int .i64 x.n)
  c : W.rangeAt g (o + 2) x.c.cells.toList
  p : W.rangeAt g (o + 18) x.p.cells.toList
  b : W.rangeAt g (o + 28) (arr 16 fun j => .int .u8 (x.b j)).toList
theorem ActIn.lt {W : World} {g o : Nat} {x : ActV} (h : ActIn W g o x) : g < W.heap.size := World.block_lt_of_cell? _ _ h.k
theorem rangeAt_kept {W W' : World} {b o : Nat} {l : List Value} (h : W.rangeAt b o l) (e : W'.heap[b]? = W.heap[b]?) : W'.rangeAt b o l := fun j v hv => by
  rw [World.cell?_of_block (w := W) (a := ⟨b, o + j, none⟩) e]; exact h j v hv
theorem ActIn.kept {W W' : World} {g o : Nat} {x : ActV} (h : ActIn W g o x) (e : W'.heap[g]? = W.heap[g]?) : ActIn W' g o x :=
  ⟨(World.cell?_of_block (w := W) (a := ⟨g, o, none⟩) e).trans h.k, (World.cell?_of_block (w := W) (a := ⟨g, o + 1, none⟩) e).trans h.n, rangeAt_kept h.c e, rangeAt_kept h.p e, rangeAt_kept h.b e⟩
theorem ActIn.below {W W' : World} {g o : Nat} {x : ActV} (h : ActIn W g o x) (b : Below W.heap.size W W') : ActIn W' g o x := h.kept (b.block g h.lt)

theorem act_in {W : World} {g o : Nat} {V : Nat → Value} (hc : ∀ j, j < 44 → W.cell? ⟨g, o + j, none⟩ = some (V j)) (hk : Kinds lsAct V) : ActIn W g o (actOf V) ∧ (actOf V).Ok := by
  have k0 := leaf_int (hk 0 lI64 rfl)
  have k1 := leaf_int (hk 1 lI64 rfl)
  have hC := cmdOf_spec (V := fun j => V (2 + j)) (fun j l hl => hk (2 + j) l (by
    have hj : j < 16 := (List.getElem?_eq_some_iff.1 hl).1
    unfold lsAct
    rw [List.append_assoc, List.append_assoc, List.getElem?_append_right (by simp), List.getElem?_append_left (by simp [lsCmd]; omega)]
    simpa using hl))
  have hP := cplOf_spec (V := fun j => V (18 + j)) (fun j l hl => hk (18 + j) l (by
    have hj : j < 10 := (List.getElem?_eq_some_iff.1 hl).1
    unfold lsAct
    rw [List.append_assoc, List.getElem?_append_right (by simp [lsCmd]), List.getElem?_append_left (by simp [lsCmd, lsCpl]; omega)]
    have e : 18 + j - ([lI64, lI64] ++ lsCmd).length = j := by simp [lsCmd]
    rw [e]; exact hl))
  have hB := bytesOf_spec (n := 16) (V := fun j => V (28 + j)) (fun j l hl => hk (28 + j) l (by
    unfold lsAct
    rw [List.getElem?_append_right (by simp [lsCmd, lsCpl])]
    have e : 28 + j - ([lI64, lI64] ++ lsCmd ++ lsCpl).length = j := by simp [lsCmd, lsCpl]
    rw [e]; exact hl))
  refine ⟨⟨?_, ?_, ?_, ?_, ?_⟩, ⟨wf_i64 k0.2, wf_i64 k1.2, hC.2, hP.2, hB.2⟩⟩
  · have := hc 0 (by omega); rw [k0.1] at this; exact this
  · have := hc 1 (by omega); rw [k1.1] at this; exact this
  · intro j v hv
    have hj : j < 16 := by simpa [Cmd.cells] using (List.getElem?_eq_some_iff.1 hv).1
    rw [Array.getElem?_toList] at hv
    rw [show (actOf V).c.cells[j]? = _ from hC.1 j hj] at hv
    cases hv
    rw [Nat.add_assoc]; exact hc (2 + j) (by omega)
  · intro j v hv
    have hj : j < 10 := by simpa [Cpl.cells] using (List.getElem?_eq_some_iff.1 hv).1
    rw [Array.getElem?_toList] at hv
    rw [show (actOf V).p.cells[j]? = _ from hP.1 j hj] at hv
    cases hv
    rw [Nat.add_assoc]; exact hc (18 + j) (by omega)
  · intro j v hv
    have hj : j < 16 := by have := (List.getElem?_eq_some_iff.1 hv).1; rw [Array.length_toList, arr_size] at this; exact this
    rw [Array.getElem?_toList, arr_get 16 _ j hj] at hv
    cases hv
    rw [Nat.add_assoc, hc (28 + j) (by omega)]
    exact congrArg some (hB.1 j hj)

/-- The acts of a slice. -/
def ActsIn (W : World) (ao : Option Addr) (len : Nat) (X : Nat → ActV) : Prop :=
  ∀ i, i < len → ∃ g o, ao = some ⟨g, o, none⟩ ∧ ActIn W g (o + i * 44) (X i) ∧ (X i).Ok

set_option maxRecDepth 100000 in
theorem acts_view {H : Type} {enc : TypeId × Value → H} {base : Nat} (W : World) (u : Value) (d : DataW H) (p : List MemPlace) (hok : Value.okWide Try.prog W .any base 22 u)
    (h : DataW.Trod enc Try.prog W 0 (fun _ => true) true 22 u d p) :
    ∃ ao len cap X, u = .slice ao len cap ∧ (ActsIn W ao len X ∧ len ≤ maxLen) := by
  obtain ⟨ao, len, cap, X, rfl, hr, hl⟩ := FlatT.slice flAct (by decide) Try.underlying22 W u d p hok h
  refine ⟨ao, len, cap, fun i => actOf (X i), rfl, fun i hi => ?_, hl⟩
  obtain ⟨g, o, e, hc, hk⟩ := hr i hi
  obtain ⟨h1, h2⟩ := act_in (g := g) (o := o + i * 44) (fun j hj => hc j hj) hk
  exact ⟨g, o, e, h1, h2⟩
theorem arr_eq {A : Array Value} {n : Nat} {V : Nat → Value} (hs : A.size = n) (h : ∀ j, j < n → A[j]? = some (V j)) : arr n V = A := by
  apply Array.ext_getElem?
  intro i
  by_cases hi : i < n
  · rw [arr_get n V i hi, h i hi]
  · rw [Array.getElem?_eq_none (by rw [arr_size]; omega), Array.getElem?_eq_none (by omega)]
set_option maxRecDepth 100000 in
theorem cmd_view {H : Type} {enc : TypeId × Value → H} {base : Nat} (W : World) (u : Value) (d : DataW H) (p : List MemPlace) (hok : Value.okWide Try.prog W .any base 38 u)
    (h : DataW.Trod enc Try.prog W 0 (fun _ => true) true 38 u d p) : ∃ c : Cmd, u = c.v ∧ c.Ok := by
  obtain ⟨cs, rfl, -⟩ := okWide_struct Try.underlying38 hok
  obtain ⟨V, e, hV⟩ := flCmd.view W _ d p ⟨_, rfl⟩ h
  obtain ⟨h1, h2⟩ := cmdOf_spec hV
  exact ⟨cmdOf V, by rw [e]; exact congrArg Value.agg (arr_eq rfl h1), h2⟩
set_option maxRecDepth 100000 in
theorem cpl_view {H : Type} {enc : TypeId × Value → H} {base : Nat} (W : World) (u : Value) (d : DataW H) (p : List MemPlace) (hok : Value.okWide Try.prog W .any base 43 u)
    (h : DataW.Trod enc Try.prog W 0 (fun _ => true) true 43 u d p) : ∃ c : Cpl, u = c.v ∧ c.Ok := by
  obtain ⟨cs, rfl, -⟩ := okWide_struct Try.underlying43 hok
  obtain ⟨V, e, hV⟩ := flCpl.view W _ d p ⟨_, rfl⟩ h
  obtain ⟨h1, h2⟩ := cplOf_spec hV
  exact ⟨cplOf V, by rw [e]; exact congrArg Value.agg (arr_eq rfl h1), h2⟩
/-- An act as a value. -/
def ActV.cells (x : ActV) : Array Value := #[.int .i64 x.k, .int .i64 x.n] ++ x.c.cells ++ x.p.cells ++ arr 16 fun j => .int .u8 (x.b j)
end Go.Proofs.Ytpoeepdpoblfcaa
