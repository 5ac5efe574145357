/- completion: completions, statuses and entries that came in. -/
import Derived.Test.YtiinjjfggmmkmaaFlat
import Derived.Test.YtiinjjfggmmkmaaSt
namespace Go.Proofs.Ytiinjjfggmmkmaa
set_option linter.unusedVariables false
set_option linter.unusedSimpArgs false
open Go.ChangeShapes Go.WideShapes Go.ChangeAt Go.RowKit Go.Deep

theorem FlatT.arr1 {P : Program} {t e : TypeId} {n : Nat} {l : Leaf} (ht : P.underlying t = some (.array n e)) (he : FlatT P e [l]) (hc : P.cellsOf t = n) : FlatT P t (List.replicate n l) :=
  FlatT.array (n := n) ht he (by simpa using hc) (by simp) (by simp) (fun j hj => by
    simp only [List.length_replicate] at hj
    simp [hj, Nat.mod_one])

def lI64 : Leaf := some (some .i64)
def lU8 : Leaf := some (some .u8)
def lU16 : Leaf := some (some .u16)
def lU32 : Leaf := some (some .u32)
def lU64 : Leaf := some (some .u64)
def lB : Leaf := some none
theorem flI64 : FlatT Try.prog 3 [lI64] := FlatT.int Try.underlying3 (by kernel_rfl)
theorem flU8 : FlatT Try.prog 5 [lU8] := FlatT.int Try.underlying5 (by kernel_rfl)
theorem flU16 : FlatT Try.prog 22 [lU16] := FlatT.int Try.underlying22 (by kernel_rfl)
theorem flU32 : FlatT Try.prog 37 [lU32] := FlatT.int Try.underlying37 (by kernel_rfl)
theorem flU64 : FlatT Try.prog 77 [lU64] := FlatT.int Try.underlying77 (by kernel_rfl)
theorem flB : FlatT Try.prog 4 [lB] := FlatT.bool Try.underlying4 (by kernel_rfl)
theorem flR2 : FlatT Try.prog 38 (List.replicate 2 lU32) := FlatT.arr1 Try.underlying38 flU32 (by kernel_rfl)
theorem flA16 : FlatT Try.prog 41 (List.replicate 16 lU8) := FlatT.arr1 Try.underlying41 flU8 (by kernel_rfl)
def lsCmd : List Leaf := [lU8, lU8, lB, lU16, lU32, lU32, lU32, lU64, lU64, lU64, lU32, lU32, lU32, lU32, lU32, lU32]
def lsSt : List Leaf := [lU8, lU8, lB, lB]
theorem flSt : FlatT Try.prog 24 lsSt :=
  FlatT.struct [(0, [lU8]), (1, [lU8]), (2, [lB]), (3, [lB])] Try.underlying24 (by kernel_rfl)
    (fun i s hs => by
      match i, hs with
      | 0, hs => cases hs; exact ⟨_, rfl, rfl, flU8⟩
      | 1, hs => cases hs; exact ⟨_, rfl, rfl, flU8⟩
      | 2, hs => cases hs; exact ⟨_, rfl, rfl, flB⟩
      | 3, hs => cases hs; exact ⟨_, rfl, rfl, flB⟩
      | n + 4, hs => simp at hs) (by decide)
def lsCpl : List Leaf := [lU32, lU32, lU16, lU16, lU16, lB, lU8, lU8, lB, lB]
theorem flCpl : FlatT Try.prog 40 lsCpl :=
  FlatT.struct [(0, List.replicate 2 lU32), (2, [lU16]), (3, [lU16]), (4, [lU16]), (5, [lB]), (6, lsSt)] Try.underlying40 (by kernel_rfl)
    (fun i s hs => by
      match i, hs with
      | 0, hs => cases hs; exact ⟨_, rfl, rfl, flR2⟩
      | 1, hs => cases hs; exact ⟨_, rfl, rfl, flU16⟩
      | 2, hs => cases hs; exact ⟨_, rfl, rfl, flU16⟩
      | 3, hs => cases hs; exact ⟨_, rfl, rfl, flU16⟩
      | 4, hs => cases hs; exact ⟨_, rfl, rfl, flB⟩
      | 5, hs => cases hs; exact ⟨_, rfl, rfl, flSt⟩
      | n + 6, hs => simp at hs) (by decide)
def vN (v : Value) : Int := match v with | .int _ n => n | _ => 0
def vB (v : Value) : Bool := match v with | .bool b => b | _ => false
theorem leaf_int {k : IntKind} {v : Value} (h : leafOk (some (some k)) v) : v = .int k (vN v) ∧ (Lit.int k (vN v)).wf = true := by
  obtain ⟨n, rfl, hw⟩ := h
  exact ⟨rfl, hw⟩
theorem leaf_bool {v : Value} (h : leafOk (some none) v) : v = .bool (vB v) := by
  obtain ⟨b, rfl⟩ := h
  rfl

/-- the completion of 10 cells -/
def cplOf (V : Nat → Value) : Cpl := { r0 := vN (V 0), r1 := vN (V 1), head := vN (V 2), queue := vN (V 3), id := vN (V 4), ph := vB (V 5), ty := vN (V 6), code := vN (V 7), more := vB (V 8), never := vB (V 9) }
theorem cplOf_spec {V : Nat → Value} (h : ∀ (j : Nat) l, lsCpl[j]? = some l → leafOk l (V j)) : (∀ j, j < 10 → (cplOf V).cells[j]? = some (V j)) ∧ (cplOf V).Ok := by
  have h0 := leaf_int (h 0 lU32 rfl)
  have h1 := leaf_int (h 1 lU32 rfl)
  have h2 := leaf_int (h 2 lU16 rfl)
  have h3 := leaf_int (h 3 lU16 rfl)
  have h4 := leaf_int (h 4 lU16 rfl)
  have h5 := leaf_bool (h 5 lB rfl)
  have h6 := leaf_int (h 6 lU8 rfl)
  have h7 := leaf_int (h 7 lU8 rfl)
  have h8 := leaf_bool (h 8 lB rfl)
  have h9 := leaf_bool (h 9 lB rfl)
  refine ⟨fun j hj => ?_, ⟨wf_u32 h0.2, wf_u32 h1.2, wf_u16 h2.2, wf_u16 h3.2, wf_u16 h4.2, wf_u8 h6.2, wf_u8 h7.2⟩⟩
  match j, hj with
  | 0, _ => exact congrArg some h0.1.symm
  | 1, _ => exact congrArg some h1.1.symm
  | 2, _ => exact congrArg some h2.1.symm
  | 3, _ => exact congrArg some h3.1.symm
  | 4, _ => exact congrArg some h4.1.symm
  | 5, _ => exact congrArg some h5.symm
  | 6, _ => exact congrArg some h6.1.symm
  | 7, _ => exact congrArg some h7.1.symm
  | 8, _ => exact congrArg some h8.symm
  | 9, _ => exact congrArg some h9.symm
/-- the bytes of n cells -/
def bytesOf (n : Nat) (V : Nat → Value) (j : Nat) : Int := if j < n then vN (V j) else 0
theorem bytesOf_spec {n : Nat} {V : Nat → Value} (h : ∀ (j : Nat) l, (List.replicate n lU8)[j]? = some l → leafOk l (V j)) : (∀ j, j < n → V j = .int .u8 (bytesOf n V j)) ∧ ∀ j, 0 ≤ bytesOf n V j ∧ bytesOf n V j ≤ 255 := by
  have hj : ∀ j, j < n → V j = .int .u8 (vN (V j)) ∧ (Lit.int .u8 (vN (V j))).wf = true := fun j hj => leaf_int (h j lU8 (by simp [hj]))
  refine ⟨fun j h => ?_, fun j => ?_⟩
  · unfold bytesOf; rw [if_pos h]; exact (hj j h).1
  · unfold bytesOf
    by_cases e : j < n
    · rw [if_pos e]; exact wf_u8 (hj j e).2
    · rw [if_neg e]; omega

theorem arr_eq {A : Array Value} {n : Nat} {V : Nat → Value} (hs : A.size = n) (h : ∀ j, j < n → A[j]? = some (V j)) : arr n V = A := by
  apply Array.ext_getElem?
  intro i
  by_cases hi : i < n
  · rw [arr_get n V i hi, h i hi]
  · rw [Array.getElem?_eq_none (by rw [arr_size]; omega), Array.getElem?_eq_none (by omega)]
set_option maxRecDepth 100000 in
theorem cpl_view {H : Type} {enc : TypeId × Value → H} {base : Nat} (W : World) (u : Value) (d : DataW H) (p : List MemPlace) (hok : Value.okWide Try.prog W .any base 40 u)
    (h : DataW.Trod enc Try.prog W 0 (fun _ => true) true 40 u d p) : ∃ c : Cpl, u = c.v ∧ c.Ok := by
  obtain ⟨cs, rfl, -⟩ := okWide_struct Try.underlying40 hok
  obtain ⟨V, e, hV⟩ := flCpl.view W _ d p ⟨_, rfl⟩ h
  obtain ⟨h1, h2⟩ := cplOf_spec hV
  exact ⟨cplOf V, by rw [e]; exact congrArg Value.agg (arr_eq rfl h1), h2⟩
set_option maxRecDepth 100000 in
theorem b16_view {H : Type} {enc : TypeId × Value → H} {base : Nat} (W : World) (u : Value) (d : DataW H) (p : List MemPlace) (hok : Value.okWide Try.prog W .any base 41 u)
    (h : DataW.Trod enc Try.prog W 0 (fun _ => true) true 41 u d p) : ∃ B : Nat → Int, u = arrB B ∧ ∀ j, 0 ≤ B j ∧ B j ≤ 255 := by
  have hu : ∃ cs, u = .agg cs := by
    simp only [Value.okWide, Try.underlying41] at hok
    obtain ⟨cs, h1, -⟩ := hok
    exact ⟨cs, h1⟩
  obtain ⟨V, e, hV⟩ := flA16.view W _ d p hu h
  obtain ⟨h1, h2⟩ := bytesOf_spec (n := 16) hV
  refine ⟨bytesOf 16 V, ?_, h2⟩
  rw [e]
  unfold arrB
  rw [show (List.replicate 16 lU8).length = 16 from rfl]
  exact congrArg Value.agg (arr_congr h1)
def staOf (V : Nat → Value) : Sta := { ty := vN (V 0), code := vN (V 1), more := vB (V 2), never := vB (V 3) }
theorem staOf_spec {V : Nat → Value} (h : ∀ (j : Nat) l, lsSt[j]? = some l → leafOk l (V j)) : (∀ j, j < 4 → (staOf V).cells[j]? = some (V j)) ∧ (staOf V).Ok := by
  have h0 := leaf_int (h 0 lU8 rfl)
  have h1 := leaf_int (h 1 lU8 rfl)
  have h2 := leaf_bool (h 2 lB rfl)
  have h3 := leaf_bool (h 3 lB rfl)
  refine ⟨fun j hj => ?_, ⟨wf_u8 h0.2, wf_u8 h1.2⟩⟩
  match j, hj with
  | 0, _ => exact congrArg some h0.1.symm
  | 1, _ => exact congrArg some h1.1.symm
  | 2, _ => exact congrArg some h2.symm
  | 3, _ => exact congrArg some h3.symm
  | n + 4, h => exact absurd h (by omega)
set_option maxRecDepth 100000 in
theorem st_view {H : Type} {enc : TypeId × Value → H} {base : Nat} (W : World) (u : Value) (d : DataW H) (p : List MemPlace) (hok : Value.okWide Try.prog W .any base 24 u)
    (h : DataW.Trod enc Try.prog W 0 (fun _ => true) true 24 u d p) : ∃ c : Sta, u = .agg c.cells ∧ c.Ok := by
  obtain ⟨cs, rfl, -⟩ := okWide_struct Try.underlying24 hok
  obtain ⟨V, e, hV⟩ := flSt.view W _ d p ⟨_, rfl⟩ h
  obtain ⟨h1, h2⟩ := staOf_spec hV
  exact ⟨staOf V, by rw [e]; exact congrArg Value.agg (arr_eq rfl h1), h2⟩
end Go.Proofs.Ytiinjjfggmmkmaa
