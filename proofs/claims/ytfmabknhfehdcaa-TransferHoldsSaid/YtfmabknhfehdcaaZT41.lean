/- transfer: made, without given cells; is. -/
import Derived.Test.YtfmabknhfehdcaaZT40
import Derived.Test.YtfmabknhfehdcaaZT15
import Derived.ChangeKeysEq
namespace Go.Proofs.Ytfmabknhfehdcaa
set_option linter.unusedVariables false
set_option linter.unusedSimpArgs false
open Go.ChangeShapes Go.WideShapes Go.ChangeAt Go.RowKit Go.Deep

section
variable (pg : Int) (w : World) (hp0 : 0 ≤ pg) (hp1 : pg ≤ 255)
include hp0 hp1
end
end Go.Proofs.Ytfmabknhfehdcaa

namespace Go.Proofs.Ytfmabknhfehdcaa
open Go.RowKit

end Go.Proofs.Ytfmabknhfehdcaa

namespace Go.Proofs.Ytfmabknhfehdcaa
open Go.ChangeShapes Go.WideShapes Go.ChangeAt Go.RowKit Go.Deep

/-- A command. -/
structure Cmd where
  op : Int
  fused : Int
  sgl : Bool
  id : Int
  nsid : Int
  c2 : Int
  c3 : Int
  mt : Int
  d0 : Int
  d1 : Int
  w0 : Int
  w1 : Int
  w2 : Int
  w3 : Int
  w4 : Int
  w5 : Int

def Cmd.cells (c : Cmd) : Array Value := #[.int .u8 c.op, .int .u8 c.fused, .bool c.sgl, .int .u16 c.id, .int .u32 c.nsid, .int .u32 c.c2, .int .u32 c.c3, .int .u64 c.mt, .int .u64 c.d0, .int .u64 c.d1, .int .u32 c.w0, .int .u32 c.w1, .int .u32 c.w2, .int .u32 c.w3, .int .u32 c.w4, .int .u32 c.w5]
def Cmd.v (c : Cmd) : Value := .agg c.cells
structure Cmd.Ok (c : Cmd) : Prop where
  op : 0 ≤ c.op ∧ c.op ≤ 255
  fused : 0 ≤ c.fused ∧ c.fused ≤ 255
  id : 0 ≤ c.id ∧ c.id ≤ 65535
  nsid : 0 ≤ c.nsid ∧ c.nsid ≤ 4294967295
  c2 : 0 ≤ c.c2 ∧ c.c2 ≤ 4294967295
  c3 : 0 ≤ c.c3 ∧ c.c3 ≤ 4294967295
  mt : 0 ≤ c.mt ∧ c.mt ≤ 18446744073709551615
  d0 : 0 ≤ c.d0 ∧ c.d0 ≤ 18446744073709551615
  d1 : 0 ≤ c.d1 ∧ c.d1 ≤ 18446744073709551615
  w0 : 0 ≤ c.w0 ∧ c.w0 ≤ 4294967295
  w1 : 0 ≤ c.w1 ∧ c.w1 ≤ 4294967295
  w2 : 0 ≤ c.w2 ∧ c.w2 ≤ 4294967295
  w3 : 0 ≤ c.w3 ∧ c.w3 ≤ 4294967295
  w4 : 0 ≤ c.w4 ∧ c.w4 ≤ 4294967295
  w5 : 0 ≤ c.w5 ∧ c.w5 ≤ 4294967295


namespace Cmv
def lI64 : Leaf := some (some .i64)
def lU8 : Leaf := some (some .u8)
def lU16 : Leaf := some (some .u16)
def lU32 : Leaf := some (some .u32)
def lU64 : Leaf := some (some .u64)
def lB : Leaf := some none
theorem flI64 : FlatT Try.prog 3 [lI64] := FlatT.int Try.underlying3 (by kernel_rfl)
theorem flU8 : FlatT Try.prog 5 [lU8] := FlatT.int Try.underlying5 (by kernel_rfl)
theorem flU32 : FlatT Try.prog 23 [lU32] := FlatT.int Try.underlying23 (by kernel_rfl)
theorem flU64 : FlatT Try.prog 24 [lU64] := FlatT.int Try.underlying24 (by kernel_rfl)
def lsCmd : List Leaf := [lU8, lU8, lB, lU16, lU32, lU32, lU32, lU64, lU64, lU64, lU32, lU32, lU32, lU32, lU32, lU32]
def vN (v : Value) : Int := match v with | .int _ n => n | _ => 0
def vB (v : Value) : Bool := match v with | .bool b => b | _ => false
theorem leaf_int {k : IntKind} {v : Value} (h : leafOk (some (some k)) v) : v = .int k (vN v) ∧ (Lit.int k (vN v)).wf = true := by
  obtain ⟨n, rfl, hw⟩ := h
  exact ⟨rfl, hw⟩
/-- the command of 16 cells -/
def cmdOf (V : Nat → Value) : Cmd := { op := vN (V 0), fused := vN (V 1), sgl := vB (V 2), id := vN (V 3), nsid := vN (V 4), c2 := vN (V 5), c3 := vN (V 6), mt := vN (V 7), d0 := vN (V 8), d1 := vN (V 9), w0 := vN (V 10), w1 := vN (V 11), w2 := vN (V 12), w3 := vN (V 13), w4 := vN (V 14), w5 := vN (V 15) }
theorem arr_eq {A : Array Value} {n : Nat} {V : Nat → Value} (hs : A.size = n) (h : ∀ j, j < n → A[j]? = some (V j)) : arr n V = A := by
  apply Array.ext_getElem?
  intro i
  by_cases hi : i < n
  · rw [arr_get n V i hi, h i hi]
  · rw [Array.getElem?_eq_none (by rw [arr_size]; omega), Array.getElem?_eq_none (by omega)]
end Cmv
end Go.Proofs.Ytfmabknhfehdcaa

namespace Go.Proofs.Ytfmabknhfehdcaa
open Go.RowKit

/-- the first k pages of a list -/
def pgL (p : Nat → Int) (k : Nat) : List Value := (List.range k).map fun i => .int .u64 (p i)
/-- the pages of the law -/
def pb (i : Nat) : Int := (i : Int) % 8 * 4096
section
variable (ofs st : Int) (w : World) (h0 : 0 ≤ ofs ∧ ofs ≤ 65535) (h1 : 0 ≤ st ∧ st ≤ 65535)
include h0 h1
end
end Go.Proofs.Ytfmabknhfehdcaa
