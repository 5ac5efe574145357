/- memory: what a walk is told of an act that came in. -/
import Derived.Test.YtobbnfdflogicaaLib
import Derived.ProofKit
import Derived.OpenShut
import Derived.ShutString
import Derived.ChangeOld
import Derived.Below
import Derived.ChangeSlices
namespace Go.Proofs.Ytobbnfdflogicaa
open Go.ChangeShapes Go.WideShapes Go.ChangeAt Go.RowKit

/-- One act: its five cells. -/
def actCells (what n : Int) (addr : Int) (ao : Option Addr) (len cap : Nat) (v : Int) : List Value := [.int .i64 what, .int .i64 n, .int .u64 addr, .slice ao len cap, .int .u8 v]

theorem list5 {α : Type} {cs : List α} (h : cs.length = 5) : ∃ a b c d e, cs = [a, b, c, d, e] := by
  match cs, h with
  | [a, b, c, d, e], _ => exact ⟨a, b, c, d, e, rfl⟩

theorem act_cells {H : Type} {enc : TypeId × Value → H} {W : World} {fuel : Nat} {cs : List Value} {x : DataW H × List MemPlace} (h : DataW.trod enc Try.prog W 0 (fun _ => true) true fuel 58 cs = some x) :
    ∃ what n addr ao len cap v zs, cs = actCells what n addr ao len cap v ∧ (Lit.int .i64 what).wf = true ∧ (Lit.int .i64 n).wf = true ∧ (Lit.int .u64 addr).wf = true ∧ IsRow .u8 W ao len cap zs ∧ (Lit.int .u8 v).wf = true := by
  obtain ⟨xs, m, -, rfl, hl, hlen, hf⟩ := DataW.trod_struct Try.underlying58 h
  have hc5 : Try.prog.cellsOf 58 = 5 := by kernel_rfl
  rw [hc5] at hl
  obtain ⟨c0, c1, c2, c3, c4, rfl⟩ := list5 hl
  have hlen' : xs.length = 5 := hlen
  obtain ⟨y0, y1, y2, y3, y4, rfl⟩ := list5 hlen'
  have t0 := hf 0 _ rfl
  have t1 := hf 1 _ rfl
  have t2 := hf 2 _ rfl
  have t3 := hf 3 _ rfl
  have t4 := hf 4 _ rfl
  have k3 : Try.prog.cellsOf 3 = 1 := by kernel_rfl
  have k29 : Try.prog.cellsOf 29 = 1 := by kernel_rfl
  have k33 : Try.prog.cellsOf 33 = 1 := by kernel_rfl
  have k5 : Try.prog.cellsOf 5 = 1 := by kernel_rfl
  simp only [k3, k29, k33, k5, List.drop_succ_cons, List.drop_zero, List.take_succ_cons, List.take_zero, List.getElem?_cons_zero, List.getElem?_cons_succ] at t0 t1 t2 t3 t4
  obtain ⟨n0, e0, -, w0⟩ := DataW.trod_int Try.underlying3 t0
  obtain ⟨n1, e1, -, w1⟩ := DataW.trod_int Try.underlying3 t1
  obtain ⟨n2, e2, -, w2⟩ := DataW.trod_int Try.underlying29 t2
  obtain ⟨n4, e4, -, w4⟩ := DataW.trod_int Try.underlying5 t4
  obtain ⟨rfl, -⟩ := List.cons.inj e0
  obtain ⟨rfl, -⟩ := List.cons.inj e1
  obtain ⟨rfl, -⟩ := List.cons.inj e2
  obtain ⟨rfl, -⟩ := List.cons.inj e4
  rcases open_ints Try.underlying33 Try.underlying5 (by kernel_rfl) t3 with ⟨e3, _⟩ | ⟨x, l, c, zs, e3, _, hlc, hm, hz, _, hcell, hwz⟩
  · obtain ⟨rfl, -⟩ := List.cons.inj e3
    exact ⟨n0, n1, n2, none, 0, 0, n4, [], rfl, w0, w1, w2, .inl ⟨rfl, rfl, rfl, rfl⟩, w4⟩
  · obtain ⟨rfl, -⟩ := List.cons.inj e3
    exact ⟨n0, n1, n2, some x, l, c, n4, zs, rfl, w0, w1, w2, .inr ⟨x, rfl, hlc, hm, by simpa using hz, hcell, hwz⟩, w4⟩

/-- An act by value. -/
theorem act_view {H : Type} {enc : TypeId × Value → H} {base : Nat} (W : World) (u : Value) (d : DataW H) (p : List MemPlace) (hok : Value.okWide Try.prog W .any base 58 u)
    (h : DataW.Trod enc Try.prog W 0 (fun _ => true) true 58 u d p) :
    ∃ what n addr ao len cap v zs, u = .agg (actCells what n addr ao len cap v).toArray ∧ ((Lit.int .i64 what).wf = true ∧ (Lit.int .i64 n).wf = true ∧ (Lit.int .u64 addr).wf = true ∧ IsRow .u8 W ao len cap zs ∧ (Lit.int .u8 v).wf = true) := by
  obtain ⟨cs, rfl, -⟩ := okWide_struct Try.underlying58 hok
  obtain ⟨fuel, hf⟩ := h
  obtain ⟨what, n, addr, ao, len, cap, v, zs, e, hw⟩ := act_cells hf
  refine ⟨what, n, addr, ao, len, cap, v, zs, ?_, hw⟩
  have : cs.toList = actCells what n addr ao len cap v := e
  rw [← this]
end Go.Proofs.Ytobbnfdflogicaa
