/- connect: what a walk is told of a fabrics command that came in. -/
import Derived.Test.YtchkipafjnehfaaLEncodes
import Derived.ProofKit
import Derived.OpenShut
import Derived.ShutString
import Derived.ChangeOld
import Derived.Below
import Derived.ChangeSlices
namespace Go.Proofs.Ytchkipafjnehfaa
set_option linter.unusedVariables false
set_option linter.unusedSimpArgs false
open Go.ChangeShapes Go.WideShapes Go.ChangeAt Go.RowKit

theorem list9 {α : Type} {cs : List α} (h : cs.length = 9) : ∃ a b c d e f g i j, cs = [a, b, c, d, e, f, g, i, j] := by
  match cs, h with
  | [a, b, c, d, e, f, g, i, j], _ => exact ⟨a, b, c, d, e, f, g, i, j, rfl⟩

set_option maxRecDepth 100000 in
/-- A command by value. -/
theorem fab_view {H : Type} {enc : TypeId × Value → H} {base : Nat} (W : World) (u : Value) (d : DataW H) (p : List MemPlace) (hok : Value.okWide Try.prog W .any base 42 u)
    (h : DataW.Trod enc Try.prog W 0 (fun _ => true) true 42 u d p) :
    ∃ f : Fab, u = f.v ∧ f.Ok := by
  obtain ⟨cs, rfl, -⟩ := okWide_struct Try.underlying42 hok
  obtain ⟨fuel, hf⟩ := h
  obtain ⟨xs, m, -, hcs, hl, hlen, hf⟩ := DataW.trod_struct Try.underlying42 hf
  have hc9 : Try.prog.cellsOf 42 = 9 := by kernel_rfl
  rw [hc9] at hl
  obtain ⟨c0, c1, c2, c3, c4, c5, c6, c7, c8, e⟩ := list9 hl
  have hlen' : xs.length = 9 := hlen
  obtain ⟨y0, y1, y2, y3, y4, y5, y6, y7, y8, rfl⟩ := list9 hlen'
  rw [e] at hf
  have t0 := hf 0 _ rfl
  have t1 := hf 1 _ rfl
  have t2 := hf 2 _ rfl
  have t3 := hf 3 _ rfl
  have t4 := hf 4 _ rfl
  have t5 := hf 5 _ rfl
  have t6 := hf 6 _ rfl
  have t7 := hf 7 _ rfl
  have t8 := hf 8 _ rfl
  have k0 : Try.prog.cellsOf 39 = 1 := by kernel_rfl
  have k1 : Try.prog.cellsOf 22 = 1 := by kernel_rfl
  have k2 : Try.prog.cellsOf 23 = 1 := by kernel_rfl
  have k3 : Try.prog.cellsOf 40 = 1 := by kernel_rfl
  have k4 : Try.prog.cellsOf 4 = 1 := by kernel_rfl
  simp only [k0, k1, k2, k3, k4, List.drop_succ_cons, List.drop_zero, List.take_succ_cons, List.take_zero, List.getElem?_cons_zero, List.getElem?_cons_succ] at t0 t1 t2 t3 t4 t5 t6 t7 t8
  obtain ⟨n0, e0, -, w0⟩ := DataW.trod_int Try.underlying39 t0
  obtain ⟨n1, e1, -, w1⟩ := DataW.trod_int Try.underlying22 t1
  obtain ⟨n2, e2, -, w2⟩ := DataW.trod_int Try.underlying22 t2
  obtain ⟨n3, e3, -, w3⟩ := DataW.trod_int Try.underlying22 t3
  obtain ⟨n4, e4, -, w4⟩ := DataW.trod_int Try.underlying23 t4
  obtain ⟨n5, e5, -⟩ := DataW.trod_bool Try.underlying4 t5
  obtain ⟨n6, e6, -, w6⟩ := DataW.trod_int Try.underlying23 t6
  obtain ⟨n7, e7, -, w7⟩ := DataW.trod_int Try.underlying40 t7
  obtain ⟨n8, e8, -, w8⟩ := DataW.trod_int Try.underlying23 t8
  obtain ⟨rfl, -⟩ := List.cons.inj e0
  obtain ⟨rfl, -⟩ := List.cons.inj e1
  obtain ⟨rfl, -⟩ := List.cons.inj e2
  obtain ⟨rfl, -⟩ := List.cons.inj e3
  obtain ⟨rfl, -⟩ := List.cons.inj e4
  obtain ⟨rfl, -⟩ := List.cons.inj e5
  obtain ⟨rfl, -⟩ := List.cons.inj e6
  obtain ⟨rfl, -⟩ := List.cons.inj e7
  obtain ⟨rfl, -⟩ := List.cons.inj e8
  refine ⟨⟨n0, n1, n2, n3, n4, n5, n6, n7, n8⟩, ?_, ⟨wf_u8 w0, wf_u16 w1, wf_u16 w2, wf_u16 w3, wf_u32 w4, wf_u32 w6, wf_u64 w7, wf_u32 w8⟩⟩
  have hce : cs.toList = [.int .u8 n0, .int .u16 n1, .int .u16 n2, .int .u16 n3, .int .u32 n4, .bool n5, .int .u32 n6, .int .u64 n7, .int .u32 n8] := e
  unfold Fab.v
  simp only []
  refine congrArg Value.agg ?_
  exact Array.toList_inj.1 hce
end Go.Proofs.Ytchkipafjnehfaa
