/- connect: what a walk is told of an entry that came in: 64 bytes by value. -/
import Derived.Test.YtchkipafjnehfaaDB
import Derived.Test.YtchkipafjnehfaaViews
namespace Go.Proofs.Ytchkipafjnehfaa
set_option linter.unusedVariables false
set_option linter.unusedSimpArgs false
open Go.ChangeShapes Go.WideShapes Go.ChangeAt Go.RowKit

theorem okWide_array {P : Program} {w : World} {r : Reach} {base : Nat} {n : Nat} {e t : TypeId} {v : Value} (ht : P.underlying t = some (.array n e)) (h : Value.okWide P w r base t v) : ∃ cs, v = .agg cs ∧ cs.size = P.cellsOf t := by
  simp only [Value.okWide, ht] at h
  obtain ⟨cs, h1, h2, _⟩ := h
  exact ⟨cs, h1, h2⟩

set_option maxRecDepth 100000 in
theorem arr_view {H : Type} {enc : TypeId × Value → H} {base : Nat} (W : World) (u : Value) (d : DataW H) (p : List MemPlace) (hok : Value.okWide Try.prog W .any base 43 u)
    (h : DataW.Trod enc Try.prog W 0 (fun _ => true) true 43 u d p) :
    ∃ B : Nat → Int, u = .agg (arr 64 (bB B)) ∧ ∀ j, 0 ≤ B j ∧ B j ≤ 255 := by
  obtain ⟨cs, rfl, hsz⟩ := okWide_array Try.underlying43 hok
  obtain ⟨fuel, hf⟩ := h
  obtain ⟨xs, m, -, hcs, hl, hlen, hf⟩ := DataW.trod_array Try.underlying43 hf
  have hc : Try.prog.cellsOf 43 = 64 := by kernel_rfl
  have h1 : Try.prog.cellsOf 5 = 1 := by kernel_rfl
  rw [hc] at hsz
  obtain ⟨V, hV⟩ := choose_below (n := 64) (α := Int) (p := fun i n => cs[i]? = some (.int .u8 n) ∧ 0 ≤ n ∧ n ≤ 255) (fun i hi => by
    have hi' := hf i hi
    rw [h1, Nat.mul_one] at hi'
    have hx : i < xs.length := by omega
    rw [List.getElem?_eq_getElem hx] at hi'
    obtain ⟨n, e, -, w⟩ := DataW.trod_int Try.underlying5 hi'
    refine ⟨n, ?_, wf_u8 w⟩
    have hic : i < cs.toList.length := by simp; omega
    have e2 : (cs.toList.drop i).take 1 = [cs.toList[i]] := by
      rw [List.drop_eq_getElem_cons hic]; rfl
    have e3 : (Value.agg cs).cells.toList = cs.toList := rfl
    rw [e3, e2] at e
    have e4 := (List.cons.inj e).1
    rw [← e4]
    simp)
  refine ⟨fun j => if j < 64 then V j else 0, ?_, fun j => ?_⟩
  · refine congrArg Value.agg ?_
    refine Array.ext (by rw [hsz, arr_size]) fun i h1 h2 => ?_
    have hi : i < 64 := by omega
    have e1 := (hV i hi).1
    rw [Array.getElem?_eq_getElem h1] at e1
    have e2 := arr_get 64 (bB fun j => if j < 64 then V j else 0) i hi
    rw [Array.getElem?_eq_getElem h2] at e2
    injection e1 with e1
    injection e2 with e2
    rw [e1, e2]
    unfold bB
    simp [hi]
  · by_cases hj : j < 64
    · simp only [hj, if_true]; exact (hV j hj).2
    · simp only [hj, if_false]; omega
end Go.Proofs.Ytchkipafjnehfaa
