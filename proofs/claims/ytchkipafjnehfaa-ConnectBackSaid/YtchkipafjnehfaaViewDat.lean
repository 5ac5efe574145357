/- connect: what a walk is told of connect data that came in. -/
import Derived.Test.YtchkipafjnehfaaLData
import Derived.Test.YtchkipafjnehfaaViewArr
import Derived.Test.YtchkipafjnehfaaViewFab
namespace Go.Proofs.Ytchkipafjnehfaa
set_option linter.unusedVariables false
set_option linter.unusedSimpArgs false
open Go.ChangeShapes Go.WideShapes Go.ChangeAt Go.RowKit

theorem list4' {α : Type} {cs : List α} (h : cs.length = 4) : ∃ a b c d, cs = [a, b, c, d] := by
  match cs, h with
  | [a, b, c, d], _ => exact ⟨a, b, c, d, rfl⟩

set_option maxRecDepth 100000 in
theorem dat_view {H : Type} {enc : TypeId × Value → H} {base : Nat} (W : World) (u : Value) (d : DataW H) (p : List MemPlace) (hok : Value.okWide Try.prog W .any base 69 u)
    (h : DataW.Trod enc Try.prog W 0 (fun _ => true) true 69 u d p) :
    ∃ f : Dat, u = f.v ∧ f.Ok := by
  obtain ⟨cs, rfl, -⟩ := okWide_struct Try.underlying69 hok
  obtain ⟨fuel, hf⟩ := h
  obtain ⟨xs, m, -, hcs, hl, hlen, hf⟩ := DataW.trod_struct Try.underlying69 hf
  have hc19 : Try.prog.cellsOf 69 = 19 := by kernel_rfl
  rw [hc19] at hl
  have hlen' : xs.length = 4 := hlen
  obtain ⟨y0, y1, y2, y3, rfl⟩ := list4' hlen'
  have t0 := hf 0 _ rfl
  have t1 := hf 1 _ rfl
  have t2 := hf 2 _ rfl
  have t3 := hf 3 _ rfl
  have k0 : Try.prog.cellsOf 67 = 16 := by kernel_rfl
  have k1 : Try.prog.cellsOf 22 = 1 := by kernel_rfl
  have k2 : Try.prog.cellsOf 9 = 1 := by kernel_rfl
  have kb : Try.prog.cellsOf 5 = 1 := by kernel_rfl
  simp only [k0, k1, k2, List.getElem?_cons_zero, List.getElem?_cons_succ] at t0 t1 t2 t3
  have hc : (Value.agg cs).cells.toList = cs.toList := rfl
  rw [hc] at t0 t1 t2 t3 hl
  have one : ∀ i (hi : i < 19), (cs.toList.drop i).take 1 = [cs.toList[i]'(by omega)] := fun i hi => by
    rw [List.drop_eq_getElem_cons (by omega)]; rfl
  obtain ⟨n1, e1, -, w1⟩ := DataW.trod_int Try.underlying22 t1
  obtain ⟨s2, e2, -, w2⟩ := DataW.trod_string Try.underlying9 t2
  obtain ⟨s3, e3, -, w3⟩ := DataW.trod_string Try.underlying9 t3
  obtain ⟨zs, m0, -, hcs0, hl0, hlen0, hf0⟩ := DataW.trod_array Try.underlying67 t0
  have f1 := one 16 (by omega)
  have f2 := one 17 (by omega)
  have f3 := one 18 (by omega)
  have g1 : cs.toList[16]'(by omega) = .int .u16 n1 := (List.cons.inj (f1.symm.trans e1)).1
  have g2 : cs.toList[17]'(by omega) = .string s2 := (List.cons.inj (f2.symm.trans e2)).1
  have g3 : cs.toList[18]'(by omega) = .string s3 := (List.cons.inj (f3.symm.trans e3)).1
  obtain ⟨V, hV⟩ := choose_below (n := 16) (α := Int) (p := fun i n => cs.toList[i]? = some (.int .u8 n) ∧ 0 ≤ n ∧ n ≤ 255) (fun i hi => by
    have hi' := hf0 i hi
    rw [kb, Nat.mul_one] at hi'
    have hx : i < zs.length := by omega
    rw [List.getElem?_eq_getElem hx] at hi'
    obtain ⟨n, e, -, w⟩ := DataW.trod_int Try.underlying5 hi'
    refine ⟨n, ?_, wf_u8 w⟩
    have hic : i < ((cs.toList.drop 0).take 16).length := by rw [List.length_take, List.length_drop]; omega
    have e2 : (((cs.toList.drop 0).take 16).drop i).take 1 = [((cs.toList.drop 0).take 16)[i]] := by
      rw [List.drop_eq_getElem_cons hic]; rfl
    have e4 := (List.cons.inj (e2.symm.trans e)).1
    rw [← e4]
    simp)
  refine ⟨⟨fun j => if j < 16 then V j else 0, n1, s2, s3⟩, ?_, ⟨fun j => ?_, wf_u16 w1, by unfold maxLen at w2; simp only []; omega, by unfold maxLen at w3; simp only []; omega⟩⟩
  · refine congrArg Value.agg ?_
    refine Array.ext (by rw [arr_size]; simpa using hl) fun i h1 h2 => ?_
    have hi : i < 19 := by rw [arr_size] at h2; exact h2
    have e2 := arr_get 19 (dcell ⟨fun j => if j < 16 then V j else 0, n1, s2, s3⟩) i hi
    rw [Array.getElem?_eq_getElem h2] at e2
    injection e2 with e2
    rw [e2]
    have e5 : cs[i] = cs.toList[i]'(by simpa using h1) := by simp
    rw [e5]
    unfold dcell
    by_cases hi16 : i < 16
    · rw [if_pos hi16]
      have e1 := (hV i hi16).1
      rw [List.getElem?_eq_getElem (by simpa using h1)] at e1
      injection e1 with e1
      rw [e1]
      simp [hi16]
    · rw [if_neg hi16]
      by_cases h16 : i = 16
      · subst h16; rw [if_pos rfl]; exact g1
      · rw [if_neg h16]
        by_cases h17 : i = 17
        · subst h17; rw [if_pos rfl]; exact g2
        · rw [if_neg h17]
          obtain rfl : i = 18 := by omega
          exact g3
  · by_cases hj : j < 16
    · simp only [hj, if_true]; exact (hV j hj).2
    · simp only [hj, if_false]; omega

theorem data_law' (d : Dat) (ao : Option Addr) (len cap : Nat) (zs : List Int) (w : World) (hok : d.Ok) (hr : IsRow .u8 w ao len cap zs) :
    Calls Try.prog 10 #[d.v, .slice ao len cap] w fun e w' => e = .returned (.bool true) ∧ Below w.heap.size w w' := data_law d ao len cap zs w hok hr
end Go.Proofs.Ytchkipafjnehfaa
