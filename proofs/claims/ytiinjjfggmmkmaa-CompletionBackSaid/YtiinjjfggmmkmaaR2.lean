/- A drawing region with calls, over any class of worlds. -/
import Derived.Test.YtiinjjfggmmkmaaLib
import Derived.BigQuiet
import Derived.Deep.QuietTactic
namespace Go.Proofs.Ytiinjjfggmmkmaa
set_option linter.unusedVariables false
set_option linter.unusedSimpArgs false
open Go.RowKit

/-- A world of a class. -/
structure InC (C : World → Prop) where
  w : World
  ok : C w

/-- A region that draws its order, walked once in the order of the text: every operation yields one value in whatever world of the class, and leaves a world of the class. -/
theorem wp_quiet_in {P : Program} {id : Nat} {Q : Exit → Act → World → Prop} {a : Act} {w : World} {l : List Oper} (C : World → Prop) (hC : C { w with drawn := w.drawn + 1 }) (hm : P.follows .mixedOrders = true) (hB : Region.lexB .any l.toArray = true)
    (h : wpQuiet P l.toArray (fun w' => ∃ p : InC C, w' = p.w) (fun a' => ∀ w', (∃ p : InC C, w' = p.w) → Q .normal a' w') l a) : (Code.region id l.toArray true).wp P Q a w :=
  wp_region_quiet (C := fun w' => ∃ p : InC C, w' = p.w) hm hB ⟨⟨_, hC⟩, rfl⟩ (by simpa using h)

/-- A call in a world of the class. -/
theorem calls_in {P : Program} {f : FuncId} {args : Array Value} {w : World} {C : World → Prop} {v : Value}
    (h : Calls P f args w fun e w' => e = .returned v ∧ C w') : Calls P f args w fun e w'' => e = .returned v ∧ ∃ p : InC C, w'' = p.w :=
  h.mono fun _ w' ⟨he, hc⟩ => ⟨he, ⟨w', hc⟩, rfl⟩

section
variable {P : Program} {ops : Array Oper} {C : World → Prop} {Q : Act → Prop} {a : Act} {o : Oper} {rest : List Oper}
/-- A load in the walk of such a region, its outcome known. -/
theorem wpQuiet_load (hw : Region.wanted o (yielded ops a.tmps) = true) (ty : TypeId) (x : Operand) (ho : o.op = .load ty x) (p : Value) (hx : a.eval x = p) {v : Value}
    (hv : ∀ w, C w → (Instr.loadAt ty p).run P w = .ok v w) (h : wpQuiet P ops C Q rest (a.put o.dst v)) : wpQuiet P ops C Q (o :: rest) a :=
  wpQuiet_step fun K hK => by
    rw [if_pos hw]
    refine ⟨v, fun w hC => ?_, hK _ h⟩
    unfold Oper.quietAt execOp
    simp only [ho, hx, Sem.run_bind, hv w hC, Result.andThen_ok, Sem.run_pure]
    exact ⟨rfl, rfl⟩
end

end Go.Proofs.Ytiinjjfggmmkmaa
