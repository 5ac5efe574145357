/- Maps whose entries are known one by one: a store under a new key, a look-up. Over any program. -/
import Derived.Test.YtiinjjfggmmkmaaLib
import Derived.MapKept
import Derived.RangeFuncRecord
namespace Go.Proofs.Ytiinjjfggmmkmaa
set_option linter.unusedVariables false
set_option linter.unusedSimpArgs false
open Go.RowKit Go.MapKept

theorem Keeps.putObj {S : Nat → Prop} {a w : World} (h : Keeps S a w) {r : Nat} (hr : r < a.heap.size → S r) (o : Obj) : Keeps S a (w.putObj r o) :=
  ⟨h.os, h.tape, h.output, by have := h.size; simp; omega, fun k hk hS =>
    (World.putObj_heap_other (fun e => hS (by subst e; exact hr hk))).trans (h.block k hk hS)⟩

section
variable {P : Program} {w : World} {t kt et : TypeId} {q : IntKind} {r clock : Nat} {es : Array MapEntry}
theorem run_insert_new (ht : P.underlying t = some (.map kt et)) (hk : P.underlying kt = some (.int q)) (hb : w.heap[r]? = some (.map es clock)) (k : Int) (v : Value)
    (hf : Instr.findNow (.int q) (.int q k) es.toList 0 = some none) :
    (Instr.mapUpdate t (.map (some r)) (.int q k) v).run P w = .ok () (w.putObj r (.map (es.push { key := .int q k, val := v, born := clock }) (clock + 1))) := by
  unfold Instr.mapUpdate
  simp only [Sem.run_bind, run_underlying ht, Result.andThen_ok, MapKept.run_getObj_map hb, run_checkKey (k := .int q k) hk rfl, run_findKey hk hf]
  rw [run_setObj_map _ hb]
  rfl

theorem run_lookup_hit (ht : P.underlying t = some (.map kt et)) (hk : P.underlying kt = some (.int q)) (hb : w.heap[r]? = some (.map es clock)) (k : Int) (i : Nat) (v : Value) (ok : Bool)
    (hf : Instr.findNow (.int q) (.int q k) es.toList 0 = some (some (i, v))) :
    (Instr.lookup t (.map (some r)) (.int q k) ok).run P w = .ok (if ok then .tuple #[v, .bool true] else v) w := by
  unfold Instr.lookup
  simp only [Sem.run_bind, run_underlying ht, Result.andThen_ok, MapKept.run_getObj_map hb, Sem.run_pure, run_checkKey (k := .int q k) hk rfl, run_findKey hk hf]

theorem run_lookup_miss (ht : P.underlying t = some (.map kt et)) (hk : P.underlying kt = some (.int q)) (hb : w.heap[r]? = some (.map es clock)) (k : Int) (z : Value) (hz : (zeroValue et).run P w = .ok z w) (ok : Bool)
    (hf : Instr.findNow (.int q) (.int q k) es.toList 0 = some none) :
    (Instr.lookup t (.map (some r)) (.int q k) ok).run P w = .ok (if ok then .tuple #[z, .bool false] else z) w := by
  unfold Instr.lookup
  simp only [Sem.run_bind, run_underlying ht, Result.andThen_ok, MapKept.run_getObj_map hb, Sem.run_pure, run_checkKey (k := .int q k) hk rfl, run_findKey hk hf, hz]

/-- A store under a new key, at the operation of a map's literal. -/
theorem wpList_insert_new {ops : Array Oper} {rest : List Oper} {o : Oper} {a : Act} {Q : Exit → Act → World → Prop} (hg : o.guard = none) (m x v : Operand) (hop : o.op = .insert t m x v)
    (ht : P.underlying t = some (.map kt et)) (hk : P.underlying kt = some (.int q)) (hb : w.heap[r]? = some (.map es clock)) (k : Int) (u : Value) (hm : a.eval m = .map (some r)) (hx : a.eval x = .int q k) (hv : a.eval v = u)
    (hf : Instr.findNow (.int q) (.int q k) es.toList 0 = some none)
    (h : ∀ w', w'.heap[r]? = some (.map (es.push { key := .int q k, val := u, born := clock }) (clock + 1)) → Keeps (One r) w w' → wpList P ops Q rest (a.put o.dst undef) w') :
    wpList P ops Q (o :: rest) a w := by
  refine wpList_plain hg fun K hK => ?_
  have hrun := run_insert_new (v := u) ht hk hb k hf
  unfold Oper.wp
  simp [execOp, hop, hm, hx, hv, hrun, Result.andThen]
  refine hK _ _ (h _ (World.putObj_heap_same (Array.getElem?_eq_some_iff.1 hb).1) ((Keeps.refl (One r) w).putObj (fun _ => rfl) _))
end
end Go.Proofs.Ytiinjjfggmmkmaa
