/- Maps with integer keys, as the list of their pairs in some order: a store under a new key, a deletion, a look-up. Over any program. -/
import Derived.Test.YtiinjjfggmmkmaaMap
import Derived.Test.YtiinjjfggmmkmaaZH
namespace Go.Proofs.Ytiinjjfggmmkmaa
set_option linter.unusedVariables false
set_option linter.unusedSimpArgs false
open Go.RowKit Go.MapKept

/-- Block r is a map whose pairs are kv, in some order. -/
def MapIs (q : IntKind) (w : World) (r : Nat) (kv : List (Int × Value)) : Prop :=
  ∃ es clock, w.heap[r]? = some (.map es clock) ∧ Stamped es clock ∧ (∀ x ∈ es.toList, x.key = .int q (zKey x)) ∧ (es.toList.map fun x => (zKey x, x.val)).Perm kv
namespace MapIs
variable {q : IntKind} {w w' : World} {r : Nat} {kv kv' : List (Int × Value)}
theorem lt (h : MapIs q w r kv) : r < w.heap.size := by
  obtain ⟨es, clock, hb, _⟩ := h
  exact (Array.getElem?_eq_some_iff.1 hb).1
theorem same (h : MapIs q w r kv) (e : w'.heap[r]? = w.heap[r]?) : MapIs q w' r kv := by
  obtain ⟨es, clock, hb, h'⟩ := h
  exact ⟨es, clock, e.trans hb, h'⟩
theorem below (h : MapIs q w r kv) (hb : Below w.heap.size w w') : MapIs q w' r kv := h.same (hb.block r h.lt)
theorem kept {S : Nat → Prop} (h : MapIs q w r kv) (hk : Keeps S w w') (hS : ¬ S r) : MapIs q w' r kv := h.same (hk.block r h.lt hS)
theorem perm (h : MapIs q w r kv) (hp : kv.Perm kv') : MapIs q w r kv' := by
  obtain ⟨es, clock, hb, h1, h2, h3⟩ := h
  exact ⟨es, clock, hb, h1, h2, h3.trans hp⟩
theorem made (w : World) : MapIs q (w.alloc (.map #[] 0)) w.heap.size [] := ⟨#[], 0, (MapKept.heap_alloc w _).1, stamped_empty 0, (fun x hx => by cases hx), List.Perm.refl _⟩
theorem nd (h : MapIs q w r kv) : (kv.map (·.1)).Nodup := by
  obtain ⟨es, clock, hb, h1, h2, h3⟩ := h
  have h4 := h1.2.2
  have e : es.toList.map (·.key) = ((es.toList.map fun x => (zKey x, x.val)).map (·.1)).map (.int q) := by
    rw [List.map_map, List.map_map]
    exact List.map_congr_left fun x hx => h2 x hx
  have h5 : (((es.toList.map fun x => (zKey x, x.val)).map (·.1)).map (Value.int q)).Nodup := by
    rw [← e]
    exact h4
  have h6 : ((es.toList.map fun x => (zKey x, x.val)).map (·.1)).Nodup := (List.pairwise_map.1 h5).imp (fun {a b} hab (e : a = b) => hab (by rw [e]))
  exact (List.Perm.nodup_iff (h3.map (·.1))).1 h6
theorem isKeys {es : Array MapEntry} (h2 : ∀ x ∈ es.toList, x.key = .int q (zKey x)) : ∀ x ∈ es.toList, IsKey (.int q) x.key := fun x hx => by
  rw [h2 x hx]
  simp [IsKey]
section
variable {P : Program} {t kt et : TypeId} {k : Int} {v : Value}
theorem look (h : MapIs q w r kv) (ht : P.underlying t = some (.map kt et)) (hk : P.underlying kt = some (.int q)) (hm : (k, v) ∈ kv) (ok : Bool) :
    (Instr.lookup t (.map (some r)) (.int q k) ok).run P w = .ok (if ok then .tuple #[v, .bool true] else v) w := by
  have hnd := h.nd
  obtain ⟨es, clock, hb, h1, h2, h3⟩ := h
  have hm' := h3.mem_iff.2 hm
  obtain ⟨x, hx, ex⟩ := List.mem_map.1 hm'
  injection ex with e1 e2
  rcases findNow_spec (d := .int q) (k := .int q k) (by simp [IsKey]) es.toList 0 (isKeys h2) with ⟨hf, hn⟩ | ⟨j, e, hf, hj, he⟩
  · exact absurd (by rw [h2 x hx, e1]) (hn x hx)
  · have hemem : e ∈ es.toList := List.mem_of_getElem? hj
    have : e = x := by
      have hk1 := h2 e hemem
      rw [he] at hk1
      injection hk1 with _ hk1
      exact (entry_eq_of_key (List.pairwise_map.1 h1.2.2) hemem hx (by rw [he, h2 x hx, e1]))
    subst this
    rw [e2] at hf
    exact run_lookup_hit ht hk hb k _ v ok hf
theorem miss (h : MapIs q w r kv) (ht : P.underlying t = some (.map kt et)) (hk : P.underlying kt = some (.int q)) (hm : k ∉ kv.map (·.1)) (z : Value) (hz : (zeroValue et).run P w = .ok z w) (ok : Bool) :
    (Instr.lookup t (.map (some r)) (.int q k) ok).run P w = .ok (if ok then .tuple #[z, .bool false] else z) w := by
  obtain ⟨es, clock, hb, h1, h2, h3⟩ := h
  rcases findNow_spec (d := .int q) (k := .int q k) (by simp [IsKey]) es.toList 0 (isKeys h2) with ⟨hf, hn⟩ | ⟨j, e, hf, hj, he⟩
  · exact run_lookup_miss ht hk hb k z hz ok hf
  · have hemem : e ∈ es.toList := List.mem_of_getElem? hj
    have hk1 := h2 e hemem
    rw [he] at hk1
    injection hk1 with _ hk1
    refine absurd ?_ hm
    rw [← (h3.map (·.1)).mem_iff, List.map_map]
    exact List.mem_map.2 ⟨e, hemem, hk1.symm⟩
theorem put_new (h : MapIs q w r kv) (ht : P.underlying t = some (.map kt et)) (hk : P.underlying kt = some (.int q)) (hm : k ∉ kv.map (·.1)) (v : Value) :
    ∃ w', (Instr.mapUpdate t (.map (some r)) (.int q k) v).run P w = .ok () w' ∧ MapIs q w' r (kv ++ [(k, v)]) ∧ Keeps (One r) w w' := by
  obtain ⟨es, clock, hb, h1, h2, h3⟩ := h
  have hnk : ∀ e ∈ es.toList, e.key ≠ .int q k := fun e he hk1 => by
    have hk2 := h2 e he
    rw [hk1] at hk2
    injection hk2 with _ hk2
    refine absurd ?_ hm
    rw [← (h3.map (·.1)).mem_iff, List.map_map]
    exact List.mem_map.2 ⟨e, he, hk2.symm⟩
  rcases findNow_spec (d := .int q) (k := .int q k) (by simp [IsKey]) es.toList 0 (isKeys h2) with ⟨hf, hn⟩ | ⟨j, e, hf, hj, he⟩
  · refine ⟨_, run_insert_new (v := v) ht hk hb k hf, ⟨_, _, World.putObj_heap_same (Array.getElem?_eq_some_iff.1 hb).1, stamped_push h1 hnk, ?_, ?_⟩, (Keeps.refl (One r) w).putObj (fun _ => rfl) _⟩
    · intro x hx
      simp only [Array.toList_push, List.mem_append, List.mem_singleton] at hx
      rcases hx with hx | rfl
      · exact h2 x hx
      · rfl
    · rw [Array.toList_push, List.map_append]
      exact h3.append_right _
  · exact absurd he (hnk e (List.mem_of_getElem? hj))
end
theorem ok (h : MapIs q w r kv) : ∃ es clock, w.heap[r]? = some (.map es clock) ∧ EsOk es clock ∧ (∀ e ∈ es.toList, e.key = .int q (zKey e)) ∧ (es.toList.map zKey).Perm (kv.map (·.1)) ∧ es.size = kv.length := by
  obtain ⟨es, clock, hb, h1, h2, h3⟩ := h
  refine ⟨es, clock, hb, ⟨h1.2.1, h1.1⟩, h2, ?_, ?_⟩
  · have := h3.map (·.1)
    rwa [List.map_map] at this
  · have := h3.length_eq
    simpa using this
end MapIs

section
variable {P : Program} {w : World} {t kt et : TypeId} {q : IntKind} {r : Nat} {kv : List (Int × Value)} {ops : Array Oper} {rest : List Oper} {o : Oper} {a : Act} {Q : Exit → Act → World → Prop}
/-- A store under a new key, at the operation of a map's literal. -/
theorem wpList_insert_mp (hg : o.guard = none) (m x v : Operand) (hop : o.op = .insert t m x v) (ht : P.underlying t = some (.map kt et)) (hk : P.underlying kt = some (.int q)) (h : MapIs q w r kv) (k : Int) (u : Value) (hm : a.eval m = .map (some r)) (hx : a.eval x = .int q k) (hv : a.eval v = u)
    (hn : (kv.map (·.1)).contains k = false) (hK : ∀ w', MapIs q w' r (kv ++ [(k, u)]) → Keeps (One r) w w' → wpList P ops Q rest (a.put o.dst undef) w') : wpList P ops Q (o :: rest) a w := by
  refine wpList_plain hg fun K hK' => ?_
  obtain ⟨w', hrun, hM, hkp⟩ := h.put_new ht hk (by simpa using hn) u
  unfold Oper.wp
  simp [execOp, hop, hm, hx, hv, hrun, Result.andThen]
  exact hK' _ _ (hK w' hM hkp)
end
/-- Two sorted lists of the same numbers. -/
theorem sorted_eq {a b : List Int} (ha : a.Pairwise (· ≤ ·)) (hb : b.Pairwise (· ≤ ·)) (hp : a.Perm b) : a = b :=
  hp.eq_of_pairwise (le := fun a b => a ≤ b) (fun a b _ _ h1 h2 => by omega) ha hb
end Go.Proofs.Ytiinjjfggmmkmaa
