/- memory: logs, where the log is as wanted. -/
import Derived.Test.YtfploifafpifnaaMK
import Derived.Test.YtfploifafpifnaaR2
import Derived.Deep.CutRange
namespace Go.Proofs.Ytfploifafpifnaa
set_option linter.unusedVariables false
set_option linter.unusedSimpArgs false
open Go.RowKit

/-- The slice at ao holds the spans S. -/
def SpanSrc (w : World) (ao : Option Addr) (S : List (Nat × Nat)) : Prop :=
  0 < S.length → ∃ g o, ao = some ⟨g, o, none⟩ ∧ ∀ i (h : i < S.length), w.cell? ⟨g, o + i * 3, none⟩ = some (.int .u64 (S[i]'h).1) ∧
    w.cell? ⟨g, o + i * 3 + 1, none⟩ = some (.int .i64 (S[i]'h).2) ∧ w.cell? ⟨g, o + i * 3 + 2, none⟩ = some (.bool false)

theorem SpanSrc.of {w w' : World} {ao : Option Addr} {S : List (Nat × Nat)} (h : SpanSrc w ao S) (hc : ∀ p v, w.cell? p = some v → w'.cell? p = some v) : SpanSrc w' ao S := fun h0 => by
  obtain ⟨g, o, e, hx⟩ := h h0
  exact ⟨g, o, e, fun i hi => ⟨hc _ _ (hx i hi).1, hc _ _ (hx i hi).2.1, hc _ _ (hx i hi).2.2⟩⟩

@[go_sem] theorem eqnil_seq (w : World) (k : Nat) (x y : Array Value) : (binOp .eql 59 (.func (.func k) x y) .nilFunc).run Try.prog w = .ok (.bool false) w := by kernel_rfl

theorem sizeSpan : (Try.prog.info? 49).map (·.size) = some 3 := by kernel_rfl

end Go.Proofs.Ytfploifafpifnaa

namespace Go.Proofs.Ytfploifafpifnaa
open Go.RowKit

/-- The cells of the spans S, in a row. -/
def spanCells (S : List (Nat × Nat)) : List Value := S.flatMap fun s => [.int .u64 s.1, .int .i64 s.2, .bool false]

theorem infoSpan : (Try.prog.info? 49).map (fun i => (i.zero, i.size, i.bytes)) = some (some (.agg #[.int .u64 0, .int .i64 0, .bool false]), 3, 24) := by kernel_rfl

theorem spanCells_append (S : List (Nat × Nat)) (s : Nat × Nat) : spanCells (S ++ [s]) = spanCells S ++ [.int .u64 s.1, .int .i64 s.2, .bool false] := by simp [spanCells]
theorem spanCells_length : ∀ S : List (Nat × Nat), (spanCells S).length = S.length * 3
  | [] => rfl
  | s :: S => by
    have := spanCells_length S
    simp only [spanCells, List.flatMap_cons, List.length_append, List.length_cons, List.length_nil] at this ⊢
    omega
theorem spanCells_get : ∀ (S : List (Nat × Nat)) (i : Nat) (h : i < S.length), (spanCells S)[i * 3]? = some (.int .u64 (S[i]'h).1) ∧ (spanCells S)[i * 3 + 1]? = some (.int .i64 (S[i]'h).2) ∧ (spanCells S)[i * 3 + 2]? = some (.bool false)
  | s :: S, 0, _ => ⟨rfl, rfl, rfl⟩
  | s :: S, i + 1, h => by
    have := spanCells_get S i (by simpa using h)
    have e : spanCells (s :: S) = .int .u64 s.1 :: .int .i64 s.2 :: .bool false :: spanCells S := rfl
    rw [e, show (i + 1) * 3 = i * 3 + 3 by omega, show i * 3 + 3 + 1 = (i * 3 + 1) + 3 by omega, show i * 3 + 3 + 2 = (i * 3 + 2) + 3 by omega]
    exact this

theorem ownsRow_keeps {w w' : World} {S : Nat → Prop} {base e size n : Nat} {v : Value} {xs : List Value} (h : w.ownsRow base e size v n xs) (k : Keeps S w w') (hS : ∀ j, base ≤ j → ¬ S j) : w'.ownsRow base e size v n xs := by
  refine ⟨h.1, h.2.imp (fun h => h) ?_⟩
  rintro ⟨g, cap, cur, rfl, hb, hg, rest⟩
  exact ⟨g, cap, cur, rfl, hb, (k.block g (lt_of_block hg) (hS g hb)).trans hg, rest⟩

theorem ownsRow_shape {w : World} {base e size n : Nat} {v : Value} {xs : List Value} (h : w.ownsRow base e size v n xs) : ∃ ao c, v = .slice ao n c ∧ n ≤ c ∧ c ≤ maxLen := by
  rcases h.2 with ⟨rfl, rfl⟩ | ⟨g, cap, cur, rfl, -, -, h1, h2, -⟩
  · exact ⟨_, _, rfl, Nat.le_refl _, Nat.zero_le _⟩
  · exact ⟨_, _, rfl, h1, h2⟩

theorem ownsRow_span {w : World} {base c : Nat} {ao : Option Addr} {S : List (Nat × Nat)} (h : w.ownsRow base 49 3 (.slice ao S.length c) S.length (spanCells S)) : SpanSrc w ao S := by
  intro h0
  rcases h.2 with ⟨-, h1⟩ | ⟨g, cap, cur, e, hb, hg, rest⟩
  · omega
  · cases e
    refine ⟨g, 0, rfl, fun i hi => ?_⟩
    have hc := h.cells (g := g) rfl
    obtain ⟨h1, h2, h3⟩ := spanCells_get S i hi
    have e1 := hc _ _ h1
    have e2 := hc _ _ h2
    have e3 := hc _ _ h3
    simp only [Addr.add_mid] at e1 e2 e3
    exact ⟨e1, e2, e3⟩

theorem SpanSrc.drop {w : World} {ao : Option Addr} {L : List (Nat × Nat)} {fr c : Nat} (h : SpanSrc w ao L) (hc : L.length ≤ c) : SpanSrc w (if c = fr then ao else Option.map (fun x => x.add (fr * 3)) ao) (L.drop fr) := by
  intro h0
  rw [List.length_drop] at h0
  obtain ⟨g, o, rfl, hx⟩ := h (by omega)
  rw [if_neg (by omega)]
  refine ⟨g, o + fr * 3, by simp [Addr.add_mid], fun i hi => ?_⟩
  rw [List.length_drop] at hi
  obtain ⟨h1, h2, h3⟩ := hx (fr + i) (by omega)
  rw [show o + (fr + i) * 3 = o + fr * 3 + i * 3 by omega] at h1 h2 h3
  simp only [List.getElem_drop]
  exact ⟨h1, h2, h3⟩

end Go.Proofs.Ytfploifafpifnaa
