/- memory: Writes: the iterator over a copy of the log. -/
import Derived.Test.YtfploifafpifnaaMG
namespace Go.Proofs.Ytfploifafpifnaa
set_option linter.unusedVariables false
set_option linter.unusedSimpArgs false
open Go.RowKit

/-- Block g is a log: L. -/
def JAt (w : World) (g : Nat) (L : List (Nat × Nat)) : Prop := ∃ G, w.rowIs g 55 769 G ∧ G 768 = .int .i64 L.length ∧ RingOK G L

theorem RingOK.congr {G H : Nat → Value} {L : List (Nat × Nat)} (h : RingOK G L) (e : ∀ i, i < 769 → G i = H i) : RingOK H L := by
  refine ⟨fun i hi => by rw [← e i hi]; exact h.one i hi, ?_⟩
  intro i hi hr
  have hm := Nat.mod_lt i (show 0 < 256 by omega)
  obtain ⟨a1, a2, a3⟩ := h.at' i hi hr
  exact ⟨(e _ (by omega)).symm.trans a1, (e _ (by omega)).symm.trans a2, (e _ (by omega)).symm.trans a3⟩

theorem JAt.kept {S : Nat → Prop} {w w' : World} {g : Nat} {L : List (Nat × Nat)} (h : JAt w g L) (k : Keeps S w w') (hg : ¬ S g) : JAt w' g L := by
  obtain ⟨G, h1, h2⟩ := h
  exact ⟨G, k.rowIs h1 hg, h2⟩

theorem oneCells {G : Nat → Value} {n : Nat} (h : ∀ i, i < n → (G i).oneCell' = true) : (((List.range n).map fun j => G (0 + j)).toArray).all (·.oneCell') = true :=
  all_oneCell_toArray fun v hv => by
    simp only [List.mem_map, List.mem_range] at hv
    obtain ⟨i, hi, rfl⟩ := hv
    rw [Nat.zero_add]; exact h i hi

end Go.Proofs.Ytfploifafpifnaa
