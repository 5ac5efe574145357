/- memory: the object in memory; add. -/
import Derived.Test.YtfploifafpifnaaMB
import Derived.BigRegion
import Derived.BigQuiet
import Derived.Deep.QuietTactic
import Derived.StillTailTactics
namespace Go.Proofs.Ytfploifafpifnaa
set_option linter.unusedVariables false
set_option linter.unusedSimpArgs false
open Go.RowKit

set_option maxHeartbeats 1000000 in
theorem add_any (b c : Nat) (G : Nat → Value) (ad ln : Nat) (w : World) (hr : w.rowIs b 57 770 G) (hc : G 768 = .int .i64 c) (hlt : c < 4611686018427387904) :
   Calls Try.prog 57 #[.pointer (some ⟨b, 0, none⟩), .agg #[.int .u64 ad, .int .i64 ln, .bool false]] w fun e w' =>
     e = .returned (.tuple #[]) ∧ Keeps (One b) w w' ∧ w'.rowIs b 57 770 (fun i => if i = 768 then .int .i64 (c + 1 : Nat) else if i = 3 * (c % 256) then .int .u64 ad else if i = 3 * (c % 256) + 1 then .int .i64 ln else if i = 3 * (c % 256) + 2 then .bool false else G i) := by
  have h768 := hr.cell (i := 768) (by omega)
  rw [hc] at h768
  have hf := hr.frozen
  have hlt' := hr.lt
  obtain ⟨k, hk⟩ : ∃ k, k = c % 256 := ⟨_, rfl⟩
  have hk' : k < 256 := by omega
  have h0 := hr.cell (i := k * 3) (by omega)
  have h1 := hr.cell (i := k * 3 + 1) (by omega)
  have h2 := hr.cell (i := k * 3 + 2) (by omega)
  have HK := Lib.hid hk
  clear hk
  have hK2 : ((c : Int) % 256) = k := by have := HK.out; omega
  go_enter Try.func57, Try.ntmps57
  go_wp2
  go_region
  go_wp2
  go_end0
  have hk := HK.out
  subst hk
  refine ⟨rfl, ?_, ?_⟩
  · exact (((((Keeps.refl (One b) w).set1 _ _).set1 _ _).set1 _ _).set1 _ _).alloc _ |>.drew
  · refine ((((((hr.set _ _).set _ _).set _ _).set _ _).alloc _).drew).congr fun i hi => ?_
    by_cases e1 : i = 768
    · rw [if_pos e1, if_pos e1]; rfl
    · rw [if_neg e1, if_neg e1]
      by_cases e2 : i = 3 * (c % 256)
      · rw [if_pos e2, if_neg (by omega), if_neg (by omega), if_pos (by omega)]
      · rw [if_neg e2]
        by_cases e3 : i = 3 * (c % 256) + 1
        · rw [if_pos e3, if_neg (by omega), if_pos (by omega)]
        · rw [if_neg e3]
          by_cases e4 : i = 3 * (c % 256) + 2
          · rw [if_pos e4, if_pos (by omega)]
          · rw [if_neg e4, if_neg (by omega), if_neg (by omega), if_neg (by omega)]

/-- The cells of a log: the last 256 spans of L. -/
structure RingOK (G : Nat → Value) (L : List (Nat × Nat)) : Prop where
  one : ∀ i, i < 769 → (G i).oneCell' = true
  at' : ∀ i (h : i < L.length), L.length ≤ i + 256 → G (3 * (i % 256)) = .int .u64 (L[i]'h).1 ∧ G (3 * (i % 256) + 1) = .int .i64 (L[i]'h).2 ∧ G (3 * (i % 256) + 2) = .bool false

/-- Block b is a memory whose bytes are the block B: size bytes f, the log L. -/
structure MemAt (w : World) (b B size : Nat) (f : Nat → Int) (L : List (Nat × Nat)) : Prop where
  ne : b ≠ B
  small : size ≤ 4194304
  obj : ∃ G cap F, w.rowIs b 57 770 G ∧ G 768 = .int .i64 L.length ∧ G 769 = .slice (some ⟨B, 0, none⟩) size cap ∧ RingOK G L ∧
    w.rowIs B 5 cap F ∧ size ≤ cap ∧ cap ≤ 9223372036854775807 ∧ ∀ i, i < size → F i = .int .u8 (f i)

namespace MemAt
theorem kept {S : Nat → Prop} {w w' : World} {b B size : Nat} {f : Nat → Int} {L : List (Nat × Nat)} (h : MemAt w b B size f L) (k : Keeps S w w') (hb : ¬ S b) (hB : ¬ S B) : MemAt w' b B size f L := by
  obtain ⟨h1, h2, G, cap, F, h4, h5, h6, h7, h8, h9⟩ := h
  exact ⟨h1, h2, G, cap, F, k.rowIs h4 hb, h5, h6, h7, k.rowIs h8 hB, h9⟩
theorem slice {w : World} {b B size : Nat} {f : Nat → Int} {L : List (Nat × Nat)} (h : MemAt w b B size f L) : ∃ cap, w.cell? ⟨b, 769, none⟩ = some (.slice (some ⟨B, 0, none⟩) size cap) ∧ size ≤ cap ∧ cap ≤ 9223372036854775807 := by
  obtain ⟨h1, h2, G, cap, F, h4, h5, h6, h7, h8, h9, h10, h11⟩ := h
  exact ⟨cap, by rw [h4.cell (by omega), h6], h9, h10⟩
theorem cells {w : World} {b B size : Nat} {f : Nat → Int} {L : List (Nat × Nat)} (h : MemAt w b B size f L) : ∀ i, i < size → w.cell? ⟨B, i, none⟩ = some (.int .u8 (f i)) := by
  obtain ⟨h1, h2, G, cap, F, h4, h5, h6, h7, h8, h9, h10, h11⟩ := h
  intro i hi
  rw [h8.cell (by omega), h11 i hi]
theorem lt {w : World} {b B size : Nat} {f : Nat → Int} {L : List (Nat × Nat)} (h : MemAt w b B size f L) : b < w.heap.size := by
  obtain ⟨h1, h2, G, cap, F, h4, h5⟩ := h
  exact h4.lt
theorem lt' {w : World} {b B size : Nat} {f : Nat → Int} {L : List (Nat × Nat)} (h : MemAt w b B size f L) : B < w.heap.size := by
  obtain ⟨h1, h2, G, cap, F, h4, h5, h6, h7, h8, h9⟩ := h
  exact h8.lt
theorem congr {w : World} {b B size : Nat} {f g : Nat → Int} {L : List (Nat × Nat)} (h : MemAt w b B size f L) (e : ∀ i, i < size → f i = g i) : MemAt w b B size g L := by
  obtain ⟨h1, h2, G, cap, F, h4, h5, h6, h7, h8, h9, h10, h11⟩ := h
  exact ⟨h1, h2, G, cap, F, h4, h5, h6, h7, h8, h9, h10, fun i hi => by rw [h11 i hi, e i hi]⟩
end MemAt

theorem ring_add {G : Nat → Value} {L : List (Nat × Nat)} (ad ln : Nat) (h : RingOK G L) :
    RingOK (fun i => if i = 768 then .int .i64 (L.length + 1 : Nat) else if i = 3 * (L.length % 256) then .int .u64 ad else if i = 3 * (L.length % 256) + 1 then .int .i64 ln else if i = 3 * (L.length % 256) + 2 then .bool false else G i) (L ++ [(ad, ln)]) := by
  refine ⟨fun i hi => ?_, ?_⟩
  · have := h.one i hi
    split
    · rfl
    · split
      · rfl
      · split
        · rfl
        · split
          · rfl
          · exact this
  intro i hi hr
  simp only [List.length_append, List.length_cons, List.length_nil] at hi hr
  have hm := Nat.mod_lt i (show 0 < 256 by omega)
  rcases Nat.lt_or_ge i L.length with hl | hl
  · have hne : i % 256 ≠ L.length % 256 := by omega
    obtain ⟨a1, a2, a3⟩ := h.at' i hl (by omega)
    rw [List.getElem_append_left hl]
    refine ⟨?_, ?_, ?_⟩ <;> (try dsimp only)
    · rw [if_neg (by omega), if_neg (by omega), if_neg (by omega), if_neg (by omega)]; exact a1
    · rw [if_neg (by omega), if_neg (by omega), if_neg (by omega), if_neg (by omega)]; exact a2
    · rw [if_neg (by omega), if_neg (by omega), if_neg (by omega), if_neg (by omega)]; exact a3
  · have he : i = L.length := by omega
    subst he
    simp only [List.getElem_append_right (Nat.le_refl _), Nat.sub_self, List.getElem_cons_zero]
    refine ⟨?_, ?_, ?_⟩ <;> (try dsimp only)
    · rw [if_neg (by omega), if_pos trivial]
    · rw [if_neg (by omega), if_neg (by omega), if_pos trivial]
    · rw [if_neg (by omega), if_neg (by omega), if_neg (by omega), if_pos trivial]

end Go.Proofs.Ytfploifafpifnaa
