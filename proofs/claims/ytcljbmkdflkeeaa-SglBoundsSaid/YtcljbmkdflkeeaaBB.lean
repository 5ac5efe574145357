/- sgl: Build and the reference's Build side by side. -/
import Derived.Test.YtcljbmkdflkeeaaRB
import Derived.Test.YtcljbmkdflkeeaaDW
namespace Go.Proofs.Ytcljbmkdflkeeaa
set_option linter.unusedVariables false
set_option linter.unusedSimpArgs false
open Go.RowKit

theorem lsB_lstB {l : Nat → Dsc} {n : Nat} (hg : ∀ i, i < n → Good (l i)) (hok : ∀ i, i < n → (l i).Ok) (j : Nat) (hj : j < 16 * n) : lsB l j = lstB l j := by
  unfold lsB
  rw [dB_word _ (hg _ (by omega)).1 (hok _ (by omega)) _ (by omega)]
  unfold fwB lstB
  by_cases h : j % 16 < 8
  · rw [if_pos h, if_pos h, Nat.mod_eq_of_lt h]
  · rw [if_neg h, if_neg h, show j % 16 % 8 = j % 16 - 8 by omega]
theorem upd_lsB {l : Nat → Dsc} {n : Nat} (hg : ∀ i, i < n → Good (l i)) (hok : ∀ i, i < n → (l i).Ok) (f : Nat → Int) (a : Nat) : upd f a (16 * n) (lsB l) = upd f a (16 * n) (lstB l) := by
  funext j
  unfold upd
  by_cases h : a ≤ j ∧ j < a + 16 * n
  · rw [if_pos h, if_pos h, lsB_lstB hg hok _ (by omega)]
  · rw [if_neg h, if_neg h]

theorem both_build (b B sz : Nat) (MC : Array Value) (at' n c : Nat) (ao : Option Addr) (l : Nat → Dsc) (f : Nat → Int) (hok : ∀ i, i < n → (l i).Ok) (hn : n ≤ 300) (hat : at' ≤ 18446744073709551615) (hs0 : 0 < sz) (hsz : sz ≤ 4194304) (h2 : MC.size = 2) (hOM : MC.all (·.oneCell') = true) :
    ∃ (D' : Dsc) (er : Int) (f' : Nat → Int),
      (∀ W, MemAt W b B sz f [(0, sz)] → DAt W ao n l → Calls Try.prog 19 #[.pointer (some ⟨b, 0, none⟩), .int .u64 (at' : Nat), .slice ao n c] W fun e w' => e = .returned (.tuple #[.agg D'.cells, .int .i64 er]) ∧ Keeps (Two b B) W w' ∧ ∃ L, MemAt w' b B sz f' L) ∧
      (∀ W, RefAt (Two b B) W (.agg MC) sz f [] → b < W.heap.size → B < W.heap.size → DAt W ao n l → Calls Try.prog 20 #[.agg MC, .int .u64 (at' : Nat), .slice ao n c] W fun e w' => ∃ MC' L, e = .returned (.tuple #[.agg MC', .agg D'.cells, .int .i64 er]) ∧ Below W.heap.size W w' ∧ RefAt (Two b B) w' (.agg MC') sz f' L) := by
  have hS : ∀ W : World, b < W.heap.size → B < W.heap.size → ∀ j, Two b B j → j < W.heap.size := fun W h h' j e => by rcases e with e | e <;> omega
  have kb : ∀ {W w' : World}, Below W.heap.size W w' → Keeps (Two b B) W w' := fun h => Keeps.of_below h
  by_cases h0 : n = 0
  · subst h0
    refine ⟨zDsc, 2, f, fun W hM hD => (bld_zero at' ao c b B sz f [(0, sz)] W hM hs0).mono fun e w' h => ⟨h.1, kb h.2, _, hM.below h.2⟩, fun W hM hb hB hD => ?_⟩
    exact (rb_out MC at' ao 0 c sz f [] (Two b B) W hM h2 hOM (.inl (by omega)) (by unfold maxLen; omega)).mono fun e w' h => ⟨MC, [], h.1, h.2, hM.below h.2⟩
  have hB1 := fun W hM hD => bld_any at' ao n c b B sz f [(0, sz)] W hM hs0 l hD hok (by omega) (by omega) hat (by simp)
  have hB2 := fun W hM hb hB hD => rb_any MC at' ao n c sz f [] (Two b B) W hM h2 hOM l hD hok (by omega) (by omega) hat (by simp) hsz (hS W hb hB)
  by_cases hg : ∀ i, i < n → Good (l i)
  · have hng : ¬ ∃ i, i < n ∧ ¬ Good (l i) := fun ⟨i, hi, h⟩ => h (hg i hi)
    by_cases h1 : n = 1
    · refine ⟨l 0, 0, f, fun W hM hD => (hB1 W hM hD).mono ?_, fun W hM hb hB hD => (hB2 W hM hb hB hD).mono ?_⟩
      · rintro e w' (⟨h, -⟩ | ⟨-, -, rfl, hb⟩ | ⟨-, h, -⟩ | ⟨-, h, -⟩)
        · exact absurd h hng
        · exact ⟨rfl, kb hb, _, hM.below hb⟩
        · omega
        · omega
      · rintro e w' ⟨hbl, ⟨h, -⟩ | ⟨-, -, rfl⟩ | ⟨-, h, -⟩ | ⟨-, h, -⟩⟩
        · exact absurd h hng
        · exact ⟨MC, [], rfl, hbl, hM.below hbl⟩
        · omega
        · omega
    · by_cases hf : at' + 16 * n ≤ sz
      · have hc : chk sz (at' : Int) ((16 * n : Nat) : Int) = 0 := by unfold chk; rw [if_neg (by omega), if_pos (by omega)]
        refine ⟨⟨4, at', (16 * n : Nat), 0⟩, 0, upd f at' (16 * n) (lstB l), fun W hM hD => (hB1 W hM hD).mono ?_, fun W hM hb hB hD => (hB2 W hM hb hB hD).mono ?_⟩
        · rintro e w' (⟨h, -⟩ | ⟨-, h, -⟩ | ⟨-, -, h, -⟩ | ⟨-, -, -, rfl, hk, hm⟩)
          · exact absurd h hng
          · omega
          · omega
          · exact ⟨rfl, hk, _, hm⟩
        · rintro e w' ⟨hbl, ⟨h, -⟩ | ⟨-, h, -⟩ | ⟨-, -, h, -⟩ | ⟨-, -, -, MC', L', rfl, hr⟩⟩
          · exact absurd h hng
          · omega
          · exact absurd hc h
          · exact ⟨MC', L', rfl, hbl, by rw [← upd_lsB hg hok]; exact hr⟩
      · have hc : chk sz (at' : Int) ((16 * n : Nat) : Int) = 3 := by unfold chk; rw [if_neg (by omega), if_neg (by omega)]
        refine ⟨zDsc, 3, f, fun W hM hD => (hB1 W hM hD).mono ?_, fun W hM hb hB hD => (hB2 W hM hb hB hD).mono ?_⟩
        · rintro e w' (⟨h, -⟩ | ⟨-, h, -⟩ | ⟨-, -, -, rfl, hb⟩ | ⟨-, -, h, -⟩)
          · exact absurd h hng
          · omega
          · exact ⟨rfl, kb hb, _, hM.below hb⟩
          · omega
        · rintro e w' ⟨hbl, ⟨h, -⟩ | ⟨-, h, -⟩ | ⟨-, -, -, rfl⟩ | ⟨-, -, h, -⟩⟩
          · exact absurd h hng
          · omega
          · exact ⟨MC, [], by rw [hc], hbl, hM.below hbl⟩
          · rw [hc] at h; exact absurd h (by decide)
  · have hng : ∃ i, i < n ∧ ¬ Good (l i) := Classical.byContradiction fun h => hg fun i hi => Classical.byContradiction fun h' => h ⟨i, hi, h'⟩
    refine ⟨zDsc, 2, f, fun W hM hD => (hB1 W hM hD).mono ?_, fun W hM hb hB hD => (hB2 W hM hb hB hD).mono ?_⟩
    · rintro e w' (⟨-, rfl, hb⟩ | ⟨h, -⟩ | ⟨h, -⟩ | ⟨h, -⟩)
      · exact ⟨rfl, kb hb, _, hM.below hb⟩
      all_goals exact absurd h hg
    · rintro e w' ⟨hbl, ⟨-, rfl⟩ | ⟨h, -⟩ | ⟨h, -⟩ | ⟨h, -⟩⟩
      · exact ⟨MC, [], rfl, hbl, hM.below hbl⟩
      all_goals exact absurd h hg
end Go.Proofs.Ytcljbmkdflkeeaa
