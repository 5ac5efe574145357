/- sgl: Build and the reference's Build side by side. -/
import Derived.Test.YtcljbmkdflkeeaaRB
import Derived.Test.YtcljbmkdflkeeaaDW
namespace Go.Proofs.Ytcljbmkdflkeeaa
set_option linter.unusedVariables false
set_option linter.unusedSimpArgs false
open Go.RowKit

theorem lsB_lstB {l : Nat → Dsc} {n : Nat} (hg : ∀ i, i < n → Good (l i)) (hok : ∀ i, i < n → (l i).Ok) (j : Nat) (hj : j < 16 * n) : lsB l j = lstB l j := by
  unfold lsB
  rw [dB_word _ (hg _ (by omega)).1 (hok _ (by omega)) _ (by omega)]
  unfold fwB lstB
  by_cases h : j % 16 < 8
  · rw [if_pos h, if_pos h, Nat.mod_eq_of_lt h]
  · rw [if_neg h, if_neg h, show j % 16 % 8 = j % 16 - 8 by omega]
theorem upd_lsB {l : Nat → Dsc} {n : Nat} (hg : ∀ i, i < n → Good (l i)) (hok : ∀ i, i < n → (l i).Ok) (f : Nat → Int) (a : Nat) : upd f a (16 * n) (lsB l) = upd f a (16 * n) (lstB l) := by
  funext j
  unfold upd
  by_cases h : a ≤ j ∧ j < a + 16 * n
  · rw [if_pos h, if_pos h, lsB_lstB hg hok _ (by omega)]
  · rw [if_neg h, if_neg h]

theorem both_build (b B sz : Nat) (MC : Array Value) (at' n c : Nat) (ao : Option Addr) (l : Nat → Dsc) (f : Nat → Int) (hok : ∀ i, i < n → (l i).Ok) (hn : n ≤ 300) (hat : at' ≤ 18446744073709551615) (hs0 : 0 < sz) (hsz : sz ≤ 4194304) (h2 : MC.size = 2) (hOM : MC.all (·.oneCell') = true) :
    ∃ (D' : Dsc) (er : Int) (f' : Nat → Int),
      (∀ W, MemAt W b B sz f [(0, sz)] → DAt W ao n l → Calls Try.prog 19 #[.pointer (some ⟨b, 0, none⟩), .int .u64 (at' : Nat), .slice ao n c] W fun e w' => e = .returned (.tuple #[.agg D'.cells, .int .i64 er]) ∧ Keeps (Two b B) W w' ∧ ∃ L, MemAt w' b B sz f' L) ∧
      (∀ W, RefAt (Two b B) W (.agg MC) sz f [] → b < W.heap.size → B < W.heap.size → DAt W ao n l → Calls Try.prog 20 #[.agg MC, .int .u64 (at' : Nat), .slice ao n c] W fun e w' => ∃ MC' L, e = .returned (.tuple #[.agg MC', .agg D'.cells, .int .i64 er]) ∧ Below W.heap.size W w' ∧ RefAt (Two b B) w' (.agg MC') sz f' L) := by
  have hS : ∀ W : World, b < W.heap.size → B < W.heap.size → ∀ j, Two b B j → j < W.heap.size := fun W h h' j e => by rcases e with e | e <;> omega
  have kb : ∀ {W w' : World}, Below W.heap.size W w' → Keeps (Two b B) W w' := fun h => Keeps.of_below h
  by_cases h0 : n = 0
  · subst h0
    refine ⟨zDsc, 2, f, fun W hM hD => (bld_zero at' ao c b B sz f [(0, sz)] W hM hs0).mono fun e w' h => ⟨h.1, kb h.2, _, hM.below h.2⟩, fun W hM hb hB hD => ?_⟩
    exact (rb_out MC at' ao 0 c sz f [] (Two b B) W hM h2 hOM (.inl (by omega)) (by unfold maxLen; omega)).mono fun e w' h => ⟨MC, [], h.1, h.2, hM.below h.2⟩
  have hB1 := fun W hM hD => bld_any at' ao n c b B sz f [(0, sz)] W hM hs0 l hD hok (by omega) (by omega) hat (by simp)
  have hB2 := fun W hM hb hB hD => rb_any MC at' ao n c sz f [] (Two b B) W hM h2 hOM l hD hok (by omega) (by omega) hat (by simp) hsz (hS W hb hB)
  by_cases hg : ∀ i, i < n → Good (l i)
  · have hng : ¬ ∃ i, i < n ∧ ¬ Good (l i) := fun ⟨i, hi, h⟩ => h (hg i hi)
    by_cases h1 : n = 1
    · refine ⟨l 0, 0, f, fun W hM hD => (hB1 W hM hD).mono ?_, fun W hM hb hB hD => (hB2 W hM hb hB hD).mono ?_⟩
      · rintro e w' (⟨h, -⟩ | ⟨-, -, rfl, hb⟩ | ⟨-, h, -⟩ | ⟨-, h, -⟩)
        · exact absurd h hng
        · exact ⟨rfl, kb hb, _, hM.below hb⟩
        · omega
        · omega
      · rintro e w' ⟨hbl, ⟨h, -⟩ | ⟨-, -, rfl⟩ | ⟨-, h, -⟩ | ⟨-, h, -⟩⟩
        · exact absurd h hng
        · exact ⟨MC, [], rfl, hbl, hM.below hbl⟩
        · omega
        · omega
    · by_cases hf : at' + 16 * n ≤ sz
      · have hc : chk sz (at' : Int) ((16 * n : Nat) : Int) = 0 := by unfold chk; rw [if_neg (by omega), if_pos (by omega)]
        refine ⟨⟨4, at', (16 * n : Nat), 0⟩, 0, upd f at' (16 * n) (lstB l), fun W hM hD => (hB1 W hM hD).mono ?_, fun W hM hb hB hD => (hB2 W hM hb hB hD).mono ?_⟩
        · rintro e w' (⟨h, -⟩ | ⟨-, h, -⟩ | ⟨-, -, h, -⟩ | ⟨-, -, -, rfl, hk, hm⟩)
          · exact absurd h hng
          · omega
          · omega
          · exact ⟨rfl, hk, _, hm⟩
        · rintro e w' ⟨hbl, ⟨h, -⟩ | ⟨-, h, -⟩ | ⟨-, -, h, -⟩ | ⟨-, -, -, MC', L', rfl, hr⟩⟩
          · exact absurd h hng
          · omega
          · exact absurd hc h
          · exact ⟨MC', L', rfl, hbl, by rw [← upd_lsB hg hok]; exact hr⟩
      · have hc : chk sz (at' : Int) ((16 * n : Nat) : Int) = 3 := by unfold chk; rw [if_neg (by omega), if_neg (by omega)]
        refine ⟨zDsc, 3, f, fun W hM hD => (hB1 W hM hD).mono ?_, fun W hM hb hB hD => (hB2 W hM hb hB hD).mono ?_⟩
        · rintro e w' (⟨h, -⟩ | ⟨-, h, -⟩ | ⟨-, -, -, rfl, hb⟩ | ⟨-, -, h, -⟩)
          · exact absurd h hng
          · omega
          · exact ⟨rfl, kb hb, _, hM.below hb⟩
          · omega
        · rintro e w' ⟨hbl, ⟨h, -⟩ | ⟨-, h, -⟩ | ⟨-, -, -, rfl⟩ | ⟨-, -, h, -⟩⟩
          · exact absurd h hng
          · omega
          · exact ⟨MC, [], by rw [hc], hbl, hM.below hbl⟩
          · rw [hc] at h; exact absurd h (by decide)
  · have hng : ∃ i, i < n ∧ ¬ Good (l i) := Classical.byContradiction fun h => hg fun i hi => Classical.byContradiction fun h' => h ⟨i, hi, h'⟩
    refine ⟨zDsc, 2, f, fun W hM hD => (hB1 W hM hD).mono ?_, fun W hM hb hB hD => (hB2 W hM hb hB hD).mono ?_⟩
    · rintro e w' (⟨-, rfl, hb⟩ | ⟨h, -⟩ | ⟨h, -⟩ | ⟨h, -⟩)
      · exact ⟨rfl, kb hb, _, hM.below hb⟩
      all_goals exact absurd h hg
    · rintro e w' ⟨hbl, ⟨-, rfl⟩ | ⟨h, -⟩ | ⟨h, -⟩ | ⟨h, -⟩⟩
      · exact ⟨MC, [], rfl, hbl, hM.below hbl⟩
      all_goals exact absurd h hg
end Go.Proofs.Ytcljbmkdflkeeaa

namespace Go.Proofs.Ytcljbmkdflkeeaa
open Go.RowKit

/-- a block or bucket that the law takes -/
def Fits (d : Dsc) : Prop := Good d ∧ (d.k = 2 ∨ (8192 ≤ d.a ∧ d.a ≤ 16384 ∧ d.n ≤ 16384 - d.a))
instance (d : Dsc) : Decidable (Fits d) := by unfold Fits; infer_instance
/-- the first kk of a list, and the descriptor of the second segment behind them -/
def onL (l : Nat → Dsc) (kk : Nat) (d : Dsc) (i : Nat) : Dsc := if i < kk then l i else d
theorem flB_on (l : Nat → Dsc) (kk : Nat) (d : Dsc) (i : Nat) (h : i ≤ kk) : flB (onL l kk d) i = flB l i := by
  induction i with
  | zero => rfl
  | succ i ih =>
    show flB (onL l kk d) i ++ dBs (onL l kk d i) = flB l i ++ dBs (l i)
    rw [ih (by omega), show onL l kk d i = l i by unfold onL; rw [if_pos (by omega)]]
theorem flB_on1 (l : Nat → Dsc) (kk : Nat) (d : Dsc) : flB (onL l kk d) (kk + 1) = flB l kk ++ dBs d := by
  show flB (onL l kk d) kk ++ dBs (onL l kk d kk) = _
  rw [flB_on l kk d kk (Nat.le_refl _), show onL l kk d kk = d by unfold onL; rw [if_neg (by omega)]]
theorem lies_ls {f : Nat → Int} {a m : Nat} {l : Nat → Dsc} {j : Nat} (hj : j < m) (hv : Vld (l j)) (ho : (l j).Ok) : Lies (upd f a (16 * m) (lsB l)) (a + 16 * j) (l j) := fun i hi => by
  unfold upd lsB
  rw [if_pos (by omega), show a + 16 * j + i - a = 16 * j + i by omega, show (16 * j + i) / 16 = j by omega, show (16 * j + i) % 16 = i by omega]
  exact dB_word (l j) hv ho i hi
theorem lies_past {f g : Nat → Int} {a n A : Nat} {d : Dsc} (h : Lies f A d) (ho : A + 16 ≤ a ∨ a + n ≤ A) : Lies (upd f a n g) A d := fun i hi => by
  unfold upd
  rw [if_neg (by omega)]
  exact h i hi
theorem bytes_ls (l : Nat → Dsc) : Bytes (lsB l) := fun i => dB_bd _ _
/-- the last segment's descriptor -/
def hdL (m : Nat) : Dsc := ⟨4, 4096, (16 * m : Nat), 0⟩
/-- the memory behind the three writes -/
def hldF (l : Nat → Dsc) (kk m n : Nat) : Nat → Int :=
  upd (upd (upd (fun _ => 0) 512 (16 * (kk + 1)) (lsB (onL l kk (hdL m)))) 4096 (16 * m) (lsB fun j => l (kk + j))) 2048 (16 * n) (lstB l)
theorem bytes_hld (l : Nat → Dsc) (kk m n : Nat) : Bytes (hldF l kk m n) := bytes_upd (bytes_upd (bytes_upd bytes0 (bytes_ls _)) (bytes_ls _)) (bytes_lst _)
def hldR (th : Bool) (l : Nat → Dsc) (n : Nat) (N : Int) : Except Int (List Spn) := if (fold th l n (N, [])).1 = 0 then .ok (fold th l n (N, [])).2 else .error 162
theorem fits_chk {d : Dsc} (h : Fits d) : d.k = 2 ∨ chk 16384 d.a d.n = 0 := by
  rcases h.2 with h2 | ⟨h1, h2, h3⟩
  · exact .inl h2
  · exact .inr (chk_fit (by omega) h.1.1.2.1.1 (by show d.a + d.n ≤ ((16384 : Nat) : Int); omega))
theorem hld_spans (l : Nat → Dsc) (kk m n : Nat) (N : Int) (th : Bool) (hf : ∀ j, j < n → Fits (l j)) (hok : ∀ j, j < n → (l j).Ok) (h1 : 1 ≤ kk) (hm : 1 ≤ m) (hn : kk + m = n) (h20 : n ≤ 20) (hN0 : 0 ≤ N) (hN1 : N ≤ 100000) :
    spansM (hldF l kk m n) 16384 ⟨4, 2048, (16 * n : Nat), 0⟩ N th = hldR th l n N ∧ spansM (hldF l kk m n) 16384 ⟨3, 512, (16 * (kk + 1) : Nat), 0⟩ N th = hldR th l n N := by
  constructor
  · exact spans_last (A := 2048) (n := n) ⟨fun j hj => lies_upd hj, fun j hj => (hf j hj).1, hok, fun j hj => fits_chk (hf j hj)⟩ (by omega) (by omega) (by omega) hN0 (by omega)
  · have S1 : Seg (hldF l kk m n) 16384 512 kk l := ⟨fun j hj => lies_past (lies_past (by
        have h := lies_ls (f := fun _ => 0) (a := 512) (m := kk + 1) (l := onL l kk (hdL m)) (j := j) (by omega) (by unfold onL; rw [if_pos hj]; exact (hf j (by omega)).1.1) (by unfold onL; rw [if_pos hj]; exact hok j (by omega))
        rw [show onL l kk (hdL m) j = l j by unfold onL; rw [if_pos hj]] at h
        exact h) (by omega)) (by omega), fun j hj => (hf j (by omega)).1, fun j hj => hok j (by omega), fun j hj => fits_chk (hf j (by omega))⟩
    have S2 : Seg (hldF l kk m n) 16384 4096 m (fun j => l (kk + j)) := ⟨fun j hj => lies_past (lies_ls (l := fun j => l (kk + j)) hj (hf _ (by omega)).1.1 (hok _ (by omega))) (by omega), fun j hj => (hf _ (by omega)).1, fun j hj => hok _ (by omega), fun j hj => fits_chk (hf _ (by omega))⟩
    have hL : Lies (hldF l kk m n) (512 + 16 * kk) (hdL m) := lies_past (lies_past (by
        have hv : Vld (hdL m) := vld_seg (k := 4) (.inr rfl) (A := 4096) (by omega)
        have ho : (hdL m).Ok := ok_seg (k := 4) (.inr rfl) (A := 4096) (by omega) (by omega)
        have h := lies_ls (f := fun _ => 0) (a := 512) (m := kk + 1) (l := onL l kk (hdL m)) (j := kk) (by omega) (by unfold onL; rw [if_neg (by omega)]; exact hv) (by unfold onL; rw [if_neg (by omega)]; exact ho)
        rw [show onL l kk (hdL m) kk = hdL m by unfold onL; rw [if_neg (by omega)]] at h
        exact h) (by omega)) (by omega)
    have h := spans_two (th := th) (N := N) S1 S2 hL h1 hm (by omega) (by omega) (by omega) (by omega) hN0 (by omega)
    rw [hn] at h
    exact h
/-- Build of a list that fits. -/
theorem bld_fits (b B n c : Nat) (ao : Option Addr) (l : Nat → Dsc) (f : Nat → Int) (L : List (Nat × Nat)) (w : World) (hM : MemAt w b B 16384 f L) (hD : DAt w ao n l) (hok : ∀ i, i < n → (l i).Ok) (hg : ∀ i, i < n → Fits (l i)) (h2 : 2 ≤ n) (h20 : n ≤ 20) (hL : L.length < 1000) :
    Calls Try.prog 19 #[.pointer (some ⟨b, 0, none⟩), .int .u64 2048, .slice ao n c] w fun e w' => e = .returned (.tuple #[.agg (⟨4, 2048, (16 * n : Nat), 0⟩ : Dsc).cells, .int .i64 0]) ∧ Keeps (Two b B) w w' ∧ ∃ L', MemAt w' b B 16384 (upd f 2048 (16 * n) (lstB l)) L' := by
  refine (bld_any 2048 ao n c b B 16384 f L w hM (by omega) l hD hok (by omega) (by omega) (by omega) (by omega)).mono ?_
  rintro e w' (⟨⟨i, hi, h⟩, -⟩ | ⟨-, h, -⟩ | ⟨-, -, h, -⟩ | ⟨-, -, -, rfl, hk, hm⟩)
  · exact absurd (hg i hi).1 h
  · omega
  · omega
  · exact ⟨rfl, hk, _, hm⟩
theorem build_seg (a n : Int) (w : World) : (Instr.build 26 #[(0, .int .i64 3), (1, .int .u64 a), (2, .int .i64 n)]).run Try.prog w = .ok (.agg (⟨3, a, n, 0⟩ : Dsc).cells) w := by kernel_rfl
theorem src_owns {b B base g cap k : Nat} {l : Nat → Dsc} {W : World} (h : W.ownsRow base 5 1 (.slice (some ⟨g, 0, none⟩) (16 * k) cap) (16 * k) (flB l k)) (hb : b < base) (hB : B < base) (hk : k ≤ 1000) : Src (Two b B) W (some ⟨g, 0, none⟩) (16 * k) (lsB l) := by
  obtain ⟨g2, cap2, F2, eg, hg2, hr2, hc2, hc3, hx2⟩ := newL_of_owns h (by intro e; cases e) (flB_length l k)
  cases eg
  refine ⟨by omega, fun _ => ⟨g, 0, rfl, fun e => by rcases e with e | e <;> omega, fun i hi => ?_⟩⟩
  rw [Nat.zero_add, hr2.cell (by omega)]
  have h3 := hx2 i hi
  rw [flB_get l k i (by omega)] at h3
  exact h3.symm
theorem write_own {b B base g cap k a : Nat} {A : Int} {l : Nat → Dsc} {f : Nat → Int} {L : List (Nat × Nat)} {W : World} (hM : MemAt W b B 16384 f L) (hL : L.length ≤ 1000) (hA : A = a) (hf : a + 16 * k ≤ 16384)
    (h : W.ownsRow base 5 1 (.slice (some ⟨g, 0, none⟩) (16 * k) cap) (16 * k) (flB l k)) (hb : b < base) (hB : B < base) (hk : k ≤ 1000) (h1 : 1 ≤ k) :
    Calls Try.prog 26 #[.pointer (some ⟨b, 0, none⟩), .int .u64 A, .slice (some ⟨g, 0, none⟩) (16 * k) cap] W fun e w' => e = .returned (.int .i64 0) ∧ Keeps (Two b B) W w' ∧ ∃ L', L'.length = L.length + 1 ∧ MemAt w' b B 16384 (upd f a (16 * k) (lsB l)) L' := by
  refine (write_ok' b B 16384 f L a (16 * k) cap (some ⟨g, 0, none⟩) (lsB l) A W hM (by omega) hf (src_owns h hb hB hk) hA).mono ?_
  rintro e w' ⟨rfl, hk, hm⟩
  refine ⟨rfl, hk, _, ?_, hm⟩
  unfold logged
  rw [if_neg (by omega), List.length_append, List.length_singleton]
section
variable {l : Nat → Dsc} {kk m n b B : Nat} {N : Int} {th : Bool} {d : Dsc} {L : List (Nat × Nat)} {W : World} (hd : d.Ok) (hR : spansM (hldF l kk m n) 16384 d N th = hldR th l n N) (hM : MemAt W b B 16384 (hldF l kk m n) L)
include hd hR hM
theorem hld_full {base c ln : Nat} {ao : Option Addr} (h0 : (fold th l n (N, [])).1 = 0) (hl : ln = (fold th l n (N, [])).2.length) (h20 : ln ≤ 20) (ho : W.ownsRow base 62 3 (.slice ao ln c) ln (spC (fold th l n (N, [])).2)) :
    Calls Try.prog 27 #[.pointer (some ⟨b, 0, none⟩), .agg d.cells, .int .i64 N, .bool th, .int .i64 0, .slice ao ln c] W fun e w' => e = .returned (.bool true) ∧ Below W.heap.size W w' := by
  subst hl
  refine spansL_of _ d N 0 th (hldR th l n N) ao _ c W (fun w' hw => by rw [← hR]; exact spans_any d N th b B 16384 _ L w' (hM.below hw) (by omega) hd (bytes_hld l kk m n)) ?_
  unfold hldR
  rw [if_pos h0]
  exact ⟨rfl, rfl, by omega, spAt_owns ho⟩
theorem hld_short (h0 : (fold th l n (N, [])).1 ≠ 0) :
    Calls Try.prog 27 #[.pointer (some ⟨b, 0, none⟩), .agg d.cells, .int .i64 N, .bool th, .int .i64 162, .slice none 0 0] W fun e w' => e = .returned (.bool true) ∧ Below W.heap.size W w' := by
  refine spansL_of _ d N 162 th (hldR th l n N) none 0 0 W (fun w' hw => by rw [← hR]; exact spans_any d N th b B 16384 _ L w' (hM.below hw) (by omega) hd (bytes_hld l kk m n)) ?_
  unfold hldR
  rw [if_neg h0]
  exact ⟨rfl, rfl⟩
end
end Go.Proofs.Ytcljbmkdflkeeaa
