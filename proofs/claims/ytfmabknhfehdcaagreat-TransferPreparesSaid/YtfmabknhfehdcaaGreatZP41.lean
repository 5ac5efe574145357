/- transfer: Prepare and the specification's Prepare side by side. -/
import Derived.Test.YtfmabknhfehdcaaGreatZP39
import Derived.Test.YtfmabknhfehdcaaGreatZP40
import Derived.Test.YtfmabknhfehdcaaGreatZP31
namespace Go.Proofs.YtfmabknhfehdcaaGreat
set_option linter.unusedSimpArgs false
set_option linter.unusedVariables false
open Go.RowKit
theorem lsB_lstB {l : Nat → Dsc} {n : Nat} (hg : ∀ i, i < n → Good (l i)) (hok : ∀ i, i < n → (l i).Ok) (j : Nat) (hj : j < 16 * n) : lsB l j = lstB l j := by
 unfold lsB
 rw [dB_word _ (hg _ (by omega)).1 (hok _ (by omega)) _ (by omega)]
 unfold fwB lstB
 by_cases h : j % 16 < 8
 ·rw [if_pos h, if_pos h, Nat.mod_eq_of_lt h]
 ·rw [if_neg h, if_neg h, show j % 16 % 8 = j % 16 - 8 by omega]
theorem upd_lsB {l : Nat → Dsc} {n : Nat} (hg : ∀ i, i < n → Good (l i)) (hok : ∀ i, i < n → (l i).Ok) (f : Nat → Int) (a : Nat) : upd f a (16 * n) (lsB l) = upd f a (16 * n) (lstB l) := by
 funext j
 unfold upd
 by_cases h : a ≤ j ∧ j < a + 16 * n
 ·rw [if_pos h, if_pos h, lsB_lstB hg hok _ (by omega)]
 ·rw [if_neg h, if_neg h]
theorem dC_get : ∀ (l : List Dsc) (i : Nat) (h : i < l.length) (j : Nat) (v : Value), (l[i]'h).cells.toList[j]? = some v → (dC l)[i * 4 + j]? = some v
 | x :: r, 0, _, j, v, hv => by
  show (x.cells.toList ++ dC r)[0 * 4 + j]? = _
  have hj : j < x.cells.toList.length := (List.getElem?_eq_some_iff.1 hv).1
  rw [Nat.zero_mul, Nat.zero_add, List.getElem?_append_left hj]
  exact hv
 | x :: r, i + 1, h, j, v, hv => by
  show (x.cells.toList ++ dC r)[(i + 1) * 4 + j]? = _
  have hx : x.cells.toList.length = 4 := rfl
  rw [List.getElem?_append_right (by rw [hx]; omega), hx, show (i + 1) * 4 + j - 4 = i * 4 + j by omega]
  exact dC_get r i (by simpa using h) j v hv
theorem dAt_dC {w : World} {base c : Nat} {ao : Option Addr} {l : List Dsc} {g : Nat → Dsc} {n : Nat} (hn : n = l.length) (h : w.ownsRow base 72 4 (.slice ao n c) n (dC l)) (hg : ∀ i (hi : i < l.length), g i = l[i]'hi) : DAt w ao n g := by
 intro i hi
 rcases h.2 with ⟨-, h1⟩ | ⟨b, cap, cur, e, hb, hc, rest⟩
 ·omega
 ·cases e
  refine ⟨b, 0, rfl, fun j v hv => ?_⟩
  have hcs := h.cells (g := b) rfl
  rw [hg i (by omega)] at hv
  have e1 := hcs _ _ (dC_get l i (by omega) j v hv)
  simp only [Addr.add_mid] at e1
  rw [Nat.zero_add]
  simpa using e1
/-- the descriptors of Prepare -/
def gD (p : Nat → Int) (o N : Int) (np i : Nat) : Dsc := if np = 0 then ⟨1, 0, 0, 0⟩ else bD p o N i
theorem gD_at {w : World} {base c np : Nat} {ao : Option Addr} {p : Nat → Int} {o N : Int} (h : w.ownsRow base 72 4 (.slice ao (blkF p o N np).length c) (blkF p o N np).length (dC (blkF p o N np))) : DAt w ao (blkF p o N np).length (gD p o N np) :=
 dAt_dC rfl h fun i hi => by
  unfold gD blkF at *
  by_cases h0 : np = 0
  ·simp only [h0, if_true] at hi ⊢
   simp at hi
   subst hi
   rfl
  ·simp only [h0, if_false] at hi ⊢
   simp [bL]
theorem blk_len (p : Nat → Int) (o N : Int) (np : Nat) : (blkF p o N np).length = if np = 0 then 1 else np := by
 unfold blkF
 split
 ·rfl
 ·rw [bL_length]
theorem gD_good {np : Nat} {p : Nat → Int} {o N : Int} (hA : TArg np p o N) (hup : U64 np p) (i : Nat) (hi : i < (blkF p o N np).length) : Good (gD p o N np i) ∧ (gD p o N np i).Ok := by
 unfold gD
 split
 ·exact ⟨by decide, ⟨by decide, by decide, by decide, by decide⟩⟩
 ·rename_i h0
  rw [blk_len, if_neg h0] at hi
  have h1 := hup i hi
  have h2 := hA.pg i hi
  have h3 := bN_bd hA.n0 hA.o0 hA.o1 i
  have h4 := hA.n1
  have ho : 0 ≤ bO o i ∧ bO o i < 4096 := by have := hA.o0; have := hA.o1; unfold bO; split <;> omega
  have hk : (bD p o N i).k = 1 := rfl
  have hn : (bD p o N i).n = min (bN o N i) (4096 - bO o i) := rfl
  have ha : (bD p o N i).a = p i + bO o i := rfl
  have hy : (bD p o N i).key = 0 := rfl
  have hlim : lim 1 = 4294967296 := rfl
  refine ⟨⟨⟨by omega, ⟨by omega, by rw [hk, hlim]; omega⟩, .inl hy, .inr (by omega)⟩, by omega, by omega⟩, ⟨by omega, by omega, by omega, by omega⟩⟩
/-- both Builds of the blocks of Prepare -/
theorem both_sb {np : Nat} {p : Nat → Int} {o N : Int} (b B sz : Nat) (MC : Array Value) (a1 a2 : Int) (f : Nat → Int) (hA : TArg np p o N) (hup : U64 np p) (ha1 : 0 ≤ a1 ∧ a1 ≤ 18446744073709551615) (ha2 : 0 ≤ a2 ∧ a2 ≤ 18446744073709551615) (ha : 1 < np → a1 = a2) (h2 : MC.size = 2) (hOM : MC.all (·.oneCell') = true) (hs0 : 0 < sz) (hsz : sz ≤ 4194304) :
  ∃ (d : Dsc) (er : Int) (F : Nat → Int), (er ≠ 0 → F = f) ∧ (er = 0 → d.Ok ∧ Vld d) ∧
   (∀ W v base L, MemAt W b B sz f L → L.length < 1000 → W.ownsRow base 72 4 v (blkF p o N np).length (dC (blkF p o N np)) → Calls Tryz.prog 22 #[.pointer (some ⟨b, 0, none⟩), .int .u64 a1, v] W fun e w' => e = .returned (.tuple #[.agg d.cells, .int .i64 er]) ∧ Keeps (Two b B) W w' ∧ ∃ L, MemAt w' b B sz F L) ∧
   (∀ W v base S, RefAt S W (.agg MC) sz f [] → (∀ j, S j → j < W.heap.size) → W.ownsRow base 72 4 v (blkF p o N np).length (dC (blkF p o N np)) → Calls Tryz.prog 28 #[.agg MC, .int .u64 a2, v] W fun e w' => ∃ MC' L, e = .returned (.tuple #[.agg MC', .agg d.cells, .int .i64 er]) ∧ Below W.heap.size W w' ∧ RefAt S w' (.agg MC') sz F L) := by
 have hk0 := pgs_le o N
 have hkk := hA.k
 have hg := gD_good hA hup
 obtain ⟨n, hn⟩ : ∃ n, n = (blkF p o N np).length := ⟨_, rfl⟩
 have hln : n = if np = 0 then 1 else np := by rw [hn, blk_len]
 have hn1 : 1 ≤ n := by rw [hln]; split <;> omega
 have hn2 : n < 1000 := by rw [hln]; split <;> omega
 obtain ⟨x1, rfl⟩ : ∃ x : Nat, a1 = x := ⟨a1.toNat, by omega⟩
 obtain ⟨x2, rfl⟩ : ∃ x : Nat, a2 = x := ⟨a2.toNat, by omega⟩
 obtain ⟨l, hl⟩ : ∃ l, l = gD p o N np := ⟨_, rfl⟩
 have hgd : ∀ {W : World} {v : Value} {base : Nat}, W.ownsRow base 72 4 v n (dC (blkF p o N np)) → ∃ ao c, v = .slice ao n c ∧ DAt W ao n l := fun {W v base} h => by
  obtain ⟨ao, c, e, -, -⟩ := ownsRow_shape h
  subst e
  refine ⟨ao, c, rfl, ?_⟩
  rw [hl]
  rw [hn] at h ⊢
  exact gD_at h
 rw [← hn] at hg ⊢
 rw [← hl] at hg
 have hB1 := fun (W : World) ao c L (hM : MemAt W b B sz f L) (hL : L.length < 1000) hD => bld_any x1 ao n c b B sz f L W hM hs0 l hD (fun i hi => (hg i hi).2) hn1 (by omega) (by omega) (by omega)
 have hB2 := fun (W : World) ao c S (hM : RefAt S W (.agg MC) sz f []) (hS : ∀ j, S j → j < W.heap.size) hD => rb_any MC x2 ao n c sz f [] S W hM h2 hOM l hD (fun i hi => (hg i hi).2) hn1 (by omega) (by omega) (by simp) hsz hS
 have hng : ¬ ∃ i, i < n ∧ ¬ Good (l i) := fun ⟨i, hi, h⟩ => h (hg i hi).1
 by_cases h1 : n = 1
 ·refine ⟨l 0, 0, f, fun h => absurd rfl h, fun _ => ⟨(hg 0 (by omega)).2, (hg 0 (by omega)).1.1⟩, fun W v base L hM hL ho => ?_, fun W v base S hM hS ho => ?_⟩
  ·obtain ⟨ao, c, rfl, hD⟩ := hgd ho
   refine (hB1 W ao c L hM hL hD).mono ?_
   rintro e w' (⟨h, -⟩ | ⟨-, -, rfl, hb⟩ | ⟨-, h, -⟩ | ⟨-, h, -⟩)
   ·exact absurd h hng
   ·exact ⟨rfl, Keeps.of_below hb, _, hM.below hb⟩
   ·omega
   ·omega
  ·obtain ⟨ao, c, rfl, hD⟩ := hgd ho
   refine (hB2 W ao c S hM hS hD).mono ?_
   rintro e w' ⟨hbl, ⟨h, -⟩ | ⟨-, -, rfl⟩ | ⟨-, h, -⟩ | ⟨-, h, -⟩⟩
   ·exact absurd h hng
   ·exact ⟨MC, [], rfl, hbl, hM.below hbl⟩
   ·omega
   ·omega
 ·have hx : (x1 : Int) = x2 := ha (by rw [hln] at h1; split at h1 <;> omega)
  obtain rfl : x1 = x2 := by omega
  by_cases hf : x1 + 16 * n ≤ sz
  ·have hc : chk sz (x1 : Int) ((16 * n : Nat) : Int) = 0 := by unfold chk; rw [if_neg (by omega), if_pos (by omega)]
   refine ⟨⟨4, x1, (16 * n : Nat), 0⟩, 0, upd f x1 (16 * n) (lstB l), fun h => absurd rfl h, fun _ => ⟨ok_seg (.inr rfl) (by omega) (by omega), vld_seg (.inr rfl) (by omega)⟩, fun W v base L hM hL ho => ?_, fun W v base S hM hS ho => ?_⟩
   ·obtain ⟨ao, c, rfl, hD⟩ := hgd ho
    refine (hB1 W ao c L hM hL hD).mono ?_
    rintro e w' (⟨h, -⟩ | ⟨-, h, -⟩ | ⟨-, -, h, -⟩ | ⟨-, -, -, rfl, hk, hm⟩)
    ·exact absurd h hng
    ·omega
    ·omega
    ·exact ⟨rfl, hk, _, hm⟩
   ·obtain ⟨ao, c, rfl, hD⟩ := hgd ho
    refine (hB2 W ao c S hM hS hD).mono ?_
    rintro e w' ⟨hbl, ⟨h, -⟩ | ⟨-, h, -⟩ | ⟨-, -, h, -⟩ | ⟨-, -, -, MC', L', rfl, hr⟩⟩
    ·exact absurd h hng
    ·omega
    ·exact absurd hc h
    ·exact ⟨MC', L', rfl, hbl, by rw [← upd_lsB (fun i hi => (hg i hi).1) (fun i hi => (hg i hi).2)]; exact hr⟩
  ·have hc : chk sz (x1 : Int) ((16 * n : Nat) : Int) = 3 := by unfold chk; rw [if_neg (by omega), if_neg (by omega)]
   refine ⟨zDsc, 3, f, fun _ => rfl, fun h => absurd h (by decide), fun W v base L hM hL ho => ?_, fun W v base S hM hS ho => ?_⟩
   ·obtain ⟨ao, c, rfl, hD⟩ := hgd ho
    refine (hB1 W ao c L hM hL hD).mono ?_
    rintro e w' (⟨h, -⟩ | ⟨-, h, -⟩ | ⟨-, -, -, rfl, hb⟩ | ⟨-, -, h, -⟩)
    ·exact absurd h hng
    ·omega
    ·exact ⟨rfl, Keeps.of_below hb, _, hM.below hb⟩
    ·omega
   ·obtain ⟨ao, c, rfl, hD⟩ := hgd ho
    refine (hB2 W ao c S hM hS hD).mono ?_
    rintro e w' ⟨hbl, ⟨h, -⟩ | ⟨-, h, -⟩ | ⟨-, -, -, rfl⟩ | ⟨-, -, h, -⟩⟩
    ·exact absurd h hng
    ·omega
    ·exact ⟨MC, [], by rw [hc], hbl, hM.below hbl⟩
    ·omega
/-- What Prepare gives. -/
def P1Post (b B sz : Nat) (D : Array Value) (er : Int) (F : Nat → Int) (w : World) (e : Ending) (w' : World) : Prop := e = .returned (.tuple #[.agg D, .int .i64 er]) ∧ Keeps (Two b B) w w' ∧ ∃ L, MemAt w' b B sz F L
theorem both_prep {C : Array Value} {sgl : Bool} {mt d0 d1 : Int} (hC : Cm C sgl mt d0 d1) (b B sz : Nat) (MC : Array Value) (nl np : Nat) (l p : Nat → Int) (o N : Int) (f : Nat → Int) (h2 : MC.size = 2) (hOM : MC.all (·.oneCell') = true) (hul : U64 nl l) (hup : U64 np p) (hnl : nl ≤ 1000) (hnp : np ≤ 1000) (ho0 : -9223372036854775808 ≤ o) (ho1 : o ≤ 9223372036854775807) (hN0 : -9223372036854775808 ≤ N) (hN1 : N ≤ 9223372036854775807) (hs0 : 0 < sz) (hsz : sz ≤ 4194304) :
  ∃ (D : Array Value) (er : Int) (F : Nat → Int), (D = zCm ∨ ∃ x y, D = cmD C x y) ∧ D.size = 16 ∧ D.all (·.oneCell') = true ∧
   (∀ W la lc pa pc L, MemAt W b B sz f L → L.length < 1000 → UAt W la nl l → UAt W pa np p → np ≤ pc → pc ≤ 9223372036854775807 → (0 < nl → ∀ a, la = some a → ¬ Two b B a.block) → Calls Tryz.prog 6 #[.pointer (some ⟨b, 0, none⟩), .agg C, .slice la nl lc, .slice pa np pc, .int .i64 o, .int .i64 N] W (P1Post b B sz D er F W)) ∧
   (∀ W la lc pa pc S, RefAt S W (.agg MC) sz f [] → (∀ j, S j → j < W.heap.size) → UAt W la nl l → UAt W pa np p → np ≤ pc → pc ≤ 9223372036854775807 → Calls Tryz.prog 7 #[.agg MC, .agg C, .slice la nl lc, .slice pa np pc, .int .i64 o, .int .i64 N] W (RQPost S sz D er F W)) := by
 have z1 : zCm.size = 16 := rfl
 have z2 : zCm.all (·.oneCell') = true := by simp [zCm, Value.oneCell']
 have hD16 : ∀ x y : Int, (cmD C x y).size = 16 ∧ (cmD C x y).all (·.oneCell') = true := fun x y => ⟨by simp [cmD, hC.z], all_set (all_set hC.o 8 _ rfl) 9 _ rfl⟩
 have hDE : ∀ (er x y : Int), (if er = 0 then cmD C x y else zCm).size = 16 ∧ (if er = 0 then cmD C x y else zCm).all (·.oneCell') = true := fun er x y => by
  split
  ·exact hD16 x y
  ·exact ⟨z1, z2⟩
 cases sgl with
 | false =>
  obtain ⟨r1, r2, er, F, hF, hB1, hB2⟩ := both_build b B sz MC nl np l p o N f h2 hOM hul hup hnl hnp ho0 ho1 hN0 hN1 hs0 hsz
  refine ⟨if er = 0 then cmD C r1 r2 else zCm, er, F, (by split; exact .inr ⟨_, _, rfl⟩; exact .inl rfl), (hDE er r1 r2).1, (hDE er r1 r2).2, fun W la lc pa pc L hM hL hl hp hc1 hc2 hlm => ?_, fun W la lc pa pc S hM hS hl hp hc1 hc2 => ?_⟩
  ·refine (prep_p b B sz f L la pa nl lc np pc o N (Two b B) (fun x y r _ w' => x = r1 ∧ y = r2 ∧ r = er ∧ ∃ L, MemAt w' b B sz F L) W hC hM hs0 (fun V hb => (hB1 V la lc pa pc L (hM.below hb) hL (hl.below hb) (hp.below hb) hc1 hc2 hlm).mono ?_) (fun j e => by have := hM.lt; have := hM.lt'; rcases e with e | e <;> omega) ?_).mono ?_
   ·rintro e w' ⟨rfl, hk, hm⟩
    exact ⟨r1, r2, er, rfl, hk, rfl, rfl, rfl, hm⟩
   ·rintro x y r V a c ⟨h1, h2, h3, L', hm⟩ hk
    exact ⟨h1, h2, h3, L', hm.kept hk (fun e => by have := hM.lt; omega) (fun e => by have := hM.lt'; omega)⟩
   ·rintro e w' ⟨x, y, r, V, -, ⟨rfl, rfl, rfl, hm⟩, hk, rfl⟩
    exact ⟨rfl, hk, hm⟩
  ·exact rprep_p MC la pa nl lc np pc o N sz f S W hC hM h2 hOM hS r1 r2 er F hF (fun V S' hM' hS' hb => hB2 V la lc pa pc S' hM' hS' (hl.below hb) (hp.below hb) hc1 hc2)
 | true =>
  by_cases hA : TArg np p o N
  ·by_cases hfl : 1 < np ∧ nl = 0
   ·refine ⟨zCm, 7, f, .inl rfl, z1, z2, fun W la lc pa pc L hM hL hl hp hc1 hc2 hlm => ?_, fun W la lc pa pc S hM hS hl hp hc1 hc2 => ?_⟩
    ·refine (prep_err b B sz f L la pa nl lc np pc p o N W hC hM hs0 hp hup (by omega) ho0 ho1 hN0 hN1 7 (.inr ⟨hA, hfl.1, hfl.2, rfl⟩)).mono ?_
     rintro e w' ⟨rfl, hb⟩
     exact ⟨rfl, Keeps.of_below hb, _, hM.below hb⟩
    ·obtain ⟨⟨g1, g2, g3, g4, g5, g6⟩, -⟩ := targ_iff.1 hA
     refine (rprep_s MC la pa nl lc np pc l p o N sz f S W hC hM h2 hOM hS hl hp hup g1 g2 g3 g4 g5 g6 zDsc 2 f (fun _ => rfl) (fun h => by cases h) (fun _ h => by omega)).mono ?_
     rintro e w' (⟨h, -⟩ | ⟨-, -, -, h⟩ | ⟨-, h, -⟩)
     ·exact absurd hA h
     ·exact h
     ·omega
   ·have ha : ∀ x : Int, (∃ i, i < nl ∧ x = l i) ∨ x = 0 → 0 ≤ x ∧ x ≤ 18446744073709551615 := fun x h => by
     rcases h with ⟨i, hi, rfl⟩ | rfl
     ·exact hul i hi
     ·omega
    obtain ⟨d, er, F, hF, hd, hB1, hB2⟩ := both_sb b B sz MC (if nl = 0 then 0 else l 0) (if np ≤ 1 then 0 else l 0) f hA hup (ha _ (by split; exact .inr rfl; exact .inl ⟨0, by omega, rfl⟩)) (ha _ (by split; exact .inr rfl; exact .inl ⟨0, by omega, rfl⟩)) (fun h => by rw [if_neg (by omega), if_neg (by omega)]) h2 hOM hs0 hsz
    refine ⟨if er = 0 then cmD C d.a (word1 d) else zCm, er, F, (by split; exact .inr ⟨_, _, rfl⟩; exact .inl rfl), (hDE er _ _).1, (hDE er _ _).2, fun W la lc pa pc L hM hL hl hp hc1 hc2 hlm => ?_, fun W la lc pa pc S hM hS hl hp hc1 hc2 => ?_⟩
    ·refine (prep_s b B sz f L la pa nl lc np pc l p o N (Two b B) (fun d' r _ w' => d' = d ∧ r = er ∧ ∃ L, MemAt w' b B sz F L) W hC hM hs0 hl hp hup hA (by omega) (fun V v base hb hbase ho => (hB1 V v base L (hM.below hb) hL ho).mono ?_) (fun j e => by have := hM.lt; have := hM.lt'; rcases e with e | e <;> omega) ?_).mono ?_
     ·rintro e w' ⟨rfl, hk, hm⟩
      exact ⟨d, er, rfl, hk, ⟨rfl, rfl, hm⟩, hd⟩
     ·rintro d' r V a c ⟨h1, h2, L', hm⟩ hk
      exact ⟨h1, h2, L', hm.kept hk (fun e => by have := hM.lt; omega) (fun e => by have := hM.lt'; omega)⟩
     ·rintro e w' ⟨d', r, V, -, ⟨rfl, rfl, hm⟩, hk, rfl⟩
      exact ⟨rfl, hk, hm⟩
    ·obtain ⟨⟨g1, g2, g3, g4, g5, g6⟩, -⟩ := targ_iff.1 hA
     refine (rprep_s MC la pa nl lc np pc l p o N sz f S W hC hM h2 hOM hS hl hp hup g1 g2 g3 g4 g5 g6 d er F hF hd (fun _ _ V S' v base hM' hS' hb hbase hbase2 ho => hB2 V v base S' hM' (fun j h => by have := hS' j h; omega) ho)).mono ?_
     rintro e w' (⟨h, -⟩ | ⟨-, h, h3, -⟩ | ⟨-, -, h⟩)
     ·exact absurd hA h
     ·exact absurd ⟨h, h3⟩ hfl
     ·exact h
  ·refine ⟨zCm, 2, f, .inl rfl, z1, z2, fun W la lc pa pc L hM hL hl hp hc1 hc2 hlm => ?_, fun W la lc pa pc S hM hS hl hp hc1 hc2 => ?_⟩
   ·refine (prep_err b B sz f L la pa nl lc np pc p o N W hC hM hs0 hp hup (by omega) ho0 ho1 hN0 hN1 2 (.inl ⟨hA, rfl⟩)).mono ?_
    rintro e w' ⟨rfl, hb⟩
    exact ⟨rfl, Keeps.of_below hb, _, hM.below hb⟩
   ·by_cases hg : 0 ≤ N ∧ N ≤ 1048576 ∧ 0 ≤ o ∧ o ≤ 4092 ∧ o % 4 = 0 ∧ (np : Int) = pgs o N
    ·obtain ⟨g1, g2, g3, g4, g5, g6⟩ := hg
     refine (rprep_s MC la pa nl lc np pc l p o N sz f S W hC hM h2 hOM hS hl hp hup g1 g2 g3 g4 g5 g6 zDsc 2 f (fun _ => rfl) (fun h => by cases h) (fun h => absurd h hA)).mono ?_
     rintro e w' (⟨-, h⟩ | ⟨h, -⟩ | ⟨h, -⟩)
     ·exact h
     ·exact absurd h hA
     ·exact absurd h hA
    ·refine rprep_arg MC la pa nl lc np pc o N sz f S W hC hM h2 hOM ?_
     rcases Classical.em (0 ≤ N) with a1 | a1
     ·rcases Classical.em (N ≤ 1048576) with a2 | a2
      ·rcases Classical.em (0 ≤ o) with a3 | a3
       ·rcases Classical.em (o ≤ 4092) with a4 | a4
        ·rcases Classical.em (o % 4 = 0) with a5 | a5
         ·exact .inr (.inr (.inr (.inr (.inr fun e => hg ⟨a1, a2, a3, a4, a5, e⟩))))
         ·exact .inr (.inr (.inr (.inr (.inl a5))))
        ·exact .inr (.inr (.inr (.inl (by omega))))
       ·exact .inr (.inr (.inl (by omega)))
      ·exact .inr (.inl (by omega))
     ·exact .inl (by omega)
end Go.Proofs.YtfmabknhfehdcaaGreat
