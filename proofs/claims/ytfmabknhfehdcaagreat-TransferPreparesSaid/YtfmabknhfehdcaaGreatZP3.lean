/- memory: the specification's Write. -/
import Derived.Test.YtfmabknhfehdcaaGreatZP2
import Derived.Laws.CopyOwn
namespace Go.Proofs.YtfmabknhfehdcaaGreat
set_option linter.unusedSimpArgs false
set_option linter.unusedVariables false
open Go.RowKit
theorem span_cells {S : Nat → Prop} {w : World} {a : Addr} {L : List (Nat × Nat)} (h : SpanIn S w (some a) L) (j : Nat) (u : Value) (hu : (spanCells L)[j]? = some u) : w.cell? (a.add j) = some u := by
 have hj : j < L.length * 3 := by rw [← spanCells_length]; exact (List.getElem?_eq_some_iff.1 hu).1
 have hi : j / 3 < L.length := by omega
 obtain ⟨g, o, e, -, hx⟩ := h (by omega)
 simp only [Option.some.injEq] at e
 subst e
 obtain ⟨g0, g1, g2⟩ := spanCells_get L (j / 3) hi
 obtain ⟨x0, x1, x2⟩ := hx (j / 3) hi
 rw [Addr.add_mid]
 have hr : j % 3 = 0 ∨ j % 3 = 1 ∨ j % 3 = 2 := by omega
 rcases hr with hr | hr | hr
 ·have e : j = j / 3 * 3 := by omega
  rw [e] at hu ⊢
  rw [g0] at hu
  injection hu with hu
  rw [← hu]
  exact x0
 ·have e : j = j / 3 * 3 + 1 := by omega
  rw [e] at hu ⊢
  rw [g1] at hu
  injection hu with hu
  rw [← hu]
  exact x1
 ·have e : j = j / 3 * 3 + 2 := by omega
  rw [e] at hu ⊢
  rw [g2] at hu
  injection hu with hu
  rw [← hu]
  exact x2
theorem spanCells_one (L : List (Nat × Nat)) : ∀ u ∈ spanCells L, u.oneCell' = true := by
 intro u hu
 unfold spanCells at hu
 obtain ⟨s, -, hs⟩ := List.mem_flatMap.1 hu
 simp at hs
 rcases hs with rfl | rfl | rfl <;> rfl
theorem splice_get {α : Type} (L cs : List α) (off j : Nat) (hf : off + cs.length ≤ L.length) : (splice L off cs)[j]? = if off ≤ j ∧ j < off + cs.length then cs[j - off]? else L[j]? := by
 unfold splice
 by_cases h1 : j < off
 ·rw [List.getElem?_append_left (by simp; omega), if_neg (by omega), List.getElem?_take, if_pos h1]
 ·rw [List.getElem?_append_right (by simp; omega)]
  have e : (L.take off).length = off := by simp; omega
  rw [e]
  by_cases h2 : j < off + cs.length
  ·rw [List.getElem?_append_left (by omega), if_pos (by omega)]
  ·rw [List.getElem?_append_right (by omega), if_neg (by omega), List.getElem?_drop]
   congr 1
   omega
theorem own_spanIn {S : Nat → Prop} {w w' : World} {base c : Nat} {ao : Option Addr} {L : List (Nat × Nat)} {T : Nat → Prop} (h : w.ownsRow base 65 3 (.slice ao L.length c) L.length (spanCells L)) (hS : ∀ j, base ≤ j → ¬ S j) (k : Keeps T w w') (hT : ∀ j, base ≤ j → ¬ T j) : SpanIn S w' ao L := by
 intro h0
 obtain ⟨g, o, e, hx⟩ := ownsRow_span h h0
 have hg : base ≤ g := by
  obtain ⟨-, h2⟩ := h
  rcases h2 with ⟨-, h2⟩ | ⟨g', cap, cur, h3, h4, -⟩
  ·omega
  ·rw [e] at h3
   injection h3 with h3
   injection h3 with h3
   injection h3 with h3
   omega
 exact ⟨g, o, e, hS g hg, fun i hi => ⟨k.cell (hx i hi).1 (hT g hg), k.cell (hx i hi).2.1 (hT g hg), k.cell (hx i hi).2.2 (hT g hg)⟩⟩
theorem one_span (W : World) (A : Nat) (hA : A = W.heap.size) (t : Nat) (x y z : Value) (j : Nat) (u : Value) (hu : [x, y, z][j]? = some u) : (W.alloc (.cells #[x, y, z] t)).cell? ((⟨A, 0, none⟩ : Addr).add j) = some u := by
 subst hA
 match j, hu with
 | 0, hu => simp at hu; subst hu; simp [Addr.add]
 | 1, hu => simp at hu; subst hu; simp [Addr.add]
 | 2, hu => simp at hu; subst hu; simp [Addr.add]
theorem one_span1 (addr k : Nat) : ∀ u ∈ [Value.int .u64 addr, .int .i64 k, .bool false], u.oneCell' = true := by
 intro u hu; simp at hu; rcases hu with rfl | rfl | rfl <;> rfl
/-- What a write leaves. -/
theorem write_end {S : Nat → Prop} {w w4 w6 w7 : World} {g cap n addr k c' : Nat} {f s : Nat → Int} {cur : List Value} {cs : List Value} {ao' : Option Addr} {L' : List (Nat × Nat)} {T : Nat → Prop}
  (HG4 : w4.heap[g]? = some (.cells (splice cur addr cs).toArray 5 (0, 0))) (hcs : cs = (List.range k).map fun i => Value.int .u8 (s i)) (hcur : cur.take (n * 1) = (List.range n).map fun i => Value.int .u8 (f i)) (hlen : cur.length = cap)
  (hn4 : n ≤ 4194304) (hn : n ≤ cap) (hcap : cap ≤ maxLen) (hk : addr + k ≤ n) (hg : w.heap.size ≤ g) (h46 : Below w4.heap.size w4 w6) (hL : L'.length ≤ 9223372036854775807) (hw4 : w.heap.size ≤ w4.heap.size)
  (hown : w6.ownsRow w4.heap.size 65 3 (.slice ao' L'.length c') L'.length (spanCells L')) (hne : ao' = none → L'.length = 0 ∧ c' = 0) (hS : ∀ j, S j → j < w.heap.size) (k7 : Keeps T w6 w7) (hT : ∀ j, w4.heap.size ≤ j → ¬ T j) (hTg : ¬ T g) :
  RefAt S w7 (.agg #[.slice (some ⟨g, 0, none⟩) n cap, .slice ao' L'.length c']) n (upd f addr k s) L' := by
 have hgl : g < w4.heap.size := (Array.getElem?_eq_some_iff.1 HG4).1
 obtain ⟨ao2, c2, e2, h21, h22⟩ := ownsRow_shape hown
 injection e2 with e2a e2b e2c
 subst e2c
 unfold maxLen at hcap h22
 refine ⟨_, _, _, _, rfl, hn, by omega, h21, by omega, hne, ⟨by omega, fun h0 => ⟨g, 0, rfl, fun h => by have := hS g h; omega, fun i hi => ?_⟩⟩, own_spanIn hown (fun j hj h => by have := hS j h; omega) k7 hT⟩
 have h6 : w6.heap[g]? = some (.cells (splice cur addr cs).toArray 5 (0, 0)) := (h46.block g hgl).trans HG4
 have hcl : cs.length = k := by rw [hcs]; simp
 have e1 : (splice cur addr cs)[i]? = some (.int .u8 (upd f addr k s i)) := by
  rw [splice_get cur cs addr i (by omega), hcl]
  unfold upd
  by_cases h : addr ≤ i ∧ i < addr + k
  ·rw [if_pos h, if_pos h, hcs]
   simp only [List.getElem?_map]
   rw [List.getElem?_range (by omega)]
   rfl
  ·rw [if_neg h, if_neg h]
   have : (cur.take (n * 1))[i]? = cur[i]? := by rw [List.getElem?_take, if_pos (by omega)]
   rw [← this, hcur]
   simp [hi]
 refine k7.cell ?_ hTg
 rw [Nat.zero_add]
 have hil : i < (splice cur addr cs).length := (List.getElem?_eq_some_iff.1 e1).1
 have hr : w6.rowIs g 5 cap (fun i => (splice cur addr cs).getD i undef) := by
  refine ⟨_, h6, ?_, fun i hi => ?_⟩
  ·rw [List.size_toArray, length_splice _ _ _ (by omega), hlen]
  ·have hi' : i < (splice cur addr cs).length := by rw [length_splice _ _ _ (by omega), hlen]; exact hi
   simp [hi']
 have := hr.cell (i := i) (by omega)
 rw [this, List.getD_eq_getElem?_getD, e1]
 rfl
set_option maxRecDepth 100000 in
set_option maxHeartbeats 2000000 in
theorem rwrite_ok (S : Nat → Prop) (v : Value) (n : Nat) (f : Nat → Int) (L : List (Nat × Nat)) (addr k bc : Nat) (bo : Option Addr) (s : Nat → Int) (w : World) (h : RefAt S w v n f L) (hn : n ≤ 4194304) (hk : addr + k ≤ n) (hk0 : 0 < k)
  (hs : Src S w bo k s) (hL : L.length ≤ 1000) (hS : ∀ j, S j → j < w.heap.size) :
  Calls Tryz.prog 68 #[v, .int .u64 addr, .slice bo k bc] w fun e w' => ∃ v', e = .returned (.tuple #[v', .int .i64 0]) ∧ RefAt S w' v' n (upd f addr k s) (L ++ [(addr, k)]) ∧ Below w.heap.size w w' := by
 obtain ⟨ao, c, al, cl, rfl, h2, h3, h4, h5, h6, h7, h8⟩ := h
 obtain ⟨bg, bo', rfl, hbs, hbc⟩ := hs.at' hk0
 obtain ⟨i0, hi, hz0, hz1, hz2⟩ := info_parts infoU8
 have H6 := Lib.hid h6
 have H7 := Lib.hid h7
 have H8 := Lib.hid h8
 have HBC := Lib.hid hbc
 have hc : chk n addr k = 0 := by unfold chk; rw [if_neg (by omega), if_pos (by omega)]
 have HC := Lib.hid hc
 clear h7 h8 h6 hc hbc hs
 have e1 : IntKind.i64.wrap ((addr : Int) + (k : Int)) = ((addr + k : Nat) : Int) := by rw [IntWalk.i64_in _ (by omega)]; omega
 have hkz : ((k : Int) == 0) = false := by simp; omega
 have hws : ∀ W : World, (W.alloc (.cells #[] 5)).ownsRow W.heap.size 5 1 (.slice (some ⟨W.heap.size, 0, none⟩) 0 0) 0 [] := fun W =>
  ⟨rfl, .inr ⟨W.heap.size, 0, #[], rfl, Nat.le_refl _, heap_alloc_new _ _, Nat.le_refl _, by simp [maxLen], rfl, rfl⟩⟩
 have HWS := Lib.hid hws
 clear hws
 go_enter Tryz.func68, Tryz.ntmps68
 go_wp2_with (first | (go_at_call 86; refine (rcheck_any (some ao) n c _ addr k _ hn (by omega) (by omega) (by omega) (by omega)).mono ?_; rw [HC.out]; rintro e w1 ⟨rfl, hb⟩; have HB := Lib.hid hb; have q0 : w1.cell? ⟨w.heap.size, 0, none⟩ = some (.slice (some ao) n c) := (hb.cell (p := ⟨w.heap.size, 0, none⟩) (by simp; omega)).trans (by go_simp); have q1 : w1.cell? ⟨w.heap.size, 1, none⟩ = some (.slice al L.length cl) := (hb.cell (p := ⟨w.heap.size, 1, none⟩) (by simp; omega)).trans (by go_simp); have z0 : w1.frozen? ⟨w.heap.size, 0, none⟩ = false := (hb.frozen (p := ⟨w.heap.size, 0, none⟩) (by simp; omega)).trans (by go_simp);  have z1 : w1.frozen? ⟨w.heap.size, 1, none⟩ = false := (hb.frozen (p := ⟨w.heap.size, 1, none⟩) (by simp; omega)).trans (by go_simp); have hl1 : w.heap.size + 2 ≤ w1.heap.size := (by have := hb.size; simp at this; omega); have hl0 : w.heap.size < w1.heap.size := (by omega); have hl2 : w.heap.size + 1 < w1.heap.size := (by omega); have HR1 := Lib.hid (H7.out.kept (Keeps.of_below (S := fun _ => False) ((((Below.refl w.heap.size w).alloc (Nat.le_refl _) _).alloc (by simp) _).trans (hb.mono (by simp; omega)))) (fun _ h => h.elim)); clear hb) | (at_builtin; go_loud (refine wpList_append_own _ rfl _ _ 31 rfl w1.heap.size 5 i0 (.int .u8 0) 1 1 Tryz.underlying31 hi hz0 hz1 hz2 rfl (by decide) _ _ _ rfl (HWS.out w1) ao n c ((List.range n).map fun i => .int .u8 (f i)) rfl (by simp) ?c1 ?c2 ?c3 ?c4 ?c5 ?_)))
 case c1 =>
  intro j u hu
  simp only [List.getElem?_map, Option.map_eq_some_iff] at hu
  obtain ⟨q, hq, rfl⟩ := hu
  simp only [List.range_eq_range'] at hq
  by_cases hj : j < n
  ·simp [hj] at hq; subst hq
   obtain ⟨g, o, e, -, hx⟩ := HR1.out.at' (by omega)
   simp only [Option.some.injEq] at e
   subst e
   rw [Addr.add_mid]
   exact ((Keeps.refl (fun _ => False) w1).alloc _).cell (hx j hj) (fun h => h)
  ·simp [hj] at hq
 case c2 => intro u hu; simp at hu; obtain ⟨q, -, rfl⟩ := hu; rfl
 case c3 => unfold maxLen; omega
 case c4 => omega
 case c5 => simp
 intro v' w2 hown hgr hnil
 have K2 : Below w1.heap.size w1 w2 := ((Below.refl _ w1).alloc (Nat.le_refl _) _).grown hgr (by simp) (fun q e => by cases e; exact Nat.le_refl _)
 obtain ⟨hl, hown⟩ := hown
 rcases hown with ⟨h, -⟩ | ⟨g, cap, cur, rfl, hg, hh, hnc, hcap, hcs, hcur⟩
 ·exact absurd h hnil
 have HH := Lib.hid hh
 have HCU := Lib.hid hcur
 have HK2 := Lib.hid K2
 have p0 : w2.cell? ⟨w.heap.size, 0, none⟩ = some (.slice (some ao) n c) := (K2.cell (p := ⟨w.heap.size, 0, none⟩) hl0).trans q0
 have p1 : w2.cell? ⟨w.heap.size, 1, none⟩ = some (.slice al L.length cl) := (K2.cell (p := ⟨w.heap.size, 1, none⟩) hl0).trans q1
 have y0 : w2.frozen? ⟨w.heap.size, 0, none⟩ = false := (K2.frozen (p := ⟨w.heap.size, 0, none⟩) hl0).trans z0
 have y1 : w2.frozen? ⟨w.heap.size, 1, none⟩ = false := (K2.frozen (p := ⟨w.heap.size, 1, none⟩) hl0).trans z1
 clear q0 q1 z0 z1 hh hcur hgr K2 hl
 have hne : ¬ cap = addr := by omega
 have hne0 : w.heap.size ≠ g := by omega
 have hsz1 : (Tryz.prog.info? 5).map (·.size) = some 1 := by rw [hi]; simp [hz1]
 obtain ⟨w3, hw3⟩ : ∃ w3, w3 = w2.setCell ⟨w.heap.size, 0, none⟩ (.slice (some ⟨g, 0, none⟩) n cap) := ⟨_, rfl⟩
 have k3 : Keeps (One w.heap.size) w2 w3 := by rw [hw3]; exact (Keeps.refl _ _).set1 0 _
 have h3 : w3.heap[g]? = some (.cells cur.toList.toArray 5 (0, 0)) := by
  rw [Array.toArray_toList]
  exact (k3.block g (Array.getElem?_eq_some_iff.1 HH.out).1 (fun e => hne0 (Eq.symm e))).trans HH.out
 obtain ⟨cs, hcs'⟩ : ∃ cs, cs = (List.range k).map fun i => Value.int .u8 (s i) := ⟨_, rfl⟩
 have hcl : cs.length = k := by rw [hcs']; simp
 have HCS := Lib.hid hcs'
 have H3 := Lib.hid h3
 have hsrc3 : ∀ j u, cs[j]? = some u → w3.cell? ((⟨bg, bo', none⟩ : Addr).add j) = some u := by
  intro j u hu
  rw [hcs'] at hu
  simp only [List.getElem?_map, Option.map_eq_some_iff] at hu
  obtain ⟨q, hq, rfl⟩ := hu
  simp only [List.range_eq_range'] at hq
  by_cases hj : j < k
  ·simp [hj] at hq; subst hq
   rw [Addr.add_mid]
   have hb1 := HBC.out j hj
   have hbl : bg < w.heap.size := World.block_lt_of_cell? _ _ hb1
   have hb2 : w1.cell? ⟨bg, bo' + j, none⟩ = some (.int .u8 (s j)) := (HB.out.cell (p := ⟨bg, bo' + j, none⟩) (by simp; omega)).trans (((((Below.refl w.heap.size w).alloc (Nat.le_refl _) _).alloc (by simp) _).cell (p := ⟨bg, bo' + j, none⟩) hbl).trans hb1)
   have hb3 : w2.cell? ⟨bg, bo' + j, none⟩ = some (.int .u8 (s j)) := (HK2.out.cell (p := ⟨bg, bo' + j, none⟩) (by show bg < w1.heap.size; omega)).trans hb2
   exact k3.cell hb3 (fun e => by have e : bg = w.heap.size := e; omega)
  ·simp [hj] at hq
 have HSRC := Lib.hid hsrc3
 have K3 := Lib.hid k3
 have HW3 := Lib.hid hw3
 clear hw3 k3 h3 hcs' hsrc3
 go_upto_region 5 with (fail)
 rw [← HW3.out]
 have p0' : w3.cell? ⟨w.heap.size, 0, none⟩ = some (.slice (some ⟨g, 0, none⟩) n cap) := by rw [HW3.out]; exact World.cell?_setCell_same _ _ _ p0
 have p1' : w3.cell? ⟨w.heap.size, 1, none⟩ = some (.slice al L.length cl) := by rw [HW3.out]; go_simp
 have y1' : w3.frozen? ⟨w.heap.size, 1, none⟩ = false := by rw [HW3.out]; go_simp
 clear p0 p1 y0 y1
 go_upto_region 6 with ((with_reducible show wpList _ _ _ (⟨some 34, _, _, _, _, _⟩ :: _) _ _); go_loud (refine wpList_copy_splice rfl (.tmp 32) (.tmp 33) 31 31 rfl 5 Tryz.underlying31 hsz1 _ _ _ _ _ _ rfl rfl g addr cur.toList 5 H3.out cs (by rw [hcl]; exact (Nat.min_eq_left (by omega)).symm) (fun _ => ⟨rfl, _, rfl, HSRC.out⟩) (by rw [hcl, Array.length_toList]; omega) (by intro u hu; rw [HCS.out] at hu; simp at hu; obtain ⟨q, -, rfl⟩ := hu; rfl) g w3 (Below.refl _ _) (Nat.le_refl _) ?_; intro w4 HG4 hb4))
 have B4 : Below w.heap.size w w4 :=
  ((((((Below.refl w.heap.size w).alloc (Nat.le_refl _) _).alloc (by simp) _).trans (HB.out.mono (by simp; omega))).trans (HK2.out.mono (by omega))).trans (K3.out.below (B := w.heap.size) (Nat.le_trans (Nat.le_of_lt hl0) HK2.out.size) (fun j hj e => by have e : j = w.heap.size := e; omega))).trans (hb4.mono (by omega))
 have hS4 := H8.out.kept (Keeps.of_below (S := fun _ => False) B4) (fun _ h => h.elim)
 have hg4 : w.heap.size < w4.heap.size := by have := (Array.getElem?_eq_some_iff.1 HG4.out).1; omega
 have r0 : w4.cell? ⟨w.heap.size, 0, none⟩ = some (.slice (some ⟨g, 0, none⟩) n cap) := (hb4.cell (p := ⟨w.heap.size, 0, none⟩) (by show w.heap.size < g; omega)).trans p0'
 have r1 : w4.cell? ⟨w.heap.size, 1, none⟩ = some (.slice al L.length cl) := (hb4.cell (p := ⟨w.heap.size, 1, none⟩) (by show w.heap.size < g; omega)).trans p1'
 have x1 : w4.frozen? ⟨w.heap.size, 1, none⟩ = false := (hb4.frozen (p := ⟨w.heap.size, 1, none⟩) (by show w.heap.size < g; omega)).trans y1'
 obtain ⟨i1, hi1, hy0, hy1, hy2⟩ := info_parts infoSpan
 have hws : ∀ W : World, (W.alloc (.cells #[] 65)).ownsRow W.heap.size 65 3 (.slice (some ⟨W.heap.size, 0, none⟩) 0 0) 0 [] := fun W =>
  ⟨rfl, .inr ⟨W.heap.size, 0, #[], rfl, Nat.le_refl _, heap_alloc_new _ _, Nat.le_refl _, by simp [maxLen], rfl, rfl⟩⟩
 have HWS2 := Lib.hid hws
 have HS4 := Lib.hid hS4
 have HB4 := Lib.hid hb4
 have HBB4 := Lib.hid B4
 clear hws hS4 hb4 B4 p0' p1' y1'
 have hb4' := HB4.out
 have q0 : w4.cell? ⟨w.heap.size + 1, 0, none⟩ = some (.slice none 0 0) := (hb4'.cell (p := ⟨w.heap.size + 1, 0, none⟩) (by show w.heap.size + 1 < g; omega)).trans (K3.out.cell ((HK2.out.cell (p := ⟨w.heap.size + 1, 0, none⟩) hl2).trans ((HB.out.cell (p := ⟨w.heap.size + 1, 0, none⟩) (by simp)).trans (by go_simp))) (fun e => by have e : w.heap.size + 1 = w.heap.size := e; omega))
 have q1 : w4.cell? ⟨w.heap.size + 1, 1, none⟩ = some (.slice none 0 0) := (hb4'.cell (p := ⟨w.heap.size + 1, 1, none⟩) (by show w.heap.size + 1 < g; omega)).trans (K3.out.cell ((HK2.out.cell (p := ⟨w.heap.size + 1, 1, none⟩) hl2).trans ((HB.out.cell (p := ⟨w.heap.size + 1, 1, none⟩) (by simp)).trans (by go_simp))) (fun e => by have e : w.heap.size + 1 = w.heap.size := e; omega))
 have hrow : w4.rowIs (w.heap.size + 1) 34 2 (fun _ => .slice none 0 0) := by
  have h0 := World.rowIs_alloc (w.alloc (.cells #[.slice (some ao) n c, .slice al L.length cl] 34)) #[.slice none 0 0, .slice none 0 0] 34 (fun _ => .slice none 0 0) (fun i hi => by match i, hi with | 0, _ => rfl | 1, _ => rfl)
  rw [World.size_alloc] at h0
  have h1 := h0.of_block (HB.out.block _ (by simp))
  have h2 := h1.of_block (HK2.out.block _ (by omega))
  exact (K3.out.rowIs h2 (fun e => by have e : w.heap.size + 1 = w.heap.size := e; omega)).of_block (hb4'.block _ (by omega))
 have HROW := Lib.hid hrow
 have hg5 : w.heap.size + 1 < w4.heap.size := hrow.lt
 have hhr : w4.rowIs w.heap.size 34 2 (fun i => if i = 0 then .slice (some ⟨g, 0, none⟩) n cap else .slice al L.length cl) := by
  have h0 := World.rowIs_alloc w #[.slice (some ao) n c, .slice al L.length cl] 34 (fun i => if i = 0 then .slice (some ao) n c else .slice al L.length cl) (fun i hi => by match i, hi with | 0, _ => rfl | 1, _ => rfl)
  have h1 := (World.rowIs.alloc h0 (.cells #[.slice none 0 0, .slice none 0 0] 34)).of_block (HB.out.block _ (by simp; omega))
  have h2 := h1.of_block (HK2.out.block _ (by omega))
  have h3 : w3.rowIs w.heap.size 34 2 (fun i => if i = 0 then .slice (some ⟨g, 0, none⟩) n cap else .slice al L.length cl) := by
   rw [HW3.out]
   exact (h2.set 0 _).congr fun i hi => by by_cases e : i = 0 <;> simp [e]
  exact h3.of_block (hb4'.block _ (by omega))
 have HHR := Lib.hid hhr
 clear q0 q1 hrow hhr hb4'
 cases al with
 | none =>
  obtain ⟨hL0, rfl⟩ := H6.out rfl
  obtain rfl : L = [] := List.eq_nil_of_length_eq_zero hL0
  go_upto_region 7 with (first | ((with_reducible show wpList _ _ _ (⟨some 44, _, _, _, _, _⟩ :: _) _ _); go_loud (refine wpList_append_own _ rfl _ _ 32 rfl w4.heap.size 65 i1 (.agg #[.int .u64 0, .int .i64 0, .bool false]) 3 24 Tryz.underlying32 hi1 hy0 hy1 hy2 rfl (by decide) _ _ _ rfl ((HWS2.out w4).alloc (.cells #[.int .u64 addr, .int .i64 k, .bool false] 65)) ⟨w4.heap.size + 1, 0, none⟩ 1 1 [.int .u64 addr, .int .i64 k, .bool false] rfl (by simp) (one_span (w4.alloc (.cells #[] 65)) (w4.heap.size + 1) (by simp) _ _ _ _) (one_span1 addr k) (by unfold maxLen; omega) (by omega) (by simp; omega) ?_)))
  intro v6 w6 hown6 hgr6 hnil6
  have k6 : Below w4.heap.size w4 w6 := (((Below.refl _ w4).alloc (Nat.le_refl _) _).alloc (by simp) _).grown hgr6 (by simp; omega) (fun q e => by cases e; exact Nat.le_refl _)
  obtain ⟨ao6, c6, e6, -⟩ := ownsRow_shape hown6
  subst e6
  have hne6 : ao6 = none → ([(addr, k)] : List (Nat × Nat)).length = 0 ∧ c6 = 0 := fun e => by
   rcases hown6.2 with ⟨-, h⟩ | ⟨g', cap', cur', h, -⟩
   ·omega
   ·subst e; cases h
  have HO6 := Lib.hid hown6
  have K6 := Lib.hid k6
  have HN6 := Lib.hid hne6
  have hrr := HHR.out.of_block (k6.block _ hg4)
  have hrv := HROW.out.of_block (k6.block _ HROW.out.lt)
  have t0 : w6.cell? ⟨w.heap.size, 0, none⟩ = some (.slice (some ⟨g, 0, none⟩) n cap) := hrr.cell (i := 0) (by omega)
  have t1 : w6.cell? ⟨w.heap.size, 1, none⟩ = some (.slice none 0 0) := hrr.cell (i := 1) (by omega)
  have t2 := hrr.frozen 1
  have t3 : w6.cell? ⟨w.heap.size + 1, 0, none⟩ = some (.slice none 0 0) := hrv.cell (i := 0) (by omega)
  have t4 : w6.cell? ⟨w.heap.size + 1, 1, none⟩ = some (.slice none 0 0) := hrv.cell (i := 1) (by omega)
  have t5 := hrv.frozen 0
  have t6 := hrv.frozen 1
  clear hown6 hgr6 k6 hne6 hrr hrv
  go_wp2_with fail
  obtain ⟨w7, hw7⟩ : ∃ w7, w7 = ((w6.setCell ⟨w.heap.size, 1, none⟩ (.slice ao6 1 c6)).setCell ⟨w.heap.size + 1, 0, none⟩ (.slice (some ⟨g, 0, none⟩) n cap)).setCell ⟨w.heap.size + 1, 1, none⟩ (.slice ao6 1 c6) := ⟨_, rfl⟩
  have k7 : Keeps (Two w.heap.size (w.heap.size + 1)) w6 w7 := by
   rw [hw7]
   exact (((Keeps.refl (Two w.heap.size (w.heap.size + 1)) w6).setCell (p := ⟨w.heap.size, 1, none⟩) (fun _ => .inl rfl) _).setCell (p := ⟨w.heap.size + 1, 0, none⟩) (fun _ => .inr rfl) _).setCell (p := ⟨w.heap.size + 1, 1, none⟩) (fun _ => .inr rfl) _
  have u0 : w7.cell? ⟨w.heap.size + 1, 0, none⟩ = some (.slice (some ⟨g, 0, none⟩) n cap) := by rw [hw7]; go_simp
  have u1 : w7.cell? ⟨w.heap.size + 1, 1, none⟩ = some (.slice ao6 1 c6) := by rw [hw7]; go_simp
  rw [← hw7]
  clear hw7
  refine bodyPost_ret (v := .tuple #[.agg #[.slice (some ⟨g, 0, none⟩) n cap, .slice ao6 1 c6], .int .i64 0]) (by simp [results, Tryz.results68, go_sem, u0, u1]) rfl ⟨_, rfl, ?_, ?_⟩
  ·have h := write_end (S := S) (L' := [(addr, k)]) HG4.out HCS.out HCU.out (by rw [Array.length_toList]; omega) hn hnc hcap hk (by omega) K6.out (by simp; try omega) (Nat.le_of_lt hg4) HO6.out HN6.out hS k7 (fun j hj e => by rcases e with e | e <;> omega) (fun e => by rcases e with e | e <;> omega)
   exact h
  ·exact (HBB4.out.trans (K6.out.mono (Nat.le_of_lt hg4))).trans (k7.below (B := w.heap.size) (Nat.le_trans (Nat.le_of_lt hg4) K6.out.size) (fun j hj e => by rcases e with e | e <;> omega))
 | some a =>
  go_upto_region 7 with (first | ((with_reducible show wpList _ _ _ (⟨some 38, _, _, _, _, _⟩ :: _) _ _); go_loud (refine wpList_append_own _ rfl _ _ 32 rfl w4.heap.size 65 i1 (.agg #[.int .u64 0, .int .i64 0, .bool false]) 3 24 Tryz.underlying32 hi1 hy0 hy1 hy2 rfl (by decide) _ _ _ rfl (HWS2.out w4) a L.length cl (spanCells L) rfl (by simp [spanCells_length]) ?c1 ?c2 ?c3 ?c4 ?c5 ?_)))
  case c1 => intro j u hu; exact ((Keeps.refl (fun _ => False) w4).alloc _).cell (span_cells HS4.out j u hu) (fun h => h)
  case c2 => exact spanCells_one L
  case c3 => unfold maxLen; omega
  case c4 => omega
  case c5 => simp
  intro v5 w5 hown5 hgr5 hnil5
  have k45 : Below w4.heap.size w4 w5 := ((Below.refl _ w4).alloc (Nat.le_refl _) _).grown hgr5 (by simp) (fun q e => by cases e; exact Nat.le_refl _)
  have HO5 := Lib.hid hown5
  have HK45 := Lib.hid k45
  have s0 : w5.cell? ⟨w.heap.size, 0, none⟩ = some (.slice (some ⟨g, 0, none⟩) n cap) := (k45.cell (p := ⟨w.heap.size, 0, none⟩) hg4).trans r0
  have s1 : w5.cell? ⟨w.heap.size, 1, none⟩ = some (.slice (some a) L.length cl) := (k45.cell (p := ⟨w.heap.size, 1, none⟩) hg4).trans r1
  have s2 : w5.frozen? ⟨w.heap.size, 1, none⟩ = false := (k45.frozen (p := ⟨w.heap.size, 1, none⟩) hg4).trans x1
  clear r0 r1 x1 hown5 hgr5 k45
  go_upto_region 7 with (first | ((with_reducible show wpList _ _ _ (⟨some 44, _, _, _, _, _⟩ :: _) _ _); go_loud (refine wpList_append_own _ rfl _ _ 32 rfl w4.heap.size 65 i1 (.agg #[.int .u64 0, .int .i64 0, .bool false]) 3 24 Tryz.underlying32 hi1 hy0 hy1 hy2 rfl (by decide) _ _ _ rfl (HO5.out.alloc (.cells #[.int .u64 addr, .int .i64 k, .bool false] 65)) ⟨w5.heap.size, 0, none⟩ 1 1 [.int .u64 addr, .int .i64 k, .bool false] rfl (by simp) (one_span w5 w5.heap.size rfl _ _ _ _) (one_span1 addr k) (by unfold maxLen; omega) (by omega) (by have := HK45.out.size; simp; omega) ?_)))
  intro v6 w6 hown6 hgr6 hnil6
  have k6 : Below w4.heap.size w4 w6 := (HK45.out.alloc HK45.out.size _).grown hgr6 (by have := HK45.out.size; simp; omega) (fun q e => (HO5.out.lt q e).1)
  obtain ⟨ao6, c6, e6, -⟩ := ownsRow_shape hown6
  subst e6
  have hne6 : ao6 = none → (L ++ [(addr, k)]).length = 0 ∧ c6 = 0 := fun e => by
   rcases hown6.2 with ⟨-, h⟩ | ⟨g', cap', cur', h, -⟩
   ·omega
   ·subst e; cases h
  have HO6 := Lib.hid hown6
  have K6 := Lib.hid k6
  have HN6 := Lib.hid hne6
  have hrr := HHR.out.of_block (k6.block _ hg4)
  have hrv := HROW.out.of_block (k6.block _ HROW.out.lt)
  have t0 : w6.cell? ⟨w.heap.size, 0, none⟩ = some (.slice (some ⟨g, 0, none⟩) n cap) := hrr.cell (i := 0) (by omega)
  have t1 : w6.cell? ⟨w.heap.size, 1, none⟩ = some (.slice (some a) L.length cl) := hrr.cell (i := 1) (by omega)
  have t2 := hrr.frozen 1
  have t3 : w6.cell? ⟨w.heap.size + 1, 0, none⟩ = some (.slice none 0 0) := hrv.cell (i := 0) (by omega)
  have t4 : w6.cell? ⟨w.heap.size + 1, 1, none⟩ = some (.slice none 0 0) := hrv.cell (i := 1) (by omega)
  have t5 := hrv.frozen 0
  have t6 := hrv.frozen 1
  clear hown6 hgr6 k6 hne6 hrr hrv
  go_wp2_with fail
  obtain ⟨w7, hw7⟩ : ∃ w7, w7 = ((w6.setCell ⟨w.heap.size, 1, none⟩ (.slice ao6 (L.length + 1) c6)).setCell ⟨w.heap.size + 1, 0, none⟩ (.slice (some ⟨g, 0, none⟩) n cap)).setCell ⟨w.heap.size + 1, 1, none⟩ (.slice ao6 (L.length + 1) c6) := ⟨_, rfl⟩
  have k7 : Keeps (Two w.heap.size (w.heap.size + 1)) w6 w7 := by
   rw [hw7]
   exact (((Keeps.refl (Two w.heap.size (w.heap.size + 1)) w6).setCell (p := ⟨w.heap.size, 1, none⟩) (fun _ => .inl rfl) _).setCell (p := ⟨w.heap.size + 1, 0, none⟩) (fun _ => .inr rfl) _).setCell (p := ⟨w.heap.size + 1, 1, none⟩) (fun _ => .inr rfl) _
  have u0 : w7.cell? ⟨w.heap.size + 1, 0, none⟩ = some (.slice (some ⟨g, 0, none⟩) n cap) := by rw [hw7]; go_simp
  have u1 : w7.cell? ⟨w.heap.size + 1, 1, none⟩ = some (.slice ao6 (L.length + 1) c6) := by rw [hw7]; go_simp
  rw [← hw7]
  clear hw7
  refine bodyPost_ret (v := .tuple #[.agg #[.slice (some ⟨g, 0, none⟩) n cap, .slice ao6 (L.length + 1) c6], .int .i64 0]) (by simp [results, Tryz.results68, go_sem, u0, u1]) rfl ⟨_, rfl, ?_, ?_⟩
  ·have h := write_end (S := S) (L' := (L ++ [(addr, k)])) HG4.out HCS.out HCU.out (by rw [Array.length_toList]; omega) hn hnc hcap hk (by omega) K6.out (by simp; try omega) (Nat.le_of_lt hg4) (by have h := HO6.out; rw [show spanCells L ++ [Value.int .u64 addr, .int .i64 k, .bool false] = spanCells (L ++ [(addr, k)]) from (spanCells_append L (addr, k)).symm] at h; rw [List.length_append]; exact h) HN6.out hS k7 (fun j hj e => by rcases e with e | e <;> omega) (fun e => by rcases e with e | e <;> omega)
   rw [List.length_append] at h; exact h
  ·exact (HBB4.out.trans (K6.out.mono (Nat.le_of_lt hg4))).trans (k7.below (B := w.heap.size) (Nat.le_trans (Nat.le_of_lt hg4) K6.out.size) (fun j hj e => by rcases e with e | e <;> omega))
end Go.Proofs.YtfmabknhfehdcaaGreat
namespace Go.Proofs.YtfmabknhfehdcaaGreat
set_option linter.unusedSimpArgs false
set_option linter.unusedVariables false
open Go.RowKit
theorem upd_zero (f : Nat → Int) (addr : Nat) (s : Nat → Int) : upd f addr 0 s = f := funext fun j => by unfold upd; rw [if_neg (by omega)]
theorem logged_zero (L : List (Nat × Nat)) (addr : Nat) : logged L addr 0 = L := by unfold logged; rw [if_pos rfl]
theorem logged_pos (L : List (Nat × Nat)) (addr k : Nat) (h : 0 < k) : logged L addr k = L ++ [(addr, k)] := by unfold logged; rw [if_neg (by omega)]
set_option maxHeartbeats 1000000 in
theorem rwrite_same (S : Nat → Prop) (v : Value) (n : Nat) (f : Nat → Int) (L : List (Nat × Nat)) (addr : Int) (k bc : Nat) (bo : Option Addr) (w : World) (h : RefAt S w v n f L) (hn : n ≤ 4194304)
  (ha : 0 ≤ addr) (ha' : addr ≤ 18446744073709551615) (hk' : k ≤ 4611686018427387904) (hc : (chk n addr k != 0) = true ∨ (k = 0 ∧ chk n addr k = 0)) :
  Calls Tryz.prog 68 #[v, .int .u64 addr, .slice bo k bc] w fun e w' => e = .returned (.tuple #[v, .int .i64 (chk n addr k)]) ∧ Below w.heap.size w w' := by
 obtain ⟨ao, c, al, cl, rfl, h2, h3, h4, h5, h6, h7, h8⟩ := h
 generalize hx : chk n addr k = x at *
 have HX := Lib.hid hx
 clear h7 h8 h6 hx
 rcases hc with hc | ⟨rfl, rfl⟩
 ·go_enter Tryz.func68, Tryz.ntmps68
  go_wp2_with (go_at_call 86; refine (rcheck_any (some ao) n c _ addr k _ hn ha ha' (by omega) (by omega)).mono ?_; rw [HX.out]; rintro e w1 ⟨rfl, hb⟩; have HB := Lib.hid hb; have q0 : w1.cell? ⟨w.heap.size, 0, none⟩ = some (.slice (some ao) n c) := (hb.cell (p := ⟨w.heap.size, 0, none⟩) (by simp; omega)).trans (by go_simp); have q1 : w1.cell? ⟨w.heap.size, 1, none⟩ = some (.slice al L.length cl) := (hb.cell (p := ⟨w.heap.size, 1, none⟩) (by simp; omega)).trans (by go_simp); have y0 : w1.cell? ⟨w.heap.size + 1, 0, none⟩ = some (.slice none 0 0) := (hb.cell (p := ⟨w.heap.size + 1, 0, none⟩) (by simp)).trans (by go_simp); have y1 : w1.cell? ⟨w.heap.size + 1, 1, none⟩ = some (.slice none 0 0) := (hb.cell (p := ⟨w.heap.size + 1, 1, none⟩) (by simp)).trans (by go_simp); have z0 : w1.frozen? ⟨w.heap.size + 1, 0, none⟩ = false := (hb.frozen (p := ⟨w.heap.size + 1, 0, none⟩) (by simp)).trans (by go_simp); have z1 : w1.frozen? ⟨w.heap.size + 1, 1, none⟩ = false := (hb.frozen (p := ⟨w.heap.size + 1, 1, none⟩) (by simp)).trans (by go_simp); have hl2 : w.heap.size + 1 < w1.heap.size := (by have := hb.size; simp at this; omega); clear hb)
  refine bodyPost_ret (v := .tuple #[.agg #[.slice (some ao) n c, .slice al L.length cl], .int .i64 x]) (by simp [results, Tryz.results68, go_sem, y0, y1]) rfl ⟨rfl, ?_⟩
  exact (((((Below.refl w.heap.size w).alloc (Nat.le_refl _) _).alloc (by simp) _).trans (HB.out.mono (by simp; omega))).setCell (p := ⟨w.heap.size + 1, 0, none⟩) (by simp) _).setCell (p := ⟨w.heap.size + 1, 1, none⟩) (by simp) _
 ·simp only [Int.natCast_zero] at HX
  go_enter Tryz.func68, Tryz.ntmps68
  go_wp2_with (go_at_call 86; refine (rcheck_any (some ao) n c _ addr 0 _ hn ha ha' (by omega) (by omega)).mono ?_; rw [HX.out]; rintro e w1 ⟨rfl, hb⟩; have HB := Lib.hid hb; have q0 : w1.cell? ⟨w.heap.size, 0, none⟩ = some (.slice (some ao) n c) := (hb.cell (p := ⟨w.heap.size, 0, none⟩) (by simp; omega)).trans (by go_simp); have q1 : w1.cell? ⟨w.heap.size, 1, none⟩ = some (.slice al L.length cl) := (hb.cell (p := ⟨w.heap.size, 1, none⟩) (by simp; omega)).trans (by go_simp); have y0 : w1.cell? ⟨w.heap.size + 1, 0, none⟩ = some (.slice none 0 0) := (hb.cell (p := ⟨w.heap.size + 1, 0, none⟩) (by simp)).trans (by go_simp); have y1 : w1.cell? ⟨w.heap.size + 1, 1, none⟩ = some (.slice none 0 0) := (hb.cell (p := ⟨w.heap.size + 1, 1, none⟩) (by simp)).trans (by go_simp); have z0 : w1.frozen? ⟨w.heap.size + 1, 0, none⟩ = false := (hb.frozen (p := ⟨w.heap.size + 1, 0, none⟩) (by simp)).trans (by go_simp); have z1 : w1.frozen? ⟨w.heap.size + 1, 1, none⟩ = false := (hb.frozen (p := ⟨w.heap.size + 1, 1, none⟩) (by simp)).trans (by go_simp); have hl2 : w.heap.size + 1 < w1.heap.size := (by have := hb.size; simp at this; omega); clear hb)
  refine bodyPost_ret (v := .tuple #[.agg #[.slice (some ao) n c, .slice al L.length cl], .int .i64 0]) (by simp [results, Tryz.results68, go_sem, y0, y1]) rfl ⟨rfl, ?_⟩
  exact (((((Below.refl w.heap.size w).alloc (Nat.le_refl _) _).alloc (by simp) _).trans (HB.out.mono (by simp; omega))).setCell (p := ⟨w.heap.size + 1, 0, none⟩) (by simp) _).setCell (p := ⟨w.heap.size + 1, 1, none⟩) (by simp) _
/-- The bytes, the log behind a write of the span. -/
def wf' (size : Nat) (f : Nat → Int) (addr k : Int) (s : Nat → Int) : Nat → Int := if chk size addr k = 0 then upd f addr.toNat k.toNat s else f
def wl' (size : Nat) (L : List (Nat × Nat)) (addr k : Int) : List (Nat × Nat) := if chk size addr k = 0 then logged L addr.toNat k.toNat else L
theorem chk_okN {size : Nat} {addr k : Int} (ha : 0 ≤ addr) (h : chk size addr k = 0) : ∃ a m : Nat, addr = a ∧ k = m ∧ a + m ≤ size := by
 unfold chk at h
 split at h
 ·omega
 ·split at h
  ·exact ⟨addr.toNat, k.toNat, by omega, by omega, by omega⟩
  ·omega
/-- What the specification's Write leaves. -/
def RW (S : Nat → Prop) (n : Nat) (f : Nat → Int) (L : List (Nat × Nat)) (addr k : Int) (s : Nat → Int) (w : World) (e : Ending) (w' : World) : Prop :=
 ∃ v', e = .returned (.tuple #[v', .int .i64 (chk n addr k)]) ∧ RefAt S w' v' n (wf' n f addr k s) (wl' n L addr k) ∧ Below w.heap.size w w'
theorem rwrite_any (S : Nat → Prop) (v : Value) (n : Nat) (f : Nat → Int) (L : List (Nat × Nat)) (addr : Int) (k bc : Nat) (bo : Option Addr) (s : Nat → Int) (w : World) (h : RefAt S w v n f L) (hn : n ≤ 4194304)
  (ha : 0 ≤ addr) (ha' : addr ≤ 18446744073709551615) (hs : Src S w bo k s) (hL : L.length ≤ 1000) (hS : ∀ j, S j → j < w.heap.size) :
  Calls Tryz.prog 68 #[v, .int .u64 addr, .slice bo k bc] w (RW S n f L addr k s w) := by
 by_cases hc : chk n addr k = 0
 ·obtain ⟨a, m, rfl, hm, hf⟩ := chk_okN ha hc
  obtain rfl : k = m := by omega
  by_cases hk : k = 0
  ·refine (rwrite_same S v n f L a k bc bo w h hn ha ha' hs.small (.inr ⟨hk, hc⟩)).mono ?_
   rintro e w' ⟨rfl, hb⟩
   refine ⟨v, rfl, ?_, hb⟩
   unfold wf' wl'
   rw [if_pos hc, if_pos hc, hk]
   simp only [Int.toNat_natCast, Int.natCast_zero, Int.toNat_zero]
   rw [upd_zero, logged_zero]
   exact h.below hb
  ·refine (rwrite_ok S v n f L a k bc bo s w h hn hf (by omega) hs hL hS).mono ?_
   rintro e w' ⟨v', rfl, hr, hb⟩
   refine ⟨v', by rw [hc], ?_, hb⟩
   unfold wf' wl'
   rw [if_pos hc, if_pos hc, Int.toNat_natCast, Int.toNat_natCast, logged_pos _ _ _ (by omega)]
   exact hr
 ·refine (rwrite_same S v n f L addr k bc bo w h hn ha ha' hs.small (.inl (by simpa using hc))).mono ?_
  rintro e w' ⟨rfl, hb⟩
  refine ⟨v, rfl, ?_, hb⟩
  unfold wf' wl'
  rw [if_neg hc, if_neg hc]
  exact h.below hb
end Go.Proofs.YtfmabknhfehdcaaGreat
