/- wire: Put, Writer's add, Add, Bytes; Clone of bytes. -/
import Derived.Test.YtiinjjfggmmkmaaRow
import Derived.Test.YtiinjjfggmmkmaaR2
import Derived.IntWalk
import Derived.Maps.AppendAt
import Derived.BigRegion
import Derived.Laws.BitsAllLaws
set_option linter.unusedVariables false
namespace Go.Proofs.Ytiinjjfggmmkmaa
set_option linter.unusedSimpArgs false
open Go.RowKit

theorem infoU8 : (Try.prog.info? 5).map (fun i => (i.zero, i.size, i.bytes)) = some (some (.int .u8 0), 1, 1) := by kernel_rfl
theorem ret_int {k : IntKind} {a b : Int} (h : a = b) : Ending.returned (.int k a) = .returned (.int k b) := by rw [h]

/-- byte j of a number -/
def byteOf (v : Int) (j : Nat) : Int := v / 2 ^ (8 * j) % 256
/-- n bytes of a number -/
def bytesL (v : Int) (n : Nat) : List Value := (List.range n).map fun j => .int .u8 (byteOf v j)
theorem bytesL_length (v : Int) (n : Nat) : (bytesL v n).length = n := by simp [bytesL]
theorem bytesL_one (v : Int) (n : Nat) : ∀ u ∈ bytesL v n, u.oneCell' = true := by
  intro u hu
  unfold bytesL at hu
  obtain ⟨j, -, rfl⟩ := List.mem_map.1 hu
  rfl
theorem bytesL_get (v : Int) (n j : Nat) (h : j < n) : (bytesL v n)[j]? = some (.int .u8 (byteOf v j)) := by simp [bytesL, h]

theorem Keeps.frozen' {S : Nat → Prop} {a b : World} (h : Keeps S a b) {p : Addr} (hr : p.block < a.heap.size) (hS : ¬ S p.block) (hf : a.frozen? p = false) : b.frozen? p = false :=
  (World.frozen?_of_block (w := a) (h.block p.block hr hS)).trans hf

/-- the bytes of a number have been put: the first k -/
def putB (v : Int) (k : Nat) : Nat → Value := fun j => if j < k then .int .u8 (byteOf v j) else .int .u8 0

theorem putB_step (v : Int) (k j : Nat) : (if j = k then Value.int .u8 (v / 2 ^ (8 * k) % 256) else putB v k j) = putB v (k + 1) j := by
  unfold putB
  by_cases e : j = k
  · subst e; rw [if_pos rfl, if_pos (by omega)]; rfl
  · by_cases h : j < k
    · rw [if_neg e, if_pos h, if_pos (by omega)]
    · rw [if_neg e, if_neg h, if_neg (by omega)]

set_option maxRecDepth 100000 in
set_option maxHeartbeats 2000000 in
theorem put_ok (v : Int) (n : Nat) (w : World) (h1 : 1 ≤ n) (h8 : n ≤ 8) (hv : 0 ≤ v) (hv' : v ≤ 18446744073709551615) (hs : n = 8 ∨ (n < 8 ∧ v / 2 ^ (8 * n) = 0)) :
   Calls Try.prog 52 #[.int .u64 v, .int .i64 n] w fun e w' => ∃ g, e = .returned (.tuple #[.slice (some ⟨g, 0, none⟩) n n, .int .i64 0]) ∧ w.heap.size ≤ g ∧ Below w.heap.size w w' ∧ w'.rowIs g 5 n (fun j => .int .u8 (byteOf v j)) := by
  have hmk := run_make_row' (P := Try.prog) 66 5 (.int .u8 0) 1 Try.underlying66 infoU8 rfl .i64 .i64 n (by omega) (by omega)
  have e0 : IntKind.i64.wrap (8 * (n : Int)) = 8 * (n : Int) := IntWalk.i64_in _ (by omega)
  have hrow := World.rowIs_made w (.int .u8 0) n 5
  obtain ⟨W0, hW0⟩ : ∃ W0, W0 = w.alloc (.cells (madeCells #[.int .u8 0] n) 5) := ⟨_, rfl⟩
  have hb0 : Below w.heap.size w W0 := by rw [hW0]; exact (Below.refl _ w).alloc (Nat.le_refl _) _
  rw [← hW0] at hrow
  have HROW := Lib.hid hrow
  have HB0 := Lib.hid hb0
  have HW0 := Lib.hid hW0
  clear hrow hb0 hW0
  by_cases h7 : n < 8
  · have hz : v / 2 ^ (8 * n) = 0 := by omega
    have d1 : decide ((n : Int) < 8) = true := by simp; omega
    clear hs
    go_enter Try.func52, Try.ntmps52
    go_wp2_with fail
    rw [show (w.alloc (.cells (madeCells #[.int .u8 0] n) 5)) = W0 from HW0.out.symm]
    clear hmk
    go_loopw [7, 29] (fun _ i wr => ∃ k : Nat, k ≤ n ∧ i = .int .i64 k ∧ Keeps (One w.heap.size) W0 wr ∧ wr.rowIs w.heap.size 5 n (putB v k)) (fun _ i _ => n - (intOf i).toNat)
    case atStart => exact ⟨0, Nat.zero_le _, rfl, Keeps.refl _ _, HROW.out.congr fun i _ => by unfold putB; rw [if_neg (by omega)]⟩
    case round =>
      obtain ⟨k, hk, rfl, hkp, hrow⟩ := hrel
      have HK := Lib.hid hkp
      have HR := Lib.hid hrow
      clear hkp hrow
      by_cases hlt : k < n
      · have hc := HR.out.cell (i := k) (by omega)
        have hf := HR.out.frozen k
        have e1 : IntKind.i64.wrap (8 * (k : Int)) = 8 * (k : Int) := IntWalk.i64_in _ (by omega)
        go_wp2_with fail
        go_roundw
        case rel => exact ⟨k + 1, by omega, by go_num, HK.out.set1 _ _, (HR.out.set k _).congr fun j _ => putB_step v k j⟩
        case measure => simp [intOf]; omega
      · obtain rfl : k = n := by omega
        go_wp2_with fail
        go_ret2
        refine ⟨_, rfl, Nat.le_refl _, HB0.out.trans (HK.out.below HB0.out.size (fun j hj e => by have e : j = w.heap.size := e; omega)), HR.out.congr fun j hj => ?_⟩
        unfold putB
        rw [if_pos hj]
  · have d1 : decide ((n : Int) < 8) = false := by simp; omega
    clear hs
    go_enter Try.func52, Try.ntmps52
    go_wp2_with fail
    rw [show (w.alloc (.cells (madeCells #[.int .u8 0] n) 5)) = W0 from HW0.out.symm]
    clear hmk
    go_loopw [7, 29] (fun _ i wr => ∃ k : Nat, k ≤ n ∧ i = .int .i64 k ∧ Keeps (One w.heap.size) W0 wr ∧ wr.rowIs w.heap.size 5 n (putB v k)) (fun _ i _ => n - (intOf i).toNat)
    case atStart => exact ⟨0, Nat.zero_le _, rfl, Keeps.refl _ _, HROW.out.congr fun i _ => by unfold putB; rw [if_neg (by omega)]⟩
    case round =>
      obtain ⟨k, hk, rfl, hkp, hrow⟩ := hrel
      have HK := Lib.hid hkp
      have HR := Lib.hid hrow
      clear hkp hrow
      by_cases hlt : k < n
      · have hc := HR.out.cell (i := k) (by omega)
        have hf := HR.out.frozen k
        have e1 : IntKind.i64.wrap (8 * (k : Int)) = 8 * (k : Int) := IntWalk.i64_in _ (by omega)
        go_wp2_with fail
        go_roundw
        case rel => exact ⟨k + 1, by omega, by go_num, HK.out.set1 _ _, (HR.out.set k _).congr fun j _ => putB_step v k j⟩
        case measure => simp [intOf]; omega
      · obtain rfl : k = n := by omega
        go_wp2_with fail
        go_ret2
        refine ⟨_, rfl, Nat.le_refl _, HB0.out.trans (HK.out.below HB0.out.size (fun j hj e => by have e : j = w.heap.size := e; omega)), HR.out.congr fun j hj => ?_⟩
        unfold putB
        rw [if_pos hj]

/-- A writer at block g holds the bytes xs; the blocks P are not its own. -/
structure Wr (P : Nat → Prop) (g : Nat) (W : World) (xs : List Value) : Prop where
  ex : ∃ v, W.cell? ⟨g, 0, none⟩ = some v ∧ W.ownsRow (g + 1) 5 1 v xs.length xs ∧ ∀ k, P k → v.ownBlock ≠ some k
  fr : W.frozen? ⟨g, 0, none⟩ = false
  notg : ¬ P g
  lt : ∀ k, P k → k < W.heap.size

theorem Wr.glt {P : Nat → Prop} {g : Nat} {W : World} {xs : List Value} (h : Wr P g W xs) : g < W.heap.size := by
  obtain ⟨v, hv, -⟩ := h.ex
  exact World.block_lt_of_cell? _ _ hv

theorem Wr.kept {P S : Nat → Prop} {g : Nat} {W W' : World} {xs : List Value} (h : Wr P g W xs) (k : Keeps S W W') (hg : ¬ S g) (hS : ∀ j, j < W.heap.size → ¬ S j) : Wr P g W' xs := by
  obtain ⟨v, hv, ho, hp⟩ := h.ex
  refine ⟨⟨v, k.cell hv hg, ?_, hp⟩, k.frozen' h.glt hg h.fr, h.notg, fun j hj => Nat.lt_of_lt_of_le (h.lt j hj) k.size⟩
  exact ho.kept (row := none) ⟨k.os, k.tape, k.output, k.size, fun j hj _ => k.block j hj (hS j hj)⟩ (by cases v.ownBlock <;> simp)

theorem Wr.less {P Q : Nat → Prop} {g : Nat} {W : World} {xs : List Value} (h : Wr P g W xs) (hQ : ∀ k, Q k → P k) : Wr Q g W xs := by
  obtain ⟨v, hv, ho, hp⟩ := h.ex
  exact ⟨⟨v, hv, ho, fun k hk => hp k (hQ k hk)⟩, h.fr, fun hg => h.notg (hQ _ hg), fun k hk => h.lt k (hQ k hk)⟩

/-- A block made since is not the writer's own. -/
theorem Wr.more {P : Nat → Prop} {g : Nat} {W W' : World} {xs : List Value} (h : Wr P g W xs) (hb : Below W.heap.size W W') : Wr (fun k => P k ∨ (W.heap.size ≤ k ∧ k < W'.heap.size)) g W' xs := by
  obtain ⟨v, hv, ho, hp⟩ := h.ex
  have k := Keeps.of_below (S := fun _ => False) hb
  refine ⟨⟨v, k.cell hv (fun e => e), ho.kept (row := none) ⟨k.os, k.tape, k.output, k.size, fun j hj _ => k.block j hj (fun e => e)⟩ (by cases v.ownBlock <;> simp), fun j hj => ?_⟩, k.frozen' h.glt (fun e => e) h.fr, fun hg => hg.elim h.notg (fun e => by have := h.glt; omega), fun j hj => hj.elim (fun e => Nat.lt_of_lt_of_le (h.lt j e) k.size) (fun e => e.2)⟩
  rcases hj with hj | hj
  · exact hp j hj
  · intro e
    have := (ho.lt j e).2
    omega

set_option maxRecDepth 100000 in
set_option maxHeartbeats 2000000 in
theorem wadd_ok (P : Nat → Prop) (g : Nat) (xs ys : List Value) (ad : Addr) (m c : Nat) (w : World) (h : Wr P g w xs) (hm : ys.length = m) (hy : ∀ j u, ys[j]? = some u → w.cell? (ad.add j) = some u) (h1 : ∀ u ∈ ys, u.oneCell' = true) (hl : xs.length + m ≤ 4096) :
   Calls Try.prog 49 #[.pointer (some ⟨g, 0, none⟩), .slice (some ad) m c, .int .i64 0] w fun e w' => e = .returned (.int .i64 0) ∧ Keeps (fun k => ¬ P k) w w' ∧ Wr P g w' (xs ++ ys) := by
  obtain ⟨i0, hi, hz0, hz1, hz2⟩ := info_parts infoU8
  have hgl := h.glt
  have H := Lib.hid h
  obtain ⟨v, hv, ho, hp⟩ := h.ex
  obtain ⟨ao, nc, rfl, hnc⟩ : ∃ ao nc, v = .slice ao xs.length nc ∧ xs.length ≤ nc := by
    obtain ⟨-, h2⟩ := ho
    rcases h2 with ⟨e, hn⟩ | ⟨g', cap, cur, e, -, -, hn, -⟩
    · exact ⟨none, 0, by rw [e, hn], by omega⟩
    · exact ⟨_, _, e, hn⟩
  have hf := h.fr
  have HP := Lib.hid hp
  have HO := Lib.hid ho
  have HY := Lib.hid hy
  have H1 := Lib.hid h1
  have HM := Lib.hid hm
  clear h ho hp hy h1 hm
  go_enter Try.func49, Try.ntmps49
  go_wp2_with (at_builtin; go_loud (refine wpList_append_own_at _ rfl _ _ 66 rfl (g + 1) 5 i0 (.int .u8 0) 1 1 Try.underlying66 hi hz0 hz1 hz2 rfl (by decide) _ _ xs rfl HO.out ad m c ys rfl (by rw [HM.out, Nat.mul_one]) HY.out H1.out ?c3 ?c4 ?c5 ?_))
  case c3 => unfold maxLen; omega
  case c4 => omega
  case c5 => omega
  intro v' w1 hown hgr hnil hob
  have hgo : ∀ k, (Value.slice ao xs.length nc).ownBlock = some k → g + 1 ≤ k ∧ k < w.heap.size := fun k e => HO.out.lt k e
  have c0 : w1.cell? ⟨g, 0, none⟩ = some (.slice ao xs.length nc) := (World.cell?_of_block (w := w) (hgr.block g hgl (fun e => by have := (hgo g e.symm).1; omega))).trans hv
  have f0 : w1.frozen? ⟨g, 0, none⟩ = false := (World.frozen?_of_block (w := w) (hgr.block g hgl (fun e => by have := (hgo g e.symm).1; omega))).trans hf
  have HG := Lib.hid hgr
  have HOB := Lib.hid hob
  have hl1 := hgr.size
  obtain ⟨ao', nc', rfl, -⟩ : ∃ ao' nc', v' = .slice ao' (xs.length + m) nc' ∧ xs.length + m ≤ nc' := by
    obtain ⟨-, h2⟩ := hown
    rcases h2 with ⟨e, hn⟩ | ⟨g', cap, cur, e, -, -, hn, -⟩
    · exact ⟨none, 0, by rw [e, hn], by omega⟩
    · exact ⟨_, _, e, hn⟩
  have HON := Lib.hid hown
  clear hgr hob hown hnil hv hf
  go_wp2_with fail
  go_ret
  have hk1 : Keeps (fun k => ¬ P k) w w1 := ⟨HG.out.os, HG.out.tape, HG.out.output, HG.out.size, fun k hk hS => HG.out.block k hk (fun e => HP.out k (Classical.not_not.1 hS) e.symm)⟩
  have hk2 : Keeps (fun k => ¬ P k) w (w1.setCell ⟨g, 0, none⟩ (.slice ao' (xs.length + m) nc')) := hk1.setCell (p := ⟨g, 0, none⟩) (fun _ => H.out.notg) _
  have hbl : ∀ k, (Value.slice ao' (xs.length + m) nc').ownBlock = some k → g + 1 ≤ k := fun k e => (HON.out.lt k e).1
  refine ⟨rfl, hk2, ⟨_, World.cell?_setCell_same _ _ _ c0, ?_, fun k hk => ?_⟩, by go_simp, H.out.notg, fun k hk => Nat.lt_of_lt_of_le (H.out.lt k hk) hk2.size⟩
  · have := HON.out.kept (w' := w1.setCell ⟨g, 0, none⟩ (.slice ao' (xs.length + m) nc')) (row := some g) ⟨rfl, rfl, rfl, by simp, fun k hk hne => Below.heap_setCell _ _ _ _ (fun e => hne (by rw [e]))⟩ (by
      cases hvo : (Value.slice ao' (xs.length + m) nc').ownBlock with
      | none => exact .inl rfl
      | some k => exact .inr (fun e => by cases e; have := hbl g hvo; omega))
    rw [List.length_append, HM.out]
    exact this
  · rcases HOB.out with e | e
    · rw [e]; exact HP.out k hk
    · rw [e]; intro e2; cases e2; have := H.out.lt _ hk; omega

/-- A slice of n bytes xs in a block from N on. -/
def NewL (N : Nat) (w : World) (v : Value) (n : Nat) (xs : List Value) : Prop :=
  ∃ g cap F, v = .slice (some ⟨g, 0, none⟩) n cap ∧ N ≤ g ∧ w.rowIs g 5 cap F ∧ n ≤ cap ∧ cap ≤ 9223372036854775807 ∧ ∀ i, i < n → xs[i]? = some (F i)

theorem newL_of_owns {N : Nat} {w : World} {v : Value} {n : Nat} {xs : List Value} (h : w.ownsRow N 5 1 v n xs) (hv : v ≠ .slice none 0 0) (hl : xs.length = n) : NewL N w v n xs := by
  obtain ⟨h1, h2⟩ := h
  rcases h2 with ⟨h2, -⟩ | ⟨g, cap, cur, rfl, hg, hh, hn, hc, hs, hx⟩
  · exact absurd h2 hv
  · refine ⟨g, cap, fun i => cur.getD i undef, rfl, hg, ⟨cur, hh, by omega, fun i hi => ?_⟩, hn, ?_, fun i hi => ?_⟩
    · simp only [Array.getD_eq_getD_getElem?]
      rw [Array.getElem?_eq_getElem (by omega)]; rfl
    · unfold maxLen at hc; omega
    · have e1 : cur.toList[i]? = xs[i]? := by
        have : (cur.toList.take (n * 1))[i]? = cur.toList[i]? := by rw [List.getElem?_take, if_pos (by omega)]
        rw [← this, hx]
      rw [← e1]
      simp only [Array.getD_eq_getD_getElem?, Array.getElem?_toList]
      rw [Array.getElem?_eq_getElem (by omega)]; rfl

set_option maxHeartbeats 1000000 in
theorem clone_row (n c : Nat) (ad : Addr) (xs : List Value) (w : World) (hx : xs.length = n) (h : ∀ j u, xs[j]? = some u → w.cell? (ad.add j) = some u) (h1 : ∀ u ∈ xs, u.oneCell' = true) (hn : n ≤ 1073741824) :
   Calls Try.prog 53 #[.slice (some ad) n c] w fun e w' => ∃ v, e = .returned v ∧ NewL w.heap.size w' v n xs ∧ Below w.heap.size w w' := by
  obtain ⟨i0, hi, hz0, hz1, hz2⟩ := info_parts infoU8
  have H := Lib.hid h
  have H1 := Lib.hid h1
  have HX := Lib.hid hx
  clear h h1 hx
  have hws : ∀ W : World, (W.alloc (.cells #[] 5)).ownsRow W.heap.size 5 1 (.slice (some ⟨W.heap.size, 0, none⟩) 0 0) 0 [] := fun W =>
    ⟨rfl, .inr ⟨W.heap.size, 0, #[], rfl, Nat.le_refl _, heap_alloc_new _ _, Nat.le_refl _, by simp [maxLen], rfl, rfl⟩⟩
  go_enter Try.func53, Try.ntmps53
  go_wp2_with ((at_builtin; refine wpList_append_own _ rfl _ _ 66 rfl w.heap.size 5 i0 (.int .u8 0) 1 1 Try.underlying66 hi hz0 hz1 hz2 rfl (by decide) _ _ _ rfl (hws w) ad n c xs rfl (by rw [HX.out, Nat.mul_one]) ?c1 H1.out ?c3 ?c4 ?c5 ?_))
  case c1 => intro j u hu; exact ((Keeps.refl (fun _ => False) w).alloc _).cell (H.out j u hu) (fun e => e)
  case c3 => unfold maxLen; omega
  case c4 => omega
  case c5 => simp
  intro v' w1 hown hgr hnil
  go_wp2
  go_ret
  refine ⟨_, rfl, newL_of_owns (by simpa using hown) ?_ HX.out, ((Below.refl _ w).alloc (Nat.le_refl _) _).grown hgr (by simp) (fun k e => by cases e; exact Nat.le_refl _)⟩
  exact hnil

set_option maxRecDepth 100000 in
set_option maxHeartbeats 2000000 in
theorem wBytes_ok (P : Nat → Prop) (g : Nat) (xs : List Value) (w : World) (h : Wr P g w xs) (h0 : 0 < xs.length) (h1 : ∀ u ∈ xs, u.oneCell' = true) (hn : xs.length ≤ 4096) :
   Calls Try.prog 37 #[.pointer (some ⟨g, 0, none⟩)] w fun e w' => ∃ v, e = .returned v ∧ NewL w.heap.size w' v xs.length xs ∧ Below w.heap.size w w' := by
  obtain ⟨v, hv, ho, -⟩ := h.ex
  obtain ⟨g1, cap, F, rfl, hg1, hr, hc, hc', hx⟩ := newL_of_owns ho (by
    intro e
    obtain ⟨-, h2⟩ := ho
    rcases h2 with ⟨e2, hn⟩ | ⟨g', cap, cur, e2, -⟩
    · omega
    · rw [e] at e2; cases e2) rfl
  have HR := Lib.hid hr
  have HX := Lib.hid hx
  have H1 := Lib.hid h1
  clear h ho hr hx h1
  go_enter Try.func37, Try.ntmps37
  go_wp2_with fail
  refine (clone_row xs.length cap ⟨g1, 0, none⟩ xs w rfl (fun j u hu => ?_) H1.out (by omega)).mono ?_
  · have hj : j < xs.length := (List.getElem?_eq_some_iff.1 hu).1
    rw [HX.out j hj] at hu
    cases hu
    rw [Addr.add_mid, Nat.zero_add]
    exact HR.out.cell (by omega)
  rintro e w1 ⟨v1, rfl, hn1, hb1⟩
  go_wp2_with fail
  go_ret
  exact ⟨_, rfl, hn1, hb1⟩
end Go.Proofs.Ytiinjjfggmmkmaa
