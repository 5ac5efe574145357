/- wire: Put, Writer's add, Add, Bytes; Clone of bytes. -/
import Derived.Test.YtfploifafpifnaaRow
import Derived.Test.YtfploifafpifnaaR2
import Derived.IntWalk
import Derived.Maps.AppendAt
import Derived.BigRegion
import Derived.Laws.BitsAllLaws
set_option linter.unusedVariables false
namespace Go.Proofs.Ytfploifafpifnaa
set_option linter.unusedSimpArgs false
open Go.RowKit

theorem infoU8 : (Try.prog.info? 5).map (fun i => (i.zero, i.size, i.bytes)) = some (some (.int .u8 0), 1, 1) := by kernel_rfl
theorem ret_int {k : IntKind} {a b : Int} (h : a = b) : Ending.returned (.int k a) = .returned (.int k b) := by rw [h]

/-- byte j of a number -/
def byteOf (v : Int) (j : Nat) : Int := v / 2 ^ (8 * j) % 256
/-- n bytes of a number -/
def bytesL (v : Int) (n : Nat) : List Value := (List.range n).map fun j => .int .u8 (byteOf v j)
theorem bytesL_length (v : Int) (n : Nat) : (bytesL v n).length = n := by simp [bytesL]
theorem bytesL_one (v : Int) (n : Nat) : ∀ u ∈ bytesL v n, u.oneCell' = true := by
  intro u hu
  unfold bytesL at hu
  obtain ⟨j, -, rfl⟩ := List.mem_map.1 hu
  rfl
theorem bytesL_get (v : Int) (n j : Nat) (h : j < n) : (bytesL v n)[j]? = some (.int .u8 (byteOf v j)) := by simp [bytesL, h]

theorem Keeps.frozen' {S : Nat → Prop} {a b : World} (h : Keeps S a b) {p : Addr} (hr : p.block < a.heap.size) (hS : ¬ S p.block) (hf : a.frozen? p = false) : b.frozen? p = false :=
  (World.frozen?_of_block (w := a) (h.block p.block hr hS)).trans hf

/-- the bytes of a number have been put: the first k -/
def putB (v : Int) (k : Nat) : Nat → Value := fun j => if j < k then .int .u8 (byteOf v j) else .int .u8 0

theorem putB_step (v : Int) (k j : Nat) : (if j = k then Value.int .u8 (v / 2 ^ (8 * k) % 256) else putB v k j) = putB v (k + 1) j := by
  unfold putB
  by_cases e : j = k
  · subst e; rw [if_pos rfl, if_pos (by omega)]; rfl
  · by_cases h : j < k
    · rw [if_neg e, if_pos h, if_pos (by omega)]
    · rw [if_neg e, if_neg h, if_neg (by omega)]

set_option maxRecDepth 100000 in
set_option maxHeartbeats 2000000 in
theorem wput_ok (v : Int) (n : Nat) (w : World) (h1 : 1 ≤ n) (h8 : n ≤ 8) (hv : 0 ≤ v) (hv' : v ≤ 18446744073709551615) (hs : n = 8 ∨ (n < 8 ∧ v / 2 ^ (8 * n) = 0)) :
   Calls Try.prog 53 #[.int .u64 v, .int .i64 n] w fun e w' => ∃ g, e = .returned (.tuple #[.slice (some ⟨g, 0, none⟩) n n, .int .i64 0]) ∧ w.heap.size ≤ g ∧ Below w.heap.size w w' ∧ w'.rowIs g 5 n (fun j => .int .u8 (byteOf v j)) := by
  have hmk := run_make_row' (P := Try.prog) 24 5 (.int .u8 0) 1 Try.underlying24 infoU8 rfl .i64 .i64 n (by omega) (by omega)
  have e0 : IntKind.i64.wrap (8 * (n : Int)) = 8 * (n : Int) := IntWalk.i64_in _ (by omega)
  have hrow := World.rowIs_made w (.int .u8 0) n 5
  obtain ⟨W0, hW0⟩ : ∃ W0, W0 = w.alloc (.cells (madeCells #[.int .u8 0] n) 5) := ⟨_, rfl⟩
  have hb0 : Below w.heap.size w W0 := by rw [hW0]; exact (Below.refl _ w).alloc (Nat.le_refl _) _
  rw [← hW0] at hrow
  have HROW := Lib.hid hrow
  have HB0 := Lib.hid hb0
  have HW0 := Lib.hid hW0
  clear hrow hb0 hW0
  by_cases h7 : n < 8
  · have hz : v / 2 ^ (8 * n) = 0 := by omega
    have d1 : decide ((n : Int) < 8) = true := by simp; omega
    clear hs
    go_enter Try.func53, Try.ntmps53
    go_wp2_with fail
    rw [show (w.alloc (.cells (madeCells #[.int .u8 0] n) 5)) = W0 from HW0.out.symm]
    clear hmk
    go_loopw [7, 29] (fun _ i wr => ∃ k : Nat, k ≤ n ∧ i = .int .i64 k ∧ Keeps (One w.heap.size) W0 wr ∧ wr.rowIs w.heap.size 5 n (putB v k)) (fun _ i _ => n - (intOf i).toNat)
    case atStart => exact ⟨0, Nat.zero_le _, rfl, Keeps.refl _ _, HROW.out.congr fun i _ => by unfold putB; rw [if_neg (by omega)]⟩
    case round =>
      obtain ⟨k, hk, rfl, hkp, hrow⟩ := hrel
      have HK := Lib.hid hkp
      have HR := Lib.hid hrow
      clear hkp hrow
      by_cases hlt : k < n
      · have hc := HR.out.cell (i := k) (by omega)
        have hf := HR.out.frozen k
        have e1 : IntKind.i64.wrap (8 * (k : Int)) = 8 * (k : Int) := IntWalk.i64_in _ (by omega)
        go_wp2_with fail
        go_roundw
        case rel => exact ⟨k + 1, by omega, by go_num, HK.out.set1 _ _, (HR.out.set k _).congr fun j _ => putB_step v k j⟩
        case measure => simp [intOf]; omega
      · obtain rfl : k = n := by omega
        go_wp2_with fail
        go_ret2
        refine ⟨_, rfl, Nat.le_refl _, HB0.out.trans (HK.out.below HB0.out.size (fun j hj e => by have e : j = w.heap.size := e; omega)), HR.out.congr fun j hj => ?_⟩
        unfold putB
        rw [if_pos hj]
  · have d1 : decide ((n : Int) < 8) = false := by simp; omega
    clear hs
    go_enter Try.func53, Try.ntmps53
    go_wp2_with fail
    rw [show (w.alloc (.cells (madeCells #[.int .u8 0] n) 5)) = W0 from HW0.out.symm]
    clear hmk
    go_loopw [7, 29] (fun _ i wr => ∃ k : Nat, k ≤ n ∧ i = .int .i64 k ∧ Keeps (One w.heap.size) W0 wr ∧ wr.rowIs w.heap.size 5 n (putB v k)) (fun _ i _ => n - (intOf i).toNat)
    case atStart => exact ⟨0, Nat.zero_le _, rfl, Keeps.refl _ _, HROW.out.congr fun i _ => by unfold putB; rw [if_neg (by omega)]⟩
    case round =>
      obtain ⟨k, hk, rfl, hkp, hrow⟩ := hrel
      have HK := Lib.hid hkp
      have HR := Lib.hid hrow
      clear hkp hrow
      by_cases hlt : k < n
      · have hc := HR.out.cell (i := k) (by omega)
        have hf := HR.out.frozen k
        have e1 : IntKind.i64.wrap (8 * (k : Int)) = 8 * (k : Int) := IntWalk.i64_in _ (by omega)
        go_wp2_with fail
        go_roundw
        case rel => exact ⟨k + 1, by omega, by go_num, HK.out.set1 _ _, (HR.out.set k _).congr fun j _ => putB_step v k j⟩
        case measure => simp [intOf]; omega
      · obtain rfl : k = n := by omega
        go_wp2_with fail
        go_ret2
        refine ⟨_, rfl, Nat.le_refl _, HB0.out.trans (HK.out.below HB0.out.size (fun j hj e => by have e : j = w.heap.size := e; omega)), HR.out.congr fun j hj => ?_⟩
        unfold putB
        rw [if_pos hj]

/-- A writer at block g holds the bytes xs; the blocks P are not its own. -/
structure Wr (P : Nat → Prop) (g : Nat) (W : World) (xs : List Value) : Prop where
  ex : ∃ v, W.cell? ⟨g, 0, none⟩ = some v ∧ W.ownsRow (g + 1) 5 1 v xs.length xs ∧ ∀ k, P k → v.ownBlock ≠ some k
  fr : W.frozen? ⟨g, 0, none⟩ = false
  notg : ¬ P g
  lt : ∀ k, P k → k < W.heap.size

theorem Wr.glt {P : Nat → Prop} {g : Nat} {W : World} {xs : List Value} (h : Wr P g W xs) : g < W.heap.size := by
  obtain ⟨v, hv, -⟩ := h.ex
  exact World.block_lt_of_cell? _ _ hv

theorem Wr.kept {P S : Nat → Prop} {g : Nat} {W W' : World} {xs : List Value} (h : Wr P g W xs) (k : Keeps S W W') (hg : ¬ S g) (hS : ∀ j, j < W.heap.size → ¬ S j) : Wr P g W' xs := by
  obtain ⟨v, hv, ho, hp⟩ := h.ex
  refine ⟨⟨v, k.cell hv hg, ?_, hp⟩, k.frozen' h.glt hg h.fr, h.notg, fun j hj => Nat.lt_of_lt_of_le (h.lt j hj) k.size⟩
  exact ho.kept (row := none) ⟨k.os, k.tape, k.output, k.size, fun j hj _ => k.block j hj (hS j hj)⟩ (by cases v.ownBlock <;> simp)

theorem Wr.less {P Q : Nat → Prop} {g : Nat} {W : World} {xs : List Value} (h : Wr P g W xs) (hQ : ∀ k, Q k → P k) : Wr Q g W xs := by
  obtain ⟨v, hv, ho, hp⟩ := h.ex
  exact ⟨⟨v, hv, ho, fun k hk => hp k (hQ k hk)⟩, h.fr, fun hg => h.notg (hQ _ hg), fun k hk => h.lt k (hQ k hk)⟩

/-- A block made since is not the writer's own. -/
theorem Wr.more {P : Nat → Prop} {g : Nat} {W W' : World} {xs : List Value} (h : Wr P g W xs) (hb : Below W.heap.size W W') : Wr (fun k => P k ∨ (W.heap.size ≤ k ∧ k < W'.heap.size)) g W' xs := by
  obtain ⟨v, hv, ho, hp⟩ := h.ex
  have k := Keeps.of_below (S := fun _ => False) hb
  refine ⟨⟨v, k.cell hv (fun e => e), ho.kept (row := none) ⟨k.os, k.tape, k.output, k.size, fun j hj _ => k.block j hj (fun e => e)⟩ (by cases v.ownBlock <;> simp), fun j hj => ?_⟩, k.frozen' h.glt (fun e => e) h.fr, fun hg => hg.elim h.notg (fun e => by have := h.glt; omega), fun j hj => hj.elim (fun e => Nat.lt_of_lt_of_le (h.lt j e) k.size) (fun e => e.2)⟩
  rcases hj with hj | hj
  · exact hp j hj
  · intro e
    have := (ho.lt j e).2
    omega

/-- A slice of n bytes xs in a block from N on. -/
def NewL (N : Nat) (w : World) (v : Value) (n : Nat) (xs : List Value) : Prop :=
  ∃ g cap F, v = .slice (some ⟨g, 0, none⟩) n cap ∧ N ≤ g ∧ w.rowIs g 5 cap F ∧ n ≤ cap ∧ cap ≤ 9223372036854775807 ∧ ∀ i, i < n → xs[i]? = some (F i)

theorem newL_of_owns {N : Nat} {w : World} {v : Value} {n : Nat} {xs : List Value} (h : w.ownsRow N 5 1 v n xs) (hv : v ≠ .slice none 0 0) (hl : xs.length = n) : NewL N w v n xs := by
  obtain ⟨h1, h2⟩ := h
  rcases h2 with ⟨h2, -⟩ | ⟨g, cap, cur, rfl, hg, hh, hn, hc, hs, hx⟩
  · exact absurd h2 hv
  · refine ⟨g, cap, fun i => cur.getD i undef, rfl, hg, ⟨cur, hh, by omega, fun i hi => ?_⟩, hn, ?_, fun i hi => ?_⟩
    · simp only [Array.getD_eq_getD_getElem?]
      rw [Array.getElem?_eq_getElem (by omega)]; rfl
    · unfold maxLen at hc; omega
    · have e1 : cur.toList[i]? = xs[i]? := by
        have : (cur.toList.take (n * 1))[i]? = cur.toList[i]? := by rw [List.getElem?_take, if_pos (by omega)]
        rw [← this, hx]
      rw [← e1]
      simp only [Array.getD_eq_getD_getElem?, Array.getElem?_toList]
      rw [Array.getElem?_eq_getElem (by omega)]; rfl

set_option maxHeartbeats 1000000 in
theorem clone_row (n c : Nat) (ad : Addr) (xs : List Value) (w : World) (hx : xs.length = n) (h : ∀ j u, xs[j]? = some u → w.cell? (ad.add j) = some u) (h1 : ∀ u ∈ xs, u.oneCell' = true) (hn : n ≤ 1073741824) :
   Calls Try.prog 38 #[.slice (some ad) n c] w fun e w' => ∃ v, e = .returned v ∧ NewL w.heap.size w' v n xs ∧ Below w.heap.size w w' := by
  obtain ⟨i0, hi, hz0, hz1, hz2⟩ := info_parts infoU8
  have H := Lib.hid h
  have H1 := Lib.hid h1
  have HX := Lib.hid hx
  clear h h1 hx
  have hws : ∀ W : World, (W.alloc (.cells #[] 5)).ownsRow W.heap.size 5 1 (.slice (some ⟨W.heap.size, 0, none⟩) 0 0) 0 [] := fun W =>
    ⟨rfl, .inr ⟨W.heap.size, 0, #[], rfl, Nat.le_refl _, heap_alloc_new _ _, Nat.le_refl _, by simp [maxLen], rfl, rfl⟩⟩
  go_enter Try.func38, Try.ntmps38
  go_wp2_with ((at_builtin; refine wpList_append_own _ rfl _ _ 24 rfl w.heap.size 5 i0 (.int .u8 0) 1 1 Try.underlying24 hi hz0 hz1 hz2 rfl (by decide) _ _ _ rfl (hws w) ad n c xs rfl (by rw [HX.out, Nat.mul_one]) ?c1 H1.out ?c3 ?c4 ?c5 ?_))
  case c1 => intro j u hu; exact ((Keeps.refl (fun _ => False) w).alloc _).cell (H.out j u hu) (fun e => e)
  case c3 => unfold maxLen; omega
  case c4 => omega
  case c5 => simp
  intro v' w1 hown hgr hnil
  go_wp2
  go_ret
  refine ⟨_, rfl, newL_of_owns (by simpa using hown) ?_ HX.out, ((Below.refl _ w).alloc (Nat.le_refl _) _).grown hgr (by simp) (fun k e => by cases e; exact Nat.le_refl _)⟩
  exact hnil

end Go.Proofs.Ytfploifafpifnaa
