/- memory: Clone of bytes, Read. -/
import Derived.Test.YtfploifafpifnaaMF
namespace Go.Proofs.Ytfploifafpifnaa
set_option linter.unusedVariables false
set_option linter.unusedSimpArgs false
open Go.RowKit

/-- v is a slice of n bytes s in a block from N on, at the head of that block. -/
def NewBytes (N : Nat) (w : World) (v : Value) (n : Nat) (s : Nat → Int) : Prop :=
  ∃ g cap F, v = .slice (some ⟨g, 0, none⟩) n cap ∧ N ≤ g ∧ w.rowIs g 5 cap F ∧ n ≤ cap ∧ cap ≤ 9223372036854775807 ∧ ∀ i, i < n → F i = .int .u8 (s i)

theorem newBytes_of_owns {N : Nat} {w : World} {v : Value} {n : Nat} {s : Nat → Int} (h : w.ownsRow N 5 1 v n ((List.range n).map fun i => .int .u8 (s i))) (hv : v ≠ .slice none 0 0) : NewBytes N w v n s := by
  obtain ⟨h1, h2⟩ := h
  rcases h2 with ⟨h2, -⟩ | ⟨g, cap, cur, rfl, hg, hh, hn, hc, hs, hx⟩
  · exact absurd h2 hv
  · refine ⟨g, cap, fun i => cur.getD i undef, rfl, hg, ⟨cur, hh, by omega, fun i hi => ?_⟩, hn, ?_, fun i hi => ?_⟩
    · simp only [Array.getD_eq_getD_getElem?]
      rw [Array.getElem?_eq_getElem (by omega)]; rfl
    · unfold maxLen at hc; omega
    · have e1 : cur.toList[i]? = some (.int .u8 (s i)) := by
        have : (cur.toList.take (n * 1))[i]? = cur.toList[i]? := by rw [List.getElem?_take, if_pos (by omega)]
        rw [← this, hx]; simp [hi]
      simp only [Array.getD_eq_getD_getElem?]
      rw [← Array.getElem?_toList, e1]; rfl

set_option maxHeartbeats 1000000 in
theorem clone_some (n c : Nat) (ad : Addr) (s : Nat → Int) (S : Nat → Prop) (w : World) (h : Src S w (some ad) n s) (hn : n ≤ 1073741824) :
   Calls Try.prog 38 #[.slice (some ad) n c] w fun e w' => ∃ v, e = .returned v ∧ NewBytes w.heap.size w' v n s ∧ Below w.heap.size w w' := by
  obtain ⟨i0, hi, hz0, hz1, hz2⟩ := info_parts infoU8
  have H := Lib.hid h
  clear h
  have hws : ∀ W : World, (W.alloc (.cells #[] 5)).ownsRow W.heap.size 5 1 (.slice (some ⟨W.heap.size, 0, none⟩) 0 0) 0 [] := fun W =>
    ⟨rfl, .inr ⟨W.heap.size, 0, #[], rfl, Nat.le_refl _, heap_alloc_new _ _, Nat.le_refl _, by simp [maxLen], rfl, rfl⟩⟩
  go_enter Try.func38, Try.ntmps38
  go_wp2_with ((at_builtin; refine wpList_append_own _ rfl _ _ 24 rfl w.heap.size 5 i0 (.int .u8 0) 1 1 Try.underlying24 hi hz0 hz1 hz2 rfl (by decide) _ _ _ rfl (hws w) ad n c ((List.range n).map fun i => .int .u8 (s i)) rfl (by simp) ?c1 ?c2 ?c3 ?c4 ?c5 ?_))
  case c1 =>
    intro j u hu
    simp only [List.getElem?_map, Option.map_eq_some_iff] at hu
    obtain ⟨k, hk, rfl⟩ := hu
    simp only [List.range_eq_range'] at hk
    by_cases hj : j < n
    · simp [hj] at hk; subst hk
      obtain ⟨g, o, e, -, hc⟩ := H.out.at' (by omega)
      simp only [Option.some.injEq] at e
      subst e
      rw [Addr.add_mid, World.cell?_alloc_past _ _ _ (World.block_lt_of_cell? _ _ (hc j hj))]
      exact hc j hj
    · simp [hj] at hk
  case c2 => intro u hu; simp at hu; obtain ⟨k, -, rfl⟩ := hu; rfl
  case c3 => unfold maxLen; omega
  case c4 => omega
  case c5 => simp
  intro v' w1 hown hgr hnil
  go_wp2
  go_ret
  refine ⟨_, rfl, newBytes_of_owns (by simpa using hown) ?_, ((Below.refl _ w).alloc (Nat.le_refl _) _).grown hgr (by simp) (fun k e => by cases e; exact Nat.le_refl _)⟩
  exact hnil

set_option maxHeartbeats 1000000 in
theorem clone_nil (w : World) :
   Calls Try.prog 38 #[.slice none 0 0] w fun e w' => e = .returned (.slice none 0 0) ∧ w = w' := by
  go_enter Try.func38, Try.ntmps38
  go_wp2
  go_ret
  exact ⟨rfl, rfl⟩

set_option maxHeartbeats 1000000 in
theorem read_ok (b B size : Nat) (f : Nat → Int) (L : List (Nat × Nat)) (addr n : Nat) (w : World) (h : MemAt w b B size f L) (hf : addr + n ≤ size) :
   Calls Try.prog 12 #[.pointer (some ⟨b, 0, none⟩), .int .u64 addr, .int .i64 n] w fun e w' =>
     ∃ v, e = .returned (.tuple #[v, .int .i64 0]) ∧ NewBytes w.heap.size w' v n (fun i => f (addr + i)) ∧ Below w.heap.size w w' := by
  have hs := h.small
  obtain ⟨c0, hsl, hc1, hc2⟩ := h.slice
  have hM := Lib.hid h
  have hsl' := Lib.hid hsl
  clear h hsl
  go_enter Try.func12, Try.ntmps12
  go_wp2_with fail
  refine (span_ok _ _ _ _ _ n _ hsl'.out hs hc1 hc2 hf).mono ?_
  rintro e w1 ⟨⟨ad, rfl, had⟩, hb⟩
  have had' := Lib.hid had
  have hM1 := Lib.hid (hM.out.kept (Keeps.of_below (S := fun _ => False) hb) (fun h => h) (fun h => h))
  clear had
  go_wp2_with fail
  refine (clone_some n n ad (fun i => f (addr + i)) (fun _ => False) _ ⟨by omega, fun hn => ⟨B, addr, by rw [had'.out hn], fun h => h, fun i hi => hM1.out.cells (addr + i) (by omega)⟩⟩ (by omega)).mono ?_
  rintro e w2 ⟨v, rfl, hv, hb2⟩
  go_wp2_with fail
  go_ret2
  obtain ⟨g, cap, F, hg1, hg2, hg3⟩ := hv
  have := hb.size
  exact ⟨_, rfl, ⟨g, cap, F, hg1, by omega, hg3⟩, hb.trans (hb2.mono this)⟩

set_option maxHeartbeats 1000000 in
theorem read_err (b B size : Nat) (f : Nat → Int) (L : List (Nat × Nat)) (addr n : Int) (w : World) (h : MemAt w b B size f L)
    (ha : 0 ≤ addr) (ha' : addr ≤ 18446744073709551615) (hn : -9223372036854775808 ≤ n) (hn' : n ≤ 9223372036854775807) (hc : (chk size addr n != 0) = true) :
   Calls Try.prog 12 #[.pointer (some ⟨b, 0, none⟩), .int .u64 addr, .int .i64 n] w fun e w' =>
     e = .returned (.tuple #[.slice none 0 0, .int .i64 (chk size addr n)]) ∧ Below w.heap.size w w' := by
  have hs := h.small
  obtain ⟨c0, hsl, -, -⟩ := h.slice
  have hsl' := Lib.hid hsl
  have HC := Lib.hid hc
  generalize hk : chk size addr n = k at *
  have HK := Lib.hid hk
  clear h hsl hc hk
  go_enter Try.func12, Try.ntmps12
  go_wp2_with fail
  refine (span_err _ _ _ _ _ _ _ hsl'.out hs ha ha' hn hn' (by rw [HK.out]; exact HC.out)).mono ?_
  rw [HK.out]
  rintro e w1 ⟨rfl, hb⟩
  go_wp2_with fail
  refine (clone_nil _).mono ?_
  rintro e w2 ⟨rfl, rfl⟩
  go_wp2_with fail
  go_ret2
  exact ⟨rfl, hb⟩

set_option maxHeartbeats 1000000 in
theorem read_nil (addr n : Int) (w : World) :
   Calls Try.prog 12 #[.pointer none, .int .u64 addr, .int .i64 n] w fun e w' =>
     e = .returned (.tuple #[.slice none 0 0, .int .i64 1]) ∧ w = w' := by
  go_enter Try.func12, Try.ntmps12
  go_wp2_with fail
  refine (span_nil _ _ _).mono ?_
  rintro e w1 ⟨rfl, rfl⟩
  go_wp2_with fail
  refine (clone_nil _).mono ?_
  rintro e w2 ⟨rfl, rfl⟩
  go_wp2_with fail
  go_ret2
  exact ⟨rfl, rfl⟩

set_option maxHeartbeats 1000000 in
theorem read_zero (b m k : Nat) (addr n : Int) (w : World) (h : w.cell? ⟨b, 769, none⟩ = some (.slice none m k)) :
   Calls Try.prog 12 #[.pointer (some ⟨b, 0, none⟩), .int .u64 addr, .int .i64 n] w fun e w' =>
     e = .returned (.tuple #[.slice none 0 0, .int .i64 1]) ∧ w = w' := by
  have H := Lib.hid h
  clear h
  go_enter Try.func12, Try.ntmps12
  go_wp2_with fail
  refine (span_zero _ _ _ _ _ _ H.out).mono ?_
  rintro e w1 ⟨rfl, rfl⟩
  go_wp2_with fail
  refine (clone_nil _).mono ?_
  rintro e w2 ⟨rfl, rfl⟩
  go_wp2_with fail
  go_ret2
  exact ⟨rfl, rfl⟩

end Go.Proofs.Ytfploifafpifnaa
