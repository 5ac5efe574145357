/- memory: the specification's Read and Write. -/
import Derived.Test.YtobbnfdflogicaaQ
namespace Go.Proofs.Ytobbnfdflogicaa
open Go.RowKit

/-- A range of a slice of bytes copied: what the append wants to know of its source. -/
theorem src_range {S : Nat → Prop} {w : World} {ao : Addr} {n : Nat} {f : Nat → Int} (h : Src S w (some ao) n f) (addr k c : Nat) (hk : addr + k ≤ n) (hc : n ≤ c) (j : Nat) (hj : j < k) :
    w.cell? (Addr.add (if c = addr then ao else ao.add addr) j) = some (.int .u8 (f (addr + j))) := by
  obtain ⟨g, o, e, -, hx⟩ := h.at' (by omega)
  simp only [Option.some.injEq] at e
  subst e
  rw [if_neg (by omega), Addr.add_mid, Addr.add_mid, Nat.add_assoc]
  exact hx (addr + j) (by omega)

set_option maxHeartbeats 1000000 in
theorem rread_ok (S : Nat → Prop) (v : Value) (n : Nat) (f : Nat → Int) (L : List (Nat × Nat)) (addr k : Nat) (w : World) (h : RefAt S w v n f L) (hn : n ≤ 4194304) (hk : addr + k ≤ n) :
   Calls Try.prog 37 #[v, .int .u64 addr, .int .i64 k] w fun e w' => ∃ sv, e = .returned (.tuple #[sv, .int .i64 0]) ∧ NewBytes w.heap.size w' sv k (fun i => f (addr + i)) ∧ Below w.heap.size w w' := by
  obtain ⟨ao, c, al, cl, rfl, h2, h3, h4, h5, h6, h7, h8⟩ := h
  obtain ⟨i0, hi, hz0, hz1, hz2⟩ := info_parts infoU8
  have H7 := Lib.hid h7
  have hc : chk n addr k = 0 := by unfold chk; rw [if_neg (by omega), if_pos (by omega)]
  have HC := Lib.hid hc
  clear h7 h8 h6 hc
  have e1 : IntKind.i64.wrap ((addr : Int) + (k : Int)) = ((addr + k : Nat) : Int) := by rw [IntWalk.i64_in _ (by omega)]; omega
  have hws : ∀ W : World, (W.alloc (.cells #[] 5)).ownsRow W.heap.size 5 1 (.slice (some ⟨W.heap.size, 0, none⟩) 0 0) 0 [] := fun W =>
    ⟨rfl, .inr ⟨W.heap.size, 0, #[], rfl, Nat.le_refl _, heap_alloc_new _ _, Nat.le_refl _, by simp [maxLen], rfl, rfl⟩⟩
  have HWS := Lib.hid hws
  clear hws
  by_cases hne : c = addr
  · have hk0 : k = 0 := by omega
    subst hne hk0
    go_enter Try.func37, Try.ntmps37
    go_wp2_with (go_at_call 38; refine (rcheck_any (some ao) n c _ c 0 _ hn (by omega) (by omega) (by omega) (by omega)).mono ?_; rw [show chk n c 0 = 0 from HC.out]; rintro e w1 ⟨rfl, hb⟩; have HB := Lib.hid hb; have q0 : w1.cell? ⟨w.heap.size, 0, none⟩ = some (.slice (some ao) n c) := (hb.cell (p := ⟨w.heap.size, 0, none⟩) (by simp)).trans (by go_simp); have hl1 : w.heap.size < w1.heap.size := (by have := hb.size; simp at this; omega); have HR1 := Lib.hid (H7.out.kept (Keeps.of_below (S := fun _ => False) (((Below.refl w.heap.size w).alloc (Nat.le_refl _) _).trans (hb.mono (by simp)))) (fun _ h => h.elim)); clear hb)
    go_ret2
    refine ⟨_, rfl, ⟨w1.heap.size, 0, fun _ => undef, rfl, by omega, ?_, Nat.le_refl _, by omega, fun i hi => by omega⟩, ?_⟩
    · exact World.rowIs_alloc w1 #[] 5 (fun _ => undef) (fun i hi => absurd hi (Nat.not_lt_zero _))
    · exact (((Below.refl w.heap.size w).alloc (Nat.le_refl _) _).trans (HB.out.mono (by simp))).alloc (by omega) _
  · go_enter Try.func37, Try.ntmps37
    go_wp2_with (first | (go_at_call 38; refine (rcheck_any (some ao) n c _ addr k _ hn (by omega) (by omega) (by omega) (by omega)).mono ?_; rw [HC.out]; rintro e w1 ⟨rfl, hb⟩; have HB := Lib.hid hb; have q0 : w1.cell? ⟨w.heap.size, 0, none⟩ = some (.slice (some ao) n c) := (hb.cell (p := ⟨w.heap.size, 0, none⟩) (by simp)).trans (by go_simp); have hl1 : w.heap.size < w1.heap.size := (by have := hb.size; simp at this; omega); have HR1 := Lib.hid (H7.out.kept (Keeps.of_below (S := fun _ => False) (((Below.refl w.heap.size w).alloc (Nat.le_refl _) _).trans (hb.mono (by simp)))) (fun _ h => h.elim)); clear hb) | (at_builtin; simp only [Nat.add_sub_cancel_left]; go_loud (refine wpList_append_own _ rfl _ _ 33 rfl w1.heap.size 5 i0 (.int .u8 0) 1 1 Try.underlying33 hi hz0 hz1 hz2 rfl (by decide) _ _ _ rfl (HWS.out w1) (ao.add addr) k (c - addr) ((List.range k).map fun i => .int .u8 (f (addr + i))) rfl (by simp) ?c1 ?c2 ?c3 ?c4 ?c5 ?_)))
    case c1 =>
      intro j u hu
      simp only [List.getElem?_map, Option.map_eq_some_iff] at hu
      obtain ⟨q, hq, rfl⟩ := hu
      simp only [List.range_eq_range'] at hq
      by_cases hj : j < k
      · simp [hj] at hq; subst hq
        have := src_range HR1.out addr k c hk h2 j hj
        rw [if_neg hne] at this
        exact ((Keeps.refl (fun _ => False) w1).alloc _).cell this (fun h => h)
      · simp [hj] at hq
    case c2 => intro u hu; simp at hu; obtain ⟨q, -, rfl⟩ := hu; rfl
    case c3 => unfold maxLen; omega
    case c4 => omega
    case c5 => simp
    intro v' w2 hown hgr hnil
    go_wp2_with fail
    go_ret2
    have hb1 : Below w.heap.size w (w1.alloc (.cells #[] 5)) := (((Below.refl w.heap.size w).alloc (Nat.le_refl _) _).trans (HB.out.mono (by simp))).alloc (by omega) _
    refine ⟨_, rfl, ?_, hb1.grown hgr (by simp; omega) (fun q e => by cases e; exact Nat.le_of_lt hl1)⟩
    obtain ⟨g, cap, F, h1, h2, h3⟩ := newBytes_of_owns (by simpa using hown) hnil
    exact ⟨g, cap, F, h1, by omega, h3⟩
end Go.Proofs.Ytobbnfdflogicaa
