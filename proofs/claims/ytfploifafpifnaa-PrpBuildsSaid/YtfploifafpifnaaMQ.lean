/- memory: the specification's memory: Check, Log, New. -/
import Derived.Test.YtfploifafpifnaaMJ
import Derived.Test.YtfploifafpifnaaMM2
namespace Go.Proofs.Ytfploifafpifnaa
set_option linter.unusedVariables false
set_option linter.unusedSimpArgs false
open Go.RowKit

/-- The slice at al holds the spans L, outside of the blocks S. -/
def SpanIn (S : Nat → Prop) (w : World) (al : Option Addr) (L : List (Nat × Nat)) : Prop :=
  0 < L.length → ∃ g o, al = some ⟨g, o, none⟩ ∧ ¬ S g ∧ ∀ i (h : i < L.length), w.cell? ⟨g, o + i * 3, none⟩ = some (.int .u64 (L[i]'h).1) ∧
    w.cell? ⟨g, o + i * 3 + 1, none⟩ = some (.int .i64 (L[i]'h).2) ∧ w.cell? ⟨g, o + i * 3 + 2, none⟩ = some (.bool false)

/-- The specification's memory: n bytes f, the log L, outside of the blocks S. -/
def RefAt (S : Nat → Prop) (w : World) (v : Value) (n : Nat) (f : Nat → Int) (L : List (Nat × Nat)) : Prop :=
  ∃ ao c al cl, v = .agg #[.slice (some ao) n c, .slice al L.length cl] ∧ n ≤ c ∧ c ≤ 9223372036854775807 ∧ L.length ≤ cl ∧ cl ≤ 9223372036854775807 ∧ (al = none → L.length = 0 ∧ cl = 0) ∧ Src S w (some ao) n f ∧ SpanIn S w al L

theorem SpanIn.kept {S T : Nat → Prop} {w w' : World} {al : Option Addr} {L : List (Nat × Nat)} (h : SpanIn S w al L) (k : Keeps T w w') (hT : ∀ b, T b → S b) : SpanIn S w' al L := fun h0 => by
  obtain ⟨g, o, e, hg, hx⟩ := h h0
  exact ⟨g, o, e, hg, fun i hi => ⟨k.cell (hx i hi).1 (fun ht => hg (hT _ ht)), k.cell (hx i hi).2.1 (fun ht => hg (hT _ ht)), k.cell (hx i hi).2.2 (fun ht => hg (hT _ ht))⟩⟩
theorem SpanIn.more {S T : Nat → Prop} {w : World} {al : Option Addr} {L : List (Nat × Nat)} (h : SpanIn S w al L) (hT : ∀ b, b < w.heap.size → T b → S b) : SpanIn T w al L := fun h0 => by
  obtain ⟨g, o, e, hg, hx⟩ := h h0
  exact ⟨g, o, e, fun ht => hg (hT _ (World.block_lt_of_cell? _ _ (hx 0 h0).1) ht), hx⟩
theorem SpanIn.src {S : Nat → Prop} {w : World} {al : Option Addr} {L : List (Nat × Nat)} (h : SpanIn S w al L) : SpanSrc w al L := fun h0 => by
  obtain ⟨g, o, e, -, hx⟩ := h h0
  exact ⟨g, o, e, hx⟩
theorem Src.more {S T : Nat → Prop} {w : World} {ao : Option Addr} {n : Nat} {s : Nat → Int} (h : Src S w ao n s) (hT : ∀ b, b < w.heap.size → T b → S b) : Src T w ao n s :=
  ⟨h.small, fun h0 => by
    obtain ⟨g, o, e, hg, hx⟩ := h.at' h0
    exact ⟨g, o, e, fun ht => hg (hT _ (World.block_lt_of_cell? _ _ (hx 0 h0)) ht), hx⟩⟩
theorem Src.congr {S : Nat → Prop} {w : World} {ao : Option Addr} {n : Nat} {s t : Nat → Int} (h : Src S w ao n s) (e : ∀ i, i < n → s i = t i) : Src S w ao n t :=
  ⟨h.small, fun h0 => by
    obtain ⟨g, o, e', hg, hx⟩ := h.at' h0
    exact ⟨g, o, e', hg, fun i hi => by rw [hx i hi, e i hi]⟩⟩
theorem RefAt.kept {S T : Nat → Prop} {w w' : World} {v : Value} {n : Nat} {f : Nat → Int} {L : List (Nat × Nat)} (h : RefAt S w v n f L) (k : Keeps T w w') (hT : ∀ b, T b → S b) : RefAt S w' v n f L := by
  obtain ⟨ao, c, al, cl, h1, h2, h3, h4, h5, h6, h7, h8⟩ := h
  exact ⟨ao, c, al, cl, h1, h2, h3, h4, h5, h6, h7.kept k hT, h8.kept k hT⟩
theorem RefAt.more {S T : Nat → Prop} {w : World} {v : Value} {n : Nat} {f : Nat → Int} {L : List (Nat × Nat)} (h : RefAt S w v n f L) (hT : ∀ b, b < w.heap.size → T b → S b) : RefAt T w v n f L := by
  obtain ⟨ao, c, al, cl, h1, h2, h3, h4, h5, h6, h7, h8⟩ := h
  exact ⟨ao, c, al, cl, h1, h2, h3, h4, h5, h6, h7.more hT, h8.more hT⟩
theorem RefAt.below {S : Nat → Prop} {w w' : World} {v : Value} {n : Nat} {f : Nat → Int} {L : List (Nat × Nat)} (h : RefAt S w v n f L) (hb : Below w.heap.size w w') : RefAt S w' v n f L :=
  h.kept (Keeps.of_below (S := fun _ => False) hb) (fun _ h => h.elim)

set_option maxHeartbeats 1000000 in
theorem rcheck_any (ao : Option Addr) (n c : Nat) (ml : Value) (addr k : Int) (w : World) (hn : n ≤ 4194304) (ha : 0 ≤ addr) (ha' : addr ≤ 18446744073709551615) (hk : -9223372036854775808 ≤ k) (hk' : k ≤ 9223372036854775807) :
   Calls Try.prog 47 #[.agg #[.slice ao n c, ml], .int .u64 addr, .int .i64 k] w fun e w' => e = .returned (.int .i64 (chk n addr k)) ∧ Below w.heap.size w w' := by
  by_cases h1 : k < 0
  · go_enter Try.func47, Try.ntmps47
    go_wp2
    go_ret
    exact ⟨by simp [chk, h1], (Below.refl _ _).alloc (Nat.le_refl _) _⟩
  · by_cases h2 : addr ≤ n
    · have d2 : decide ((n : Int) < addr) = false := by simp; omega
      by_cases h3 : k ≤ n - addr
      · have d3 : decide ((n : Int) - addr < k) = false := by simp; omega
        go_enter Try.func47, Try.ntmps47
        go_wp2
        go_ret
        exact ⟨ret_int (by unfold chk; rw [if_neg (by omega), if_pos (by omega)]), (Below.refl _ _).alloc (Nat.le_refl _) _⟩
      · have d3 : decide ((n : Int) - addr < k) = true := by simp; omega
        go_enter Try.func47, Try.ntmps47
        go_wp2
        go_ret
        exact ⟨ret_int (by unfold chk; rw [if_neg (by omega), if_neg (by omega)]), (Below.refl _ _).alloc (Nat.le_refl _) _⟩
    · have d2 : decide ((n : Int) < addr) = true := by simp; omega
      go_enter Try.func47, Try.ntmps47
      go_wp2
      go_ret
      exact ⟨ret_int (by unfold chk; rw [if_neg (by omega), if_neg (by omega)]), (Below.refl _ _).alloc (Nat.le_refl _) _⟩

end Go.Proofs.Ytfploifafpifnaa

namespace Go.Proofs.Ytfploifafpifnaa
open Go.RowKit

/-- A range of a slice of bytes copied: what the append wants to know of its source. -/
theorem src_range {S : Nat → Prop} {w : World} {ao : Addr} {n : Nat} {f : Nat → Int} (h : Src S w (some ao) n f) (addr k c : Nat) (hk : addr + k ≤ n) (hc : n ≤ c) (j : Nat) (hj : j < k) :
    w.cell? (Addr.add (if c = addr then ao else ao.add addr) j) = some (.int .u8 (f (addr + j))) := by
  obtain ⟨g, o, e, -, hx⟩ := h.at' (by omega)
  simp only [Option.some.injEq] at e
  subst e
  rw [if_neg (by omega), Addr.add_mid, Addr.add_mid, Nat.add_assoc]
  exact hx (addr + j) (by omega)

set_option maxHeartbeats 1000000 in
theorem rread_ok (S : Nat → Prop) (v : Value) (n : Nat) (f : Nat → Int) (L : List (Nat × Nat)) (addr k : Nat) (w : World) (h : RefAt S w v n f L) (hn : n ≤ 4194304) (hk : addr + k ≤ n) :
   Calls Try.prog 55 #[v, .int .u64 addr, .int .i64 k] w fun e w' => ∃ sv, e = .returned (.tuple #[sv, .int .i64 0]) ∧ NewBytes w.heap.size w' sv k (fun i => f (addr + i)) ∧ Below w.heap.size w w' := by
  obtain ⟨ao, c, al, cl, rfl, h2, h3, h4, h5, h6, h7, h8⟩ := h
  obtain ⟨i0, hi, hz0, hz1, hz2⟩ := info_parts infoU8
  have H7 := Lib.hid h7
  have hc : chk n addr k = 0 := by unfold chk; rw [if_neg (by omega), if_pos (by omega)]
  have HC := Lib.hid hc
  clear h7 h8 h6 hc
  have e1 : IntKind.i64.wrap ((addr : Int) + (k : Int)) = ((addr + k : Nat) : Int) := by rw [IntWalk.i64_in _ (by omega)]; omega
  have hws : ∀ W : World, (W.alloc (.cells #[] 5)).ownsRow W.heap.size 5 1 (.slice (some ⟨W.heap.size, 0, none⟩) 0 0) 0 [] := fun W =>
    ⟨rfl, .inr ⟨W.heap.size, 0, #[], rfl, Nat.le_refl _, heap_alloc_new _ _, Nat.le_refl _, by simp [maxLen], rfl, rfl⟩⟩
  have HWS := Lib.hid hws
  clear hws
  by_cases hne : c = addr
  · have hk0 : k = 0 := by omega
    subst hne hk0
    go_enter Try.func55, Try.ntmps55
    go_wp2_with (go_at_call 47; refine (rcheck_any (some ao) n c _ c 0 _ hn (by omega) (by omega) (by omega) (by omega)).mono ?_; rw [show chk n c 0 = 0 from HC.out]; rintro e w1 ⟨rfl, hb⟩; have HB := Lib.hid hb; have q0 : w1.cell? ⟨w.heap.size, 0, none⟩ = some (.slice (some ao) n c) := (hb.cell (p := ⟨w.heap.size, 0, none⟩) (by simp)).trans (by go_simp); have hl1 : w.heap.size < w1.heap.size := (by have := hb.size; simp at this; omega); have HR1 := Lib.hid (H7.out.kept (Keeps.of_below (S := fun _ => False) (((Below.refl w.heap.size w).alloc (Nat.le_refl _) _).trans (hb.mono (by simp)))) (fun _ h => h.elim)); clear hb)
    go_ret2
    refine ⟨_, rfl, ⟨w1.heap.size, 0, fun _ => undef, rfl, by omega, ?_, Nat.le_refl _, by omega, fun i hi => by omega⟩, ?_⟩
    · exact World.rowIs_alloc w1 #[] 5 (fun _ => undef) (fun i hi => absurd hi (Nat.not_lt_zero _))
    · exact (((Below.refl w.heap.size w).alloc (Nat.le_refl _) _).trans (HB.out.mono (by simp))).alloc (by omega) _
  · go_enter Try.func55, Try.ntmps55
    go_wp2_with (first | (go_at_call 47; refine (rcheck_any (some ao) n c _ addr k _ hn (by omega) (by omega) (by omega) (by omega)).mono ?_; rw [HC.out]; rintro e w1 ⟨rfl, hb⟩; have HB := Lib.hid hb; have q0 : w1.cell? ⟨w.heap.size, 0, none⟩ = some (.slice (some ao) n c) := (hb.cell (p := ⟨w.heap.size, 0, none⟩) (by simp)).trans (by go_simp); have hl1 : w.heap.size < w1.heap.size := (by have := hb.size; simp at this; omega); have HR1 := Lib.hid (H7.out.kept (Keeps.of_below (S := fun _ => False) (((Below.refl w.heap.size w).alloc (Nat.le_refl _) _).trans (hb.mono (by simp)))) (fun _ h => h.elim)); clear hb) | (at_builtin; simp only [Nat.add_sub_cancel_left]; go_loud (refine wpList_append_own _ rfl _ _ 24 rfl w1.heap.size 5 i0 (.int .u8 0) 1 1 Try.underlying24 hi hz0 hz1 hz2 rfl (by decide) _ _ _ rfl (HWS.out w1) (ao.add addr) k (c - addr) ((List.range k).map fun i => .int .u8 (f (addr + i))) rfl (by simp) ?c1 ?c2 ?c3 ?c4 ?c5 ?_)))
    case c1 =>
      intro j u hu
      simp only [List.getElem?_map, Option.map_eq_some_iff] at hu
      obtain ⟨q, hq, rfl⟩ := hu
      simp only [List.range_eq_range'] at hq
      by_cases hj : j < k
      · simp [hj] at hq; subst hq
        have := src_range HR1.out addr k c hk h2 j hj
        rw [if_neg hne] at this
        exact ((Keeps.refl (fun _ => False) w1).alloc _).cell this (fun h => h)
      · simp [hj] at hq
    case c2 => intro u hu; simp at hu; obtain ⟨q, -, rfl⟩ := hu; rfl
    case c3 => unfold maxLen; omega
    case c4 => omega
    case c5 => simp
    intro v' w2 hown hgr hnil
    go_wp2_with fail
    go_ret2
    have hb1 : Below w.heap.size w (w1.alloc (.cells #[] 5)) := (((Below.refl w.heap.size w).alloc (Nat.le_refl _) _).trans (HB.out.mono (by simp))).alloc (by omega) _
    refine ⟨_, rfl, ?_, hb1.grown hgr (by simp; omega) (fun q e => by cases e; exact Nat.le_of_lt hl1)⟩
    obtain ⟨g, cap, F, h1, h2, h3⟩ := newBytes_of_owns (by simpa using hown) hnil
    exact ⟨g, cap, F, h1, by omega, h3⟩
end Go.Proofs.Ytfploifafpifnaa
