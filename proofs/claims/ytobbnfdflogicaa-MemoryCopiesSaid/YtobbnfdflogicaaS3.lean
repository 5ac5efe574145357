/- memory: the specification's Write, whatever is written; Fill. -/
import Derived.Test.YtobbnfdflogicaaS2
namespace Go.Proofs.Ytobbnfdflogicaa
open Go.RowKit

theorem upd_zero (f : Nat → Int) (addr : Nat) (s : Nat → Int) : upd f addr 0 s = f := funext fun j => by unfold upd; rw [if_neg (by omega)]
theorem logged_zero (L : List (Nat × Nat)) (addr : Nat) : logged L addr 0 = L := by unfold logged; rw [if_pos rfl]
theorem logged_pos (L : List (Nat × Nat)) (addr k : Nat) (h : 0 < k) : logged L addr k = L ++ [(addr, k)] := by unfold logged; rw [if_neg (by omega)]

set_option maxHeartbeats 1000000 in
theorem rwrite_same (S : Nat → Prop) (v : Value) (n : Nat) (f : Nat → Int) (L : List (Nat × Nat)) (addr : Int) (k bc : Nat) (bo : Option Addr) (w : World) (h : RefAt S w v n f L) (hn : n ≤ 4194304)
    (ha : 0 ≤ addr) (ha' : addr ≤ 18446744073709551615) (hk' : k ≤ 4611686018427387904) (hc : (chk n addr k != 0) = true ∨ (k = 0 ∧ chk n addr k = 0)) :
   Calls Try.prog 35 #[v, .int .u64 addr, .slice bo k bc] w fun e w' => e = .returned (.tuple #[v, .int .i64 (chk n addr k)]) ∧ Below w.heap.size w w' := by
  obtain ⟨ao, c, al, cl, rfl, h2, h3, h4, h5, h6, h7, h8⟩ := h
  generalize hx : chk n addr k = x at *
  have HX := Lib.hid hx
  clear h7 h8 h6 hx
  rcases hc with hc | ⟨rfl, rfl⟩
  · go_enter Try.func35, Try.ntmps35
    go_wp2_with (go_at_call 38; refine (rcheck_any (some ao) n c _ addr k _ hn ha ha' (by omega) (by omega)).mono ?_; rw [HX.out]; rintro e w1 ⟨rfl, hb⟩; have HB := Lib.hid hb; have q0 : w1.cell? ⟨w.heap.size, 0, none⟩ = some (.slice (some ao) n c) := (hb.cell (p := ⟨w.heap.size, 0, none⟩) (by simp; omega)).trans (by go_simp); have q1 : w1.cell? ⟨w.heap.size, 1, none⟩ = some (.slice al L.length cl) := (hb.cell (p := ⟨w.heap.size, 1, none⟩) (by simp; omega)).trans (by go_simp); have y0 : w1.cell? ⟨w.heap.size + 1, 0, none⟩ = some (.slice none 0 0) := (hb.cell (p := ⟨w.heap.size + 1, 0, none⟩) (by simp)).trans (by go_simp); have y1 : w1.cell? ⟨w.heap.size + 1, 1, none⟩ = some (.slice none 0 0) := (hb.cell (p := ⟨w.heap.size + 1, 1, none⟩) (by simp)).trans (by go_simp); have z0 : w1.frozen? ⟨w.heap.size + 1, 0, none⟩ = false := (hb.frozen (p := ⟨w.heap.size + 1, 0, none⟩) (by simp)).trans (by go_simp); have z1 : w1.frozen? ⟨w.heap.size + 1, 1, none⟩ = false := (hb.frozen (p := ⟨w.heap.size + 1, 1, none⟩) (by simp)).trans (by go_simp); have hl2 : w.heap.size + 1 < w1.heap.size := (by have := hb.size; simp at this; omega); clear hb)
    refine bodyPost_ret (v := .tuple #[.agg #[.slice (some ao) n c, .slice al L.length cl], .int .i64 x]) (by simp [results, Try.results35, go_sem, y0, y1]) rfl ⟨rfl, ?_⟩
    exact (((((Below.refl w.heap.size w).alloc (Nat.le_refl _) _).alloc (by simp) _).trans (HB.out.mono (by simp; omega))).setCell (p := ⟨w.heap.size + 1, 0, none⟩) (by simp) _).setCell (p := ⟨w.heap.size + 1, 1, none⟩) (by simp) _
  · simp only [Int.natCast_zero] at HX
    go_enter Try.func35, Try.ntmps35
    go_wp2_with (go_at_call 38; refine (rcheck_any (some ao) n c _ addr 0 _ hn ha ha' (by omega) (by omega)).mono ?_; rw [HX.out]; rintro e w1 ⟨rfl, hb⟩; have HB := Lib.hid hb; have q0 : w1.cell? ⟨w.heap.size, 0, none⟩ = some (.slice (some ao) n c) := (hb.cell (p := ⟨w.heap.size, 0, none⟩) (by simp; omega)).trans (by go_simp); have q1 : w1.cell? ⟨w.heap.size, 1, none⟩ = some (.slice al L.length cl) := (hb.cell (p := ⟨w.heap.size, 1, none⟩) (by simp; omega)).trans (by go_simp); have y0 : w1.cell? ⟨w.heap.size + 1, 0, none⟩ = some (.slice none 0 0) := (hb.cell (p := ⟨w.heap.size + 1, 0, none⟩) (by simp)).trans (by go_simp); have y1 : w1.cell? ⟨w.heap.size + 1, 1, none⟩ = some (.slice none 0 0) := (hb.cell (p := ⟨w.heap.size + 1, 1, none⟩) (by simp)).trans (by go_simp); have z0 : w1.frozen? ⟨w.heap.size + 1, 0, none⟩ = false := (hb.frozen (p := ⟨w.heap.size + 1, 0, none⟩) (by simp)).trans (by go_simp); have z1 : w1.frozen? ⟨w.heap.size + 1, 1, none⟩ = false := (hb.frozen (p := ⟨w.heap.size + 1, 1, none⟩) (by simp)).trans (by go_simp); have hl2 : w.heap.size + 1 < w1.heap.size := (by have := hb.size; simp at this; omega); clear hb)
    refine bodyPost_ret (v := .tuple #[.agg #[.slice (some ao) n c, .slice al L.length cl], .int .i64 0]) (by simp [results, Try.results35, go_sem, y0, y1]) rfl ⟨rfl, ?_⟩
    exact (((((Below.refl w.heap.size w).alloc (Nat.le_refl _) _).alloc (by simp) _).trans (HB.out.mono (by simp; omega))).setCell (p := ⟨w.heap.size + 1, 0, none⟩) (by simp) _).setCell (p := ⟨w.heap.size + 1, 1, none⟩) (by simp) _

/-- The bytes, the log behind a write of the span. -/
def wf' (size : Nat) (f : Nat → Int) (addr k : Int) (s : Nat → Int) : Nat → Int := if chk size addr k = 0 then upd f addr.toNat k.toNat s else f
def wl' (size : Nat) (L : List (Nat × Nat)) (addr k : Int) : List (Nat × Nat) := if chk size addr k = 0 then logged L addr.toNat k.toNat else L

theorem chk_ok {size : Nat} {addr k : Int} (ha : 0 ≤ addr) (h : chk size addr k = 0) : ∃ a m : Nat, addr = a ∧ k = m ∧ a + m ≤ size := by
  unfold chk at h
  split at h
  · omega
  · split at h
    · exact ⟨addr.toNat, k.toNat, by omega, by omega, by omega⟩
    · omega

/-- What the specification's Write leaves. -/
def RW (S : Nat → Prop) (n : Nat) (f : Nat → Int) (L : List (Nat × Nat)) (addr k : Int) (s : Nat → Int) (w : World) (e : Ending) (w' : World) : Prop :=
  ∃ v', e = .returned (.tuple #[v', .int .i64 (chk n addr k)]) ∧ RefAt S w' v' n (wf' n f addr k s) (wl' n L addr k) ∧ Below w.heap.size w w'

theorem rwrite_any (S : Nat → Prop) (v : Value) (n : Nat) (f : Nat → Int) (L : List (Nat × Nat)) (addr : Int) (k bc : Nat) (bo : Option Addr) (s : Nat → Int) (w : World) (h : RefAt S w v n f L) (hn : n ≤ 4194304)
    (ha : 0 ≤ addr) (ha' : addr ≤ 18446744073709551615) (hs : Src S w bo k s) (hL : L.length ≤ 1000) (hS : ∀ j, S j → j < w.heap.size) :
   Calls Try.prog 35 #[v, .int .u64 addr, .slice bo k bc] w (RW S n f L addr k s w) := by
  by_cases hc : chk n addr k = 0
  · obtain ⟨a, m, rfl, hm, hf⟩ := chk_ok ha hc
    obtain rfl : k = m := by omega
    by_cases hk : k = 0
    · refine (rwrite_same S v n f L a k bc bo w h hn ha ha' hs.small (.inr ⟨hk, hc⟩)).mono ?_
      rintro e w' ⟨rfl, hb⟩
      refine ⟨v, rfl, ?_, hb⟩
      unfold wf' wl'
      rw [if_pos hc, if_pos hc, hk]
      simp only [Int.toNat_natCast, Int.natCast_zero, Int.toNat_zero]
      rw [upd_zero, logged_zero]
      exact h.below hb
    · refine (rwrite_ok S v n f L a k bc bo s w h hn hf (by omega) hs hL hS).mono ?_
      rintro e w' ⟨v', rfl, hr, hb⟩
      refine ⟨v', by rw [hc], ?_, hb⟩
      unfold wf' wl'
      rw [if_pos hc, if_pos hc, Int.toNat_natCast, Int.toNat_natCast, logged_pos _ _ _ (by omega)]
      exact hr
  · refine (rwrite_same S v n f L addr k bc bo w h hn ha ha' hs.small (.inl (by simpa using hc))).mono ?_
    rintro e w' ⟨rfl, hb⟩
    refine ⟨v, rfl, ?_, hb⟩
    unfold wf' wl'
    rw [if_neg hc, if_neg hc]
    exact h.below hb
end Go.Proofs.Ytobbnfdflogicaa
