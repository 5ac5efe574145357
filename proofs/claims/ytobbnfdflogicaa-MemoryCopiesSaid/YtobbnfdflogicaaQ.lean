/- memory: the specification's memory: Check, Log, New. -/
import Derived.Test.YtobbnfdflogicaaM2
namespace Go.Proofs.Ytobbnfdflogicaa
open Go.RowKit

/-- The slice at al holds the spans L, outside of the blocks S. -/
def SpanIn (S : Nat → Prop) (w : World) (al : Option Addr) (L : List (Nat × Nat)) : Prop :=
  0 < L.length → ∃ g o, al = some ⟨g, o, none⟩ ∧ ¬ S g ∧ ∀ i (h : i < L.length), w.cell? ⟨g, o + i * 3, none⟩ = some (.int .u64 (L[i]'h).1) ∧
    w.cell? ⟨g, o + i * 3 + 1, none⟩ = some (.int .i64 (L[i]'h).2) ∧ w.cell? ⟨g, o + i * 3 + 2, none⟩ = some (.bool false)

/-- The specification's memory: n bytes f, the log L, outside of the blocks S. -/
def RefAt (S : Nat → Prop) (w : World) (v : Value) (n : Nat) (f : Nat → Int) (L : List (Nat × Nat)) : Prop :=
  ∃ ao c al cl, v = .agg #[.slice (some ao) n c, .slice al L.length cl] ∧ n ≤ c ∧ c ≤ 9223372036854775807 ∧ L.length ≤ cl ∧ cl ≤ 9223372036854775807 ∧ (al = none → L.length = 0 ∧ cl = 0) ∧ Src S w (some ao) n f ∧ SpanIn S w al L

theorem SpanIn.kept {S T : Nat → Prop} {w w' : World} {al : Option Addr} {L : List (Nat × Nat)} (h : SpanIn S w al L) (k : Keeps T w w') (hT : ∀ b, T b → S b) : SpanIn S w' al L := fun h0 => by
  obtain ⟨g, o, e, hg, hx⟩ := h h0
  exact ⟨g, o, e, hg, fun i hi => ⟨k.cell (hx i hi).1 (fun ht => hg (hT _ ht)), k.cell (hx i hi).2.1 (fun ht => hg (hT _ ht)), k.cell (hx i hi).2.2 (fun ht => hg (hT _ ht))⟩⟩
theorem SpanIn.more {S T : Nat → Prop} {w : World} {al : Option Addr} {L : List (Nat × Nat)} (h : SpanIn S w al L) (hT : ∀ b, b < w.heap.size → T b → S b) : SpanIn T w al L := fun h0 => by
  obtain ⟨g, o, e, hg, hx⟩ := h h0
  exact ⟨g, o, e, fun ht => hg (hT _ (World.block_lt_of_cell? _ _ (hx 0 h0).1) ht), hx⟩
theorem SpanIn.src {S : Nat → Prop} {w : World} {al : Option Addr} {L : List (Nat × Nat)} (h : SpanIn S w al L) : SpanSrc w al L := fun h0 => by
  obtain ⟨g, o, e, -, hx⟩ := h h0
  exact ⟨g, o, e, hx⟩
theorem Src.more {S T : Nat → Prop} {w : World} {ao : Option Addr} {n : Nat} {s : Nat → Int} (h : Src S w ao n s) (hT : ∀ b, b < w.heap.size → T b → S b) : Src T w ao n s :=
  ⟨h.small, fun h0 => by
    obtain ⟨g, o, e, hg, hx⟩ := h.at' h0
    exact ⟨g, o, e, fun ht => hg (hT _ (World.block_lt_of_cell? _ _ (hx 0 h0)) ht), hx⟩⟩
theorem Src.congr {S : Nat → Prop} {w : World} {ao : Option Addr} {n : Nat} {s t : Nat → Int} (h : Src S w ao n s) (e : ∀ i, i < n → s i = t i) : Src S w ao n t :=
  ⟨h.small, fun h0 => by
    obtain ⟨g, o, e', hg, hx⟩ := h.at' h0
    exact ⟨g, o, e', hg, fun i hi => by rw [hx i hi, e i hi]⟩⟩
theorem RefAt.kept {S T : Nat → Prop} {w w' : World} {v : Value} {n : Nat} {f : Nat → Int} {L : List (Nat × Nat)} (h : RefAt S w v n f L) (k : Keeps T w w') (hT : ∀ b, T b → S b) : RefAt S w' v n f L := by
  obtain ⟨ao, c, al, cl, h1, h2, h3, h4, h5, h6, h7, h8⟩ := h
  exact ⟨ao, c, al, cl, h1, h2, h3, h4, h5, h6, h7.kept k hT, h8.kept k hT⟩
theorem RefAt.more {S T : Nat → Prop} {w : World} {v : Value} {n : Nat} {f : Nat → Int} {L : List (Nat × Nat)} (h : RefAt S w v n f L) (hT : ∀ b, b < w.heap.size → T b → S b) : RefAt T w v n f L := by
  obtain ⟨ao, c, al, cl, h1, h2, h3, h4, h5, h6, h7, h8⟩ := h
  exact ⟨ao, c, al, cl, h1, h2, h3, h4, h5, h6, h7.more hT, h8.more hT⟩
theorem RefAt.below {S : Nat → Prop} {w w' : World} {v : Value} {n : Nat} {f : Nat → Int} {L : List (Nat × Nat)} (h : RefAt S w v n f L) (hb : Below w.heap.size w w') : RefAt S w' v n f L :=
  h.kept (Keeps.of_below (S := fun _ => False) hb) (fun _ h => h.elim)

set_option maxHeartbeats 1000000 in
theorem rcheck_any (ao : Option Addr) (n c : Nat) (ml : Value) (addr k : Int) (w : World) (hn : n ≤ 4194304) (ha : 0 ≤ addr) (ha' : addr ≤ 18446744073709551615) (hk : -9223372036854775808 ≤ k) (hk' : k ≤ 9223372036854775807) :
   Calls Try.prog 38 #[.agg #[.slice ao n c, ml], .int .u64 addr, .int .i64 k] w fun e w' => e = .returned (.int .i64 (chk n addr k)) ∧ Below w.heap.size w w' := by
  by_cases h1 : k < 0
  · go_enter Try.func38, Try.ntmps38
    go_wp2
    go_ret
    exact ⟨by simp [chk, h1], (Below.refl _ _).alloc (Nat.le_refl _) _⟩
  · by_cases h2 : addr ≤ n
    · have d2 : decide ((n : Int) < addr) = false := by simp; omega
      by_cases h3 : k ≤ n - addr
      · have d3 : decide ((n : Int) - addr < k) = false := by simp; omega
        go_enter Try.func38, Try.ntmps38
        go_wp2
        go_ret
        exact ⟨ret_int (by unfold chk; rw [if_neg (by omega), if_pos (by omega)]), (Below.refl _ _).alloc (Nat.le_refl _) _⟩
      · have d3 : decide ((n : Int) - addr < k) = true := by simp; omega
        go_enter Try.func38, Try.ntmps38
        go_wp2
        go_ret
        exact ⟨ret_int (by unfold chk; rw [if_neg (by omega), if_neg (by omega)]), (Below.refl _ _).alloc (Nat.le_refl _) _⟩
    · have d2 : decide ((n : Int) < addr) = true := by simp; omega
      go_enter Try.func38, Try.ntmps38
      go_wp2
      go_ret
      exact ⟨ret_int (by unfold chk; rw [if_neg (by omega), if_neg (by omega)]), (Below.refl _ _).alloc (Nat.le_refl _) _⟩

set_option maxHeartbeats 1000000 in
theorem rlog_any (bs : Value) (al : Option Addr) (m cl : Nat) (w : World) (hm : m ≤ 255) (hc : m ≤ cl) (hc' : cl ≤ 9223372036854775807) (h0 : al = none → m = 0 ∧ cl = 0) :
   Calls Try.prog 39 #[.agg #[bs, .slice al m cl]] w fun e w' => e = .returned (.tuple #[.int .i64 0, .slice al m cl]) ∧ Below w.heap.size w w' := by
  have h1 : (m : Int) - 256 < 0 := by omega
  cases al with
  | none =>
    obtain ⟨rfl, rfl⟩ := h0 rfl
    clear h0
    go_enter Try.func39, Try.ntmps39
    go_wp2
    go_quiet (fail)
    go_wp2
    go_ret2
    exact ⟨rfl, ((Below.refl _ _).alloc (Nat.le_refl _) _).trans ⟨rfl, rfl, rfl, Nat.le_refl _, fun _ _ => rfl⟩⟩
  | some a =>
    clear h0
    go_enter Try.func39, Try.ntmps39
    go_wp2
    go_quiet (fail)
    go_wp2
    go_ret2
    exact ⟨by simp, ((Below.refl _ _).alloc (Nat.le_refl _) _).trans ⟨rfl, rfl, rfl, Nat.le_refl _, fun _ _ => rfl⟩⟩

set_option maxHeartbeats 1000000 in
theorem rnew_err (pages : Int) (w : World) (h : pages < 1 ∨ 1024 < pages) :
   Calls Try.prog 20 #[.int .i64 pages] w fun e w' => e = .returned (.tuple #[.agg #[.slice none 0 0, .slice none 0 0], .int .i64 2]) ∧ Below w.heap.size w w' := by
  rcases h with h | h
  · have d1 : decide (pages < 1) = true := by simp; omega
    go_enter Try.func20, Try.ntmps20
    go_wp2
    exact bodyPost_ret (v := .tuple #[.agg #[.slice none 0 0, .slice none 0 0], .int .i64 2]) (by simp [results, Try.results20, go_sem]) rfl ⟨rfl, ((Below.refl _ _).alloc (Nat.le_refl _) _)⟩
  · have d1 : decide (pages < 1) = false := by simp; omega
    have d2 : decide (1024 < pages) = true := by simp; omega
    go_enter Try.func20, Try.ntmps20
    go_wp2
    exact bodyPost_ret (v := .tuple #[.agg #[.slice none 0 0, .slice none 0 0], .int .i64 2]) (by simp [results, Try.results20, go_sem]) rfl ⟨rfl, ((Below.refl _ _).alloc (Nat.le_refl _) _)⟩

set_option maxHeartbeats 1000000 in
theorem rnew_ok (S : Nat → Prop) (pages : Nat) (w : World) (h1 : 1 ≤ pages) (h2 : pages ≤ 1024) (hS : ∀ k, w.heap.size ≤ k → ¬ S k) :
   Calls Try.prog 20 #[.int .i64 pages] w fun e w' => ∃ v, e = .returned (.tuple #[v, .int .i64 0]) ∧ RefAt S w' v (pages * 4096) (fun _ => 0) [] ∧ Below w.heap.size w w' := by
  have hmk := run_make_row' (P := Try.prog) 33 5 (.int .u8 0) 1 Try.underlying33 infoU8 rfl .i64 .i64 (pages * 4096) (by omega) (by omega)
  have e1 : ((pages * 4096 : Nat) : Int) = 4096 * (pages : Int) := by omega
  rw [e1] at hmk
  have d1 : decide ((pages : Int) < 1) = false := by simp; omega
  have d2 : decide ((1024 : Int) < (pages : Int)) = false := by simp; omega
  go_enter Try.func20, Try.ntmps20
  go_wp2
  have hsz : w.heap.size + 1 = (w.alloc (.cells #[.slice (some ⟨w.heap.size + 1, 0, none⟩) (pages * 4096) (pages * 4096), .slice none 0 0] 52)).heap.size := by simp
  refine bodyPost_ret (v := .tuple #[.agg #[.slice (some ⟨w.heap.size + 1, 0, none⟩) (pages * 4096) (pages * 4096), .slice none 0 0], .int .i64 0]) (by simp [results, Try.results20, go_sem]) rfl ⟨_, rfl, ?_, ((Below.refl _ _).alloc (Nat.le_refl _) _).alloc (by simp) _⟩
  have hrow := World.rowIs_made (w.alloc (.cells #[.slice (some ⟨w.heap.size + 1, 0, none⟩) (pages * 4096) (pages * 4096), .slice none 0 0] 52)) (.int .u8 0) (pages * 4096) 5
  rw [World.size_alloc] at hrow
  refine ⟨_, _, none, 0, rfl, Nat.le_refl _, by omega, Nat.le_refl _, by omega, fun _ => ⟨rfl, rfl⟩, ⟨by omega, fun _ => ⟨_, _, rfl, hS _ (by omega), fun i hi => ?_⟩⟩, fun h => absurd h (by simp)⟩
  rw [Nat.zero_add]
  exact hrow.cell hi
end Go.Proofs.Ytobbnfdflogicaa
