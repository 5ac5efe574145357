/- prp: the law PrpHolds. -/
import Derived.Test.YtfmabknhfehdcaaZT41
import Derived.Test.YtfmabknhfehdcaaZT38
namespace Go.Proofs.Ytfmabknhfehdcaa
set_option linter.unusedVariables false
set_option linter.unusedSimpArgs false
open Go.RowKit

/-- bytes that came in -/
def BAt (w : World) (ao : Option Addr) (n : Nat) (z : Nat → Int) : Prop := ∀ i, i < n → ∃ g o, ao = some ⟨g, o, none⟩ ∧ w.cell? ⟨g, o + i, none⟩ = some (.int .u8 (z i))
theorem BAt.below {w w' : World} {ao : Option Addr} {n : Nat} {z : Nat → Int} (h : BAt w ao n z) (hb : Below w.heap.size w w') : BAt w' ao n z := fun i hi => by
  obtain ⟨g, o, e, hc⟩ := h i hi
  exact ⟨g, o, e, (hb.cell (p := ⟨g, o + i, none⟩) (World.block_lt_of_cell? _ _ hc)).trans hc⟩
theorem bAt_of {w : World} {ao : Option Addr} {len cap : Nat} {zs : List Int} (h : IsRow .u8 w ao len cap zs) : BAt w ao len (fun i => zs.getD i 0) ∧ (∀ i, 0 ≤ zs.getD i 0 ∧ zs.getD i 0 ≤ 255) ∧ len ≤ 9223372036854775807 := by
  rcases h with ⟨rfl, rfl, rfl, rfl⟩ | ⟨x, rfl, h1, h2, h3, h4, h5⟩
  · exact ⟨fun i hi => by omega, fun i => by simp, by omega⟩
  · refine ⟨fun i hi => ?_, fun i => ?_, by unfold maxLen at h2; omega⟩
    · have hc := h4 i (by omega)
      have e0 := addr_of_cell (h4 0 (by omega))
      rw [Addr.add_zero'] at e0
      refine ⟨x.block, x.off, congrArg some e0, ?_⟩
      rw [e0, Addr.add_mid] at hc
      exact hc
    · rcases Nat.lt_or_ge i zs.length with c | c
      · have := h5 (zs.getD i 0) (by simp [List.getD_eq_getElem?_getD, c])
        exact wf_u8 this
      · simp [List.getD_eq_getElem?_getD, List.getElem?_eq_none c]
/-- the pages of the law -/
def ph (z : Nat → Int) (i : Nat) : Int := z i % 16 * 4096
/-- What Build and Spans leave. -/
def HoldsPost (b B K : Nat) (p : Nat → Int) (o N : Int) (W : World) (e : Ending) (w' : World) : Prop :=
  ∃ (first second : Int) (F : Nat → Int) (L : List (Nat × Nat)), e = .returned (.tuple #[.int .u64 first, .int .u64 second, .int .i64 0]) ∧ Keeps (Two b B) W w' ∧ MemAt w' b B 81920 F L ∧
    ∀ w2, MemAt w2 b B 81920 F L → Calls Try.prog 92 #[.pointer (some ⟨b, 0, none⟩), .int .u64 first, .int .u64 second, .int .i64 N] w2 (SpPost w2 (.ok (outP p o N K)))
section
variable (ao : Option Addr) (n c : Nat) (z : Nat → Int) (ofs st N : Int) (w : World) (hB : BAt w ao n z) (hz : ∀ i, 0 ≤ z i ∧ z i ≤ 255) (hn : n ≤ 9223372036854775807) (h0 : 0 ≤ ofs ∧ ofs ≤ 65535) (h1 : 0 ≤ st ∧ st ≤ 65535)
include hB hz hn h0 h1
omit hB hz in
end
end Go.Proofs.Ytfmabknhfehdcaa

namespace Go.Proofs.Ytfmabknhfehdcaa
open Go.RowKit

/-- the memory's blocks, the arrays' -/
def Bk (b B : Nat) (S : List (Nat × Array Value)) (j : Nat) : Prop := j = b ∨ j = B ∨ ∃ x ∈ S, x.1 = j
theorem Bk.two {b B j : Nat} {S : List (Nat × Array Value)} (h : Two b B j) : Bk b B S j := h.elim Or.inl fun h => .inr (.inl h)
/-- A memory, its specification's, arrays that lie whole. -/
structure UMk (w : World) (b B sz : Nat) (F : Nat → Int) (MC : Array Value) (G : Nat → Int) (S : List (Nat × Array Value)) (W : World) (K : Nat := 900) : Prop where
  below : Below w.heap.size w W
  mem : ∃ L, L.length ≤ 1000 ∧ MemAt W b B sz F L
  ref : ∃ L, L.length ≤ K ∧ RefAt (Bk b B S) W (.agg MC) sz G L
  bl : w.heap.size ≤ b
  Bl : w.heap.size ≤ B
  arr : ∀ x ∈ S, ArrAt W x.1 x.2 ∧ x.1 ≠ b ∧ x.1 ≠ B ∧ w.heap.size ≤ x.1
namespace UMk
variable {w W W' : World} {b B sz : Nat} {F F' G G' : Nat → Int} {MC MC' : Array Value} {S : List (Nat × Array Value)} {K : Nat}
theorem bk (h : UMk w b B sz F MC G S W K) {j : Nat} (e : Bk b B S j) : w.heap.size ≤ j := by
  rcases e with rfl | rfl | ⟨x, hx, rfl⟩
  · exact h.bl
  · exact h.Bl
  · exact (h.arr x hx).2.2.2
theorem go (h : UMk w b B sz F MC G S W K) (hb : Below W.heap.size W W') : UMk w b B sz F MC G S W' K := by
  obtain ⟨L, h1, h2⟩ := h.mem
  obtain ⟨L2, h3, h4⟩ := h.ref
  exact ⟨h.below.trans (hb.mono h.below.size), ⟨L, h1, h2.below hb⟩, ⟨L2, h3, h4.below hb⟩, h.bl, h.Bl, fun x hx => ⟨(h.arr x hx).1.below hb, (h.arr x hx).2⟩⟩
theorem two (h : UMk w b B sz F MC G S W K) {T : Nat → Prop} (k : Keeps T W W') (hT : ∀ j, T j → w.heap.size ≤ j) : Below w.heap.size w W' := h.below.trans (k.below h.below.size (fun j hj e => by have := hT j e; omega))
theorem put (h : UMk w b B sz F MC G S W K) (k : Keeps (Two b B) W W') (hm : ∃ L, L.length ≤ 1000 ∧ MemAt W' b B sz F' L) : UMk w b B sz F' MC G S W' K := by
  obtain ⟨L2, h3, h4⟩ := h.ref
  exact ⟨h.two k (fun j e => by have := h.bl; have := h.Bl; rcases e with e | e <;> omega), hm, ⟨L2, h3, h4.kept k (fun _ e => Bk.two e)⟩, h.bl, h.Bl, fun x hx => ⟨(h.arr x hx).1.kept k (fun e => by have := (h.arr x hx).2; rcases e with e | e <;> omega), (h.arr x hx).2⟩⟩
theorem mlt (h : UMk w b B sz F MC G S W K) : b < W.heap.size ∧ B < W.heap.size := by
  obtain ⟨L, -, hm⟩ := h.mem
  exact ⟨hm.lt, hm.lt'⟩
/-- A new array. -/
theorem var (h : UMk w b B sz F MC G S W K) (T : TypeId) {Z A : Array Value} (hz : 0 < Z.size) (hA : A.size = Z.size) (hW : W' = (W.alloc (.cells Z T)).setCells W.heap.size 0 A.toList) : UMk w b B sz F MC G ((W.heap.size, A) :: S) W' K := by
  obtain ⟨hb, ha⟩ := stored_at hz hA hW
  have hm := h.mlt
  have h' := h.go hb
  obtain ⟨L2, h3, h4⟩ := h.ref
  refine ⟨h'.below, h'.mem, ⟨L2, h3, ?_⟩, h.bl, h.Bl, fun x hx => ?_⟩
  · refine (h4.more (T := Bk b B ((W.heap.size, A) :: S)) fun j hj e => ?_).below hb
    rcases e with e | e | ⟨x, hx, e⟩
    · exact .inl e
    · exact .inr (.inl e)
    · rcases List.mem_cons.1 hx with rfl | hx
      · simp only at e; omega
      · exact .inr (.inr ⟨x, hx, e⟩)
  · rcases List.mem_cons.1 hx with rfl | hx
    · exact ⟨ha, by simp only []; omega, by simp only []; omega, h.below.size⟩
    · exact h'.arr x hx
/-- An array laid over. -/
theorem over (h : UMk w b B sz F MC G S W K) {g : Nat} {A A' : Array Value} (hm : (g, A) ∈ S) (hs : A'.size = A.size) (S' : List (Nat × Array Value)) (hS : ∀ x ∈ S', x = (g, A') ∨ (x ∈ S ∧ x.1 ≠ g)) (hW : W' = W.setCells g 0 A'.toList)
    {K' : Nat} (hr : ∃ L, L.length ≤ K' ∧ RefAt (Bk b B S) W (.agg MC') sz G' L) : UMk w b B sz F MC' G' S' W' K' := by
  obtain ⟨h1, h2, h3, h4⟩ := h.arr _ hm
  subst hW
  have k : Keeps (One g) W (W.setCells g 0 A'.toList) := Keeps.store (S := One g) (Keeps.refl _ _) (fun _ => rfl) _ _
  obtain ⟨L, hl, hM⟩ := h.mem
  obtain ⟨L2, hl2, hr⟩ := hr
  have hg : Bk b B S g := .inr (.inr ⟨_, hm, rfl⟩)
  refine ⟨h.two k (fun j e => by have e : j = g := e; rw [e]; exact h4), ⟨L, hl, hM.kept k (fun e => h2 (Eq.symm e)) (fun e => h3 (Eq.symm e))⟩, ⟨L2, hl2, (hr.kept k fun j e => by have e : j = g := e; rw [e]; exact hg).more fun j _ e => ?_⟩, h.bl, h.Bl, fun x hx => ?_⟩
  · rcases e with e | e | ⟨x, hx, e⟩
    · exact .inl e
    · exact .inr (.inl e)
    · rcases hS x hx with rfl | ⟨hx1, hx2⟩
      · rw [← e]; exact hg
      · exact .inr (.inr ⟨x, hx1, e⟩)
  rcases hS x hx with rfl | ⟨hx1, hx2⟩
  · exact ⟨h1.store A' hs, h2, h3, h4⟩
  · have := h.arr x hx1
    exact ⟨this.1.kept k (fun e => hx2 e), this.2⟩
/-- The data's bytes lie elsewhere. -/
theorem src (h : UMk w b B sz F MC G S W K) {ao : Option Addr} {n : Nat} {z : Nat → Int} (hz : BAt w ao n z) (hn : n ≤ 4611686018427387904) : Src (Bk b B S) W ao n z := by
  refine ⟨hn, fun h0 => ?_⟩
  obtain ⟨g, o, e, hc0⟩ := hz 0 h0
  refine ⟨g, o, e, fun ht => ?_, fun i hi => ?_⟩
  · have h1 : g < w.heap.size := World.block_lt_of_cell? _ _ hc0
    have h2 := h.bk ht
    omega
  · obtain ⟨g', o', e', hc'⟩ := hz i hi
    rw [e] at e'
    injection e' with e'
    injection e' with e1 e2
    subst e1 e2
    exact (h.below.cell (p := ⟨g, o + i, none⟩) (World.block_lt_of_cell? _ _ hc')).trans hc'
end UMk
/-- what GatherMeta's bytes are as a string -/
def gmS (c n : Int) (g : Nat → Int) : ByteArray := if c = 0 ∧ 0 < n then strOf n.toNat g else ByteArray.empty
theorem conv_none (w : World) (l c : Nat) : (convert 29 9 (.slice none l c)).run Try.prog w = .ok (.string ByteArray.empty) w := by
  rw [run_convert_bytes_string w 29 9 5 none l c Try.underlying29 Try.underlying5 Try.underlying9]
  rfl
theorem TgmPost.form {w w' : World} {c n : Int} {g : Nat → Int} {e : Ending} (h : TgmPost w c n g e w') (hn : c = 0 → 0 ≤ n) : ∃ x m k, e = .returned (.tuple #[.slice x m k, .agg (stC c)]) ∧ Below w.heap.size w w' ∧ ∀ W, Below w'.heap.size w' W → (convert 29 9 (.slice x m k)).run Try.prog W = .ok (.string (gmS c n g)) W := by
  obtain ⟨h1, h2⟩ := h
  unfold stC gmS
  by_cases hc : c = 0
  · rw [if_neg (fun e => e hc)] at h2
    by_cases hz : n = 0
    · rw [if_pos hz] at h2
      refine ⟨none, 0, 0, by rw [h2, if_pos hc], h1, fun W _ => ?_⟩
      rw [if_neg (fun e => by omega)]
      exact conv_none W 0 0
    · rw [if_neg hz] at h2
      obtain ⟨v, he, hv⟩ := h2
      have hv' := hv
      obtain ⟨ng, nc, nF, hvv, -⟩ := hv'
      subst hvv
      refine ⟨_, _, _, by rw [he, if_pos hc], h1, fun W hb => ?_⟩
      rw [newBytes_str (hv.kept (Keeps.of_below (S := fun _ => False) hb) (fun _ _ e => e)), if_pos ⟨hc, by have := hn hc; omega⟩]
  · rw [if_pos hc] at h2
    refine ⟨none, 0, 0, by rw [h2, if_neg hc], h1, fun W _ => ?_⟩
    rw [if_neg (fun e => hc e.1)]
    exact conv_none W 0 0
/-- the memory behind ScatterMeta -/
def smF (c : Int) (f : Nat → Int) (a : Nat) (n : Nat) (g : Nat → Int) : Nat → Int := if c = 0 then upd f a n g else f
section
variable {w : World} {b B sz : Nat} {F : Nat → Int} {MC : Array Value} {G : Nat → Int} {S : List (Nat × Array Value)} {x : World} (h : UMk w b B sz F MC G S x) (hs : 0 < sz) {C : Array Value} {sgl : Bool} {mt d0 d1 : Int} (hC : Cm C sgl mt d0 d1)
include h hs hC
end
end Go.Proofs.Ytfmabknhfehdcaa

namespace Go.Proofs.Ytfmabknhfehdcaa
open Go.RowKit

/-- the literal command -/
def c7 (sgl : Bool) : Array Value := #[.int .u8 0, .int .u8 0, .bool sgl, .int .u16 7, .int .u32 0, .int .u32 0, .int .u32 0, .int .u64 0, .int .u64 0, .int .u64 0, .int .u32 0, .int .u32 0, .int .u32 0, .int .u32 0, .int .u32 0, .int .u32 0]
theorem build_c7 (sgl : Bool) (w : World) : (Instr.build 28 #[(2, .bool sgl), (3, .int .u16 7)]).run Try.prog w = .ok (.agg (c7 sgl)) w := by kernel_rfl
theorem c7_cm (sgl : Bool) : Cm (c7 sgl) sgl 0 0 0 := ⟨rfl, by simp [c7, Value.oneCell'], rfl, rfl, rfl, rfl, by omega, by omega, by omega⟩
theorem c7_3 (sgl : Bool) : (c7 sgl)[3]? = some (.int .u16 7) := rfl
theorem cmD_at {C : Array Value} {x y : Int} {i : Nat} (h8 : i ≠ 8) (h9 : i ≠ 9) : (cmD C x y)[i]? = C[i]? := by
  unfold cmD
  rw [Array.getElem?_setIfInBounds, if_neg (fun e => h9 e.symm), Array.getElem?_setIfInBounds, if_neg (fun e => h8 e.symm)]
theorem run_bs2 (x y : Int) (w : World) : (Instr.buildSlice 54 2 #[(0, .int .u64 x), (1, .int .u64 y)]).run Try.prog w = .ok (.slice (some ⟨w.heap.size, 0, none⟩) 2 2) (w.alloc (.cells #[.int .u64 x, .int .u64 y] 24)) := by kernel_rfl
theorem uAt_ls2 (w : World) (s : Nat) : UAt (w.alloc (.cells #[.int .u64 (69632 + (s : Int) * 8), .int .u64 77824] 24)) (some ⟨w.heap.size, 0, none⟩) 2 (ls2 (69632 + 8 * s) 77824) :=
  uAt_fresh w _ 2 _ _ fun i hi => by
    match i, hi with
    | 0, _ => simp [ls2]; omega
    | 1, _ => rfl
theorem hold_prep {kk : Nat → Nat} {n dn s pc b B : Nat} {o : Int} {sgl : Bool} {C : Array Value} (hA : TArg n (pgK kk) o dn) (hB : 1 ≤ (dn : Int) → Bt 81920 (69632 + 8 * s) 77824 ((4096 - (69632 + 8 * s) % 4096) / 8) n (pgK kk) o dn) (hkk : ∀ i, kk i < 16) (hs : s < 512) (hn : n ≤ 12) (hC : Cm C sgl 0 0 0) (la pa : Option Addr) (W : World)
    (hM : MemAt W b B 81920 (fun _ => 0) []) (hp : UAt W pa n (pgK kk)) (hl : UAt W la 2 (ls2 (69632 + 8 * s) 77824)) (hlm : ∀ a, la = some a → ¬ Two b B a.block) (hpc : n ≤ pc) (hpc2 : pc ≤ 9223372036854775807) :
    Calls Try.prog 17 #[.pointer (some ⟨b, 0, none⟩), .agg C, .slice la 2 2, .slice pa n pc, .int .i64 o, .int .i64 dn] W (PhPost b B 81920 (69632 + 8 * s) 0 C sgl (pgK kk) o dn n W) := by
  have hup : U64 n (pgK kk) := fun i _ => by have := hkk i; unfold pgK; omega
  cases sgl
  · exact prep_hp hA hB (by omega) (by omega) (by omega) (by omega) (by omega) (by omega) hC b B _ bytes0 [] (by simp) la pa 2 pc W hM hp hup hl hlm hpc hpc2
  · exact prep_hs hA (fun i _ => hold_fit hkk i) (by omega) (by omega) (by omega) hC b B _ bytes0 [] (by simp) la pa 2 pc W hM hp hup hl

theorem UAt.kept {T : Nat → Prop} {w w' : World} {ao : Option Addr} {n : Nat} {l : Nat → Int} (h : UAt w ao n l) (k : Keeps T w w') (hT : ∀ a, ao = some a → ¬ T a.block) : UAt w' ao n l := fun h0 => by
  obtain ⟨g, o, e, hc⟩ := h h0
  exact ⟨g, o, e, fun i hi => k.cell (p := ⟨g, o + i, none⟩) (hc i hi) (hT ⟨g, o, none⟩ e)⟩
/-- What holds of all but the memory. -/
structure HOk (w : World) (b B u n : Nat) (kk : Nat → Nat) (pa : Option Addr) (S : List (Nat × Array Value)) (W : World) : Prop where
  below : Below w.heap.size w W
  bl : w.heap.size ≤ b
  Bl : w.heap.size ≤ B
  ub : u ≠ b ∧ u ≠ B
  row : W.rowIs u 55 16 (fun q => .bool (uF kk n q))
  pg : UAt W pa n (pgK kk)
  pgd : ∀ a, pa = some a → ¬ Two b B a.block
  arr : ∀ x ∈ S, ArrAt W x.1 x.2 ∧ x.1 ≠ b ∧ x.1 ≠ B
namespace HOk
variable {w W W' : World} {b B u n : Nat} {kk : Nat → Nat} {pa : Option Addr} {S : List (Nat × Array Value)}
theorem kept (h : HOk w b B u n kk pa S W) (k : Keeps (Two b B) W W') : HOk w b B u n kk pa S W' :=
  ⟨h.below.trans (k.below h.below.size (fun j hj e => by have := h.bl; have := h.Bl; rcases e with e | e <;> omega)), h.bl, h.Bl, h.ub, k.rowIs h.row (fun e => by have := h.ub; rcases e with e | e <;> omega), h.pg.kept k h.pgd, h.pgd, fun x hx => ⟨(h.arr x hx).1.kept k (fun e => by have := (h.arr x hx).2; rcases e with e | e <;> omega), (h.arr x hx).2⟩⟩
theorem go (h : HOk w b B u n kk pa S W) (hb : Below W.heap.size W W') : HOk w b B u n kk pa S W' := h.kept (Keeps.of_below hb)
theorem var (h : HOk w b B u n kk pa S W) (hlb : b < W.heap.size) (hlB : B < W.heap.size) (T : TypeId) {Z A : Array Value} (hz : 0 < Z.size) (hA : A.size = Z.size) (hW : W' = (W.alloc (.cells Z T)).setCells W.heap.size 0 A.toList) : HOk w b B u n kk pa ((W.heap.size, A) :: S) W' := by
  obtain ⟨hb, ha⟩ := stored_at hz hA hW
  have h' := h.go hb
  refine ⟨h'.below, h'.bl, h'.Bl, h'.ub, h'.row, h'.pg, h'.pgd, fun x hx => ?_⟩
  rcases List.mem_cons.1 hx with rfl | hx
  · exact ⟨ha, by simp only []; omega, by simp only []; omega⟩
  · exact h'.arr x hx
end HOk
/-- bytes that came in, as a string -/
theorem bAt_str {w : World} {ao : Option Addr} {n : Nat} {z : Nat → Int} (h : BAt w ao n z) (c : Nat) : (convert 29 9 (.slice ao n c)).run Try.prog w = .ok (.string (strOf n z)) w := by
  cases ao with
  | none =>
    have h0 : n = 0 := by
      rcases Nat.eq_zero_or_pos n with e | e
      · exact e
      · obtain ⟨g, o, e', -⟩ := h 0 e
        cases e'
    subst h0
    rw [run_convert_bytes_string w 29 9 5 none 0 c Try.underlying29 Try.underlying5 Try.underlying9]
    rfl
  | some a =>
    refine conv_str w a n c z fun j hj => ?_
    obtain ⟨g, o, e, hc⟩ := h j hj
    cases e
    rw [Addr.add_mid]
    exact hc
/-- the data lies elsewhere than what the law makes -/
theorem hold_rest {w W : World} {ao : Option Addr} {n c : Nat} {zs : List Int} {b B : Nat} (h : IsRow .u8 w ao n c zs) (hb : Below w.heap.size w W) (h1 : w.heap.size ≤ b) (h2 : w.heap.size ≤ B) (hn : n ≤ 60000) : RestAt (Two b B) W (.slice ao n c) n (fun i => zs.getD i 0) := by
  have hB := (bAt_of h).1
  rcases h with ⟨rfl, rfl, rfl, rfl⟩ | ⟨x, rfl, h3, h4, -⟩
  · exact .inl ⟨rfl, rfl⟩
  · refine .inr ⟨x, c, rfl, h3, by unfold maxLen at h4; omega, by omega, fun h0 => ?_⟩
    obtain ⟨g, o, e, hc⟩ := hB 0 h0
    refine ⟨g, o, e, fun ht => ?_, fun i hi => ?_⟩
    · have hl : g < w.heap.size := World.block_lt_of_cell? _ _ hc
      rcases ht with e | e <;> omega
    · obtain ⟨g', o', e', hc'⟩ := hB i hi
      rw [e] at e'
      injection e' with e'
      injection e' with e1 e2
      subst e1 e2
      exact (hb.cell (p := ⟨g, o + i, none⟩) (World.block_lt_of_cell? _ _ hc')).trans hc'
/-- the pages differ from those that no entry of the list names -/
theorem hold_ne {kk : Nat → Nat} {n q : Nat} (h : uF kk n q = false) (i : Nat) (hi : i < n) : pgK kk i ≠ 4096 * (q : Int) := fun e => by
  have e1 : kk i = q := by unfold pgK at e; omega
  rw [uF_true.2 ⟨i, hi, e1⟩] at h
  cases h
/-- two words that are 0 -/
def w00 : Array Value := #[.int .u64 0, .int .u64 0]
theorem w00_one : w00.all (·.oneCell') = true := by simp [w00, Value.oneCell']
theorem zero_w00 (w : World) : (zeroValue 25).run Try.prog w = .ok (.agg w00) w := by kernel_rfl
theorem size_w00 : (Try.prog.info? 25).map (·.size) = some 2 := by kernel_rfl
theorem guard_w00 (i j : Nat) (w : World) : (eqGuard .eql 25 (.tmp i) (.tmp j) (.agg w00) (.agg w00)).run Try.prog w = .ok () w := by kernel_rfl
theorem eql_w00 (w : World) : (binOp .eql 25 (.agg w00) (.agg w00)).run Try.prog w = .ok (.bool true) w := by kernel_rfl
theorem build_d1 (w : World) : (Instr.build 66 #[(0, .int .i64 1)]).run Try.prog w = .ok (.agg (Dsc.cells ⟨1, 0, 0, 0⟩)) w := by kernel_rfl
theorem ok_d1 : Dsc.Ok ⟨1, 0, 0, 0⟩ := ⟨by decide, by decide, by decide, by decide⟩
theorem words_d1 : (#[Value.int .u64 (hz (dB ⟨1, 0, 0, 0⟩) 7 8), .int .u64 (hz (fun i => dB ⟨1, 0, 0, 0⟩ (8 + i)) 7 8)] : Array Value) = w00 := by rfl
theorem rng_w00 {W : World} {b : Nat} {A : Array Value} (h : ArrAt W b A) (h8 : A[8]? = some (.int .u64 0)) (h9 : A[9]? = some (.int .u64 (word1 ⟨1, 0, 0, 0⟩))) : W.rangeAt b 8 w00.toList := fun j v hv => by
  match j, hv with
  | 0, hv => cases hv; exact h.cell h8
  | 1, hv => cases hv; exact h.cell h9
end Go.Proofs.Ytfmabknhfehdcaa
