/- prp: the law PrpHolds. -/
import Derived.Test.YtfmabknhfehdcaaQM38
namespace Go.Proofs.Ytfmabknhfehdcaa
set_option linter.unusedVariables false
set_option linter.unusedSimpArgs false
open Go.RowKit

theorem new20 (w : World) : Calls Try.prog 15 #[.int .i64 20] w fun e w' => ∃ b B, e = .returned (.tuple #[.pointer (some ⟨b, 0, none⟩), .int .i64 0]) ∧ w.heap.size ≤ b ∧ w.heap.size ≤ B ∧ Below w.heap.size w w' ∧ MemAt w' b B 81920 (fun _ => 0) [] := by
  have h := new_ok 20 w (by omega) (by omega)
  rw [show 20 * 4096 = 81920 by omega] at h
  exact h
/-- bytes that came in -/
def BAt (w : World) (ao : Option Addr) (n : Nat) (z : Nat → Int) : Prop := ∀ i, i < n → ∃ g o, ao = some ⟨g, o, none⟩ ∧ w.cell? ⟨g, o + i, none⟩ = some (.int .u8 (z i))
theorem BAt.below {w w' : World} {ao : Option Addr} {n : Nat} {z : Nat → Int} (h : BAt w ao n z) (hb : Below w.heap.size w w') : BAt w' ao n z := fun i hi => by
  obtain ⟨g, o, e, hc⟩ := h i hi
  exact ⟨g, o, e, (hb.cell (p := ⟨g, o + i, none⟩) (World.block_lt_of_cell? _ _ hc)).trans hc⟩
theorem bAt_of {w : World} {ao : Option Addr} {len cap : Nat} {zs : List Int} (h : IsRow .u8 w ao len cap zs) : BAt w ao len (fun i => zs.getD i 0) ∧ (∀ i, 0 ≤ zs.getD i 0 ∧ zs.getD i 0 ≤ 255) ∧ len ≤ 9223372036854775807 := by
  rcases h with ⟨rfl, rfl, rfl, rfl⟩ | ⟨x, rfl, h1, h2, h3, h4, h5⟩
  · exact ⟨fun i hi => by omega, fun i => by simp, by omega⟩
  · refine ⟨fun i hi => ?_, fun i => ?_, by unfold maxLen at h2; omega⟩
    · have hc := h4 i (by omega)
      have e0 := addr_of_cell (h4 0 (by omega))
      rw [Addr.add_zero'] at e0
      refine ⟨x.block, x.off, congrArg some e0, ?_⟩
      rw [e0, Addr.add_mid] at hc
      exact hc
    · rcases Nat.lt_or_ge i zs.length with c | c
      · have := h5 (zs.getD i 0) (by simp [List.getD_eq_getElem?_getD, c])
        exact wf_u8 this
      · simp [List.getD_eq_getElem?_getD, List.getElem?_eq_none c]
/-- the pages of the law -/
def ph (z : Nat → Int) (i : Nat) : Int := z i % 16 * 4096
theorem bt_holds (z : Nat → Int) (hz : ∀ i, 0 ≤ z i ∧ z i ≤ 255) (o at' : Nat) (ho : o < 4096) (h4 : o % 4 = 0) (ha : at' < 4096) (h8 : at' % 8 = 0) (N : Int) (hn : 1 ≤ N) (hn2 : N ≤ 200000) (K : Nat) (hK : pgs o N = K) : Bt 81920 (69632 + at') 73728 ((4096 - (69632 + at') % 4096) / 8) K (ph z) o N := by
  refine ⟨hn, by omega, by omega, by omega, by omega, hK, fun i hi => ?_, by omega, by omega, rfl, by omega, by omega, by omega, by omega⟩
  have := hz i
  unfold ph
  omega
/-- What Build and Spans leave. -/
def HoldsPost (b B K : Nat) (p : Nat → Int) (o N : Int) (W : World) (e : Ending) (w' : World) : Prop :=
  ∃ (first second : Int) (F : Nat → Int) (L : List (Nat × Nat)), e = .returned (.tuple #[.int .u64 first, .int .u64 second, .int .i64 0]) ∧ Keeps (Two b B) W w' ∧ MemAt w' b B 81920 F L ∧
    ∀ w2, MemAt w2 b B 81920 F L → Calls Try.prog 92 #[.pointer (some ⟨b, 0, none⟩), .int .u64 first, .int .u64 second, .int .i64 N] w2 (SpPost w2 (.ok (outP p o N K)))
theorem holds_any (z : Nat → Int) (hz : ∀ i, 0 ≤ z i ∧ z i ≤ 255) (o at' : Nat) (ho : o < 4096) (h4 : o % 4 = 0) (ha : at' < 4096) (h8 : at' % 8 = 0) (N : Int) (hn : 0 ≤ N) (hn2 : N ≤ 200000) (K : Nat) (hK : pgs o N = K) (hK30 : K ≤ 30) (b B : Nat) (pa : Option Addr) (pc : Nat) (W : World) (hM : MemAt W b B 81920 (fun _ => 0) []) (hu : UAt W pa K (ph z)) (hpc : K ≤ pc) (hpc2 : pc ≤ 9223372036854775807) :
    Calls Try.prog 36 #[.pointer (some ⟨b, 0, none⟩), .slice (some ⟨W.heap.size, 0, none⟩) 2 2, .slice pa K pc, .int .i64 o, .int .i64 N] (W.alloc (.cells #[.int .u64 (69632 + (at' : Int)), .int .u64 73728] 24)) (HoldsPost b B K (ph z) o N W) := by
  by_cases h0 : N = 0
  · subst h0
    have hK0 : K = 0 := by
      unfold pgs at hK
      rw [if_pos (.inl (by omega))] at hK
      omega
    subst hK0
    obtain ⟨Wa, hWa⟩ : ∃ z, z = W.alloc (.cells #[.int .u64 (69632 + (at' : Int)), .int .u64 73728] 24) := ⟨_, rfl⟩
    have u2 : UAt Wa (some ⟨W.heap.size, 0, none⟩) 2 (ls2 (69632 + at') 73728) := by
      rw [hWa]
      refine uAt_fresh W _ 2 _ _ (fun i hi => by
        match i, hi with
        | 0, _ => simp [ls2]
        | 1, _ => rfl)
    have ba : Below W.heap.size W Wa := by rw [hWa]; exact (Below.refl _ _).alloc (Nat.le_refl _) _
    rw [← hWa]
    refine (bld_0 _ pa 2 0 2 pc (ls2 (69632 + at') 73728) (ph z) o 0 b B 81920 _ [] Wa (hM.below ba) (by omega) u2 (hu.below ba) (fun i hi => by unfold ls2; split <;> omega) (fun i hi => by omega) (by omega) (by omega) (by omega) (by omega) (by omega) (by omega) ⟨by omega, by omega, by omega, by omega, by omega, hK.symm, fun i hi => by omega, fun i hi => ?_⟩ rfl).mono ?_
    · unfold ls2
      split
      · exact ⟨by omega, .inl ‹_›⟩
      · exact ⟨by omega, .inr (by omega)⟩
    · rintro e w' ⟨rfl, hb⟩
      exact ⟨0, 0, _, _, rfl, Keeps.of_below (ba.trans (hb.mono ba.size)), hM.below (ba.trans (hb.mono ba.size)), fun w2 h2 => spans_zero 0 0 0 b B 81920 _ _ w2 h2 (by omega) rfl⟩
  · have hbt := bt_holds z hz o at' ho h4 ha h8 N (by omega) hn2 K hK
    have h := built_any hbt b B _ bytes0 [] (by simp) pa pc W hM hu hpc hpc2
    simp only [Int.natCast_add, Int.cast_ofNat_Int] at h
    refine h.mono ?_
    rintro e w' ⟨second, F, L, rfl, hk, hm, hF, h1, h2, h3, hsp⟩
    have := hz 0
    refine ⟨_, second, F, L, rfl, hk, hm, fun w2 hw => ?_⟩
    rw [← hsp]
    exact spans_all _ _ N b B 81920 F L w2 hw (by omega) (by unfold ph; omega) (by unfold ph; omega) h1 h2 hF
theorem holds_facts (z : Nat → Int) (hz : ∀ i, 0 ≤ z i ∧ z i ≤ 255) (o : Nat) (ho : o < 4096) (h4 : o % 4 = 0) (N : Int) (hn : 0 ≤ N) (hn2 : N ≤ 200000) (K : Nat) (hK : pgs o N = K) :
    (∀ i, i < K → 0 ≤ adP (ph z) o i ∧ 1 ≤ lenP o N i ∧ lenP o N i ≤ 4096 ∧ adP (ph z) o i + lenP o N i ≤ 81920 ∧ adP (ph z) o i / 4096 = (adP (ph z) o i + lenP o N i - 1) / 4096) ∧ sumP o N K = N := by
  by_cases h0 : N = 0
  · subst h0
    have hK0 : K = 0 := by
      unfold pgs at hK
      rw [if_pos (.inl (by omega))] at hK
      omega
    subst hK0
    exact ⟨fun i hi => by omega, rfl⟩
  · have hbt := bt_holds z hz o 0 ho h4 (by omega) rfl N (by omega) hn2 K hK
    exact ⟨fun i hi => bt_span hbt i hi, bt_sum hbt⟩
theorem sumP_bd {o N : Int} {K : Nat} (h : ∀ i, i < K → 1 ≤ lenP o N i ∧ lenP o N i ≤ 4096) : ∀ k, k ≤ K → 0 ≤ sumP o N k ∧ sumP o N k ≤ 4096 * k
  | 0, _ => ⟨Int.le_refl _, by show (0 : Int) ≤ _; omega⟩
  | k + 1, hk => by
    have h1 := h k (by omega)
    have h2 := sumP_bd h k (by omega)
    show 0 ≤ sumP o N k + lenP o N k ∧ sumP o N k + lenP o N k ≤ _
    omega
section
variable (ao : Option Addr) (n c : Nat) (z : Nat → Int) (ofs st N : Int) (w : World) (hB : BAt w ao n z) (hz : ∀ i, 0 ≤ z i ∧ z i ≤ 255) (hn : n ≤ 9223372036854775807) (h0 : 0 ≤ ofs ∧ ofs ≤ 65535) (h1 : 0 ≤ st ∧ st ≤ 65535)
include hB hz hn h0 h1
omit hB hz in
end
end Go.Proofs.Ytfmabknhfehdcaa

namespace Go.Proofs.Ytfmabknhfehdcaa
open Go.RowKit

/-- the memory's blocks, the arrays' -/
def Bk (b B : Nat) (S : List (Nat × Array Value)) (j : Nat) : Prop := j = b ∨ j = B ∨ ∃ x ∈ S, x.1 = j
theorem Bk.two {b B j : Nat} {S : List (Nat × Array Value)} (h : Two b B j) : Bk b B S j := h.elim Or.inl fun h => .inr (.inl h)
/-- A memory, its specification's, arrays that lie whole. -/
structure UMk (w : World) (b B sz : Nat) (F : Nat → Int) (MC : Array Value) (G : Nat → Int) (S : List (Nat × Array Value)) (W : World) (K : Nat := 900) : Prop where
  below : Below w.heap.size w W
  mem : ∃ L, L.length ≤ 1000 ∧ MemAt W b B sz F L
  ref : ∃ L, L.length ≤ K ∧ RefAt (Bk b B S) W (.agg MC) sz G L
  bl : w.heap.size ≤ b
  Bl : w.heap.size ≤ B
  arr : ∀ x ∈ S, ArrAt W x.1 x.2 ∧ x.1 ≠ b ∧ x.1 ≠ B ∧ w.heap.size ≤ x.1
namespace UMk
variable {w W W' : World} {b B sz : Nat} {F F' G G' : Nat → Int} {MC MC' : Array Value} {S : List (Nat × Array Value)} {K : Nat}
theorem bk (h : UMk w b B sz F MC G S W K) {j : Nat} (e : Bk b B S j) : w.heap.size ≤ j := by
  rcases e with rfl | rfl | ⟨x, hx, rfl⟩
  · exact h.bl
  · exact h.Bl
  · exact (h.arr x hx).2.2.2
theorem go (h : UMk w b B sz F MC G S W K) (hb : Below W.heap.size W W') : UMk w b B sz F MC G S W' K := by
  obtain ⟨L, h1, h2⟩ := h.mem
  obtain ⟨L2, h3, h4⟩ := h.ref
  exact ⟨h.below.trans (hb.mono h.below.size), ⟨L, h1, h2.below hb⟩, ⟨L2, h3, h4.below hb⟩, h.bl, h.Bl, fun x hx => ⟨(h.arr x hx).1.below hb, (h.arr x hx).2⟩⟩
theorem two (h : UMk w b B sz F MC G S W K) {T : Nat → Prop} (k : Keeps T W W') (hT : ∀ j, T j → w.heap.size ≤ j) : Below w.heap.size w W' := h.below.trans (k.below h.below.size (fun j hj e => by have := hT j e; omega))
theorem put (h : UMk w b B sz F MC G S W K) (k : Keeps (Two b B) W W') (hm : ∃ L, L.length ≤ 1000 ∧ MemAt W' b B sz F' L) : UMk w b B sz F' MC G S W' K := by
  obtain ⟨L2, h3, h4⟩ := h.ref
  exact ⟨h.two k (fun j e => by have := h.bl; have := h.Bl; rcases e with e | e <;> omega), hm, ⟨L2, h3, h4.kept k (fun _ e => Bk.two e)⟩, h.bl, h.Bl, fun x hx => ⟨(h.arr x hx).1.kept k (fun e => by have := (h.arr x hx).2; rcases e with e | e <;> omega), (h.arr x hx).2⟩⟩
theorem mlt (h : UMk w b B sz F MC G S W K) : b < W.heap.size ∧ B < W.heap.size := by
  obtain ⟨L, -, hm⟩ := h.mem
  exact ⟨hm.lt, hm.lt'⟩
theorem blt (h : UMk w b B sz F MC G S W K) {j : Nat} (e : Bk b B S j) : j < W.heap.size := by
  rcases e with rfl | rfl | ⟨x, hx, rfl⟩
  · exact h.mlt.1
  · exact h.mlt.2
  · exact (h.arr x hx).1.lt
/-- A new array. -/
theorem var (h : UMk w b B sz F MC G S W K) (T : TypeId) {Z A : Array Value} (hz : 0 < Z.size) (hA : A.size = Z.size) (hW : W' = (W.alloc (.cells Z T)).setCells W.heap.size 0 A.toList) : UMk w b B sz F MC G ((W.heap.size, A) :: S) W' K := by
  obtain ⟨hb, ha⟩ := stored_at hz hA hW
  have hm := h.mlt
  have h' := h.go hb
  obtain ⟨L2, h3, h4⟩ := h.ref
  refine ⟨h'.below, h'.mem, ⟨L2, h3, ?_⟩, h.bl, h.Bl, fun x hx => ?_⟩
  · refine (h4.more (T := Bk b B ((W.heap.size, A) :: S)) fun j hj e => ?_).below hb
    rcases e with e | e | ⟨x, hx, e⟩
    · exact .inl e
    · exact .inr (.inl e)
    · rcases List.mem_cons.1 hx with rfl | hx
      · simp only at e; omega
      · exact .inr (.inr ⟨x, hx, e⟩)
  · rcases List.mem_cons.1 hx with rfl | hx
    · exact ⟨ha, by simp only []; omega, by simp only []; omega, h.below.size⟩
    · exact h'.arr x hx
/-- An array laid over. -/
theorem over (h : UMk w b B sz F MC G S W K) {g : Nat} {A A' : Array Value} (hm : (g, A) ∈ S) (hs : A'.size = A.size) (S' : List (Nat × Array Value)) (hS : ∀ x ∈ S', x = (g, A') ∨ (x ∈ S ∧ x.1 ≠ g)) (hW : W' = W.setCells g 0 A'.toList)
    {K' : Nat} (hr : ∃ L, L.length ≤ K' ∧ RefAt (Bk b B S) W (.agg MC') sz G' L) : UMk w b B sz F MC' G' S' W' K' := by
  obtain ⟨h1, h2, h3, h4⟩ := h.arr _ hm
  subst hW
  have k : Keeps (One g) W (W.setCells g 0 A'.toList) := Keeps.store (S := One g) (Keeps.refl _ _) (fun _ => rfl) _ _
  obtain ⟨L, hl, hM⟩ := h.mem
  obtain ⟨L2, hl2, hr⟩ := hr
  have hg : Bk b B S g := .inr (.inr ⟨_, hm, rfl⟩)
  refine ⟨h.two k (fun j e => by have e : j = g := e; rw [e]; exact h4), ⟨L, hl, hM.kept k (fun e => h2 (Eq.symm e)) (fun e => h3 (Eq.symm e))⟩, ⟨L2, hl2, (hr.kept k fun j e => by have e : j = g := e; rw [e]; exact hg).more fun j _ e => ?_⟩, h.bl, h.Bl, fun x hx => ?_⟩
  · rcases e with e | e | ⟨x, hx, e⟩
    · exact .inl e
    · exact .inr (.inl e)
    · rcases hS x hx with rfl | ⟨hx1, hx2⟩
      · rw [← e]; exact hg
      · exact .inr (.inr ⟨x, hx1, e⟩)
  rcases hS x hx with rfl | ⟨hx1, hx2⟩
  · exact ⟨h1.store A' hs, h2, h3, h4⟩
  · have := h.arr x hx1
    exact ⟨this.1.kept k (fun e => hx2 e), this.2⟩
/-- The data's bytes lie elsewhere. -/
theorem src (h : UMk w b B sz F MC G S W K) {ao : Option Addr} {n : Nat} {z : Nat → Int} (hz : BAt w ao n z) (hn : n ≤ 4611686018427387904) : Src (Bk b B S) W ao n z := by
  refine ⟨hn, fun h0 => ?_⟩
  obtain ⟨g, o, e, hc0⟩ := hz 0 h0
  refine ⟨g, o, e, fun ht => ?_, fun i hi => ?_⟩
  · have h1 : g < w.heap.size := World.block_lt_of_cell? _ _ hc0
    have h2 := h.bk ht
    omega
  · obtain ⟨g', o', e', hc'⟩ := hz i hi
    rw [e] at e'
    injection e' with e'
    injection e' with e1 e2
    subst e1 e2
    exact (h.below.cell (p := ⟨g, o + i, none⟩) (World.block_lt_of_cell? _ _ hc')).trans hc'
end UMk
/-- what GatherMeta's bytes are as a string -/
def gmS (c n : Int) (g : Nat → Int) : ByteArray := if c = 0 ∧ 0 < n then strOf n.toNat g else ByteArray.empty
theorem conv_none (w : World) (l c : Nat) : (convert 29 9 (.slice none l c)).run Try.prog w = .ok (.string ByteArray.empty) w := by
  rw [run_convert_bytes_string w 29 9 5 none l c Try.underlying29 Try.underlying5 Try.underlying9]
  rfl
theorem TgmPost.form {w w' : World} {c n : Int} {g : Nat → Int} {e : Ending} (h : TgmPost w c n g e w') (hn : c = 0 → 0 ≤ n) : ∃ x m k, e = .returned (.tuple #[.slice x m k, .agg (stC c)]) ∧ Below w.heap.size w w' ∧ ∀ W, Below w'.heap.size w' W → (convert 29 9 (.slice x m k)).run Try.prog W = .ok (.string (gmS c n g)) W := by
  obtain ⟨h1, h2⟩ := h
  unfold stC gmS
  by_cases hc : c = 0
  · rw [if_neg (fun e => e hc)] at h2
    by_cases hz : n = 0
    · rw [if_pos hz] at h2
      refine ⟨none, 0, 0, by rw [h2, if_pos hc], h1, fun W _ => ?_⟩
      rw [if_neg (fun e => by omega)]
      exact conv_none W 0 0
    · rw [if_neg hz] at h2
      obtain ⟨v, he, hv⟩ := h2
      have hv' := hv
      obtain ⟨ng, nc, nF, hvv, -⟩ := hv'
      subst hvv
      refine ⟨_, _, _, by rw [he, if_pos hc], h1, fun W hb => ?_⟩
      rw [newBytes_str (hv.kept (Keeps.of_below (S := fun _ => False) hb) (fun _ _ e => e)), if_pos ⟨hc, by have := hn hc; omega⟩]
  · rw [if_pos hc] at h2
    refine ⟨none, 0, 0, by rw [h2, if_neg hc], h1, fun W _ => ?_⟩
    rw [if_neg (fun e => hc e.1)]
    exact conv_none W 0 0
theorem metaT_bd (sz : Nat) (a n : Int) : 0 ≤ metaT sz a n ∧ metaT sz a n ≤ 255 := by
  unfold metaT
  repeat' split
  all_goals omega
/-- the memory behind ScatterMeta -/
def smF (c : Int) (f : Nat → Int) (a : Nat) (n : Nat) (g : Nat → Int) : Nat → Int := if c = 0 then upd f a n g else f
section
variable {w : World} {b B sz : Nat} {F : Nat → Int} {MC : Array Value} {G : Nat → Int} {S : List (Nat × Array Value)} {x : World} (h : UMk w b B sz F MC G S x) (hs : 0 < sz) {C : Array Value} {sgl : Bool} {mt d0 d1 : Int} (hC : Cm C sgl mt d0 d1)
include h hs hC
theorem umGm (n : Int) : Calls Try.prog 8 #[.pointer (some ⟨b, 0, none⟩), .agg C, .int .i64 n] x fun e w' => ∃ p m k, e = .returned (.tuple #[.slice p m k, .agg (stC (metaT sz mt n))]) ∧ (∀ W, Below w'.heap.size w' W → (convert 29 9 (.slice p m k)).run Try.prog W = .ok (.string (gmS (metaT sz mt n) n fun i => F (mt.toNat + i))) W) ∧ Below x.heap.size x w' := by
  obtain ⟨L, hL, hM⟩ := h.mem
  refine (trGm hC b B sz F L x hM hs n).mono fun e w' hp => ?_
  obtain ⟨p, m, k, h1, h2, h3⟩ := hp.form (fun h => (metaT_nn h).1)
  exact ⟨p, m, k, h1, h3, h2⟩
theorem umSm (ao : Option Addr) (n dc : Nat) (g : Nat → Int) (hn : n ≤ 10000) (hD : Src (Two b B) x ao n g) (hL5 : ∃ L, L.length ≤ 500 ∧ MemAt x b B sz F L) :
    Calls Try.prog 13 #[.pointer (some ⟨b, 0, none⟩), .agg C, .slice ao n dc] x fun e w' => e = .returned (.agg (stC (metaT sz mt n))) ∧ UMk w b B sz (smF (metaT sz mt n) F mt.toNat n g) MC G S w' := by
  obtain ⟨L, hL, hM⟩ := hL5
  refine (trSm hC b B sz F L x hM hs ao n dc g (by omega) hD (by omega)).mono fun e w' hp => ?_
  unfold TsmPost at hp
  unfold stC smF
  by_cases hc : metaT sz mt n = 0
  · rw [if_neg (fun e => e hc)] at hp
    rw [if_pos hc, if_pos hc]
    by_cases hz : n = 0
    · rw [if_pos hz] at hp
      subst hz
      rw [upd_zero]
      exact ⟨hp.1, h.go hp.2⟩
    · rw [if_neg hz] at hp
      exact ⟨hp.1, h.put hp.2.1 ⟨_, by have := logged_len L mt.toNat n; omega, hp.2.2⟩⟩
  · rw [if_pos hc] at hp
    rw [if_neg hc, if_neg hc]
    exact ⟨hp.1, h.go hp.2⟩
end
end Go.Proofs.Ytfmabknhfehdcaa
