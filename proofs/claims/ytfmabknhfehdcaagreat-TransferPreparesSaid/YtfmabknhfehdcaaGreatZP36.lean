/- prp: the law PrpBounds. -/
import Derived.Test.YtfmabknhfehdcaaGreatZP29
import Derived.Test.YtfmabknhfehdcaaGreatZP35
import Derived.Laws.AppendOwnNone
import Derived.Test.YtfmabknhfehdcaaGreatZP3
import Derived.Test.YtfmabknhfehdcaaGreatZP31
import Derived.Test.YtfmabknhfehdcaaGreatZP10
import Derived.BigQuiet
import Derived.Deep.CutBlock
import Derived.Test.YtfmabknhfehdcaaGreatZP30
import Derived.Test.YtfmabknhfehdcaaGreatZP32
import Derived.Laws.CopyOwn
namespace Go.Proofs.YtfmabknhfehdcaaGreat
set_option linter.unusedSimpArgs false
set_option linter.unusedVariables false
open Go.RowKit
/-- the first k pages of a list -/
def pgL (p : Nat → Int) (k : Nat) : List Value := (List.range k).map fun i => .int .u64 (p i)
/-- the pages of the law -/
def pb (i : Nat) : Int := (i : Int) % 8 * 4096
section
variable (ofs st : Int) (w : World) (h0 : 0 ≤ ofs ∧ ofs ≤ 65535) (h1 : 0 ≤ st ∧ st ≤ 65535)
include h0 h1
end
end Go.Proofs.YtfmabknhfehdcaaGreat
namespace Go.Proofs.YtfmabknhfehdcaaGreat
set_option linter.unusedSimpArgs false
set_option linter.unusedVariables false
open Go.RowKit
/-- bytes that came in -/
def BAt (w : World) (ao : Option Addr) (n : Nat) (z : Nat → Int) : Prop := ∀ i, i < n → ∃ g o, ao = some ⟨g, o, none⟩ ∧ w.cell? ⟨g, o + i, none⟩ = some (.int .u8 (z i))
theorem BAt.below {w w' : World} {ao : Option Addr} {n : Nat} {z : Nat → Int} (h : BAt w ao n z) (hb : Below w.heap.size w w') : BAt w' ao n z := fun i hi => by
 obtain ⟨g, o, e, hc⟩ := h i hi
 exact ⟨g, o, e, (hb.cell (p := ⟨g, o + i, none⟩) (World.block_lt_of_cell? _ _ hc)).trans hc⟩
/-- the pages of the law -/
def ph (z : Nat → Int) (i : Nat) : Int := z i % 16 * 4096
/-- What Build and Spans leave. -/
def HoldsPost (b B K : Nat) (p : Nat → Int) (o N : Int) (W : World) (e : Ending) (w' : World) : Prop :=
 ∃ (first second : Int) (F : Nat → Int) (L : List (Nat × Nat)), e = .returned (.tuple #[.int .u64 first, .int .u64 second, .int .i64 0]) ∧ Keeps (Two b B) W w' ∧ MemAt w' b B 81920 F L ∧
  ∀ w2, MemAt w2 b B 81920 F L → Calls Tryz.prog 87 #[.pointer (some ⟨b, 0, none⟩), .int .u64 first, .int .u64 second, .int .i64 N] w2 (SpPost w2 (.ok (outP p o N K)))
section
variable (ao : Option Addr) (n c : Nat) (z : Nat → Int) (ofs st N : Int) (w : World) (hB : BAt w ao n z) (hz : ∀ i, 0 ≤ z i ∧ z i ≤ 255) (hn : n ≤ 9223372036854775807) (h0 : 0 ≤ ofs ∧ ofs ≤ 65535) (h1 : 0 ≤ st ∧ st ≤ 65535)
include hB hz hn h0 h1
omit hB hz in
end
end Go.Proofs.YtfmabknhfehdcaaGreat
namespace Go.Proofs.YtfmabknhfehdcaaGreat
set_option linter.unusedSimpArgs false
set_option linter.unusedVariables false
open Go.RowKit
theorem rb_all (MC : Array Value) (la pa : Option Addr) (nl np lc pc : Nat) (l p : Nat → Int) (o N : Int) (sz : Nat) (f : Nat → Int) (L : List (Nat × Nat)) (S : Nat → Prop) (w : World) (hM : RefAt S w (.agg MC) sz f L) (h2 : MC.size = 2) (hOM : MC.all (·.oneCell') = true)
  (hl : UAt w la nl l) (hp : UAt w pa np p) (hul : U64 nl l) (hup : U64 np p) (hnl : nl ≤ 1000000) (hnp : np ≤ 1000000) (ho0 : -9223372036854775808 ≤ o) (ho1 : o ≤ 9223372036854775807) (hN0 : -9223372036854775808 ≤ N) (hN1 : N ≤ 9223372036854775807)
  (hsz : sz ≤ 4194304) (hLL : L.length ≤ 998) (hSS : ∀ j, S j → j < w.heap.size) (hpc : np ≤ pc) (hpc2 : pc ≤ 9223372036854775807) :
  Calls Tryz.prog 26 #[.agg MC, .slice la nl lc, .slice pa np pc, .int .i64 o, .int .i64 N] w (RBPost MC sz f S np nl p l o N w) := by
 by_cases hg : N < 0 ∨ 1048576 < N ∨ o < 0 ∨ 4092 < o ∨ o % 4 ≠ 0 ∨ (np : Int) ≠ pgs o N
 ·exact rb_arg1 MC la pa nl np lc pc l p o N sz f L S w hM h2 hOM hl hp hul hup ho0 ho1 hN0 hN1 hg
 ·have h4 : o % 4 = 0 := Classical.byContradiction fun h => hg (.inr (.inr (.inr (.inr (.inl h)))))
  have h5 : (np : Int) = pgs o N := Classical.byContradiction fun h => hg (.inr (.inr (.inr (.inr (.inr h)))))
  exact rb_main MC la pa nl np lc pc l p o N sz f L S w hM h2 hOM hl hp hul hup hnl hnp ho0 ho1 hN0 hN1 (by omega) (by omega) (by omega) (by omega) h4 h5 hsz hLL hSS hpc hpc2
/-- Build of the program, for both_build -/
def B1Post (b B sz : Nat) (r1 r2 er : Int) (F : Nat → Int) (W : World) (e : Ending) (w' : World) : Prop := e = .returned (.tuple #[.int .u64 r1, .int .u64 r2, .int .i64 er]) ∧ Keeps (Two b B) W w' ∧ ∃ L, MemAt w' b B sz F L
def B2Post (S : Nat → Prop) (sz : Nat) (r1 r2 er : Int) (F : Nat → Int) (W : World) (e : Ending) (w' : World) : Prop := ∃ MC' L, e = rbE MC' r1 r2 er ∧ Below W.heap.size W w' ∧ RefAt S w' (.agg MC') sz F L
theorem both_build (b B sz : Nat) (MC : Array Value) (nl np : Nat) (l p : Nat → Int) (o N : Int) (f : Nat → Int) (h2 : MC.size = 2) (hOM : MC.all (·.oneCell') = true) (hul : U64 nl l) (hup : U64 np p) (hnl : nl ≤ 1000) (hnp : np ≤ 1000) (ho0 : -9223372036854775808 ≤ o) (ho1 : o ≤ 9223372036854775807) (hN0 : -9223372036854775808 ≤ N) (hN1 : N ≤ 9223372036854775807) (hs0 : 0 < sz) (hsz : sz ≤ 4194304) :
  ∃ (r1 r2 er : Int) (F : Nat → Int), (er ≠ 0 → F = f) ∧
   (∀ W la lc pa pc L, MemAt W b B sz f L → L.length < 1000 → UAt W la nl l → UAt W pa np p → np ≤ pc → pc ≤ 9223372036854775807 → (0 < nl → ∀ a, la = some a → ¬ Two b B a.block) → Calls Tryz.prog 20 #[.pointer (some ⟨b, 0, none⟩), .slice la nl lc, .slice pa np pc, .int .i64 o, .int .i64 N] W (B1Post b B sz r1 r2 er F W)) ∧
   (∀ W la lc pa pc S, RefAt S W (.agg MC) sz f [] → (∀ j, S j → j < W.heap.size) → UAt W la nl l → UAt W pa np p → np ≤ pc → pc ≤ 9223372036854775807 → Calls Tryz.prog 26 #[.agg MC, .slice la nl lc, .slice pa np pc, .int .i64 o, .int .i64 N] W (B2Post S sz r1 r2 er F W)) := by
 have hR := fun W la lc pa pc S (h1 : RefAt S W (.agg MC) sz f []) (h3 : ∀ j, S j → j < W.heap.size) (h4 : UAt W la nl l) (h5 : UAt W pa np p) (h6 : np ≤ pc) (h7 : pc ≤ 9223372036854775807) => rb_all MC la pa nl np lc pc l p o N sz f [] S W h1 h2 hOM h4 h5 hul hup (by omega) (by omega) ho0 ho1 hN0 hN1 hsz (by simp) h3 h6 h7
 by_cases hv : VArg np nl p l o N
 ·rcases (by omega : np = 0 ∨ np = 1 ∨ np = 2 ∨ 3 ≤ np) with hk | hk | hk | hk
  ·refine ⟨0, 0, 0, f, fun h => absurd rfl h, fun W la lc pa pc L hM hL hl hp hc1 hc2 hlm => (bld_0 la pa nl np lc pc l p o N b B sz f L W hM hs0 hl hp hul hup (by omega) (by omega) ho0 ho1 hN0 hN1 hv hk).mono ?_, fun W la lc pa pc S hM hS hl hp hc1 hc2 => (hR W la lc pa pc S hM hS hl hp hc1 hc2).mono ?_⟩
   ·rintro e w' ⟨rfl, hb⟩
    exact ⟨rfl, Keeps.of_below hb, _, hM.below hb⟩
   ·rintro e w' ⟨hb, ⟨h, -⟩ | ⟨-, ⟨-, rfl⟩ | ⟨h, -⟩ | ⟨h, -⟩ | ⟨h, -⟩ | ⟨h, -⟩⟩⟩
    ·exact absurd hv h
    ·exact ⟨MC, [], rfl, hb, hM.below hb⟩
    all_goals omega
  ·refine ⟨p 0 + o, 0, 0, f, fun h => absurd rfl h, fun W la lc pa pc L hM hL hl hp hc1 hc2 hlm => (bld_1 la pa nl np lc pc l p o N b B sz f L W hM hs0 hl hp hul hup (by omega) (by omega) ho0 ho1 hN0 hN1 hv hk).mono ?_, fun W la lc pa pc S hM hS hl hp hc1 hc2 => (hR W la lc pa pc S hM hS hl hp hc1 hc2).mono ?_⟩
   ·rintro e w' ⟨rfl, hb⟩
    exact ⟨rfl, Keeps.of_below hb, _, hM.below hb⟩
   ·rintro e w' ⟨hb, ⟨h, -⟩ | ⟨-, ⟨h, -⟩ | ⟨-, rfl⟩ | ⟨h, -⟩ | ⟨h, -⟩ | ⟨h, -⟩⟩⟩
    ·exact absurd hv h
    ·omega
    ·exact ⟨MC, [], rfl, hb, hM.below hb⟩
    all_goals omega
  ·refine ⟨p 0 + o, p 1, 0, f, fun h => absurd rfl h, fun W la lc pa pc L hM hL hl hp hc1 hc2 hlm => (bld_2 la pa nl np lc pc l p o N b B sz f L W hM hs0 hl hp hul hup (by omega) (by omega) ho0 ho1 hN0 hN1 hv hk).mono ?_, fun W la lc pa pc S hM hS hl hp hc1 hc2 => (hR W la lc pa pc S hM hS hl hp hc1 hc2).mono ?_⟩
   ·rintro e w' ⟨rfl, hb⟩
    exact ⟨rfl, Keeps.of_below hb, _, hM.below hb⟩
   ·rintro e w' ⟨hb, ⟨h, -⟩ | ⟨-, ⟨h, -⟩ | ⟨h, -⟩ | ⟨-, rfl⟩ | ⟨h, -⟩ | ⟨h, -⟩⟩⟩
    ·exact absurd hv h
    ·omega
    ·omega
    ·exact ⟨MC, [], rfl, hb, hM.below hb⟩
    all_goals omega
  ·by_cases hfl : nl = 0 ∨ (nl : Int) < lstsP (l 0) np
   ·refine ⟨0, 0, 7, f, fun _ => rfl, fun W la lc pa pc L hM hL hl hp hc1 hc2 hlm => (bld_full la pa nl np lc pc l p o N b B sz f L W hM hs0 hl hp hul hup (by omega) (by omega) ho0 ho1 hN0 hN1 hv hk hfl).mono ?_, fun W la lc pa pc S hM hS hl hp hc1 hc2 => (hR W la lc pa pc S hM hS hl hp hc1 hc2).mono ?_⟩
    ·rintro e w' ⟨rfl, hb⟩
     exact ⟨rfl, Keeps.of_below hb, _, hM.below hb⟩
    ·rintro e w' ⟨hb, ⟨h, -⟩ | ⟨-, ⟨h, -⟩ | ⟨h, -⟩ | ⟨h, -⟩ | ⟨-, -, rfl⟩ | ⟨-, h1, h3, -⟩⟩⟩
     ·exact absurd hv h
     ·omega
     ·omega
     ·omega
     ·exact ⟨MC, [], rfl, hb, hM.below hb⟩
     ·omega
   ·have hnl0 : 0 < nl := by omega
    cases hX : planP l p np sz 2 0 1 [] with
    | ok D =>
     refine ⟨p 0 + o, l 0, 0, itF f D, fun h => absurd rfl h, fun W la lc pa pc L hM hL hl hp hc1 hc2 hlm => (bld_lists la pa nl np lc pc l p o N b B sz f L W hM hs0 hl hp hul hup (by omega) (by omega) ho0 ho1 hN0 hN1 hv hk hc1 hc2 hnl0 (by omega) (hlm hnl0) _ rfl (by omega) _ hX).mono ?_, fun W la lc pa pc S hM hS hl hp hc1 hc2 => (hR W la lc pa pc S hM hS hl hp hc1 hc2).mono ?_⟩
     ·rintro e w' (⟨D', hD', rfl, hk', hm⟩ | ⟨hD', -⟩)
      ·cases hD'
       exact ⟨rfl, hk', _, hm⟩
      ·cases hD'
     ·rintro e w' ⟨hb, ⟨h, -⟩ | ⟨-, ⟨h, -⟩ | ⟨h, -⟩ | ⟨h, -⟩ | ⟨-, h, -⟩ | ⟨-, -, -, ⟨D', MC', L', hD', rfl, hr⟩ | ⟨hD', -⟩⟩⟩⟩
      ·exact absurd hv h
      ·omega
      ·omega
      ·omega
      ·exact absurd h hfl
      ·rw [hX] at hD'
       cases hD'
       exact ⟨MC', L', rfl, hb, hr⟩
      ·rw [hX] at hD'
       cases hD'
    | error x =>
     refine ⟨0, 0, 3, f, fun _ => rfl, fun W la lc pa pc L hM hL hl hp hc1 hc2 hlm => (bld_lists la pa nl np lc pc l p o N b B sz f L W hM hs0 hl hp hul hup (by omega) (by omega) ho0 ho1 hN0 hN1 hv hk hc1 hc2 hnl0 (by omega) (hlm hnl0) _ rfl (by omega) _ hX).mono ?_, fun W la lc pa pc S hM hS hl hp hc1 hc2 => (hR W la lc pa pc S hM hS hl hp hc1 hc2).mono ?_⟩
     ·rintro e w' (⟨D', hD', -⟩ | ⟨-, rfl, hb⟩)
      ·cases hD'
      ·exact ⟨rfl, Keeps.of_below hb, _, hM.below hb⟩
     ·rintro e w' ⟨hb, ⟨h, -⟩ | ⟨-, ⟨h, -⟩ | ⟨h, -⟩ | ⟨h, -⟩ | ⟨-, h, -⟩ | ⟨-, -, -, ⟨D', MC', L', hD', -⟩ | ⟨-, rfl⟩⟩⟩⟩
      ·exact absurd hv h
      ·omega
      ·omega
      ·omega
      ·exact absurd h hfl
      ·rw [hX] at hD'
       cases hD'
      ·exact ⟨MC, [], rfl, hb, hM.below hb⟩
 ·refine ⟨0, 0, 2, f, fun _ => rfl, fun W la lc pa pc L hM hL hl hp hc1 hc2 hlm => (bld_arg la pa nl np lc pc l p o N b B sz f L W hM hs0 hl hp hul hup (by omega) (by omega) ho0 ho1 hN0 hN1 hv).mono ?_, fun W la lc pa pc S hM hS hl hp hc1 hc2 => (hR W la lc pa pc S hM hS hl hp hc1 hc2).mono ?_⟩
  ·rintro e w' ⟨rfl, hb⟩
   exact ⟨rfl, Keeps.of_below hb, _, hM.below hb⟩
  ·rintro e w' ⟨hb, ⟨-, rfl⟩ | ⟨h, -⟩⟩
   ·exact ⟨MC, [], rfl, hb, hM.below hb⟩
   ·exact absurd h hv
/-- numbers that came in -/
theorem uAt_of {w : World} {ao : Option Addr} {len cap : Nat} {zs : List Int} (h : IsRow .u64 w ao len cap zs) : UAt w ao len (fun i => zs.getD i 0) ∧ U64 len (fun i => zs.getD i 0) ∧ len ≤ cap ∧ cap ≤ 9223372036854775807 := by
 rcases h with ⟨rfl, rfl, rfl, rfl⟩ | ⟨x, rfl, h1, h2, h3, h4, h5⟩
 ·exact ⟨fun h => by omega, fun i hi => by omega, by omega, by omega⟩
 ·refine ⟨fun h0 => ?_, fun i hi => ?_, h1, by unfold maxLen at h2; omega⟩
  ·have e0 := addr_of_cell (h4 0 (by omega))
   rw [Addr.add_zero'] at e0
   refine ⟨x.block, x.off, congrArg some e0, fun i hi => ?_⟩
   have hc := h4 i (by omega)
   rw [e0, Addr.add_mid] at hc
   exact hc
  ·have := h5 (zs.getD i 0) (by simp [List.getD_eq_getElem?_getD, show i < zs.length by omega])
   exact wf_u64 this
end Go.Proofs.YtfmabknhfehdcaaGreat
namespace Go.Proofs.YtfmabknhfehdcaaGreat
set_option linter.unusedSimpArgs false
set_option linter.unusedVariables false
open Go.RowKit
theorem RefAt.under {S T : Nat → Prop} {w w' : World} {v : Value} {n : Nat} {f : Nat → Int} {L : List (Nat × Nat)} (h : RefAt S w v n f L) (k : Keeps T w w') (hT : ∀ b, T b → S b) : RefAt S w' v n f L := h.kept k hT
section
variable (d : Dsc) (n : Int) (th : Bool) (M : Value) (size : Nat) (f : Nat → Int) (L : List (Nat × Nat)) (S : Nat → Prop) (w : World) (hM : RefAt S w M size f L) (hsz : size ≤ 4194304) (hd : d.Ok)
include hM hsz hd
end
end Go.Proofs.YtfmabknhfehdcaaGreat
namespace Go.Proofs.YtfmabknhfehdcaaGreat
set_option linter.unusedSimpArgs false
set_option linter.unusedVariables false
open Go.RowKit
theorem sCAt.below {w w' : World} {ao : Option Addr} {n : Nat} {l : Nat → CelV} (h : sCAt w ao n l) (hb : Below w.heap.size w w') : sCAt w' ao n l := fun i hi => by
 obtain ⟨g, o, e, hc⟩ := h i hi
 have hg : g < w.heap.size := World.block_lt_of_cell? _ _ hc.a
 exact ⟨g, o, e, rangeAt_below hc.d hb hg, (hb.cell (p := ⟨g, o + i * 6 + 4, none⟩) hg).trans hc.a, (hb.cell (p := ⟨g, o + i * 6 + 5, none⟩) hg).trans hc.s⟩
/-- Two memories and the specification beside them. -/
structure Mm (w : World) (b B : Nat) (sz : Nat) (f : Nat → Int) (M : Value) (g : Nat) (W : World) : Prop where
 below : Below w.heap.size w W
 mem : MemAt W b B sz f [(0, sz)]
 ref : RefAt (fun j => j ≠ g) W M sz f []
theorem Mm.go {w : World} {b B sz : Nat} {f : Nat → Int} {M : Value} {g : Nat} {W W' : World} (h : Mm w b B sz f M g W) (hb : Below W.heap.size W W') : Mm w b B sz f M g W' := ⟨h.below.trans (hb.mono h.below.size), h.mem.below hb, h.ref.below hb⟩
theorem ssizeRMz : (Tryz.prog.info? 34).map (·.size) = some zRM.size := by kernel_rfl
def dBs (d : Dsc) : List Value := (List.range 16).map fun j => .int .u8 (dB d j)
theorem dBs_length (d : Dsc) : (dBs d).length = 16 := by simp [dBs]
theorem dBs_get (d : Dsc) (j : Nat) (h : j < 16) : (dBs d)[j]? = some (.int .u8 (dB d j)) := by simp [dBs, h]
theorem dBs_one (d : Dsc) : ∀ v ∈ dBs d, v.oneCell' = true := by
 intro v hv
 simp only [dBs, List.mem_map] at hv
 obtain ⟨j, -, rfl⟩ := hv
 rfl
section
variable (pg : Int) (ao : Option Addr) (n c : Nat) (l : Nat → CelV) (w : World) (hp0 : 0 ≤ pg) (hp1 : pg ≤ 255) (hC : sCAt w ao n l) (hok : ∀ i, i < n → (l i).Ok) (hn : n ≤ maxLen)
include hp0 hp1 hC hok hn
end
end Go.Proofs.YtfmabknhfehdcaaGreat
