/- prp: Build and the specification's Build side by side; what the law needs besides. -/
import Derived.Test.YtfploifafpifnaaRD
import Derived.Test.YtfploifafpifnaaLH
import Derived.Laws.AppendOwnNone
namespace Go.Proofs.Ytfploifafpifnaa
set_option linter.unusedVariables false
set_option linter.unusedSimpArgs false
open Go.RowKit

theorem rb_all (MC : Array Value) (la pa : Option Addr) (nl np lc pc : Nat) (l p : Nat → Int) (o N : Int) (sz : Nat) (f : Nat → Int) (L : List (Nat × Nat)) (S : Nat → Prop) (w : World) (hM : RefAt S w (.agg MC) sz f L) (h2 : MC.size = 2) (hOM : MC.all (·.oneCell') = true)
    (hl : UAt w la nl l) (hp : UAt w pa np p) (hul : U64 nl l) (hup : U64 np p) (hnl : nl ≤ 1000000) (hnp : np ≤ 1000000) (ho0 : -9223372036854775808 ≤ o) (ho1 : o ≤ 9223372036854775807) (hN0 : -9223372036854775808 ≤ N) (hN1 : N ≤ 9223372036854775807)
    (hsz : sz ≤ 4194304) (hLL : L.length ≤ 998) (hSS : ∀ j, S j → j < w.heap.size) (hpc : np ≤ pc) (hpc2 : pc ≤ 9223372036854775807) :
    Calls Try.prog 11 #[.agg MC, .slice la nl lc, .slice pa np pc, .int .i64 o, .int .i64 N] w (RBPost MC sz f S np nl p l o N w) := by
  by_cases hg : N < 0 ∨ 1048576 < N ∨ o < 0 ∨ 4092 < o ∨ o % 4 ≠ 0 ∨ (np : Int) ≠ pgs o N
  · exact rb_arg1 MC la pa nl np lc pc l p o N sz f L S w hM h2 hOM hl hp hul hup ho0 ho1 hN0 hN1 hg
  · have h4 : o % 4 = 0 := Classical.byContradiction fun h => hg (.inr (.inr (.inr (.inr (.inl h)))))
    have h5 : (np : Int) = pgs o N := Classical.byContradiction fun h => hg (.inr (.inr (.inr (.inr (.inr h)))))
    exact rb_main MC la pa nl np lc pc l p o N sz f L S w hM h2 hOM hl hp hul hup hnl hnp ho0 ho1 hN0 hN1 (by omega) (by omega) (by omega) (by omega) h4 h5 hsz hLL hSS hpc hpc2
theorem itL_two (D : List Itm) : (itL [] D).length ≤ D.length := by have := itL_len D []; simpa using this
/-- Build of the program, for both_build -/
def B1Post (b B sz : Nat) (r1 r2 er : Int) (F : Nat → Int) (W : World) (e : Ending) (w' : World) : Prop := e = .returned (.tuple #[.int .u64 r1, .int .u64 r2, .int .i64 er]) ∧ Keeps (Two b B) W w' ∧ ∃ L, MemAt w' b B sz F L
def B2Post (S : Nat → Prop) (sz : Nat) (r1 r2 er : Int) (F : Nat → Int) (W : World) (e : Ending) (w' : World) : Prop := ∃ MC' L, e = rbE MC' r1 r2 er ∧ Below W.heap.size W w' ∧ RefAt S w' (.agg MC') sz F L
theorem both_build (b B sz : Nat) (MC : Array Value) (nl np : Nat) (l p : Nat → Int) (o N : Int) (f : Nat → Int) (h2 : MC.size = 2) (hOM : MC.all (·.oneCell') = true) (hul : U64 nl l) (hup : U64 np p) (hnl : nl ≤ 1000) (hnp : np ≤ 1000) (ho0 : -9223372036854775808 ≤ o) (ho1 : o ≤ 9223372036854775807) (hN0 : -9223372036854775808 ≤ N) (hN1 : N ≤ 9223372036854775807) (hs0 : 0 < sz) (hsz : sz ≤ 4194304) :
    ∃ (r1 r2 er : Int) (F : Nat → Int),
      (∀ W la lc pa pc L, MemAt W b B sz f L → L.length < 1000 → UAt W la nl l → UAt W pa np p → np ≤ pc → pc ≤ 9223372036854775807 → (∀ a, la = some a → ¬ Two b B a.block) → Calls Try.prog 10 #[.pointer (some ⟨b, 0, none⟩), .slice la nl lc, .slice pa np pc, .int .i64 o, .int .i64 N] W (B1Post b B sz r1 r2 er F W)) ∧
      (∀ W la lc pa pc S, RefAt S W (.agg MC) sz f [] → (∀ j, S j → j < W.heap.size) → UAt W la nl l → UAt W pa np p → np ≤ pc → pc ≤ 9223372036854775807 → Calls Try.prog 11 #[.agg MC, .slice la nl lc, .slice pa np pc, .int .i64 o, .int .i64 N] W (B2Post S sz r1 r2 er F W)) := by
  have hR := fun W la lc pa pc S (h1 : RefAt S W (.agg MC) sz f []) (h3 : ∀ j, S j → j < W.heap.size) (h4 : UAt W la nl l) (h5 : UAt W pa np p) (h6 : np ≤ pc) (h7 : pc ≤ 9223372036854775807) => rb_all MC la pa nl np lc pc l p o N sz f [] S W h1 h2 hOM h4 h5 hul hup (by omega) (by omega) ho0 ho1 hN0 hN1 hsz (by simp) h3 h6 h7
  by_cases hv : VArg np nl p l o N
  · rcases (by omega : np = 0 ∨ np = 1 ∨ np = 2 ∨ 3 ≤ np) with hk | hk | hk | hk
    · refine ⟨0, 0, 0, f, fun W la lc pa pc L hM hL hl hp hc1 hc2 hlm => (bld_0 la pa nl np lc pc l p o N b B sz f L W hM hs0 hl hp hul hup (by omega) (by omega) ho0 ho1 hN0 hN1 hv hk).mono ?_, fun W la lc pa pc S hM hS hl hp hc1 hc2 => (hR W la lc pa pc S hM hS hl hp hc1 hc2).mono ?_⟩
      · rintro e w' ⟨rfl, hb⟩
        exact ⟨rfl, Keeps.of_below hb, _, hM.below hb⟩
      · rintro e w' ⟨hb, ⟨h, -⟩ | ⟨-, ⟨-, rfl⟩ | ⟨h, -⟩ | ⟨h, -⟩ | ⟨h, -⟩ | ⟨h, -⟩⟩⟩
        · exact absurd hv h
        · exact ⟨MC, [], rfl, hb, hM.below hb⟩
        all_goals omega
    · refine ⟨p 0 + o, 0, 0, f, fun W la lc pa pc L hM hL hl hp hc1 hc2 hlm => (bld_1 la pa nl np lc pc l p o N b B sz f L W hM hs0 hl hp hul hup (by omega) (by omega) ho0 ho1 hN0 hN1 hv hk).mono ?_, fun W la lc pa pc S hM hS hl hp hc1 hc2 => (hR W la lc pa pc S hM hS hl hp hc1 hc2).mono ?_⟩
      · rintro e w' ⟨rfl, hb⟩
        exact ⟨rfl, Keeps.of_below hb, _, hM.below hb⟩
      · rintro e w' ⟨hb, ⟨h, -⟩ | ⟨-, ⟨h, -⟩ | ⟨-, rfl⟩ | ⟨h, -⟩ | ⟨h, -⟩ | ⟨h, -⟩⟩⟩
        · exact absurd hv h
        · omega
        · exact ⟨MC, [], rfl, hb, hM.below hb⟩
        all_goals omega
    · refine ⟨p 0 + o, p 1, 0, f, fun W la lc pa pc L hM hL hl hp hc1 hc2 hlm => (bld_2 la pa nl np lc pc l p o N b B sz f L W hM hs0 hl hp hul hup (by omega) (by omega) ho0 ho1 hN0 hN1 hv hk).mono ?_, fun W la lc pa pc S hM hS hl hp hc1 hc2 => (hR W la lc pa pc S hM hS hl hp hc1 hc2).mono ?_⟩
      · rintro e w' ⟨rfl, hb⟩
        exact ⟨rfl, Keeps.of_below hb, _, hM.below hb⟩
      · rintro e w' ⟨hb, ⟨h, -⟩ | ⟨-, ⟨h, -⟩ | ⟨h, -⟩ | ⟨-, rfl⟩ | ⟨h, -⟩ | ⟨h, -⟩⟩⟩
        · exact absurd hv h
        · omega
        · omega
        · exact ⟨MC, [], rfl, hb, hM.below hb⟩
        all_goals omega
    · by_cases hfl : nl = 0 ∨ (nl : Int) < lstsP (l 0) np
      · refine ⟨0, 0, 7, f, fun W la lc pa pc L hM hL hl hp hc1 hc2 hlm => (bld_full la pa nl np lc pc l p o N b B sz f L W hM hs0 hl hp hul hup (by omega) (by omega) ho0 ho1 hN0 hN1 hv hk hfl).mono ?_, fun W la lc pa pc S hM hS hl hp hc1 hc2 => (hR W la lc pa pc S hM hS hl hp hc1 hc2).mono ?_⟩
        · rintro e w' ⟨rfl, hb⟩
          exact ⟨rfl, Keeps.of_below hb, _, hM.below hb⟩
        · rintro e w' ⟨hb, ⟨h, -⟩ | ⟨-, ⟨h, -⟩ | ⟨h, -⟩ | ⟨h, -⟩ | ⟨-, -, rfl⟩ | ⟨-, h1, h3, -⟩⟩⟩
          · exact absurd hv h
          · omega
          · omega
          · omega
          · exact ⟨MC, [], rfl, hb, hM.below hb⟩
          · omega
      · have hnl0 : 0 < nl := by omega
        cases hX : planP l p np sz 2 0 1 [] with
        | ok D =>
          refine ⟨p 0 + o, l 0, 0, itF f D, fun W la lc pa pc L hM hL hl hp hc1 hc2 hlm => (bld_lists la pa nl np lc pc l p o N b B sz f L W hM hs0 hl hp hul hup (by omega) (by omega) ho0 ho1 hN0 hN1 hv hk hc1 hc2 hnl0 (by omega) hlm _ rfl (by omega) _ hX).mono ?_, fun W la lc pa pc S hM hS hl hp hc1 hc2 => (hR W la lc pa pc S hM hS hl hp hc1 hc2).mono ?_⟩
          · rintro e w' (⟨D', hD', rfl, hk', hm⟩ | ⟨hD', -⟩)
            · cases hD'
              exact ⟨rfl, hk', _, hm⟩
            · cases hD'
          · rintro e w' ⟨hb, ⟨h, -⟩ | ⟨-, ⟨h, -⟩ | ⟨h, -⟩ | ⟨h, -⟩ | ⟨-, h, -⟩ | ⟨-, -, -, ⟨D', MC', L', hD', rfl, hr⟩ | ⟨hD', -⟩⟩⟩⟩
            · exact absurd hv h
            · omega
            · omega
            · omega
            · exact absurd h hfl
            · rw [hX] at hD'
              cases hD'
              exact ⟨MC', L', rfl, hb, hr⟩
            · rw [hX] at hD'
              cases hD'
        | error x =>
          refine ⟨0, 0, 3, f, fun W la lc pa pc L hM hL hl hp hc1 hc2 hlm => (bld_lists la pa nl np lc pc l p o N b B sz f L W hM hs0 hl hp hul hup (by omega) (by omega) ho0 ho1 hN0 hN1 hv hk hc1 hc2 hnl0 (by omega) hlm _ rfl (by omega) _ hX).mono ?_, fun W la lc pa pc S hM hS hl hp hc1 hc2 => (hR W la lc pa pc S hM hS hl hp hc1 hc2).mono ?_⟩
          · rintro e w' (⟨D', hD', -⟩ | ⟨-, rfl, hb⟩)
            · cases hD'
            · exact ⟨rfl, Keeps.of_below hb, _, hM.below hb⟩
          · rintro e w' ⟨hb, ⟨h, -⟩ | ⟨-, ⟨h, -⟩ | ⟨h, -⟩ | ⟨h, -⟩ | ⟨-, h, -⟩ | ⟨-, -, -, ⟨D', MC', L', hD', -⟩ | ⟨-, rfl⟩⟩⟩⟩
            · exact absurd hv h
            · omega
            · omega
            · omega
            · exact absurd h hfl
            · rw [hX] at hD'
              cases hD'
            · exact ⟨MC, [], rfl, hb, hM.below hb⟩
  · refine ⟨0, 0, 2, f, fun W la lc pa pc L hM hL hl hp hc1 hc2 hlm => (bld_arg la pa nl np lc pc l p o N b B sz f L W hM hs0 hl hp hul hup (by omega) (by omega) ho0 ho1 hN0 hN1 hv).mono ?_, fun W la lc pa pc S hM hS hl hp hc1 hc2 => (hR W la lc pa pc S hM hS hl hp hc1 hc2).mono ?_⟩
    · rintro e w' ⟨rfl, hb⟩
      exact ⟨rfl, Keeps.of_below hb, _, hM.below hb⟩
    · rintro e w' ⟨hb, ⟨-, rfl⟩ | ⟨h, -⟩⟩
      · exact ⟨MC, [], rfl, hb, hM.below hb⟩
      · exact absurd h hv
/-- numbers that came in -/
theorem uAt_of {w : World} {ao : Option Addr} {len cap : Nat} {zs : List Int} (h : IsRow .u64 w ao len cap zs) : UAt w ao len (fun i => zs.getD i 0) ∧ U64 len (fun i => zs.getD i 0) ∧ len ≤ cap ∧ cap ≤ 9223372036854775807 := by
  rcases h with ⟨rfl, rfl, rfl, rfl⟩ | ⟨x, rfl, h1, h2, h3, h4, h5⟩
  · exact ⟨fun h => by omega, fun i hi => by omega, by omega, by omega⟩
  · refine ⟨fun h0 => ?_, fun i hi => ?_, h1, by unfold maxLen at h2; omega⟩
    · have e0 := addr_of_cell (h4 0 (by omega))
      rw [Addr.add_zero'] at e0
      refine ⟨x.block, x.off, congrArg some e0, fun i hi => ?_⟩
      have hc := h4 i (by omega)
      rw [e0, Addr.add_mid] at hc
      exact hc
    · have := h5 (zs.getD i 0) (by simp [List.getD_eq_getElem?_getD, show i < zs.length by omega])
      exact wf_u64 this
theorem uAt_none {w : World} {n : Nat} {l : Nat → Int} (h : UAt w none n l) : n = 0 := by
  rcases Nat.eq_zero_or_pos n with e | e
  · exact e
  · obtain ⟨g, q, h, -⟩ := h e
    cases h
theorem owns_empty (w : World) (T : TypeId) (size : Nat) : (w.alloc (.cells #[] T)).ownsRow w.heap.size T size (.slice (some ⟨w.heap.size, 0, none⟩) 0 0) 0 [] :=
  ⟨by simp, .inr ⟨w.heap.size, 0, #[], rfl, Nat.le_refl _, heap_alloc_new w _, Nat.le_refl _, by unfold maxLen; omega, by simp, by simp⟩⟩
/-- append(own, xs...) of numbers that came in, nil or not. -/
theorem wpList_append_u {ops : Array Oper} {rest : List Oper} {op : Oper} {a : Act} {Q : Exit → Act → World → Prop} {w : World} (hgd : op.guard = none) (s x : Operand)
    (ho : op.op = .call { callee := .builtin .append, args := #[s, x], argTypes := #[22, 22] }) (base : Nat) (v : Value) (hs : a.eval s = v) (hown : w.ownsRow base 31 1 v 0 [])
    (la : Option Addr) (m c : Nat) (l : Nat → Int) (hx : a.eval x = .slice la m c) (hc : la = none → c = 0) (hu : UAt w la m l) (hm : m ≤ 1000000) (hbase : base ≤ w.heap.size)
    (h : ∀ v' w', w'.ownsRow base 31 1 v' m (pgL l m) → w.grownBy w' v.ownBlock → wpList Try.prog ops Q rest (a.put op.dst v') w') : wpList Try.prog ops Q (op :: rest) a w := by
  obtain ⟨i0, hi0, hz0, hz1, hz2⟩ := info_parts infoU64
  cases la with
  | none =>
    obtain rfl := uAt_none hu
    obtain rfl := hc rfl
    exact wpList_append_own_none hgd s x _ ho base 31 i0 1 Try.underlying22 hi0 v 0 [] hs hown hx (h v w hown (World.grownBy.refl w _))
  | some ad =>
    refine wpList_append_own w hgd s x _ ho base 31 i0 _ 1 8 Try.underlying22 hi0 hz0 hz1 hz2 rfl (by decide) v 0 [] hs hown ad m c (pgL l m) hx (by simp [pgL]) (fun j u hj => ?_) (fun u hu => ?_) (by unfold maxLen; omega) (by omega) hbase (fun v' w' h1 h2 _ => h v' w' (by rw [Nat.zero_add, List.nil_append] at h1; exact h1) h2)
    · have hj2 : j < m := by have := (List.getElem?_eq_some_iff.1 hj).1; simpa [pgL] using this
      rw [pgL_get l m j hj2] at hj
      cases hj
      obtain ⟨g, q, e, hcc⟩ := hu (by omega)
      cases e
      rw [Addr.add_mid]
      exact hcc j hj2
    · simp only [pgL, List.mem_map] at hu
      obtain ⟨j, -, rfl⟩ := hu
      rfl
end Go.Proofs.Ytfploifafpifnaa
