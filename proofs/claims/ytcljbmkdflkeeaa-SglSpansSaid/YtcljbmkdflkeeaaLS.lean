/- sgl: the law SglSpans. -/
import Derived.Test.YtcljbmkdflkeeaaMW
namespace Go.Proofs.Ytcljbmkdflkeeaa
open Go.RowKit

theorem same_mem (b B b' B' sz : Nat) (f : Nat → Int) (L L' : List (Nat × Nat)) (w : World) (h : MemAt w b B sz f L) (h' : MemAt w b' B' sz f L') :
   Calls Try.prog 34 #[.pointer (some ⟨b, 0, none⟩), .pointer (some ⟨b', 0, none⟩)] w fun e w' => e = .returned (.bool true) ∧ Below w.heap.size w w' :=
  (same_ok_ok b B sz b' B' sz f f L L' w h h').mono fun _ _ k => ⟨by rw [k.1]; simp, k.2⟩
theorem CAt.below {w w' : World} {ao : Option Addr} {n : Nat} {l : Nat → CelV} (h : CAt w ao n l) (hb : Below w.heap.size w w') : CAt w' ao n l := fun i hi => by
  obtain ⟨g, o, e, hc⟩ := h i hi
  have hg : g < w.heap.size := World.block_lt_of_cell? _ _ hc.a
  exact ⟨g, o, e, rangeAt_below hc.d hb hg, (hb.cell (p := ⟨g, o + i * 6 + 4, none⟩) hg).trans hc.a, (hb.cell (p := ⟨g, o + i * 6 + 5, none⟩) hg).trans hc.s⟩
theorem eq_self (z : Int) : (z == z) = true := by simp
/-- Two memories and the specification beside them. -/
structure Mm (w : World) (b B : Nat) (sz : Nat) (f : Nat → Int) (M : Value) (g : Nat) (W : World) : Prop where
  below : Below w.heap.size w W
  mem : MemAt W b B sz f [(0, sz)]
  ref : RefAt (fun j => j ≠ g) W M sz f []
theorem Mm.go {w : World} {b B sz : Nat} {f : Nat → Int} {M : Value} {g : Nat} {W W' : World} (h : Mm w b B sz f M g W) (hb : Below W.heap.size W W') : Mm w b B sz f M g W' := ⟨h.below.trans (hb.mono h.below.size), h.mem.below hb, h.ref.below hb⟩

set_option maxRecDepth 100000 in
set_option maxHeartbeats 8000000 in
theorem spansLaw (pg : Int) (ao : Option Addr) (n c : Nat) (l : Nat → CelV) (d : Dsc) (m : Int) (th : Bool) (w : World) (hw0 : (Lit.int .u8 pg).wf = true) (hC : CAt w ao n l ∧ (∀ i, i < n → (l i).Ok) ∧ n ≤ maxLen) (hd : d.Ok) (hm : (Lit.int .i64 m).wf = true) :
    Calls Try.prog 9 #[.int .u8 pg, .slice ao n c, .agg d.cells, .int .i64 m, .bool th] w fun e w' => e = .returned (.bool true) ∧ Below w.heap.size w w' := by
  obtain ⟨p0, p1⟩ := wf_u8 hw0
  obtain ⟨hC1, hok, hn⟩ := hC
  obtain ⟨N, hN⟩ : ∃ N, N = 1 + pg.toNat % 4 := ⟨_, rfl⟩
  obtain ⟨sz, hsz⟩ : ∃ z : Nat, z = N * 4096 := ⟨_, rfl⟩
  have HMD := Lib.hid (show ∀ W, CAt W ao n l → Calls Try.prog 18 #[.int .u8 pg, .slice ao n c] W (MadePost W n sz) from fun W hc => by rw [hsz]; exact made_any pg ao n c l W p0 p1 hc hok hn N hN)
  have HSP := Lib.hid (show ∀ b B f L W, MemAt W b B sz f L → Bytes f → Calls Try.prog 32 #[.pointer (some ⟨b, 0, none⟩), .agg d.cells, .int .i64 m, .bool th] W (SpPost W (spansM f sz d m th)) from fun b B f L W hM hb => spans_any d m th b B sz f L W hM (by omega) hd hb)
  have HRS := Lib.hid (show ∀ M S f L W, RefAt S W M sz f L → Bytes f → Calls Try.prog 29 #[M, .agg d.cells, .int .i64 m, .bool th] W (SpPost W (spansM f sz d m th)) from fun M S f L W hM hb => rspans_any d m th M sz f L S W hM (by omega) hd hb)
  obtain ⟨D, hD⟩ : ∃ A : Array Value, A = d.cells := ⟨_, rfl⟩
  have SD := Lib.hid (show D.size = 4 by rw [hD]; rfl)
  have ID := Lib.hid (show (Try.prog.info? 26).map (·.size) = some D.size by rw [SD.out]; exact sizeD)
  have HC := Lib.hid hC1
  obtain ⟨SM, hSM⟩ : ∃ q : (Nat → Int) → Except Int (List Spn), q = fun f => spansM f sz d m th := ⟨_, rfl⟩
  have hsm : ∀ f, spansM f sz d m th = SM f := fun f => by rw [hSM]
  simp only [hsm] at HSP HRS
  rw [← hD] at HSP HRS ⊢
  clear hC1 hok hd hm hw0 p0 p1 hD hN hsz hSM hsm
  go_enter Try.func9, Try.ntmps9
  go_upto_region 1 with fail
  obtain ⟨W0, hW⟩ : ∃ z, z = w.alloc (.cells D 26) := ⟨_, rfl⟩
  have B0 := Lib.hid (show Below w.heap.size w W0 by rw [hW]; exact (Below.refl _ _).alloc (Nat.le_refl _) _)
  have R7 := Lib.hid (show ArrAt W0 w.heap.size D by rw [hW]; exact ArrAt.fresh w D _ (by rw [SD.out]; omega))
  rw [← hW]
  clear hW
  go_upto_region 2 with (first
    | (go_at_call 18; refine (HMD.out _ (HC.out.below B0.out)).mono ?_; rintro e w1 ⟨b, B, g, f, rfl, hb, hB, hg, hgb, hgB, hbl, hm, hr, hby⟩; obtain ⟨MC, hMC⟩ : ∃ A : Array Value, A = #[.slice (some ⟨g, 0, none⟩) sz sz, .slice none 0 0] := ⟨_, rfl⟩; have SMC := Lib.hid (show MC.size = 2 by rw [hMC]; rfl); have OMC := Lib.hid (show MC.all (·.oneCell') = true by rw [hMC]; simp [Value.oneCell']); rw [← hMC] at hr ⊢; have K1 := Lib.hid (show Mm w b B sz f (.agg MC) g w1 from ⟨B0.out.trans (hbl.mono B0.out.size), hm, hr⟩); have R7' := Lib.hid (R7.out.below hbl); have HBY := Lib.hid hby; clear hMC hbl hm hr hby hb hB hg hgb hgB)
    | ((with_reducible show wpList _ _ _ (⟨some 12, _, _, _, _, _⟩ :: _) _ _); refine wpList_alloc rfl 45 rfl zeroRM ?_; rw [show (Value.agg zRM).cells = zRM from rfl])
    | ((with_reducible show wpList _ _ _ (⟨none, .store _ (.tmp 12) _, _, _, _, _⟩ :: _) _ _); refine wpList_storeA rfl (b := w1.heap.size) (A := zRM) (A' := MC) (ArrAt.fresh w1 zRM _ (by decide)) 45 (.tmp 12) (.tmp 24) rfl (by simp [Act.eval, Act.put]) (by simp [Act.eval, Act.put]) sizeRMz (by rw [SMC.out]; rfl) OMC.out ?_))
  obtain ⟨W2, hW⟩ : ∃ z, z = (w1.alloc (.cells zRM 45)).setCells w1.heap.size 0 MC.toList := ⟨_, rfl⟩
  obtain ⟨hb, ha⟩ := stored_at (by decide) (by rw [SMC.out]; rfl) hW
  have K2 := Lib.hid (K1.out.go hb)
  have R7 := Lib.hid (R7'.out.below hb)
  have R12 := Lib.hid ha
  have IMC := Lib.hid (show (Try.prog.info? 45).map (·.size) = some MC.size by rw [SMC.out]; exact sizeRM)
  rw [← hW]
  clear hW hb ha
  by_cases hn3 : n ≤ 300
  case neg =>
    have q : decide (n ≤ 300) = false := decide_eq_false hn3
    go_wp2_with (go_at_call 16; refine (works_ok _).mono ?_; rintro e w3 ⟨rfl, hb⟩; have B3 := Lib.hid (K2.out.below.trans (hb.mono K2.out.below.size)); clear hb)
    go_ret
    exact ⟨rfl, B3.out⟩
  case pos =>
    have q : decide (n ≤ 300) = true := decide_eq_true hn3
    cases hR : SM f with
    | error no =>
      have qe := eq_self no
      go_wp2_with (first
        | (go_at_call 31; refine (copy_ok b B sz f [(0, sz)] _ K2.out.mem).mono ?_; rintro e w3 ⟨b', B', rfl, hb1, hB1, hb, hm⟩; have K3 := Lib.hid (K2.out.go hb); have M3 := Lib.hid hm; have R73 := Lib.hid (R7.out.below hb); have R123 := Lib.hid (R12.out.below hb); clear hb hm hb1 hB1)
        | ((with_reducible show wpList _ _ _ (⟨some 33, _, _, _, _, _⟩ :: _) _ _); refine wpList_loadA rfl R73.out 26 (.tmp 7) rfl (by first | rfl | simp [Act.eval, Act.put]) Try.underlying26 rfl ID.out ?_)
        | (go_at_call 32; refine (HSP.out b B f _ _ K3.out.mem HBY.out).mono ?_; rw [hR]; rintro e w4 ⟨hb, rfl⟩; have K4 := Lib.hid (K3.out.go hb); have M4 := Lib.hid (M3.out.below hb); have R74 := Lib.hid (R73.out.below hb); have R124 := Lib.hid (R123.out.below hb); clear hb)
        | ((with_reducible show wpList _ _ _ (⟨some 40, _, _, _, _, _⟩ :: _) _ _); refine wpList_loadA rfl R124.out 45 (.tmp 12) rfl (by first | rfl | simp [Act.eval, Act.put]) Try.underlying45 rfl IMC.out ?_)
        | ((with_reducible show wpList _ _ _ (⟨some 41, _, _, _, _, _⟩ :: _) _ _); refine wpList_loadA rfl R74.out 26 (.tmp 7) rfl (by first | rfl | simp [Act.eval, Act.put]) Try.underlying26 rfl ID.out ?_)
        | (go_at_call 29; refine (HRS.out _ _ f _ _ K4.out.ref HBY.out).mono ?_; rw [hR]; rintro e w5 ⟨hb, rfl⟩; have K5 := Lib.hid (K4.out.go hb); have M5 := Lib.hid (M4.out.below hb); clear hb)
        | (go_at_call 33; refine (same_ok none none [] 0 0 _ (SpAt.nil _ _) (SpAt.nil _ _) (by simp)).mono ?_; rintro e w6 ⟨rfl, hb⟩; have K6 := Lib.hid (K5.out.go hb); have M6 := Lib.hid (M5.out.below hb); clear hb)
        | (go_at_call 13; refine (num_any _ _).mono ?_; rintro e w' ⟨rfl, rfl⟩)
        | (go_at_call 34; refine (same_mem b B b' B' sz f _ _ _ K6.out.mem M6.out).mono ?_; rintro e w7 ⟨rfl, hb⟩; have K7 := Lib.hid (K6.out.go hb); clear hb)
        | (go_at_call 16; refine (works_ok _).mono ?_; rintro e w8 ⟨rfl, hb⟩; have K8 := Lib.hid (K7.out.go hb); clear hb))
      go_ret
      exact ⟨by first | rfl | simp, K8.out.below⟩
    | ok l =>
      go_wp2_with (first
        | (go_at_call 31; refine (copy_ok b B sz f [(0, sz)] _ K2.out.mem).mono ?_; rintro e w3 ⟨b', B', rfl, hb1, hB1, hb, hm⟩; have K3 := Lib.hid (K2.out.go hb); have M3 := Lib.hid hm; have R73 := Lib.hid (R7.out.below hb); have R123 := Lib.hid (R12.out.below hb); clear hb hm hb1 hB1)
        | ((with_reducible show wpList _ _ _ (⟨some 33, _, _, _, _, _⟩ :: _) _ _); refine wpList_loadA rfl R73.out 26 (.tmp 7) rfl (by first | rfl | simp [Act.eval, Act.put]) Try.underlying26 rfl ID.out ?_)
        | (go_at_call 32; refine (HSP.out b B f _ _ K3.out.mem HBY.out).mono ?_; rw [hR]; rintro e w4 ⟨hb, v, rfl, hown⟩; obtain ⟨av, cv, rfl, hv1, hv2⟩ := ownsRow_shape hown; have HLL := Lib.hid (show l.length ≤ 9223372036854775807 by unfold maxLen at hv2; omega); clear hv1 hv2; have A4 := Lib.hid (spAt_owns hown); have K4 := Lib.hid (K3.out.go hb); have M4 := Lib.hid (M3.out.below hb); have R74 := Lib.hid (R73.out.below hb); have R124 := Lib.hid (R123.out.below hb); clear hb hown)
        | ((with_reducible show wpList _ _ _ (⟨some 40, _, _, _, _, _⟩ :: _) _ _); refine wpList_loadA rfl R124.out 45 (.tmp 12) rfl (by first | rfl | simp [Act.eval, Act.put]) Try.underlying45 rfl IMC.out ?_)
        | ((with_reducible show wpList _ _ _ (⟨some 41, _, _, _, _, _⟩ :: _) _ _); refine wpList_loadA rfl R74.out 26 (.tmp 7) rfl (by first | rfl | simp [Act.eval, Act.put]) Try.underlying26 rfl ID.out ?_)
        | (go_at_call 29; refine (HRS.out _ _ f _ _ K4.out.ref HBY.out).mono ?_; rw [hR]; rintro e w5 ⟨hb, v, rfl, hown⟩; obtain ⟨au, cu, rfl, -⟩ := ownsRow_shape hown; have A5 := Lib.hid (A4.out.below hb); have U5 := Lib.hid (spAt_owns hown); have K5 := Lib.hid (K4.out.go hb); have M5 := Lib.hid (M4.out.below hb); clear hb hown)
        | (go_at_call 33; refine (same_ok av au l cv cu _ A5.out U5.out HLL.out).mono ?_; rintro e w6 ⟨rfl, hb⟩; have K6 := Lib.hid (K5.out.go hb); have M6 := Lib.hid (M5.out.below hb); clear hb)
        | (go_at_call 13; refine (num_any _ _).mono ?_; rintro e w' ⟨rfl, rfl⟩)
        | (go_at_call 34; refine (same_mem b B b' B' sz f _ _ _ K6.out.mem M6.out).mono ?_; rintro e w7 ⟨rfl, hb⟩; have K7 := Lib.hid (K6.out.go hb); clear hb)
        | (go_at_call 16; refine (works_ok _).mono ?_; rintro e w8 ⟨rfl, hb⟩; have K8 := Lib.hid (K7.out.go hb); clear hb))
      go_ret
      exact ⟨by first | rfl | simp, K8.out.below⟩
end Go.Proofs.Ytcljbmkdflkeeaa
