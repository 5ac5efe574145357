/- sgl: the law SglBuilds. -/
import Derived.Test.YtcljbmkdflkeeaaBB
namespace Go.Proofs.Ytcljbmkdflkeeaa
set_option linter.unusedVariables false
set_option linter.unusedSimpArgs false
open Go.RowKit

theorem eqlDscL (d : Dsc) (w : World) : (binOp .eql 26 (.agg d.cells) (.agg d.cells)).run Try.prog w = .ok (.bool true) w := by
  unfold Dsc.cells
  simp [go_sem]
theorem refAt_cells {S : Nat → Prop} {w : World} {MC : Array Value} {n : Nat} {f : Nat → Int} {L : List (Nat × Nat)} (h : RefAt S w (.agg MC) n f L) (hn : 0 < n) : ∃ bo nc, MC[0]? = some (.slice (some bo) n nc) ∧ ∀ j, j < n → w.cell? (bo.add j) = some (.int .u8 (f j)) := by
  obtain ⟨ao, c, al, cl, e, -, -, -, -, -, h7, -⟩ := h
  cases e
  obtain ⟨g, o, e, -, hx⟩ := h7.at' hn
  cases e
  exact ⟨_, _, rfl, fun j hj => by rw [Addr.add_mid]; exact hx j hj⟩
theorem fresh2 (w : World) (MD : Array Value) : ArrAt (((w.alloc (.cells zRM 45)).alloc (.cells zDsc.cells 26)).setCells w.heap.size 0 MD.toList) (w.heap.size + 1) zDsc.cells := by
  have h := ArrAt.fresh (w.alloc (.cells zRM 45)) zDsc.cells 26 (by decide)
  rw [World.size_alloc] at h
  exact h.kept (Keeps.store (S := One w.heap.size) (Keeps.refl _ _) (fun _ => rfl) _ _) (fun e => by have e : w.heap.size + 1 = w.heap.size := e; omega)
theorem stored2 {w W : World} {MD X : Array Value} (hm : MD.size = 2) (hx : X.size = 4) (hW : W = (((w.alloc (.cells zRM 45)).alloc (.cells zDsc.cells 26)).setCells w.heap.size 0 MD.toList).setCells (w.heap.size + 1) 0 X.toList) :
    Below w.heap.size w W ∧ ArrAt W w.heap.size MD ∧ ArrAt W (w.heap.size + 1) X := by
  subst hW
  refine ⟨bstore (bstore (((Below.refl _ w).alloc (Nat.le_refl _) _).alloc (by simp) _) _ (Nat.le_refl _) _ _) _ (by omega) _ _, ?_, (fresh2 w MD).store X (by rw [hx]; rfl)⟩
  exact (((ArrAt.fresh w zRM 45 (by decide)).alloc _).store MD (by rw [hm]; rfl)).kept (Keeps.store (S := One (w.heap.size + 1)) (Keeps.refl _ _) (fun _ => rfl) _ _) (fun e => by have e : w.heap.size = w.heap.size + 1 := e; omega)
set_option maxRecDepth 100000 in
set_option maxHeartbeats 8000000 in
theorem buildsLaw (pg : Int) (at0 : Int) (ao : Option Addr) (n c : Nat) (l : Nat → Dsc) (w : World) (hw0 : (Lit.int .u8 pg).wf = true) (hw1 : (Lit.int .u64 at0).wf = true) (hC : DAt w ao n l ∧ (∀ i, i < n → (l i).Ok) ∧ n ≤ maxLen) :
    Calls Try.prog 4 #[.int .u8 pg, .int .u64 at0, .slice ao n c] w fun e w' => e = .returned (.bool true) ∧ Below w.heap.size w w' := by
  obtain ⟨p0, p1⟩ := wf_u8 hw0
  obtain ⟨a0, a1⟩ := wf_u64 hw1
  obtain ⟨at', rfl⟩ : ∃ m : Nat, at0 = m := ⟨at0.toNat, by omega⟩
  obtain ⟨hC1, hok, hn⟩ := hC
  obtain ⟨N, hN⟩ : ∃ N, N = 1 + pg.toNat % 4 := ⟨_, rfl⟩
  obtain ⟨sz, hsz⟩ : ∃ z : Nat, z = N * 4096 := ⟨_, rfl⟩
  have HMD := Lib.hid (show ∀ W, Calls Try.prog 18 #[.int .u8 pg, .slice none 0 0] W (MadePost W 0 sz) from fun W => by rw [hsz]; exact made_any pg none 0 0 (fun _ => ⟨zDsc, 0, 0⟩) W p0 p1 (fun i hi => by omega) (fun i hi => by omega) (by omega) N hN)
  have hnm : n ≤ 9223372036854775807 := by unfold maxLen at hn; omega
  have hgl : ∀ g o, ao = some ⟨g, o, none⟩ → 0 < n → g < w.heap.size := fun g o e h => by
    obtain ⟨g', o', e', hr⟩ := hC1 0 h
    rw [e] at e'
    cases e'
    exact World.block_lt_of_cell? _ _ (hr 0 _ rfl)
  have hmv : ∀ W W' : World, (0 < n → w.heap.size ≤ W.heap.size) → DAt W ao n l → Keeps (fun j => w.heap.size ≤ j) W W' → DAt W' ao n l := fun W W' hs h k i hi => by
    obtain ⟨g, o, e, hr⟩ := h i hi
    have hg := hgl g o e (by omega)
    exact ⟨g, o, e, fun j v hv => k.cell (hr j v hv) (fun e => by have e : w.heap.size ≤ g := e; omega)⟩
  have HMV := Lib.hid hmv
  have HBO := Lib.hid (show n ≤ 300 → ∀ b B MC f, MC.size = 2 → MC.all (·.oneCell') = true → _ from fun h b B MC f h2 h3 => both_build b B sz MC at' n c ao l f hok h (by omega) (by omega) (by omega) h2 h3)
  have HD := Lib.hid hC1
  have hs0 : 0 < sz := by omega
  clear hC1 hok hn hw0 hw1 p0 p1 hN hsz hgl hmv
  go_enter Try.func4, Try.ntmps4
  go_upto_region 2 with (first
    | (go_at_call 18; refine (HMD.out _).mono ?_; rintro e w1 ⟨b, B, g, f, rfl, hb, hB, hg, hgb, hgB, hbl, hm, hr, hby⟩; obtain ⟨MC, hMC⟩ : ∃ A : Array Value, A = #[.slice (some ⟨g, 0, none⟩) sz sz, .slice none 0 0] := ⟨_, rfl⟩; have SMC := Lib.hid (show MC.size = 2 by rw [hMC]; rfl); have OMC := Lib.hid (show MC.all (·.oneCell') = true by rw [hMC]; simp [Value.oneCell']); rw [← hMC] at hr ⊢; have K1 := Lib.hid (show Mm w b B sz f (.agg MC) g w1 from ⟨hbl, hm, hr⟩); have D1 := Lib.hid (HMV.out w w1 (fun _ => Nat.le_refl _) HD.out (Keeps.of_below hbl)); clear hMC hbl hm hr hby)
    | ((with_reducible show wpList _ _ _ (⟨some 8, _, _, _, _, _⟩ :: _) _ _); refine wpList_alloc rfl 45 rfl zeroRM ?_; rw [show (Value.agg zRM).cells = zRM from rfl])
    | ((with_reducible show wpList _ _ _ (⟨none, .store _ (.tmp 8) _, _, _, _, _⟩ :: _) _ _); refine wpList_storeA rfl (b := w1.heap.size) (A := zRM) (A' := MC) (ArrAt.fresh w1 zRM _ (by decide)) 45 (.tmp 8) (.tmp 21) rfl (by simp [Act.eval, Act.put]) (by simp [Act.eval, Act.put]) sizeRMz (by rw [SMC.out]; rfl) OMC.out ?_))
  obtain ⟨W2, hW⟩ : ∃ z, z = (w1.alloc (.cells zRM 45)).setCells w1.heap.size 0 MC.toList := ⟨_, rfl⟩
  obtain ⟨hb2, ha⟩ := stored_at (by decide) (by rw [SMC.out]; rfl) hW
  have K2 := Lib.hid (K1.out.go hb2)
  have hw1s : w.heap.size ≤ w1.heap.size := K1.out.below.size
  have D2 := Lib.hid (HMV.out w1 W2 (fun _ => hw1s) D1.out ((Keeps.of_below hb2)))
  have R8 := Lib.hid ha
  have IMC := Lib.hid (show (Try.prog.info? 45).map (·.size) = some MC.size by rw [SMC.out]; exact sizeRM)
  have hb1 : b < w1.heap.size := K1.out.mem.lt
  have hB1 : B < w1.heap.size := K1.out.mem.lt'
  rw [← hW]
  obtain ⟨g8, hg8⟩ : ∃ z, z = w1.heap.size := ⟨_, rfl⟩
  rw [← hg8] at R8 hb1 hB1 ⊢
  clear hW hb2 ha hg8
  by_cases hn3 : n ≤ 300
  case neg =>
    have q : decide (300 < (n : Int)) = true := decide_eq_true (by omega)
    go_wp2_with (go_at_call 16; refine (works_ok _).mono ?_; rintro e w3 ⟨rfl, hb⟩; have B3 := Lib.hid (K2.out.below.trans (hb.mono K2.out.below.size)); clear hb)
    go_ret
    exact ⟨rfl, B3.out⟩
  case pos =>
    have q : decide (300 < (n : Int)) = false := decide_eq_false (by omega)
    obtain ⟨D', er, f', hB1c, hB2c⟩ := HBO.out hn3 b B MC f SMC.out OMC.out
    have HB1 := Lib.hid hB1c
    have HB2 := Lib.hid hB2c
    obtain ⟨X, hX⟩ : ∃ A : Array Value, A = D'.cells := ⟨_, rfl⟩
    have SX := Lib.hid (show X.size = 4 by rw [hX]; rfl)
    have OX := Lib.hid (show X.all (·.oneCell') = true by rw [hX]; exact Dsc.one _)
    have IX := Lib.hid (show (Try.prog.info? 26).map (·.size) = some X.size by rw [SX.out]; exact sizeD)
    have QX := Lib.hid (show ∀ w, (binOp .eql 26 (.agg X) (.agg X)).run Try.prog w = .ok (.bool true) w by rw [hX]; exact eqlDscL _)
    rw [← hX] at HB1 HB2
    clear hX hB1c hB2c HBO
    have qe := eq_self er
    go_upto_region 5 with (first
      | (go_at_call 19; refine (HB1.out _ K2.out.mem D2.out).mono ?_; rintro e w3 ⟨rfl, hk, L3, hm⟩; have HK3 := Lib.hid hk; have M3 := Lib.hid hm; have R83 := Lib.hid (R8.out.kept hk (fun e => by rcases e with e | e <;> omega)); have D3 := Lib.hid (HMV.out W2 w3 (fun _ => K2.out.below.size) D2.out (hk.mono fun j _ e => by rcases e with rfl | rfl <;> assumption)); have F3 := Lib.hid ((K2.out.ref.kept hk (fun j e => by rcases e with rfl | rfl <;> omega)).more (T := Two b B) (fun j _ e => by rcases e with rfl | rfl <;> omega)); have B3 := Lib.hid (K2.out.below.trans (hk.below (B := w.heap.size) K2.out.below.size (fun j hj e => by rcases e with rfl | rfl <;> omega))); clear hk hm)
      | ((with_reducible show wpList _ _ _ (⟨some 10, _, _, _, _, _⟩ :: _) _ _); refine wpList_alloc rfl 26 rfl zeroD ?_; rw [show (Value.agg zDsc.cells).cells = zDsc.cells from rfl])
      | ((with_reducible show wpList _ _ _ (⟨none, .store _ (.tmp 10) _, _, _, _, _⟩ :: _) _ _); refine wpList_storeA rfl (b := w3.heap.size) (A := zDsc.cells) (A' := X) (ArrAt.fresh w3 zDsc.cells _ (by decide)) 26 (.tmp 10) (.tmp 36) rfl (by simp [Act.eval, Act.put]) (by simp [Act.eval, Act.put]) (sizeDs _) (by rw [SX.out]; rfl) OX.out ?_))
    obtain ⟨W4, hW⟩ : ∃ z, z = (w3.alloc (.cells zDsc.cells 26)).setCells w3.heap.size 0 X.toList := ⟨_, rfl⟩
    obtain ⟨hb4, ha⟩ := stored_at (by decide) (by rw [SX.out]; rfl) hW
    rw [← hW]
    obtain ⟨g10, hg10⟩ : ∃ z, z = w3.heap.size := ⟨_, rfl⟩
    rw [← hg10] at ha ⊢
    have B4 := Lib.hid (B3.out.trans (hb4.mono B3.out.size))
    have M4 := Lib.hid (M3.out.below hb4)
    have F4 := Lib.hid (F3.out.below hb4)
    have R84 := Lib.hid (R83.out.below hb4)
    have R10 := Lib.hid ha
    have D4 := Lib.hid (HMV.out w3 W4 (fun _ => B3.out.size) D3.out (Keeps.of_below hb4))
    have hb4' : b < W4.heap.size := M4.out.lt
    have hB4' : B < W4.heap.size := M4.out.lt'
    clear hW hb4 ha hg10
    go_upto_region 6 with (first
      | ((with_reducible show wpList _ _ _ (⟨some 39, _, _, _, _, _⟩ :: _) _ _); refine wpList_loadA rfl R84.out 45 (.tmp 8) rfl (by first | rfl | simp [Act.eval, Act.put]) Try.underlying45 rfl IMC.out ?_)
      | (go_at_call 20; refine (HB2.out _ F4.out hb4' hB4' D4.out).mono ?_; rintro e w5 ⟨MD, L5, rfl, hb, hr⟩; obtain ⟨MD', hMD, hs2, ho2⟩ := refAt_form hr; cases hMD; have SMD := Lib.hid hs2; have OMD := Lib.hid ho2; have F5 := Lib.hid hr; have B5 := Lib.hid (B4.out.trans (hb.mono B4.out.size)); have M5 := Lib.hid (M4.out.below hb); have R105 := Lib.hid (R10.out.below hb); clear hb hr hs2 ho2)
      | ((with_reducible show wpList _ _ _ (⟨some 12, _, _, _, _, _⟩ :: _) _ _); refine wpList_alloc rfl 45 rfl zeroRM ?_; rw [show (Value.agg zRM).cells = zRM from rfl])
      | ((with_reducible show wpList _ _ _ (⟨some 13, _, _, _, _, _⟩ :: _) _ _); refine wpList_alloc rfl 26 rfl zeroD ?_; rw [show (Value.agg zDsc.cells).cells = zDsc.cells from rfl])
      | ((with_reducible show wpList _ _ _ (⟨none, .store _ (.tmp 12) _, _, _, _, _⟩ :: _) _ _); refine wpList_storeA rfl (b := w5.heap.size) (A := zRM) (A' := MD) ((ArrAt.fresh w5 zRM _ (by decide)).alloc _) 45 (.tmp 12) (.tmp 43) rfl (by simp [Act.eval, Act.put]) (by simp [Act.eval, Act.put]) sizeRMz (by rw [SMD.out]; rfl) OMD.out ?_)
      | ((with_reducible show wpList _ _ _ (⟨none, .store _ (.tmp 13) _, _, _, _, _⟩ :: _) _ _); refine wpList_storeA rfl (b := w5.heap.size + 1) (A := zDsc.cells) (A' := X) (fresh2 w5 MD) 26 (.tmp 13) (.tmp 44) rfl (by simp [Act.eval, Act.put]) (by simp [Act.eval, Act.put]) (sizeDs _) (by rw [SX.out]; rfl) OX.out ?_))
    obtain ⟨W6, hW⟩ : ∃ z, z = (((w5.alloc (.cells zRM 45)).alloc (.cells zDsc.cells 26)).setCells w5.heap.size 0 MD.toList).setCells (w5.heap.size + 1) 0 X.toList := ⟨_, rfl⟩
    obtain ⟨hb6, ha12, ha13⟩ := stored2 SMD.out SX.out hW
    rw [← hW]
    have B6 := Lib.hid (B5.out.trans (hb6.mono B5.out.size))
    have M6 := Lib.hid (M5.out.below hb6)
    have F6 := Lib.hid (F5.out.below hb6)
    have R106 := Lib.hid (R105.out.below hb6)
    have R126 := Lib.hid ha12
    have R136 := Lib.hid ha13
    have HSI := Lib.hid (size_is b B sz f' L3 (sz : Int) W6 M6.out rfl)
    have HRD := Lib.hid (show Calls Try.prog 21 #[.pointer (some ⟨b, 0, none⟩), .int .u64 0, .int .i64 (sz : Nat)] W6 fun e w' => ∃ v, e = .returned (.tuple #[v, .int .i64 0]) ∧ NewBytes W6.heap.size w' v sz (fun i => f' (0 + i)) ∧ Below W6.heap.size W6 w' from read_ok b B sz f' L3 0 sz W6 M6.out (by omega))
    obtain ⟨g12, hg12⟩ : ∃ z, z = w5.heap.size := ⟨_, rfl⟩
    rw [← hg12] at R126 R136 ⊢
    clear hW hb6 ha12 ha13 hg12
    go_upto_region 7 with (first
      | (go_at_call 22; refine HSI.out.mono ?_; rintro e w' ⟨rfl, rfl⟩)
      | (go_at_call 21; refine HRD.out.mono ?_; rintro e W7 ⟨v, rfl, ⟨gr, capr, Fr, rfl, hgr, hrr, hnr, hcr, hxr⟩, hb⟩; have e1 := conv_str W7 ⟨gr, 0, none⟩ sz capr (fun i => f' (0 + i)) (fun j hj => by rw [Addr.add_mid, Nat.zero_add, hrr.cell (by omega), hxr j hj]; show some (Value.int IntKind.u8 (f' (0 + j))) = _; rw [Nat.zero_add]); have R107 := Lib.hid (R106.out.below hb); have R127 := Lib.hid (R126.out.below hb); have R137 := Lib.hid (R136.out.below hb); have F7 := Lib.hid (F6.out.below hb); have B7 := Lib.hid (B6.out.trans (hb.mono B6.out.size)); clear hb hrr hxr hgr))
    obtain ⟨bo, nc, hm0, hbc⟩ := refAt_cells F7.out hs0
    have c12 := R127.out.cell hm0
    have e2 := conv_str W7 bo sz nc f' hbc
    rw [show strOf sz (fun i => f' (0 + i)) = strOf sz f' from strOf_congr fun i _ => by rw [Nat.zero_add]] at e1
    obtain ⟨s, hs⟩ : ∃ s, s = strOf sz f' := ⟨_, rfl⟩
    rw [← hs] at e1 e2
    clear hs hbc hm0
    go_wp2_with (first
      | ((with_reducible show wpList _ _ _ (⟨some 53, _, _, _, _, _⟩ :: _) _ _); refine wpList_loadA rfl R107.out 26 (.tmp 10) rfl (by first | rfl | simp [Act.eval, Act.put]) Try.underlying26 rfl IX.out ?_)
      | ((with_reducible show wpList _ _ _ (⟨some 54, _, _, _, _, _⟩ :: _) _ _); refine wpList_loadA rfl R137.out 26 (.tmp 13) rfl (by first | rfl | simp [Act.eval, Act.put]) Try.underlying26 rfl IX.out ?_)
      | ((with_reducible show wpList _ _ _ (⟨some 55, _, _, _, _, _⟩ :: _) _ _); refine wpList_valG (by rfl) (v := .bool true) (exec_eql 26 (.tmp 53) (.tmp 54) _ rfl _ _ rfl rfl (guardDe _ _ _ _ _) (QX.out _)) ?_)
      | (go_at_call 13; refine (num_any _ _).mono ?_; rintro e w' ⟨rfl, rfl⟩)
      | (go_at_call 16; refine (works_ok _).mono ?_; rintro e w8 ⟨rfl, hb⟩; have B8 := Lib.hid (B7.out.trans (hb.mono B7.out.size)); clear hb))
    go_ret
    exact ⟨by first | rfl | simp, B8.out⟩
end Go.Proofs.Ytcljbmkdflkeeaa
