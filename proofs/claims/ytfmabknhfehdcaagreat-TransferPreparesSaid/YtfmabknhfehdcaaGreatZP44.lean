/- transfer: the law TransferPrepares. -/
import Derived.Test.YtfmabknhfehdcaaGreatZP41
import Derived.Test.YtfmabknhfehdcaaGreatZP43
import Derived.Test.YtfmabknhfehdcaaGreatZP42
namespace Go.Proofs.YtfmabknhfehdcaaGreat
set_option linter.unusedSimpArgs false
set_option linter.unusedVariables false
open Go.RowKit
theorem fresh2g (w9 : World) (T1 T2 : TypeId) (Z1 zD M : Array Value) (hz : 0 < zD.size) : ArrAt (((w9.alloc (.cells Z1 T1)).alloc (.cells zD T2)).setCells w9.heap.size 0 M.toList) (w9.heap.size + 1) zD := by
 have f2 := ArrAt.fresh (w9.alloc (.cells Z1 T1)) zD T2 hz
 simp only [World.size_alloc] at f2
 exact f2.kept (Keeps.store (S := One w9.heap.size) (Keeps.refl _ _) (fun _ => rfl) _ _) (fun e => by have e : w9.heap.size + 1 = w9.heap.size := e; omega)
theorem guardCm (i j : Nat) (X Y : Array Value) (w : World) : (eqGuard .eql 28 (.tmp i) (.tmp j) (.agg X) (.agg Y)).run Tryz.prog w = .ok () w := by kernel_rfl
theorem eqlD (c : Cmd) (D : Array Value) (h : D = zCm ∨ ∃ x y, D = cmD c.cells x y) (w : World) : (binOp .eql 28 (.agg D) (.agg D)).run Tryz.prog w = .ok (.bool true) w := by
 rcases h with rfl | ⟨x, y, rfl⟩
 ·exact Cmv.eqCmd ⟨0, 0, false, 0, 0, 0, 0, 0, 0, 0, 0, 0, 0, 0, 0, 0⟩ w
 ·exact Cmv.eqCmd { c with d0 := x, d1 := y } w
set_option maxRecDepth 100000 in
set_option maxHeartbeats 8000000 in
theorem prepsLaw (pg : Int) (c : Cmd) (la : Option Addr) (nl lc : Nat) (zl : List Int) (da : Option Addr) (np dc : Nat) (zd : List Int) (o N : Int) (w : World) (hpg : (Lit.int .u8 pg).wf = true) (hc : c.Ok) (hl : IsRow .u64 w la nl lc zl) (hd : IsRow .u64 w da np dc zd) (ho : (Lit.int .i64 o).wf = true) (hN : (Lit.int .i64 N).wf = true) :
  Calls Tryz.prog 3 #[.int .u8 pg, c.v, .slice la nl lc, .slice da np dc, .int .i64 o, .int .i64 N] w fun e w' => e = .returned (.bool true) ∧ Below w.heap.size w w' := by
 obtain ⟨p0, p1⟩ := wf_u8 hpg
 obtain ⟨o0, o1⟩ := wf_i64 ho
 obtain ⟨n0, n1⟩ := wf_i64 hN
 obtain ⟨hul, hbl, hcl, hcl2⟩ := uAt_of hl
 obtain ⟨hud, hbd, hcd, hcd2⟩ := uAt_of hd
 have HLB := Lib.hid (show ∀ a, la = some a → nl = 0 ∨ a.block < w.heap.size from fun a e => by
  rcases Nat.eq_zero_or_pos nl with h | h
  ·exact .inl h
  ·obtain ⟨g, q, e', hc⟩ := hul h
   rw [e] at e'
   cases e'
   exact .inr (World.block_lt_of_cell? _ _ (hc 0 h)))
 obtain ⟨l, hll⟩ : ∃ q : Nat → Int, q = fun i => zl.getD i 0 := ⟨_, rfl⟩
 obtain ⟨p, hpp⟩ : ∃ q : Nat → Int, q = fun i => zd.getD i 0 := ⟨_, rfl⟩
 rw [← hll] at hul hbl
 rw [← hpp] at hud hbd
 obtain ⟨K, hK⟩ : ∃ N, N = 1 + pg.toNat % 8 := ⟨_, rfl⟩
 obtain ⟨sz, hsz⟩ : ∃ z : Nat, z = K * 4096 := ⟨_, rfl⟩
 have HMD := Lib.hid (show ∀ W, Calls Tryz.prog 4 #[.int .u8 pg, .slice none 0 0] W (MadePost W 0 sz) from fun W => by rw [hsz]; exact made_nil pg W p0 p1 K hK)
 have hs0 : 0 < sz := by omega
 have hsz4 : sz ≤ 32768 := by omega
 have HCM := Lib.hid (c.cm hc)
 have HBO := Lib.hid (show nl ≤ 6 → np ≤ 260 → ∀ b B MC f, MC.size = 2 → MC.all (·.oneCell') = true → _ from fun h h' b B MC f h2 h3 => both_prep (c.cm hc) b B sz MC nl np l p o N f h2 h3 hbl hbd (by omega) (by omega) o0 o1 n0 n1 hs0 (by omega))
 have HEQ := Lib.hid (eqlD c)
 unfold Cmd.v
 obtain ⟨C, hC⟩ : ∃ C, C = c.cells := ⟨_, rfl⟩
 rw [← hC] at HCM HBO HEQ ⊢
 have HCZ := Lib.hid (show (Tryz.prog.info? 28).map (·.size) = some C.size by rw [HCM.out.z]; exact sizeCm)
 have HUL := Lib.hid hul
 have HUD := Lib.hid hud
 have hnl9 : nl ≤ 9223372036854775807 := by omega
 have hnp9 : np ≤ 9223372036854775807 := by omega
 clear hl hd hul hud hbl hbd hll hpp hK hsz hpg ho hN hC hc
 go_enter Tryz.func3, Tryz.ntmps3
 go_upto_region 1 with fail
 obtain ⟨cb, hcb⟩ : ∃ cb, cb = w.heap.size := ⟨_, rfl⟩
 obtain ⟨W0, hW0⟩ : ∃ W0, W0 = w.alloc (.cells C 28) := ⟨_, rfl⟩
 rw [← hW0, ← hcb]
 have AC := Lib.hid (show ArrAt W0 cb C by rw [hW0, hcb]; exact ArrAt.fresh w C _ (by rw [HCM.out.z]; decide))
 have HB0 := Lib.hid (show Below w.heap.size w W0 by rw [hW0]; exact (Below.refl _ _).alloc (Nat.le_refl _) _)
 have HCB := Lib.hid (show cb = w.heap.size ∧ cb < W0.heap.size from ⟨hcb, AC.out.lt⟩)
 clear hW0 hcb
 go_upto_region 2 with (first
  | (go_at_call 4; refine (HMD.out _).mono ?_; rintro e w1 ⟨b, B, g, f, rfl, hb, hB, hg, hgb, hgB, hbl, hm, hr, hby⟩; obtain ⟨MC, hMC⟩ : ∃ A : Array Value, A = #[.slice (some ⟨g, 0, none⟩) sz sz, .slice none 0 0] := ⟨_, rfl⟩; have SMC := Lib.hid (show MC.size = 2 by rw [hMC]; rfl); have OMC := Lib.hid (show MC.all (·.oneCell') = true by rw [hMC]; simp [Value.oneCell']); rw [← hMC] at hr ⊢; have B1 := Lib.hid (HB0.out.trans (hbl.mono HB0.out.size)); have HBB := Lib.hid (And.intro hb hB); have AC1 := Lib.hid (AC.out.below hbl); have M1 := Lib.hid hm; have F1 := Lib.hid (hr.more (T := Two b B) (fun j _ e => by rcases e with rfl | rfl <;> omega)); clear hMC hbl hm hr hby)
  | ((with_reducible show wpList _ _ _ (⟨some 14, _, _, _, _, _⟩ :: _) _ _); refine wpList_alloc rfl 34 rfl zeroRM ?_; rw [show (Value.agg zRM).cells = zRM from rfl])
  | ((with_reducible show wpList _ _ _ (⟨none, .store _ (.tmp 14) _, _, _, _, _⟩ :: _) _ _); refine wpList_storeA rfl (b := w1.heap.size) (A := zRM) (A' := MC) (ArrAt.fresh w1 zRM _ (by decide)) 34 (.tmp 14) (.tmp 25) rfl (by simp [Act.eval, Act.put]) (by simp [Act.eval, Act.put]) sizeRMz (by rw [SMC.out]; rfl) OMC.out ?_))
 obtain ⟨W2, hW⟩ : ∃ z, z = (w1.alloc (.cells zRM 34)).setCells w1.heap.size 0 MC.toList := ⟨_, rfl⟩
 obtain ⟨hb2, ha⟩ := stored_at (by decide) (by rw [SMC.out]; rfl) hW
 have B2 := Lib.hid (B1.out.trans (hb2.mono B1.out.size))
 have M2 := Lib.hid (M1.out.below hb2)
 have F2 := Lib.hid (F1.out.below hb2)
 have R14 := Lib.hid ha
 have AC2 := Lib.hid (AC1.out.below hb2)
 have IMC := Lib.hid (show (Tryz.prog.info? 34).map (·.size) = some MC.size by rw [SMC.out]; exact sizeRM)
 rw [← hW]
 obtain ⟨g14, hg14⟩ : ∃ z, z = w1.heap.size := ⟨_, rfl⟩
 have hb1 : b < g14 := by rw [hg14]; exact M1.out.lt
 have hB1 : B < g14 := by rw [hg14]; exact M1.out.lt'
 rw [← hg14] at R14 ⊢
 have hbw : W0.heap.size ≤ b := hb
 have hBw : W0.heap.size ≤ B := hB
 have hcbl := HCB.out.2
 have hcbw := HCB.out.1
 have HCW := Lib.hid hcbw
 clear hW hb2 ha hg14 B1 M1 F1 AC1 AC HMD hcbw
 by_cases hn6 : nl ≤ 6
 case neg =>
  have q : decide (6 < (nl : Int)) = true := decide_eq_true (by omega)
  have q' : decide (6 < nl) = true := decide_eq_true (by omega)
  go_wp2_with (go_at_call 5; refine (works_a _).mono ?_; rintro e w3 ⟨rfl, hb⟩; have B3 := Lib.hid (B2.out.trans (hb.mono B2.out.size)); clear hb)
  go_ret
  exact ⟨rfl, B3.out⟩
 case pos =>
  have q : decide (6 < (nl : Int)) = false := decide_eq_false (by omega)
  have q' : decide (6 < nl) = false := decide_eq_false (by omega)
  by_cases hn260 : np ≤ 260
  case neg =>
   have q2 : decide (260 < (np : Int)) = true := decide_eq_true (by omega)
   have q2' : decide (260 < np) = true := decide_eq_true (by omega)
   go_wp2_with (go_at_call 5; refine (works_a _).mono ?_; rintro e w3 ⟨rfl, hb⟩; have B3 := Lib.hid (B2.out.trans (hb.mono B2.out.size)); clear hb)
   go_ret
   exact ⟨rfl, B3.out⟩
  case pos =>
   have q2 : decide (260 < (np : Int)) = false := decide_eq_false (by omega)
   have q2' : decide (260 < np) = false := decide_eq_false (by omega)
   obtain ⟨D, er, F, hDD, hD16, hD1, hB1c, hB2c⟩ := HBO.out hn6 hn260 b B MC f SMC.out OMC.out
   have HB1 := Lib.hid hB1c
   have HB2 := Lib.hid hB2c
   have SD := Lib.hid hD16
   have OD := Lib.hid hD1
   have HED := Lib.hid (HEQ.out D hDD)
   have ID := Lib.hid (show (Tryz.prog.info? 28).map (·.size) = some D.size by rw [hD16]; exact sizeCm)
   clear hB1c hB2c HBO hDD hD16 hD1 HEQ
   have HPW := Lib.hid (HB1.out W2 la lc da dc _ M2.out (by simp) (HUL.out.below B2.out) (HUD.out.below B2.out) hcd hcd2 (fun h0 a e h => by
    have h1 := HLB.out a e
    have h2 := HCW.out
    rcases h with h | h <;> omega))
   go_upto_region 5 with (first
    | ((with_reducible show wpList _ _ _ (⟨some 42, _, _, _, _, _⟩ :: _) _ _); refine wpList_loadA rfl AC2.out 28 (.tmp 7) rfl (by first | rfl | simp [Act.eval, Act.put]) Tryz.underlying28 rfl HCZ.out ?_)
    | (go_at_call 6; refine HPW.out.mono ?_; rintro e w5 ⟨rfl, hk, hm⟩; have K5 := Lib.hid hk; have M5 := Lib.hid hm; clear hk hm)
    | ((with_reducible show wpList _ _ _ (⟨some 16, _, _, _, _, _⟩ :: _) _ _); refine wpList_alloc rfl 28 rfl zeroCm ?_; rw [show (Value.agg zCm).cells = zCm from rfl])
    | ((with_reducible show wpList _ _ _ (⟨none, .store _ (.tmp 16) _, _, _, _, _⟩ :: _) _ _); refine wpList_storeA rfl (b := w5.heap.size) (A := zCm) (A' := D) (ArrAt.fresh w5 zCm _ (by decide)) 28 (.tmp 16) (.tmp 48) rfl (by simp [Act.eval, Act.put]) (by simp [Act.eval, Act.put]) sizeCm (by rw [SD.out]; rfl) OD.out ?_))
   obtain ⟨W6, hW⟩ : ∃ z, z = (w5.alloc (.cells zCm 28)).setCells w5.heap.size 0 D.toList := ⟨_, rfl⟩
   obtain ⟨hb6, ha6⟩ := stored_at (by decide) (by rw [SD.out]; rfl) hW
   rw [← hW]
   have hb0 := HB0.out.size
   have B5 := Lib.hid (B2.out.trans (K5.out.below (B := w.heap.size) B2.out.size (fun j hj e => by rcases e with rfl | rfl <;> omega)))
   have B6 := Lib.hid (B5.out.trans (hb6.mono B5.out.size))
   have F6 := Lib.hid ((F2.out.kept K5.out (fun j e => e)).below hb6)
   have R146 := Lib.hid ((R14.out.kept K5.out (fun e => by rcases e with e | e <;> omega)).below hb6)
   have AC6 := Lib.hid ((AC2.out.kept K5.out (fun e => by rcases e with e | e <;> omega)).below hb6)
   have R16 := Lib.hid ha6
   have M6 := Lib.hid (show ∃ L, MemAt W6 b B sz F L from by obtain ⟨L, h⟩ := M5.out; exact ⟨L, h.below hb6⟩)
   obtain ⟨g16, hg16⟩ : ∃ z, z = w5.heap.size := ⟨_, rfl⟩
   rw [← hg16] at R16 ⊢
   have HRW := Lib.hid (HB2.out W6 la lc da dc (Two b B) F6.out (fun j e => by obtain ⟨L, h⟩ := M6.out; have := h.lt; have := h.lt'; rcases e with e | e <;> omega) (HUL.out.below B6.out) (HUD.out.below B6.out) hcd hcd2)
   clear hW hb6 ha6 hg16 B5 M5 K5 B2 M2 F2 R14 AC2 HPW
   go_upto_region 6 with (first
    | ((with_reducible show wpList _ _ _ (⟨some 51, _, _, _, _, _⟩ :: _) _ _); refine wpList_loadA rfl R146.out 34 (.tmp 14) rfl (by first | rfl | simp [Act.eval, Act.put]) Tryz.underlying34 rfl IMC.out ?_)
    | ((with_reducible show wpList _ _ _ (⟨some 52, _, _, _, _, _⟩ :: _) _ _); refine wpList_loadA rfl AC6.out 28 (.tmp 7) rfl (by first | rfl | simp [Act.eval, Act.put]) Tryz.underlying28 rfl HCZ.out ?_)
    | (go_at_call 7; refine HRW.out.mono ?_; rintro e w7 ⟨MD, L7, rfl, hb, hr⟩; have hr0 := hr; obtain ⟨MD', hMD, hs2, ho2⟩ := refAt_form hr0; cases hMD; have SMD := Lib.hid hs2; have OMD := Lib.hid ho2; have F7 := Lib.hid hr; have HB7 := Lib.hid hb; clear hb hr hr0 hs2 ho2)
    | ((with_reducible show wpList _ _ _ (⟨some 18, _, _, _, _, _⟩ :: _) _ _); refine wpList_alloc rfl 34 rfl zeroRM ?_; rw [show (Value.agg zRM).cells = zRM from rfl])
    | ((with_reducible show wpList _ _ _ (⟨some 19, _, _, _, _, _⟩ :: _) _ _); refine wpList_alloc rfl 28 rfl zeroCm ?_; rw [show (Value.agg zCm).cells = zCm from rfl])
    | ((with_reducible show wpList _ _ _ (⟨none, .store _ (.tmp 18) _, _, _, _, _⟩ :: _) _ _); refine wpList_storeA rfl (b := w7.heap.size) (A := zRM) (A' := MD) ((ArrAt.fresh w7 zRM _ (by decide)).alloc _) 34 (.tmp 18) (.tmp 58) rfl (by simp [Act.eval, Act.put]) (by simp [Act.eval, Act.put]) sizeRMz (by rw [SMD.out]; rfl) OMD.out ?_)
    | ((with_reducible show wpList _ _ _ (⟨none, .store _ (.tmp 19) _, _, _, _, _⟩ :: _) _ _); refine wpList_storeA rfl (b := w7.heap.size + 1) (A := zCm) (A' := D) (fresh2g w7 _ _ zRM zCm MD (by decide)) 28 (.tmp 19) (.tmp 59) rfl (by simp [Act.eval, Act.put]) (by simp [Act.eval, Act.put]) sizeCm (by rw [SD.out]; rfl) OD.out ?_))
   obtain ⟨W8, hW⟩ : ∃ z, z = (((w7.alloc (.cells zRM 34)).alloc (.cells zCm 28)).setCells w7.heap.size 0 MD.toList).setCells (w7.heap.size + 1) 0 D.toList := ⟨_, rfl⟩
   obtain ⟨hb8, ha18, ha19⟩ := stored2_at (by decide) (by decide) (by rw [SMD.out]; rfl) (by rw [SD.out]; rfl) hW
   rw [← hW]
   have hb68 := HB7.out.trans (hb8.mono HB7.out.size)
   have B8 := Lib.hid (B6.out.trans (hb68.mono B6.out.size))
   have R168 := Lib.hid (R16.out.below hb68)
   have R18 := Lib.hid ha18
   have R19 := Lib.hid ha19
   have F8 := Lib.hid (F7.out.below hb8)
   have IMD := Lib.hid (show (Tryz.prog.info? 34).map (·.size) = some MD.size by rw [SMD.out]; exact sizeRM)
   have HIS := Lib.hid (show Calls Tryz.prog 9 #[.pointer (some ⟨b, 0, none⟩), .agg MD] W8 fun e w' => e = .returned (.bool true) ∧ Below W8.heap.size W8 w' by
    obtain ⟨L, h⟩ := M6.out
    exact is_any b B sz F L L7 (Two b B) (.agg MD) W8 (h.below hb68) hs0 F8.out)
   obtain ⟨g18, hg18⟩ : ∃ z, z = w7.heap.size := ⟨_, rfl⟩
   rw [← hg18] at R18 R19 ⊢
   have qer : (er == er) = true := by simp
   clear hW hb8 ha18 ha19 hg18 hb68 F7 HB7 R146 AC6 F6 HRW B6
   go_wp2_with (first
    | ((with_reducible show wpList _ _ _ (⟨some 61, _, _, _, _, _⟩ :: _) _ _); refine wpList_loadA rfl R168.out 28 (.tmp 16) rfl (by first | rfl | simp [Act.eval, Act.put]) Tryz.underlying28 rfl ID.out ?_)
    | ((with_reducible show wpList _ _ _ (⟨some 62, _, _, _, _, _⟩ :: _) _ _); refine wpList_loadA rfl R19.out 28 (.tmp 19) rfl (by first | rfl | simp [Act.eval, Act.put]) Tryz.underlying28 rfl ID.out ?_)
    | ((with_reducible show wpList _ _ _ (⟨some 63, _, _, _, _, _⟩ :: _) _ _); refine wpList_valG (by rfl) (v := .bool true) (exec_eql 28 (.tmp 61) (.tmp 62) _ rfl _ _ (by first | rfl | simp [Act.eval, Act.put]) (by first | rfl | simp [Act.eval, Act.put]) (guardCm _ _ _ _ _) (HED.out _)) ?_)
    | (go_at_call 8; refine (num16_any _ _).mono ?_; rintro e w' ⟨rfl, rfl⟩)
    | ((with_reducible show wpList _ _ _ (⟨some 72, _, _, _, _, _⟩ :: _) _ _); refine wpList_loadAG (by rfl) R18.out 34 (.tmp 18) rfl (by first | rfl | simp [Act.eval, Act.put]) Tryz.underlying34 rfl IMD.out ?_)
    | (go_at_call 9; refine HIS.out.mono ?_; rintro e w9 ⟨rfl, hb⟩; have B9 := Lib.hid (B8.out.trans (hb.mono B8.out.size)); clear hb)
    | (go_at_call 5; refine (works_a _).mono ?_; rintro e wA ⟨rfl, hb⟩; have BA := Lib.hid (B9.out.trans (hb.mono B9.out.size)); clear hb))
   go_ret
   exact ⟨rfl, BA.out⟩
end Go.Proofs.YtfmabknhfehdcaaGreat
