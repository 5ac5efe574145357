/- prp: the law PrpBuilds. -/
import Derived.Test.YtfploifafpifnaaBJ
namespace Go.Proofs.Ytfploifafpifnaa
set_option linter.unusedVariables false
set_option linter.unusedSimpArgs false
open Go.RowKit

theorem refAt_cells {S : Nat → Prop} {w : World} {MC : Array Value} {n : Nat} {f : Nat → Int} {L : List (Nat × Nat)} (h : RefAt S w (.agg MC) n f L) (hn : 0 < n) : ∃ bo nc, MC[0]? = some (.slice (some bo) n nc) ∧ ∀ j, j < n → w.cell? (bo.add j) = some (.int .u8 (f j)) := by
  obtain ⟨ao, c, al, cl, e, -, -, -, -, -, h7, -⟩ := h
  cases e
  obtain ⟨g, o, e, -, hx⟩ := h7.at' hn
  cases e
  exact ⟨_, _, rfl, fun j hj => by rw [Addr.add_mid]; exact hx j hj⟩
theorem row_nil {k : IntKind} {w : World} {ao : Option Addr} {len cap : Nat} {zs : List Int} (h : IsRow k w ao len cap zs) : ao = none → cap = 0 := fun e => by
  rcases h with ⟨-, -, h, -⟩ | ⟨x, h, -⟩
  · exact h
  · rw [e] at h; cases h
theorem run_bse (w : World) : (Instr.buildSlice 22 0 #[]).run Try.prog w = .ok (.slice (some ⟨w.heap.size, 0, none⟩) 0 0) (w.alloc (.cells #[] 31)) := by kernel_rfl
theorem wpList_bs {P : Program} {ops : Array Oper} {Q : Exit → Act → World → Prop} {a : Act} {w : World} {rest : List Oper} {o : Oper} (hgd : o.guard = none) (t n : Nat) (parts : Array (Nat × Operand)) (ho : o.op = .buildSlice t n parts) (pv : Array (Nat × Value)) (hp : parts.map (fun p => (p.1, a.eval p.2)) = pv)
    {v : Value} {w' : World} (hb : (Instr.buildSlice t n pv).run P w = .ok v w') (h : wpList P ops Q rest (a.put o.dst v) w') : wpList P ops Q (o :: rest) a w :=
  wpList_plain hgd fun K hK => by
    subst hp
    unfold Oper.wp execOp
    simp only [ho]
    simp only [Sem.run_bind, hb, Result.andThen_ok, Sem.run_pure]
    exact hK _ _ h
theorem UAt.kept {S : Nat → Prop} {w w' : World} {ao : Option Addr} {n : Nat} {l : Nat → Int} (h : UAt w ao n l) (k : Keeps S w w') (hS : ∀ g o, ao = some ⟨g, o, none⟩ → ¬ S g) : UAt w' ao n l := fun h0 => by
  obtain ⟨g, o, e, hc⟩ := h h0
  exact ⟨g, o, e, fun i hi => k.cell (hc i hi) (hS g o e)⟩
theorem uAt_lt {w : World} {ao : Option Addr} {n : Nat} {l : Nat → Int} (h : UAt w ao n l) (h0 : 0 < n) : ∀ g o, ao = some ⟨g, o, none⟩ → g < w.heap.size := fun g o e => by
  obtain ⟨g', o', e', hc⟩ := h h0
  rw [e] at e'
  cases e'
  exact World.block_lt_of_cell? _ _ (hc 0 h0)
theorem UAt.kept0 {S : Nat → Prop} {w0 w w' : World} {ao : Option Addr} {n : Nat} {l : Nat → Int} (h : UAt w ao n l) (k : Keeps S w w') (h1 : UAt w0 ao n l) (hS : ∀ j, S j → w0.heap.size ≤ j) : UAt w' ao n l := fun h0 =>
  (h.kept k (fun g o e hs => by have := uAt_lt h1 h0 g o e; have := hS g hs; omega)) h0
/-- An operation whose value is known, under a guard that holds. -/
theorem wpList_valG {P : Program} {ops : Array Oper} {Q : Exit → Act → World → Prop} {a : Act} {w : World} {rest : List Oper} {o : Oper} (hw : Region.wanted o (yielded ops a.tmps) = true) {v : Value} (he : (execOp a.eval o).run P w = .ok (.value v) w) (h : wpList P ops Q rest (a.put o.dst v) w) : wpList P ops Q (o :: rest) a w :=
  wpList_step fun K hK => by
    rw [if_pos hw]
    unfold Oper.wp
    rw [he]
    exact hK _ _ h
set_option maxRecDepth 100000 in
set_option maxHeartbeats 8000000 in
theorem buildsLaw (pg : Int) (la : Option Addr) (nl lc : Nat) (zl : List Int) (da : Option Addr) (np dc : Nat) (zd : List Int) (o N : Int) (w : World) (hw0 : (Lit.int .u8 pg).wf = true) (hl : IsRow .u64 w la nl lc zl) (hd : IsRow .u64 w da np dc zd) (ho : (Lit.int .i64 o).wf = true) (hN : (Lit.int .i64 N).wf = true) :
    Calls Try.prog 3 #[.int .u8 pg, .slice la nl lc, .slice da np dc, .int .i64 o, .int .i64 N] w fun e w' => e = .returned (.bool true) ∧ Below w.heap.size w w' := by
  obtain ⟨p0, p1⟩ := wf_u8 hw0
  obtain ⟨o0, o1⟩ := wf_i64 ho
  obtain ⟨n0, n1⟩ := wf_i64 hN
  obtain ⟨hul, hbl, hcl, hcl2⟩ := uAt_of hl
  obtain ⟨hud, hbd, hcd, hcd2⟩ := uAt_of hd
  have HNL := Lib.hid (row_nil hl)
  have HND := Lib.hid (row_nil hd)
  obtain ⟨l, hll⟩ : ∃ q : Nat → Int, q = fun i => zl.getD i 0 := ⟨_, rfl⟩
  obtain ⟨p, hpp⟩ : ∃ q : Nat → Int, q = fun i => zd.getD i 0 := ⟨_, rfl⟩
  rw [← hll] at hul hbl
  rw [← hpp] at hud hbd
  obtain ⟨K, hK⟩ : ∃ N, N = 1 + pg.toNat % 8 := ⟨_, rfl⟩
  obtain ⟨sz, hsz⟩ : ∃ z : Nat, z = K * 4096 := ⟨_, rfl⟩
  have HMD := Lib.hid (show ∀ W, Calls Try.prog 8 #[.int .u8 pg, .slice none 0 0] W (MadePost W 0 sz) from fun W => by rw [hsz]; exact made_any pg none 0 0 (fun _ => 0) (fun _ => 0) W p0 p1 (fun i hi => by omega) (fun i hi => by omega) (fun i hi => by omega) (by omega) K hK)
  have HBO := Lib.hid (show nl ≤ 6 → np ≤ 260 → ∀ b B MC f, MC.size = 2 → MC.all (·.oneCell') = true → _ from fun h h' b B MC f h2 h3 => both_build b B sz MC nl np l p o N f h2 h3 hbl hbd (by omega) (by omega) o0 o1 n0 n1 (by omega) (by omega))
  have HUL := Lib.hid hul
  have HUD := Lib.hid hud
  have hs0 : 0 < sz := by omega
  have hsz4 : sz ≤ 32768 := by omega
  have hnl9 : nl ≤ 9223372036854775807 := by omega
  have hnp9 : np ≤ 9223372036854775807 := by omega
  clear hl hd hul hud hbl hbd hll hpp hK hsz hw0 ho hN
  go_enter Try.func3, Try.ntmps3
  go_upto_region 2 with (first
    | (go_at_call 8; refine (HMD.out _).mono ?_; rintro e w1 ⟨b, B, g, f, rfl, hb, hB, hg, hgb, hgB, hbl, hm, hr, hby⟩; obtain ⟨MC, hMC⟩ : ∃ A : Array Value, A = #[.slice (some ⟨g, 0, none⟩) sz sz, .slice none 0 0] := ⟨_, rfl⟩; have SMC := Lib.hid (show MC.size = 2 by rw [hMC]; rfl); have OMC := Lib.hid (show MC.all (·.oneCell') = true by rw [hMC]; simp [Value.oneCell']); rw [← hMC] at hr ⊢; have B1 := Lib.hid hbl; have M1 := Lib.hid hm; have F1 := Lib.hid (hr.more (T := Two b B) (fun j _ e => by rcases e with rfl | rfl <;> omega)); clear hMC hbl hm hr hby)
    | ((with_reducible show wpList _ _ _ (⟨some 12, _, _, _, _, _⟩ :: _) _ _); refine wpList_alloc rfl 27 rfl zeroRM ?_; rw [show (Value.agg zRM).cells = zRM from rfl])
    | ((with_reducible show wpList _ _ _ (⟨none, .store _ (.tmp 12) _, _, _, _, _⟩ :: _) _ _); refine wpList_storeA rfl (b := w1.heap.size) (A := zRM) (A' := MC) (ArrAt.fresh w1 zRM _ (by decide)) 27 (.tmp 12) (.tmp 31) rfl (by simp [Act.eval, Act.put]) (by simp [Act.eval, Act.put]) sizeRMz (by rw [SMC.out]; rfl) OMC.out ?_))
  obtain ⟨W2, hW⟩ : ∃ z, z = (w1.alloc (.cells zRM 27)).setCells w1.heap.size 0 MC.toList := ⟨_, rfl⟩
  obtain ⟨hb2, ha⟩ := stored_at (by decide) (by rw [SMC.out]; rfl) hW
  have B2 := Lib.hid (B1.out.trans (hb2.mono B1.out.size))
  have M2 := Lib.hid (M1.out.below hb2)
  have F2 := Lib.hid (F1.out.below hb2)
  have R12 := Lib.hid ha
  have IMC := Lib.hid (show (Try.prog.info? 27).map (·.size) = some MC.size by rw [SMC.out]; exact sizeRM)
  rw [← hW]
  obtain ⟨g12, hg12⟩ : ∃ z, z = w1.heap.size := ⟨_, rfl⟩
  have hb1 : b < g12 := by rw [hg12]; exact M1.out.lt
  have hB1 : B < g12 := by rw [hg12]; exact M1.out.lt'
  rw [← hg12] at R12 ⊢
  have hg12w : g12 < W2.heap.size := R12.out.lt
  clear hW hb2 ha hg12 B1 M1 F1
  by_cases hn6 : nl ≤ 6
  case neg =>
    have q : decide (6 < (nl : Int)) = true := decide_eq_true (by omega)
    go_wp2_with (go_at_call 9; refine (works_ok _).mono ?_; rintro e w3 ⟨rfl, hb⟩; have B3 := Lib.hid (B2.out.trans (hb.mono B2.out.size)); clear hb)
    go_ret
    exact ⟨rfl, B3.out⟩
  case pos =>
    have q : decide (6 < (nl : Int)) = false := decide_eq_false (by omega)
    by_cases hn260 : np ≤ 260
    case neg =>
      have q2 : decide (260 < (np : Int)) = true := decide_eq_true (by omega)
      go_wp2_with (go_at_call 9; refine (works_ok _).mono ?_; rintro e w3 ⟨rfl, hb⟩; have B3 := Lib.hid (B2.out.trans (hb.mono B2.out.size)); clear hb)
      go_ret
      exact ⟨rfl, B3.out⟩
    case pos =>
      have q2 : decide (260 < (np : Int)) = false := decide_eq_false (by omega)
      obtain ⟨r1, r2, er, F, hB1c, hB2c⟩ := HBO.out hn6 hn260 b B MC f SMC.out OMC.out
      have HB1 := Lib.hid hB1c
      have HB2 := Lib.hid hB2c
      clear hB1c hB2c HBO HMD
      have qe := eq_self er
      have qe1 := eq_self r1
      have qe2 := eq_self r2
      obtain ⟨bs, hbs⟩ : ∃ z, z = W2.heap.size := ⟨_, rfl⟩
      have HBS := Lib.hid hbs
      clear hbs
      go_upto_region 4 with fail
      refine wp_region_lit ?_
      refine wpList_bs rfl 22 0 #[] rfl #[] (by simp) (run_bse _) ?_
      refine wpList_valG (by rfl) (v := .slice la nl lc) (by go_simp) ?_
      refine wpList_append_u rfl (.tmp 46) (.tmp 47) rfl bs (.slice (some ⟨W2.heap.size, 0, none⟩) 0 0) (by first | rfl | simp [Act.eval, Act.put]) (by rw [HBS.out]; exact owns_empty W2 _ _) la nl lc l (by first | rfl | simp [Act.eval, Act.put]) HNL.out ((HUL.out.below B2.out).below ((Below.refl _ _).alloc (Nat.le_refl _) _)) (by omega) (by rw [HBS.out]; simp) ?_
      intro vx w3 hox hgx
      have OX := Lib.hid hox
      have KX := Lib.hid (show Below bs W2 w3 by rw [HBS.out]; exact ((Below.refl _ _).alloc (Nat.le_refl _) _).trans ((grown_keeps (Below.refl _ (W2.alloc (.cells #[] 31))) (owns_empty W2 31 1) (by simp) hgx).below (B := W2.heap.size) (by simp) (fun j hj e => by have e : W2.heap.size ≤ j := e; omega)))
      clear hox hgx
      refine wpList_bs rfl 22 0 #[] rfl #[] (by simp) (run_bse _) ?_
      refine wpList_valG (by rfl) (v := .slice da np dc) (by go_simp) ?_
      refine wpList_append_u rfl (.tmp 49) (.tmp 50) rfl w3.heap.size (.slice (some ⟨w3.heap.size, 0, none⟩) 0 0) (by first | rfl | simp [Act.eval, Act.put]) (owns_empty w3 _ _) da np dc p (by first | rfl | simp [Act.eval, Act.put]) HND.out ((HUD.out.below (B2.out.trans (KX.out.mono (by rw [HBS.out]; exact B2.out.size)))).below ((Below.refl _ _).alloc (Nat.le_refl _) _)) (by omega) (by simp) ?_
      intro vy w4 hoy hgy
      have OY := Lib.hid hoy
      have KY := Lib.hid (show Below w3.heap.size w3 w4 from ((Below.refl _ _).alloc (Nat.le_refl _) _).trans ((grown_keeps (Below.refl _ (w3.alloc (.cells #[] 31))) (owns_empty w3 31 1) (by simp) hgy).below (B := w3.heap.size) (by simp) (fun j hj e => by have e : w3.heap.size ≤ j := e; omega)))
      clear hoy hgy
      go_upto_region 5 with fail
      obtain ⟨xa, xc, rfl, hxc1, hxc2, hux, -⟩ := uAt_pgL OX.out
      obtain ⟨ya, yc, rfl, hyc1, hyc2, huy, -⟩ := uAt_pgL OY.out
      have hxlm : ∀ a, xa = some a → bs ≤ a.block := fun a e => by
        rcases OX.out.2 with ⟨h, -⟩ | ⟨g, cap, cur, h, hb, -⟩
        · cases h; cases e
        · cases h; cases e; exact hb
      have hylm : ∀ a, ya = some a → w3.heap.size ≤ a.block := fun a e => by
        rcases OY.out.2 with ⟨h, -⟩ | ⟨g, cap, cur, h, hb, -⟩
        · cases h; cases e
        · cases h; cases e; exact hb
      have hbs3 : bs ≤ w3.heap.size := by have := KX.out.size; have := HBS.out; omega
      have B24 := Lib.hid (show Below W2.heap.size W2 w4 from (show Below W2.heap.size W2 w3 by rw [← HBS.out]; exact KX.out).trans (KY.out.mono (by rw [← HBS.out]; exact hbs3)))
      have B4 := Lib.hid (B2.out.trans (B24.out.mono B2.out.size))
      have M4 := Lib.hid (M2.out.below B24.out)
      have F4 := Lib.hid (F2.out.below B24.out)
      have R124 := Lib.hid (R12.out.below B24.out)
      have UX4 := Lib.hid (hux.below KY.out)
      have UY4 := Lib.hid huy
      have UL4 := Lib.hid (HUL.out.below B4.out)
      have UD4 := Lib.hid (HUD.out.below B4.out)
      have hbb : b < bs := by have := HBS.out; omega
      have hBB : B < bs := by have := HBS.out; omega
      have HXL := Lib.hid hxlm
      have HYL := Lib.hid hylm
      clear hux huy hxlm hylm OX OY
      go_upto_region 6 with (go_at_call 10; refine (HB1.out w4 xa xc ya yc _ M4.out (by simp) UX4.out UY4.out hyc1 hyc2 (fun a e h => by have := HXL.out a e; rcases h with h | h <;> omega)).mono ?_; rintro e w5 ⟨rfl, hk, L3, hm⟩; have K5 := Lib.hid hk; have M5 := Lib.hid hm; clear hk hm)
      have B5 := Lib.hid (B4.out.trans (K5.out.below (B := w.heap.size) B4.out.size (fun j hj e => by rcases e with rfl | rfl <;> omega)))
      have F5 := Lib.hid (F4.out.kept K5.out (fun j e => e))
      have R125 := Lib.hid (R124.out.kept K5.out (fun e => by rcases e with e | e <;> omega))
      have UX5 := Lib.hid (UX4.out.kept K5.out (fun g o e h => by have := HXL.out _ e; have this : bs ≤ g := this; rcases h with h | h <;> omega))
      have UY5 := Lib.hid (UY4.out.kept K5.out (fun g o e h => by have := HYL.out _ e; have this : w3.heap.size ≤ g := this; rcases h with h | h <;> omega))
      have UL5 := Lib.hid (UL4.out.kept0 K5.out HUL.out (fun j h => by rcases h with rfl | rfl <;> assumption))
      have UD5 := Lib.hid (UD4.out.kept0 K5.out HUD.out (fun j h => by rcases h with rfl | rfl <;> assumption))
      have HSL := Lib.hid (show ∀ j, Two b B j → j < w5.heap.size from M5.out.lts)
      clear UX4 UY4 UL4 UD4 F4 R124 M4 B24 KX KY HXL HYL
      go_upto_region 7 with (first
        | ((with_reducible show wpList _ _ _ (⟨some 63, _, _, _, _, _⟩ :: _) _ _); refine wpList_loadA rfl R125.out 27 (.tmp 12) rfl (by first | rfl | simp [Act.eval, Act.put]) Try.underlying27 rfl IMC.out ?_)
        | (go_at_call 11; refine (HB2.out w5 la lc da dc (Two b B) F5.out HSL.out UL5.out UD5.out hcd hcd2).mono ?_; rintro e w6 ⟨MD, L5, rfl, hb, hr⟩; unfold rbE; obtain ⟨MD', hMD, hs2, ho2⟩ := refAt_form hr; cases hMD; have SMD := Lib.hid hs2; have OMD := Lib.hid ho2; have F6 := Lib.hid hr; have HB6 := Lib.hid hb; clear hb hr hs2 ho2)
        | ((with_reducible show wpList _ _ _ (⟨some 19, _, _, _, _, _⟩ :: _) _ _); refine wpList_alloc rfl 27 rfl zeroRM ?_; rw [show (Value.agg zRM).cells = zRM from rfl])
        | ((with_reducible show wpList _ _ _ (⟨none, .store _ (.tmp 19) _, _, _, _, _⟩ :: _) _ _); refine wpList_storeA rfl (b := w6.heap.size) (A := zRM) (A' := MD) (ArrAt.fresh w6 zRM _ (by decide)) 27 (.tmp 19) (.tmp 69) rfl (by simp [Act.eval, Act.put]) (by simp [Act.eval, Act.put]) sizeRMz (by rw [SMD.out]; rfl) OMD.out ?_))
      obtain ⟨W7, hW⟩ : ∃ z, z = (w6.alloc (.cells zRM 27)).setCells w6.heap.size 0 MD.toList := ⟨_, rfl⟩
      obtain ⟨hb7, ha7⟩ := stored_at (by decide) (by rw [SMD.out]; rfl) hW
      rw [← hW]
      have hb57 := HB6.out.trans (hb7.mono HB6.out.size)
      obtain ⟨g19, hg19⟩ : ∃ z, z = w6.heap.size := ⟨_, rfl⟩
      rw [← hg19] at ha7 ⊢
      have B7 := Lib.hid (B5.out.trans (hb57.mono B5.out.size))
      have M7 := Lib.hid (M5.out.below hb57)
      have F7 := Lib.hid (F6.out.below hb7)
      have R197 := Lib.hid ha7
      have UX7 := Lib.hid (UX5.out.below hb57)
      have UY7 := Lib.hid (UY5.out.below hb57)
      have UL7 := Lib.hid (UL5.out.below hb57)
      have UD7 := Lib.hid (UD5.out.below hb57)
      clear hW hb57 hb7 ha7 hg19 UX5 UY5 UL5 UD5 F5 F6 M5 B5 K5 HB6 R125 HB1 HB2 HSL
      go_upto_region 8 with fail
      go_loopw [23] (fun v23 wr => ∃ i : Nat, i ≤ nl ∧ v23 = .int .i64 (i : Nat) ∧ Below W7.heap.size W7 wr) (fun v23 _ => nl - (intOf v23).toNat)
      case atStart => exact ⟨0, by omega, rfl, Below.refl _ _⟩
      case round =>
        obtain ⟨i, hi, rfl, hbr⟩ := hrel
        have BR := Lib.hid hbr
        clear hbr
        by_cases hin : i < nl
        · have q3 : decide ((i : Int) < (nl : Int)) = true := decide_eq_true (by omega)
          obtain ⟨gx, ox, rfl, hcx⟩ := UX7.out (by omega)
          obtain ⟨gl, ol, rfl, hcl'⟩ := UL7.out (by omega)
          have c1 := cellx BR.out (hcx i hin)
          have c2 := cellx BR.out (hcl' i hin)
          obtain ⟨v, hv⟩ : ∃ z, z = l i := ⟨_, rfl⟩
          rw [← hv] at c1 c2
          have hi0 : (0 : Int) ≤ (i : Int) := by omega
          have hi1 : (i : Int) < (nl : Int) := by omega
          have qv : (v != v) = false := by simp
          clear hcx hcl' hv
          go_upto_region 10 with fail
          go_region
          all_goals
            go_wp2_with fail
            go_roundw
            case rel => exact ⟨i + 1, by omega, by go_num, BR.out.drew⟩
            case measure => simp [intOf]; omega
        · obtain rfl : nl = i := by omega
          have q3 : decide ((nl : Int) < (nl : Int)) = false := decide_eq_false (by omega)
          go_upto_region 13 with fail
          obtain ⟨wo, hwo⟩ : ∃ z, z = wr := ⟨_, rfl⟩
          subst hwo
          go_loopw [24] (fun v24 wr => ∃ i : Nat, i ≤ np ∧ v24 = .int .i64 (i : Nat) ∧ Below W7.heap.size W7 wr) (fun v24 _ => np - (intOf v24).toNat)
          case atStart => exact ⟨0, by omega, rfl, BR.out⟩
          case round =>
            obtain ⟨i, hi, rfl, hbr⟩ := hrel
            have BR2 := Lib.hid hbr
            clear hbr
            by_cases hin : i < np
            · have q4 : decide ((i : Int) < (np : Int)) = true := decide_eq_true (by omega)
              obtain ⟨gx, ox, rfl, hcx⟩ := UY7.out (by omega)
              obtain ⟨gl, ol, rfl, hcl'⟩ := UD7.out (by omega)
              have c1 := cellx BR2.out (hcx i hin)
              have c2 := cellx BR2.out (hcl' i hin)
              obtain ⟨v, hv⟩ : ∃ z, z = p i := ⟨_, rfl⟩
              rw [← hv] at c1 c2
              have hi0 : (0 : Int) ≤ (i : Int) := by omega
              have hi1 : (i : Int) < (np : Int) := by omega
              have qv : (v != v) = false := by simp
              clear hcx hcl' hv
              go_upto_region 15 with fail
              go_region
              all_goals
                go_wp2_with fail
                go_roundw
                case rel => exact ⟨i + 1, by omega, by go_num, BR2.out.drew⟩
                case measure => simp [intOf]; omega
            · obtain rfl : np = i := by omega
              have q4 : decide ((np : Int) < (np : Int)) = false := decide_eq_false (by omega)
              have M8 := Lib.hid (M7.out.below BR2.out)
              have F8 := Lib.hid (F7.out.below BR2.out)
              have R198 := Lib.hid (R197.out.below BR2.out)
              have B8 := Lib.hid (B7.out.trans (BR2.out.mono B7.out.size))
              have HSI := Lib.hid (size_is b B sz F L3 (sz : Int) wr M8.out rfl)
              have HRD := Lib.hid (show Calls Try.prog 12 #[.pointer (some ⟨b, 0, none⟩), .int .u64 0, .int .i64 (sz : Nat)] wr fun e w' => ∃ v, e = .returned (.tuple #[v, .int .i64 0]) ∧ NewBytes wr.heap.size w' v sz (fun i => F (0 + i)) ∧ Below wr.heap.size wr w' from read_ok b B sz F L3 0 sz wr M8.out (by omega))
              go_upto_region 18 with (first
                | (go_at_call 13; refine HSI.out.mono ?_; rintro e w' ⟨rfl, rfl⟩)
                | (go_at_call 12; refine HRD.out.mono ?_; rintro e W9 ⟨v, rfl, ⟨gr, capr, Fr, rfl, hgr, hrr, hnr, hcr, hxr⟩, hb⟩; have e1 := conv_str W9 ⟨gr, 0, none⟩ sz capr (fun i => F (0 + i)) (fun j hj => by rw [Addr.add_mid, Nat.zero_add, hrr.cell (by omega), hxr j hj]; show some (Value.int IntKind.u8 (F (0 + j))) = _; rw [Nat.zero_add]); have R199 := Lib.hid (R198.out.below hb); have F9 := Lib.hid (F8.out.below hb); have B9 := Lib.hid (B8.out.trans (hb.mono B8.out.size)); clear hb hrr hxr hgr))
              obtain ⟨bo, nc, hm0, hbc⟩ := refAt_cells F9.out hs0
              have c19 := R199.out.cell hm0
              have e2 := conv_str W9 bo sz nc F hbc
              rw [show strOf sz (fun i => F (0 + i)) = strOf sz F from strOf_congr fun i _ => by rw [Nat.zero_add]] at e1
              obtain ⟨s, hs⟩ : ∃ s, s = strOf sz F := ⟨_, rfl⟩
              rw [← hs] at e1 e2
              clear hs hbc hm0
              go_wp2_with (first
                | (go_at_call 14; refine (num_any _ _).mono ?_; rintro e w' ⟨rfl, rfl⟩)
                | (go_at_call 9; refine (works_ok _).mono ?_; rintro e wA ⟨rfl, hb⟩; have BA := Lib.hid (B9.out.trans (hb.mono B9.out.size)); clear hb))
              go_ret
              exact ⟨by first | rfl | simp, BA.out⟩
end Go.Proofs.Ytfploifafpifnaa
