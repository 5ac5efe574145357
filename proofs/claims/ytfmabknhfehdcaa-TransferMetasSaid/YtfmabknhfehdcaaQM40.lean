/- transfer: the law TransferMetas. -/
import Derived.Test.YtfmabknhfehdcaaQM39
import Derived.Deep.CutRange
namespace Go.Proofs.Ytfmabknhfehdcaa
set_option linter.unusedVariables false
set_option linter.unusedSimpArgs false
open Go.RowKit

theorem zRM_size : zRM.size = 2 := rfl
set_option maxRecDepth 100000 in
set_option maxHeartbeats 16000000 in
theorem metasLaw (pg : Int) (c : Cmd) (n : Int) (ao : Option Addr) (len cap : Nat) (zs : List Int) (w : World) (hpg : (Lit.int .u8 pg).wf = true) (hc : c.Ok) (hn : (Lit.int .i64 n).wf = true) (hD : IsRow .u8 w ao len cap zs) :
    Calls Try.prog 3 #[.int .u8 pg, c.v, .int .i64 n, .slice ao len cap] w fun e w' => e = .returned (.bool true) ∧ Below w.heap.size w w' := by
  obtain ⟨hp0, hp1⟩ := wf_u8 hpg
  obtain ⟨hn0, hn1⟩ := wf_i64 hn
  have HPG := Lib.hid (And.intro hp0 hp1)
  have HCM := Lib.hid (c.cm hc)
  obtain ⟨hBA, hZ, hlen⟩ := bAt_of hD
  have HBA := Lib.hid hBA
  obtain ⟨mt, hmt⟩ : ∃ mt, mt = c.mt := ⟨_, rfl⟩
  rw [← hmt] at HCM
  unfold Cmd.v
  obtain ⟨C, hC⟩ : ∃ C, C = c.cells := ⟨_, rfl⟩
  rw [← hC] at HCM ⊢
  have HCZ := Lib.hid (show (Try.prog.info? 28).map (·.size) = some C.size by rw [HCM.out.z]; exact sizeCm)
  obtain ⟨N, hN⟩ : ∃ N, N = 1 + pg.toNat % 8 := ⟨_, rfl⟩
  have HMD := Lib.hid (fun W => made_nil pg W hp0 hp1 N hN)
  have hN1 : 1 ≤ N := by omega
  have hN8 : N ≤ 8 := by omega
  obtain ⟨sz, hsz⟩ : ∃ sz, sz = N * 4096 := ⟨_, rfl⟩
  have HSZ := Lib.hid (show 4096 ≤ sz ∧ sz ≤ 32768 by omega)
  rw [← hsz] at HMD
  clear hBA hD hmt hC hN hsz hpg hn hc hN1 hN8 hp0 hp1
  go_enter Try.func3, Try.ntmps3
  go_upto_region 1 with fail
  obtain ⟨cb, hcb⟩ : ∃ cb, cb = w.heap.size := ⟨_, rfl⟩
  obtain ⟨W0, hW0⟩ : ∃ W0, W0 = w.alloc (.cells C 28) := ⟨_, rfl⟩
  rw [← hW0, ← hcb]
  have AC := Lib.hid (show ArrAt W0 cb C by rw [hW0, hcb]; exact ArrAt.fresh w C _ (by rw [HCM.out.z]; decide))
  have HB0 := Lib.hid (show Below w.heap.size w W0 by rw [hW0]; exact (Below.refl _ _).alloc (Nat.le_refl _) _)
  have HCB := Lib.hid (show cb = w.heap.size ∧ cb < W0.heap.size from ⟨hcb, AC.out.lt⟩)
  clear hW0 hcb

  go_upto_region 2 with (first
    | (go_at_call 6; refine (HMD.out W0).mono ?_; rintro e w1 ⟨b, B, g, f, rfl, hb0, hB0, hg0, hgb, hgB, hb, hm, hr, hf⟩; obtain ⟨MC, hMC⟩ : ∃ A : Array Value, A = #[.slice (some ⟨g, 0, none⟩) sz sz, .slice none 0 0] := ⟨_, rfl⟩; rw [← hMC] at hr ⊢; have HM2 := Lib.hid (show MC.size = 2 by rw [hMC]; rfl); have HM1 := Lib.hid (show MC.all (·.oneCell') = true by rw [hMC]; simp [Value.oneCell']); have U1 := Lib.hid (show UMk w b B sz f MC f [(cb, C)] w1 from ⟨HB0.out.trans (hb.mono HB0.out.size), ⟨_, by simp, hm⟩, ⟨[], by simp, hr.more (fun j _ e => by have h2 := HCB.out; rcases e with e | e | ⟨x, hx, e⟩ <;> first | omega | (simp only [List.mem_cons, List.not_mem_nil, or_false] at hx; subst hx; simp only at e; omega))⟩, by have := HB0.out.size; omega, by have := HB0.out.size; omega, fun x hx => by simp only [List.mem_cons, List.not_mem_nil, or_false] at hx; subst hx; have h1 := HCB.out; exact ⟨AC.out.below hb, by simp only []; omega, by simp only []; omega, by simp only []; omega⟩⟩); have HL1 := Lib.hid (show ∃ L, L.length ≤ 500 ∧ MemAt w1 b B sz f L from ⟨_, by simp, hm⟩); have HF1 := Lib.hid (ArrAt.fresh w1 zRM 33 (by decide)); have HFB := Lib.hid hf; clear hb0 hB0 hg0 hgb hgB hb hm hr hf hMC)
    | ((with_reducible show wpList _ _ _ (⟨some 10, _, _, _, _, _⟩ :: _) _ _); refine wpList_alloc rfl 33 rfl zeroRM ?_; rw [show (Value.agg zRM).cells = zRM from rfl])
    | ((with_reducible show wpList _ _ _ (⟨none, .store _ _ _, _, _, _, _⟩ :: _) _ _); refine wpList_storeA rfl (b := w1.heap.size) (A := zRM) (A' := MC) HF1.out 33 (.tmp 10) (.tmp 24) rfl (by simp [Act.eval, Act.put]) (by simp [Act.eval, Act.put]) sizeRM (by rw [HM2.out]; rfl) HM1.out ?_))
  obtain ⟨W2, hW2⟩ : ∃ z, z = (w1.alloc (.cells zRM 33)).setCells w1.heap.size 0 MC.toList := ⟨_, rfl⟩
  rw [← hW2]
  have U2 := Lib.hid (U1.out.var 33 (Z := zRM) (A := MC) (by decide) (by rw [HM2.out]; rfl) hW2)
  have hbw := (stored_at (y := w1) (T := 33) (Z := zRM) (A := MC) (by decide) (by rw [HM2.out]; rfl) hW2).1
  have HL2 := Lib.hid (show ∃ L, L.length ≤ 500 ∧ MemAt W2 b B sz f L from by obtain ⟨L, h1, h2⟩ := HL1.out; exact ⟨L, h1, h2.below hbw⟩)
  obtain ⟨mb, hmb⟩ : ∃ z, z = w1.heap.size := ⟨_, rfl⟩
  have HMB := Lib.hid (show cb < mb by rw [hmb]; exact (U1.out.arr (cb, C) (by simp)).1.lt)
  rw [← hmb] at U2 ⊢
  have HMZ := Lib.hid (show (Try.prog.info? 33).map (·.size) = some MC.size by rw [HM2.out]; exact sizeRM)
  clear hW2 hbw hmb U1 HL1 HF1 HMD HB0 AC
  by_cases hl : 10000 < len
  · have ql : decide ((10000 : Int) < (len : Int)) = true := decide_eq_true (by omega)
    have ql2 : decide (10000 < len) = true := decide_eq_true hl
    go_wp2_with (go_at_call 7; refine (works_a _).mono ?_; rintro e w3 ⟨rfl, hb⟩; have U3 := Lib.hid (U2.out.go hb); clear hb)
    go_ret
    exact ⟨rfl, U3.out.below⟩
  · have ql : decide ((10000 : Int) < (len : Int)) = false := decide_eq_false (by omega)
    have ql2 : decide (10000 < len) = false := decide_eq_false hl
    obtain ⟨no, hno⟩ : ∃ no, no = metaT sz mt n := ⟨_, rfl⟩
    have HGM := Lib.hid (umGm U2.out (by have := HSZ.out; omega) HCM.out n)
    obtain ⟨s, hs⟩ : ∃ s, s = gmS no n (fun i => f (mt.toNat + i)) := ⟨_, rfl⟩
    rw [← hno, ← hs] at HGM
    have HNO := Lib.hid (show (0 ≤ no ∧ no ≤ 255) ∧ no = metaT sz mt n from ⟨by rw [hno]; exact metaT_bd _ _ _, hno⟩)
    have HS := Lib.hid hs
    clear hno hs
    go_upto_region 5 with (first
      | ((with_reducible show wpList _ _ _ (⟨some 36, _, _, _, _, _⟩ :: _) _ _); refine wpList_loadA rfl (U2.out.arr (cb, C) (by simp)).1 28 (.tmp 5) rfl (by first | rfl | simp [Act.eval, Act.put]) Try.underlying28 rfl HCZ.out ?_)
      | (go_at_call 8; refine HGM.out.mono ?_; rintro e w3 ⟨x, xm, xk, rfl, hcv, hb⟩; have U3 := Lib.hid (U2.out.go hb); have HL3 := Lib.hid (show ∃ L, L.length ≤ 500 ∧ MemAt w3 b B sz f L from by obtain ⟨L, h1, h2⟩ := HL2.out; exact ⟨L, h1, h2.below hb⟩); have HCV := Lib.hid hcv; have HF3 := Lib.hid (ArrAt.fresh w3 st0 38 (by decide)); clear hcv hb)
      | ((with_reducible show wpList _ _ _ (⟨some 13, _, _, _, _, _⟩ :: _) _ _); refine wpList_alloc rfl 38 rfl zeroSt ?_; rw [show (Value.agg st0).cells = st0 from rfl])
      | ((with_reducible show wpList _ _ _ (⟨none, .store _ _ _, _, _, _, _⟩ :: _) _ _); refine wpList_storeA rfl (b := w3.heap.size) (A := st0) (A' := stC no) HF3.out 38 (.tmp 13) (.tmp 40) rfl (by simp [Act.eval, Act.put]) (by simp [Act.eval, Act.put]) sizeSt (by rw [stC_size]; rfl) (stC_one no) ?_))
    obtain ⟨W4, hW4⟩ : ∃ z, z = (w3.alloc (.cells st0 38)).setCells w3.heap.size 0 (stC no).toList := ⟨_, rfl⟩
    rw [← hW4]
    have U4 := Lib.hid (U3.out.var 38 (Z := st0) (A := stC no) (by decide) (by rw [stC_size]; rfl) hW4)
    have hb4 := (stored_at (y := w3) (T := 38) (Z := st0) (A := stC no) (by decide) (by rw [stC_size]; rfl) hW4).1
    have HL4 := Lib.hid (show ∃ L, L.length ≤ 500 ∧ MemAt W4 b B sz f L from by obtain ⟨L, h1, h2⟩ := HL3.out; exact ⟨L, h1, h2.below hb4⟩)
    have HCV4 := Lib.hid (fun W (hb : Below W4.heap.size W4 W) => HCV.out W (hb4.trans (hb.mono hb4.size)))
    obtain ⟨sb, hsb⟩ : ∃ z, z = w3.heap.size := ⟨_, rfl⟩
    have HSB := Lib.hid (show mb < sb by rw [hsb]; exact (U3.out.arr (mb, MC) (by simp)).1.lt)
    rw [← hsb] at U4 ⊢
    have HSS := Lib.hid (show (Try.prog.info? 38).map (·.size) = some (stC no).size by rw [stC_size]; exact sizeSt)
    clear hW4 hb4 hsb U3 HF3 HL3 HCV HGM U2 HL2
    have HRM := Lib.hid (show ∀ W k, Below W4.heap.size W4 W → -9223372036854775808 ≤ k → k ≤ 9223372036854775807 → Calls Try.prog 9 #[.agg MC, .agg C, .int .i64 k] W fun e w' => e = .returned (.int .i64 (metaT sz mt k)) ∧ Below W.heap.size W w' from fun W k hb h0 h1 => by
      obtain ⟨L2, -, hr⟩ := U4.out.ref
      exact rmeta_any HCM.out k sz f L2 _ _ W h0 h1 (hr.below hb) (by have := HSZ.out; omega))
    have hrm := HRM.out
    have HRM1 := Lib.hid (HRM.out W4 n (Below.refl _ _) hn0 hn1)
    rw [← HNO.out.2] at HRM1
    clear hrm
    go_upto_region 7 with (first
      | ((with_reducible show wpList _ _ _ (⟨some 41, _, _, _, _, _⟩ :: _) _ _); refine wpList_loadA rfl (U4.out.arr (mb, MC) (by simp)).1 33 (.tmp 10) rfl (by first | rfl | simp [Act.eval, Act.put]) Try.underlying33 rfl HMZ.out ?_)
      | ((with_reducible show wpList _ _ _ (⟨some 42, _, _, _, _, _⟩ :: _) _ _); refine wpList_loadA rfl (U4.out.arr (cb, C) (by simp)).1 28 (.tmp 5) rfl (by first | rfl | simp [Act.eval, Act.put]) Try.underlying28 rfl HCZ.out ?_)
      | (go_at_call 9; refine HRM1.out.mono ?_; rintro e w5 ⟨rfl, hb⟩; have U5 := Lib.hid (U4.out.go hb); have HB5 := Lib.hid hb; clear hb))
    try simp only [Act.put, List.setIfInBounds_toArray, List.set_cons_succ, List.set_cons_zero]

    have HLEN := Lib.hid (show (len : Int) ≤ 9223372036854775807 by omega)
    have HUX := Lib.hid (fun W (hu : UMk w b B sz f MC f [(sb, stC no), (mb, MC), (cb, C)] W) => by
      obtain ⟨L, -, hm⟩ := hu.mem
      obtain ⟨L2, -, hr⟩ := hu.ref
      exact is_any b B sz f L L2 _ (.agg MC) W hm (by have := HSZ.out; omega) hr)
    by_cases hg : no = 0 ∧ 0 < n
    · obtain ⟨hg1, hg2⟩ := hg
      have q1 : (no == 0) = true := by simp [hg1]
      have q2 : decide (0 < n) = true := decide_eq_true hg2
      have c7 := (((U5.out.arr (cb, C) (by simp)).1).cell HCM.out.g7)
      have HRR := Lib.hid (show Calls Try.prog 10 #[.agg MC, .int .u64 mt, .int .i64 n] w5 fun e w' => ∃ g gc, e = .returned (.tuple #[.slice g n.toNat gc, .int .i64 0]) ∧ (∀ W, Below w'.heap.size w' W → (convert 29 9 (.slice g n.toNat gc)).run Try.prog W = .ok (.string s) W) ∧ Below w5.heap.size w5 w' by
        obtain ⟨L, hL, hr⟩ := U5.out.ref
        have hk := chk_ok (metaT_ok (HNO.out.2.symm.trans hg1) hg2)
        have h7 := HCM.out.b7
        obtain ⟨k, hk2⟩ : ∃ k : Nat, k = n.toNat := ⟨_, rfl⟩
        obtain rfl : n = (k : Int) := by omega
        rw [← hk2]
        rw [show (#[Value.agg MC, .int .u64 mt, .int .i64 (k : Int)] : Array Value) = #[.agg MC, .int .u64 (mt.toNat : Nat), .int .i64 (k : Int)] by rw [show ((mt.toNat : Nat) : Int) = mt by omega]]
        refine (rread_ok (Bk b B [(sb, stC no), (mb, MC), (cb, C)]) (.agg MC) sz f L mt.toNat k w5 hr (by have := HSZ.out; omega) (by omega)).mono ?_
        rintro e w' ⟨sv, he, hs2, hb2⟩
        have hs3 := hs2
        obtain ⟨ng, nc, nF, hvv, -⟩ := hs3
        subst hvv
        refine ⟨_, _, he, fun W hb => ?_, hb2⟩
        have h9 := newBytes_str (hs2.kept (Keeps.of_below (S := fun _ => False) hb) (fun _ _ e => e))
        rw [HS.out]; unfold gmS; rw [if_pos ⟨hg1, hg2⟩]
        rw [← hk2]
        exact h9)
      go_upto_if 50 with fail
      clear hg1 hg2
      go_upto_region 9 with (first
        | ((with_reducible show wpList _ _ _ (⟨some 52, _, _, _, _, _⟩ :: _) _ _); refine wpList_loadA rfl (U5.out.arr (mb, MC) (by simp)).1 33 (.tmp 10) rfl (by first | rfl | simp [Act.eval, Act.put]) Try.underlying33 rfl HMZ.out ?_)
        | (go_at_call 10; refine HRR.out.mono ?_; rintro e w6 ⟨rg, rgc, rfl, hcv6, hb⟩; have HC6 := Lib.hid hcv6; have UU := Lib.hid (U5.out.go hb); have BU := Lib.hid (HB5.out.trans (hb.mono HB5.out.size)); clear hb hcv6))
      have hc6 := HC6.out _ (Below.refl _ _)
      have hcv := HCV4.out _ BU.out
      go_upto_region 12 with (first
        | ((with_reducible show wpList _ _ _ (⟨some 66, _, _, _, _, _⟩ :: _) _ _); refine wpList_loadAG (by rfl) (UU.out.arr (sb, (stC no)) (by simp)).1 38 (.tmp 13) rfl (by first | rfl | simp [Act.eval, Act.put]) Try.underlying38 rfl HSS.out ?_)
        | ((with_reducible show wpList _ _ _ (⟨some 73, _, _, _, _, _⟩ :: _) _ _); refine wpList_loadAG (by rfl) (U7.out.arr (mb, MC) (by simp)).1 33 (.tmp 10) rfl (by first | rfl | simp [Act.eval, Act.put]) Try.underlying33 rfl HMZ.out ?_)
        | (go_at_call 11; refine (code_any no HNO.out.1.1 HNO.out.1.2 _).mono ?_; rintro e w7 ⟨rfl, hb⟩; have U7 := Lib.hid (UU.out.go hb); have B7 := Lib.hid (BU.out.trans (hb.mono BU.out.size)); clear hb)
        | (go_at_call 12; refine (HUX.out _ U7.out).mono ?_; rintro e w8 ⟨rfl, hb⟩; have U8 := Lib.hid (U7.out.go hb); have B8 := Lib.hid (B7.out.trans (hb.mono B7.out.size)); clear hb))
      have HR9 := Lib.hid (HRM.out w8 len B8.out (by omega) HLEN.out)
      go_upto_region 13 with (first
        | ((with_reducible show wpList _ _ _ (⟨some 77, _, _, _, _, _⟩ :: _) _ _); refine wpList_loadA rfl (U8.out.arr (mb, MC) (by simp)).1 33 (.tmp 10) rfl (by first | rfl | simp [Act.eval, Act.put]) Try.underlying33 rfl HMZ.out ?_)
        | ((with_reducible show wpList _ _ _ (⟨some 78, _, _, _, _, _⟩ :: _) _ _); refine wpList_loadA rfl (U8.out.arr (cb, C) (by simp)).1 28 (.tmp 5) rfl (by first | rfl | simp [Act.eval, Act.put]) Try.underlying28 rfl HCZ.out ?_)
        | (go_at_call 9; refine HR9.out.mono ?_; rintro e w9 ⟨rfl, hb⟩; have U9 := Lib.hid (U8.out.go hb); have B9 := Lib.hid (B8.out.trans (hb.mono B8.out.size)); clear hb))
      obtain ⟨bad, hbad⟩ : ∃ z, z = metaT sz mt len := ⟨_, rfl⟩
      have HBAD := Lib.hid (show (0 ≤ bad ∧ bad ≤ 255) ∧ bad = metaT sz mt len from ⟨by rw [hbad]; exact metaT_bd _ _ _, hbad⟩)
      have HSC := Lib.hid (umSm U9.out (by have := HSZ.out; omega) HCM.out ao len cap _ (by omega) ((U9.out.src HBA.out (by omega)).weak fun _ e => Bk.two e) (by obtain ⟨L, h1, h2⟩ := HL4.out; exact ⟨L, h1, h2.below B9.out⟩))
      obtain ⟨f2, hf2⟩ : ∃ z, z = smF (metaT sz mt len) f mt.toNat len (fun i => zs.getD i 0) := ⟨_, rfl⟩
      rw [← hf2, ← hbad] at HSC
      rw [← hbad]
      have HF2 := Lib.hid (show f2 = smF bad f mt.toNat len (fun i => zs.getD i 0) by rw [hf2, hbad])
      clear hbad hf2
      go_upto_region 14 with (first
        | ((with_reducible show wpList _ _ _ (⟨some 83, _, _, _, _, _⟩ :: _) _ _); refine wpList_loadA rfl (U9.out.arr (cb, C) (by simp)).1 28 (.tmp 5) rfl (by first | rfl | simp [Act.eval, Act.put]) Try.underlying28 rfl HCZ.out ?_)
        | (go_at_call 13; refine HSC.out.mono ?_; rintro e w10 ⟨rfl, hu⟩; have U10 := Lib.hid hu; have HF10 := Lib.hid (ArrAt.fresh w10 st0 38 (by decide)); clear hu)
        | ((with_reducible show wpList _ _ _ (⟨some 19, _, _, _, _, _⟩ :: _) _ _); refine wpList_alloc rfl 38 rfl zeroSt ?_; rw [show (Value.agg st0).cells = st0 from rfl])
        | ((with_reducible show wpList _ _ _ (⟨none, .store _ _ _, _, _, _, _⟩ :: _) _ _); refine wpList_storeA rfl (b := w10.heap.size) (A := st0) (A' := stC bad) HF10.out 38 (.tmp 19) (.tmp 85) rfl (by simp [Act.eval, Act.put]) (by simp [Act.eval, Act.put]) sizeSt (by rw [stC_size]; rfl) (stC_one bad) ?_))
      obtain ⟨W11, hW11⟩ : ∃ z, z = (w10.alloc (.cells st0 38)).setCells w10.heap.size 0 (stC bad).toList := ⟨_, rfl⟩
      rw [← hW11]
      have U11 := Lib.hid (U10.out.var 38 (Z := st0) (A := stC bad) (by decide) (by rw [stC_size]; rfl) hW11)
      obtain ⟨ub, hub⟩ : ∃ z, z = w10.heap.size := ⟨_, rfl⟩
      have HUB := Lib.hid (show mb < ub by rw [hub]; exact (U10.out.arr (mb, MC) (by simp)).1.lt)
      rw [← hub] at U11 ⊢
      have HS2 := Lib.hid (show (Try.prog.info? 38).map (·.size) = some (stC bad).size by rw [stC_size]; exact sizeSt)
      clear hW11 hub U10 HF10 HSC U9 B9 HR9 U8 B8 U7 B7
      have B11 := Lib.hid (Below.refl W11.heap.size W11)
      by_cases hb1 : bad = 0 ∧ 0 < len
      · obtain ⟨hb2, hb3⟩ := hb1
        have qb : (bad == 0) = true := by simp [hb2]
        have ql0 : decide ((0 : Int) < (len : Int)) = true := decide_eq_true (by omega)
        have ql4 : decide (0 < len) = true := decide_eq_true (by omega)
        have c7 := (((U11.out.arr (cb, C) (by simp)).1).cell HCM.out.g7)
        have HRW := Lib.hid (show Calls Try.prog 14 #[.agg MC, .int .u64 mt, .slice ao len cap] W11 fun e w' => ∃ MC3, e = .returned (.tuple #[.agg MC3, .int .i64 0]) ∧ MC3.size = 2 ∧ MC3.all (·.oneCell') = true ∧ Below W11.heap.size W11 w' ∧ ∃ L, L.length ≤ 901 ∧ RefAt (Bk b B [(ub, stC bad), (sb, stC no), (mb, MC), (cb, C)]) w' (.agg MC3) sz f2 L by
          obtain ⟨-, -, hr⟩ := U4.out.ref
          obtain ⟨L, hL, hr⟩ := U11.out.ref
          obtain ⟨L5, -, hm5⟩ := U11.out.mem
          have hk := chk_ok (metaT_ok (HBAD.out.2.symm.trans hb2) (by omega : (0 : Int) < (len : Int)))
          have h7 := HCM.out.b7
          have hsr := U11.out.src HBA.out (by omega)
          rw [show (#[Value.agg MC, .int .u64 mt, .slice ao len cap] : Array Value) = #[.agg MC, .int .u64 (mt.toNat : Nat), .slice ao len cap] by rw [show ((mt.toNat : Nat) : Int) = mt by omega]]
          refine Calls.mono (rwrite_ok (Bk b B [(ub, stC bad), (sb, stC no), (mb, MC), (cb, C)]) (.agg MC) sz f L mt.toNat len cap ao (fun i => zs.getD i 0) W11 hr (by have := HSZ.out; omega) (by omega) hb3 hsr (by omega) (fun j e => U11.out.blt e)) ?_
          rintro e w' ⟨v', rfl, hr', hb'⟩
          obtain ⟨MC3, rfl, h3, h4⟩ := refAt_form hr'
          refine ⟨MC3, rfl, h3, h4, hb', _, ?_, by rw [HF2.out]; unfold smF; rw [if_pos hb2]; exact hr'⟩
          simp only [List.length_append, List.length_cons, List.length_nil]
          omega)
        clear hb2 hb3
        go_upto_region 16 with (first
          | ((with_reducible show wpList _ _ _ (⟨some 94, _, _, _, _, _⟩ :: _) _ _); refine wpList_loadA rfl (U11.out.arr (mb, MC) (by simp)).1 33 (.tmp 10) rfl (by first | rfl | simp [Act.eval, Act.put]) Try.underlying33 rfl HMZ.out ?_)
          | (go_at_call 14; refine HRW.out.mono ?_; rintro e w12 ⟨MC3, rfl, h3, h4, hb, hr⟩; have U12 := Lib.hid (U11.out.go hb); have H3 := Lib.hid h3; have H4 := Lib.hid h4; have HR12 := Lib.hid hr; clear hb hr h3 h4)
          | ((with_reducible show wpList _ _ _ (⟨none, .store _ _ _, _, _, _, _⟩ :: _) _ _); refine wpList_storeA rfl (b := mb) (A := MC) (A' := MC3) ((U12.out.arr (mb, MC) (by simp)).1) 33 (.tmp 10) (.tmp 99) rfl (by simp [Act.eval, Act.put]) (by simp [Act.eval, Act.put]) HMZ.out (by rw [H3.out, HM2.out]) H4.out ?_))
        obtain ⟨W13, hW13⟩ : ∃ z, z = w12.setCells mb 0 MC3.toList := ⟨_, rfl⟩
        rw [← hW13]
        have U13 := Lib.hid (U12.out.over (g := mb) (A := MC) (A' := MC3) (by simp) (by rw [H3.out, HM2.out]) [(ub, stC bad), (mb, MC3)] (fun x hx => by
          simp only [List.mem_cons, List.not_mem_nil, or_false] at hx
          rcases hx with rfl | rfl
          · exact .inr ⟨by simp, by have := HUB.out; simp only []; omega⟩
          · exact .inl rfl) hW13 HR12.out)
        have HMZ2 := Lib.hid (show (Try.prog.info? 33).map (·.size) = some MC3.size by rw [H3.out]; exact sizeRM)
        have HUY := Lib.hid (fun W (hu : UMk w b B sz f2 MC3 f2 [(ub, stC bad), (mb, MC3)] W 901) => by
          obtain ⟨L, -, hm⟩ := hu.mem
          obtain ⟨L2, -, hr⟩ := hu.ref
          exact is_any b B sz f2 L L2 _ (.agg MC3) W hm (by have := HSZ.out; omega) hr)
        have B13 := Lib.hid (Below.refl W13.heap.size W13)
        clear hW13 U12 HR12 U11 HRW c7
        go_wp2_with (first
          | ((with_reducible show wpList _ _ _ (⟨some 101, _, _, _, _, _⟩ :: _) _ _); refine wpList_loadA rfl (U13.out.arr (ub, (stC bad)) (by simp)).1 38 (.tmp 19) rfl (by first | rfl | simp [Act.eval, Act.put]) Try.underlying38 rfl HS2.out ?_)
          | ((with_reducible show wpList _ _ _ (⟨some 106, _, _, _, _, _⟩ :: _) _ _); refine wpList_loadAG (by rfl) (U14.out.arr (mb, MC3) (by simp)).1 33 (.tmp 10) rfl (by first | rfl | simp [Act.eval, Act.put]) Try.underlying33 rfl HMZ2.out ?_)
          | (go_at_call 11; refine (code_any bad HBAD.out.1.1 HBAD.out.1.2 _).mono ?_; rintro e w14 ⟨rfl, hb⟩; have U14 := Lib.hid (U13.out.go hb); have B14 := Lib.hid (B13.out.trans (hb.mono B13.out.size)); clear hb)
          | (go_at_call 12; refine (HUY.out _ U14.out).mono ?_; rintro e w15 ⟨rfl, hb⟩; have U15 := Lib.hid (U14.out.go hb); have B15 := Lib.hid (B14.out.trans (hb.mono B14.out.size)); clear hb)
          | (go_at_call 7; refine (works_a _).mono ?_; rintro e w20 ⟨rfl, hb⟩; have UW := Lib.hid (U15.out.go hb); clear hb))
        try simp only [Act.put, List.setIfInBounds_toArray, List.set_cons_succ, List.set_cons_zero]
        go_ret
        exact ⟨rfl, UW.out.below⟩
      · have he : f2 = f := by
          rw [HF2.out]
          unfold smF
          split
          · rename_i h
            have : len = 0 := by
              have := fun h0 => hb1 ⟨h, h0⟩
              omega
            rw [this, upd_zero]
          · rfl
        rw [he] at U11
        have qb : ((bad == 0) = true ∧ decide ((0 : Int) < (len : Int)) = false) ∨ (bad == 0) = false := by
          by_cases h : bad = 0
          · exact .inl ⟨by simp [h], decide_eq_false (fun h0 => hb1 ⟨h, by omega⟩)⟩
          · exact .inr (by simp [h])
        have HUY := Lib.hid (fun W (hu : UMk w b B sz f MC f [(ub, stC bad), (sb, stC no), (mb, MC), (cb, C)] W 900) => by
          obtain ⟨L, -, hm⟩ := hu.mem
          obtain ⟨L2, -, hr⟩ := hu.ref
          exact is_any b B sz f L L2 _ (.agg MC) W hm (by have := HSZ.out; omega) hr)
        have HMZ2 := HMZ
        clear hb1 he HF2
        have B13 := B11
        rcases qb with ⟨qb, ql4⟩ | qb
        · have ql5 : decide (0 < len) = false := by rw [← ql4]; exact decide_eq_decide.2 (by omega)
          go_upto_region 16 with fail
          go_wp2_with (first
            | ((with_reducible show wpList _ _ _ (⟨some 101, _, _, _, _, _⟩ :: _) _ _); refine wpList_loadA rfl (U11.out.arr (ub, (stC bad)) (by simp)).1 38 (.tmp 19) rfl (by first | rfl | simp [Act.eval, Act.put]) Try.underlying38 rfl HS2.out ?_)
            | ((with_reducible show wpList _ _ _ (⟨some 106, _, _, _, _, _⟩ :: _) _ _); refine wpList_loadAG (by rfl) (U14.out.arr (mb, MC) (by simp)).1 33 (.tmp 10) rfl (by first | rfl | simp [Act.eval, Act.put]) Try.underlying33 rfl HMZ.out ?_)
            | (go_at_call 11; refine (code_any bad HBAD.out.1.1 HBAD.out.1.2 _).mono ?_; rintro e w14 ⟨rfl, hb⟩; have U14 := Lib.hid (U11.out.go hb); have B14 := Lib.hid (B13.out.trans (hb.mono B13.out.size)); clear hb)
            | (go_at_call 12; refine (HUY.out _ U14.out).mono ?_; rintro e w15 ⟨rfl, hb⟩; have U15 := Lib.hid (U14.out.go hb); have B15 := Lib.hid (B14.out.trans (hb.mono B14.out.size)); clear hb)
            | (go_at_call 7; refine (works_a _).mono ?_; rintro e w20 ⟨rfl, hb⟩; have UW := Lib.hid (U15.out.go hb); clear hb))
          try simp only [Act.put, List.setIfInBounds_toArray, List.set_cons_succ, List.set_cons_zero]
          go_ret
          exact ⟨rfl, UW.out.below⟩
        · go_upto_region 16 with fail
          go_wp2_with (first
            | ((with_reducible show wpList _ _ _ (⟨some 101, _, _, _, _, _⟩ :: _) _ _); refine wpList_loadA rfl (U11.out.arr (ub, (stC bad)) (by simp)).1 38 (.tmp 19) rfl (by first | rfl | simp [Act.eval, Act.put]) Try.underlying38 rfl HS2.out ?_)
            | ((with_reducible show wpList _ _ _ (⟨some 106, _, _, _, _, _⟩ :: _) _ _); refine wpList_loadAG (by rfl) (U14.out.arr (mb, MC) (by simp)).1 33 (.tmp 10) rfl (by first | rfl | simp [Act.eval, Act.put]) Try.underlying33 rfl HMZ.out ?_)
            | (go_at_call 11; refine (code_any bad HBAD.out.1.1 HBAD.out.1.2 _).mono ?_; rintro e w14 ⟨rfl, hb⟩; have U14 := Lib.hid (U11.out.go hb); have B14 := Lib.hid (B13.out.trans (hb.mono B13.out.size)); clear hb)
            | (go_at_call 12; refine (HUY.out _ U14.out).mono ?_; rintro e w15 ⟨rfl, hb⟩; have U15 := Lib.hid (U14.out.go hb); have B15 := Lib.hid (B14.out.trans (hb.mono B14.out.size)); clear hb)
            | (go_at_call 7; refine (works_a _).mono ?_; rintro e w20 ⟨rfl, hb⟩; have UW := Lib.hid (U15.out.go hb); clear hb))
          try simp only [Act.put, List.setIfInBounds_toArray, List.set_cons_succ, List.set_cons_zero]
          go_ret
          exact ⟨rfl, UW.out.below⟩
      
    · have hs0 : s = ⟨#[]⟩ := by rw [HS.out]; unfold gmS; rw [if_neg hg]; rfl
      rw [hs0] at HCV4
      have UU := U5
      have BU := HB5
      have q1 : ((no == 0) = true ∧ decide (0 < n) = false) ∨ (no == 0) = false := by
        by_cases h : no = 0
        · exact .inl ⟨by simp [h], decide_eq_false (fun h0 => hg ⟨h, h0⟩)⟩
        · exact .inr (by simp [h])
      clear hg hs0 HS
      rcases q1 with ⟨q1, q2⟩ | q1
      · go_upto_region 10 with fail
        have hcv := HCV4.out _ BU.out
        go_upto_region 12 with (first
          | ((with_reducible show wpList _ _ _ (⟨some 66, _, _, _, _, _⟩ :: _) _ _); refine wpList_loadAG (by rfl) (UU.out.arr (sb, (stC no)) (by simp)).1 38 (.tmp 13) rfl (by first | rfl | simp [Act.eval, Act.put]) Try.underlying38 rfl HSS.out ?_)
          | ((with_reducible show wpList _ _ _ (⟨some 73, _, _, _, _, _⟩ :: _) _ _); refine wpList_loadAG (by rfl) (U7.out.arr (mb, MC) (by simp)).1 33 (.tmp 10) rfl (by first | rfl | simp [Act.eval, Act.put]) Try.underlying33 rfl HMZ.out ?_)
          | (go_at_call 11; refine (code_any no HNO.out.1.1 HNO.out.1.2 _).mono ?_; rintro e w7 ⟨rfl, hb⟩; have U7 := Lib.hid (UU.out.go hb); have B7 := Lib.hid (BU.out.trans (hb.mono BU.out.size)); clear hb)
          | (go_at_call 12; refine (HUX.out _ U7.out).mono ?_; rintro e w8 ⟨rfl, hb⟩; have U8 := Lib.hid (U7.out.go hb); have B8 := Lib.hid (B7.out.trans (hb.mono B7.out.size)); clear hb))
        have HR9 := Lib.hid (HRM.out w8 len B8.out (by omega) HLEN.out)
        go_upto_region 13 with (first
          | ((with_reducible show wpList _ _ _ (⟨some 77, _, _, _, _, _⟩ :: _) _ _); refine wpList_loadA rfl (U8.out.arr (mb, MC) (by simp)).1 33 (.tmp 10) rfl (by first | rfl | simp [Act.eval, Act.put]) Try.underlying33 rfl HMZ.out ?_)
          | ((with_reducible show wpList _ _ _ (⟨some 78, _, _, _, _, _⟩ :: _) _ _); refine wpList_loadA rfl (U8.out.arr (cb, C) (by simp)).1 28 (.tmp 5) rfl (by first | rfl | simp [Act.eval, Act.put]) Try.underlying28 rfl HCZ.out ?_)
          | (go_at_call 9; refine HR9.out.mono ?_; rintro e w9 ⟨rfl, hb⟩; have U9 := Lib.hid (U8.out.go hb); have B9 := Lib.hid (B8.out.trans (hb.mono B8.out.size)); clear hb))
        obtain ⟨bad, hbad⟩ : ∃ z, z = metaT sz mt len := ⟨_, rfl⟩
        have HBAD := Lib.hid (show (0 ≤ bad ∧ bad ≤ 255) ∧ bad = metaT sz mt len from ⟨by rw [hbad]; exact metaT_bd _ _ _, hbad⟩)
        have HSC := Lib.hid (umSm U9.out (by have := HSZ.out; omega) HCM.out ao len cap _ (by omega) ((U9.out.src HBA.out (by omega)).weak fun _ e => Bk.two e) (by obtain ⟨L, h1, h2⟩ := HL4.out; exact ⟨L, h1, h2.below B9.out⟩))
        obtain ⟨f2, hf2⟩ : ∃ z, z = smF (metaT sz mt len) f mt.toNat len (fun i => zs.getD i 0) := ⟨_, rfl⟩
        rw [← hf2, ← hbad] at HSC
        rw [← hbad]
        have HF2 := Lib.hid (show f2 = smF bad f mt.toNat len (fun i => zs.getD i 0) by rw [hf2, hbad])
        clear hbad hf2
        go_upto_region 14 with (first
          | ((with_reducible show wpList _ _ _ (⟨some 83, _, _, _, _, _⟩ :: _) _ _); refine wpList_loadA rfl (U9.out.arr (cb, C) (by simp)).1 28 (.tmp 5) rfl (by first | rfl | simp [Act.eval, Act.put]) Try.underlying28 rfl HCZ.out ?_)
          | (go_at_call 13; refine HSC.out.mono ?_; rintro e w10 ⟨rfl, hu⟩; have U10 := Lib.hid hu; have HF10 := Lib.hid (ArrAt.fresh w10 st0 38 (by decide)); clear hu)
          | ((with_reducible show wpList _ _ _ (⟨some 19, _, _, _, _, _⟩ :: _) _ _); refine wpList_alloc rfl 38 rfl zeroSt ?_; rw [show (Value.agg st0).cells = st0 from rfl])
          | ((with_reducible show wpList _ _ _ (⟨none, .store _ _ _, _, _, _, _⟩ :: _) _ _); refine wpList_storeA rfl (b := w10.heap.size) (A := st0) (A' := stC bad) HF10.out 38 (.tmp 19) (.tmp 85) rfl (by simp [Act.eval, Act.put]) (by simp [Act.eval, Act.put]) sizeSt (by rw [stC_size]; rfl) (stC_one bad) ?_))
        obtain ⟨W11, hW11⟩ : ∃ z, z = (w10.alloc (.cells st0 38)).setCells w10.heap.size 0 (stC bad).toList := ⟨_, rfl⟩
        rw [← hW11]
        have U11 := Lib.hid (U10.out.var 38 (Z := st0) (A := stC bad) (by decide) (by rw [stC_size]; rfl) hW11)
        obtain ⟨ub, hub⟩ : ∃ z, z = w10.heap.size := ⟨_, rfl⟩
        have HUB := Lib.hid (show mb < ub by rw [hub]; exact (U10.out.arr (mb, MC) (by simp)).1.lt)
        rw [← hub] at U11 ⊢
        have HS2 := Lib.hid (show (Try.prog.info? 38).map (·.size) = some (stC bad).size by rw [stC_size]; exact sizeSt)
        clear hW11 hub U10 HF10 HSC U9 B9 HR9 U8 B8 U7 B7
        have B11 := Lib.hid (Below.refl W11.heap.size W11)
        by_cases hb1 : bad = 0 ∧ 0 < len
        · obtain ⟨hb2, hb3⟩ := hb1
          have qb : (bad == 0) = true := by simp [hb2]
          have ql0 : decide ((0 : Int) < (len : Int)) = true := decide_eq_true (by omega)
          have ql4 : decide (0 < len) = true := decide_eq_true (by omega)
          have c7 := (((U11.out.arr (cb, C) (by simp)).1).cell HCM.out.g7)
          have HRW := Lib.hid (show Calls Try.prog 14 #[.agg MC, .int .u64 mt, .slice ao len cap] W11 fun e w' => ∃ MC3, e = .returned (.tuple #[.agg MC3, .int .i64 0]) ∧ MC3.size = 2 ∧ MC3.all (·.oneCell') = true ∧ Below W11.heap.size W11 w' ∧ ∃ L, L.length ≤ 901 ∧ RefAt (Bk b B [(ub, stC bad), (sb, stC no), (mb, MC), (cb, C)]) w' (.agg MC3) sz f2 L by
            obtain ⟨-, -, hr⟩ := U4.out.ref
            obtain ⟨L, hL, hr⟩ := U11.out.ref
            obtain ⟨L5, -, hm5⟩ := U11.out.mem
            have hk := chk_ok (metaT_ok (HBAD.out.2.symm.trans hb2) (by omega : (0 : Int) < (len : Int)))
            have h7 := HCM.out.b7
            have hsr := U11.out.src HBA.out (by omega)
            rw [show (#[Value.agg MC, .int .u64 mt, .slice ao len cap] : Array Value) = #[.agg MC, .int .u64 (mt.toNat : Nat), .slice ao len cap] by rw [show ((mt.toNat : Nat) : Int) = mt by omega]]
            refine Calls.mono (rwrite_ok (Bk b B [(ub, stC bad), (sb, stC no), (mb, MC), (cb, C)]) (.agg MC) sz f L mt.toNat len cap ao (fun i => zs.getD i 0) W11 hr (by have := HSZ.out; omega) (by omega) hb3 hsr (by omega) (fun j e => U11.out.blt e)) ?_
            rintro e w' ⟨v', rfl, hr', hb'⟩
            obtain ⟨MC3, rfl, h3, h4⟩ := refAt_form hr'
            refine ⟨MC3, rfl, h3, h4, hb', _, ?_, by rw [HF2.out]; unfold smF; rw [if_pos hb2]; exact hr'⟩
            simp only [List.length_append, List.length_cons, List.length_nil]
            omega)
          clear hb2 hb3
          go_upto_region 16 with (first
            | ((with_reducible show wpList _ _ _ (⟨some 94, _, _, _, _, _⟩ :: _) _ _); refine wpList_loadA rfl (U11.out.arr (mb, MC) (by simp)).1 33 (.tmp 10) rfl (by first | rfl | simp [Act.eval, Act.put]) Try.underlying33 rfl HMZ.out ?_)
            | (go_at_call 14; refine HRW.out.mono ?_; rintro e w12 ⟨MC3, rfl, h3, h4, hb, hr⟩; have U12 := Lib.hid (U11.out.go hb); have H3 := Lib.hid h3; have H4 := Lib.hid h4; have HR12 := Lib.hid hr; clear hb hr h3 h4)
            | ((with_reducible show wpList _ _ _ (⟨none, .store _ _ _, _, _, _, _⟩ :: _) _ _); refine wpList_storeA rfl (b := mb) (A := MC) (A' := MC3) ((U12.out.arr (mb, MC) (by simp)).1) 33 (.tmp 10) (.tmp 99) rfl (by simp [Act.eval, Act.put]) (by simp [Act.eval, Act.put]) HMZ.out (by rw [H3.out, HM2.out]) H4.out ?_))
          obtain ⟨W13, hW13⟩ : ∃ z, z = w12.setCells mb 0 MC3.toList := ⟨_, rfl⟩
          rw [← hW13]
          have U13 := Lib.hid (U12.out.over (g := mb) (A := MC) (A' := MC3) (by simp) (by rw [H3.out, HM2.out]) [(ub, stC bad), (mb, MC3)] (fun x hx => by
            simp only [List.mem_cons, List.not_mem_nil, or_false] at hx
            rcases hx with rfl | rfl
            · exact .inr ⟨by simp, by have := HUB.out; simp only []; omega⟩
            · exact .inl rfl) hW13 HR12.out)
          have HMZ2 := Lib.hid (show (Try.prog.info? 33).map (·.size) = some MC3.size by rw [H3.out]; exact sizeRM)
          have HUY := Lib.hid (fun W (hu : UMk w b B sz f2 MC3 f2 [(ub, stC bad), (mb, MC3)] W 901) => by
            obtain ⟨L, -, hm⟩ := hu.mem
            obtain ⟨L2, -, hr⟩ := hu.ref
            exact is_any b B sz f2 L L2 _ (.agg MC3) W hm (by have := HSZ.out; omega) hr)
          have B13 := Lib.hid (Below.refl W13.heap.size W13)
          clear hW13 U12 HR12 U11 HRW c7
          go_wp2_with (first
            | ((with_reducible show wpList _ _ _ (⟨some 101, _, _, _, _, _⟩ :: _) _ _); refine wpList_loadA rfl (U13.out.arr (ub, (stC bad)) (by simp)).1 38 (.tmp 19) rfl (by first | rfl | simp [Act.eval, Act.put]) Try.underlying38 rfl HS2.out ?_)
            | ((with_reducible show wpList _ _ _ (⟨some 106, _, _, _, _, _⟩ :: _) _ _); refine wpList_loadAG (by rfl) (U14.out.arr (mb, MC3) (by simp)).1 33 (.tmp 10) rfl (by first | rfl | simp [Act.eval, Act.put]) Try.underlying33 rfl HMZ2.out ?_)
            | (go_at_call 11; refine (code_any bad HBAD.out.1.1 HBAD.out.1.2 _).mono ?_; rintro e w14 ⟨rfl, hb⟩; have U14 := Lib.hid (U13.out.go hb); have B14 := Lib.hid (B13.out.trans (hb.mono B13.out.size)); clear hb)
            | (go_at_call 12; refine (HUY.out _ U14.out).mono ?_; rintro e w15 ⟨rfl, hb⟩; have U15 := Lib.hid (U14.out.go hb); have B15 := Lib.hid (B14.out.trans (hb.mono B14.out.size)); clear hb)
            | (go_at_call 7; refine (works_a _).mono ?_; rintro e w20 ⟨rfl, hb⟩; have UW := Lib.hid (U15.out.go hb); clear hb))
          try simp only [Act.put, List.setIfInBounds_toArray, List.set_cons_succ, List.set_cons_zero]
          go_ret
          exact ⟨rfl, UW.out.below⟩
        · have he : f2 = f := by
            rw [HF2.out]
            unfold smF
            split
            · rename_i h
              have : len = 0 := by
                have := fun h0 => hb1 ⟨h, h0⟩
                omega
              rw [this, upd_zero]
            · rfl
          rw [he] at U11
          have qb : ((bad == 0) = true ∧ decide ((0 : Int) < (len : Int)) = false) ∨ (bad == 0) = false := by
            by_cases h : bad = 0
            · exact .inl ⟨by simp [h], decide_eq_false (fun h0 => hb1 ⟨h, by omega⟩)⟩
            · exact .inr (by simp [h])
          have HUY := Lib.hid (fun W (hu : UMk w b B sz f MC f [(ub, stC bad), (sb, stC no), (mb, MC), (cb, C)] W 900) => by
            obtain ⟨L, -, hm⟩ := hu.mem
            obtain ⟨L2, -, hr⟩ := hu.ref
            exact is_any b B sz f L L2 _ (.agg MC) W hm (by have := HSZ.out; omega) hr)
          have HMZ2 := HMZ
          clear hb1 he HF2
          have B13 := B11
          rcases qb with ⟨qb, ql4⟩ | qb
          · have ql5 : decide (0 < len) = false := by rw [← ql4]; exact decide_eq_decide.2 (by omega)
            go_upto_region 16 with fail
            go_wp2_with (first
              | ((with_reducible show wpList _ _ _ (⟨some 101, _, _, _, _, _⟩ :: _) _ _); refine wpList_loadA rfl (U11.out.arr (ub, (stC bad)) (by simp)).1 38 (.tmp 19) rfl (by first | rfl | simp [Act.eval, Act.put]) Try.underlying38 rfl HS2.out ?_)
              | ((with_reducible show wpList _ _ _ (⟨some 106, _, _, _, _, _⟩ :: _) _ _); refine wpList_loadAG (by rfl) (U14.out.arr (mb, MC) (by simp)).1 33 (.tmp 10) rfl (by first | rfl | simp [Act.eval, Act.put]) Try.underlying33 rfl HMZ.out ?_)
              | (go_at_call 11; refine (code_any bad HBAD.out.1.1 HBAD.out.1.2 _).mono ?_; rintro e w14 ⟨rfl, hb⟩; have U14 := Lib.hid (U11.out.go hb); have B14 := Lib.hid (B13.out.trans (hb.mono B13.out.size)); clear hb)
              | (go_at_call 12; refine (HUY.out _ U14.out).mono ?_; rintro e w15 ⟨rfl, hb⟩; have U15 := Lib.hid (U14.out.go hb); have B15 := Lib.hid (B14.out.trans (hb.mono B14.out.size)); clear hb)
              | (go_at_call 7; refine (works_a _).mono ?_; rintro e w20 ⟨rfl, hb⟩; have UW := Lib.hid (U15.out.go hb); clear hb))
            try simp only [Act.put, List.setIfInBounds_toArray, List.set_cons_succ, List.set_cons_zero]
            go_ret
            exact ⟨rfl, UW.out.below⟩
          · go_upto_region 16 with fail
            go_wp2_with (first
              | ((with_reducible show wpList _ _ _ (⟨some 101, _, _, _, _, _⟩ :: _) _ _); refine wpList_loadA rfl (U11.out.arr (ub, (stC bad)) (by simp)).1 38 (.tmp 19) rfl (by first | rfl | simp [Act.eval, Act.put]) Try.underlying38 rfl HS2.out ?_)
              | ((with_reducible show wpList _ _ _ (⟨some 106, _, _, _, _, _⟩ :: _) _ _); refine wpList_loadAG (by rfl) (U14.out.arr (mb, MC) (by simp)).1 33 (.tmp 10) rfl (by first | rfl | simp [Act.eval, Act.put]) Try.underlying33 rfl HMZ.out ?_)
              | (go_at_call 11; refine (code_any bad HBAD.out.1.1 HBAD.out.1.2 _).mono ?_; rintro e w14 ⟨rfl, hb⟩; have U14 := Lib.hid (U11.out.go hb); have B14 := Lib.hid (B13.out.trans (hb.mono B13.out.size)); clear hb)
              | (go_at_call 12; refine (HUY.out _ U14.out).mono ?_; rintro e w15 ⟨rfl, hb⟩; have U15 := Lib.hid (U14.out.go hb); have B15 := Lib.hid (B14.out.trans (hb.mono B14.out.size)); clear hb)
              | (go_at_call 7; refine (works_a _).mono ?_; rintro e w20 ⟨rfl, hb⟩; have UW := Lib.hid (U15.out.go hb); clear hb))
            try simp only [Act.put, List.setIfInBounds_toArray, List.set_cons_succ, List.set_cons_zero]
            go_ret
            exact ⟨rfl, UW.out.below⟩
        
      · go_upto_region 10 with fail
        have hcv := HCV4.out _ BU.out
        go_upto_region 12 with (first
          | ((with_reducible show wpList _ _ _ (⟨some 66, _, _, _, _, _⟩ :: _) _ _); refine wpList_loadAG (by rfl) (UU.out.arr (sb, (stC no)) (by simp)).1 38 (.tmp 13) rfl (by first | rfl | simp [Act.eval, Act.put]) Try.underlying38 rfl HSS.out ?_)
          | ((with_reducible show wpList _ _ _ (⟨some 73, _, _, _, _, _⟩ :: _) _ _); refine wpList_loadAG (by rfl) (U7.out.arr (mb, MC) (by simp)).1 33 (.tmp 10) rfl (by first | rfl | simp [Act.eval, Act.put]) Try.underlying33 rfl HMZ.out ?_)
          | (go_at_call 11; refine (code_any no HNO.out.1.1 HNO.out.1.2 _).mono ?_; rintro e w7 ⟨rfl, hb⟩; have U7 := Lib.hid (UU.out.go hb); have B7 := Lib.hid (BU.out.trans (hb.mono BU.out.size)); clear hb)
          | (go_at_call 12; refine (HUX.out _ U7.out).mono ?_; rintro e w8 ⟨rfl, hb⟩; have U8 := Lib.hid (U7.out.go hb); have B8 := Lib.hid (B7.out.trans (hb.mono B7.out.size)); clear hb))
        have HR9 := Lib.hid (HRM.out w8 len B8.out (by omega) HLEN.out)
        go_upto_region 13 with (first
          | ((with_reducible show wpList _ _ _ (⟨some 77, _, _, _, _, _⟩ :: _) _ _); refine wpList_loadA rfl (U8.out.arr (mb, MC) (by simp)).1 33 (.tmp 10) rfl (by first | rfl | simp [Act.eval, Act.put]) Try.underlying33 rfl HMZ.out ?_)
          | ((with_reducible show wpList _ _ _ (⟨some 78, _, _, _, _, _⟩ :: _) _ _); refine wpList_loadA rfl (U8.out.arr (cb, C) (by simp)).1 28 (.tmp 5) rfl (by first | rfl | simp [Act.eval, Act.put]) Try.underlying28 rfl HCZ.out ?_)
          | (go_at_call 9; refine HR9.out.mono ?_; rintro e w9 ⟨rfl, hb⟩; have U9 := Lib.hid (U8.out.go hb); have B9 := Lib.hid (B8.out.trans (hb.mono B8.out.size)); clear hb))
        obtain ⟨bad, hbad⟩ : ∃ z, z = metaT sz mt len := ⟨_, rfl⟩
        have HBAD := Lib.hid (show (0 ≤ bad ∧ bad ≤ 255) ∧ bad = metaT sz mt len from ⟨by rw [hbad]; exact metaT_bd _ _ _, hbad⟩)
        have HSC := Lib.hid (umSm U9.out (by have := HSZ.out; omega) HCM.out ao len cap _ (by omega) ((U9.out.src HBA.out (by omega)).weak fun _ e => Bk.two e) (by obtain ⟨L, h1, h2⟩ := HL4.out; exact ⟨L, h1, h2.below B9.out⟩))
        obtain ⟨f2, hf2⟩ : ∃ z, z = smF (metaT sz mt len) f mt.toNat len (fun i => zs.getD i 0) := ⟨_, rfl⟩
        rw [← hf2, ← hbad] at HSC
        rw [← hbad]
        have HF2 := Lib.hid (show f2 = smF bad f mt.toNat len (fun i => zs.getD i 0) by rw [hf2, hbad])
        clear hbad hf2
        go_upto_region 14 with (first
          | ((with_reducible show wpList _ _ _ (⟨some 83, _, _, _, _, _⟩ :: _) _ _); refine wpList_loadA rfl (U9.out.arr (cb, C) (by simp)).1 28 (.tmp 5) rfl (by first | rfl | simp [Act.eval, Act.put]) Try.underlying28 rfl HCZ.out ?_)
          | (go_at_call 13; refine HSC.out.mono ?_; rintro e w10 ⟨rfl, hu⟩; have U10 := Lib.hid hu; have HF10 := Lib.hid (ArrAt.fresh w10 st0 38 (by decide)); clear hu)
          | ((with_reducible show wpList _ _ _ (⟨some 19, _, _, _, _, _⟩ :: _) _ _); refine wpList_alloc rfl 38 rfl zeroSt ?_; rw [show (Value.agg st0).cells = st0 from rfl])
          | ((with_reducible show wpList _ _ _ (⟨none, .store _ _ _, _, _, _, _⟩ :: _) _ _); refine wpList_storeA rfl (b := w10.heap.size) (A := st0) (A' := stC bad) HF10.out 38 (.tmp 19) (.tmp 85) rfl (by simp [Act.eval, Act.put]) (by simp [Act.eval, Act.put]) sizeSt (by rw [stC_size]; rfl) (stC_one bad) ?_))
        obtain ⟨W11, hW11⟩ : ∃ z, z = (w10.alloc (.cells st0 38)).setCells w10.heap.size 0 (stC bad).toList := ⟨_, rfl⟩
        rw [← hW11]
        have U11 := Lib.hid (U10.out.var 38 (Z := st0) (A := stC bad) (by decide) (by rw [stC_size]; rfl) hW11)
        obtain ⟨ub, hub⟩ : ∃ z, z = w10.heap.size := ⟨_, rfl⟩
        have HUB := Lib.hid (show mb < ub by rw [hub]; exact (U10.out.arr (mb, MC) (by simp)).1.lt)
        rw [← hub] at U11 ⊢
        have HS2 := Lib.hid (show (Try.prog.info? 38).map (·.size) = some (stC bad).size by rw [stC_size]; exact sizeSt)
        clear hW11 hub U10 HF10 HSC U9 B9 HR9 U8 B8 U7 B7
        have B11 := Lib.hid (Below.refl W11.heap.size W11)
        by_cases hb1 : bad = 0 ∧ 0 < len
        · obtain ⟨hb2, hb3⟩ := hb1
          have qb : (bad == 0) = true := by simp [hb2]
          have ql0 : decide ((0 : Int) < (len : Int)) = true := decide_eq_true (by omega)
          have ql4 : decide (0 < len) = true := decide_eq_true (by omega)
          have c7 := (((U11.out.arr (cb, C) (by simp)).1).cell HCM.out.g7)
          have HRW := Lib.hid (show Calls Try.prog 14 #[.agg MC, .int .u64 mt, .slice ao len cap] W11 fun e w' => ∃ MC3, e = .returned (.tuple #[.agg MC3, .int .i64 0]) ∧ MC3.size = 2 ∧ MC3.all (·.oneCell') = true ∧ Below W11.heap.size W11 w' ∧ ∃ L, L.length ≤ 901 ∧ RefAt (Bk b B [(ub, stC bad), (sb, stC no), (mb, MC), (cb, C)]) w' (.agg MC3) sz f2 L by
            obtain ⟨-, -, hr⟩ := U4.out.ref
            obtain ⟨L, hL, hr⟩ := U11.out.ref
            obtain ⟨L5, -, hm5⟩ := U11.out.mem
            have hk := chk_ok (metaT_ok (HBAD.out.2.symm.trans hb2) (by omega : (0 : Int) < (len : Int)))
            have h7 := HCM.out.b7
            have hsr := U11.out.src HBA.out (by omega)
            rw [show (#[Value.agg MC, .int .u64 mt, .slice ao len cap] : Array Value) = #[.agg MC, .int .u64 (mt.toNat : Nat), .slice ao len cap] by rw [show ((mt.toNat : Nat) : Int) = mt by omega]]
            refine Calls.mono (rwrite_ok (Bk b B [(ub, stC bad), (sb, stC no), (mb, MC), (cb, C)]) (.agg MC) sz f L mt.toNat len cap ao (fun i => zs.getD i 0) W11 hr (by have := HSZ.out; omega) (by omega) hb3 hsr (by omega) (fun j e => U11.out.blt e)) ?_
            rintro e w' ⟨v', rfl, hr', hb'⟩
            obtain ⟨MC3, rfl, h3, h4⟩ := refAt_form hr'
            refine ⟨MC3, rfl, h3, h4, hb', _, ?_, by rw [HF2.out]; unfold smF; rw [if_pos hb2]; exact hr'⟩
            simp only [List.length_append, List.length_cons, List.length_nil]
            omega)
          clear hb2 hb3
          go_upto_region 16 with (first
            | ((with_reducible show wpList _ _ _ (⟨some 94, _, _, _, _, _⟩ :: _) _ _); refine wpList_loadA rfl (U11.out.arr (mb, MC) (by simp)).1 33 (.tmp 10) rfl (by first | rfl | simp [Act.eval, Act.put]) Try.underlying33 rfl HMZ.out ?_)
            | (go_at_call 14; refine HRW.out.mono ?_; rintro e w12 ⟨MC3, rfl, h3, h4, hb, hr⟩; have U12 := Lib.hid (U11.out.go hb); have H3 := Lib.hid h3; have H4 := Lib.hid h4; have HR12 := Lib.hid hr; clear hb hr h3 h4)
            | ((with_reducible show wpList _ _ _ (⟨none, .store _ _ _, _, _, _, _⟩ :: _) _ _); refine wpList_storeA rfl (b := mb) (A := MC) (A' := MC3) ((U12.out.arr (mb, MC) (by simp)).1) 33 (.tmp 10) (.tmp 99) rfl (by simp [Act.eval, Act.put]) (by simp [Act.eval, Act.put]) HMZ.out (by rw [H3.out, HM2.out]) H4.out ?_))
          obtain ⟨W13, hW13⟩ : ∃ z, z = w12.setCells mb 0 MC3.toList := ⟨_, rfl⟩
          rw [← hW13]
          have U13 := Lib.hid (U12.out.over (g := mb) (A := MC) (A' := MC3) (by simp) (by rw [H3.out, HM2.out]) [(ub, stC bad), (mb, MC3)] (fun x hx => by
            simp only [List.mem_cons, List.not_mem_nil, or_false] at hx
            rcases hx with rfl | rfl
            · exact .inr ⟨by simp, by have := HUB.out; simp only []; omega⟩
            · exact .inl rfl) hW13 HR12.out)
          have HMZ2 := Lib.hid (show (Try.prog.info? 33).map (·.size) = some MC3.size by rw [H3.out]; exact sizeRM)
          have HUY := Lib.hid (fun W (hu : UMk w b B sz f2 MC3 f2 [(ub, stC bad), (mb, MC3)] W 901) => by
            obtain ⟨L, -, hm⟩ := hu.mem
            obtain ⟨L2, -, hr⟩ := hu.ref
            exact is_any b B sz f2 L L2 _ (.agg MC3) W hm (by have := HSZ.out; omega) hr)
          have B13 := Lib.hid (Below.refl W13.heap.size W13)
          clear hW13 U12 HR12 U11 HRW c7
          go_wp2_with (first
            | ((with_reducible show wpList _ _ _ (⟨some 101, _, _, _, _, _⟩ :: _) _ _); refine wpList_loadA rfl (U13.out.arr (ub, (stC bad)) (by simp)).1 38 (.tmp 19) rfl (by first | rfl | simp [Act.eval, Act.put]) Try.underlying38 rfl HS2.out ?_)
            | ((with_reducible show wpList _ _ _ (⟨some 106, _, _, _, _, _⟩ :: _) _ _); refine wpList_loadAG (by rfl) (U14.out.arr (mb, MC3) (by simp)).1 33 (.tmp 10) rfl (by first | rfl | simp [Act.eval, Act.put]) Try.underlying33 rfl HMZ2.out ?_)
            | (go_at_call 11; refine (code_any bad HBAD.out.1.1 HBAD.out.1.2 _).mono ?_; rintro e w14 ⟨rfl, hb⟩; have U14 := Lib.hid (U13.out.go hb); have B14 := Lib.hid (B13.out.trans (hb.mono B13.out.size)); clear hb)
            | (go_at_call 12; refine (HUY.out _ U14.out).mono ?_; rintro e w15 ⟨rfl, hb⟩; have U15 := Lib.hid (U14.out.go hb); have B15 := Lib.hid (B14.out.trans (hb.mono B14.out.size)); clear hb)
            | (go_at_call 7; refine (works_a _).mono ?_; rintro e w20 ⟨rfl, hb⟩; have UW := Lib.hid (U15.out.go hb); clear hb))
          try simp only [Act.put, List.setIfInBounds_toArray, List.set_cons_succ, List.set_cons_zero]
          go_ret
          exact ⟨rfl, UW.out.below⟩
        · have he : f2 = f := by
            rw [HF2.out]
            unfold smF
            split
            · rename_i h
              have : len = 0 := by
                have := fun h0 => hb1 ⟨h, h0⟩
                omega
              rw [this, upd_zero]
            · rfl
          rw [he] at U11
          have qb : ((bad == 0) = true ∧ decide ((0 : Int) < (len : Int)) = false) ∨ (bad == 0) = false := by
            by_cases h : bad = 0
            · exact .inl ⟨by simp [h], decide_eq_false (fun h0 => hb1 ⟨h, by omega⟩)⟩
            · exact .inr (by simp [h])
          have HUY := Lib.hid (fun W (hu : UMk w b B sz f MC f [(ub, stC bad), (sb, stC no), (mb, MC), (cb, C)] W 900) => by
            obtain ⟨L, -, hm⟩ := hu.mem
            obtain ⟨L2, -, hr⟩ := hu.ref
            exact is_any b B sz f L L2 _ (.agg MC) W hm (by have := HSZ.out; omega) hr)
          have HMZ2 := HMZ
          clear hb1 he HF2
          have B13 := B11
          rcases qb with ⟨qb, ql4⟩ | qb
          · have ql5 : decide (0 < len) = false := by rw [← ql4]; exact decide_eq_decide.2 (by omega)
            go_upto_region 16 with fail
            go_wp2_with (first
              | ((with_reducible show wpList _ _ _ (⟨some 101, _, _, _, _, _⟩ :: _) _ _); refine wpList_loadA rfl (U11.out.arr (ub, (stC bad)) (by simp)).1 38 (.tmp 19) rfl (by first | rfl | simp [Act.eval, Act.put]) Try.underlying38 rfl HS2.out ?_)
              | ((with_reducible show wpList _ _ _ (⟨some 106, _, _, _, _, _⟩ :: _) _ _); refine wpList_loadAG (by rfl) (U14.out.arr (mb, MC) (by simp)).1 33 (.tmp 10) rfl (by first | rfl | simp [Act.eval, Act.put]) Try.underlying33 rfl HMZ.out ?_)
              | (go_at_call 11; refine (code_any bad HBAD.out.1.1 HBAD.out.1.2 _).mono ?_; rintro e w14 ⟨rfl, hb⟩; have U14 := Lib.hid (U11.out.go hb); have B14 := Lib.hid (B13.out.trans (hb.mono B13.out.size)); clear hb)
              | (go_at_call 12; refine (HUY.out _ U14.out).mono ?_; rintro e w15 ⟨rfl, hb⟩; have U15 := Lib.hid (U14.out.go hb); have B15 := Lib.hid (B14.out.trans (hb.mono B14.out.size)); clear hb)
              | (go_at_call 7; refine (works_a _).mono ?_; rintro e w20 ⟨rfl, hb⟩; have UW := Lib.hid (U15.out.go hb); clear hb))
            try simp only [Act.put, List.setIfInBounds_toArray, List.set_cons_succ, List.set_cons_zero]
            go_ret
            exact ⟨rfl, UW.out.below⟩
          · go_upto_region 16 with fail
            go_wp2_with (first
              | ((with_reducible show wpList _ _ _ (⟨some 101, _, _, _, _, _⟩ :: _) _ _); refine wpList_loadA rfl (U11.out.arr (ub, (stC bad)) (by simp)).1 38 (.tmp 19) rfl (by first | rfl | simp [Act.eval, Act.put]) Try.underlying38 rfl HS2.out ?_)
              | ((with_reducible show wpList _ _ _ (⟨some 106, _, _, _, _, _⟩ :: _) _ _); refine wpList_loadAG (by rfl) (U14.out.arr (mb, MC) (by simp)).1 33 (.tmp 10) rfl (by first | rfl | simp [Act.eval, Act.put]) Try.underlying33 rfl HMZ.out ?_)
              | (go_at_call 11; refine (code_any bad HBAD.out.1.1 HBAD.out.1.2 _).mono ?_; rintro e w14 ⟨rfl, hb⟩; have U14 := Lib.hid (U11.out.go hb); have B14 := Lib.hid (B13.out.trans (hb.mono B13.out.size)); clear hb)
              | (go_at_call 12; refine (HUY.out _ U14.out).mono ?_; rintro e w15 ⟨rfl, hb⟩; have U15 := Lib.hid (U14.out.go hb); have B15 := Lib.hid (B14.out.trans (hb.mono B14.out.size)); clear hb)
              | (go_at_call 7; refine (works_a _).mono ?_; rintro e w20 ⟨rfl, hb⟩; have UW := Lib.hid (U15.out.go hb); clear hb))
            try simp only [Act.put, List.setIfInBounds_toArray, List.set_cons_succ, List.set_cons_zero]
            go_ret
            exact ⟨rfl, UW.out.below⟩
        

end Go.Proofs.Ytfmabknhfehdcaa
