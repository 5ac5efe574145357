/- transfer: the law TransferHolds. -/
import Derived.Test.YtfmabknhfehdcaaZT42
import Derived.Test.YtfmabknhfehdcaaZT40
import Derived.Test.YtfmabknhfehdcaaZT10
import Derived.Test.YtfmabknhfehdcaaZT15
import Derived.Deep.CutRange
namespace Go.Proofs.Ytfmabknhfehdcaa
set_option linter.unusedVariables false
set_option linter.unusedSimpArgs false
open Go.RowKit

set_option maxRecDepth 100000 in
set_option maxHeartbeats 16000000 in
theorem holdsLaw (la : Option Addr) (ln lc : Nat) (zl : List Int) (sgl : Bool) (os st : Int) (da : Option Addr) (dn dc : Nat) (zd : List Int) (w : World) (hLr : IsRow .u8 w la ln lc zl) (hos : (Lit.int .u16 os).wf = true) (hst : (Lit.int .u16 st).wf = true) (hDr : IsRow .u8 w da dn dc zd) :
    Calls Try.prog 4 #[.slice la ln lc, .bool sgl, .int .u16 os, .int .u16 st, .slice da dn dc] w fun e w' => e = .returned (.bool true) ∧ Below w.heap.size w w' := by
  have ho2 : 0 ≤ os ∧ os ≤ 65535 := wf_u16 hos
  have hs2 : 0 ≤ st ∧ st ≤ 65535 := wf_u16 hst
  obtain ⟨hLA, hLZ, hlm⟩ := bAt_of hLr
  obtain ⟨hDA, hDZ, hdm⟩ := bAt_of hDr
  have HLA := Lib.hid hLA
  have HDA := Lib.hid hDA
  have HDR := Lib.hid hDr
  obtain ⟨o, ho⟩ : ∃ o, o = os % 1024 * 4 := ⟨_, rfl⟩
  obtain ⟨K, hK⟩ : ∃ K, K = pgs o dn := ⟨_, rfl⟩
  have HK := Lib.hid hK.symm
  have HO := Lib.hid (show 0 ≤ o ∧ o < 4096 ∧ o % 4 = 0 by omega)
  have h0 : 0 ≤ o := by omega
  have h1 : o ≤ 4092 := by omega
  obtain ⟨ho0, ho1⟩ := ho2
  obtain ⟨hs0, hs1⟩ := hs2
  clear hLr hDr hos hst hK hLA hDA
  go_enter Try.func4, Try.ntmps4
  go_upto_region 3 with (go_at_call 15; refine (new_ok 20 _ (by omega) (by omega)).mono ?_; rintro e w1 ⟨b, B, rfl, hb0, hB0, hb, hm⟩; have M1 := Lib.hid hm; have B1 := Lib.hid hb; have HB0 := Lib.hid (And.intro hb0 hB0); clear hm hb hb0 hB0)
  rw [← ho]
  clear ho
  by_cases hg : ln ≤ 12 ∧ dn ≤ 60000 ∧ (ln : Int) = K
  case neg =>
    have hq : (decide ((12 : Int) < (ln : Int)) = true ∧ decide (12 < ln) = true) ∨ ((decide ((12 : Int) < (ln : Int)) = false ∧ decide (12 < ln) = false) ∧ ((decide ((60000 : Int) < (dn : Int)) = true ∧ decide (60000 < dn) = true) ∨ ((decide ((60000 : Int) < (dn : Int)) = false ∧ decide (60000 < dn) = false) ∧ ((ln : Int) != K) = true))) := by
      by_cases a1 : 12 < ln
      · exact .inl ⟨decide_eq_true (by omega), decide_eq_true a1⟩
      · refine .inr ⟨⟨decide_eq_false (by omega), decide_eq_false a1⟩, ?_⟩
        by_cases a2 : 60000 < dn
        · exact .inl ⟨decide_eq_true (by omega), decide_eq_true a2⟩
        · refine .inr ⟨⟨decide_eq_false (by omega), decide_eq_false a2⟩, ?_⟩
          have : (ln : Int) ≠ K := fun e => hg ⟨by omega, by omega, e⟩
          simpa using this
    clear hg
    rcases hq with ⟨q1, q2⟩ | ⟨⟨q1, q2⟩, ⟨q3, q4⟩ | ⟨⟨q3, q4⟩, q5⟩⟩
    all_goals
      go_wp2_with (first
        | (go_at_call 16; refine (rcount_any o dn K _ (by omega) (by omega) HK.out).mono ?_; rintro e w' ⟨rfl, rfl⟩)
        | (go_at_call 7; refine (works_a _).mono ?_; rintro e w3 ⟨rfl, hb⟩; have B3 := Lib.hid (B1.out.trans (hb.mono B1.out.size)); clear hb))
      go_ret
      exact ⟨rfl, B3.out⟩
  case pos =>
    obtain ⟨g1, g2, g3⟩ := hg
    have q1 : decide ((12 : Int) < (ln : Int)) = false := decide_eq_false (by omega)
    have q2 : decide (12 < ln) = false := decide_eq_false (by omega)
    have q3 : decide ((60000 : Int) < (dn : Int)) = false := decide_eq_false (by omega)
    have q4 : decide (60000 < dn) = false := decide_eq_false (by omega)
    have q5 : ((ln : Int) != K) = false := by simp [g3]
    have G3 := Lib.hid g3
    clear g3
    go_upto_region 8 with (go_at_call 16; refine (rcount_any o dn K _ (by omega) (by omega) HK.out).mono ?_; rintro e w' ⟨rfl, rfl⟩)
    obtain ⟨u, hu⟩ : ∃ u, u = w1.heap.size := ⟨_, rfl⟩
    obtain ⟨kk, hkk⟩ : ∃ kk, kk = kkL zl := ⟨_, rfl⟩
    obtain ⟨W0, hW0⟩ : ∃ z, z = w1.alloc (.cells #[.bool false, .bool false, .bool false, .bool false, .bool false, .bool false, .bool false, .bool false, .bool false, .bool false, .bool false, .bool false, .bool false, .bool false, .bool false, .bool false] 55) := ⟨_, rfl⟩
    rw [← hW0, ← hu]
    have I0 := Lib.hid (show L1 w1 u kk 0 (.slice none 0 0) W0 from ⟨by rw [hW0]; exact (Below.refl _ _).alloc (Nat.le_refl _) _, by
      rw [hW0, hu]
      exact World.rowIs_alloc w1 _ 55 _ (fun i hi => by match i, hi with | 0, _ => rfl | 1, _ => rfl | 2, _ => rfl | 3, _ => rfl | 4, _ => rfl | 5, _ => rfl | 6, _ => rfl | 7, _ => rfl | 8, _ => rfl | 9, _ => rfl | 10, _ => rfl | 11, _ => rfl | 12, _ => rfl | 13, _ => rfl | 14, _ => rfl | 15, _ => rfl | n + 16, h => exact absurd h (by show ¬ n + 16 < 16; omega)), World.ownsRow_nil _ _ _ _, fun i j h => by omega⟩)
    have HU := Lib.hid hu
    have HKK := Lib.hid hkk
    clear hW0 hu hkk
    go_loopw [14, 16] (fun v14 v16 wr => ∃ k : Nat, k ≤ ln ∧ v16 = .int .i64 (k : Nat) ∧ L1 w1 u kk k v14 wr) (fun _ v16 _ => ln - (intOf v16).toNat)
    case atStart => exact ⟨0, Nat.zero_le _, rfl, I0.out⟩
    case round =>
      obtain ⟨k, hk, rfl, hI⟩ := hrel
      have HI := Lib.hid hI
      clear hI
      by_cases hkn : k < ln
      · have q7 : decide ((k : Int) < (ln : Int)) = true := decide_eq_true (by omega)
        obtain ⟨g, oo, hla, hc⟩ := HLA.out k hkn
        subst hla
        have c0 : wr.cell? ⟨g, oo + k, none⟩ = some (.int .u8 (zl.getD k 0)) := ((B1.out.trans (HI.out.below.mono B1.out.size)).cell (p := ⟨g, oo + k, none⟩) (World.block_lt_of_cell? _ _ hc)).trans hc
        obtain ⟨a0, a1⟩ := hLZ k
        obtain ⟨a, ha⟩ : ∃ a, a = zl.getD k 0 := ⟨_, rfl⟩
        obtain ⟨m, hm⟩ : ∃ m : Nat, a % 16 = (m : Int) := ⟨(a % 16).toNat, by omega⟩
        have HKM := Lib.hid (show kk k = m by rw [HKK.out]; unfold kkL; rw [← ha]; omega)
        rw [← ha] at c0 a0 a1
        have hm16 : m < 16 := by omega
        clear ha hc
        go_upto_region 11 with fail
        rw [hm]
        clear hm
        have cu : wr.cell? ⟨u, m, none⟩ = some (.bool (uF kk k m)) := HI.out.row.cell (i := m) (by omega)
        have fu : wr.frozen? ⟨u, m, none⟩ = false := HI.out.row.frozen m
        by_cases hU : uF kk k m = true
        · rw [hU] at cu
          go_wp2_with (go_at_call 7; refine (works_a _).mono ?_; rintro e w3 ⟨rfl, hb⟩; have B3 := Lib.hid ((B1.out.trans (HI.out.below.mono B1.out.size)).trans (hb.mono (Nat.le_trans B1.out.size HI.out.below.size))); clear hb)
          go_ret
          exact ⟨rfl, B3.out⟩
        · have hU' : uF kk k m = false := by simpa using hU
          rw [hU'] at cu
          have HUN := Lib.hid hU'
          clear hU hU'
          go_upto_region 14 with fail
          obtain ⟨W2, hW2⟩ : ∃ z, z = wr.setCell ⟨u, m, none⟩ (.bool true) := ⟨_, rfl⟩
          rw [← hW2]
          have k2 : Keeps (One u) wr W2 := by rw [hW2]; exact (Keeps.refl (One u) wr).setCell (p := ⟨u, m, none⟩) (fun _ => rfl) _
          have O2 := Lib.hid (ownsRow_keeps HI.out.own k2 (fun g hg e => by have e : g = u := e; omega))
          have R2 := Lib.hid (show W2.rowIs u 55 16 (fun q => .bool (uF kk (k + 1) q)) by
            rw [hW2]
            refine (HI.out.row.set m (.bool true)).congr fun q _ => ?_
            rw [uF_succ, HKM.out]
            by_cases e : q = m
            · subst e; simp
            · have : (m == q) = false := beq_eq_false_iff_ne.2 (fun h => e h.symm)
              simp [e, this])
          have B2 := Lib.hid (show Below w1.heap.size w1 W2 by rw [hW2]; exact HI.out.below.setCell (p := ⟨u, m, none⟩) (by rw [HU.out]; exact Nat.le_refl _) _)
          obtain ⟨i0, hi0, hz0, hz1, hz2⟩ := info_parts infoU64
          have HBS := Lib.hid run_bsu
          clear hW2 k2 cu fu c0
          go_wp2_with (first
            | ((with_reducible show wpList _ _ _ (⟨some 81, _, _, _, _, _⟩ :: _) _ _); refine wpList_bs rfl 54 1 #[(0, .tmp 80)] rfl #[(0, .int .u64 ((m : Int) * 4096))] (by simp [Act.eval, Act.put]) (HBS.out _ _) ?_)
            | ((with_reducible show wpList _ _ _ (⟨some 82, _, _, _, _, _⟩ :: _) _ _); go_loud (refine wpList_append_own _ rfl _ _ 54 rfl (u + 1) 24 i0 (.int .u64 0) 1 8 Try.underlying54 hi0 hz0 hz1 hz2 rfl (by decide) u14 k (pV kk k) rfl (O2.out.alloc (.cells #[.int .u64 ((m : Int) * 4096)] 24)) ⟨W2.heap.size, 0, none⟩ 1 1 [.int .u64 ((m : Int) * 4096)] rfl rfl (World.news_of_block (cs := #[.int .u64 ((m : Int) * 4096)]) (t := 24) (fr := (0, 0)) (heap_alloc_new W2 _)) (by simp [Value.oneCell']) (by unfold maxLen; omega) (by omega) (by have := B2.out.size; have := HU.out; simp; omega) ?_; intro v7 w7 hown7 hgr7 hnil7; have O7 := Lib.hid hown7; have G7 := Lib.hid hgr7; clear hown7 hgr7 hnil7)))
          have hul : u < W2.heap.size := World.block_lt_of_cell? _ _ (R2.out.cell (i := 0) (by omega))
          have hno : ∀ j, j < k → kk j ≠ m := fun j hj e => by
            have h := HUN.out
            rw [uF_true.2 ⟨j, hj, e⟩] at h
            cases h
          refine ⟨⟨k + 1, by omega, by rw [Int.natCast_add]; rfl, ⟨(B2.out.alloc B2.out.size _).grown G7.out (by have := B2.out.size; simp; omega) (fun q e => by have := (O2.out.lt q e).1; have := HU.out; omega), ?_, ?_, fun i j hi hj hne => ?_⟩⟩, by simp [intOf]; omega⟩
          · exact (R2.out.alloc _).of_block (G7.out.block u (by simp; omega) (fun e => by have := (O2.out.lt u (by first | exact e | exact e.symm)).1; omega))
          · have h := O7.out
            rw [pV_succ, HKM.out, Int.mul_comm]
            exact h
          · by_cases e1 : i = k
            · by_cases e2 : j = k
              · omega
              · rw [e1, HKM.out]
                exact fun e => hno j (by omega) e.symm
            · by_cases e2 : j = k
              · rw [e2, HKM.out]
                exact hno i (by omega)
              · exact HI.out.dist i j (by omega) (by omega) hne
      · have q7 : decide ((k : Int) < (ln : Int)) = false := decide_eq_false (by omega)
        obtain rfl : k = ln := by omega
        obtain ⟨pav, pcap, rfl, pl1, pl2⟩ := ownsRow_shape HI.out.own
        have HPU := Lib.hid (uAt_pV HI.out.own)
        have hkb : ∀ i, kk i < 16 := fun i => by rw [HKK.out]; unfold kkL; omega
        have HKB := Lib.hid hkb
        have HTA := Lib.hid (hold_targ (n := k) (kk := kk) (dn := dn) (o := o) (G3.out.trans HK.out.symm) h0 (by omega) HO.out.2.2 g2)
        have HPG := Lib.hid (hold_pgs (n := k) (kk := kk) (o := o) h0 (by omega) HI.out.dist)
        obtain ⟨s, hs⟩ : ∃ s : Nat, st % 512 = (s : Int) := ⟨(st % 512).toNat, by omega⟩
        have hs5 : s < 512 := by omega
        have HBT := Lib.hid (fun hn => hold_bt (n := k) (kk := kk) (dn := dn) (o := o) (s := s) (G3.out.trans HK.out.symm) h0 (by omega) HO.out.2.2 g2 HKB.out hs5 hn)
        clear hkb
        have HHO := Lib.hid (show HOk w b B u k kk pav [] wr from ⟨B1.out.trans (HI.out.below.mono B1.out.size), HB0.out.1, HB0.out.2, ⟨by have := M1.out.lt; have := HU.out; omega, by have := M1.out.lt'; have := HU.out; omega⟩, HI.out.row, HPU.out, fun a e h => by
          subst e
          have h1 := (HI.out.own.lt a.block (by rfl)).1
          have h2 := M1.out.lt
          have h3 := M1.out.lt'
          have h4 := HU.out
          rcases h with h | h <;> omega, fun x hx => by cases hx⟩)
        have MW := Lib.hid (show MemAt wr b B 81920 (fun _ => 0) [] from M1.out.below (HI.out.below))
        have HC0 := Lib.hid (build_c7 sgl)
        have HCM := Lib.hid (c7_cm sgl)
        have HC3 := Lib.hid (c7_3 sgl)
        obtain ⟨C0, hC0⟩ : ∃ C, C = c7 sgl := ⟨_, rfl⟩
        rw [← hC0] at HC0 HCM HC3
        have HBS := Lib.hid run_bs2
        have HUL := Lib.hid (uAt_ls2 wr s)
        have hbl : Below wr.heap.size wr (wr.alloc (.cells #[.int .u64 (69632 + (s : Int) * 8), .int .u64 77824] 24)) := (Below.refl _ _).alloc (Nat.le_refl _) _
        have HPR := Lib.hid (hold_prep (b := b) (B := B) (pc := pcap) HTA.out HBT.out HKB.out hs5 (by omega) HCM.out (some ⟨wr.heap.size, 0, none⟩) pav _ (MW.out.below hbl) (HPU.out.below hbl) HUL.out (fun a e h => by
          cases e
          have h2 := MW.out.lt
          have h3 := MW.out.lt'
          rcases h with h | h <;> simp only at h <;> omega) pl1 (by unfold maxLen at pl2; omega))
        have HBL := Lib.hid hbl
        clear hbl hC0
        go_upto_region 16 with (first
          | ((with_reducible show wpList _ _ _ (⟨some 86, _, _, _, _, _⟩ :: _) _ _); go_loud (refine wpList_build2 rfl 28 2 3 (.tmp 85) (.const (.int .u16 7)) rfl _ _ rfl rfl (HC0.out _) ?_))
          | ((with_reducible show wpList _ _ _ (⟨some 92, _, _, _, _, _⟩ :: _) _ _); go_loud (refine wpList_bs rfl 54 2 #[(0, .tmp 91), (1, .const (.int .u64 77824))] rfl #[(0, .int .u64 (69632 + (s : Int) * 8)), (1, .int .u64 77824)] (by simp [Act.eval, Act.put]) (HBS.out _ _ _) ?_))
          | (go_at_call 17; refine HPR.out.mono ?_; rintro e w5 ⟨x, y, F, L, rfl, hx, hy, hk, hm, hL, hF, hsp, hz⟩; have H5 := Lib.hid (HHO.out.go HBL.out |>.kept hk); have M5 := Lib.hid hm; have HL5 := Lib.hid hL; have HF5 := Lib.hid hF; have HSP := Lib.hid hsp; have HZ5 := Lib.hid hz; have HX := Lib.hid hx; have HY := Lib.hid hy; have DCM := Lib.hid (cmD_cm HCM.out hx hy); have D3 := Lib.hid ((cmD_at (C := C0) (x := x) (y := y) (by decide) (by decide)).trans HC3.out); obtain ⟨D, hD⟩ : ∃ D, D = cmD C0 x y := ⟨_, rfl⟩; rw [← hD] at DCM D3 ⊢; clear hx hy hk hm hL hF hsp hz hD; have HF1 := Lib.hid (ArrAt.fresh w5 zCm 28 (by decide)))
          | ((with_reducible show wpList _ _ _ (⟨some 18, _, _, _, _, _⟩ :: _) _ _); refine wpList_alloc rfl 28 rfl zeroCm ?_; rw [show (Value.agg zCm).cells = zCm from rfl])
          | ((with_reducible show wpList _ _ _ (⟨none, .store _ _ _, _, _, _, _⟩ :: _) _ _); refine wpList_storeA rfl (b := w5.heap.size) (A := zCm) (A' := D) HF1.out 28 (.tmp 18) (.tmp 98) rfl (by simp [Act.eval, Act.put]) (by simp [Act.eval, Act.put]) sizeCm (by rw [DCM.out.z]; rfl) DCM.out.o ?_))
        obtain ⟨W6, hW6⟩ : ∃ z, z = (w5.alloc (.cells zCm 28)).setCells w5.heap.size 0 D.toList := ⟨_, rfl⟩
        rw [← hW6]
        obtain ⟨p18, hp18⟩ : ∃ z, z = w5.heap.size := ⟨_, rfl⟩
        have H6 := Lib.hid (H5.out.var M5.out.lt M5.out.lt' 28 (Z := zCm) (A := D) (by decide) (by rw [DCM.out.z]; rfl) hW6)
        have M6 := Lib.hid (M5.out.below (stored_at (y := w5) (T := 28) (Z := zCm) (A := D) (by decide) (by rw [DCM.out.z]; rfl) hW6).1)
        rw [← hp18] at H6 ⊢
        have HDZ := Lib.hid (show (Try.prog.info? 28).map (·.size) = some D.size by rw [DCM.out.z]; exact sizeCm)
        clear hW6 hp18 H5 M5 HF1 HPR HUL HBL HHO MW
        go_upto_region 17 with (go_at_call 18; refine (copy_ok b B 81920 F L _ M6.out).mono ?_; rintro e w7 ⟨b2, B2, rfl, hb1, hB1, hb, hm⟩; have H7 := Lib.hid (H6.out.go hb); have M7 := Lib.hid (M6.out.below hb); have N7 := Lib.hid hm; have HN := Lib.hid (show ¬ Two b B b2 ∧ ¬ Two b B B2 by have h2 := M6.out.lt; have h3 := M6.out.lt'; exact ⟨fun e => by rcases e with e | e <;> omega, fun e => by rcases e with e | e <;> omega⟩); clear hb1 hB1 hb hm)
        obtain ⟨z, hz⟩ : ∃ z : Nat → Int, z = fun i => zd.getD i 0 := ⟨_, rfl⟩
        have HSR := Lib.hid (hold_rest HDR.out H7.out.below HB0.out.1 HB0.out.2 g2)
        rw [← hz] at HDA HSR
        have HZB := Lib.hid (show Bytes z by rw [hz]; exact hDZ)
        obtain ⟨F2, hF2⟩ : ∃ q, q = scatF z (outP (pgK kk) o dn k) 0 F := ⟨_, rfl⟩
        have HSC := Lib.hid (hold_sc HTA.out (by omega) DCM.out b B F HF5.out HSP.out z L (by have := HL5.out; omega) da dc w7 M7.out HSR.out)
        rw [← hF2] at HSC
        have HF2 := Lib.hid hF2
        clear hz hDZ hF2
        go_upto_region 18 with (first
          | ((with_reducible show wpList _ _ _ (⟨some 103, _, _, _, _, _⟩ :: _) _ _); refine wpList_loadA rfl (H7.out.arr (p18, D) (by simp)).1 28 (.tmp 18) rfl (by first | rfl | simp [Act.eval, Act.put]) Try.underlying28 rfl HDZ.out ?_)
          | (go_at_call 19; refine HSC.out.mono ?_; rintro e w8 ⟨rfl, hk, L2, -, hm⟩; have H8 := Lib.hid (H7.out.kept hk); have M8 := Lib.hid hm; have N8 := Lib.hid (N7.out.kept hk HN.out.1 HN.out.2); clear hk hm; have HF8 := Lib.hid (ArrAt.fresh w8 st0 38 (by decide)))
          | ((with_reducible show wpList _ _ _ (⟨some 21, _, _, _, _, _⟩ :: _) _ _); refine wpList_alloc rfl 38 rfl zeroSt ?_; rw [show (Value.agg st0).cells = st0 from rfl])
          | ((with_reducible show wpList _ _ _ (⟨none, .store _ _ _, _, _, _, _⟩ :: _) _ _); refine wpList_storeA rfl (b := w8.heap.size) (A := st0) (A' := stC 0) HF8.out 38 (.tmp 21) (.tmp 105) rfl (by simp [Act.eval, Act.put]) (by simp [Act.eval, Act.put]) sizeSt (by rw [stC_size]; rfl) (stC_one 0) ?_))
        obtain ⟨W9, hW9⟩ : ∃ z, z = (w8.alloc (.cells st0 38)).setCells w8.heap.size 0 (stC 0).toList := ⟨_, rfl⟩
        rw [← hW9]
        obtain ⟨p21, hp21⟩ : ∃ z, z = w8.heap.size := ⟨_, rfl⟩
        have hb9 := (stored_at (y := w8) (T := 38) (Z := st0) (A := stC 0) (by decide) (by rw [stC_size]; rfl) hW9).1
        have H9 := Lib.hid (H8.out.var M8.out.lt M8.out.lt' 38 (Z := st0) (A := stC 0) (by decide) (by rw [stC_size]; rfl) hW9)
        have M9 := Lib.hid (M8.out.below hb9)
        have N9 := Lib.hid (N8.out.below hb9)
        rw [← hp21] at H9 ⊢
        have HSZ := Lib.hid (show (Try.prog.info? 38).map (·.size) = some (stC 0).size by rw [stC_size]; exact sizeSt)
        clear hW9 hp21 hb9 H8 M8 N8 HF8 HSC HSR H7 M7 N7 H6 M6
        have c2 := ((H9.out.arr (p18, D) (by simp)).1).cell DCM.out.g2
        have c3 := ((H9.out.arr (p18, D) (by simp)).1).cell D3.out
        go_upto_region 21 with (first
          | (go_at_call 20; refine (num16_any _ _).mono ?_; rintro e w' ⟨rfl, rfl⟩)
          | ((with_reducible show wpList _ _ _ (⟨some 124, _, _, _, _, _⟩ :: _) _ _); refine wpList_loadAG (by rfl) (H9.out.arr (p21, stC 0) (by simp)).1 38 (.tmp 21) rfl (by first | rfl | simp [Act.eval, Act.put]) Try.underlying38 rfl HSZ.out ?_)
          | (go_at_call 11; refine (code_any 0 (by decide) (by decide) _).mono ?_; rintro e w10 ⟨rfl, hb⟩; have H10 := Lib.hid (H9.out.go hb); have M10 := Lib.hid (M9.out.below hb); have N10 := Lib.hid (N9.out.below hb); have hcv := bAt_str (BAt.below HDA.out H10.out.below) dc; clear hb)
          | ((with_reducible show wpList _ _ _ (⟨some 130, _, _, _, _, _⟩ :: _) _ _); refine wpList_loadAG (by rfl) (H10.out.arr (p18, D) (by simp)).1 28 (.tmp 18) rfl (by first | rfl | simp [Act.eval, Act.put]) Try.underlying28 rfl HDZ.out ?_)
          | (go_at_call 21; refine (hold_ga HTA.out HPG.out (fun i hi => hold_low HKB.out i) (by omega) DCM.out b B F HF5.out HSP.out z HZB.out L2 w10 (by rw [HF2.out] at M10; exact M10.out)).mono ?_; rintro e w11 ⟨rfl, hb⟩; have H11 := Lib.hid (H10.out.go hb); have M11 := Lib.hid (M10.out.below hb); have N11 := Lib.hid (N10.out.below hb); clear hb))
        clear c2 c3 hcv H10 M10 N10 H9 M9 N9
        have hku := HU
        have HFE := Lib.hid (show ∀ j, j < 20 → ¬ (j < 16 ∧ uF kk k j = true) → ∀ i, i < 4096 → F2 (4096 * j + i) = F (4096 * j + i) from fun j hj hn i hi => by
          rw [HF2.out]
          by_cases h16 : j < 16
          · have hf : uF kk k j = false := by
              cases h : uF kk k j with
              | false => rfl
              | true => exact absurd ⟨h16, h⟩ hn
            exact hold_page HPG.out (fun i hi => hold_ne hf i hi) z F _ (by omega) (by omega)
          · exact hold_off HPG.out (l0 := 65536) (fun i hi => by have := HKB.out i; unfold pgK; omega) z F _ (by omega))
        go_loopw [22] (fun v22 wr => ∃ j : Nat, j ≤ 20 ∧ v22 = .int .i64 (j : Nat) ∧ HOk w b B u k kk pav [(p21, stC 0), (p18, D)] wr ∧ MemAt wr b B 81920 F2 L2 ∧ MemAt wr b2 B2 81920 F L) (fun v22 _ => 20 - (intOf v22).toNat)
        case atStart => exact ⟨0, by omega, rfl, H11.out, M11.out, N11.out⟩
        case round =>
          obtain ⟨j, hj, rfl, hH, hM, hN⟩ := hrel
          have HR := Lib.hid hH
          have MR := Lib.hid hM
          have NR := Lib.hid hN
          clear hH hM hN H11 M11 N11
          by_cases hj20 : j < 20
          · have q8 : decide ((j : Int) < 20) = true := decide_eq_true (by omega)
            have q8' : decide (j < 20) = true := decide_eq_true (by omega)
            by_cases hU : j < 16 ∧ uF kk k j = true
            · obtain ⟨hU1, hU2⟩ := hU
              have q9 : decide ((j : Int) < 16) = true := decide_eq_true (by omega)
              have q9' : decide (j < 16) = true := decide_eq_true (by omega)
              have cu : wr.cell? ⟨u, j, none⟩ = some (.bool (uF kk k j)) := HR.out.row.cell (i := j) (by omega)
              rw [hU2] at cu
              clear hU2
              go_wp2_with fail
              go_roundw
              case rel => exact ⟨j + 1, by omega, by go_num, HR.out, MR.out, NR.out⟩
              case measure => simp [intOf]; omega
            · have HE := Lib.hid (HFE.out j hj20 hU)
              obtain ⟨s1, hs1⟩ : ∃ q, q = strOf 4096 (fun i => F (4096 * j + i)) := ⟨_, rfl⟩
              have HS1 := Lib.hid hs1
              have HS2 := Lib.hid (show s1 = strOf 4096 (fun i => F2 (4096 * j + i)) by rw [hs1]; exact strOf_congr fun i hi => (HE.out i hi).symm)
              have HRA := Lib.hid (read_okI b B 81920 F2 L2 ((j : Int) * 4096) 4096 wr MR.out (by omega) (by omega) (by omega))
              have HRB := Lib.hid (fun W (hN : MemAt W b2 B2 81920 F L) => read_okI b2 B2 81920 F L ((j : Int) * 4096) 4096 W hN (by omega) (by omega) (by omega))
              have hz1 : ((j : Int) * 4096).toNat = 4096 * j := by omega
              have hz2 : (4096 : Int).toNat = 4096 := rfl
              rw [hz1, hz2] at HRA HRB
              have hgd : (decide ((j : Int) < 16) = true ∧ decide (j < 16) = true ∧ j < 16 ∧ wr.cell? ⟨u, j, none⟩ = some (.bool false)) ∨ (decide ((j : Int) < 16) = false ∧ decide (j < 16) = false) := by
                by_cases h16 : j < 16
                · refine .inl ⟨decide_eq_true (by omega), decide_eq_true h16, h16, ?_⟩
                  have cu : wr.cell? ⟨u, j, none⟩ = some (.bool (uF kk k j)) := HR.out.row.cell (i := j) h16
                  cases h : uF kk k j with
                  | false => rw [h] at cu; exact cu
                  | true => exact absurd ⟨h16, h⟩ hU
                · exact .inr ⟨decide_eq_false (by omega), decide_eq_false h16⟩
              clear hs1 hz1 hz2 hU HE
              rcases hgd with ⟨q9, q9', hj16, cu⟩ | ⟨q9, q9'⟩
              all_goals
                go_upto_region 25 with (go_at_call 22; refine HRA.out.mono ?_; rintro e w12 ⟨v, rfl, hnb, hb⟩; have hnb' := hnb; obtain ⟨n1, n2, n3, rfl, -⟩ := hnb'; have HNB := Lib.hid hnb; have H12 := Lib.hid (HR.out.go hb); have M12 := Lib.hid (MR.out.below hb); have N12 := Lib.hid (NR.out.below hb); clear hb hnb)
                go_upto_region 26 with (go_at_call 22; refine (HRB.out _ N12.out).mono ?_; rintro e w13 ⟨v, rfl, hnb, hb⟩; have hcb := newBytes_str hnb; obtain ⟨m1, m2, m3, rfl, -⟩ := hnb; have hca := newBytes_str (HNB.out.kept (Keeps.of_below (S := fun _ => False) hb) (fun _ _ e => e)); rw [← HS2.out] at hca; rw [← HS1.out] at hcb; have H13 := Lib.hid (H12.out.go hb); have M13 := Lib.hid (M12.out.below hb); have N13 := Lib.hid (N12.out.below hb); clear hb)
                go_wp2_with (go_at_call 20; refine (num16_any _ _).mono ?_; rintro e w' ⟨rfl, rfl⟩)
                go_roundw
                case rel => exact ⟨j + 1, by omega, by go_num, H13.out, M13.out, N13.out⟩
                case measure => simp [intOf]; omega
          · obtain rfl : 20 = j := by omega
            by_cases hk0 : 0 < k
            · have qk : decide ((0 : Int) < (k : Int)) = true := decide_eq_true (by omega)
              have qk' : decide (0 < k) = true := decide_eq_true hk0
              have HPGR := Lib.hid HR.out.pg
              obtain ⟨g, oo, hpa, hc⟩ := HR.out.pg hk0
              subst hpa
              have c0 := hc 0 hk0
              have HFH := Lib.hid (fun i (hi : i < o.toNat) => show F2 ((pgK kk 0).toNat + i) = F ((pgK kk 0).toNat + i) by
                rw [HF2.out]
                have h0 := (hold_fit HKB.out 0).1
                exact hold_head HPG.out hk0 z F _ (by omega) (by omega))
              have hpf := hold_fit HKB.out 0
              obtain ⟨p0, hp0⟩ : ∃ q, q = pgK kk 0 := ⟨_, rfl⟩
              rw [← hp0] at c0 hpf HFH
              obtain ⟨hpf0, hpf1⟩ := hpf
              have HP0 := Lib.hid hp0
              obtain ⟨s1, hs1⟩ : ∃ q, q = strOf o.toNat (fun i => F (p0.toNat + i)) := ⟨_, rfl⟩
              have HS1 := Lib.hid hs1
              have HS2 := Lib.hid (show s1 = strOf o.toNat (fun i => F2 (p0.toNat + i)) by rw [hs1]; exact strOf_congr fun i hi => (HFH.out i hi).symm)
              have HRA := Lib.hid (read_okI b B 81920 F2 L2 p0 o wr MR.out hpf0 h0 (by omega))
              have HRB := Lib.hid (fun W (hN : MemAt W b2 B2 81920 F L) => read_okI b2 B2 81920 F L p0 o W hN hpf0 h0 (by omega))
              rw [Nat.add_zero] at c0
              clear hs1 hc hp0
              go_upto_region 30 with (go_at_call 22; refine HRA.out.mono ?_; rintro e w12 ⟨v, rfl, hnb, hb⟩; have hnb' := hnb; obtain ⟨n1, n2, n3, rfl, -⟩ := hnb'; have HNB := Lib.hid hnb; have H12 := Lib.hid (HR.out.go hb); have M12 := Lib.hid (MR.out.below hb); have N12 := Lib.hid (NR.out.below hb); have c1 := (hb.cell (p := ⟨g, oo, none⟩) (World.block_lt_of_cell? _ _ c0)).trans c0; clear hb hnb)
              go_upto_region 31 with (go_at_call 22; refine (HRB.out _ N12.out).mono ?_; rintro e w13 ⟨v, rfl, hnb, hb⟩; have hcb := newBytes_str hnb; obtain ⟨m1, m2, m3, rfl, -⟩ := hnb; have hca := newBytes_str (HNB.out.kept (Keeps.of_below (S := fun _ => False) hb) (fun _ _ e => e)); rw [← HS2.out] at hca; rw [← HS1.out] at hcb; have H20 := Lib.hid (H12.out.go hb); have M20 := Lib.hid (M12.out.below hb); clear hb)
              go_upto_region 33 with (go_at_call 20; refine (num16_any _ _).mono ?_; rintro e w' ⟨rfl, rfl⟩)
              clear c0 c1 hca hcb HRA HRB HNB
              have HWD := Lib.hid (words_any ⟨1, 0, 0, 0⟩)
              have HBD := Lib.hid build_d1
              have HMB := Lib.hid (And.intro M20.out.lt M20.out.lt')
              go_upto_region 34 with (first
                | ((with_reducible show wpList _ _ _ (⟨some 212, _, _, _, _, _⟩ :: _) _ _); refine wpList_build1 rfl 66 0 (.const (.int .i64 1)) rfl _ rfl (HBD.out _) ?_)
                | (go_at_call 23; refine (HWD.out _ ok_d1).mono ?_; rw [words_d1]; rintro e w14 ⟨rfl, hb⟩; have H14 := Lib.hid (H20.out.go hb); have M14 := Lib.hid (M20.out.below hb); clear hb; have HF14 := Lib.hid (ArrAt.fresh w14 w00 25 (by decide)))
                | ((with_reducible show wpList _ _ _ (⟨some 31, _, _, _, _, _⟩ :: _) _ _); refine wpList_alloc rfl 25 rfl zero_w00 ?_; rw [show (Value.agg w00).cells = w00 from rfl])
                | ((with_reducible show wpList _ _ _ (⟨none, .store _ _ _, _, _, _, _⟩ :: _) _ _); refine wpList_storeA rfl (b := w14.heap.size) (A := w00) (A' := w00) HF14.out 25 (.tmp 31) (.tmp 213) rfl (by simp [Act.eval, Act.put]) (by simp [Act.eval, Act.put]) size_w00 rfl w00_one ?_))
              obtain ⟨W15, hW15⟩ : ∃ z, z = (w14.alloc (.cells w00 25)).setCells w14.heap.size 0 w00.toList := ⟨_, rfl⟩
              rw [← hW15]
              obtain ⟨p31, hp31⟩ : ∃ z, z = w14.heap.size := ⟨_, rfl⟩
              have H15 := Lib.hid (H14.out.var M14.out.lt M14.out.lt' 25 (Z := w00) (A := w00) (by decide) rfl hW15)
              rw [← hp31] at H15 ⊢
              clear hW15 hp31 H14 M14 HF14 HWD HBD HMB
              by_cases hd0 : 0 < dn
              · have qa : decide ((0 : Int) < (dn : Int)) = true := decide_eq_true (by omega)
                have qa' : decide (0 < dn) = true := decide_eq_true hd0
                go_wp2_with (go_at_call 7; refine (works_a _).mono ?_; rintro e w16 ⟨rfl, hb⟩; have H16 := Lib.hid (H15.out.go hb); clear hb)
                go_ret
                exact ⟨rfl, H16.out.below⟩
              · have qa : decide ((0 : Int) < (dn : Int)) = false := decide_eq_false (by omega)
                have qa' : decide (0 < dn) = false := decide_eq_false hd0
                cases sgl
                · go_wp2_with (go_at_call 7; refine (works_a _).mono ?_; rintro e w16 ⟨rfl, hb⟩; have H16 := Lib.hid (H15.out.go hb); clear hb)
                  go_ret
                  exact ⟨rfl, H16.out.below⟩
                · obtain ⟨hx, hy⟩ := HZ5.out rfl (hold_zero HTA.out (by omega))
                  have hD9 := DCM.out
                  rw [hx, hy] at hD9
                  have HRG := Lib.hid (show W15.rangeAt p18 8 w00.toList from rng_w00 (H15.out.arr (p18, D) (by simp)).1 hD9.g8 hD9.g9)
                  clear hD9
                  go_wp2_with (first
                    | ((with_reducible show wpList _ _ _ (⟨some 223, _, _, _, _, _⟩ :: _) _ _); refine wpList_load_midG (by rfl) 25 (.tmp 222) rfl p18 8 (by first | rfl | simp [Act.eval, Act.put]) w00.toList _ HRG.out Try.underlying25 rfl size_w00 ?_; rw [show w00.toList.toArray = w00 from rfl])
                    | ((with_reducible show wpList _ _ _ (⟨some 224, _, _, _, _, _⟩ :: _) _ _); refine wpList_loadAG (by rfl) (H15.out.arr (p31, w00) (by simp)).1 25 (.tmp 31) rfl (by first | rfl | simp [Act.eval, Act.put]) Try.underlying25 rfl size_w00 ?_)
                    | ((with_reducible show wpList _ _ _ (⟨some 225, _, _, _, _, _⟩ :: _) _ _); refine wpList_valG (by rfl) (v := .bool true) (exec_eql 25 (.tmp 223) (.tmp 224) _ rfl _ _ rfl rfl (guard_w00 _ _ _) (eql_w00 _)) ?_)
                    | (go_at_call 7; refine (works_a _).mono ?_; rintro e w16 ⟨rfl, hb⟩; have H16 := Lib.hid (H15.out.go hb); clear hb))
                  go_ret
                  exact ⟨rfl, H16.out.below⟩
            · have qk : decide ((0 : Int) < (k : Int)) = false := decide_eq_false (by omega)
              have qk' : decide (0 < k) = false := decide_eq_false hk0
              have H20 := HR
              have M20 := MR
              go_upto_region 33 with fail
              have HWD := Lib.hid (words_any ⟨1, 0, 0, 0⟩)
              have HBD := Lib.hid build_d1
              have HMB := Lib.hid (And.intro M20.out.lt M20.out.lt')
              go_upto_region 34 with (first
                | ((with_reducible show wpList _ _ _ (⟨some 212, _, _, _, _, _⟩ :: _) _ _); refine wpList_build1 rfl 66 0 (.const (.int .i64 1)) rfl _ rfl (HBD.out _) ?_)
                | (go_at_call 23; refine (HWD.out _ ok_d1).mono ?_; rw [words_d1]; rintro e w14 ⟨rfl, hb⟩; have H14 := Lib.hid (H20.out.go hb); have M14 := Lib.hid (M20.out.below hb); clear hb; have HF14 := Lib.hid (ArrAt.fresh w14 w00 25 (by decide)))
                | ((with_reducible show wpList _ _ _ (⟨some 31, _, _, _, _, _⟩ :: _) _ _); refine wpList_alloc rfl 25 rfl zero_w00 ?_; rw [show (Value.agg w00).cells = w00 from rfl])
                | ((with_reducible show wpList _ _ _ (⟨none, .store _ _ _, _, _, _, _⟩ :: _) _ _); refine wpList_storeA rfl (b := w14.heap.size) (A := w00) (A' := w00) HF14.out 25 (.tmp 31) (.tmp 213) rfl (by simp [Act.eval, Act.put]) (by simp [Act.eval, Act.put]) size_w00 rfl w00_one ?_))
              obtain ⟨W15, hW15⟩ : ∃ z, z = (w14.alloc (.cells w00 25)).setCells w14.heap.size 0 w00.toList := ⟨_, rfl⟩
              rw [← hW15]
              obtain ⟨p31, hp31⟩ : ∃ z, z = w14.heap.size := ⟨_, rfl⟩
              have H15 := Lib.hid (H14.out.var M14.out.lt M14.out.lt' 25 (Z := w00) (A := w00) (by decide) rfl hW15)
              rw [← hp31] at H15 ⊢
              clear hW15 hp31 H14 M14 HF14 HWD HBD HMB
              by_cases hd0 : 0 < dn
              · have qa : decide ((0 : Int) < (dn : Int)) = true := decide_eq_true (by omega)
                have qa' : decide (0 < dn) = true := decide_eq_true hd0
                go_wp2_with (go_at_call 7; refine (works_a _).mono ?_; rintro e w16 ⟨rfl, hb⟩; have H16 := Lib.hid (H15.out.go hb); clear hb)
                go_ret
                exact ⟨rfl, H16.out.below⟩
              · have qa : decide ((0 : Int) < (dn : Int)) = false := decide_eq_false (by omega)
                have qa' : decide (0 < dn) = false := decide_eq_false hd0
                cases sgl
                · go_wp2_with (go_at_call 7; refine (works_a _).mono ?_; rintro e w16 ⟨rfl, hb⟩; have H16 := Lib.hid (H15.out.go hb); clear hb)
                  go_ret
                  exact ⟨rfl, H16.out.below⟩
                · obtain ⟨hx, hy⟩ := HZ5.out rfl (hold_zero HTA.out (by omega))
                  have hD9 := DCM.out
                  rw [hx, hy] at hD9
                  have HRG := Lib.hid (show W15.rangeAt p18 8 w00.toList from rng_w00 (H15.out.arr (p18, D) (by simp)).1 hD9.g8 hD9.g9)
                  clear hD9
                  go_wp2_with (first
                    | ((with_reducible show wpList _ _ _ (⟨some 223, _, _, _, _, _⟩ :: _) _ _); refine wpList_load_midG (by rfl) 25 (.tmp 222) rfl p18 8 (by first | rfl | simp [Act.eval, Act.put]) w00.toList _ HRG.out Try.underlying25 rfl size_w00 ?_; rw [show w00.toList.toArray = w00 from rfl])
                    | ((with_reducible show wpList _ _ _ (⟨some 224, _, _, _, _, _⟩ :: _) _ _); refine wpList_loadAG (by rfl) (H15.out.arr (p31, w00) (by simp)).1 25 (.tmp 31) rfl (by first | rfl | simp [Act.eval, Act.put]) Try.underlying25 rfl size_w00 ?_)
                    | ((with_reducible show wpList _ _ _ (⟨some 225, _, _, _, _, _⟩ :: _) _ _); refine wpList_valG (by rfl) (v := .bool true) (exec_eql 25 (.tmp 223) (.tmp 224) _ rfl _ _ rfl rfl (guard_w00 _ _ _) (eql_w00 _)) ?_)
                    | (go_at_call 7; refine (works_a _).mono ?_; rintro e w16 ⟨rfl, hb⟩; have H16 := Lib.hid (H15.out.go hb); clear hb))
                  go_ret
                  exact ⟨rfl, H16.out.below⟩
end Go.Proofs.Ytfmabknhfehdcaa
