/- sgl: Build. -/
import Derived.Test.YtfmabknhfehdcaaGreatZP18
import Derived.Test.YtfmabknhfehdcaaGreatZP30
namespace Go.Proofs.YtfmabknhfehdcaaGreat
set_option linter.unusedSimpArgs false
set_option linter.unusedVariables false
open Go.RowKit
section
variable (at' : Nat) (ao : Option Addr) (n c : Nat) (b B size : Nat) (f : Nat → Int) (L : List (Nat × Nat)) (w : World) (hM : MemAt w b B size f L) (hs : 0 < size)
include hM hs
omit hM hs in
theorem build_last (a n : Int) (w : World) : (Instr.build 72 #[(0, .int .i64 4), (1, .int .u64 a), (2, .int .i64 n)]).run Tryz.prog w = .ok (.agg (⟨4, a, n, 0⟩ : Dsc).cells) w := by kernel_rfl
/-- What Build leaves, of one descriptor to 1023. -/
def BldPost (w : World) (b B size : Nat) (f : Nat → Int) (L : List (Nat × Nat)) (at' n : Nat) (l : Nat → Dsc) (e : Ending) (w' : World) : Prop :=
 ((∃ i, i < n ∧ ¬ Good (l i)) ∧ e = .returned (.tuple #[.agg zDsc.cells, .int .i64 2]) ∧ Below w.heap.size w w') ∨
 ((∀ i, i < n → Good (l i)) ∧ n = 1 ∧ e = .returned (.tuple #[.agg (l 0).cells, .int .i64 0]) ∧ Below w.heap.size w w') ∨
 ((∀ i, i < n → Good (l i)) ∧ 2 ≤ n ∧ size < at' + 16 * n ∧ e = .returned (.tuple #[.agg zDsc.cells, .int .i64 3]) ∧ Below w.heap.size w w') ∨
 ((∀ i, i < n → Good (l i)) ∧ 2 ≤ n ∧ at' + 16 * n ≤ size ∧ e = .returned (.tuple #[.agg (⟨4, at', (16 * n : Nat), 0⟩ : Dsc).cells, .int .i64 0]) ∧ Keeps (Two b B) w w' ∧ MemAt w' b B size (upd f at' (16 * n) (lstB l)) (logged L at' (16 * n)))
set_option maxRecDepth 100000 in
set_option maxHeartbeats 8000000 in
theorem bld_any (l : Nat → Dsc) (hD : DAt w ao n l) (hok : ∀ i, i < n → (l i).Ok) (h1 : 1 ≤ n) (h2 : n < 1024) (hat : at' ≤ 18446744073709551615) (hL : L.length < 4611686018427387904) :
  Calls Tryz.prog 22 #[.pointer (some ⟨b, 0, none⟩), .int .u64 (at' : Nat), .slice ao n c] w (BldPost w b B size f L at' n l) := by
 have q1 : decide ((1 : Int) ≤ (n : Int)) = true := decide_eq_true (by omega)
 have q2 : decide ((n : Int) < 1024) = true := decide_eq_true (by omega)
 have HBL := Lib.hid hM.lt
 have HBL' := Lib.hid hM.lt'
 have HD := Lib.hid hD
 have HOK := Lib.hid hok
 obtain ⟨ga, oa, hao, hga⟩ := hD.lt (by omega)
 have HLL := Lib.hid hL
 subst hao
 clear hD hok hL
 have HM := Lib.hid hM
 obtain ⟨sz, hsz⟩ : ∃ z : Int, z = size := ⟨_, rfl⟩
 have dz : decide (0 < sz) = true := decide_eq_true (by omega)
 have HZ := Lib.hid hsz
 clear hM hsz hs
 have hmf : ∀ (fn : Fn) (first cap : Array Value) (w : World), (Instr.makeFunc fn first cap).run Tryz.prog w = .ok (.func fn first cap) w := fun _ _ _ _ => rfl
 go_enter_defers Tryz.func22, Tryz.ntmps22
 go_upto_region 2 with ((with_reducible show wpList _ _ _ (⟨some 6, _, _, _, _, _⟩ :: _) _ _); refine wpList_alloc rfl 72 rfl zeroD ?_; rw [show (Value.agg zDsc.cells).cells = zDsc.cells from rfl])
 obtain ⟨W0, hW0⟩ : ∃ W0, W0 = ((w.alloc (.cells zDsc.cells 72)).alloc (.cells #[.int .i64 0] 38)) := ⟨_, rfl⟩
 rw [← hW0]
 have S0 := Lib.hid (show sBSt w W0 by rw [hW0]; exact sbst_start w)
 clear hW0
 try simp only [Act.put, List.setIfInBounds_toArray, List.set_cons_succ, List.set_cons_zero]
 go_upto_region 6 with (first
  | (go_at_call 19; refine (size_is b B size f L sz _ (HM.out.below S0.out.below) HZ.out).mono ?_; rintro e w' ⟨rfl, rfl⟩)
  | (go_at_call_of 58 (Value.bool true); refine (must_ok _ _).mono ?_; rintro e w' ⟨rfl, rfl⟩))
 obtain ⟨W1, hW1⟩ : ∃ z, z = W0.alloc (.cells #[.slice none 0 0] 31) := ⟨_, rfl⟩
 rw [← hW1]
 obtain ⟨bb, hbb⟩ : ∃ z, z = W0.heap.size := ⟨_, rfl⟩
 have hb1 : Below W0.heap.size W0 W1 := by rw [hW1]; exact (Below.refl _ _).alloc (Nat.le_refl _) _
 have hbz : w.heap.size + 1 < bb := by rw [hbb]; exact S0.out.lt
 have S1 := Lib.hid (S0.out.beyond hb1)
 have HM1 := Lib.hid (HM.out.below S1.out.below)
 have HD1 := Lib.hid (HD.out.below S1.out.below (fun g o e => by cases e; exact hga))
 have HWR := Lib.hid (show Wr (fun j => j < bb) bb W1 (flatD l 0) from ⟨⟨.slice none 0 0, by rw [hW1, hbb]; go_simp, World.ownsRow_nil _ _ _ _, fun k _ e => by cases e⟩, by rw [hW1, hbb]; go_simp, fun e => Nat.lt_irrefl _ e, fun k hk => by rw [hW1]; simp; omega⟩)
 rw [← hbb]
 have HWR0 : bb ≤ W1.heap.size := by have := HWR.out.glt; omega
 clear hW1 hb1 hbb S0 HM HD HZ dz
 go_upto_region 7 with fail
 go_loopw [30] (fun i wr => ∃ k : Nat, k ≤ n ∧ i = .int .i64 (k : Nat) ∧ Keeps (fun j => ¬ j < bb) W1 wr ∧ Wr (fun j => j < bb) bb wr (flatD l k) ∧ ∀ i, i < k → Good (l i)) (fun i _ => n - (intOf i).toNat)
 case atStart => exact ⟨0, by omega, rfl, Keeps.refl _ _, HWR.out, fun i hi => by omega⟩
 case round =>
  clear HWR
  obtain ⟨k, hk, rfl, hK, hW, hG⟩ := hrel
  have HK := Lib.hid hK
  have S2 := Lib.hid (S1.out.kept hK (fun j hj e => e (by omega)))
  have M2 := Lib.hid (HM1.out.kept hK (fun e => e (by have := HBL.out; omega)) (fun e => e (by have := HBL'.out; omega)))
  have D2 := Lib.hid (HD1.out.below (hK.below (B := bb) (by have := HWR0; omega) (fun j hj e => e hj)) (fun g o e => by cases e; omega))
  have HW := Lib.hid hW
  have HG := Lib.hid hG
  have hwz := S2.out.below.size
  clear hK hW hG
  by_cases hkn : k < n
  ·have q3 : decide ((k : Int) < (n : Int)) = true := decide_eq_true (by omega)
   have hrk : wr.rangeAt ga (oa + k * 4) (l k).cells.toList := by
    obtain ⟨g, o, e, hr⟩ := D2.out k hkn
    cases e
    exact hr
   have HRK := Lib.hid hrk
   have HOKK := Lib.hid (HOK.out k hkn)
   have A7 := Lib.hid (show ArrAt (wr.alloc (.cells zDsc.cells 72)) wr.heap.size zDsc.cells from ArrAt.fresh wr zDsc.cells _ (by decide))
   obtain ⟨D, hDD⟩ : ∃ z, z = (l k).cells := ⟨_, rfl⟩
   have HSZ := Lib.hid (show (Tryz.prog.info? 72).map (·.size) = some D.size by rw [hDD]; exact sizeD)
   have HD4 := Lib.hid (show D.size = 4 by rw [hDD]; rfl)
   have HD1' := Lib.hid (show D.all (·.oneCell') = true by rw [hDD]; exact (l k).one)
   rw [← hDD] at HRK
   clear hrk
   go_upto_region 9 with (first
    | ((with_reducible show wpList _ _ _ (⟨some 33, _, _, _, _, _⟩ :: _) _ _); refine wpList_loadR rfl HRK.out 72 (.tmp 32) rfl (by first | rfl | simp [Act.eval, Act.put]) Tryz.underlying72 rfl HSZ.out ?_)
    | ((with_reducible show wpList _ _ _ (⟨some 11, _, _, _, _, _⟩ :: _) _ _); refine wpList_alloc rfl 72 rfl zeroD ?_; rw [show (Value.agg zDsc.cells).cells = zDsc.cells from rfl])
    | ((with_reducible show wpList _ _ _ (⟨none, .store _ (.tmp 11) _, _, _, _, _⟩ :: _) _ _); refine wpList_storeA rfl (b := wr.heap.size) (A := zDsc.cells) (A' := D) A7.out 72 (.tmp 11) (.tmp 33) rfl (by simp [Act.eval, Act.put]) (by simp [Act.eval, Act.put]) (sizeDs _) (by rw [HD4.out]; rfl) HD1'.out ?_))
   obtain ⟨W2, hW2⟩ : ∃ z, z = (wr.alloc (.cells zDsc.cells 72)).setCells wr.heap.size 0 D.toList := ⟨_, rfl⟩
   rw [← hW2]
   have b2 : Below wr.heap.size wr W2 := by rw [hW2]; exact bstore ((Below.refl _ _).alloc (Nat.le_refl _) _) _ (Nat.le_refl _) _ _
   have HA2 := Lib.hid (show ArrAt W2 wr.heap.size D by rw [hW2]; exact A7.out.store D (by rw [HD4.out]; rfl))
   have HW2 := Lib.hid (HW.out.below b2)
   have S3 := Lib.hid (S2.out.beyond b2)
   have HK2 := Lib.hid (HK.out.trans (Keeps.of_below b2))
   clear hW2 b2 A7
   by_cases hgd : Good (l k)
   case neg =>
    have hc : Calls Tryz.prog 59 #[.agg D, .pointer (some ⟨bb, 0, none⟩)] W2 fun e W' => e = .panicked [pan 2] ∧ Below W2.heap.size W2 W' := by
     rw [hDD]
     by_cases h3 : (l k).k = 3 ∨ (l k).k = 4
     ·exact bput_seg bb (l k) W2 h3
     ·exact bput_inv bb (l k) W2 HOKK.out (fun hv => hgd ⟨hv, fun e => h3 (.inl e), fun e => h3 (.inr e)⟩) (bne_iff_ne.2 fun e => h3 (.inl e)) (bne_iff_ne.2 fun e => h3 (.inr e))
    have HC := Lib.hid hc
    clear hc hDD
    go_wp2_with ((with_reducible show wpList _ _ _ (⟨some 35, _, _, _, _, _⟩ :: _) _ _); refine wpList_loadA rfl HA2.out 72 (.tmp 11) rfl (by first | rfl | simp [Act.eval, Act.put]) Tryz.underlying72 rfl HSZ.out ?_)
    refine HC.out.mono ?_
    rintro e w' ⟨rfl, hb'⟩
    exact sbl_bad (S3.out.beyond hb') rfl rfl fun w' h => .inl ⟨⟨k, hkn, hgd⟩, rfl, h⟩
   case pos =>
    have HC := Lib.hid (show Calls Tryz.prog 59 #[.agg D, .pointer (some ⟨bb, 0, none⟩)] W2 _ by rw [hDD]; exact bput_ok (fun j => j < bb) bb (flatD l k) (l k) W2 HW2.out HOKK.out hgd.1 (bne_iff_ne.2 hgd.2.1) (bne_iff_ne.2 hgd.2.2) (by rw [flatD_length]; omega))
    have HGD := Lib.hid hgd
    clear hDD hgd
    go_wp2_with (first
     | ((with_reducible show wpList _ _ _ (⟨some 35, _, _, _, _, _⟩ :: _) _ _); refine wpList_loadA rfl HA2.out 72 (.tmp 11) rfl (by first | rfl | simp [Act.eval, Act.put]) Tryz.underlying72 rfl HSZ.out ?_)
     | (go_at_call 59; refine HC.out.mono ?_; rintro e w3 ⟨rfl, hk3, hw3⟩; have HK3 := Lib.hid (HK2.out.trans hk3); have HW3 := Lib.hid hw3; clear hk3 hw3))
    have hg3 : ∀ i, i < k + 1 → Good (l i) := fun i hi => by
     rcases Nat.lt_or_ge i k with h | h
     ·exact HG.out i h
     ·obtain rfl : i = k := by omega
      exact HGD.out
    go_roundw
    case rel =>
     first
      | exact ⟨k + 1, by omega, by go_num, HK3.out, HW3.out, hg3⟩
      | ((repeat apply Exists.intro); exact ⟨⟨k + 1, by omega, by go_num, HK3.out, HW3.out, hg3⟩, rfl⟩)
    case measure => simp [intOf]; omega
  ·obtain rfl : k = n := by omega
   have q3 : decide ((k : Int) < (k : Int)) = false := decide_eq_false (by omega)
   by_cases hn1 : k = 1
   ·subst hn1
    have hrk : wr.rangeAt ga (oa + 0 * 4) (l 0).cells.toList := by
     obtain ⟨g, o, e, hr⟩ := D2.out 0 (by omega)
     cases e
     exact hr
    rw [Nat.zero_mul, Nat.add_zero] at hrk
    have HRK := Lib.hid hrk
    obtain ⟨D, hDD⟩ : ∃ z, z = (l 0).cells := ⟨_, rfl⟩
    have HSZ := Lib.hid (show (Tryz.prog.info? 72).map (·.size) = some D.size by rw [hDD]; exact sizeD)
    have HD4 := Lib.hid (show D.size = 4 by rw [hDD]; rfl)
    have HD1' := Lib.hid (show D.all (·.oneCell') = true by rw [hDD]; exact (l 0).one)
    rw [← hDD] at HRK
    have HDD := Lib.hid hDD
    have hAz := S2.out.dsc
    have HAZ := Lib.hid hAz
    have k1 : Keeps (One w.heap.size) wr (wr.setCells w.heap.size 0 D.toList) := Keeps.store (S := One w.heap.size) (Keeps.refl _ _) (fun _ => rfl) _ _
    have e3 : (wr.setCells w.heap.size 0 D.toList).cell? ⟨w.heap.size + 1, 0, none⟩ = some (.int .i64 0) := k1.cell S2.out.err (fun e => by have e : w.heap.size + 1 = w.heap.size := e; omega)
    have e4 : (wr.setCells w.heap.size 0 D.toList).frozen? ⟨w.heap.size + 1, 0, none⟩ = false := by
     rw [World.frozen?_of_block (a := ⟨w.heap.size + 1, 0, none⟩) (k1.block (w.heap.size + 1) S2.out.lt (fun e => by have e : w.heap.size + 1 = w.heap.size := e; omega))]
     exact S2.out.efz
    clear hrk hDD hAz k1
    go_wp2_with (first
     | ((with_reducible show wpList _ _ _ (⟨some 43, _, _, _, _, _⟩ :: _) _ _); refine wpList_loadR rfl HRK.out 72 (.tmp 42) rfl (by first | rfl | simp [Act.eval, Act.put]) Tryz.underlying72 rfl HSZ.out ?_)
     | ((with_reducible show wpList _ _ _ (⟨none, .store _ (.tmp 6) _, _, _, _, _⟩ :: _) _ _); refine wpList_storeA rfl (b := w.heap.size) (A := zDsc.cells) (A' := D) HAZ.out 72 (.tmp 6) (.tmp 43) rfl (by simp [Act.eval, Act.put]) (by simp [Act.eval, Act.put]) (sizeDs _) (by rw [HD4.out]; rfl) HD1'.out ?_))
    have ha : ArrAt ((wr.setCells w.heap.size 0 D.toList).setCell ⟨w.heap.size + 1, 0, none⟩ (.int .i64 0)) w.heap.size D := (HAZ.out.store D (by rw [HD4.out]; rfl)).kept ((Keeps.refl (One (w.heap.size + 1)) _).set1 _ _) (fun e => by have e : w.heap.size = w.heap.size + 1 := e; omega)
    exact bld_good _ _ _ _ D 0 _ rfl rfl ha HD4.out (World.cell?_setCell_same _ _ _ e3) (.inr (.inl ⟨HG.out, rfl, by rw [HDD.out], (bstore S2.out.below _ (Nat.le_refl _) _ _).setCell (p := ⟨w.heap.size + 1, 0, none⟩) (by simp) _⟩))
   ·have q4 : ((k : Int) == 1) = false := beq_eq_false_iff_ne.2 (by omega)
    obtain ⟨ao2, nc2, b0, o0, p0⟩ := HW.out.form
    rw [flatD_length] at b0 o0 p0
    have hsl : (Value.slice ao2 (16 * k) nc2) ≠ .slice none 0 0 := fun e => by injection e with e1 e2 e3; omega
    have hnl := newL_of_owns o0 hsl (flatD_length l k)
    obtain ⟨g2, cap2, F2, eg, hg2, hr2, hc2, hc3, hx2⟩ := hnl
    obtain ⟨e1, e3⟩ : ao2 = some ⟨g2, 0, none⟩ ∧ nc2 = cap2 := by injection eg with a1 a2 a3; exact ⟨a1, a3⟩
    rw [e1, e3] at b0
    clear e1 e3
    have hsrc : Src (Two b B) wr (some ⟨g2, 0, none⟩) (16 * k) (lstB l) := ⟨by omega, fun _ => ⟨g2, 0, rfl, fun e => by have := HBL.out; have := HBL'.out; rcases e with e | e <;> omega, fun i hi => by
     rw [Nat.zero_add, hr2.cell (by omega)]
     have := hx2 i hi
     rw [flatD_get l k i (by omega)] at this
     exact this.symm⟩⟩
    by_cases hfit : at' + 16 * k ≤ size
    case neg =>
     have HC := Lib.hid (write_err' b B size f L at' (16 * k) cap2 (some ⟨g2, 0, none⟩) (at' : Int) wr M2.out hat (by omega) (by omega) rfl)
     clear hsl o0 p0 hr2 hx2 hsrc
     go_wp2_with (go_at_call 11; refine HC.out.mono ?_; rintro e w3 ⟨rfl, hb3⟩; have S3 := Lib.hid (S2.out.beyond hb3); clear hb3)
     refine (must_bad _ _).mono ?_
     rintro e w' ⟨rfl, rfl⟩
     exact sbl_bad S3.out rfl rfl fun w' h => .inr (.inr (.inl ⟨HG.out, by omega, by omega, rfl, h⟩))
    case pos =>
     have HC := Lib.hid (write_ok' b B size f L at' (16 * k) cap2 (some ⟨g2, 0, none⟩) (lstB l) (at' : Int) wr M2.out HLL.out hfit hsrc rfl)
     have hbw := build_last
     have hnb : ∀ j, w.heap.size ≤ j → ¬ Two b B j := fun j hj e => by
      have h1 := HBL.out
      have h2 := HBL'.out
      have e : j = b ∨ j = B := e
      omega
     have HNB := Lib.hid hnb
     obtain ⟨m16, hm16⟩ : ∃ z : Nat, z = 16 * k := ⟨_, rfl⟩
     have HMM := Lib.hid hm16
     rw [← hm16] at HC b0
     clear hsl o0 p0 hr2 hx2 hsrc hnb hm16
     go_wp2_with (first
      | (go_at_call 11; refine HC.out.mono ?_; rintro e w3 ⟨rfl, hk3, hm3⟩; have c3 : w3.cell? ⟨bb, 0, none⟩ = _ := hk3.cell b0 (HNB.out bb (by omega)); have d3 := Lib.hid (S2.out.dsc.kept hk3 (HNB.out _ (Nat.le_refl _))); have x3 : w3.cell? ⟨w.heap.size + 1, 0, none⟩ = _ := hk3.cell S2.out.err (HNB.out _ (Nat.le_succ _)); have f3 : w3.frozen? ⟨w.heap.size + 1, 0, none⟩ = false := (World.frozen?_of_block (a := ⟨w.heap.size + 1, 0, none⟩) (hk3.block (w.heap.size + 1) S2.out.lt (HNB.out _ (Nat.le_succ _)))).trans S2.out.efz; have HK3 := Lib.hid hk3; have HM3 := Lib.hid hm3; clear hk3 hm3)
      | (go_at_call_of 58 (Value.bool true); refine (must_ok _ _).mono ?_; rintro e w' ⟨rfl, rfl⟩)
      | ((with_reducible show wpList _ _ _ (⟨none, .store _ (.tmp 6) _, _, _, _, _⟩ :: _) _ _); go_loud (have k4 : Keeps (One w.heap.size) w3 (w3.setCells w.heap.size 0 (⟨4, at', (m16 : Nat), 0⟩ : Dsc).cells.toList) := Keeps.store (S := One w.heap.size) (Keeps.refl _ _) (fun _ => rfl) _ _; have x4 := k4.cell x3 (fun e => by have e : w.heap.size + 1 = w.heap.size := e; omega); have f4 := (World.frozen?_of_block (a := ⟨w.heap.size + 1, 0, none⟩) (k4.block (w.heap.size + 1) (World.block_lt_of_cell? _ _ x3) (fun e => by have e : w.heap.size + 1 = w.heap.size := e; omega))).trans f3; have HK4 := Lib.hid k4; clear k4; refine wpList_storeA rfl (b := w.heap.size) (A := zDsc.cells) (A' := (⟨4, at', (m16 : Nat), 0⟩ : Dsc).cells) d3.out 72 (.tmp 6) (.tmp 55) rfl (by first | rfl | simp [Act.eval, Act.put]) (by first | rfl | simp [Act.eval, Act.put, Dsc.cells]) (sizeDs _) rfl (Dsc.one _) ?_)))
     have ha : ArrAt ((w3.setCells w.heap.size 0 (⟨4, at', (m16 : Nat), 0⟩ : Dsc).cells.toList).setCell ⟨w.heap.size + 1, 0, none⟩ (.int .i64 0)) w.heap.size (⟨4, at', (m16 : Nat), 0⟩ : Dsc).cells := (d3.out.store (⟨4, at', (m16 : Nat), 0⟩ : Dsc).cells rfl).kept ((Keeps.refl (One (w.heap.size + 1)) _).set1 _ _) (fun e => by have e : w.heap.size = w.heap.size + 1 := e; omega)
     have ka : Keeps (Two b B) w ((w3.setCells w.heap.size 0 (⟨4, at', (m16 : Nat), 0⟩ : Dsc).cells.toList).setCell ⟨w.heap.size + 1, 0, none⟩ (.int .i64 0)) := (((Keeps.of_below S2.out.below).trans HK3.out).store (b := w.heap.size) (fun h => absurd h (Nat.lt_irrefl _)) _ _).setCell (p := ⟨w.heap.size + 1, 0, none⟩) (fun h => absurd h (by show ¬ (w.heap.size + 1 < w.heap.size); omega)) _
     have k5 : Keeps (Two w.heap.size (w.heap.size + 1)) w3 ((w3.setCells w.heap.size 0 (⟨4, at', (m16 : Nat), 0⟩ : Dsc).cells.toList).setCell ⟨w.heap.size + 1, 0, none⟩ (.int .i64 0)) := HK4.out.two1.trans ((Keeps.refl (One (w.heap.size + 1)) _).set1 _ _).two2
     have ma := HM3.out.kept k5 (fun e => by have h1 := HBL.out; have e : b = w.heap.size ∨ b = w.heap.size + 1 := e; omega) (fun e => by have h1 := HBL'.out; have e : B = w.heap.size ∨ B = w.heap.size + 1 := e; omega)
     refine bld_good _ _ _ _ (⟨4, at', (m16 : Nat), 0⟩ : Dsc).cells 0 _ rfl rfl ha rfl (World.cell?_setCell_same _ _ _ x4) (.inr (.inr (.inr ⟨HG.out, by omega, hfit, ?_, ka, ?_⟩)))
     ·rw [HMM.out]
     ·rw [HMM.out] at ma ⊢
      exact ma
end
end Go.Proofs.YtfmabknhfehdcaaGreat
namespace Go.Proofs.YtfmabknhfehdcaaGreat
set_option linter.unusedSimpArgs false
set_option linter.unusedVariables false
open Go.RowKit
section
variable {P : Program} {ops : Array Oper} {Q : Exit → Act → World → Prop} {a : Act} {w : World} {rest : List Oper} {o : Oper}
/-- An operation whose value is known, under a guard that holds. -/
theorem wpList_valG (hw : Region.wanted o (yielded ops a.tmps) = true) {v : Value} (he : (execOp a.eval o).run P w = .ok (.value v) w) (h : wpList P ops Q rest (a.put o.dst v) w) : wpList P ops Q (o :: rest) a w :=
 wpList_step fun K hK => by
  rw [if_pos hw]
  unfold Oper.wp
  rw [he]
  exact hK _ _ h
theorem wpList_loadAG (hw : Region.wanted o (yielded ops a.tmps) = true) {b : Nat} {A : Array Value} (H : ArrAt w b A) (ty : TypeId) (x : Operand) (ho : o.op = .load ty x) (hx : a.eval x = .pointer (some ⟨b, 0, none⟩)) {d : TypeDesc}
  (hu : P.underlying ty = some d) (hd : d.isRow = true) (hi : (P.info? ty).map (·.size) = some A.size) (h : wpList P ops Q rest (a.put o.dst (.agg A)) w) : wpList P ops Q (o :: rest) a w :=
 wpList_load_midG hw ty x ho b 0 hx A.toList d H.rng hu hd (by simpa using hi) (by simpa using h)
end
/-- the cells of descriptors -/
def dCs : List Dsc → List Value
 | [] => []
 | d :: r => d.cells.toList ++ dCs r
/-- the descriptors of the examples -/
def wkL : List Dsc := [⟨1, 1000, 8, 0⟩, ⟨2, 0, 4, 0⟩, ⟨1, 2000, 8, 0⟩]
end Go.Proofs.YtfmabknhfehdcaaGreat
namespace Go.Proofs.YtfmabknhfehdcaaGreat
set_option linter.unusedSimpArgs false
set_option linter.unusedVariables false
open Go.RowKit
theorem exec_eql {P : Program} {o : Oper} {a : Act} {w : World} (t : TypeId) (x y : Operand) (rt : TypeId) (ho : o.op = .binOp .eql t x y rt) (v0 v1 : Value) (hx : a.eval x = v0) (hy : a.eval y = v1)
  (hg : (eqGuard .eql t x y v0 v1).run P w = .ok () w) {v : Value} (hb : (binOp .eql t v0 v1).run P w = .ok v w) : (execOp a.eval o).run P w = .ok (.value v) w := by
 unfold execOp
 simp only [ho, hx, hy]
 simp only [Sem.run_bind, hg, hb, Result.andThen_ok, Sem.run_pure]
/-- The examples so far: nothing older is touched, the memory is there. -/
structure sWk (w : World) (b B : Nat) (f : Nat → Int) (L : List (Nat × Nat)) (S : List (Nat × Array Value)) (W : World) : Prop where
 below : Below w.heap.size w W
 mem : MemAt W b B 4096 f L
 arr : ∀ x ∈ S, ArrAt W x.1 x.2
theorem sWk.go {w : World} {b B : Nat} {f : Nat → Int} {L : List (Nat × Nat)} {S : List (Nat × Array Value)} {W W' : World} (h : sWk w b B f L S W) (hb : Below W.heap.size W W') : sWk w b B f L S W' := ⟨h.below.trans (hb.mono h.below.size), h.mem.below hb, fun x hx => (h.arr x hx).below hb⟩
theorem sWk.add {w : World} {b B : Nat} {f : Nat → Int} {L : List (Nat × Nat)} {S : List (Nat × Array Value)} {W : World} (h : sWk w b B f L S W) {g : Nat} {A : Array Value} (ha : ArrAt W g A) : sWk w b B f L ((g, A) :: S) W := ⟨h.below, h.mem, fun x hx => by
 rcases List.mem_cons.1 hx with rfl | hx
 ·exact ha
 ·exact h.arr x hx⟩
end Go.Proofs.YtfmabknhfehdcaaGreat
