/- sgl: the reference's Build. -/
import Derived.Test.YtfmabknhfehdcaaGreatZP36
namespace Go.Proofs.YtfmabknhfehdcaaGreat
set_option linter.unusedSimpArgs false
set_option linter.unusedVariables false
open Go.RowKit
theorem results_cct {fn : Func} {p p2 u : Tmp} {ty ty2 : TypeId} (h : fn.results = #[.cell p ty, .cell p2 ty2, .tmp u]) (tmps : Array Value) (P : Program) (w : World) {b b2 : Nat} {A A2 : Array Value} (H : ArrAt w b A) (H2 : ArrAt w b2 A2) {d d2 : TypeDesc}
  (hp : tmps.getD p undef = .pointer (some ⟨b, 0, none⟩)) (hu : P.underlying ty = some d) (hd : d.isRow = true) (hi : (P.info? ty).map (·.size) = some A.size)
  (hp2 : tmps.getD p2 undef = .pointer (some ⟨b2, 0, none⟩)) (hu2 : P.underlying ty2 = some d2) (hd2 : d2.isRow = true) (hi2 : (P.info? ty2).map (·.size) = some A2.size) :
  (results fn tmps).run P w = .ok (.tuple #[.agg A, .agg A2, tmps.getD u undef]) w := by
 simp only [results, h]
 simp only [Array.getD_eq_getD_getElem?] at hp hp2
 simp [Sem.run_bind, Result.andThen, hp, hp2, asAddr, H.loadVar hu hd hi, H2.loadVar hu2 hd2 hi2]
theorem src_of_row {w : World} {g : Nat} {d : Dsc} (hr : w.rowIs g 5 16 (fun j => .int .u8 (dB d j))) : ∀ j u, (dBs d)[j]? = some u → w.cell? ((⟨g, 0, none⟩ : Addr).add j) = some u := fun j u hj => by
 have hj16 : j < 16 := by rw [← dBs_length d]; exact (List.getElem?_eq_some_iff.1 hj).1
 rw [dBs_get _ j hj16] at hj
 cases hj
 rw [Addr.add_mid, Nat.zero_add]
 exact hr.cell hj16
/-- the bytes of the first k -/
def flB (l : Nat → Dsc) : Nat → List Value
 | 0 => []
 | k + 1 => flB l k ++ dBs (l k)
theorem flB_length (l : Nat → Dsc) (k : Nat) : (flB l k).length = 16 * k := by
 induction k with
 | zero => rfl
 | succ k ih => show (flB l k ++ dBs (l k)).length = _; rw [List.length_append, ih, dBs_length]; omega
/-- byte j of a list -/
def lsB (l : Nat → Dsc) (j : Nat) : Int := dB (l (j / 16)) (j % 16)
theorem flB_get (l : Nat → Dsc) (k j : Nat) (h : j < 16 * k) : (flB l k)[j]? = some (.int .u8 (lsB l j)) := by
 induction k with
 | zero => omega
 | succ k ih =>
  show (flB l k ++ dBs (l k))[j]? = _
  by_cases hj : j < 16 * k
  ·rw [List.getElem?_append_left (by rw [flB_length]; exact hj)]
   exact ih hj
  ·rw [List.getElem?_append_right (by rw [flB_length]; omega), flB_length, dBs_get _ _ (by omega)]
   unfold lsB
   have e1 : j / 16 = k := by omega
   have e2 : j % 16 = j - 16 * k := by omega
   rw [e1, e2]
theorem build_lastR (a n : Int) (w : World) : (Instr.build 72 #[(0, .int .i64 4), (1, .int .u64 a), (2, .int .i64 n)]).run Tryz.prog w = .ok (.agg (⟨4, a, n, 0⟩ : Dsc).cells) w := by kernel_rfl
/-- What lies in memory while it runs: the parameter, the results. -/
structure sRBt (w : World) (MC Z : Array Value) (W : World) : Prop where
 below : Below w.heap.size w W
 r3 : ArrAt W w.heap.size MC
 r6 : ArrAt W (w.heap.size + 1) zRM
 r7 : ArrAt W (w.heap.size + 1 + 1) Z
theorem sRBt.kept {w W W' : World} {MC Z : Array Value} {S : Nat → Prop} (h : sRBt w MC Z W) (k : Keeps S W W') (hS : ∀ j, j ≤ w.heap.size + 2 → ¬ S j) : sRBt w MC Z W' := by
 have := h.r7.lt
 exact ⟨h.below.trans (k.below (B := w.heap.size) h.below.size (fun j hj => hS j (by omega))), h.r3.kept k (hS _ (by omega)), h.r6.kept k (hS _ (by omega)), h.r7.kept k (hS _ (by omega))⟩
theorem sRBt.go {w W W' : World} {MC Z : Array Value} (h : sRBt w MC Z W) (k : Below W.heap.size W W') : sRBt w MC Z W' := h.kept (Keeps.of_below (S := fun _ => False) k) (fun _ _ e => e)
theorem srb_ret {w W : World} {MC Z X Y : Array Value} (h : sRBt w MC Z W) (hx : X.size = 2) (hy : Y.size = 4) (hz : Z.size = 4) :
  ArrAt ((W.setCells (w.heap.size + 1) 0 X.toList).setCells (w.heap.size + 1 + 1) 0 Y.toList) (w.heap.size + 1) X ∧ ArrAt ((W.setCells (w.heap.size + 1) 0 X.toList).setCells (w.heap.size + 1 + 1) 0 Y.toList) (w.heap.size + 1 + 1) Y ∧
  Below w.heap.size w ((W.setCells (w.heap.size + 1) 0 X.toList).setCells (w.heap.size + 1 + 1) 0 Y.toList) ∧ Keeps (Two (w.heap.size + 1) (w.heap.size + 1 + 1)) W ((W.setCells (w.heap.size + 1) 0 X.toList).setCells (w.heap.size + 1 + 1) 0 Y.toList) := by
 have k1 : Keeps (One (w.heap.size + 1)) W (W.setCells (w.heap.size + 1) 0 X.toList) := Keeps.store (S := One (w.heap.size + 1)) (Keeps.refl _ _) (fun _ => rfl) _ _
 have k2 : Keeps (One (w.heap.size + 1 + 1)) (W.setCells (w.heap.size + 1) 0 X.toList) ((W.setCells (w.heap.size + 1) 0 X.toList).setCells (w.heap.size + 1 + 1) 0 Y.toList) := Keeps.store (S := One (w.heap.size + 1 + 1)) (Keeps.refl _ _) (fun _ => rfl) _ _
 have a6 := h.r6.store X (by rw [hx]; rfl)
 have a7 := h.r7.kept k1 (fun e => by have e : w.heap.size + 1 + 1 = w.heap.size + 1 := e; omega)
 exact ⟨a6.kept k2 (fun e => by have e : w.heap.size + 1 = w.heap.size + 1 + 1 := e; omega), a7.store Y (by rw [hy, hz]), bstore (bstore h.below _ (by omega) _ _) _ (by omega) _ _, k1.two1.trans k2.two2⟩
section
variable (MC : Array Value) (at' : Nat) (ao : Option Addr) (n c : Nat) (sz : Nat) (f : Nat → Int) (L : List (Nat × Nat)) (S : Nat → Prop) (w : World) (hM : RefAt S w (.agg MC) sz f L) (h2 : MC.size = 2) (hOM : MC.all (·.oneCell') = true)
include hM h2 hOM
/-- What the reference's Build leaves, of one descriptor to 1023. -/
def sRBPost (w : World) (MC : Array Value) (S : Nat → Prop) (sz : Nat) (f : Nat → Int) (at' n : Nat) (l : Nat → Dsc) (e : Ending) (w' : World) : Prop :=
 Below w.heap.size w w' ∧ (
 ((∃ i, i < n ∧ ¬ Good (l i)) ∧ e = .returned (.tuple #[.agg MC, .agg zDsc.cells, .int .i64 2])) ∨
 ((∀ i, i < n → Good (l i)) ∧ n = 1 ∧ e = .returned (.tuple #[.agg MC, .agg (l 0).cells, .int .i64 0])) ∨
 ((∀ i, i < n → Good (l i)) ∧ 2 ≤ n ∧ chk sz at' (16 * n : Nat) ≠ 0 ∧ e = .returned (.tuple #[.agg MC, .agg zDsc.cells, .int .i64 (chk sz at' (16 * n : Nat))])) ∨
 ((∀ i, i < n → Good (l i)) ∧ 2 ≤ n ∧ chk sz at' (16 * n : Nat) = 0 ∧ ∃ MC' L', e = .returned (.tuple #[.agg MC', .agg (⟨4, at', (16 * n : Nat), 0⟩ : Dsc).cells, .int .i64 0]) ∧ RefAt S w' (.agg MC') sz (upd f at' (16 * n) (lsB l)) L'))
set_option maxRecDepth 100000 in
set_option maxHeartbeats 8000000 in
theorem rb_any (l : Nat → Dsc) (hD : DAt w ao n l) (hok : ∀ i, i < n → (l i).Ok) (h1 : 1 ≤ n) (hn3 : n ≤ 1023) (hat : at' ≤ 18446744073709551615) (hL : L.length ≤ 1000) (hsz : sz ≤ 4194304) (hS : ∀ j, S j → j < w.heap.size) :
  Calls Tryz.prog 28 #[.agg MC, .int .u64 (at' : Nat), .slice ao n c] w (sRBPost w MC S sz f at' n l) := by
 have q1 : decide ((n : Int) < 1) = false := decide_eq_false (by omega)
 have q2 : decide (1023 < (n : Int)) = false := decide_eq_false (by omega)
 obtain ⟨ga, oa, hao, hga⟩ := hD.lt (by omega)
 have HD := Lib.hid hD
 have HOK := Lib.hid hok
 have HLL := Lib.hid hL
 have HSS := Lib.hid hS
 subst hao
 clear hD hok hL hS
 have HM := Lib.hid hM
 have S2 := Lib.hid h2
 have OM := Lib.hid hOM
 have IM := Lib.hid (show (Tryz.prog.info? 34).map (·.size) = some MC.size by rw [h2]; exact sizeRM)
 obtain ⟨Z, hZ⟩ : ∃ A : Array Value, A = zDsc.cells := ⟨_, rfl⟩
 have SZ := Lib.hid (show Z.size = 4 by rw [hZ]; rfl)
 have OZ := Lib.hid (show Z.all (·.oneCell') = true by rw [hZ]; exact Dsc.one _)
 have IZ := Lib.hid (show (Tryz.prog.info? 72).map (·.size) = some Z.size by rw [SZ.out]; exact sizeD)
 have BZ := Lib.hid (show ∀ w, (Instr.build 72 #[]).run Tryz.prog w = .ok (.agg Z) w by rw [hZ]; exact buildDz)
 have ZZ := Lib.hid (show ∀ w, (zeroValue 72).run Tryz.prog w = .ok (.agg Z) w by rw [hZ]; exact zeroD)
 have HZ := Lib.hid hZ
 clear hM h2 hOM hZ
 go_enter Tryz.func28, Tryz.ntmps28
 go_upto_region 1 with (first
  | ((with_reducible show wpList _ _ _ (⟨some 6, _, _, _, _, _⟩ :: _) _ _); refine wpList_alloc rfl 34 rfl zeroRM ?_; rw [show (Value.agg zRM).cells = zRM from rfl])
  | ((with_reducible show wpList _ _ _ (⟨some 7, _, _, _, _, _⟩ :: _) _ _); refine wpList_alloc rfl 72 rfl ZZ.out ?_; rw [show (Value.agg Z).cells = Z from rfl]))
 obtain ⟨W0, hW⟩ : ∃ z, z = ((w.alloc (.cells MC 34)).alloc (.cells zRM 34)).alloc (.cells Z 72) := ⟨_, rfl⟩
 have T0 := Lib.hid (show sRBt w MC Z W0 from by
  have f1 := ArrAt.fresh w MC 34 (by rw [S2.out]; omega)
  have f2 := ArrAt.fresh (w.alloc (.cells MC 34)) zRM 34 (by decide)
  have f3 := ArrAt.fresh ((w.alloc (.cells MC 34)).alloc (.cells zRM 34)) Z 72 (by rw [SZ.out]; omega)
  simp only [World.size_alloc] at f2 f3
  rw [hW]
  exact ⟨(((Below.refl _ w).alloc (Nat.le_refl _) _).alloc (by simp) _).alloc (by simp; omega) _, (f1.alloc _).alloc _, f2.alloc _, f3⟩)
 rw [← hW]
 clear hW
 have T3 := Lib.hid T0.out.r3
 have T6 := Lib.hid T0.out.r6
 have T7 := Lib.hid T0.out.r7
 have hw0 := T7.out.lt
 have M0 := Lib.hid ((HM.out.more (T := fun j => S j ∨ w.heap.size ≤ j) (fun b hb h => h.resolve_right (by omega))).below T0.out.below)
 have D0 := Lib.hid (HD.out.below T0.out.below (fun g o e => by cases e; exact hga))
 obtain ⟨bs, hbs⟩ : ∃ z, z = W0.heap.size := ⟨_, rfl⟩
 rw [← hbs] at hw0
 have hbsw : w.heap.size + 2 < bs := by omega
 clear T3 T6 T7 HM HD
 go_upto_region 5 with fail
 go_loopw [9, 10, 11] (fun v9 v10 _ wr => ∃ k : Nat, k ≤ n ∧ v10 = .int .i64 (k : Nat) ∧ wr.ownsRow bs 5 1 v9 (16 * k) (flB l k) ∧ Keeps (fun j => bs ≤ j) W0 wr ∧ ∀ i, i < k → Good (l i)) (fun _ v10 _ _ => n - (intOf v10).toNat)
 case atStart => exact ⟨0, by omega, rfl, World.ownsRow_nil _ _ _ _, Keeps.refl _ _, fun i hi => by omega⟩
 case round =>
  obtain ⟨k, hk, rfl, hown, hK, hG⟩ := hrel
  have HO := Lib.hid hown
  have HK := Lib.hid hK
  have HG := Lib.hid hG
  have Tr := Lib.hid (T0.out.kept hK (fun j hj e => by have e : bs ≤ j := e; omega))
  have Mr := Lib.hid ((M0.out.kept hK (fun b h => .inr (by have h : bs ≤ b := h; omega))).more (T := fun j => S j ∨ (w.heap.size ≤ j ∧ j < bs)) (fun b _ h => h.imp id And.left))
  have Dr := Lib.hid (D0.out.below (hK.below (B := bs) (by omega) (fun j hj e => by have e : bs ≤ j := e; omega)) (fun g o e => by cases e; omega))
  have hwr : bs ≤ wr.heap.size := by have := hK.size; omega
  clear hown hK hG
  by_cases hkn : k < n
  ·have q3 : decide ((k : Int) < (n : Int)) = true := decide_eq_true (by omega)
   have hrk : wr.rangeAt ga (oa + k * 4) (l k).cells.toList := by
    obtain ⟨g, o, e, hr⟩ := Dr.out k hkn
    cases e
    exact hr
   have c0 : wr.cell? ⟨ga, oa + k * 4, none⟩ = some (.int .i64 (l k).k) := hrk 0 _ rfl
   obtain ⟨kk, hkk⟩ : ∃ z, z = (l k).k := ⟨_, rfl⟩
   obtain ⟨D, hDD⟩ : ∃ z, z = (l k).cells := ⟨_, rfl⟩
   have HSZ := Lib.hid (show (Tryz.prog.info? 72).map (·.size) = some D.size by rw [hDD]; exact sizeD)
   have HV := Lib.hid (show ∀ r, vldD (l k) = r → ∀ W, Calls Tryz.prog 69 #[.agg D] W fun e w' => e = .returned (.bool r) ∧ Below W.heap.size W w' from fun r hr W => by rw [hDD]; exact rvalid_any (l k) r hr W (HOK.out k hkn))
   have HBY := Lib.hid (show ∀ W, Calls Tryz.prog 70 #[.agg D] W fun e w' => NewRow W w' 16 (dB (l k)) e from fun W => by rw [hDD]; exact bytes_any (l k) W (HOK.out k hkn))
   rw [← hkk] at c0
   rw [← hDD] at hrk
   have HRK := Lib.hid hrk
   have HKK := Lib.hid hkk
   clear hrk hDD hkk
   by_cases hgd : Good (l k)
   case neg =>
    have hbad : vldD (l k) = false ∨ (vldD (l k) = true ∧ kk = 3) ∨ (vldD (l k) = true ∧ kk = 4) := by
     by_cases hv : Vld (l k)
     ·have e := HKK.out
      rcases Classical.not_and_iff_not_or_not.1 (fun c : ((l k).k ≠ 3 ∧ (l k).k ≠ 4) => hgd ⟨hv, c⟩) with h | h
      ·exact .inr (.inl ⟨decide_eq_true hv, by omega⟩)
      ·exact .inr (.inr ⟨decide_eq_true hv, by omega⟩)
     ·exact .inl (decide_eq_false hv)
    have HGD := Lib.hid hgd
    clear hgd
    rcases hbad with hb1 | ⟨hb1, hb3⟩ | ⟨hb1, hb4⟩
    ·go_wp2_with (first
       | ((with_reducible show wpList _ _ _ (⟨some 38, _, _, _, _, _⟩ :: _) _ _); refine wpList_loadR rfl HRK.out 72 (.tmp 37) rfl (by first | rfl | simp [Act.eval, Act.put]) Tryz.underlying72 rfl HSZ.out ?_)
       | (go_at_call 69; refine (HV.out false hb1 _).mono ?_; rintro e w4 ⟨rfl, hb⟩; have T4 := Lib.hid (Tr.out.go hb); have X3 := Lib.hid T4.out.r3; have X6 := Lib.hid T4.out.r6; have X7 := Lib.hid T4.out.r7; clear hb)
       | ((with_reducible show wpList _ _ _ (⟨some 49, _, _, _, _, _⟩ :: _) _ _); refine wpList_loadA rfl X3.out 34 (.tmp 3) rfl (by first | rfl | simp [Act.eval, Act.put]) Tryz.underlying34 rfl IM.out ?_)
       | ((with_reducible show wpList _ _ _ (⟨some 50, _, _, _, _, _⟩ :: _) _ _); refine wpList_build0 rfl 72 rfl (BZ.out _) ?_)
       | ((with_reducible show wpList _ _ _ (⟨none, .store _ (.tmp 6) _, _, _, _, _⟩ :: _) _ _); refine wpList_storeA rfl (b := w.heap.size + 1) (A := zRM) (A' := MC) X6.out 34 (.tmp 6) (.tmp 49) rfl (by simp [Act.eval, Act.put]) (by simp [Act.eval, Act.put]) ssizeRMz (by rw [S2.out]; rfl) OM.out ?_)
       | ((with_reducible show wpList _ _ _ (⟨none, .store _ (.tmp 7) _, _, _, _, _⟩ :: _) _ _); refine wpList_storeA rfl (b := w.heap.size + 1 + 1) (A := Z) (A' := Z) (X7.out.kept (Keeps.store (S := One (w.heap.size + 1)) (Keeps.refl _ _) (fun _ => rfl) _ _) (fun e => by have e : w.heap.size + 1 + 1 = w.heap.size + 1 := e; omega)) 72 (.tmp 7) (.tmp 50) rfl (by simp [Act.eval, Act.put]) (by simp [Act.eval, Act.put]) IZ.out rfl OZ.out ?_))
     obtain ⟨x6, x7, xb, -⟩ := srb_ret T4.out S2.out SZ.out SZ.out
     exact bodyPost_ret (results_cct rfl _ _ _ x6 x7 rfl Tryz.underlying34 rfl IM.out rfl Tryz.underlying72 rfl IZ.out) rfl ⟨xb, .inl ⟨⟨k, hkn, HGD.out⟩, by rw [← HZ.out]; rfl⟩⟩
    ·subst hb3
     go_wp2_with (first
       | ((with_reducible show wpList _ _ _ (⟨some 38, _, _, _, _, _⟩ :: _) _ _); refine wpList_loadR rfl HRK.out 72 (.tmp 37) rfl (by first | rfl | simp [Act.eval, Act.put]) Tryz.underlying72 rfl HSZ.out ?_)
       | (go_at_call 69; refine (HV.out true hb1 _).mono ?_; rintro e w4 ⟨rfl, hb⟩; have T4 := Lib.hid (Tr.out.go hb); have X3 := Lib.hid T4.out.r3; have X6 := Lib.hid T4.out.r6; have X7 := Lib.hid T4.out.r7; clear hb)
       | ((with_reducible show wpList _ _ _ (⟨some 49, _, _, _, _, _⟩ :: _) _ _); refine wpList_loadA rfl X3.out 34 (.tmp 3) rfl (by first | rfl | simp [Act.eval, Act.put]) Tryz.underlying34 rfl IM.out ?_)
       | ((with_reducible show wpList _ _ _ (⟨some 50, _, _, _, _, _⟩ :: _) _ _); refine wpList_build0 rfl 72 rfl (BZ.out _) ?_)
       | ((with_reducible show wpList _ _ _ (⟨none, .store _ (.tmp 6) _, _, _, _, _⟩ :: _) _ _); refine wpList_storeA rfl (b := w.heap.size + 1) (A := zRM) (A' := MC) X6.out 34 (.tmp 6) (.tmp 49) rfl (by simp [Act.eval, Act.put]) (by simp [Act.eval, Act.put]) ssizeRMz (by rw [S2.out]; rfl) OM.out ?_)
       | ((with_reducible show wpList _ _ _ (⟨none, .store _ (.tmp 7) _, _, _, _, _⟩ :: _) _ _); refine wpList_storeA rfl (b := w.heap.size + 1 + 1) (A := Z) (A' := Z) (X7.out.kept (Keeps.store (S := One (w.heap.size + 1)) (Keeps.refl _ _) (fun _ => rfl) _ _) (fun e => by have e : w.heap.size + 1 + 1 = w.heap.size + 1 := e; omega)) 72 (.tmp 7) (.tmp 50) rfl (by simp [Act.eval, Act.put]) (by simp [Act.eval, Act.put]) IZ.out rfl OZ.out ?_))
     obtain ⟨x6, x7, xb, -⟩ := srb_ret T4.out S2.out SZ.out SZ.out
     exact bodyPost_ret (results_cct rfl _ _ _ x6 x7 rfl Tryz.underlying34 rfl IM.out rfl Tryz.underlying72 rfl IZ.out) rfl ⟨xb, .inl ⟨⟨k, hkn, HGD.out⟩, by rw [← HZ.out]; rfl⟩⟩
    ·subst hb4
     go_wp2_with (first
       | ((with_reducible show wpList _ _ _ (⟨some 38, _, _, _, _, _⟩ :: _) _ _); refine wpList_loadR rfl HRK.out 72 (.tmp 37) rfl (by first | rfl | simp [Act.eval, Act.put]) Tryz.underlying72 rfl HSZ.out ?_)
       | (go_at_call 69; refine (HV.out true hb1 _).mono ?_; rintro e w4 ⟨rfl, hb⟩; have T4 := Lib.hid (Tr.out.go hb); have X3 := Lib.hid T4.out.r3; have X6 := Lib.hid T4.out.r6; have X7 := Lib.hid T4.out.r7; clear hb)
       | ((with_reducible show wpList _ _ _ (⟨some 49, _, _, _, _, _⟩ :: _) _ _); refine wpList_loadA rfl X3.out 34 (.tmp 3) rfl (by first | rfl | simp [Act.eval, Act.put]) Tryz.underlying34 rfl IM.out ?_)
       | ((with_reducible show wpList _ _ _ (⟨some 50, _, _, _, _, _⟩ :: _) _ _); refine wpList_build0 rfl 72 rfl (BZ.out _) ?_)
       | ((with_reducible show wpList _ _ _ (⟨none, .store _ (.tmp 6) _, _, _, _, _⟩ :: _) _ _); refine wpList_storeA rfl (b := w.heap.size + 1) (A := zRM) (A' := MC) X6.out 34 (.tmp 6) (.tmp 49) rfl (by simp [Act.eval, Act.put]) (by simp [Act.eval, Act.put]) ssizeRMz (by rw [S2.out]; rfl) OM.out ?_)
       | ((with_reducible show wpList _ _ _ (⟨none, .store _ (.tmp 7) _, _, _, _, _⟩ :: _) _ _); refine wpList_storeA rfl (b := w.heap.size + 1 + 1) (A := Z) (A' := Z) (X7.out.kept (Keeps.store (S := One (w.heap.size + 1)) (Keeps.refl _ _) (fun _ => rfl) _ _) (fun e => by have e : w.heap.size + 1 + 1 = w.heap.size + 1 := e; omega)) 72 (.tmp 7) (.tmp 50) rfl (by simp [Act.eval, Act.put]) (by simp [Act.eval, Act.put]) IZ.out rfl OZ.out ?_))
     obtain ⟨x6, x7, xb, -⟩ := srb_ret T4.out S2.out SZ.out SZ.out
     exact bodyPost_ret (results_cct rfl _ _ _ x6 x7 rfl Tryz.underlying34 rfl IM.out rfl Tryz.underlying72 rfl IZ.out) rfl ⟨xb, .inl ⟨⟨k, hkn, HGD.out⟩, by rw [← HZ.out]; rfl⟩⟩
   case pos =>
    have hb1 : vldD (l k) = true := decide_eq_true hgd.1
    have hk3 : (kk == 3) = false := beq_eq_false_iff_ne.2 (by rw [HKK.out]; exact hgd.2.1)
    have hk4 : (kk == 4) = false := beq_eq_false_iff_ne.2 (by rw [HKK.out]; exact hgd.2.2)
    have HGD := Lib.hid hgd
    obtain ⟨i0, hi0, hz0, hz1, hz2⟩ := info_parts infoU8
    clear hgd
    go_wp2_with (first
     | ((with_reducible show wpList _ _ _ (⟨some 38, _, _, _, _, _⟩ :: _) _ _); refine wpList_loadR rfl HRK.out 72 (.tmp 37) rfl (by first | rfl | simp [Act.eval, Act.put]) Tryz.underlying72 rfl HSZ.out ?_)
     | (go_at_call 69; refine (HV.out true hb1 _).mono ?_; rintro e w4 ⟨rfl, hb⟩; have H4 := Lib.hid hb; have HRK4 := Lib.hid (rangeAt_below HRK.out hb (by omega)); clear hb)
     | ((with_reducible show wpList _ _ _ (⟨some 55, _, _, _, _, _⟩ :: _) _ _); refine wpList_loadR rfl HRK4.out 72 (.tmp 54) rfl (by first | rfl | simp [Act.eval, Act.put]) Tryz.underlying72 rfl HSZ.out ?_)
     | (go_at_call 70; refine (HBY.out _).mono ?_; rintro e w5 ⟨g5, rfl, hg5, hb, hr5⟩; have H5 := Lib.hid (H4.out.trans (hb.mono H4.out.size)); have R5 := Lib.hid hr5; have O5 := Lib.hid (HO.out.kept (w' := w5) (row := none) ⟨H5.out.os, H5.out.tape, H5.out.output, H5.out.size, fun j hj _ => H5.out.block j hj⟩ (by cases u9.ownBlock <;> simp)); clear hb hr5 hg5)
     | (at_builtin; refine wpList_append_lies _ rfl _ _ 31 rfl bs 5 i0 _ 1 1 Tryz.underlying31 hi0 hz0 hz1 hz2 rfl (by decide) u9 (16 * k) (flB l k) rfl O5.out ⟨g5, 0, none⟩ 16 16 (dBs (l k)) rfl (by rw [dBs_length]) (src_of_row R5.out) (dBs_one _) (by decide) (by unfold maxLen; omega) (by omega) (by have := H5.out.size; omega) w5.heap.size rfl ?_; intro gg cap w6 hown6 hgr6 hat6 hlt6; have O6 := Lib.hid hown6; have K6 := Lib.hid (grown_keeps H5.out HO.out hwr hgr6); clear hown6 hgr6 hat6))
    have hg3 : ∀ i, i < k + 1 → Good (l i) := fun i hi => by
     rcases Nat.lt_or_ge i k with h | h
     ·exact HG.out i h
     ·obtain rfl : i = k := by omega
      exact HGD.out
    exact ⟨⟨k + 1, by omega, by go_num, O6.out, HK.out.trans K6.out, hg3⟩, by simp [intOf]; omega⟩
  ·obtain rfl : k = n := by omega
   have q3 : decide ((k : Int) < (k : Int)) = false := decide_eq_false (by omega)
   have X3 := Lib.hid Tr.out.r3
   have X6 := Lib.hid Tr.out.r6
   have X7 := Lib.hid Tr.out.r7
   by_cases hn1 : k = 1
   ·subst hn1
    have hrk : wr.rangeAt ga (oa + 0 * 4) (l 0).cells.toList := by
     obtain ⟨g, o, e, hr⟩ := Dr.out 0 (by omega)
     cases e
     exact hr
    rw [Nat.zero_mul, Nat.add_zero] at hrk
    obtain ⟨D, hDD⟩ : ∃ z, z = (l 0).cells := ⟨_, rfl⟩
    rw [← hDD] at hrk
    have HRK := Lib.hid hrk
    have SDD := Lib.hid (show D.size = 4 by rw [hDD]; rfl)
    have ODD := Lib.hid (show D.all (·.oneCell') = true by rw [hDD]; exact (l 0).one)
    have IDD := Lib.hid (show (Tryz.prog.info? 72).map (·.size) = some D.size by rw [SDD.out]; exact sizeD)
    have HDD := Lib.hid hDD
    have hgar : ga < wr.heap.size := by omega
    clear hrk hDD
    go_upto_region 12 with fail
    refine wp_region_held_drew (S := fun w' => Keeps (Two (w.heap.size + 1) (w.heap.size + 1 + 1)) wr w') (by kernel_rfl) ((Keeps.refl _ _).drew) (fun hS0 => ?_)
    refine takeD 61 (i := 0) (v := .agg MC) rfl rfl (by kernel_rfl) (by kernel_rfl) (by kernel_rfl) (fun _ _ _ h => h) (yieldsA (by rfl) 34 (.tmp 3) rfl (w.heap.size) (by first | rfl | simp [Act.eval, Act.put]) MC (fun w h => (X3.out.kept h (fun e => by rcases e with e | e <;> omega)).rng) Tryz.underlying34 rfl IM.out) (by assumption) ?_
    try simp only [Act.put, List.setIfInBounds_toArray, List.set_cons_zero, List.set_cons_succ]
    refine takeD 62 (i := 1) (v := .slice (some ⟨ga, oa, none⟩) 1 c) rfl rfl (by kernel_rfl) (by kernel_rfl) (by kernel_rfl) (fun _ _ _ h => h) (Or.inl ⟨by rfl, by (intro w' _; go_simp)⟩) (by assumption) ?_
    try simp only [Act.put, List.setIfInBounds_toArray, List.set_cons_zero, List.set_cons_succ]
    refine takeD 63 (i := 2) (v := .pointer (some ⟨ga, oa, none⟩)) rfl rfl (by kernel_rfl) (by kernel_rfl) (by kernel_rfl) (fun _ _ _ h => h) (Or.inl ⟨by rfl, by (intro w' _; go_simp)⟩) (by assumption) ?_
    try simp only [Act.put, List.setIfInBounds_toArray, List.set_cons_zero, List.set_cons_succ]
    refine takeD 64 (i := 3) (v := .agg D) rfl rfl (by kernel_rfl) (by kernel_rfl) (by kernel_rfl) (fun _ _ _ h => h) (yieldsR (by rfl) 72 (.tmp 63) rfl (ga) (oa) (by first | rfl | simp [Act.eval, Act.put]) D (fun w h => (fun j v hj => (h.cell (p := ⟨ga, oa + j, none⟩) (HRK.out j v hj) (fun e => by rcases e with e | e <;> (have e : ga = _ := e; omega))))) Tryz.underlying72 rfl IDD.out) (by assumption) ?_
    try simp only [Act.put, List.setIfInBounds_toArray, List.set_cons_zero, List.set_cons_succ]
    refine wpAnyH_ready (rs := [4]) (by kernel_rfl) (by simp) (AllReadyH.cons rfl (fun K hK => ?_) AllReadyH.nil)
    rw [if_pos (by rfl)]
    refine wp_storeN 34 (.tmp 6) (.tmp 61) rfl rfl (w.heap.size + 1) 0 MC (by first | rfl | simp [Act.eval, Act.put]) (by first | rfl | simp [Act.eval, Act.put]) (by rw [S2.out]; exact X6.out.drew.th) (by rw [S2.out]; exact sizeRM) OM.out ?_
    refine hK.out _ _ (hS0.trans (Keeps.store (S := One (w.heap.size + 1)) (Keeps.refl _ _) (fun _ => rfl) _ _).two1) (fun hS0 => ?_)
    clear hK K
    try simp only [Act.put, List.setIfInBounds_toArray, List.set_cons_zero, List.set_cons_succ]
    refine wpAnyH_ready (rs := [5]) (by kernel_rfl) (by simp) (AllReadyH.cons rfl (fun K hK => ?_) AllReadyH.nil)
    rw [if_pos (by rfl)]
    refine wp_storeN 72 (.tmp 7) (.tmp 64) rfl rfl (w.heap.size + 1 + 1) 0 D (by first | rfl | simp [Act.eval, Act.put]) (by first | rfl | simp [Act.eval, Act.put]) (by rw [SDD.out, ← SZ.out]; exact (X7.out.drew.kept (Keeps.store (S := One (w.heap.size + 1)) (Keeps.refl _ _) (fun _ => rfl) _ _) (fun e => by have e : w.heap.size + 1 + 1 = w.heap.size + 1 := e; omega)).th) IDD.out ODD.out ?_
    refine hK.out _ _ (hS0.trans (Keeps.store (S := One (w.heap.size + 1 + 1)) (Keeps.refl _ _) (fun _ => rfl) _ _).two2) (fun hS0 => ?_)
    clear hK K
    try simp only [Act.put, List.setIfInBounds_toArray, List.set_cons_zero, List.set_cons_succ]
    refine takeD 8 (i := 6) (v := .int .i64 0) rfl rfl (by kernel_rfl) (by kernel_rfl) (by kernel_rfl) (fun _ _ _ h => h) (Or.inl ⟨by rfl, by (intro w' _; go_simp)⟩) (by assumption) ?_
    try simp only [Act.put, List.setIfInBounds_toArray, List.set_cons_zero, List.set_cons_succ]
    refine wpAnyH_done (by kernel_rfl) ?_ _
    go_wp2_with fail
    obtain ⟨x6, x7, xb, -⟩ := srb_ret (w := w) (W := wr.drew) (X := MC) (Y := D) ⟨Tr.out.below.drew, X3.out.drew, X6.out.drew, X7.out.drew⟩ S2.out SDD.out SZ.out
    exact bodyPost_ret (results_cct rfl _ _ _ x6 x7 rfl Tryz.underlying34 rfl IM.out rfl Tryz.underlying72 rfl IDD.out) rfl ⟨xb, .inr (.inl ⟨HG.out, rfl, by rw [← HDD.out]; rfl⟩)⟩
   ·have q4 : ((k : Int) == 1) = false := beq_eq_false_iff_ne.2 (by omega)
    obtain ⟨av, cv, hav, -⟩ := ownsRow_shape HO.out
    have hsl : u9 ≠ .slice none 0 0 := fun e => by rw [hav] at e; injection e with e1 e2 e3; omega
    have hnl := newL_of_owns HO.out hsl (flB_length l k)
    obtain ⟨g2, cap2, F2, eg, hg2, hr2, hc2, hc3, hx2⟩ := hnl
    subst eg
    have hsrc : Src (fun j => S j ∨ (w.heap.size ≤ j ∧ j < bs)) wr (some ⟨g2, 0, none⟩) (16 * k) (lsB l) := ⟨by omega, fun _ => ⟨g2, 0, rfl, fun e => e.elim (fun e => by have := HSS.out g2 e; omega) (fun e => by omega), fun i hi => by
     rw [Nat.zero_add, hr2.cell (by omega)]
     have := hx2 i hi
     rw [flB_get l k i (by omega)] at this
     exact this.symm⟩⟩
    obtain ⟨kn, hkn2⟩ : ∃ z : Nat, z = 16 * k := ⟨_, rfl⟩
    rw [← hkn2] at hsrc ⊢
    have HWR := Lib.hid (rwrite_any _ (.agg MC) sz f L (at' : Int) kn cap2 (some ⟨g2, 0, none⟩) (lsB l) wr Mr.out hsz (by omega) (by omega) hsrc HLL.out (fun j hj => hj.elim (fun hj => by have := HSS.out j hj; omega) (fun hj => by omega)))
    have HKN := Lib.hid hkn2
    obtain ⟨ck, hck⟩ : ∃ z, z = chk sz (at' : Int) (kn : Int) := ⟨_, rfl⟩
    have HCK := Lib.hid hck
    have hwz : w.heap.size + 2 < wr.heap.size := by omega
    clear hsrc hkn2 hck hr2 hx2 hav
    obtain ⟨DL, hDL⟩ : ∃ A : Array Value, A = (⟨4, (at' : Int), (kn : Int), 0⟩ : Dsc).cells := ⟨_, rfl⟩
    have SDL := Lib.hid (show DL.size = 4 by rw [hDL]; rfl)
    have ODL := Lib.hid (show DL.all (·.oneCell') = true by rw [hDL]; exact Dsc.one _)
    have IDL := Lib.hid (show (Tryz.prog.info? 72).map (·.size) = some DL.size by rw [SDL.out]; exact sizeD)
    have BDL := Lib.hid (show ∀ w, (Instr.build 72 #[(0, .int .i64 4), (1, .int .u64 (at' : Nat)), (2, .int .i64 (kn : Nat))]).run Tryz.prog w = .ok (.agg DL) w by rw [hDL]; exact build_lastR _ _)
    have HDL := Lib.hid hDL
    clear hDL
    go_upto_region 14 with (first
     | ((with_reducible show wpList _ _ _ (⟨some 66, _, _, _, _, _⟩ :: _) _ _); refine wpList_loadA rfl X3.out 34 (.tmp 3) rfl (by first | rfl | simp [Act.eval, Act.put]) Tryz.underlying34 rfl IM.out ?_)
     | (go_at_call 68; refine HWR.out.mono ?_; rintro e w5 ⟨v', rfl, hr, hb⟩; rw [← HCK.out]; obtain ⟨MC', rfl, hm2, hmo⟩ := refAt_form hr; have S2' := Lib.hid hm2; have OM' := Lib.hid hmo; have HR5 := Lib.hid hr; have T5 := Lib.hid (Tr.out.go hb); clear hb hr hm2 hmo)
     | ((with_reducible show wpList _ _ _ (⟨some 12, _, _, _, _, _⟩ :: _) _ _); refine wpList_alloc rfl 34 rfl zeroRM ?_; rw [show (Value.agg zRM).cells = zRM from rfl])
     | ((with_reducible show wpList _ _ _ (⟨none, .store _ (.tmp 12) _, _, _, _, _⟩ :: _) _ _); refine wpList_storeA rfl (b := w5.heap.size) (A := zRM) (A' := MC') (ArrAt.fresh w5 zRM _ (by decide)) 34 (.tmp 12) (.tmp 70) rfl (by simp [Act.eval, Act.put]) (by simp [Act.eval, Act.put]) ssizeRMz (by rw [S2'.out]; rfl) OM'.out ?_))
    obtain ⟨W6, hW⟩ : ∃ z, z = (w5.alloc (.cells zRM 34)).setCells w5.heap.size 0 MC'.toList := ⟨_, rfl⟩
    obtain ⟨hb6, ha6⟩ := stored_at (by decide) (by rw [S2'.out]; rfl) hW
    rw [← hW]
    have R12 := Lib.hid ha6
    have T6 := Lib.hid (T5.out.go hb6)
    have HR6 := Lib.hid (HR5.out.below hb6)
    have IM' := Lib.hid (show (Tryz.prog.info? 34).map (·.size) = some MC'.size by rw [S2'.out]; exact sizeRM)
    have Y3 := Lib.hid T6.out.r3
    have Y6 := Lib.hid T6.out.r6
    have Y7 := Lib.hid T6.out.r7
    clear hW hb6 ha6 X3 X6 X7
    by_cases hc0 : ck = 0
    ·have qc : (ck != 0) = false := by rw [hc0]; rfl
     go_wp2_with (first
      | ((with_reducible show wpList _ _ _ (⟨some 77, _, _, _, _, _⟩ :: _) _ _); refine wpList_loadA rfl R12.out 34 (.tmp 12) rfl (by first | rfl | simp [Act.eval, Act.put]) Tryz.underlying34 rfl IM'.out ?_)
      | ((with_reducible show wpList _ _ _ (⟨some 81, _, _, _, _, _⟩ :: _) _ _); refine wpList_buildC rfl 72 #[(0, .const (.int .i64 4)), (1, .tmp 78), (2, .tmp 80)] rfl #[(0, .int .i64 4), (1, .int .u64 (at' : Nat)), (2, .int .i64 (kn : Nat))] (by simp [Act.eval, Act.put]) (BDL.out _) ?_)
      | ((with_reducible show wpList _ _ _ (⟨none, .store _ (.tmp 6) _, _, _, _, _⟩ :: _) _ _); refine wpList_storeA rfl (b := w.heap.size + 1) (A := zRM) (A' := MC') Y6.out 34 (.tmp 6) (.tmp 77) rfl (by simp [Act.eval, Act.put]) (by simp [Act.eval, Act.put]) ssizeRMz (by rw [S2'.out]; rfl) OM'.out ?_)
      | ((with_reducible show wpList _ _ _ (⟨none, .store _ (.tmp 7) _, _, _, _, _⟩ :: _) _ _); refine wpList_storeA rfl (b := w.heap.size + 1 + 1) (A := Z) (A' := DL) (Y7.out.kept (Keeps.store (S := One (w.heap.size + 1)) (Keeps.refl _ _) (fun _ => rfl) _ _) (fun e => by have e : w.heap.size + 1 + 1 = w.heap.size + 1 := e; omega)) 72 (.tmp 7) (.tmp 81) rfl (by simp [Act.eval, Act.put]) (by simp [Act.eval, Act.put]) IZ.out (by rw [SDL.out, SZ.out]) ODL.out ?_))
     obtain ⟨x6, x7, xb, xk⟩ := srb_ret (X := MC') (Y := DL) T6.out S2'.out SDL.out SZ.out
     refine bodyPost_ret (results_cct rfl _ _ _ x6 x7 rfl Tryz.underlying34 rfl IM'.out rfl Tryz.underlying72 rfl IDL.out) rfl ⟨xb, .inr (.inr (.inr ⟨HG.out, by omega, by rw [← HKN.out, ← HCK.out]; exact hc0, MC', wl' sz L (at' : Int) (kn : Int), ?_, ?_⟩))⟩
     ·rw [← HKN.out, ← HDL.out]; rfl
     ·have hw' : wf' sz f (at' : Int) (kn : Int) (lsB l) = upd f at' (16 * k) (lsB l) := by
       unfold wf'
       rw [if_pos (by rw [← HCK.out]; exact hc0), ← HKN.out]
       rfl
      rw [← hw']
      exact (HR6.out.kept xk (fun b h => .inr (by rcases h with h | h <;> omega))).more (fun b _ h => .inl h)
    ·have qc : (ck != 0) = true := bne_iff_ne.2 hc0
     go_wp2_with (first
      | ((with_reducible show wpList _ _ _ (⟨some 74, _, _, _, _, _⟩ :: _) _ _); refine wpList_loadA rfl Y3.out 34 (.tmp 3) rfl (by first | rfl | simp [Act.eval, Act.put]) Tryz.underlying34 rfl IM.out ?_)
      | ((with_reducible show wpList _ _ _ (⟨some 75, _, _, _, _, _⟩ :: _) _ _); refine wpList_build0 rfl 72 rfl (BZ.out _) ?_)
      | ((with_reducible show wpList _ _ _ (⟨none, .store _ (.tmp 6) _, _, _, _, _⟩ :: _) _ _); refine wpList_storeA rfl (b := w.heap.size + 1) (A := zRM) (A' := MC) Y6.out 34 (.tmp 6) (.tmp 74) rfl (by simp [Act.eval, Act.put]) (by simp [Act.eval, Act.put]) ssizeRMz (by rw [S2.out]; rfl) OM.out ?_)
      | ((with_reducible show wpList _ _ _ (⟨none, .store _ (.tmp 7) _, _, _, _, _⟩ :: _) _ _); refine wpList_storeA rfl (b := w.heap.size + 1 + 1) (A := Z) (A' := Z) (Y7.out.kept (Keeps.store (S := One (w.heap.size + 1)) (Keeps.refl _ _) (fun _ => rfl) _ _) (fun e => by have e : w.heap.size + 1 + 1 = w.heap.size + 1 := e; omega)) 72 (.tmp 7) (.tmp 75) rfl (by simp [Act.eval, Act.put]) (by simp [Act.eval, Act.put]) IZ.out rfl OZ.out ?_))
     obtain ⟨x6, x7, xb, -⟩ := srb_ret T6.out S2.out SZ.out SZ.out
     exact bodyPost_ret (results_cct rfl _ _ _ x6 x7 rfl Tryz.underlying34 rfl IM.out rfl Tryz.underlying72 rfl IZ.out) rfl ⟨xb, .inr (.inr (.inl ⟨HG.out, by omega, by rw [← HKN.out, ← HCK.out]; exact hc0, by rw [← HZ.out, ← HKN.out, ← HCK.out]; rfl⟩))⟩
end
end Go.Proofs.YtfmabknhfehdcaaGreat
