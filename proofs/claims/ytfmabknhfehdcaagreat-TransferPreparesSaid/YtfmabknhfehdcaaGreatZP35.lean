/- prp: the specification's Build. -/
import Derived.Test.YtfmabknhfehdcaaGreatZP34
import Derived.Test.YtfmabknhfehdcaaGreatZP24
namespace Go.Proofs.YtfmabknhfehdcaaGreat
set_option linter.unusedSimpArgs false
set_option linter.unusedVariables false
open Go.RowKit
theorem results_cttt {fn : Func} {p u x y : Tmp} {ty : TypeId} (h : fn.results = #[.cell p ty, .tmp u, .tmp x, .tmp y]) (tmps : Array Value) (P : Program) (w : World) {b : Nat} {A : Array Value} (H : ArrAt w b A) {d : TypeDesc}
  (hp : tmps.getD p undef = .pointer (some ⟨b, 0, none⟩)) (hu : P.underlying ty = some d) (hd : d.isRow = true) (hi : (P.info? ty).map (·.size) = some A.size) :
  (results fn tmps).run P w = .ok (.tuple #[.agg A, tmps.getD u undef, tmps.getD x undef, tmps.getD y undef]) w := by
 simp only [results, h]
 simp only [Array.getD_eq_getD_getElem?] at hp
 simp [Sem.run_bind, Result.andThen, hp, asAddr, H.loadVar hu hd hi]
/-- What lies in memory while it runs: the parameter, the result. -/
structure RBt (w : World) (MC : Array Value) (W : World) : Prop where
 below : Below w.heap.size w W
 r5 : ArrAt W w.heap.size MC
 r10 : ArrAt W (w.heap.size + 1) zRM
theorem RBt.kept {w W W' : World} {MC : Array Value} {S : Nat → Prop} (h : RBt w MC W) (k : Keeps S W W') (hS : ∀ j, j ≤ w.heap.size + 1 → ¬ S j) : RBt w MC W' :=
 ⟨h.below.trans (k.below (B := w.heap.size) h.below.size (fun j hj => hS j (by omega))), h.r5.kept k (hS _ (by omega)), h.r10.kept k (hS _ (by omega))⟩
theorem RBt.go {w W W' : World} {MC : Array Value} (h : RBt w MC W) (k : Below W.heap.size W W') : RBt w MC W' := h.kept (Keeps.of_below (S := fun _ => False) k) (fun _ _ e => e)
theorem rb_ret {w W : World} {MC X : Array Value} (h : RBt w MC W) (hx : X.size = 2) :
  ArrAt (W.setCells (w.heap.size + 1) 0 X.toList) (w.heap.size + 1) X ∧ Below w.heap.size w (W.setCells (w.heap.size + 1) 0 X.toList) ∧ Keeps (One (w.heap.size + 1)) W (W.setCells (w.heap.size + 1) 0 X.toList) :=
 ⟨h.r10.store X (by rw [hx]; rfl), bstore h.below _ (by omega) _ _, Keeps.store (S := One (w.heap.size + 1)) (Keeps.refl _ _) (fun _ => rfl) _ _⟩
/-- the results -/
def rbE (MC : Array Value) (x y no : Int) : Ending := .returned (.tuple #[.agg MC, .int .u64 x, .int .u64 y, .int .i64 no])
/-- What the specification's Build gives. -/
def RBPost (MC : Array Value) (sz : Nat) (f : Nat → Int) (S : Nat → Prop) (np nl : Nat) (p l : Nat → Int) (o N : Int) (w : World) (e : Ending) (w' : World) : Prop :=
 Below w.heap.size w w' ∧ ((¬ VArg np nl p l o N ∧ e = rbE MC 0 0 2) ∨ (VArg np nl p l o N ∧ (
  (np = 0 ∧ e = rbE MC 0 0 0) ∨ (np = 1 ∧ e = rbE MC (p 0 + o) 0 0) ∨ (np = 2 ∧ e = rbE MC (p 0 + o) (p 1) 0) ∨
  (3 ≤ np ∧ (nl = 0 ∨ (nl : Int) < lstsP (l 0) np) ∧ e = rbE MC 0 0 7) ∨
  (3 ≤ np ∧ 0 < nl ∧ lstsP (l 0) np ≤ nl ∧ ((∃ D MC' L', planP l p np sz 2 0 1 [] = .ok D ∧ e = rbE MC' (p 0 + o) (l 0) 0 ∧ RefAt S w' (.agg MC') sz (itF f D) L') ∨ (planP l p np sz 2 0 1 [] = .error 3 ∧ e = rbE MC 0 0 3))))))
section
variable (MC : Array Value) (la pa : Option Addr) (nl np lc pc : Nat) (l p : Nat → Int) (o N : Int) (sz : Nat) (f : Nat → Int) (L : List (Nat × Nat)) (S : Nat → Prop) (w : World) (hM : RefAt S w (.agg MC) sz f L) (h2 : MC.size = 2) (hOM : MC.all (·.oneCell') = true)
 (hl : UAt w la nl l) (hp : UAt w pa np p) (hul : U64 nl l) (hup : U64 np p) (hnl : nl ≤ 1000000) (hnp : np ≤ 1000000) (ho0 : -9223372036854775808 ≤ o) (ho1 : o ≤ 9223372036854775807) (hN0 : -9223372036854775808 ≤ N) (hN1 : N ≤ 9223372036854775807)
include hM h2 hOM hl hp hul hup hnl hnp ho0 ho1 hN0 hN1
omit hnl hnp in
set_option maxRecDepth 100000 in
set_option maxHeartbeats 8000000 in
theorem rb_arg1 (hg : N < 0 ∨ 1048576 < N ∨ o < 0 ∨ 4092 < o ∨ o % 4 ≠ 0 ∨ (np : Int) ≠ pgs o N) : Calls Tryz.prog 26 #[.agg MC, .slice la nl lc, .slice pa np pc, .int .i64 o, .int .i64 N] w (RBPost MC sz f S np nl p l o N w) := by
 have HNV := Lib.hid (show ¬ VArg np nl p l o N from fun h => by
  have := h.n0; have := h.n1; have := h.o0; have := h.o1; have := h.o4; have := h.k
  rcases hg with e | e | e | e | e | e
  all_goals first | omega | exact e h.k)
 obtain ⟨P, hP⟩ : ∃ z, z = pgs o N := ⟨_, rfl⟩
 rw [← hP] at hg
 have HPG := Lib.hid hP.symm
 clear hP
 have HM := Lib.hid hM
 have S2 := Lib.hid h2
 have OM := Lib.hid hOM
 have IM := Lib.hid (show (Tryz.prog.info? 34).map (·.size) = some MC.size by rw [h2]; exact sizeRM)
 have HL := Lib.hid hl
 have HP := Lib.hid hp
 have HUL := Lib.hid hul
 have HUP := Lib.hid hup
 clear hM h2 hOM hl hp hul hup
 go_enter Tryz.func26, Tryz.ntmps26
 go_upto_region 1 with ((with_reducible show wpList _ _ _ (⟨some 10, _, _, _, _, _⟩ :: _) _ _); refine wpList_alloc rfl 34 rfl zeroRM ?_; rw [show (Value.agg zRM).cells = zRM from rfl])
 obtain ⟨W0, hW⟩ : ∃ z, z = (w.alloc (.cells MC 34)).alloc (.cells zRM 34) := ⟨_, rfl⟩
 have T0 := Lib.hid (show RBt w MC W0 from by
  have f1 := ArrAt.fresh w MC 34 (by rw [S2.out]; omega)
  have f2 := ArrAt.fresh (w.alloc (.cells MC 34)) zRM 34 (by decide)
  simp only [World.size_alloc] at f2
  rw [hW]
  exact ⟨((Below.refl _ w).alloc (Nat.le_refl _) _).alloc (by simp) _, f1.alloc _, f2⟩)
 rw [← hW]
 clear hW
 have T5 := Lib.hid T0.out.r5
 have T10 := Lib.hid T0.out.r10
 by_cases c0 : N < 0
 ·have q0 : decide (N < 0) = true := decide_eq_true c0
  clear hg
  go_wp2_with (first
   | ((with_reducible show wpList _ _ _ (⟨some 54, _, _, _, _, _⟩ :: _) _ _); refine wpList_loadA rfl T5.out 34 (.tmp 5) rfl (by first | rfl | simp [Act.eval, Act.put]) Tryz.underlying34 rfl IM.out ?_)
   | ((with_reducible show wpList _ _ _ (⟨none, .store _ (.tmp 10) _, _, _, _, _⟩ :: _) _ _); refine wpList_storeA rfl (b := w.heap.size + 1) (A := zRM) (A' := MC) T10.out 34 (.tmp 10) (.tmp 54) rfl (by simp [Act.eval, Act.put]) (by simp [Act.eval, Act.put]) sizeRMz (by rw [S2.out]; rfl) OM.out ?_)
   | (go_at_call 27; refine (rcount_any o N P _ (by omega) (by omega) HPG.out).mono ?_; rintro e w' ⟨rfl, rfl⟩))
  obtain ⟨x10, xb, xk⟩ := rb_ret (X := MC) T0.out S2.out
  exact bodyPost_ret (results_cttt rfl _ _ _ x10 rfl Tryz.underlying34 rfl IM.out) rfl ⟨xb, .inl ⟨HNV.out, rfl⟩⟩
 have q0 : decide (N < 0) = false := decide_eq_false c0
 by_cases c1 : 1048576 < N
 ·have q1 : decide (1048576 < N) = true := decide_eq_true c1
  clear hg
  go_wp2_with (first
   | ((with_reducible show wpList _ _ _ (⟨some 54, _, _, _, _, _⟩ :: _) _ _); refine wpList_loadA rfl T5.out 34 (.tmp 5) rfl (by first | rfl | simp [Act.eval, Act.put]) Tryz.underlying34 rfl IM.out ?_)
   | ((with_reducible show wpList _ _ _ (⟨none, .store _ (.tmp 10) _, _, _, _, _⟩ :: _) _ _); refine wpList_storeA rfl (b := w.heap.size + 1) (A := zRM) (A' := MC) T10.out 34 (.tmp 10) (.tmp 54) rfl (by simp [Act.eval, Act.put]) (by simp [Act.eval, Act.put]) sizeRMz (by rw [S2.out]; rfl) OM.out ?_)
   | (go_at_call 27; refine (rcount_any o N P _ (by omega) (by omega) HPG.out).mono ?_; rintro e w' ⟨rfl, rfl⟩))
  obtain ⟨x10, xb, xk⟩ := rb_ret (X := MC) T0.out S2.out
  exact bodyPost_ret (results_cttt rfl _ _ _ x10 rfl Tryz.underlying34 rfl IM.out) rfl ⟨xb, .inl ⟨HNV.out, rfl⟩⟩
 have q1 : decide (1048576 < N) = false := decide_eq_false c1
 by_cases c2 : o < 0
 ·have q2 : decide (o < 0) = true := decide_eq_true c2
  clear hg
  go_wp2_with (first
   | ((with_reducible show wpList _ _ _ (⟨some 54, _, _, _, _, _⟩ :: _) _ _); refine wpList_loadA rfl T5.out 34 (.tmp 5) rfl (by first | rfl | simp [Act.eval, Act.put]) Tryz.underlying34 rfl IM.out ?_)
   | ((with_reducible show wpList _ _ _ (⟨none, .store _ (.tmp 10) _, _, _, _, _⟩ :: _) _ _); refine wpList_storeA rfl (b := w.heap.size + 1) (A := zRM) (A' := MC) T10.out 34 (.tmp 10) (.tmp 54) rfl (by simp [Act.eval, Act.put]) (by simp [Act.eval, Act.put]) sizeRMz (by rw [S2.out]; rfl) OM.out ?_)
   | (go_at_call 27; refine (rcount_any o N P _ (by omega) (by omega) HPG.out).mono ?_; rintro e w' ⟨rfl, rfl⟩))
  obtain ⟨x10, xb, xk⟩ := rb_ret (X := MC) T0.out S2.out
  exact bodyPost_ret (results_cttt rfl _ _ _ x10 rfl Tryz.underlying34 rfl IM.out) rfl ⟨xb, .inl ⟨HNV.out, rfl⟩⟩
 have q2 : decide (o < 0) = false := decide_eq_false c2
 by_cases c3 : 4092 < o
 ·have q3 : decide (4092 < o) = true := decide_eq_true c3
  clear hg
  go_wp2_with (first
   | ((with_reducible show wpList _ _ _ (⟨some 54, _, _, _, _, _⟩ :: _) _ _); refine wpList_loadA rfl T5.out 34 (.tmp 5) rfl (by first | rfl | simp [Act.eval, Act.put]) Tryz.underlying34 rfl IM.out ?_)
   | ((with_reducible show wpList _ _ _ (⟨none, .store _ (.tmp 10) _, _, _, _, _⟩ :: _) _ _); refine wpList_storeA rfl (b := w.heap.size + 1) (A := zRM) (A' := MC) T10.out 34 (.tmp 10) (.tmp 54) rfl (by simp [Act.eval, Act.put]) (by simp [Act.eval, Act.put]) sizeRMz (by rw [S2.out]; rfl) OM.out ?_)
   | (go_at_call 27; refine (rcount_any o N P _ (by omega) (by omega) HPG.out).mono ?_; rintro e w' ⟨rfl, rfl⟩))
  obtain ⟨x10, xb, xk⟩ := rb_ret (X := MC) T0.out S2.out
  exact bodyPost_ret (results_cttt rfl _ _ _ x10 rfl Tryz.underlying34 rfl IM.out) rfl ⟨xb, .inl ⟨HNV.out, rfl⟩⟩
 have q3 : decide (4092 < o) = false := decide_eq_false c3
 by_cases c4 : o % 4 ≠ 0
 ·have q4 : (o % 4 != 0) = true := bne_iff_ne.2 c4
  clear hg
  go_wp2_with (first
   | ((with_reducible show wpList _ _ _ (⟨some 54, _, _, _, _, _⟩ :: _) _ _); refine wpList_loadA rfl T5.out 34 (.tmp 5) rfl (by first | rfl | simp [Act.eval, Act.put]) Tryz.underlying34 rfl IM.out ?_)
   | ((with_reducible show wpList _ _ _ (⟨none, .store _ (.tmp 10) _, _, _, _, _⟩ :: _) _ _); refine wpList_storeA rfl (b := w.heap.size + 1) (A := zRM) (A' := MC) T10.out 34 (.tmp 10) (.tmp 54) rfl (by simp [Act.eval, Act.put]) (by simp [Act.eval, Act.put]) sizeRMz (by rw [S2.out]; rfl) OM.out ?_)
   | (go_at_call 27; refine (rcount_any o N P _ (by omega) (by omega) HPG.out).mono ?_; rintro e w' ⟨rfl, rfl⟩))
  obtain ⟨x10, xb, xk⟩ := rb_ret (X := MC) T0.out S2.out
  exact bodyPost_ret (results_cttt rfl _ _ _ x10 rfl Tryz.underlying34 rfl IM.out) rfl ⟨xb, .inl ⟨HNV.out, rfl⟩⟩
 have q4 : (o % 4 != 0) = false := by have := Classical.not_not.1 c4; simp [this]
 by_cases c5 : (np : Int) ≠ P
 ·have q5 : ((np : Int) != P) = true := bne_iff_ne.2 c5
  clear hg
  go_wp2_with (first
   | ((with_reducible show wpList _ _ _ (⟨some 54, _, _, _, _, _⟩ :: _) _ _); refine wpList_loadA rfl T5.out 34 (.tmp 5) rfl (by first | rfl | simp [Act.eval, Act.put]) Tryz.underlying34 rfl IM.out ?_)
   | ((with_reducible show wpList _ _ _ (⟨none, .store _ (.tmp 10) _, _, _, _, _⟩ :: _) _ _); refine wpList_storeA rfl (b := w.heap.size + 1) (A := zRM) (A' := MC) T10.out 34 (.tmp 10) (.tmp 54) rfl (by simp [Act.eval, Act.put]) (by simp [Act.eval, Act.put]) sizeRMz (by rw [S2.out]; rfl) OM.out ?_)
   | (go_at_call 27; refine (rcount_any o N P _ (by omega) (by omega) HPG.out).mono ?_; rintro e w' ⟨rfl, rfl⟩))
  obtain ⟨x10, xb, xk⟩ := rb_ret (X := MC) T0.out S2.out
  exact bodyPost_ret (results_cttt rfl _ _ _ x10 rfl Tryz.underlying34 rfl IM.out) rfl ⟨xb, .inl ⟨HNV.out, rfl⟩⟩
 have q5 : ((np : Int) != P) = false := by have := Classical.not_not.1 c5; simp [this]
 exfalso
 have c4 := Classical.not_not.1 c4
 have c5 := Classical.not_not.1 c5
 rcases hg with e | e | e | e | e | e
 all_goals first | omega | exact e c5 | exact e c4
set_option maxRecDepth 100000 in
set_option maxHeartbeats 16000000 in
theorem rb_main (hg0 : 0 ≤ N) (hg1 : N ≤ 1048576) (hg2 : 0 ≤ o) (hg3 : o ≤ 4092) (hg4 : o % 4 = 0) (hg5 : (np : Int) = pgs o N) (hsz : sz ≤ 4194304) (hLL : L.length ≤ 998) (hSS : ∀ j, S j → j < w.heap.size) (hpc : np ≤ pc) (hpc2 : pc ≤ 9223372036854775807) :
  Calls Tryz.prog 26 #[.agg MC, .slice la nl lc, .slice pa np pc, .int .i64 o, .int .i64 N] w (RBPost MC sz f S np nl p l o N w) := by
 have q0 : decide (N < 0) = false := decide_eq_false (by omega)
 have q1 : decide (1048576 < N) = false := decide_eq_false (by omega)
 have q2 : decide (o < 0) = false := decide_eq_false (by omega)
 have q3 : decide (4092 < o) = false := decide_eq_false (by omega)
 have q4 : (o % 4 != 0) = false := by simp [hg4]
 have q5 : ((np : Int) != (np : Int)) = false := by simp
 have HV := Lib.hid (fun (h1 : ∀ i, i < np → p i % 4096 = 0) (h2 : ∀ i, i < nl → l i % 8 = 0 ∧ (i = 0 ∨ l i % 4096 = 0)) => (⟨hg0, hg1, hg2, by omega, hg4, hg5, h1, h2⟩ : VArg np nl p l o N))
 have HPG := Lib.hid hg5.symm
 have HLL := Lib.hid hLL
 have HSS := Lib.hid hSS
 have hpcI : (np : Int) ≤ (pc : Int) := by omega
 have hpcK : (pc : Int) ≤ 9223372036854775807 := by omega
 clear hg4 hg5 hLL hSS
 have HM := Lib.hid hM
 have S2 := Lib.hid h2
 have OM := Lib.hid hOM
 have IM := Lib.hid (show (Tryz.prog.info? 34).map (·.size) = some MC.size by rw [h2]; exact sizeRM)
 have HL := Lib.hid hl
 have HP := Lib.hid hp
 have HUL := Lib.hid hul
 have HUP := Lib.hid hup
 clear hM h2 hOM hl hp hul hup
 go_enter Tryz.func26, Tryz.ntmps26
 go_upto_region 1 with ((with_reducible show wpList _ _ _ (⟨some 10, _, _, _, _, _⟩ :: _) _ _); refine wpList_alloc rfl 34 rfl zeroRM ?_; rw [show (Value.agg zRM).cells = zRM from rfl])
 obtain ⟨W0, hW⟩ : ∃ z, z = (w.alloc (.cells MC 34)).alloc (.cells zRM 34) := ⟨_, rfl⟩
 have T0 := Lib.hid (show RBt w MC W0 from by
  have f1 := ArrAt.fresh w MC 34 (by rw [S2.out]; omega)
  have f2 := ArrAt.fresh (w.alloc (.cells MC 34)) zRM 34 (by decide)
  simp only [World.size_alloc] at f2
  rw [hW]
  exact ⟨((Below.refl _ w).alloc (Nat.le_refl _) _).alloc (by simp) _, f1.alloc _, f2⟩)
 rw [← hW]
 clear hW
 have T5 := Lib.hid T0.out.r5
 have T10 := Lib.hid T0.out.r10
 go_upto_region 4 with (go_at_call 27; refine (rcount_any o N np _ (by omega) (by omega) HPG.out).mono ?_; rintro e w' ⟨rfl, rfl⟩)
 go_loop [14] (fun v14 => ∃ k : Nat, k ≤ np ∧ v14 = .int .i64 (k : Nat) ∧ ∀ i, i < k → p i % 4096 = 0) (fun v14 => np - (intOf v14).toNat)
 case atStart => exact ⟨0, by omega, rfl, fun i hi => by omega⟩
 case round =>
  obtain ⟨k, hk, rfl, hgd⟩ := hrel
  have HGD := Lib.hid hgd
  clear hgd
  by_cases hkn : k < np
  ·have r1 : decide ((k : Int) < (np : Int)) = true := decide_eq_true (by omega)
   obtain ⟨pg, po, rfl, hpc'⟩ := HP.out (by omega)
   have c0 := (T0.out.below.cell (p := ⟨pg, po + k, none⟩) (World.block_lt_of_cell? _ _ (hpc' k hkn))).trans (hpc' k hkn)
   obtain ⟨b0, b1⟩ := HUP.out k hkn
   obtain ⟨pk, hpk⟩ : ∃ z, z = p k := ⟨_, rfl⟩
   rw [← hpk] at c0 b0 b1
   have HPK := Lib.hid hpk
   clear hpc' hpk
   by_cases hb : pk % 4096 = 0
   ·have r2 : (pk % 4096 != 0) = false := by simp [hb]
    have HGD2 := Lib.hid (show ∀ i, i < k + 1 → p i % 4096 = 0 from fun i hi => by
     rcases Nat.lt_or_ge i k with h | h
     ·exact HGD.out i h
     ·obtain rfl : i = k := by omega
      rw [← HPK.out]; exact hb)
    clear hb
    go_wp2_with fail
    go_round
    case rel => exact ⟨k + 1, by omega, by go_num, HGD2.out⟩
    case measure => simp [intOf]; omega
   ·have r2 : (pk % 4096 != 0) = true := bne_iff_ne.2 hb
    have HNV := Lib.hid (show ¬ VArg np nl p l o N from fun h => hb (by rw [HPK.out]; exact h.pg k hkn))
    clear hb
    go_wp2_with (first
     | ((with_reducible show wpList _ _ _ (⟨some 67, _, _, _, _, _⟩ :: _) _ _); refine wpList_loadA rfl T5.out 34 (.tmp 5) rfl (by first | rfl | simp [Act.eval, Act.put]) Tryz.underlying34 rfl IM.out ?_)
     | ((with_reducible show wpList _ _ _ (⟨none, .store _ (.tmp 10) _, _, _, _, _⟩ :: _) _ _); refine wpList_storeA rfl (b := w.heap.size + 1) (A := zRM) (A' := MC) T10.out 34 (.tmp 10) (.tmp 67) rfl (by simp [Act.eval, Act.put]) (by simp [Act.eval, Act.put]) sizeRMz (by rw [S2.out]; rfl) OM.out ?_))
    obtain ⟨x10, xb, xk⟩ := rb_ret (X := MC) T0.out S2.out
    exact bodyPost_ret (results_cttt rfl _ _ _ x10 rfl Tryz.underlying34 rfl IM.out) rfl ⟨xb, .inl ⟨HNV.out, rfl⟩⟩
  ·obtain rfl : np = k := by omega
   have r1 : decide ((np : Int) < (np : Int)) = false := decide_eq_false (by omega)
   go_upto_region 9 with fail
   go_loop [15] (fun v15 => ∃ j : Nat, j ≤ nl ∧ v15 = .int .i64 (j : Nat) ∧ ∀ i, i < j → l i % 8 = 0 ∧ (i = 0 ∨ l i % 4096 = 0)) (fun v15 => nl - (intOf v15).toNat)
   case atStart => exact ⟨0, by omega, rfl, fun i hi => by omega⟩
   case round =>
    obtain ⟨j, hj, rfl, hgl⟩ := hrel
    have HGL := Lib.hid hgl
    clear hgl
    by_cases hjn : j < nl
    ·have s1 : decide ((j : Int) < (nl : Int)) = true := decide_eq_true (by omega)
     obtain ⟨lg, lo, rfl, hlc'⟩ := HL.out (by omega)
     have c0 := (T0.out.below.cell (p := ⟨lg, lo + j, none⟩) (World.block_lt_of_cell? _ _ (hlc' j hjn))).trans (hlc' j hjn)
     obtain ⟨b0, b1⟩ := HUL.out j hjn
     obtain ⟨lj, hlj⟩ : ∃ z, z = l j := ⟨_, rfl⟩
     rw [← hlj] at c0 b0 b1
     have HLJ := Lib.hid hlj
     clear hlc' hlj
     by_cases hb : lj % 8 = 0
     ·have s2 : (lj % 8 != 0) = false := by simp [hb]
      by_cases hj0 : j = 0
      ·have s3 : decide (0 < (j : Int)) = false := decide_eq_false (by omega)
       have s3b : decide (0 < j) = false := decide_eq_false (by omega)
       have HG2 := Lib.hid (show ∀ i, i < j + 1 → l i % 8 = 0 ∧ (i = 0 ∨ l i % 4096 = 0) from fun i hi => by
        rcases Nat.lt_or_ge i j with h | h
        ·exact HGL.out i h
        ·obtain rfl : i = j := by omega
         rw [← HLJ.out]; exact ⟨hb, .inl hj0⟩)
       clear hb hj0
       go_wp2_with fail
       go_round
       case rel => exact ⟨j + 1, by omega, by go_num, HG2.out⟩
       case measure => simp [intOf]; omega
      ·have s3 : decide (0 < (j : Int)) = true := decide_eq_true (by omega)
       have s3b : decide (0 < j) = true := decide_eq_true (by omega)
       by_cases hb2 : lj % 4096 = 0
       ·have s4 : (lj % 4096 != 0) = false := by simp [hb2]
        have HG2 := Lib.hid (show ∀ i, i < j + 1 → l i % 8 = 0 ∧ (i = 0 ∨ l i % 4096 = 0) from fun i hi => by
         rcases Nat.lt_or_ge i j with h | h
         ·exact HGL.out i h
         ·obtain rfl : i = j := by omega
          rw [← HLJ.out]; exact ⟨hb, .inr hb2⟩)
        clear hb hj0 hb2
        go_wp2_with fail
        go_round
        case rel => exact ⟨j + 1, by omega, by go_num, HG2.out⟩
        case measure => simp [intOf]; omega
       ·have s4 : (lj % 4096 != 0) = true := bne_iff_ne.2 hb2
        have HNV := Lib.hid (show ¬ VArg np nl p l o N from fun h => (h.ls j hjn).2.elim hj0 (fun e => hb2 (by rw [HLJ.out]; exact e)))
        clear hb hj0 hb2
        go_wp2_with (first
         | ((with_reducible show wpList _ _ _ (⟨some 92, _, _, _, _, _⟩ :: _) _ _); refine wpList_loadA rfl T5.out 34 (.tmp 5) rfl (by first | rfl | simp [Act.eval, Act.put]) Tryz.underlying34 rfl IM.out ?_)
         | ((with_reducible show wpList _ _ _ (⟨none, .store _ (.tmp 10) _, _, _, _, _⟩ :: _) _ _); refine wpList_storeA rfl (b := w.heap.size + 1) (A := zRM) (A' := MC) T10.out 34 (.tmp 10) (.tmp 92) rfl (by simp [Act.eval, Act.put]) (by simp [Act.eval, Act.put]) sizeRMz (by rw [S2.out]; rfl) OM.out ?_))
        obtain ⟨x10, xb, xk⟩ := rb_ret (X := MC) T0.out S2.out
        exact bodyPost_ret (results_cttt rfl _ _ _ x10 rfl Tryz.underlying34 rfl IM.out) rfl ⟨xb, .inl ⟨HNV.out, rfl⟩⟩
     ·have s2 : (lj % 8 != 0) = true := bne_iff_ne.2 hb
      have HNV := Lib.hid (show ¬ VArg np nl p l o N from fun h => hb (by rw [HLJ.out]; exact (h.ls j hjn).1))
      clear hb
      go_wp2_with (first
       | ((with_reducible show wpList _ _ _ (⟨some 92, _, _, _, _, _⟩ :: _) _ _); refine wpList_loadA rfl T5.out 34 (.tmp 5) rfl (by first | rfl | simp [Act.eval, Act.put]) Tryz.underlying34 rfl IM.out ?_)
       | ((with_reducible show wpList _ _ _ (⟨none, .store _ (.tmp 10) _, _, _, _, _⟩ :: _) _ _); refine wpList_storeA rfl (b := w.heap.size + 1) (A := zRM) (A' := MC) T10.out 34 (.tmp 10) (.tmp 92) rfl (by simp [Act.eval, Act.put]) (by simp [Act.eval, Act.put]) sizeRMz (by rw [S2.out]; rfl) OM.out ?_))
      obtain ⟨x10, xb, xk⟩ := rb_ret (X := MC) T0.out S2.out
      exact bodyPost_ret (results_cttt rfl _ _ _ x10 rfl Tryz.underlying34 rfl IM.out) rfl ⟨xb, .inl ⟨HNV.out, rfl⟩⟩
    ·obtain rfl : nl = j := by omega
     have s1 : decide ((nl : Int) < (nl : Int)) = false := decide_eq_false (by omega)
     have HVV := Lib.hid (HV.out HGD.out HGL.out)
     go_upto_region 14 with fail
     rcases Nat.lt_or_ge np 3 with hk3 | hk3
     ·have r0 := np
      by_cases h0 : np = 0
      ·have e0 : ((np : Int) == 0) = true := beq_iff_eq.2 (by omega)
       have H0 := Lib.hid h0
       clear h0 hk3
       go_wp2_with (first
        | ((with_reducible show wpList _ _ _ (⟨some 97, _, _, _, _, _⟩ :: _) _ _); refine wpList_loadA rfl T5.out 34 (.tmp 5) rfl (by first | rfl | simp [Act.eval, Act.put]) Tryz.underlying34 rfl IM.out ?_)
        | ((with_reducible show wpList _ _ _ (⟨none, .store _ (.tmp 10) _, _, _, _, _⟩ :: _) _ _); refine wpList_storeA rfl (b := w.heap.size + 1) (A := zRM) (A' := MC) T10.out 34 (.tmp 10) (.tmp 97) rfl (by simp [Act.eval, Act.put]) (by simp [Act.eval, Act.put]) sizeRMz (by rw [S2.out]; rfl) OM.out ?_))
       obtain ⟨x10, xb, xk⟩ := rb_ret (X := MC) T0.out S2.out
       exact bodyPost_ret (results_cttt rfl _ _ _ x10 rfl Tryz.underlying34 rfl IM.out) rfl ⟨xb, .inr ⟨HVV.out, .inl ⟨H0.out, rfl⟩⟩⟩
      by_cases h1 : np = 1
      ·have e0 : ((np : Int) == 0) = false := beq_eq_false_iff_ne.2 (by omega)
       have e1 : ((np : Int) == 1) = true := beq_iff_eq.2 (by omega)
       obtain ⟨pg, po, rfl, hpc'⟩ := HP.out (by omega)
       have c0 := (T0.out.below.cell (p := ⟨pg, po + 0, none⟩) (World.block_lt_of_cell? _ _ (hpc' 0 (by omega)))).trans (hpc' 0 (by omega))
       have hpgl : pg < w.heap.size := World.block_lt_of_cell? _ _ (hpc' 0 (by omega))
       obtain ⟨b0, b1⟩ := HUP.out 0 (by omega)
       have hm0 := HVV.out.pg 0 (by omega)
       obtain ⟨p0, hp0⟩ : ∃ z, z = p 0 := ⟨_, rfl⟩
       rw [← hp0] at c0 b0 b1 hm0
       rw [Nat.add_zero] at c0
       have C0 := Lib.hid c0
       have HP0 := Lib.hid hp0
       have hps : p0 + o ≤ 18446744073709551615 := by omega
       have hkI : (0 : Int) < (np : Int) := by omega
       have hkN : ¬ np = 0 := by omega
       have e5 : IntKind.u64.wrap o = o := IntWalk.u64_in _ (by omega)
       have e6 : IntKind.u64.wrap (p0 + o) = p0 + o := IntWalk.u64_in _ (by omega)
       clear hp0 c0 hm0
       have H1 := Lib.hid h1
       clear h1 h0 hk3 hpc'
       go_upto_region 17 with fail
       refine wp_region_held_drew (S := fun w' => Keeps (One (w.heap.size + 1)) W0 w') (by kernel_rfl) ((Keeps.refl _ _).drew) (fun hS0 => ?_)
       refine takeD 100 (i := 0) (v := .agg MC) rfl rfl (by kernel_rfl) (by kernel_rfl) (by kernel_rfl) (fun _ _ _ h => h) (yieldsA (by rfl) 34 (.tmp 5) rfl (w.heap.size) (by first | rfl | simp [Act.eval, Act.put]) MC (fun w h => (T5.out.kept h (fun e => Nat.ne_of_lt (Nat.lt_succ_self _) e)).rng) Tryz.underlying34 rfl IM.out) (by assumption) ?_
       try simp only [Act.put, List.setIfInBounds_toArray, List.set_cons_zero, List.set_cons_succ]
       refine takeD 101 (i := 1) (v := .slice (some ⟨pg, po, none⟩) np pc) rfl rfl (by kernel_rfl) (by kernel_rfl) (by kernel_rfl) (fun _ _ _ h => h) (Or.inl ⟨by rfl, by (intro w' _; go_simp)⟩) (by assumption) ?_
       try simp only [Act.put, List.setIfInBounds_toArray, List.set_cons_zero, List.set_cons_succ]
       refine takeD 102 (i := 2) (v := .pointer (some ⟨pg, po, none⟩)) rfl rfl (by kernel_rfl) (by kernel_rfl) (by kernel_rfl) (fun _ _ _ h => h) (Or.inl ⟨by rfl, by (intro w' _; go_simp)⟩) (by assumption) ?_
       try simp only [Act.put, List.setIfInBounds_toArray, List.set_cons_zero, List.set_cons_succ]
       refine takeD 103 (i := 3) (v := .int .u64 p0) rfl rfl (by kernel_rfl) (by kernel_rfl) (by kernel_rfl) (fun _ _ _ h => h) (Or.inl ⟨by rfl, by (intro w' h; have h2 := h.cell C0.out (fun e => by have e : pg = w.heap.size + 1 := e; omega); clear h; go_simp)⟩) (by assumption) ?_
       try simp only [Act.put, List.setIfInBounds_toArray, List.set_cons_zero, List.set_cons_succ]
       refine takeD 104 (i := 4) (v := .int .i64 o) rfl rfl (by kernel_rfl) (by kernel_rfl) (by kernel_rfl) (fun _ _ _ h => h) (Or.inl ⟨by rfl, by (intro w' _; go_simp)⟩) (by assumption) ?_
       try simp only [Act.put, List.setIfInBounds_toArray, List.set_cons_zero, List.set_cons_succ]
       refine takeD 105 (i := 5) (v := .int .u64 o) rfl rfl (by kernel_rfl) (by kernel_rfl) (by kernel_rfl) (fun _ _ _ h => h) (Or.inl ⟨by rfl, by (intro w' _; go_simp)⟩) (by assumption) ?_
       try simp only [Act.put, List.setIfInBounds_toArray, List.set_cons_zero, List.set_cons_succ]
       refine takeD 106 (i := 6) (v := .int .u64 (p0 + o)) rfl rfl (by kernel_rfl) (by kernel_rfl) (by kernel_rfl) (fun _ _ _ h => h) (Or.inl ⟨by rfl, by (intro w' _; go_simp)⟩) (by assumption) ?_
       try simp only [Act.put, List.setIfInBounds_toArray, List.set_cons_zero, List.set_cons_succ]
       refine wpAnyH_ready (rs := [7]) (by kernel_rfl) (by simp) (AllReadyH.cons rfl (fun K hK => ?_) AllReadyH.nil)
       rw [if_pos (by rfl)]
       refine wp_storeN 34 (.tmp 10) (.tmp 100) rfl rfl (w.heap.size + 1) 0 MC (by first | rfl | simp [Act.eval, Act.put]) (by first | rfl | simp [Act.eval, Act.put]) (by rw [S2.out]; exact T10.out.drew.th) (by rw [S2.out]; exact sizeRM) OM.out ?_
       refine hK.out _ _ (hS0.trans (Keeps.store (S := One (w.heap.size + 1)) (Keeps.refl _ _) (fun _ => rfl) _ _)) (fun hS0 => ?_)
       clear hK K
       try simp only [Act.put, List.setIfInBounds_toArray, List.set_cons_zero, List.set_cons_succ]
       refine takeD 11 (i := 8) (v := .int .u64 (p0 + o)) rfl rfl (by kernel_rfl) (by kernel_rfl) (by kernel_rfl) (fun _ _ _ h => h) (Or.inl ⟨by rfl, by (intro w' _; go_simp)⟩) (by assumption) ?_
       try simp only [Act.put, List.setIfInBounds_toArray, List.set_cons_zero, List.set_cons_succ]
       refine takeD 12 (i := 9) (v := .int .u64 0) rfl rfl (by kernel_rfl) (by kernel_rfl) (by kernel_rfl) (fun _ _ _ h => h) (Or.inl ⟨by rfl, by (intro w' _; go_simp)⟩) (by assumption) ?_
       try simp only [Act.put, List.setIfInBounds_toArray, List.set_cons_zero, List.set_cons_succ]
       refine takeD 13 (i := 10) (v := .int .i64 0) rfl rfl (by kernel_rfl) (by kernel_rfl) (by kernel_rfl) (fun _ _ _ h => h) (Or.inl ⟨by rfl, by (intro w' _; go_simp)⟩) (by assumption) ?_
       try simp only [Act.put, List.setIfInBounds_toArray, List.set_cons_zero, List.set_cons_succ]
       refine wpAnyH_done (by kernel_rfl) ?_ _
       go_wp2_with fail
       obtain ⟨x10, xb, xk⟩ := rb_ret (w := w) (W := W0.drew) (X := MC) ⟨T0.out.below.drew, T0.out.r5.drew, T0.out.r10.drew⟩ S2.out
       exact bodyPost_ret (results_cttt rfl _ _ _ x10 rfl Tryz.underlying34 rfl IM.out) rfl ⟨xb, .inr ⟨HVV.out, .inr (.inl ⟨H1.out, by rw [← HP0.out]; rfl⟩)⟩⟩
      ·have e0 : ((np : Int) == 0) = false := beq_eq_false_iff_ne.2 (by omega)
       have e1 : ((np : Int) == 1) = false := beq_eq_false_iff_ne.2 (by omega)
       have e2 : ((np : Int) == 2) = true := beq_iff_eq.2 (by omega)
       obtain ⟨pg, po, rfl, hpc'⟩ := HP.out (by omega)
       have c0 := (T0.out.below.cell (p := ⟨pg, po + 0, none⟩) (World.block_lt_of_cell? _ _ (hpc' 0 (by omega)))).trans (hpc' 0 (by omega))
       have hpgl : pg < w.heap.size := World.block_lt_of_cell? _ _ (hpc' 0 (by omega))
       obtain ⟨b0, b1⟩ := HUP.out 0 (by omega)
       have hm0 := HVV.out.pg 0 (by omega)
       obtain ⟨p0, hp0⟩ : ∃ z, z = p 0 := ⟨_, rfl⟩
       rw [← hp0] at c0 b0 b1 hm0
       rw [Nat.add_zero] at c0
       have C0 := Lib.hid c0
       have HP0 := Lib.hid hp0
       have hps : p0 + o ≤ 18446744073709551615 := by omega
       have hkI : (0 : Int) < (np : Int) := by omega
       have hkN : ¬ np = 0 := by omega
       have e5 : IntKind.u64.wrap o = o := IntWalk.u64_in _ (by omega)
       have e6 : IntKind.u64.wrap (p0 + o) = p0 + o := IntWalk.u64_in _ (by omega)
       clear hp0 c0 hm0
       have c1 := (T0.out.below.cell (p := ⟨pg, po + 1, none⟩) (World.block_lt_of_cell? _ _ (hpc' 1 (by omega)))).trans (hpc' 1 (by omega))
       obtain ⟨p1, hp1⟩ : ∃ z, z = p 1 := ⟨_, rfl⟩
       rw [← hp1] at c1
       have C1 := Lib.hid c1
       have HP1 := Lib.hid hp1
       have hkJ : (1 : Int) < (np : Int) := by omega
       have hkM : 1 < np := by omega
       have H1 := Lib.hid (show np = 2 by omega)
       clear h1 h0 hk3 hpc' hp1 c1
       go_upto_region 19 with fail
       refine wp_region_held_drew (S := fun w' => Keeps (One (w.heap.size + 1)) W0 w') (by kernel_rfl) ((Keeps.refl _ _).drew) (fun hS0 => ?_)
       refine takeD 109 (i := 0) (v := .agg MC) rfl rfl (by kernel_rfl) (by kernel_rfl) (by kernel_rfl) (fun _ _ _ h => h) (yieldsA (by rfl) 34 (.tmp 5) rfl (w.heap.size) (by first | rfl | simp [Act.eval, Act.put]) MC (fun w h => (T5.out.kept h (fun e => Nat.ne_of_lt (Nat.lt_succ_self _) e)).rng) Tryz.underlying34 rfl IM.out) (by assumption) ?_
       try simp only [Act.put, List.setIfInBounds_toArray, List.set_cons_zero, List.set_cons_succ]
       refine takeD 110 (i := 1) (v := .slice (some ⟨pg, po, none⟩) np pc) rfl rfl (by kernel_rfl) (by kernel_rfl) (by kernel_rfl) (fun _ _ _ h => h) (Or.inl ⟨by rfl, by (intro w' _; go_simp)⟩) (by assumption) ?_
       try simp only [Act.put, List.setIfInBounds_toArray, List.set_cons_zero, List.set_cons_succ]
       refine takeD 111 (i := 2) (v := .pointer (some ⟨pg, po, none⟩)) rfl rfl (by kernel_rfl) (by kernel_rfl) (by kernel_rfl) (fun _ _ _ h => h) (Or.inl ⟨by rfl, by (intro w' _; go_simp)⟩) (by assumption) ?_
       try simp only [Act.put, List.setIfInBounds_toArray, List.set_cons_zero, List.set_cons_succ]
       refine takeD 112 (i := 3) (v := .int .u64 p0) rfl rfl (by kernel_rfl) (by kernel_rfl) (by kernel_rfl) (fun _ _ _ h => h) (Or.inl ⟨by rfl, by (intro w' h; have h2 := h.cell C0.out (fun e => by have e : pg = w.heap.size + 1 := e; omega); clear h; go_simp)⟩) (by assumption) ?_
       try simp only [Act.put, List.setIfInBounds_toArray, List.set_cons_zero, List.set_cons_succ]
       refine takeD 113 (i := 4) (v := .int .i64 o) rfl rfl (by kernel_rfl) (by kernel_rfl) (by kernel_rfl) (fun _ _ _ h => h) (Or.inl ⟨by rfl, by (intro w' _; go_simp)⟩) (by assumption) ?_
       try simp only [Act.put, List.setIfInBounds_toArray, List.set_cons_zero, List.set_cons_succ]
       refine takeD 114 (i := 5) (v := .int .u64 o) rfl rfl (by kernel_rfl) (by kernel_rfl) (by kernel_rfl) (fun _ _ _ h => h) (Or.inl ⟨by rfl, by (intro w' _; go_simp)⟩) (by assumption) ?_
       try simp only [Act.put, List.setIfInBounds_toArray, List.set_cons_zero, List.set_cons_succ]
       refine takeD 115 (i := 6) (v := .int .u64 (p0 + o)) rfl rfl (by kernel_rfl) (by kernel_rfl) (by kernel_rfl) (fun _ _ _ h => h) (Or.inl ⟨by rfl, by (intro w' _; go_simp)⟩) (by assumption) ?_
       try simp only [Act.put, List.setIfInBounds_toArray, List.set_cons_zero, List.set_cons_succ]
       refine takeD 116 (i := 7) (v := .slice (some ⟨pg, po, none⟩) np pc) rfl rfl (by kernel_rfl) (by kernel_rfl) (by kernel_rfl) (fun _ _ _ h => h) (Or.inl ⟨by rfl, by (intro w' _; go_simp)⟩) (by assumption) ?_
       try simp only [Act.put, List.setIfInBounds_toArray, List.set_cons_zero, List.set_cons_succ]
       refine takeD 117 (i := 8) (v := .pointer (some ⟨pg, po + 1, none⟩)) rfl rfl (by kernel_rfl) (by kernel_rfl) (by kernel_rfl) (fun _ _ _ h => h) (Or.inl ⟨by rfl, by (intro w' _; go_simp)⟩) (by assumption) ?_
       try simp only [Act.put, List.setIfInBounds_toArray, List.set_cons_zero, List.set_cons_succ]
       refine takeD 118 (i := 9) (v := .int .u64 p1) rfl rfl (by kernel_rfl) (by kernel_rfl) (by kernel_rfl) (fun _ _ _ h => h) (Or.inl ⟨by rfl, by (intro w' h; have h2 := h.cell C1.out (fun e => by have e : pg = w.heap.size + 1 := e; omega); clear h; go_simp)⟩) (by assumption) ?_
       try simp only [Act.put, List.setIfInBounds_toArray, List.set_cons_zero, List.set_cons_succ]
       refine wpAnyH_ready (rs := [10]) (by kernel_rfl) (by simp) (AllReadyH.cons rfl (fun K hK => ?_) AllReadyH.nil)
       rw [if_pos (by rfl)]
       refine wp_storeN 34 (.tmp 10) (.tmp 109) rfl rfl (w.heap.size + 1) 0 MC (by first | rfl | simp [Act.eval, Act.put]) (by first | rfl | simp [Act.eval, Act.put]) (by rw [S2.out]; exact T10.out.drew.th) (by rw [S2.out]; exact sizeRM) OM.out ?_
       refine hK.out _ _ (hS0.trans (Keeps.store (S := One (w.heap.size + 1)) (Keeps.refl _ _) (fun _ => rfl) _ _)) (fun hS0 => ?_)
       clear hK K
       try simp only [Act.put, List.setIfInBounds_toArray, List.set_cons_zero, List.set_cons_succ]
       refine takeD 11 (i := 11) (v := .int .u64 (p0 + o)) rfl rfl (by kernel_rfl) (by kernel_rfl) (by kernel_rfl) (fun _ _ _ h => h) (Or.inl ⟨by rfl, by (intro w' _; go_simp)⟩) (by assumption) ?_
       try simp only [Act.put, List.setIfInBounds_toArray, List.set_cons_zero, List.set_cons_succ]
       refine takeD 12 (i := 12) (v := .int .u64 p1) rfl rfl (by kernel_rfl) (by kernel_rfl) (by kernel_rfl) (fun _ _ _ h => h) (Or.inl ⟨by rfl, by (intro w' _; go_simp)⟩) (by assumption) ?_
       try simp only [Act.put, List.setIfInBounds_toArray, List.set_cons_zero, List.set_cons_succ]
       refine takeD 13 (i := 13) (v := .int .i64 0) rfl rfl (by kernel_rfl) (by kernel_rfl) (by kernel_rfl) (fun _ _ _ h => h) (Or.inl ⟨by rfl, by (intro w' _; go_simp)⟩) (by assumption) ?_
       try simp only [Act.put, List.setIfInBounds_toArray, List.set_cons_zero, List.set_cons_succ]
       refine wpAnyH_done (by kernel_rfl) ?_ _
       go_wp2_with fail
       obtain ⟨x10, xb, xk⟩ := rb_ret (w := w) (W := W0.drew) (X := MC) ⟨T0.out.below.drew, T0.out.r5.drew, T0.out.r10.drew⟩ S2.out
       exact bodyPost_ret (results_cttt rfl _ _ _ x10 rfl Tryz.underlying34 rfl IM.out) rfl ⟨xb, .inr ⟨HVV.out, .inr (.inr (.inl ⟨H1.out, by rw [← HP0.out, ← HP1.out]; rfl⟩))⟩⟩
     ·have e0 : ((np : Int) == 0) = false := beq_eq_false_iff_ne.2 (by omega)
      have e1 : ((np : Int) == 1) = false := beq_eq_false_iff_ne.2 (by omega)
      have e2 : ((np : Int) == 2) = false := beq_eq_false_iff_ne.2 (by omega)
      have H3 := Lib.hid hk3
      have hkN : ¬ np = 0 := by omega
      have hkI : (0 : Int) < (np : Int) := by omega
      have hpcJ : (1 : Int) ≤ (np : Int) := by omega
      have hpcM : ¬ pc = 1 := by omega
      have hpcP : ¬ 1 = pc := by omega
      have HVA := HVV
      have hpc' := HP
      obtain ⟨pg, po, rfl, hpd⟩ := hpc'.out (by omega)
      have hpgl : pg < w.heap.size := World.block_lt_of_cell? _ _ (hpd 0 (by omega))
      have HRP := Lib.hid (show ∀ W, Below w.heap.size w W → ∀ i, i < np → W.cell? ⟨pg, po + i, none⟩ = some (.int .u64 (p i)) from fun W hb i hi => (hb.cell (p := ⟨pg, po + i, none⟩) hpgl).trans (hpd i hi))
      clear hpc' hpd
      by_cases hnl0 : nl = 0
      ·have r3 : ((nl : Int) == 0) = true := beq_iff_eq.2 (by omega)
       have HN := Lib.hid hnl0
       clear hnl0 hk3
       go_wp2_with (first
        | ((with_reducible show wpList _ _ _ (⟨some 133, _, _, _, _, _⟩ :: _) _ _); refine wpList_loadA rfl T5.out 34 (.tmp 5) rfl (by first | rfl | simp [Act.eval, Act.put]) Tryz.underlying34 rfl IM.out ?_)
        | ((with_reducible show wpList _ _ _ (⟨none, .store _ (.tmp 10) _, _, _, _, _⟩ :: _) _ _); refine wpList_storeA rfl (b := w.heap.size + 1) (A := zRM) (A' := MC) T10.out 34 (.tmp 10) (.tmp 133) rfl (by simp [Act.eval, Act.put]) (by simp [Act.eval, Act.put]) sizeRMz (by rw [S2.out]; rfl) OM.out ?_))
       obtain ⟨x10, xb, xk⟩ := rb_ret (X := MC) T0.out S2.out
       exact bodyPost_ret (results_cttt rfl _ _ _ x10 rfl Tryz.underlying34 rfl IM.out) rfl ⟨xb, .inr ⟨HVV.out, .inr (.inr (.inr (.inl ⟨H3.out, .inl HN.out, rfl⟩)))⟩⟩
      ·have r3 : ((nl : Int) == 0) = false := beq_eq_false_iff_ne.2 (by omega)
       have hnlN : 0 < nl := by omega
       have HNLN := Lib.hid hnlN
       have hnlI : (0 : Int) < (nl : Int) := by omega
       have hnlZ : ¬ nl = 0 := hnl0
       obtain ⟨lg, lo, rfl, hld⟩ := HL.out hnlN
       have hlgl : lg < w.heap.size := World.block_lt_of_cell? _ _ (hld 0 hnlN)
       have HRU := Lib.hid (show ∀ W, Below w.heap.size w W → ∀ i, i < nl → W.cell? ⟨lg, lo + i, none⟩ = some (.int .u64 (l i)) from fun W hb i hi => (hb.cell (p := ⟨lg, lo + i, none⟩) hlgl).trans (hld i hi))
       have c9 := HRU.out W0 T0.out.below 0 hnlN
       rw [Nat.add_zero] at c9
       obtain ⟨l0, hl0⟩ : ∃ z, z = l 0 := ⟨_, rfl⟩
       have HL0 := Lib.hid hl0
       obtain ⟨y0, y1⟩ := HUL.out 0 hnlN
       obtain ⟨z, hz⟩ : ∃ z, z = lstsP (l 0) np := ⟨_, rfl⟩
       rw [← hl0] at c9 y0 y1
       have HLS := Lib.hid (show lstsP l0 np = z by rw [hl0, hz])
       have HZ := Lib.hid hz
       clear hld hl0 hz hnl0 hk3
       by_cases hfl : (nl : Int) < z
       ·have r4 : decide ((nl : Int) < z) = true := decide_eq_true hfl
        have HFL := Lib.hid hfl
        clear hfl
        go_wp2_with (first
         | ((with_reducible show wpList _ _ _ (⟨some 133, _, _, _, _, _⟩ :: _) _ _); refine wpList_loadA rfl T5.out 34 (.tmp 5) rfl (by first | rfl | simp [Act.eval, Act.put]) Tryz.underlying34 rfl IM.out ?_)
         | ((with_reducible show wpList _ _ _ (⟨none, .store _ (.tmp 10) _, _, _, _, _⟩ :: _) _ _); refine wpList_storeA rfl (b := w.heap.size + 1) (A := zRM) (A' := MC) T10.out 34 (.tmp 10) (.tmp 133) rfl (by simp [Act.eval, Act.put]) (by simp [Act.eval, Act.put]) sizeRMz (by rw [S2.out]; rfl) OM.out ?_)
         | (go_at_call 66; refine (rlists_any l0 np z _ y0 y1 (by omega) (by omega) HLS.out).mono ?_; rintro e w' ⟨rfl, rfl⟩))
        obtain ⟨x10, xb, xk⟩ := rb_ret (X := MC) T0.out S2.out
        exact bodyPost_ret (results_cttt rfl _ _ _ x10 rfl Tryz.underlying34 rfl IM.out) rfl ⟨xb, .inr ⟨HVV.out, .inr (.inr (.inr (.inl ⟨H3.out, .inr (by rw [← HZ.out]; exact HFL.out), rfl⟩)))⟩⟩
       ·have r4 : decide ((nl : Int) < z) = false := decide_eq_false hfl
        have HFL := Lib.hid (show lstsP (l 0) np ≤ (nl : Int) by rw [← HZ.out]; omega)
        clear hfl
        go_upto_region 23 with (first
         | ((with_reducible show wpList _ _ _ (⟨some 134, _, _, _, _, _⟩ :: _) _ _); refine wpList_loadA rfl T5.out 34 (.tmp 5) rfl (by first | rfl | simp [Act.eval, Act.put]) Tryz.underlying34 rfl IM.out ?_)
         | ((with_reducible show wpList _ _ _ (⟨some 16, _, _, _, _, _⟩ :: _) _ _); refine wpList_alloc rfl 34 rfl zeroRM ?_; rw [show (Value.agg zRM).cells = zRM from rfl])
         | ((with_reducible show wpList _ _ _ (⟨none, .store _ (.tmp 16) _, _, _, _, _⟩ :: _) _ _); refine wpList_storeA rfl (b := W0.heap.size) (A := zRM) (A' := MC) (ArrAt.fresh W0 zRM _ (by decide)) 34 (.tmp 16) (.tmp 134) rfl (by simp [Act.eval, Act.put]) (by simp [Act.eval, Act.put]) sizeRMz (by rw [S2.out]; rfl) OM.out ?_)
         | (go_at_call 66; refine (rlists_any l0 np z _ y0 y1 (by omega) (by omega) HLS.out).mono ?_; rintro e w' ⟨rfl, rfl⟩))
        obtain ⟨W1, hW⟩ : ∃ z, z = (W0.alloc (.cells zRM 34)).setCells W0.heap.size 0 MC.toList := ⟨_, rfl⟩
        obtain ⟨hb1, ha1⟩ := stored_at (by decide) (by rw [S2.out]; rfl) hW
        rw [← hW]
        obtain ⟨g16, hg16⟩ : ∃ z, z = W0.heap.size := ⟨_, rfl⟩
        rw [← hg16] at ha1 ⊢
        have T1 := Lib.hid (T0.out.go hb1)
        have R16 := Lib.hid ha1
        have hg16w : w.heap.size + 1 < g16 := by rw [hg16]; exact T10.out.lt
        obtain ⟨TS, hTS⟩ : ∃ q : Nat → Prop, q = fun i => S i ∨ (w.heap.size ≤ i ∧ i ≤ g16) := ⟨_, rfl⟩
        have M1 := Lib.hid (show RefAt TS W1 (.agg MC) sz f L by
         rw [hTS]
         exact (HM.out.more (T := fun i => S i ∨ (w.heap.size ≤ i ∧ i ≤ g16)) (fun b hb h => h.elim (fun h => h) (fun h => by omega))).below T1.out.below)
        have HTS1 := Lib.hid (show ∀ i, TS i → i ≤ g16 by
         rw [hTS]
         intro i h
         exact h.elim (fun h => by have := HSS.out i h; omega) (fun h => h.2))
        have HTS2 := Lib.hid (show ∀ i, S i → TS i by rw [hTS]; exact fun i h => .inl h)
        have HTS3 := Lib.hid (show ∀ i, w.heap.size ≤ i → i ≤ g16 → TS i by rw [hTS]; exact fun i h h' => .inr ⟨h, h'⟩)
        obtain ⟨X, hX⟩ : ∃ X, X = planP l p np sz 2 0 1 [] := ⟨_, rfl⟩
        have HX := Lib.hid hX.symm
        have np257 := HVV.out.le257
        have HN257 := Lib.hid np257
        clear hW hb1 ha1 hg16 T0 T5 T10 hTS hX c9 y0 y1 np257
        go_upto_region 25 with fail
        go_loopw [17, 18, 19, 20, 21, 22, 23, 24, 25] (fun v17 v18 _ _ _ _ _ _ _ wr => ∃ (k s t : Nat) (D : List Itm) (a : Option Addr) (c : Nat) (M' : Array Value) (L' : List (Nat × Nat)), v18 = .int .i64 (k : Nat) ∧ v17 = .slice a (np - s) c ∧ np - s ≤ c ∧ c ≤ 9223372036854775807 ∧ (s < np → a = some ⟨pg, po + s, none⟩) ∧ At l nl np k s ∧ k + t = 2 ∧ planP l p np sz t k s D = X ∧ RBt w MC wr ∧ ArrAt wr g16 M' ∧ M'.size = 2 ∧ M'.all (·.oneCell') = true ∧ RefAt TS wr (.agg M') sz (itF f D) L' ∧ L'.length ≤ 998 + k) (fun _ v18 _ _ _ _ _ _ _ _ => 2 - (intOf v18).toNat)
        case atStart => exact ⟨0, 1, 2, [], _, _, MC, L, rfl, rfl, by omega, by omega, fun _ => rfl, At.start (by have := H3.out; omega), rfl, HX.out, T1.out, R16.out, S2.out, OM.out, M1.out, by have := HLL.out; omega⟩
        case round =>
         obtain ⟨wo, hwo⟩ : ∃ z, z = wr := ⟨_, rfl⟩
         subst hwo
         obtain ⟨k, s, t, D, a, c, M', L', rfl, rfl, hc1, hc2, ha, hA, hkt, hpl, hT, hR, hm2, hm1, hmm, hL'⟩ := hrel
         have HT := Lib.hid hT
         have HR := Lib.hid hR
         have HM2 := Lib.hid hm2
         have HM1 := Lib.hid hm1
         have HMM := Lib.hid hmm
         have HLQ := Lib.hid hL'
         have IM' := Lib.hid (show (Tryz.prog.info? 34).map (·.size) = some M'.size by rw [hm2]; exact sizeRM)
         clear T1 R16 M1 hT hR hm2 hm1 hmm hL'
         by_cases hsn : s < np
         ·obtain rfl := ha hsn
          have hkn := hA.kn hsn HNLN.out
          have hk1 : k ≤ 1 := by have := hA.ex hsn; omega
          have HNX := Lib.hid (hA.next hsn HNLN.out HN257.out HFL.out (fun h2 => by
           rcases (HVV.out.ls 1 (by omega)).2 with e | e
           ·cases e
           ·exact e))
          have HPL := Lib.hid (planP_go hA hkt hsn hpl)
          have l6 := HRU.out wo HT.out.below k hkn
          have ul0 := (HUL.out k hkn).1
          have ul1 := (HUL.out k hkn).2
          have hl8 := (HVV.out.ls k hkn).1
          obtain ⟨lv, hlv⟩ : ∃ z, z = l k := ⟨_, rfl⟩
          have HLK := Lib.hid hlv
          rw [← hlv] at l6 ul0 ul1 hl8
          have rb := roomP_bd lv
          obtain ⟨r1, hr1⟩ : ∃ z : Nat, (roomP lv).toNat = z + 1 := ⟨(roomP lv).toNat - 1, by omega⟩
          have HRM := Lib.hid (show (4096 - lv % 4096) / 8 = (r1 : Int) + 1 by unfold roomP at hr1; omega)
          have HRk := Lib.hid (show (roomP (l k)).toNat = r1 + 1 by rw [← hlv]; exact hr1)
          have hr1b : r1 ≤ 511 := by omega
          have HAT := Lib.hid hA
          have HKT := Lib.hid hkt
          have hs1 := hA.s1
          obtain ⟨m, hm⟩ : ∃ z, z = np - s := ⟨_, rfl⟩
          have hmp : 0 < m := by omega
          have hmc : m ≤ c := by omega
          have hmm2 : m ≤ 257 := by have := HN257.out; omega
          rw [← hm]
          have HMN := Lib.hid hm
          have q16 : decide (0 < m) = true := decide_eq_true hmp
          have q16i : decide (0 < (m : Int)) = true := decide_eq_true (by omega)
          have hknI : (k : Int) < (nl : Int) := by omega
          have hk0 : (0 : Int) ≤ (k : Int) := by omega
          clear hlv rb hr1 hl8 hA hkt hpl ha hm hc1
          go_upto_region 29 with fail
          rw [HRM.out]
          obtain ⟨bs, hbs⟩ : ∃ z, z = wo.heap.size := ⟨_, rfl⟩
          have hbw : g16 < bs := by rw [hbs]; exact HR.out.lt
          have HBS := Lib.hid hbs
          clear hbs l6
          by_cases hlt : m ≤ r1 + 1
          ·have q30 : decide ((m : Int) ≤ (r1 : Int) + 1) = true := decide_eq_true (by omega)
           have e1 := Lib.hid (show nxs l np k s = np by unfold nxs; rw [if_pos (by rw [HRk.out, ← HMN.out]; exact hlt)])
           obtain ⟨q, hq⟩ : ∃ q : Nat → Int, q = fun e => p (s + e) := ⟨_, rfl⟩
           have e2 := Lib.hid (show itm l p np k s = ⟨l k, q, m⟩ by unfold itm; rw [if_pos (by rw [HRk.out, ← HMN.out]; exact hlt), hq, HMN.out])
           have HQ := Lib.hid (show ∀ e, q e = p (s + e) by rw [hq]; exact fun _ => rfl)
           clear hq hlt
           go_upto_region 32 with fail
           go_loopw [21, 22] (fun v21 v22 wi => ∃ e : Nat, e ≤ m ∧ v22 = .int .i64 (e : Nat) ∧ wi.ownsRow bs 5 1 v21 (8 * e) (flq q e) ∧ Keeps (fun i => bs ≤ i) wo wi) (fun _ v22 _ => m - (intOf v22).toNat)
           case atStart => exact ⟨0, by omega, rfl, World.ownsRow_nil _ _ _ _, Keeps.refl _ _⟩
           case round =>
            obtain ⟨e, he, rfl, hown, hkp⟩ := hrel
            have HO := Lib.hid hown
            have HKP := Lib.hid hkp
            have hwr : bs ≤ wr.heap.size := by rw [HBS.out]; exact hkp.size
            clear hown hkp
            by_cases hem : e < m
            ·have q32 : decide ((e : Int) < (m : Int)) = true := decide_eq_true (by omega)
             have q32n : decide (e < m) = true := decide_eq_true hem
             have BW := Lib.hid (show Below w.heap.size w wr from HT.out.below.trans (HKP.out.below (B := w.heap.size) (by have := HBS.out; omega) (fun j hj h => by have h : bs ≤ j := h; omega)))
             have c0 := HRP.out wr BW.out (s + e) (by have := HMN.out; omega)
             rw [← Nat.add_assoc, ← HQ.out e] at c0
             have b01 := HUP.out (s + e) (by have := HMN.out; omega)
             rw [← HQ.out e] at b01
             obtain ⟨b0, b1⟩ := b01
             obtain ⟨qe, hqe⟩ : ∃ z, z = q e := ⟨_, rfl⟩
             have HSQ := Lib.hid (show flq q e ++ bytesL qe 8 = flq q (e + 1) by rw [hqe]; rfl)
             rw [← hqe] at c0 b0 b1
             have hemI : (e : Int) < (m : Int) := by omega
             have hem2 : e < m := by omega
             obtain ⟨i0, hi0, hz0, hz1, hz2⟩ := info_parts infoU8
             clear hqe BW
             go_wp2_with (first
              | (go_at_call 67; refine (rbytes_any qe _ b0 b1).mono ?_; rintro e' w5 ⟨g5, c5, rfl, hb5, hg5, hc5⟩; have H5 := Lib.hid hb5; have C5 := Lib.hid hc5; have O5 := Lib.hid (HO.out.kept (w' := w5) (row := none) ⟨hb5.os, hb5.tape, hb5.output, hb5.size, fun j hj _ => hb5.block j hj⟩ (by cases u21.ownBlock <;> simp)); clear hb5 hc5 hg5)
              | (at_builtin; refine wpList_append_lies _ rfl _ _ 31 rfl bs 5 i0 _ 1 1 Tryz.underlying31 hi0 hz0 hz1 hz2 rfl (by decide) u21 (8 * e) (flq q e) rfl O5.out ⟨g5, 0, none⟩ 8 c5 (bytesL qe 8) rfl (by rw [bytesL_length]) C5.out (bytesL_one _ _) (by decide) (by unfold maxLen; omega) (by omega) (by have := H5.out.size; omega) w5.heap.size rfl ?_; intro gg cap w6 hown6 hgr6 hat6 hlt6; rw [HSQ.out] at hown6; have O6 := Lib.hid hown6; have K6 := Lib.hid (grown_keeps H5.out HO.out hwr hgr6); clear hown6 hgr6 hat6))
             exact ⟨⟨e + 1, by omega, by go_num, O6.out, HKP.out.trans K6.out⟩, by simp [intOf]; omega⟩
            ·obtain rfl : e = m := by omega
             have q32 : decide ((e : Int) < (e : Int)) = false := decide_eq_false (by omega)
             go_upto_region 42 with fail
             have HTi := Lib.hid (HT.out.kept HKP.out (fun j hj h => by have h : bs ≤ j := h; omega))
             have HRi := Lib.hid (HR.out.kept HKP.out (fun h => by have h : bs ≤ g16 := h; omega))
             have HMi := Lib.hid (((HMM.out.more (T := fun i => TS i ∨ bs ≤ i) (fun b hb h => h.elim (fun h => h) (fun h => by have := HBS.out; omega))).kept HKP.out (fun b h => .inr h)).more (T := TS) (fun b _ h => .inl h))
             obtain ⟨g2, cap2, hsl2, hg2, hx2⟩ := own_form HO.out (by omega)
             cases hsl2
             have hsrc : Src TS wr (some ⟨g2, 0, none⟩) (8 * e) (wB q) := ⟨by omega, fun _ => ⟨g2, 0, rfl, fun h => by have := HTS1.out g2 h; omega, fun i hi => by
              rw [Nat.zero_add]
              exact hx2 i _ hi (flq_get q e i (by omega))⟩⟩
             obtain ⟨n8, hn8⟩ : ∃ z : Nat, z = (8 * e) := ⟨_, rfl⟩
             rw [← hn8] at hsrc ⊢
             have HWR := Lib.hid (rwrite_any TS (.agg M') sz (itF f D) L' lv n8 cap2 (some ⟨g2, 0, none⟩) (wB q) wr HMi.out hsz ul0 ul1 hsrc (by have := HLQ.out; omega) (fun j hj => by have := HTS1.out j hj; have := HRi.out.lt; omega))
             obtain ⟨ck, hck⟩ : ∃ z, z = chk sz lv (n8 : Int) := ⟨_, rfl⟩
             have HCK := Lib.hid hck
             have HN8 := Lib.hid hn8
             clear hsrc hn8 hck hx2 HO HKP
             go_upto_region 43 with (first
              | ((with_reducible show wpList _ _ _ (⟨some 194, _, _, _, _, _⟩ :: _) _ _); refine wpList_loadA rfl HRi.out 34 (.tmp 16) rfl (by first | rfl | simp [Act.eval, Act.put]) Tryz.underlying34 rfl IM'.out ?_)
              | (go_at_call 68; refine HWR.out.mono ?_; rintro e' w7 ⟨v', rfl, hr, hb⟩; rw [← HCK.out]; obtain ⟨MC', rfl, hm2, hmo⟩ := refAt_form hr; have S2' := Lib.hid hm2; have OM' := Lib.hid hmo; have HR7 := Lib.hid hr; have T7 := Lib.hid (HTi.out.go hb); have R167 := Lib.hid (HRi.out.below hb); clear hb hr hm2 hmo)
              | ((with_reducible show wpList _ _ _ (⟨some 24, _, _, _, _, _⟩ :: _) _ _); refine wpList_alloc rfl 34 rfl zeroRM ?_; rw [show (Value.agg zRM).cells = zRM from rfl])
              | ((with_reducible show wpList _ _ _ (⟨none, .store _ (.tmp 24) _, _, _, _, _⟩ :: _) _ _); refine wpList_storeA rfl (b := w7.heap.size) (A := zRM) (A' := MC') (ArrAt.fresh w7 zRM _ (by decide)) 34 (.tmp 24) (.tmp 198) rfl (by simp [Act.eval, Act.put]) (by simp [Act.eval, Act.put]) sizeRMz (by rw [S2'.out]; rfl) OM'.out ?_))
             obtain ⟨W8, hW⟩ : ∃ z, z = (w7.alloc (.cells zRM 34)).setCells w7.heap.size 0 MC'.toList := ⟨_, rfl⟩
             obtain ⟨hb8, ha8⟩ := stored_at (by decide) (by rw [S2'.out]; rfl) hW
             rw [← hW]
             have R24 := Lib.hid ha8
             have T8 := Lib.hid (T7.out.go hb8)
             have R168 := Lib.hid (R167.out.below hb8)
             have HR8 := Lib.hid (HR7.out.below hb8)
             have T85 := Lib.hid T8.out.r5
             have T810 := Lib.hid T8.out.r10
             have IMC := Lib.hid (show (Tryz.prog.info? 34).map (·.size) = some MC'.size by rw [S2'.out]; exact sizeRM)
             have HFT := Lib.hid (show ((itm l p np k s).Fits sz → ck = 0) ∧ (ck = 0 → (itm l p np k s).Fits sz) ∧ (ck = 0 ∨ ck = 3) by
              rw [e2.out, HCK.out]
              unfold Itm.Fits chk
              simp only []
              rw [← HLK.out, if_neg (by omega)]
              have := HN8.out
              split
              ·exact ⟨fun _ => rfl, fun _ => by omega, .inl rfl⟩
              ·exact ⟨fun h => by omega, fun h => by omega, .inr rfl⟩)
             clear hW hb8 ha8
             by_cases hc0 : ck = 0
             ·obtain ⟨t', ht', hpl'⟩ := HPL.out.1 (HFT.out.2.1 hc0)
              have HPT := Lib.hid (And.intro ht' hpl')
              have HC0 := Lib.hid hc0
              have qc : (ck != 0) = false := by rw [hc0]; rfl
              clear hc0 ht' hpl'
              go_wp2_with (first
               | ((with_reducible show wpList _ _ _ (⟨some 204, _, _, _, _, _⟩ :: _) _ _); refine wpList_loadA rfl R24.out 34 (.tmp 24) rfl (by first | rfl | simp [Act.eval, Act.put]) Tryz.underlying34 rfl IMC.out ?_)
               | ((with_reducible show wpList _ _ _ (⟨none, .store _ (.tmp 16) _, _, _, _, _⟩ :: _) _ _); refine wpList_storeA rfl (b := g16) (A := M') (A' := MC') R168.out 34 (.tmp 16) (.tmp 204) rfl (by simp [Act.eval, Act.put]) (by simp [Act.eval, Act.put]) IM'.out (by rw [S2'.out, HM2.out]) OM'.out ?_))
              have k16 : Keeps (One g16) W8 (W8.setCells g16 0 MC'.toList) := Keeps.store (S := One g16) (Keeps.refl _ _) (fun _ => rfl) _ _
              refine ⟨⟨k + 1, nxs l np k s, t', D ++ [itm l p np k s], none, 0, MC', wl' sz L' lv n8, by go_num, by rw [show np - nxs l np k s = 0 by have := e1.out; omega], by have := e1.out; omega, by omega, fun hc => by have := e1.out; omega, HNX.out.2, HPT.out.1, HPT.out.2, T8.out.kept k16 (fun j hj h => by have h : j = g16 := h; omega), R168.out.store MC' (by rw [S2'.out, HM2.out]), S2'.out, OM'.out, ?_, ?_⟩, by simp [intOf]; omega⟩
              ·have h := HR8.out.kept k16 (fun b hb => HTS3.out b (by have hb : b = g16 := hb; omega) (by have hb : b = g16 := hb; omega))
               unfold wf' at h
               rw [if_pos (by rw [← HCK.out]; exact HC0.out), Int.toNat_natCast] at h
               rw [itF_app, e2.out]
               show RefAt TS _ _ sz (upd (itF f D) (l k).toNat (8 * e) (wB q)) _
               rw [← HLK.out, show 8 * e = n8 by rw [HN8.out]]
               exact h
              ·unfold wl'
               have := HLQ.out
               split
               ·have := logged_len L' lv.toNat (n8 : Int).toNat
                omega
               ·omega
             ·obtain rfl : ck = 3 := HFT.out.2.2.resolve_left hc0
              have HX3 := Lib.hid (HPL.out.2 (fun h => hc0 (HFT.out.1 h)))
              have qc : ((3 : Int) != 0) = true := by decide
              clear hc0
              go_wp2_with (first
               | ((with_reducible show wpList _ _ _ (⟨some 202, _, _, _, _, _⟩ :: _) _ _); refine wpList_loadA rfl T85.out 34 (.tmp 5) rfl (by first | rfl | simp [Act.eval, Act.put]) Tryz.underlying34 rfl IM.out ?_)
               | ((with_reducible show wpList _ _ _ (⟨none, .store _ (.tmp 10) _, _, _, _, _⟩ :: _) _ _); refine wpList_storeA rfl (b := w.heap.size + 1) (A := zRM) (A' := MC) T810.out 34 (.tmp 10) (.tmp 202) rfl (by simp [Act.eval, Act.put]) (by simp [Act.eval, Act.put]) sizeRMz (by rw [S2.out]; rfl) OM.out ?_))
              obtain ⟨x10, xb, xk⟩ := rb_ret (X := MC) T8.out S2.out
              exact bodyPost_ret (results_cttt rfl _ _ _ x10 rfl Tryz.underlying34 rfl IM.out) rfl ⟨xb, .inr ⟨HVV.out, .inr (.inr (.inr (.inr ⟨H3.out, HNLN.out, HFL.out, .inr ⟨by rw [HX.out]; exact HX3.out, rfl⟩⟩)))⟩⟩
          ·have q30 : decide ((m : Int) ≤ (r1 : Int) + 1) = false := decide_eq_false (by omega)
           have e0 : ¬ np - s ≤ (roomP (l k)).toNat := by rw [HRk.out, ← HMN.out]; exact hlt
           have hk2 := HNX.out.1 e0
           have e1 := Lib.hid (show nxs l np k s = s + r1 by unfold nxs; rw [if_neg e0, HRk.out]; omega)
           obtain ⟨q, hq⟩ : ∃ q : Nat → Int, q = fun e => if e + 1 < r1 + 1 then p (s + e) else l (k + 1) := ⟨_, rfl⟩
           have e2 := Lib.hid (show itm l p np k s = ⟨l k, q, r1 + 1⟩ by unfold itm; rw [if_neg e0, HRk.out, hq])
           have HQ := Lib.hid (show ∀ e, e < r1 → q e = p (s + e) by rw [hq]; exact fun e he => if_pos (by omega))
           have HQ2 := Lib.hid (show q r1 = l (k + 1) by rw [hq]; exact if_neg (by omega))
           have HK2 := Lib.hid hk2
           have hr1m : r1 < m := by omega
           have hr1c : r1 ≤ c := by omega
           have hr1n : ¬ r1 = c := by omega
           have hr1o : ¬ c = r1 := by omega
           have hr1I : (r1 : Int) ≤ (m : Int) := by omega
           have hr1J : (r1 : Int) ≤ (c : Int) := by omega
           have hcI : (c : Int) ≤ 9223372036854775807 := by omega
           clear hq hlt e0 hk2
           go_upto_region 37 with fail
           go_loopw [21, 23] (fun v21 v23 wi => ∃ e : Nat, e ≤ r1 ∧ v23 = .int .i64 (e : Nat) ∧ wi.ownsRow bs 5 1 v21 (8 * e) (flq q e) ∧ Keeps (fun i => bs ≤ i) wo wi) (fun _ v23 _ => r1 - (intOf v23).toNat)
           case atStart => exact ⟨0, by omega, rfl, World.ownsRow_nil _ _ _ _, Keeps.refl _ _⟩
           case round =>
            obtain ⟨e, he, rfl, hown, hkp⟩ := hrel
            have HO := Lib.hid hown
            have HKP := Lib.hid hkp
            have hwr : bs ≤ wr.heap.size := by rw [HBS.out]; exact hkp.size
            clear hown hkp
            by_cases hem : e < r1
            ·have q32 : decide ((e : Int) < (r1 : Int)) = true := decide_eq_true (by omega)
             have q32n : decide (e < r1) = true := decide_eq_true hem
             have BW := Lib.hid (show Below w.heap.size w wr from HT.out.below.trans (HKP.out.below (B := w.heap.size) (by have := HBS.out; omega) (fun j hj h => by have h : bs ≤ j := h; omega)))
             have c0 := HRP.out wr BW.out (s + e) (by have := HMN.out; omega)
             rw [← Nat.add_assoc, ← HQ.out e (by omega)] at c0
             have b01 := HUP.out (s + e) (by have := HMN.out; omega)
             rw [← HQ.out e (by omega)] at b01
             obtain ⟨b0, b1⟩ := b01
             obtain ⟨qe, hqe⟩ : ∃ z, z = q e := ⟨_, rfl⟩
             have HSQ := Lib.hid (show flq q e ++ bytesL qe 8 = flq q (e + 1) by rw [hqe]; rfl)
             rw [← hqe] at c0 b0 b1
             have hemI : (e : Int) < (m : Int) := by omega
             have hem2 : e < m := by omega
             obtain ⟨i0, hi0, hz0, hz1, hz2⟩ := info_parts infoU8
             clear hqe BW
             go_wp2_with (first
              | (go_at_call 67; refine (rbytes_any qe _ b0 b1).mono ?_; rintro e' w5 ⟨g5, c5, rfl, hb5, hg5, hc5⟩; have H5 := Lib.hid hb5; have C5 := Lib.hid hc5; have O5 := Lib.hid (HO.out.kept (w' := w5) (row := none) ⟨hb5.os, hb5.tape, hb5.output, hb5.size, fun j hj _ => hb5.block j hj⟩ (by cases u21.ownBlock <;> simp)); clear hb5 hc5 hg5)
              | (at_builtin; refine wpList_append_lies _ rfl _ _ 31 rfl bs 5 i0 _ 1 1 Tryz.underlying31 hi0 hz0 hz1 hz2 rfl (by decide) u21 (8 * e) (flq q e) rfl O5.out ⟨g5, 0, none⟩ 8 c5 (bytesL qe 8) rfl (by rw [bytesL_length]) C5.out (bytesL_one _ _) (by decide) (by unfold maxLen; omega) (by omega) (by have := H5.out.size; omega) w5.heap.size rfl ?_; intro gg cap w6 hown6 hgr6 hat6 hlt6; rw [HSQ.out] at hown6; have O6 := Lib.hid hown6; have K6 := Lib.hid (grown_keeps H5.out HO.out hwr hgr6); clear hown6 hgr6 hat6))
             exact ⟨⟨e + 1, by omega, by go_num, O6.out, HKP.out.trans K6.out⟩, by simp [intOf]; omega⟩
            ·obtain rfl : e = r1 := by omega
             have q32 : decide ((e : Int) < (e : Int)) = false := decide_eq_false (by omega)
             have BW := Lib.hid (show Below w.heap.size w wr from HT.out.below.trans (HKP.out.below (B := w.heap.size) (by have := HBS.out; omega) (fun j hj h => by have h : bs ≤ j := h; omega)))
             have l7 := HRU.out wr BW.out (k + 1) HK2.out
             obtain ⟨l2, hl2⟩ : ∃ z, z = l (k + 1) := ⟨_, rfl⟩
             have ul2 := HUL.out (k + 1) HK2.out
             rw [← hl2] at l7 ul2
             obtain ⟨ul20, ul21⟩ := ul2
             have HSQ := Lib.hid (show flq q e ++ bytesL l2 8 = flq q (e + 1) by rw [hl2, ← HQ2.out]; rfl)
             have hknJ : (k : Int) + 1 < (nl : Int) := by have := HK2.out; omega
             have hwk : IntKind.i64.wrap ((k : Int) + 1) = ((k + 1 : Nat) : Int) := by rw [IntWalk.i64_in _ (by omega)]; omega
             obtain ⟨i0, hi0, hz0, hz1, hz2⟩ := info_parts infoU8
             have hwr := HKP.out.size
             have HBSw := HBS.out
             clear hl2 BW
             go_upto_region 41 with (first
              | (go_at_call 67; refine (rbytes_any l2 _ ul20 ul21).mono ?_; rintro e' w5 ⟨g5, c5, rfl, hb5, hg5, hc5⟩; have H5 := Lib.hid hb5; have C5 := Lib.hid hc5; have O5 := Lib.hid (HO.out.kept (w' := w5) (row := none) ⟨hb5.os, hb5.tape, hb5.output, hb5.size, fun j hj _ => hb5.block j hj⟩ (by cases u21.ownBlock <;> simp)); clear hb5 hc5 hg5)
              | (at_builtin; refine wpList_append_lies _ rfl _ _ 31 rfl bs 5 i0 _ 1 1 Tryz.underlying31 hi0 hz0 hz1 hz2 rfl (by decide) u21 (8 * e) (flq q e) rfl O5.out ⟨g5, 0, none⟩ 8 c5 (bytesL l2 8) rfl (by rw [bytesL_length]) C5.out (bytesL_one _ _) (by decide) (by unfold maxLen; omega) (by omega) (by have := H5.out.size; omega) w5.heap.size rfl ?_; intro gg cap w6 hown6 hgr6 hat6 hlt6; rw [HSQ.out] at hown6; have O6 := Lib.hid hown6; have K6 := Lib.hid (HKP.out.trans (grown_keeps H5.out HO.out (by omega) hgr6)); clear hown6 hgr6 hat6))
             clear O5 HO HKP l7
             have HO := O6
             have HKP := K6
             obtain ⟨wr', hwr'⟩ : ∃ z, z = w6 := ⟨_, rfl⟩
             subst hwr'
             go_upto_region 42 with fail
             have HTi := Lib.hid (HT.out.kept HKP.out (fun j hj h => by have h : bs ≤ j := h; omega))
             have HRi := Lib.hid (HR.out.kept HKP.out (fun h => by have h : bs ≤ g16 := h; omega))
             have HMi := Lib.hid (((HMM.out.more (T := fun i => TS i ∨ bs ≤ i) (fun b hb h => h.elim (fun h => h) (fun h => by have := HBS.out; omega))).kept HKP.out (fun b h => .inr h)).more (T := TS) (fun b _ h => .inl h))
             obtain ⟨g2, cap2, hsl2, hg2, hx2⟩ := own_form HO.out (by omega)
             cases hsl2
             have hsrc : Src TS wr' (some ⟨gg, 0, none⟩) (8 * e + 8) (wB q) := ⟨by omega, fun _ => ⟨gg, 0, rfl, fun h => by have := HTS1.out gg h; omega, fun i hi => by
              rw [Nat.zero_add]
              exact hx2 i _ hi (flq_get q (e + 1) i (by omega))⟩⟩
             obtain ⟨n8, hn8⟩ : ∃ z : Nat, z = (8 * e + 8) := ⟨_, rfl⟩
             rw [← hn8] at hsrc ⊢
             have HWR := Lib.hid (rwrite_any TS (.agg M') sz (itF f D) L' lv n8 cap (some ⟨gg, 0, none⟩) (wB q) wr' HMi.out hsz ul0 ul1 hsrc (by have := HLQ.out; omega) (fun j hj => by have := HTS1.out j hj; have := HRi.out.lt; omega))
             obtain ⟨ck, hck⟩ : ∃ z, z = chk sz lv (n8 : Int) := ⟨_, rfl⟩
             have HCK := Lib.hid hck
             have HN8 := Lib.hid hn8
             clear hsrc hn8 hck hx2 HO HKP
             go_upto_region 43 with (first
              | ((with_reducible show wpList _ _ _ (⟨some 194, _, _, _, _, _⟩ :: _) _ _); refine wpList_loadA rfl HRi.out 34 (.tmp 16) rfl (by first | rfl | simp [Act.eval, Act.put]) Tryz.underlying34 rfl IM'.out ?_)
              | (go_at_call 68; refine HWR.out.mono ?_; rintro e' w7 ⟨v', rfl, hr, hb⟩; rw [← HCK.out]; obtain ⟨MC', rfl, hm2, hmo⟩ := refAt_form hr; have S2' := Lib.hid hm2; have OM' := Lib.hid hmo; have HR7 := Lib.hid hr; have T7 := Lib.hid (HTi.out.go hb); have R167 := Lib.hid (HRi.out.below hb); clear hb hr hm2 hmo)
              | ((with_reducible show wpList _ _ _ (⟨some 24, _, _, _, _, _⟩ :: _) _ _); refine wpList_alloc rfl 34 rfl zeroRM ?_; rw [show (Value.agg zRM).cells = zRM from rfl])
              | ((with_reducible show wpList _ _ _ (⟨none, .store _ (.tmp 24) _, _, _, _, _⟩ :: _) _ _); refine wpList_storeA rfl (b := w7.heap.size) (A := zRM) (A' := MC') (ArrAt.fresh w7 zRM _ (by decide)) 34 (.tmp 24) (.tmp 198) rfl (by simp [Act.eval, Act.put]) (by simp [Act.eval, Act.put]) sizeRMz (by rw [S2'.out]; rfl) OM'.out ?_))
             obtain ⟨W8, hW⟩ : ∃ z, z = (w7.alloc (.cells zRM 34)).setCells w7.heap.size 0 MC'.toList := ⟨_, rfl⟩
             obtain ⟨hb8, ha8⟩ := stored_at (by decide) (by rw [S2'.out]; rfl) hW
             rw [← hW]
             have R24 := Lib.hid ha8
             have T8 := Lib.hid (T7.out.go hb8)
             have R168 := Lib.hid (R167.out.below hb8)
             have HR8 := Lib.hid (HR7.out.below hb8)
             have T85 := Lib.hid T8.out.r5
             have T810 := Lib.hid T8.out.r10
             have IMC := Lib.hid (show (Tryz.prog.info? 34).map (·.size) = some MC'.size by rw [S2'.out]; exact sizeRM)
             have HFT := Lib.hid (show ((itm l p np k s).Fits sz → ck = 0) ∧ (ck = 0 → (itm l p np k s).Fits sz) ∧ (ck = 0 ∨ ck = 3) by
              rw [e2.out, HCK.out]
              unfold Itm.Fits chk
              simp only []
              rw [← HLK.out, if_neg (by omega)]
              have := HN8.out
              split
              ·exact ⟨fun _ => rfl, fun _ => by omega, .inl rfl⟩
              ·exact ⟨fun h => by omega, fun h => by omega, .inr rfl⟩)
             clear hW hb8 ha8
             by_cases hc0 : ck = 0
             ·obtain ⟨t', ht', hpl'⟩ := HPL.out.1 (HFT.out.2.1 hc0)
              have HPT := Lib.hid (And.intro ht' hpl')
              have HC0 := Lib.hid hc0
              have qc : (ck != 0) = false := by rw [hc0]; rfl
              clear hc0 ht' hpl'
              go_wp2_with (first
               | ((with_reducible show wpList _ _ _ (⟨some 204, _, _, _, _, _⟩ :: _) _ _); refine wpList_loadA rfl R24.out 34 (.tmp 24) rfl (by first | rfl | simp [Act.eval, Act.put]) Tryz.underlying34 rfl IMC.out ?_)
               | ((with_reducible show wpList _ _ _ (⟨none, .store _ (.tmp 16) _, _, _, _, _⟩ :: _) _ _); refine wpList_storeA rfl (b := g16) (A := M') (A' := MC') R168.out 34 (.tmp 16) (.tmp 204) rfl (by simp [Act.eval, Act.put]) (by simp [Act.eval, Act.put]) IM'.out (by rw [S2'.out, HM2.out]) OM'.out ?_))
              have k16 : Keeps (One g16) W8 (W8.setCells g16 0 MC'.toList) := Keeps.store (S := One g16) (Keeps.refl _ _) (fun _ => rfl) _ _
              refine ⟨⟨k + 1, nxs l np k s, t', D ++ [itm l p np k s], (some ⟨pg, po + s + e, none⟩), (c - e), MC', wl' sz L' lv n8, by go_num, by rw [show np - nxs l np k s = m - e by have := e1.out; have := HMN.out; omega], by have := e1.out; have := HMN.out; omega, by omega, fun hc => by rw [e1.out, Nat.add_assoc], HNX.out.2, HPT.out.1, HPT.out.2, T8.out.kept k16 (fun j hj h => by have h : j = g16 := h; omega), R168.out.store MC' (by rw [S2'.out, HM2.out]), S2'.out, OM'.out, ?_, ?_⟩, by simp [intOf]; omega⟩
              ·have h := HR8.out.kept k16 (fun b hb => HTS3.out b (by have hb : b = g16 := hb; omega) (by have hb : b = g16 := hb; omega))
               unfold wf' at h
               rw [if_pos (by rw [← HCK.out]; exact HC0.out), Int.toNat_natCast] at h
               rw [itF_app, e2.out]
               show RefAt TS _ _ sz (upd (itF f D) (l k).toNat (8 * (e + 1)) (wB q)) _
               rw [← HLK.out, show 8 * (e + 1) = n8 by rw [HN8.out]; omega]
               exact h
              ·unfold wl'
               have := HLQ.out
               split
               ·have := logged_len L' lv.toNat (n8 : Int).toNat
                omega
               ·omega
             ·obtain rfl : ck = 3 := HFT.out.2.2.resolve_left hc0
              have HX3 := Lib.hid (HPL.out.2 (fun h => hc0 (HFT.out.1 h)))
              have qc : ((3 : Int) != 0) = true := by decide
              clear hc0
              go_wp2_with (first
               | ((with_reducible show wpList _ _ _ (⟨some 202, _, _, _, _, _⟩ :: _) _ _); refine wpList_loadA rfl T85.out 34 (.tmp 5) rfl (by first | rfl | simp [Act.eval, Act.put]) Tryz.underlying34 rfl IM.out ?_)
               | ((with_reducible show wpList _ _ _ (⟨none, .store _ (.tmp 10) _, _, _, _, _⟩ :: _) _ _); refine wpList_storeA rfl (b := w.heap.size + 1) (A := zRM) (A' := MC) T810.out 34 (.tmp 10) (.tmp 202) rfl (by simp [Act.eval, Act.put]) (by simp [Act.eval, Act.put]) sizeRMz (by rw [S2.out]; rfl) OM.out ?_))
              obtain ⟨x10, xb, xk⟩ := rb_ret (X := MC) T8.out S2.out
              exact bodyPost_ret (results_cttt rfl _ _ _ x10 rfl Tryz.underlying34 rfl IM.out) rfl ⟨xb, .inr ⟨HVV.out, .inr (.inr (.inr (.inr ⟨H3.out, HNLN.out, HFL.out, .inr ⟨by rw [HX.out]; exact HX3.out, rfl⟩⟩)))⟩⟩
         ·have hs0 : np - s = 0 := by omega
          have hsE : s = np := by have := hA.sn; omega
          have HXD := Lib.hid (At.fin hA hsn hpl)
          rw [hs0]
          have q25 : decide (((0 : Nat) : Int) > 0) = false := by decide
          clear hA hkt hpl ha hsn hc1 hs0
          have c8 := HRP.out wo HT.out.below 0 (by omega)
          have c9 := HRU.out wo HT.out.below 0 HNLN.out
          rw [Nat.add_zero] at c8 c9
          obtain ⟨p0, hp0⟩ : ∃ z, z = p 0 := ⟨_, rfl⟩
          obtain ⟨l0, hl0⟩ : ∃ z, z = l 0 := ⟨_, rfl⟩
          have b01 := HUP.out 0 (by omega)
          have hm0 := HVV.out.pg 0 (by omega)
          rw [← hp0] at c8 b01 hm0
          rw [← hl0] at c9
          obtain ⟨b0, b1⟩ := b01
          have C8 := Lib.hid c8
          have C9 := Lib.hid c9
          have HP0 := Lib.hid hp0
          have HL0 := Lib.hid hl0
          have hps : p0 + o ≤ 18446744073709551615 := by omega
          have e5 : IntKind.u64.wrap o = o := IntWalk.u64_in _ (by omega)
          have e6 : IntKind.u64.wrap (p0 + o) = p0 + o := IntWalk.u64_in _ (by omega)
          clear hp0 hl0 c8 c9 hm0
          go_upto_region 46 with fail
          refine wp_region_held_drew (S := fun w' => Keeps (One (w.heap.size + 1)) wo w') (by kernel_rfl) ((Keeps.refl _ _).drew) (fun hS0 => ?_)
          refine takeD 205 (i := 0) (v := .agg M') rfl rfl (by kernel_rfl) (by kernel_rfl) (by kernel_rfl) (fun _ _ _ h => h) (yieldsA (by rfl) 34 (.tmp 16) rfl (g16) (by first | rfl | simp [Act.eval, Act.put]) M' (fun w h => (HR.out.kept h (fun e => by have e : g16 = _ := e; omega)).rng) Tryz.underlying34 rfl IM'.out) (by assumption) ?_
          try simp only [Act.put, List.setIfInBounds_toArray, List.set_cons_zero, List.set_cons_succ]
          refine takeD 206 (i := 1) (v := .slice (some ⟨pg, po, none⟩) np pc) rfl rfl (by kernel_rfl) (by kernel_rfl) (by kernel_rfl) (fun _ _ _ h => h) (Or.inl ⟨by rfl, by (intro w' _; go_simp)⟩) (by assumption) ?_
          try simp only [Act.put, List.setIfInBounds_toArray, List.set_cons_zero, List.set_cons_succ]
          refine takeD 207 (i := 2) (v := .pointer (some ⟨pg, po, none⟩)) rfl rfl (by kernel_rfl) (by kernel_rfl) (by kernel_rfl) (fun _ _ _ h => h) (Or.inl ⟨by rfl, by (intro w' _; go_simp)⟩) (by assumption) ?_
          try simp only [Act.put, List.setIfInBounds_toArray, List.set_cons_zero, List.set_cons_succ]
          refine takeD 208 (i := 3) (v := .int .u64 p0) rfl rfl (by kernel_rfl) (by kernel_rfl) (by kernel_rfl) (fun _ _ _ h => h) (Or.inl ⟨by rfl, by (intro w' h; have h2 := h.cell C8.out (fun e => by have e : pg = w.heap.size + 1 := e; omega); clear h; go_simp)⟩) (by assumption) ?_
          try simp only [Act.put, List.setIfInBounds_toArray, List.set_cons_zero, List.set_cons_succ]
          refine takeD 209 (i := 4) (v := .int .i64 o) rfl rfl (by kernel_rfl) (by kernel_rfl) (by kernel_rfl) (fun _ _ _ h => h) (Or.inl ⟨by rfl, by (intro w' _; go_simp)⟩) (by assumption) ?_
          try simp only [Act.put, List.setIfInBounds_toArray, List.set_cons_zero, List.set_cons_succ]
          refine takeD 210 (i := 5) (v := .int .u64 o) rfl rfl (by kernel_rfl) (by kernel_rfl) (by kernel_rfl) (fun _ _ _ h => h) (Or.inl ⟨by rfl, by (intro w' _; go_simp)⟩) (by assumption) ?_
          try simp only [Act.put, List.setIfInBounds_toArray, List.set_cons_zero, List.set_cons_succ]
          refine takeD 211 (i := 6) (v := .int .u64 (p0 + o)) rfl rfl (by kernel_rfl) (by kernel_rfl) (by kernel_rfl) (fun _ _ _ h => h) (Or.inl ⟨by rfl, by (intro w' _; go_simp)⟩) (by assumption) ?_
          try simp only [Act.put, List.setIfInBounds_toArray, List.set_cons_zero, List.set_cons_succ]
          refine takeD 212 (i := 7) (v := .slice (some ⟨lg, lo, none⟩) nl lc) rfl rfl (by kernel_rfl) (by kernel_rfl) (by kernel_rfl) (fun _ _ _ h => h) (Or.inl ⟨by rfl, by (intro w' _; go_simp)⟩) (by assumption) ?_
          try simp only [Act.put, List.setIfInBounds_toArray, List.set_cons_zero, List.set_cons_succ]
          refine takeD 213 (i := 8) (v := .pointer (some ⟨lg, lo, none⟩)) rfl rfl (by kernel_rfl) (by kernel_rfl) (by kernel_rfl) (fun _ _ _ h => h) (Or.inl ⟨by rfl, by (intro w' _; go_simp)⟩) (by assumption) ?_
          try simp only [Act.put, List.setIfInBounds_toArray, List.set_cons_zero, List.set_cons_succ]
          refine takeD 214 (i := 9) (v := .int .u64 l0) rfl rfl (by kernel_rfl) (by kernel_rfl) (by kernel_rfl) (fun _ _ _ h => h) (Or.inl ⟨by rfl, by (intro w' h; have h2 := h.cell C9.out (fun e => by have e : lg = w.heap.size + 1 := e; omega); clear h; go_simp)⟩) (by assumption) ?_
          try simp only [Act.put, List.setIfInBounds_toArray, List.set_cons_zero, List.set_cons_succ]
          refine wpAnyH_ready (rs := [10]) (by kernel_rfl) (by simp) (AllReadyH.cons rfl (fun K hK => ?_) AllReadyH.nil)
          rw [if_pos (by rfl)]
          refine wp_storeN 34 (.tmp 10) (.tmp 205) rfl rfl (w.heap.size + 1) 0 M' (by first | rfl | simp [Act.eval, Act.put]) (by first | rfl | simp [Act.eval, Act.put]) (by rw [HM2.out]; exact HT.out.r10.drew.th) (by rw [HM2.out]; exact sizeRM) HM1.out ?_
          refine hK.out _ _ (hS0.trans (Keeps.store (S := One (w.heap.size + 1)) (Keeps.refl _ _) (fun _ => rfl) _ _)) (fun hS0 => ?_)
          clear hK K
          try simp only [Act.put, List.setIfInBounds_toArray, List.set_cons_zero, List.set_cons_succ]
          refine takeD 11 (i := 11) (v := .int .u64 (p0 + o)) rfl rfl (by kernel_rfl) (by kernel_rfl) (by kernel_rfl) (fun _ _ _ h => h) (Or.inl ⟨by rfl, by (intro w' _; go_simp)⟩) (by assumption) ?_
          try simp only [Act.put, List.setIfInBounds_toArray, List.set_cons_zero, List.set_cons_succ]
          refine takeD 12 (i := 12) (v := .int .u64 l0) rfl rfl (by kernel_rfl) (by kernel_rfl) (by kernel_rfl) (fun _ _ _ h => h) (Or.inl ⟨by rfl, by (intro w' _; go_simp)⟩) (by assumption) ?_
          try simp only [Act.put, List.setIfInBounds_toArray, List.set_cons_zero, List.set_cons_succ]
          refine takeD 13 (i := 13) (v := .int .i64 0) rfl rfl (by kernel_rfl) (by kernel_rfl) (by kernel_rfl) (fun _ _ _ h => h) (Or.inl ⟨by rfl, by (intro w' _; go_simp)⟩) (by assumption) ?_
          try simp only [Act.put, List.setIfInBounds_toArray, List.set_cons_zero, List.set_cons_succ]
          refine wpAnyH_done (by kernel_rfl) ?_ _
          go_wp2_with fail
          obtain ⟨x10, xb, xk⟩ := rb_ret (w := w) (W := wo.drew) (X := M') ⟨HT.out.below.drew, HT.out.r5.drew, HT.out.r10.drew⟩ HM2.out
          exact bodyPost_ret (results_cttt rfl _ _ _ x10 rfl Tryz.underlying34 rfl IM'.out) rfl ⟨xb, by
           refine .inr ⟨HVV.out, .inr (.inr (.inr (.inr ⟨H3.out, HNLN.out, HFL.out, .inl ⟨D, M', L', by rw [HX.out]; exact HXD.out, by rw [← HP0.out, ← HL0.out]; rfl, ?_⟩⟩)))⟩
           have h1 := (HMM.out.kept (w' := wo.drew) (T := fun _ => False) (Keeps.refl _ _).drew (fun _ h => h.elim)).kept xk (fun b hb => HTS3.out b (by have hb : b = w.heap.size + 1 := hb; omega) (by have hb : b = w.heap.size + 1 := hb; omega))
           exact h1.more (fun b _ h => HTS2.out b h)⟩
end
end Go.Proofs.YtfmabknhfehdcaaGreat
