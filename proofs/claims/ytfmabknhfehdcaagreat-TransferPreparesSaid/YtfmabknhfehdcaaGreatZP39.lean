/- transfer: the specification's Prepare: of a scatter gather list. -/
import Derived.Test.YtfmabknhfehdcaaGreatZP38
import Derived.Test.YtfmabknhfehdcaaGreatZP21
import Derived.Test.YtfmabknhfehdcaaGreatZP10
namespace Go.Proofs.YtfmabknhfehdcaaGreat
set_option linter.unusedSimpArgs false
set_option linter.unusedVariables false
open Go.RowKit
theorem targ_iff {np : Nat} {p : Nat → Int} {o N : Int} : TArg np p o N ↔ (0 ≤ N ∧ N ≤ 1048576 ∧ 0 ≤ o ∧ o ≤ 4092 ∧ o % 4 = 0 ∧ (np : Int) = pgs o N) ∧ ∀ i, i < np → p i % 4096 = 0 :=
 ⟨fun h => ⟨⟨h.n0, h.n1, h.o0, by have := h.o1; have := h.o4; omega, h.o4, h.k⟩, h.pg⟩, fun ⟨⟨h1, h2, h3, h4, h5, h6⟩, h7⟩ => ⟨h1, h2, h3, by omega, h5, h6, h7⟩⟩
theorem fresh2 (w9 : World) (Z1 zD M : Array Value) (hz : 0 < zD.size) : ArrAt (((w9.alloc (.cells Z1 34)).alloc (.cells zD 72)).setCells w9.heap.size 0 M.toList) (w9.heap.size + 1) zD := by
 have f2 := ArrAt.fresh (w9.alloc (.cells Z1 34)) zD 72 hz
 simp only [World.size_alloc] at f2
 exact f2.kept (Keeps.store (S := One w9.heap.size) (Keeps.refl _ _) (fun _ => rfl) _ _) (fun e => by have e : w9.heap.size + 1 = w9.heap.size := e; omega)
section
variable {C : Array Value} {mt d0 d1 : Int} (MC : Array Value) (la pa : Option Addr) (nl lc np pc : Nat) (l p : Nat → Int) (o N : Int) (sz : Nat) (f : Nat → Int) (S : Nat → Prop) (w : World) (hC : Cm C true mt d0 d1) (hM : RefAt S w (.agg MC) sz f []) (h2 : MC.size = 2) (hOM : MC.all (·.oneCell') = true)
include hC hM h2 hOM
set_option maxRecDepth 100000 in
set_option maxHeartbeats 8000000 in
theorem rprep_arg (hg : N < 0 ∨ 1048576 < N ∨ o < 0 ∨ 4092 < o ∨ o % 4 ≠ 0 ∨ (np : Int) ≠ pgs o N) :
  Calls Tryz.prog 7 #[.agg MC, .agg C, .slice la nl lc, .slice pa np pc, .int .i64 o, .int .i64 N] w (RQPost S sz zCm 2 f w) := by
 obtain ⟨P, hP⟩ : ∃ z, z = pgs o N := ⟨_, rfl⟩
 rw [← hP] at hg
 have HPG := Lib.hid hP.symm
 clear hP
 have S2 := Lib.hid h2
 have OM := Lib.hid hOM
 have HM := Lib.hid hM
 have HC := Lib.hid hC
 have IM := Lib.hid (show (Tryz.prog.info? 34).map (·.size) = some MC.size by rw [h2]; exact sizeRM)
 have IC := Lib.hid (show (Tryz.prog.info? 28).map (·.size) = some C.size by rw [hC.z]; exact sizeCm)
 obtain ⟨Z, hZ⟩ : ∃ A : Array Value, A = zCm := ⟨_, rfl⟩
 have SZ := Lib.hid (show Z.size = 16 by rw [hZ]; rfl)
 have OZ := Lib.hid (show Z.all (·.oneCell') = true by rw [hZ]; simp [zCm, Value.oneCell'])
 have IZ := Lib.hid (show (Tryz.prog.info? 28).map (·.size) = some Z.size by rw [SZ.out]; exact sizeCm)
 have BZ := Lib.hid (show ∀ w, (Instr.build 28 #[]).run Tryz.prog w = .ok (.agg Z) w by rw [hZ]; exact build_cm0)
 have ZZ := Lib.hid (show ∀ w, (zeroValue 28).run Tryz.prog w = .ok (.agg Z) w by rw [hZ]; exact zeroCm)
 have HZ := Lib.hid hZ
 clear hC hM h2 hOM hZ
 go_enter Tryz.func7, Tryz.ntmps7
 go_upto_region 1 with (first
  | ((with_reducible show wpList _ _ _ (⟨some 12, _, _, _, _, _⟩ :: _) _ _); refine wpList_alloc rfl 34 rfl zeroRM ?_; rw [show (Value.agg zRM).cells = zRM from rfl])
  | ((with_reducible show wpList _ _ _ (⟨some 13, _, _, _, _, _⟩ :: _) _ _); refine wpList_alloc rfl 28 rfl ZZ.out ?_; rw [show (Value.agg Z).cells = Z from rfl]))
 obtain ⟨W0, hW⟩ : ∃ z, z = (((w.alloc (.cells MC 34)).alloc (.cells C 28)).alloc (.cells zRM 34)).alloc (.cells Z 28) := ⟨_, rfl⟩
 have T0 := Lib.hid (rp_new (w := w) (MC := MC) (C := C) (Z := Z) (by rw [S2.out]; omega) (by rw [HC.out.z]; omega) (by rw [SZ.out]; omega) hW)
 rw [← hW]
 clear hW
 have hw0 : w.heap.size + 3 < W0.heap.size := T0.out.ord
 have c2 := T0.out.r7.cell HC.out.g2
 by_cases c0 : N < 0
 ·have q0 : decide (N < 0) = true := decide_eq_true c0
  clear hg
  go_wp2_with (first
   | ((with_reducible show wpList _ _ _ (⟨some 80, _, _, _, _, _⟩ :: _) _ _); refine wpList_loadA rfl T0.out.r6 34 (.tmp 6) rfl (by first | rfl | simp [Act.eval, Act.put]) Tryz.underlying34 rfl IM.out ?_)
   | ((with_reducible show wpList _ _ _ (⟨some 81, _, _, _, _, _⟩ :: _) _ _); refine wpList_build0 rfl 28 rfl (BZ.out _) ?_)
   | ((with_reducible show wpList _ _ _ (⟨none, .store _ (.tmp 12) _, _, _, _, _⟩ :: _) _ _); refine wpList_storeA rfl (b := (w.heap.size + 1 + 1)) (A := zRM) (A' := MC) T0.out.r12 34 (.tmp 12) (.tmp 80) rfl (by simp [Act.eval, Act.put]) (by simp [Act.eval, Act.put]) ssizeRMz (by rw [S2.out]; rfl) OM.out ?_)
   | ((with_reducible show wpList _ _ _ (⟨none, .store _ (.tmp 13) _, _, _, _, _⟩ :: _) _ _); refine wpList_storeA rfl (b := (w.heap.size + 1 + 1 + 1)) (A := Z) (A' := Z) (T0.out.r13.kept (Keeps.store (S := One (w.heap.size + 1 + 1)) (Keeps.refl _ _) (fun _ => rfl) _ _) (fun e => by have e : (w.heap.size + 1 + 1 + 1) = (w.heap.size + 1 + 1) := e; omega)) 28 (.tmp 13) (.tmp 81) rfl (by simp [Act.eval, Act.put]) (by simp [Act.eval, Act.put]) IZ.out (by first | rfl | rw [SZ.out, SZ.out]) OZ.out ?_)
   | (go_at_call 27; refine (rcount_any o N P _ (by omega) (by omega) HPG.out).mono ?_; rintro e w' ⟨rfl, rfl⟩))
  obtain ⟨x12, x13, xb, -⟩ := rp_ret (X := MC) (Y := Z) T0.out S2.out rfl
  exact bodyPost_ret (results_cct rfl _ _ _ x12 x13 rfl Tryz.underlying34 rfl IM.out rfl Tryz.underlying28 rfl IZ.out) rfl ⟨MC, [], by rw [← HZ.out]; rfl, xb, HM.out.kept (S := S) (T := fun _ => False) (Keeps.of_below xb) (fun _ e => e.elim)⟩
 have q0 : decide (N < 0) = false := decide_eq_false c0
 by_cases c1 : 1048576 < N
 ·have q1 : decide (1048576 < N) = true := decide_eq_true c1
  clear hg
  go_wp2_with (first
   | ((with_reducible show wpList _ _ _ (⟨some 80, _, _, _, _, _⟩ :: _) _ _); refine wpList_loadA rfl T0.out.r6 34 (.tmp 6) rfl (by first | rfl | simp [Act.eval, Act.put]) Tryz.underlying34 rfl IM.out ?_)
   | ((with_reducible show wpList _ _ _ (⟨some 81, _, _, _, _, _⟩ :: _) _ _); refine wpList_build0 rfl 28 rfl (BZ.out _) ?_)
   | ((with_reducible show wpList _ _ _ (⟨none, .store _ (.tmp 12) _, _, _, _, _⟩ :: _) _ _); refine wpList_storeA rfl (b := (w.heap.size + 1 + 1)) (A := zRM) (A' := MC) T0.out.r12 34 (.tmp 12) (.tmp 80) rfl (by simp [Act.eval, Act.put]) (by simp [Act.eval, Act.put]) ssizeRMz (by rw [S2.out]; rfl) OM.out ?_)
   | ((with_reducible show wpList _ _ _ (⟨none, .store _ (.tmp 13) _, _, _, _, _⟩ :: _) _ _); refine wpList_storeA rfl (b := (w.heap.size + 1 + 1 + 1)) (A := Z) (A' := Z) (T0.out.r13.kept (Keeps.store (S := One (w.heap.size + 1 + 1)) (Keeps.refl _ _) (fun _ => rfl) _ _) (fun e => by have e : (w.heap.size + 1 + 1 + 1) = (w.heap.size + 1 + 1) := e; omega)) 28 (.tmp 13) (.tmp 81) rfl (by simp [Act.eval, Act.put]) (by simp [Act.eval, Act.put]) IZ.out (by first | rfl | rw [SZ.out, SZ.out]) OZ.out ?_)
   | (go_at_call 27; refine (rcount_any o N P _ (by omega) (by omega) HPG.out).mono ?_; rintro e w' ⟨rfl, rfl⟩))
  obtain ⟨x12, x13, xb, -⟩ := rp_ret (X := MC) (Y := Z) T0.out S2.out rfl
  exact bodyPost_ret (results_cct rfl _ _ _ x12 x13 rfl Tryz.underlying34 rfl IM.out rfl Tryz.underlying28 rfl IZ.out) rfl ⟨MC, [], by rw [← HZ.out]; rfl, xb, HM.out.kept (S := S) (T := fun _ => False) (Keeps.of_below xb) (fun _ e => e.elim)⟩
 have q1 : decide (1048576 < N) = false := decide_eq_false c1
 by_cases c2 : o < 0
 ·have q2 : decide (o < 0) = true := decide_eq_true c2
  clear hg
  go_wp2_with (first
   | ((with_reducible show wpList _ _ _ (⟨some 80, _, _, _, _, _⟩ :: _) _ _); refine wpList_loadA rfl T0.out.r6 34 (.tmp 6) rfl (by first | rfl | simp [Act.eval, Act.put]) Tryz.underlying34 rfl IM.out ?_)
   | ((with_reducible show wpList _ _ _ (⟨some 81, _, _, _, _, _⟩ :: _) _ _); refine wpList_build0 rfl 28 rfl (BZ.out _) ?_)
   | ((with_reducible show wpList _ _ _ (⟨none, .store _ (.tmp 12) _, _, _, _, _⟩ :: _) _ _); refine wpList_storeA rfl (b := (w.heap.size + 1 + 1)) (A := zRM) (A' := MC) T0.out.r12 34 (.tmp 12) (.tmp 80) rfl (by simp [Act.eval, Act.put]) (by simp [Act.eval, Act.put]) ssizeRMz (by rw [S2.out]; rfl) OM.out ?_)
   | ((with_reducible show wpList _ _ _ (⟨none, .store _ (.tmp 13) _, _, _, _, _⟩ :: _) _ _); refine wpList_storeA rfl (b := (w.heap.size + 1 + 1 + 1)) (A := Z) (A' := Z) (T0.out.r13.kept (Keeps.store (S := One (w.heap.size + 1 + 1)) (Keeps.refl _ _) (fun _ => rfl) _ _) (fun e => by have e : (w.heap.size + 1 + 1 + 1) = (w.heap.size + 1 + 1) := e; omega)) 28 (.tmp 13) (.tmp 81) rfl (by simp [Act.eval, Act.put]) (by simp [Act.eval, Act.put]) IZ.out (by first | rfl | rw [SZ.out, SZ.out]) OZ.out ?_)
   | (go_at_call 27; refine (rcount_any o N P _ (by omega) (by omega) HPG.out).mono ?_; rintro e w' ⟨rfl, rfl⟩))
  obtain ⟨x12, x13, xb, -⟩ := rp_ret (X := MC) (Y := Z) T0.out S2.out rfl
  exact bodyPost_ret (results_cct rfl _ _ _ x12 x13 rfl Tryz.underlying34 rfl IM.out rfl Tryz.underlying28 rfl IZ.out) rfl ⟨MC, [], by rw [← HZ.out]; rfl, xb, HM.out.kept (S := S) (T := fun _ => False) (Keeps.of_below xb) (fun _ e => e.elim)⟩
 have q2 : decide (o < 0) = false := decide_eq_false c2
 by_cases c3 : 4092 < o
 ·have q3 : decide (4092 < o) = true := decide_eq_true c3
  clear hg
  go_wp2_with (first
   | ((with_reducible show wpList _ _ _ (⟨some 80, _, _, _, _, _⟩ :: _) _ _); refine wpList_loadA rfl T0.out.r6 34 (.tmp 6) rfl (by first | rfl | simp [Act.eval, Act.put]) Tryz.underlying34 rfl IM.out ?_)
   | ((with_reducible show wpList _ _ _ (⟨some 81, _, _, _, _, _⟩ :: _) _ _); refine wpList_build0 rfl 28 rfl (BZ.out _) ?_)
   | ((with_reducible show wpList _ _ _ (⟨none, .store _ (.tmp 12) _, _, _, _, _⟩ :: _) _ _); refine wpList_storeA rfl (b := (w.heap.size + 1 + 1)) (A := zRM) (A' := MC) T0.out.r12 34 (.tmp 12) (.tmp 80) rfl (by simp [Act.eval, Act.put]) (by simp [Act.eval, Act.put]) ssizeRMz (by rw [S2.out]; rfl) OM.out ?_)
   | ((with_reducible show wpList _ _ _ (⟨none, .store _ (.tmp 13) _, _, _, _, _⟩ :: _) _ _); refine wpList_storeA rfl (b := (w.heap.size + 1 + 1 + 1)) (A := Z) (A' := Z) (T0.out.r13.kept (Keeps.store (S := One (w.heap.size + 1 + 1)) (Keeps.refl _ _) (fun _ => rfl) _ _) (fun e => by have e : (w.heap.size + 1 + 1 + 1) = (w.heap.size + 1 + 1) := e; omega)) 28 (.tmp 13) (.tmp 81) rfl (by simp [Act.eval, Act.put]) (by simp [Act.eval, Act.put]) IZ.out (by first | rfl | rw [SZ.out, SZ.out]) OZ.out ?_)
   | (go_at_call 27; refine (rcount_any o N P _ (by omega) (by omega) HPG.out).mono ?_; rintro e w' ⟨rfl, rfl⟩))
  obtain ⟨x12, x13, xb, -⟩ := rp_ret (X := MC) (Y := Z) T0.out S2.out rfl
  exact bodyPost_ret (results_cct rfl _ _ _ x12 x13 rfl Tryz.underlying34 rfl IM.out rfl Tryz.underlying28 rfl IZ.out) rfl ⟨MC, [], by rw [← HZ.out]; rfl, xb, HM.out.kept (S := S) (T := fun _ => False) (Keeps.of_below xb) (fun _ e => e.elim)⟩
 have q3 : decide (4092 < o) = false := decide_eq_false c3
 by_cases c4 : o % 4 ≠ 0
 ·have q4 : (o % 4 != 0) = true := bne_iff_ne.2 c4
  clear hg
  go_wp2_with (first
   | ((with_reducible show wpList _ _ _ (⟨some 80, _, _, _, _, _⟩ :: _) _ _); refine wpList_loadA rfl T0.out.r6 34 (.tmp 6) rfl (by first | rfl | simp [Act.eval, Act.put]) Tryz.underlying34 rfl IM.out ?_)
   | ((with_reducible show wpList _ _ _ (⟨some 81, _, _, _, _, _⟩ :: _) _ _); refine wpList_build0 rfl 28 rfl (BZ.out _) ?_)
   | ((with_reducible show wpList _ _ _ (⟨none, .store _ (.tmp 12) _, _, _, _, _⟩ :: _) _ _); refine wpList_storeA rfl (b := (w.heap.size + 1 + 1)) (A := zRM) (A' := MC) T0.out.r12 34 (.tmp 12) (.tmp 80) rfl (by simp [Act.eval, Act.put]) (by simp [Act.eval, Act.put]) ssizeRMz (by rw [S2.out]; rfl) OM.out ?_)
   | ((with_reducible show wpList _ _ _ (⟨none, .store _ (.tmp 13) _, _, _, _, _⟩ :: _) _ _); refine wpList_storeA rfl (b := (w.heap.size + 1 + 1 + 1)) (A := Z) (A' := Z) (T0.out.r13.kept (Keeps.store (S := One (w.heap.size + 1 + 1)) (Keeps.refl _ _) (fun _ => rfl) _ _) (fun e => by have e : (w.heap.size + 1 + 1 + 1) = (w.heap.size + 1 + 1) := e; omega)) 28 (.tmp 13) (.tmp 81) rfl (by simp [Act.eval, Act.put]) (by simp [Act.eval, Act.put]) IZ.out (by first | rfl | rw [SZ.out, SZ.out]) OZ.out ?_)
   | (go_at_call 27; refine (rcount_any o N P _ (by omega) (by omega) HPG.out).mono ?_; rintro e w' ⟨rfl, rfl⟩))
  obtain ⟨x12, x13, xb, -⟩ := rp_ret (X := MC) (Y := Z) T0.out S2.out rfl
  exact bodyPost_ret (results_cct rfl _ _ _ x12 x13 rfl Tryz.underlying34 rfl IM.out rfl Tryz.underlying28 rfl IZ.out) rfl ⟨MC, [], by rw [← HZ.out]; rfl, xb, HM.out.kept (S := S) (T := fun _ => False) (Keeps.of_below xb) (fun _ e => e.elim)⟩
 have q4 : (o % 4 != 0) = false := by have := Classical.not_not.1 c4; simp [this]
 by_cases c5 : (np : Int) ≠ P
 ·have q5 : ((np : Int) != P) = true := bne_iff_ne.2 c5
  clear hg
  go_wp2_with (first
   | ((with_reducible show wpList _ _ _ (⟨some 80, _, _, _, _, _⟩ :: _) _ _); refine wpList_loadA rfl T0.out.r6 34 (.tmp 6) rfl (by first | rfl | simp [Act.eval, Act.put]) Tryz.underlying34 rfl IM.out ?_)
   | ((with_reducible show wpList _ _ _ (⟨some 81, _, _, _, _, _⟩ :: _) _ _); refine wpList_build0 rfl 28 rfl (BZ.out _) ?_)
   | ((with_reducible show wpList _ _ _ (⟨none, .store _ (.tmp 12) _, _, _, _, _⟩ :: _) _ _); refine wpList_storeA rfl (b := (w.heap.size + 1 + 1)) (A := zRM) (A' := MC) T0.out.r12 34 (.tmp 12) (.tmp 80) rfl (by simp [Act.eval, Act.put]) (by simp [Act.eval, Act.put]) ssizeRMz (by rw [S2.out]; rfl) OM.out ?_)
   | ((with_reducible show wpList _ _ _ (⟨none, .store _ (.tmp 13) _, _, _, _, _⟩ :: _) _ _); refine wpList_storeA rfl (b := (w.heap.size + 1 + 1 + 1)) (A := Z) (A' := Z) (T0.out.r13.kept (Keeps.store (S := One (w.heap.size + 1 + 1)) (Keeps.refl _ _) (fun _ => rfl) _ _) (fun e => by have e : (w.heap.size + 1 + 1 + 1) = (w.heap.size + 1 + 1) := e; omega)) 28 (.tmp 13) (.tmp 81) rfl (by simp [Act.eval, Act.put]) (by simp [Act.eval, Act.put]) IZ.out (by first | rfl | rw [SZ.out, SZ.out]) OZ.out ?_)
   | (go_at_call 27; refine (rcount_any o N P _ (by omega) (by omega) HPG.out).mono ?_; rintro e w' ⟨rfl, rfl⟩))
  obtain ⟨x12, x13, xb, -⟩ := rp_ret (X := MC) (Y := Z) T0.out S2.out rfl
  exact bodyPost_ret (results_cct rfl _ _ _ x12 x13 rfl Tryz.underlying34 rfl IM.out rfl Tryz.underlying28 rfl IZ.out) rfl ⟨MC, [], by rw [← HZ.out]; rfl, xb, HM.out.kept (S := S) (T := fun _ => False) (Keeps.of_below xb) (fun _ e => e.elim)⟩
 have q5 : ((np : Int) != P) = false := by have := Classical.not_not.1 c5; simp [this]
 exfalso
 have c4 := Classical.not_not.1 c4
 have c5 := Classical.not_not.1 c5
 rcases hg with e | e | e | e | e | e
 all_goals first | omega | exact e c5 | exact e c4
/-- What Prepare gives of a scatter gather list. -/
def RSPost (C : Array Value) (S : Nat → Prop) (sz np nl : Nat) (p : Nat → Int) (o N : Int) (f F : Nat → Int) (d : Dsc) (er : Int) (w : World) (e : Ending) (w' : World) : Prop :=
 (¬ TArg np p o N ∧ RQPost S sz zCm 2 f w e w') ∨ (TArg np p o N ∧ 1 < np ∧ nl = 0 ∧ RQPost S sz zCm 7 f w e w') ∨ (TArg np p o N ∧ (np ≤ 1 ∨ nl ≠ 0) ∧ RQPost S sz (if er = 0 then cmD C d.a (word1 d) else zCm) er F w e w')
set_option maxRecDepth 100000 in
set_option maxHeartbeats 16000000 in
theorem rprep_s (hS : ∀ j, S j → j < w.heap.size) (hl : UAt w la nl l) (hp : UAt w pa np p) (hup : U64 np p) (hg0 : 0 ≤ N) (hg1 : N ≤ 1048576) (hg2 : 0 ≤ o) (hg3 : o ≤ 4092) (hg4 : o % 4 = 0) (hg5 : (np : Int) = pgs o N)
  (d : Dsc) (er : Int) (F : Nat → Int) (hF : er ≠ 0 → F = f) (hd : er = 0 → d.Ok ∧ Vld d)
  (hB : TArg np p o N → (np ≤ 1 ∨ nl ≠ 0) → ∀ W S' v base, RefAt S' W (.agg MC) sz f [] → (∀ j, S' j → j < base) → Below w.heap.size w W → w.heap.size ≤ base → base ≤ W.heap.size → W.ownsRow base 72 4 v (blkF p o N np).length (dC (blkF p o N np)) → Calls Tryz.prog 28 #[.agg MC, .int .u64 (if np ≤ 1 then 0 else l 0), v] W fun e w' => ∃ MC' L, e = .returned (.tuple #[.agg MC', .agg d.cells, .int .i64 er]) ∧ Below W.heap.size W w' ∧ RefAt S' w' (.agg MC') sz F L) :
  Calls Tryz.prog 7 #[.agg MC, .agg C, .slice la nl lc, .slice pa np pc, .int .i64 o, .int .i64 N] w (RSPost C S sz np nl p o N f F d er w) := by
 have S2 := Lib.hid h2
 have OM := Lib.hid hOM
 have HM := Lib.hid hM
 have HC := Lib.hid hC
 have IM := Lib.hid (show (Tryz.prog.info? 34).map (·.size) = some MC.size by rw [h2]; exact sizeRM)
 have IC := Lib.hid (show (Tryz.prog.info? 28).map (·.size) = some C.size by rw [hC.z]; exact sizeCm)
 obtain ⟨Z, hZ⟩ : ∃ A : Array Value, A = zCm := ⟨_, rfl⟩
 have SZ := Lib.hid (show Z.size = 16 by rw [hZ]; rfl)
 have OZ := Lib.hid (show Z.all (·.oneCell') = true by rw [hZ]; simp [zCm, Value.oneCell'])
 have IZ := Lib.hid (show (Tryz.prog.info? 28).map (·.size) = some Z.size by rw [SZ.out]; exact sizeCm)
 have BZ := Lib.hid (show ∀ w, (Instr.build 28 #[]).run Tryz.prog w = .ok (.agg Z) w by rw [hZ]; exact build_cm0)
 have ZZ := Lib.hid (show ∀ w, (zeroValue 28).run Tryz.prog w = .ok (.agg Z) w by rw [hZ]; exact zeroCm)
 have HZ := Lib.hid hZ
 have hk0 := pgs_le o N
 have HNP := Lib.hid (show np ≤ 258 by omega)
 have HS := Lib.hid hS
 have HL := Lib.hid hl
 have HP := Lib.hid hp
 have HUP := Lib.hid hup
 have HB := Lib.hid hB
 have HF := Lib.hid hF
 have HDO := Lib.hid hd
 have HTI := Lib.hid (fun (h : ∀ i, i < np → p i % 4096 = 0) => targ_iff.2 ⟨⟨hg0, hg1, hg2, hg3, hg4, hg5⟩, h⟩)
 have HG4 := Lib.hid hg4
 obtain ⟨P, hP⟩ : ∃ z, z = pgs o N := ⟨_, rfl⟩
 have HPG := Lib.hid hP.symm
 rw [← hP] at hg5
 have q4 : (o % 4 != 0) = false := by simp [hg4]
 have q5 : ((np : Int) != P) = false := by simp [hg5]
 have q0 : decide (N < 0) = false := decide_eq_false (by omega)
 have q1 : decide (1048576 < N) = false := decide_eq_false (by omega)
 have q2 : decide (o < 0) = false := decide_eq_false (by omega)
 have q3 : decide (4092 < o) = false := decide_eq_false (by omega)
 clear hC hM h2 hOM hS hl hp hup hB hF hd hg4 hg5 hP hk0 hZ
 go_enter Tryz.func7, Tryz.ntmps7
 go_upto_region 1 with (first
  | ((with_reducible show wpList _ _ _ (⟨some 12, _, _, _, _, _⟩ :: _) _ _); refine wpList_alloc rfl 34 rfl zeroRM ?_; rw [show (Value.agg zRM).cells = zRM from rfl])
  | ((with_reducible show wpList _ _ _ (⟨some 13, _, _, _, _, _⟩ :: _) _ _); refine wpList_alloc rfl 28 rfl ZZ.out ?_; rw [show (Value.agg Z).cells = Z from rfl]))
 obtain ⟨W0, hW⟩ : ∃ z, z = (((w.alloc (.cells MC 34)).alloc (.cells C 28)).alloc (.cells zRM 34)).alloc (.cells Z 28) := ⟨_, rfl⟩
 have T0 := Lib.hid (rp_new (w := w) (MC := MC) (C := C) (Z := Z) (by rw [S2.out]; omega) (by rw [HC.out.z]; omega) (by rw [SZ.out]; omega) hW)
 rw [← hW]
 clear hW
 have hw0 : w.heap.size + 3 < W0.heap.size := T0.out.ord
 have c2 := T0.out.r7.cell HC.out.g2
 go_upto_region 12 with (go_at_call 27; refine (rcount_any o N P _ (by omega) (by omega) HPG.out).mono ?_; rintro e w' ⟨rfl, rfl⟩)
 obtain ⟨bs, hbs⟩ : ∃ z, z = W0.heap.size := ⟨_, rfl⟩
 have HBS := Lib.hid hbs
 have hown0 : (W0.alloc (.cells #[] 72)).ownsRow bs 72 4 (.slice (some ⟨W0.heap.size, 0, none⟩) 0 0) 0 [] := by
  rw [hbs]
  exact ⟨rfl, .inr ⟨W0.heap.size, 0, #[], rfl, Nat.le_refl _, heap_alloc_new _ _, Nat.le_refl _, by simp [maxLen], rfl, rfl⟩⟩
 have O0 := Lib.hid hown0
 have B0 := Lib.hid (show Below bs W0 (W0.alloc (.cells #[] 72)) by rw [hbs]; exact (Below.refl _ _).alloc (Nat.le_refl _) _)
 obtain ⟨v0, hv0⟩ : ∃ z : Value, z = .slice (some ⟨W0.heap.size, 0, none⟩) 0 0 := ⟨_, rfl⟩
 rw [← hv0] at O0 ⊢
 obtain ⟨W1, hW1⟩ : ∃ z, z = W0.alloc (.cells #[] 72) := ⟨_, rfl⟩
 rw [← hW1] at O0 B0 ⊢
 have hbw : w.heap.size + 3 < bs := by omega
 obtain ⟨i0, hi0, hz0, hz1, hz2⟩ := info_parts infoDs
 clear hown0 hv0 hW1 hbs c2 q4 q5 q0 q1 q2 q3
 go_loopw [4, 19, 20, 21, 22] (fun v4 v19 v20 v21 _ wr => ∃ k : Nat, k ≤ np ∧ v4 = .int .i64 (bO o k) ∧ v20 = .int .i64 (bN o N k) ∧ v21 = .int .i64 (k : Nat) ∧ wr.ownsRow bs 72 4 v19 k (dC (bL p o N k)) ∧ Below bs W0 wr ∧ ∀ i, i < k → p i % 4096 = 0) (fun _ _ _ v21 _ _ => np - (intOf v21).toNat)
 case atStart => exact ⟨0, Nat.zero_le _, rfl, rfl, rfl, O0.out, B0.out, fun i hi => by omega⟩
 case round =>
  obtain ⟨k, hk, rfl, rfl, rfl, hown, hbk, hpk⟩ := hrel
  have HO := Lib.hid hown
  have HB1 := Lib.hid hbk
  have HPK := Lib.hid hpk
  have Tr := Lib.hid (T0.out.go (by rw [← HBS.out]; exact hbk))
  clear hown hbk hpk
  by_cases hkn : k < np
  ·have q7 : decide ((k : Int) < (np : Int)) = true := decide_eq_true (by omega)
   obtain ⟨g, oo, hpa, hc⟩ := HP.out (by omega)
   subst hpa
   have c0 := (Tr.out.below.cell (p := ⟨g, oo + k, none⟩) (World.block_lt_of_cell? _ _ (hc k hkn))).trans (hc k hkn)
   obtain ⟨u0, u1⟩ := HUP.out k hkn
   have hbd := bN_bd hg0 hg2 (by omega) k
   have hob : 0 ≤ bO o k ∧ bO o k < 4096 := by unfold bO; split <;> omega
   obtain ⟨v, hv⟩ : ∃ z, z = p k := ⟨_, rfl⟩
   obtain ⟨x, hx⟩ : ∃ z, z = bO o k := ⟨_, rfl⟩
   obtain ⟨y, hy⟩ : ∃ z, z = bN o N k := ⟨_, rfl⟩
   have HD := Lib.hid (show bD p o N k = ⟨1, v + x, min y (4096 - x), 0⟩ by rw [hv, hx, hy]; rfl)
   have HN2 := Lib.hid (show bN o N (k + 1) = y - min y (4096 - x) by rw [hx, hy]; rfl)
   have HV := Lib.hid hv
   rw [← hv] at c0 u0 u1
   rw [← hx] at hob ⊢
   rw [← hy] at hbd ⊢
   obtain ⟨hob0, hob1⟩ := hob
   obtain ⟨hy0, hy1⟩ := hbd
   clear hc hv hx hy
   by_cases hm4 : v % 4096 = 0
   case neg =>
    have q8 : (v % 4096 != 0) = true := bne_iff_ne.2 hm4
    have HNT := Lib.hid (show ¬ TArg np p o N from fun h => hm4 (by rw [HV.out]; exact h.pg k hkn))
    clear hm4
    go_wp2_with (first
     | ((with_reducible show wpList _ _ _ (⟨some 96, _, _, _, _, _⟩ :: _) _ _); refine wpList_loadA rfl Tr.out.r6 34 (.tmp 6) rfl (by first | rfl | simp [Act.eval, Act.put]) Tryz.underlying34 rfl IM.out ?_)
     | ((with_reducible show wpList _ _ _ (⟨some 97, _, _, _, _, _⟩ :: _) _ _); refine wpList_build0 rfl 28 rfl (BZ.out _) ?_)
     | ((with_reducible show wpList _ _ _ (⟨none, .store _ (.tmp 12) _, _, _, _, _⟩ :: _) _ _); refine wpList_storeA rfl (b := (w.heap.size + 1 + 1)) (A := zRM) (A' := MC) Tr.out.r12 34 (.tmp 12) (.tmp 96) rfl (by simp [Act.eval, Act.put]) (by simp [Act.eval, Act.put]) ssizeRMz (by rw [S2.out]; rfl) OM.out ?_)
     | ((with_reducible show wpList _ _ _ (⟨none, .store _ (.tmp 13) _, _, _, _, _⟩ :: _) _ _); refine wpList_storeA rfl (b := (w.heap.size + 1 + 1 + 1)) (A := Z) (A' := Z) (Tr.out.r13.kept (Keeps.store (S := One (w.heap.size + 1 + 1)) (Keeps.refl _ _) (fun _ => rfl) _ _) (fun e => by have e : (w.heap.size + 1 + 1 + 1) = (w.heap.size + 1 + 1) := e; omega)) 28 (.tmp 13) (.tmp 97) rfl (by simp [Act.eval, Act.put]) (by simp [Act.eval, Act.put]) IZ.out (by first | rfl | rw [SZ.out, SZ.out]) OZ.out ?_))
    obtain ⟨x12, x13, xb, -⟩ := rp_ret (X := MC) (Y := Z) Tr.out S2.out rfl
    exact bodyPost_ret (results_cct rfl _ _ _ x12 x13 rfl Tryz.underlying34 rfl IM.out rfl Tryz.underlying28 rfl IZ.out) rfl (.inl ⟨HNT.out, MC, [], by rw [← HZ.out]; rfl, xb, HM.out.kept (S := S) (T := fun _ => False) (Keeps.of_below xb) (fun _ e => e.elim)⟩)
   case pos =>
    have q8 : (v % 4096 != 0) = false := by simp [hm4]
    obtain ⟨m, hm⟩ : ∃ m, m = min y (4096 - x) := ⟨_, rfl⟩
    have HMI := Lib.hid hm
    have hm0 : 0 ≤ m := by omega
    have hm1 : m ≤ y := by omega
    have hvx : v + x ≤ 18446744073709551615 := by omega
    have HXY := Lib.hid (show (4096 - x < y ∧ m = 4096 - x) ∨ (¬ 4096 - x < y ∧ m = y) by omega)
    have hpk1 : ∀ i, i < k + 1 → p i % 4096 = 0 := fun i hi => by
     rcases Nat.lt_or_ge i k with h | h
     ·exact HPK.out i h
     ·obtain rfl : i = k := by omega
      rw [← HV.out]
      exact hm4
    have HPK1 := Lib.hid hpk1
    have hy2 : 0 ≤ y - m := by omega
    have hy3 : y - m ≤ 1048576 := by omega
    have hkn4 := HNP.out
    have HBO := Lib.hid (show bO o (k + 1) = 0 by unfold bO; rw [if_neg (by omega)])
    obtain ⟨D, hD⟩ : ∃ D : Array Value, D = (⟨1, v + x, m, 0⟩ : Dsc).cells := ⟨_, rfl⟩
    have HDC := Lib.hid hD
    have HDS := Lib.hid (show D.size = 4 by rw [hD]; rfl)
    have HD1 := Lib.hid (show ∀ u ∈ D.toList, u.oneCell' = true by rw [hD]; exact dsc_one1 _)
    have HBD := Lib.hid (fun w => by have h := buildDb (v + x) m w; rw [← hD] at h; exact h)
    have HBSL := Lib.hid (fun w => by have h := run_bs1 ⟨1, v + x, m, 0⟩ w; rw [← hD] at h; exact h)
    clear hD hm hm4 hpk1
    rcases HXY.out with ⟨hlt, hme⟩ | ⟨hlt, hme⟩
    ·have q9 : decide (4096 - x < y) = true := decide_eq_true hlt
     go_upto_region 17 with fail
     rw [← hme]
     clear hme
     go_upto_region 18 with (first
      | ((with_reducible show wpList _ _ _ (⟨some 111, _, _, _, _, _⟩ :: _) _ _); refine wpList_buildC rfl 72 _ rfl #[(0, .int .i64 1), (1, .int .u64 (v + x)), (2, .int .i64 m)] (by simp [Act.eval, Act.put]) (HBD.out _) ?_)
      | ((with_reducible show wpList _ _ _ (⟨some 112, _, _, _, _, _⟩ :: _) _ _); refine wpList_bs rfl 76 1 #[(0, .tmp 111)] rfl #[(0, .agg D)] (by simp [Act.eval, Act.put]) (HBSL.out _) ?_)
      | ((with_reducible show wpList _ _ _ (⟨some 113, _, _, _, _, _⟩ :: _) _ _); go_loud (refine wpList_append_own _ rfl _ _ 76 rfl bs 72 i0 (.agg zDsc.cells) 4 32 Tryz.underlying76 hi0 hz0 hz1 hz2 rfl (by decide) u19 k (dC (bL p o N k)) rfl (HO.out.alloc (.cells D 72)) ⟨wr.heap.size, 0, none⟩ 1 1 D.toList rfl (by simp [HDS.out]) (World.news_of_block (cs := D) (t := 72) (fr := (0, 0)) (heap_alloc_new wr _)) HD1.out (by unfold maxLen; omega) (by omega) (by have := HB1.out.size; have := HBS.out; simp; omega) ?_; intro v7 w7 hown7 hgr7 hnil7; have O7 := Lib.hid hown7; have G7 := Lib.hid hgr7; clear hown7 hgr7 hnil7)))
     have hB7 := Lib.hid ((HB1.out.alloc (by have := HB1.out.size; have := HBS.out; omega) (.cells D 72)).grown G7.out (by have := HB1.out.size; have := HBS.out; simp; omega) (fun q e => (HO.out.lt q e).1))
     go_wp2
     go_roundw
     case rel =>
      have r1 : Value.int .i64 0 = .int .i64 (bO o (k + 1)) := by rw [HBO.out]
      have r2 : Value.int .i64 (y - m) = Value.int .i64 (bN o N (k + 1)) := congrArg _ (by have h1 := HMI.out; have h2 := HN2.out; omega)
      have r3 : w7.ownsRow bs 72 4 v7 (k + 1) (dC (bL p o N (k + 1))) := by
       have h := O7.out
       rw [bL_succ, dC_append, HD.out, ← HMI.out]
       simpa [dC, HDC.out] using h
      first
       | exact ⟨k + 1, by omega, r1, r2, by go_num, r3, hB7.out, HPK1.out⟩
       | ((repeat apply Exists.intro); exact ⟨⟨k + 1, by omega, r1, r2, by go_num, r3, hB7.out, HPK1.out⟩, rfl⟩)
     case measure => simp [intOf]; omega
    ·have q9 : decide (4096 - x < y) = false := decide_eq_false hlt
     subst hme
     go_upto_region 17 with fail
     go_upto_region 18 with (first
      | ((with_reducible show wpList _ _ _ (⟨some 111, _, _, _, _, _⟩ :: _) _ _); refine wpList_buildC rfl 72 _ rfl #[(0, .int .i64 1), (1, .int .u64 (v + x)), (2, .int .i64 m)] (by simp [Act.eval, Act.put]) (HBD.out _) ?_)
      | ((with_reducible show wpList _ _ _ (⟨some 112, _, _, _, _, _⟩ :: _) _ _); refine wpList_bs rfl 76 1 #[(0, .tmp 111)] rfl #[(0, .agg D)] (by simp [Act.eval, Act.put]) (HBSL.out _) ?_)
      | ((with_reducible show wpList _ _ _ (⟨some 113, _, _, _, _, _⟩ :: _) _ _); go_loud (refine wpList_append_own _ rfl _ _ 76 rfl bs 72 i0 (.agg zDsc.cells) 4 32 Tryz.underlying76 hi0 hz0 hz1 hz2 rfl (by decide) u19 k (dC (bL p o N k)) rfl (HO.out.alloc (.cells D 72)) ⟨wr.heap.size, 0, none⟩ 1 1 D.toList rfl (by simp [HDS.out]) (World.news_of_block (cs := D) (t := 72) (fr := (0, 0)) (heap_alloc_new wr _)) HD1.out (by unfold maxLen; omega) (by omega) (by have := HB1.out.size; have := HBS.out; simp; omega) ?_; intro v7 w7 hown7 hgr7 hnil7; have O7 := Lib.hid hown7; have G7 := Lib.hid hgr7; clear hown7 hgr7 hnil7)))
     have hB7 := Lib.hid ((HB1.out.alloc (by have := HB1.out.size; have := HBS.out; omega) (.cells D 72)).grown G7.out (by have := HB1.out.size; have := HBS.out; simp; omega) (fun q e => (HO.out.lt q e).1))
     go_wp2
     go_roundw
     case rel =>
      have r1 : Value.int .i64 0 = .int .i64 (bO o (k + 1)) := by rw [HBO.out]
      have r2 : Value.int .i64 0 = Value.int .i64 (bN o N (k + 1)) := congrArg _ (by have h1 := HMI.out; have h2 := HN2.out; omega)
      have r3 : w7.ownsRow bs 72 4 v7 (k + 1) (dC (bL p o N (k + 1))) := by
       have h := O7.out
       rw [bL_succ, dC_append, HD.out, ← HMI.out]
       simpa [dC, HDC.out] using h
      first
       | exact ⟨k + 1, by omega, r1, r2, by go_num, r3, hB7.out, HPK1.out⟩
       | ((repeat apply Exists.intro); exact ⟨⟨k + 1, by omega, r1, r2, by go_num, r3, hB7.out, HPK1.out⟩, rfl⟩)
     case measure => simp [intOf]; omega
  ·have q7 : decide ((k : Int) < (np : Int)) = false := decide_eq_false (by omega)
   obtain rfl : k = np := by omega
   have HT := Lib.hid (HTI.out HPK.out)
   have hbsw : bs ≤ wr.heap.size := by have := HB1.out.size; have := HBS.out; omega
   obtain ⟨DD, hDD⟩ : ∃ A : Array Value, A = d.cells := ⟨_, rfl⟩
   have SDD := Lib.hid (show DD.size = 4 by rw [hDD]; rfl)
   have ODD := Lib.hid (show DD.all (·.oneCell') = true by rw [hDD]; exact d.one)
   have IDD := Lib.hid (show (Tryz.prog.info? 72).map (·.size) = some DD.size by rw [SDD.out]; exact sizeD)
   have HDD := Lib.hid hDD
   obtain ⟨zD, hzD⟩ : ∃ A : Array Value, A = zDsc.cells := ⟨_, rfl⟩
   have SzD := Lib.hid (show zD.size = 4 by rw [hzD]; rfl)
   have ZzD := Lib.hid (show ∀ w, (zeroValue 72).run Tryz.prog w = .ok (.agg zD) w by rw [hzD]; exact zeroD)
   have IzD := Lib.hid (show (Tryz.prog.info? 72).map (·.size) = some zD.size by rw [SzD.out]; exact sizeD)
   have HWD := Lib.hid (show er = 0 → ∀ W, Calls Tryz.prog 29 #[.agg DD] W fun e w' => e = .returned (.agg #[.int .u64 d.a, .int .u64 (word1 d)]) ∧ Below W.heap.size W w' from fun h W => by
    obtain ⟨h1, h2⟩ := HDO.out h
    obtain ⟨h3, h4⟩ := words_eq d h1 h2
    have h5 := words_any d W h1
    rw [h3, h4, ← hDD] at h5
    exact h5)
   rw [← hDD] at HB
   clear hDD hzD
   obtain ⟨av, cv, hav, hl1, hl2⟩ := ownsRow_shape HO.out
   by_cases hn0 : k = 0
   ·subst hn0
    obtain ⟨D, hD⟩ : ∃ D : Array Value, D = (⟨1, 0, 0, 0⟩ : Dsc).cells := ⟨_, rfl⟩
    have HDC := Lib.hid hD
    have HDS := Lib.hid (show D.size = 4 by rw [hD]; rfl)
    have HD1 := Lib.hid (show ∀ u ∈ D.toList, u.oneCell' = true by rw [hD]; exact dsc_one1 _)
    have HBD := Lib.hid (fun w => by have h := buildDb0 w; rw [← hD] at h; exact h)
    have HBSL := Lib.hid (fun w => by have h := run_bs1 ⟨1, 0, 0, 0⟩ w; rw [← hD] at h; exact h)
    clear hD
    subst hav
    go_upto_region 22 with (first
     | ((with_reducible show wpList _ _ _ (⟨some 121, _, _, _, _, _⟩ :: _) _ _); refine wpList_buildC rfl 72 _ rfl #[(0, .int .i64 1)] (by simp [Act.eval, Act.put]) (HBD.out _) ?_)
     | ((with_reducible show wpList _ _ _ (⟨some 122, _, _, _, _, _⟩ :: _) _ _); refine wpList_bs rfl 76 1 #[(0, .tmp 121)] rfl #[(0, .agg D)] (by simp [Act.eval, Act.put]) (HBSL.out _) ?_)
     | ((with_reducible show wpList _ _ _ (⟨some 123, _, _, _, _, _⟩ :: _) _ _); refine wpList_append_own _ rfl _ _ 76 rfl bs 72 i0 (.agg zDsc.cells) 4 32 Tryz.underlying76 hi0 hz0 hz1 hz2 rfl (by decide) (.slice av 0 cv) 0 (dC (bL p o N 0)) rfl (HO.out.alloc (.cells D 72)) ⟨wr.heap.size, 0, none⟩ 1 1 D.toList rfl (by simp [HDS.out]) (World.news_of_block (cs := D) (t := 72) (fr := (0, 0)) (heap_alloc_new wr _)) HD1.out (by unfold maxLen; omega) (by omega) (by simp; omega) ?_; intro v7 w7 hown7 hgr7 hnil7; have O7 := Lib.hid hown7; have G7 := Lib.hid hgr7; clear hown7 hgr7 hnil7))
    have hB7 := (HB1.out.alloc (by omega) (.cells D 72)).grown G7.out (by simp; omega) (fun q e => (HO.out.lt q e).1)
    have T8 := Lib.hid (T0.out.go (by rw [← HBS.out]; exact hB7))
    have hbs8 : bs ≤ w7.heap.size := by have := hB7.size; have := HBS.out; omega
    have OV := Lib.hid (show w7.ownsRow bs 72 4 v7 (blkF p o N 0).length (dC (blkF p o N 0)) by
     have h := O7.out
     simpa [blkF, bL, dC, HDC.out] using h)
    obtain ⟨av2, cv2, hav2, hl3, hl4⟩ := ownsRow_shape O7.out
    obtain ⟨vv, hvv⟩ : ∃ z, z = v7 := ⟨_, rfl⟩
    rw [← hvv] at OV ⊢
    have HVV := Lib.hid (show vv = .slice av2 1 cv2 by rw [hvv]; exact hav2)
    clear hB7 hvv hav2 O7 G7 HO Tr
    go_upto_region 23 with fail
    rw [HVV.out]
    go_upto_region 27 with fail
    rw [← HVV.out]
    have HBU := Lib.hid (show Calls Tryz.prog 28 #[.agg MC, .int .u64 0, vv] w7 fun e w' => ∃ MC' L, e = .returned (.tuple #[.agg MC', .agg DD, .int .i64 er]) ∧ Below w7.heap.size w7 w' ∧ RefAt (fun j => S j ∨ (w.heap.size ≤ j ∧ j < bs)) w' (.agg MC') sz F L by
     have h := HB.out HT.out (.inl (by omega)) w7 (fun j => S j ∨ (w.heap.size ≤ j ∧ j < bs)) vv bs ((HM.out.more (fun b hb h => h.resolve_right (by omega))).below T8.out.below) (fun j h => by rcases h with h | h; (have := HS.out j h; omega); omega) T8.out.below (by omega) (by omega) OV.out
     rw [if_pos (by omega)] at h
     exact h)
    go_upto_region 28 with (first
     | ((with_reducible show wpList _ _ _ (⟨some 136, _, _, _, _, _⟩ :: _) _ _); refine wpList_loadA rfl T8.out.r6 34 (.tmp 6) rfl (by first | rfl | simp [Act.eval, Act.put]) Tryz.underlying34 rfl IM.out ?_)
     | (go_at_call 28; refine HBU.out.mono ?_; rintro e w9 ⟨MC', L, rfl, hb, hr⟩; have hr0 := hr; obtain ⟨MC2, hMC2, hm2, hmo⟩ := refAt_form hr0; cases hMC2; have S2' := Lib.hid hm2; have OM' := Lib.hid hmo; have HR9 := Lib.hid hr; have T9 := Lib.hid (T8.out.go hb); have hb9 : bs ≤ w9.heap.size := (by have := hb.size; omega); clear hb hr hr0 hm2 hmo)
     | ((with_reducible show wpList _ _ _ (⟨some 24, _, _, _, _, _⟩ :: _) _ _); refine wpList_alloc rfl 34 rfl zeroRM ?_; rw [show (Value.agg zRM).cells = zRM from rfl])
     | ((with_reducible show wpList _ _ _ (⟨some 25, _, _, _, _, _⟩ :: _) _ _); refine wpList_alloc rfl 72 rfl ZzD.out ?_; rw [show (Value.agg zD).cells = zD from rfl])
     | ((with_reducible show wpList _ _ _ (⟨none, .store _ (.tmp 24) _, _, _, _, _⟩ :: _) _ _); refine wpList_storeA rfl (b := w9.heap.size) (A := zRM) (A' := MC') ((ArrAt.fresh w9 zRM _ (by decide)).alloc _) 34 (.tmp 24) (.tmp 140) rfl (by simp [Act.eval, Act.put]) (by simp [Act.eval, Act.put]) ssizeRMz (by rw [S2'.out]; rfl) OM'.out ?_)
     | ((with_reducible show wpList _ _ _ (⟨none, .store _ (.tmp 25) _, _, _, _, _⟩ :: _) _ _); refine wpList_storeA rfl (b := w9.heap.size + 1) (A := zD) (A' := DD) (fresh2 w9 zRM zD MC' (by rw [SzD.out]; omega)) 72 (.tmp 25) (.tmp 141) rfl (by simp [Act.eval, Act.put]) (by simp [Act.eval, Act.put]) IzD.out (by rw [SDD.out, SzD.out]) ODD.out ?_))
    obtain ⟨W10, hW⟩ : ∃ z, z = (((w9.alloc (.cells zRM 34)).alloc (.cells zD 72)).setCells w9.heap.size 0 MC'.toList).setCells (w9.heap.size + 1) 0 DD.toList := ⟨_, rfl⟩
    rw [← hW]
    obtain ⟨hb10, ha24, ha25⟩ := stored2_at (by decide) (by rw [SzD.out]; omega) (by rw [S2'.out]; rfl) (by rw [SDD.out, SzD.out]) hW
    have T10 := Lib.hid (T9.out.go hb10)
    have R24 := Lib.hid ha24
    have R25 := Lib.hid ha25
    have HR10 := Lib.hid (HR9.out.below hb10)
    have IM' := Lib.hid (show (Tryz.prog.info? 34).map (·.size) = some MC'.size by rw [S2'.out]; exact sizeRM)
    obtain ⟨p24, hp24⟩ : ∃ z, z = w9.heap.size := ⟨_, rfl⟩
    have h24 : bs ≤ p24 := by rw [hp24]; exact hb9
    rw [← hp24] at R24 R25 ⊢
    have h24' : p24 < W10.heap.size := R24.out.lt
    clear hW hb10 ha24 ha25 hp24 T9 HR9 hb9 HBU
    by_cases he : er = 0
    ·have HE := Lib.hid he
     have q0 : (er != 0) = false := by simp [he]
     have HW := Lib.hid (HWD.out he W10)
     obtain ⟨x, hx⟩ : ∃ z, z = d.a := ⟨_, rfl⟩
     obtain ⟨y, hy⟩ : ∃ z, z = word1 d := ⟨_, rfl⟩
     rw [← hx, ← hy] at HW
     have HXY2 := Lib.hid (And.intro hx hy)
     clear he hx hy
     go_upto_region 31 with (first
      | ((with_reducible show wpList _ _ _ (⟨some 148, _, _, _, _, _⟩ :: _) _ _); refine wpList_loadA rfl R25.out 72 (.tmp 25) rfl (by first | rfl | simp [Act.eval, Act.put]) Tryz.underlying72 rfl IDD.out ?_)
      | (go_at_call 29; refine HW.out.mono ?_; rintro e w11 ⟨rfl, hb⟩; have T11 := Lib.hid (T10.out.go hb); have R2411 := Lib.hid (R24.out.below hb); have HR11 := Lib.hid (HR10.out.below hb); have h24b : p24 < w11.heap.size := (by have := hb.size; omega); clear hb)
      | ((with_reducible show wpList _ _ _ (⟨none, .store _ (.tmp 150) _, _, _, _, _⟩ :: _) _ _); refine wpList_storeN rfl 25 (.tmp 150) (.tmp 149) rfl rfl (w.heap.size + 1) 8 #[.int .u64 x, .int .u64 y] (by simp [Act.eval, Act.put]) (by simp [Act.eval, Act.put]) (fun j hj => by have h := T11.out.r7.th (8 + j) (by rw [HC.out.z]; simp at hj; omega); simpa using h) size2u (by simp [Value.oneCell']) ?_))
     obtain ⟨W7, hW⟩ : ∃ z, z = w11.setCells (w.heap.size + 1) 8 (#[Value.int .u64 x, .int .u64 y] : Array Value).toList := ⟨_, rfl⟩
     rw [← hW]
     have T7 := Lib.hid (show RPt w MC (cmD C x y) Z W7 by rw [hW]; exact T11.out.data HC.out.z x y)
     have k7 : Keeps (One (w.heap.size + 1)) w11 W7 := by rw [hW]; exact Keeps.store (S := One (w.heap.size + 1)) (Keeps.refl _ _) (fun _ => rfl) _ _
     have R247 := Lib.hid (R2411.out.kept k7 (fun e => by have e : p24 = (w.heap.size + 1) := e; omega))
     have HR7 := Lib.hid (HR11.out.kept k7 (fun j e => by have e : j = (w.heap.size + 1) := e; exact .inr ⟨by omega, by omega⟩))
     obtain ⟨D, hD⟩ : ∃ D, D = cmD C x y := ⟨_, rfl⟩
     rw [← hD] at T7
     have SD := Lib.hid (show D.size = 16 by rw [hD]; simp [cmD, HC.out.z])
     have OD := Lib.hid (show D.all (·.oneCell') = true by rw [hD]; exact all_set (all_set HC.out.o 8 _ rfl) 9 _ rfl)
     have ID := Lib.hid (show (Tryz.prog.info? 28).map (·.size) = some D.size by rw [SD.out]; exact sizeCm)
     have HD := Lib.hid hD
     clear hW k7 hD
     refine wp_region_held_drew (S := fun w' => Keeps (Two (w.heap.size + 1 + 1) (w.heap.size + 1 + 1 + 1)) W7 w') (by kernel_rfl) ((Keeps.refl _ _).drew) (fun hS0 => ?_)
     refine takeD 151 (i := 0) (v := .agg MC') rfl rfl (by kernel_rfl) (by kernel_rfl) (by kernel_rfl) (fun _ _ _ h => h) (yieldsA (by rfl) 34 (.tmp 24) rfl (p24) (by first | rfl | simp [Act.eval, Act.put]) MC' (fun w h => (R247.out.kept h (fun e => by rcases e with e | e <;> omega)).rng) Tryz.underlying34 rfl IM'.out) (by assumption) ?_
     try simp only [Act.put, List.setIfInBounds_toArray, List.set_cons_zero, List.set_cons_succ]
     refine takeD 152 (i := 1) (v := .agg D) rfl rfl (by kernel_rfl) (by kernel_rfl) (by kernel_rfl) (fun _ _ _ h => h) (yieldsA (by rfl) 28 (.tmp 7) rfl (w.heap.size + 1) (by first | rfl | simp [Act.eval, Act.put]) D (fun w h => (T7.out.r7.kept h (fun e => by rcases e with e | e <;> omega)).rng) Tryz.underlying28 rfl ID.out) (by assumption) ?_
     try simp only [Act.put, List.setIfInBounds_toArray, List.set_cons_zero, List.set_cons_succ]
     refine wpAnyH_ready (rs := [2]) (by kernel_rfl) (by simp) (AllReadyH.cons rfl (fun K hK => ?_) AllReadyH.nil)
     rw [if_pos (by rfl)]
     refine wp_storeN 34 (.tmp 12) (.tmp 151) rfl rfl (w.heap.size + 1 + 1) 0 MC' (by first | rfl | simp [Act.eval, Act.put]) (by first | rfl | simp [Act.eval, Act.put]) (by rw [S2'.out]; exact T7.out.r12.drew.th) (by rw [S2'.out]; exact sizeRM) OM'.out ?_
     refine hK.out _ _ (hS0.trans (Keeps.store (S := One (w.heap.size + 1 + 1)) (Keeps.refl _ _) (fun _ => rfl) _ _).two1) (fun hS0 => ?_)
     clear hK K
     try simp only [Act.put, List.setIfInBounds_toArray, List.set_cons_zero, List.set_cons_succ]
     refine wpAnyH_ready (rs := [3]) (by kernel_rfl) (by simp) (AllReadyH.cons rfl (fun K hK => ?_) AllReadyH.nil)
     rw [if_pos (by rfl)]
     refine wp_storeN 28 (.tmp 13) (.tmp 152) rfl rfl (w.heap.size + 1 + 1 + 1) 0 D (by first | rfl | simp [Act.eval, Act.put]) (by first | rfl | simp [Act.eval, Act.put]) (by rw [SD.out, ← SZ.out]; exact (T7.out.r13.drew.kept (Keeps.store (S := One (w.heap.size + 1 + 1)) (Keeps.refl _ _) (fun _ => rfl) _ _) (fun e => by have e : (w.heap.size + 1 + 1 + 1) = (w.heap.size + 1 + 1) := e; omega)).th) ID.out OD.out ?_
     refine hK.out _ _ (hS0.trans (Keeps.store (S := One (w.heap.size + 1 + 1 + 1)) (Keeps.refl _ _) (fun _ => rfl) _ _).two2) (fun hS0 => ?_)
     clear hK K
     try simp only [Act.put, List.setIfInBounds_toArray, List.set_cons_zero, List.set_cons_succ]
     refine takeD 14 (i := 4) (v := .int .i64 0) rfl rfl (by kernel_rfl) (by kernel_rfl) (by kernel_rfl) (fun _ _ _ h => h) (Or.inl ⟨by rfl, by (intro w' _; go_simp)⟩) (by assumption) ?_
     try simp only [Act.put, List.setIfInBounds_toArray, List.set_cons_zero, List.set_cons_succ]
     refine wpAnyH_done (by kernel_rfl) ?_ _
     go_wp2_with fail
     obtain ⟨x12, x13, xb, xk⟩ := rp_ret (X := MC') (Y := D) (T7.out.go (Below.refl _ W7).drew) S2'.out (by rw [SD.out, SZ.out])
     refine bodyPost_ret (results_cct rfl _ _ _ x12 x13 rfl Tryz.underlying34 rfl IM'.out rfl Tryz.underlying28 rfl ID.out) rfl (.inr (.inr ⟨HT.out, (.inl (by omega)), MC', L, by (try rw [if_pos HE.out]); rw [HD.out, HXY2.out.1, HXY2.out.2, HE.out]; rfl, xb, ?_⟩))
     exact ((HR7.out.kept (Keeps.refl (Two (w.heap.size + 1 + 1) (w.heap.size + 1 + 1 + 1)) W7).drew (fun _ e => .inr (by rcases e with e | e <;> omega))).kept xk (fun _ e => .inr (by rcases e with e | e <;> omega))).more (fun _ _ h => .inl h)
    ·have q0 : (er != 0) = true := bne_iff_ne.2 he
     have HE := Lib.hid he
     clear he
     go_wp2_with (first
      | ((with_reducible show wpList _ _ _ (⟨some 145, _, _, _, _, _⟩ :: _) _ _); refine wpList_loadA rfl T10.out.r6 34 (.tmp 6) rfl (by first | rfl | simp [Act.eval, Act.put]) Tryz.underlying34 rfl IM.out ?_)
      | ((with_reducible show wpList _ _ _ (⟨some 146, _, _, _, _, _⟩ :: _) _ _); refine wpList_build0 rfl 28 rfl (BZ.out _) ?_)
      | ((with_reducible show wpList _ _ _ (⟨none, .store _ (.tmp 12) _, _, _, _, _⟩ :: _) _ _); refine wpList_storeA rfl (b := (w.heap.size + 1 + 1)) (A := zRM) (A' := MC) T10.out.r12 34 (.tmp 12) (.tmp 145) rfl (by simp [Act.eval, Act.put]) (by simp [Act.eval, Act.put]) ssizeRMz (by rw [S2.out]; rfl) OM.out ?_)
      | ((with_reducible show wpList _ _ _ (⟨none, .store _ (.tmp 13) _, _, _, _, _⟩ :: _) _ _); refine wpList_storeA rfl (b := (w.heap.size + 1 + 1 + 1)) (A := Z) (A' := Z) (T10.out.r13.kept (Keeps.store (S := One (w.heap.size + 1 + 1)) (Keeps.refl _ _) (fun _ => rfl) _ _) (fun e => by have e : (w.heap.size + 1 + 1 + 1) = (w.heap.size + 1 + 1) := e; omega)) 28 (.tmp 13) (.tmp 146) rfl (by simp [Act.eval, Act.put]) (by simp [Act.eval, Act.put]) IZ.out (by first | rfl | rw [SZ.out, SZ.out]) OZ.out ?_))
     obtain ⟨x12, x13, xb, -⟩ := rp_ret (X := MC) (Y := Z) T10.out S2.out rfl
     exact bodyPost_ret (results_cct rfl _ _ _ x12 x13 rfl Tryz.underlying34 rfl IM.out rfl Tryz.underlying28 rfl IZ.out) rfl (.inr (.inr ⟨HT.out, (.inl (by omega)), MC, [], by (try rw [if_neg HE.out]); rw [← HZ.out]; rfl, xb, by rw [HF.out HE.out]; exact HM.out.kept (S := S) (T := fun _ => False) (Keeps.of_below xb) (fun _ e => e.elim)⟩))
   ·have q8 : ((k : Int) == 0) = false := beq_eq_false_iff_ne.2 (by omega)
    have q9 : (k == 0) = false := beq_eq_false_iff_ne.2 (by omega)
    have OV := Lib.hid (show wr.ownsRow bs 72 4 u19 (blkF p o N k).length (dC (blkF p o N k)) by
     unfold blkF
     rw [if_neg hn0, bL_length]
     exact HO.out)
    obtain ⟨vv, hvv⟩ : ∃ z, z = u19 := ⟨_, rfl⟩
    rw [← hvv] at OV ⊢
    have HVV := Lib.hid (show vv = .slice av k cv by rw [hvv]; exact hav)
    rw [HVV.out]
    clear hvv hav HO
    by_cases hk1 : k ≤ 1
    ·have r1 : decide ((1 : Int) < (k : Int)) = false := decide_eq_false (by omega)
     have r2 : decide (1 < k) = false := decide_eq_false (by omega)
     go_upto_region 27 with fail
     rw [← HVV.out]
     have HBU := Lib.hid (show Calls Tryz.prog 28 #[.agg MC, .int .u64 0, vv] wr fun e w' => ∃ MC' L, e = .returned (.tuple #[.agg MC', .agg DD, .int .i64 er]) ∧ Below wr.heap.size wr w' ∧ RefAt (fun j => S j ∨ (w.heap.size ≤ j ∧ j < bs)) w' (.agg MC') sz F L by
      have h := HB.out HT.out (.inl hk1) wr (fun j => S j ∨ (w.heap.size ≤ j ∧ j < bs)) vv bs ((HM.out.more (fun b hb h => h.resolve_right (by omega))).below Tr.out.below) (fun j h => by rcases h with h | h; (have := HS.out j h; omega); omega) Tr.out.below (by omega) (by omega) OV.out
      rw [if_pos hk1] at h
      exact h)
     go_upto_region 28 with (first
      | ((with_reducible show wpList _ _ _ (⟨some 136, _, _, _, _, _⟩ :: _) _ _); refine wpList_loadA rfl Tr.out.r6 34 (.tmp 6) rfl (by first | rfl | simp [Act.eval, Act.put]) Tryz.underlying34 rfl IM.out ?_)
      | (go_at_call 28; refine HBU.out.mono ?_; rintro e w9 ⟨MC', L, rfl, hb, hr⟩; have hr0 := hr; obtain ⟨MC2, hMC2, hm2, hmo⟩ := refAt_form hr0; cases hMC2; have S2' := Lib.hid hm2; have OM' := Lib.hid hmo; have HR9 := Lib.hid hr; have T9 := Lib.hid (Tr.out.go hb); have hb9 : bs ≤ w9.heap.size := (by have := hb.size; omega); clear hb hr hr0 hm2 hmo)
      | ((with_reducible show wpList _ _ _ (⟨some 24, _, _, _, _, _⟩ :: _) _ _); refine wpList_alloc rfl 34 rfl zeroRM ?_; rw [show (Value.agg zRM).cells = zRM from rfl])
      | ((with_reducible show wpList _ _ _ (⟨some 25, _, _, _, _, _⟩ :: _) _ _); refine wpList_alloc rfl 72 rfl ZzD.out ?_; rw [show (Value.agg zD).cells = zD from rfl])
      | ((with_reducible show wpList _ _ _ (⟨none, .store _ (.tmp 24) _, _, _, _, _⟩ :: _) _ _); refine wpList_storeA rfl (b := w9.heap.size) (A := zRM) (A' := MC') ((ArrAt.fresh w9 zRM _ (by decide)).alloc _) 34 (.tmp 24) (.tmp 140) rfl (by simp [Act.eval, Act.put]) (by simp [Act.eval, Act.put]) ssizeRMz (by rw [S2'.out]; rfl) OM'.out ?_)
      | ((with_reducible show wpList _ _ _ (⟨none, .store _ (.tmp 25) _, _, _, _, _⟩ :: _) _ _); refine wpList_storeA rfl (b := w9.heap.size + 1) (A := zD) (A' := DD) (fresh2 w9 zRM zD MC' (by rw [SzD.out]; omega)) 72 (.tmp 25) (.tmp 141) rfl (by simp [Act.eval, Act.put]) (by simp [Act.eval, Act.put]) IzD.out (by rw [SDD.out, SzD.out]) ODD.out ?_))
     obtain ⟨W10, hW⟩ : ∃ z, z = (((w9.alloc (.cells zRM 34)).alloc (.cells zD 72)).setCells w9.heap.size 0 MC'.toList).setCells (w9.heap.size + 1) 0 DD.toList := ⟨_, rfl⟩
     rw [← hW]
     obtain ⟨hb10, ha24, ha25⟩ := stored2_at (by decide) (by rw [SzD.out]; omega) (by rw [S2'.out]; rfl) (by rw [SDD.out, SzD.out]) hW
     have T10 := Lib.hid (T9.out.go hb10)
     have R24 := Lib.hid ha24
     have R25 := Lib.hid ha25
     have HR10 := Lib.hid (HR9.out.below hb10)
     have IM' := Lib.hid (show (Tryz.prog.info? 34).map (·.size) = some MC'.size by rw [S2'.out]; exact sizeRM)
     obtain ⟨p24, hp24⟩ : ∃ z, z = w9.heap.size := ⟨_, rfl⟩
     have h24 : bs ≤ p24 := by rw [hp24]; exact hb9
     rw [← hp24] at R24 R25 ⊢
     have h24' : p24 < W10.heap.size := R24.out.lt
     clear hW hb10 ha24 ha25 hp24 T9 HR9 hb9 HBU
     by_cases he : er = 0
     ·have HE := Lib.hid he
      have q0 : (er != 0) = false := by simp [he]
      have HW := Lib.hid (HWD.out he W10)
      obtain ⟨x, hx⟩ : ∃ z, z = d.a := ⟨_, rfl⟩
      obtain ⟨y, hy⟩ : ∃ z, z = word1 d := ⟨_, rfl⟩
      rw [← hx, ← hy] at HW
      have HXY2 := Lib.hid (And.intro hx hy)
      clear he hx hy
      go_upto_region 31 with (first
       | ((with_reducible show wpList _ _ _ (⟨some 148, _, _, _, _, _⟩ :: _) _ _); refine wpList_loadA rfl R25.out 72 (.tmp 25) rfl (by first | rfl | simp [Act.eval, Act.put]) Tryz.underlying72 rfl IDD.out ?_)
       | (go_at_call 29; refine HW.out.mono ?_; rintro e w11 ⟨rfl, hb⟩; have T11 := Lib.hid (T10.out.go hb); have R2411 := Lib.hid (R24.out.below hb); have HR11 := Lib.hid (HR10.out.below hb); have h24b : p24 < w11.heap.size := (by have := hb.size; omega); clear hb)
       | ((with_reducible show wpList _ _ _ (⟨none, .store _ (.tmp 150) _, _, _, _, _⟩ :: _) _ _); refine wpList_storeN rfl 25 (.tmp 150) (.tmp 149) rfl rfl (w.heap.size + 1) 8 #[.int .u64 x, .int .u64 y] (by simp [Act.eval, Act.put]) (by simp [Act.eval, Act.put]) (fun j hj => by have h := T11.out.r7.th (8 + j) (by rw [HC.out.z]; simp at hj; omega); simpa using h) size2u (by simp [Value.oneCell']) ?_))
      obtain ⟨W7, hW⟩ : ∃ z, z = w11.setCells (w.heap.size + 1) 8 (#[Value.int .u64 x, .int .u64 y] : Array Value).toList := ⟨_, rfl⟩
      rw [← hW]
      have T7 := Lib.hid (show RPt w MC (cmD C x y) Z W7 by rw [hW]; exact T11.out.data HC.out.z x y)
      have k7 : Keeps (One (w.heap.size + 1)) w11 W7 := by rw [hW]; exact Keeps.store (S := One (w.heap.size + 1)) (Keeps.refl _ _) (fun _ => rfl) _ _
      have R247 := Lib.hid (R2411.out.kept k7 (fun e => by have e : p24 = (w.heap.size + 1) := e; omega))
      have HR7 := Lib.hid (HR11.out.kept k7 (fun j e => by have e : j = (w.heap.size + 1) := e; exact .inr ⟨by omega, by omega⟩))
      obtain ⟨D, hD⟩ : ∃ D, D = cmD C x y := ⟨_, rfl⟩
      rw [← hD] at T7
      have SD := Lib.hid (show D.size = 16 by rw [hD]; simp [cmD, HC.out.z])
      have OD := Lib.hid (show D.all (·.oneCell') = true by rw [hD]; exact all_set (all_set HC.out.o 8 _ rfl) 9 _ rfl)
      have ID := Lib.hid (show (Tryz.prog.info? 28).map (·.size) = some D.size by rw [SD.out]; exact sizeCm)
      have HD := Lib.hid hD
      clear hW k7 hD
      refine wp_region_held_drew (S := fun w' => Keeps (Two (w.heap.size + 1 + 1) (w.heap.size + 1 + 1 + 1)) W7 w') (by kernel_rfl) ((Keeps.refl _ _).drew) (fun hS0 => ?_)
      refine takeD 151 (i := 0) (v := .agg MC') rfl rfl (by kernel_rfl) (by kernel_rfl) (by kernel_rfl) (fun _ _ _ h => h) (yieldsA (by rfl) 34 (.tmp 24) rfl (p24) (by first | rfl | simp [Act.eval, Act.put]) MC' (fun w h => (R247.out.kept h (fun e => by rcases e with e | e <;> omega)).rng) Tryz.underlying34 rfl IM'.out) (by assumption) ?_
      try simp only [Act.put, List.setIfInBounds_toArray, List.set_cons_zero, List.set_cons_succ]
      refine takeD 152 (i := 1) (v := .agg D) rfl rfl (by kernel_rfl) (by kernel_rfl) (by kernel_rfl) (fun _ _ _ h => h) (yieldsA (by rfl) 28 (.tmp 7) rfl (w.heap.size + 1) (by first | rfl | simp [Act.eval, Act.put]) D (fun w h => (T7.out.r7.kept h (fun e => by rcases e with e | e <;> omega)).rng) Tryz.underlying28 rfl ID.out) (by assumption) ?_
      try simp only [Act.put, List.setIfInBounds_toArray, List.set_cons_zero, List.set_cons_succ]
      refine wpAnyH_ready (rs := [2]) (by kernel_rfl) (by simp) (AllReadyH.cons rfl (fun K hK => ?_) AllReadyH.nil)
      rw [if_pos (by rfl)]
      refine wp_storeN 34 (.tmp 12) (.tmp 151) rfl rfl (w.heap.size + 1 + 1) 0 MC' (by first | rfl | simp [Act.eval, Act.put]) (by first | rfl | simp [Act.eval, Act.put]) (by rw [S2'.out]; exact T7.out.r12.drew.th) (by rw [S2'.out]; exact sizeRM) OM'.out ?_
      refine hK.out _ _ (hS0.trans (Keeps.store (S := One (w.heap.size + 1 + 1)) (Keeps.refl _ _) (fun _ => rfl) _ _).two1) (fun hS0 => ?_)
      clear hK K
      try simp only [Act.put, List.setIfInBounds_toArray, List.set_cons_zero, List.set_cons_succ]
      refine wpAnyH_ready (rs := [3]) (by kernel_rfl) (by simp) (AllReadyH.cons rfl (fun K hK => ?_) AllReadyH.nil)
      rw [if_pos (by rfl)]
      refine wp_storeN 28 (.tmp 13) (.tmp 152) rfl rfl (w.heap.size + 1 + 1 + 1) 0 D (by first | rfl | simp [Act.eval, Act.put]) (by first | rfl | simp [Act.eval, Act.put]) (by rw [SD.out, ← SZ.out]; exact (T7.out.r13.drew.kept (Keeps.store (S := One (w.heap.size + 1 + 1)) (Keeps.refl _ _) (fun _ => rfl) _ _) (fun e => by have e : (w.heap.size + 1 + 1 + 1) = (w.heap.size + 1 + 1) := e; omega)).th) ID.out OD.out ?_
      refine hK.out _ _ (hS0.trans (Keeps.store (S := One (w.heap.size + 1 + 1 + 1)) (Keeps.refl _ _) (fun _ => rfl) _ _).two2) (fun hS0 => ?_)
      clear hK K
      try simp only [Act.put, List.setIfInBounds_toArray, List.set_cons_zero, List.set_cons_succ]
      refine takeD 14 (i := 4) (v := .int .i64 0) rfl rfl (by kernel_rfl) (by kernel_rfl) (by kernel_rfl) (fun _ _ _ h => h) (Or.inl ⟨by rfl, by (intro w' _; go_simp)⟩) (by assumption) ?_
      try simp only [Act.put, List.setIfInBounds_toArray, List.set_cons_zero, List.set_cons_succ]
      refine wpAnyH_done (by kernel_rfl) ?_ _
      go_wp2_with fail
      obtain ⟨x12, x13, xb, xk⟩ := rp_ret (X := MC') (Y := D) (T7.out.go (Below.refl _ W7).drew) S2'.out (by rw [SD.out, SZ.out])
      refine bodyPost_ret (results_cct rfl _ _ _ x12 x13 rfl Tryz.underlying34 rfl IM'.out rfl Tryz.underlying28 rfl ID.out) rfl (.inr (.inr ⟨HT.out, (.inl hk1), MC', L, by (try rw [if_pos HE.out]); rw [HD.out, HXY2.out.1, HXY2.out.2, HE.out]; rfl, xb, ?_⟩))
      exact ((HR7.out.kept (Keeps.refl (Two (w.heap.size + 1 + 1) (w.heap.size + 1 + 1 + 1)) W7).drew (fun _ e => .inr (by rcases e with e | e <;> omega))).kept xk (fun _ e => .inr (by rcases e with e | e <;> omega))).more (fun _ _ h => .inl h)
     ·have q0 : (er != 0) = true := bne_iff_ne.2 he
      have HE := Lib.hid he
      clear he
      go_wp2_with (first
       | ((with_reducible show wpList _ _ _ (⟨some 145, _, _, _, _, _⟩ :: _) _ _); refine wpList_loadA rfl T10.out.r6 34 (.tmp 6) rfl (by first | rfl | simp [Act.eval, Act.put]) Tryz.underlying34 rfl IM.out ?_)
       | ((with_reducible show wpList _ _ _ (⟨some 146, _, _, _, _, _⟩ :: _) _ _); refine wpList_build0 rfl 28 rfl (BZ.out _) ?_)
       | ((with_reducible show wpList _ _ _ (⟨none, .store _ (.tmp 12) _, _, _, _, _⟩ :: _) _ _); refine wpList_storeA rfl (b := (w.heap.size + 1 + 1)) (A := zRM) (A' := MC) T10.out.r12 34 (.tmp 12) (.tmp 145) rfl (by simp [Act.eval, Act.put]) (by simp [Act.eval, Act.put]) ssizeRMz (by rw [S2.out]; rfl) OM.out ?_)
       | ((with_reducible show wpList _ _ _ (⟨none, .store _ (.tmp 13) _, _, _, _, _⟩ :: _) _ _); refine wpList_storeA rfl (b := (w.heap.size + 1 + 1 + 1)) (A := Z) (A' := Z) (T10.out.r13.kept (Keeps.store (S := One (w.heap.size + 1 + 1)) (Keeps.refl _ _) (fun _ => rfl) _ _) (fun e => by have e : (w.heap.size + 1 + 1 + 1) = (w.heap.size + 1 + 1) := e; omega)) 28 (.tmp 13) (.tmp 146) rfl (by simp [Act.eval, Act.put]) (by simp [Act.eval, Act.put]) IZ.out (by first | rfl | rw [SZ.out, SZ.out]) OZ.out ?_))
      obtain ⟨x12, x13, xb, -⟩ := rp_ret (X := MC) (Y := Z) T10.out S2.out rfl
      exact bodyPost_ret (results_cct rfl _ _ _ x12 x13 rfl Tryz.underlying34 rfl IM.out rfl Tryz.underlying28 rfl IZ.out) rfl (.inr (.inr ⟨HT.out, (.inl hk1), MC, [], by (try rw [if_neg HE.out]); rw [← HZ.out]; rfl, xb, by rw [HF.out HE.out]; exact HM.out.kept (S := S) (T := fun _ => False) (Keeps.of_below xb) (fun _ e => e.elim)⟩))
    ·have r1 : decide ((1 : Int) < (k : Int)) = true := decide_eq_true (by omega)
     have r2 : decide (1 < k) = true := decide_eq_true (by omega)
     by_cases hnl : nl = 0
     ·have r3 : ((nl : Int) == 0) = true := by simp [hnl]
      have HNL := Lib.hid hnl
      clear hnl
      go_wp2_with (first
       | ((with_reducible show wpList _ _ _ (⟨some 130, _, _, _, _, _⟩ :: _) _ _); refine wpList_loadA rfl Tr.out.r6 34 (.tmp 6) rfl (by first | rfl | simp [Act.eval, Act.put]) Tryz.underlying34 rfl IM.out ?_)
       | ((with_reducible show wpList _ _ _ (⟨some 131, _, _, _, _, _⟩ :: _) _ _); refine wpList_build0 rfl 28 rfl (BZ.out _) ?_)
       | ((with_reducible show wpList _ _ _ (⟨none, .store _ (.tmp 12) _, _, _, _, _⟩ :: _) _ _); refine wpList_storeA rfl (b := (w.heap.size + 1 + 1)) (A := zRM) (A' := MC) Tr.out.r12 34 (.tmp 12) (.tmp 130) rfl (by simp [Act.eval, Act.put]) (by simp [Act.eval, Act.put]) ssizeRMz (by rw [S2.out]; rfl) OM.out ?_)
       | ((with_reducible show wpList _ _ _ (⟨none, .store _ (.tmp 13) _, _, _, _, _⟩ :: _) _ _); refine wpList_storeA rfl (b := (w.heap.size + 1 + 1 + 1)) (A := Z) (A' := Z) (Tr.out.r13.kept (Keeps.store (S := One (w.heap.size + 1 + 1)) (Keeps.refl _ _) (fun _ => rfl) _ _) (fun e => by have e : (w.heap.size + 1 + 1 + 1) = (w.heap.size + 1 + 1) := e; omega)) 28 (.tmp 13) (.tmp 131) rfl (by simp [Act.eval, Act.put]) (by simp [Act.eval, Act.put]) IZ.out (by first | rfl | rw [SZ.out, SZ.out]) OZ.out ?_))
      obtain ⟨x12, x13, xb, -⟩ := rp_ret (X := MC) (Y := Z) Tr.out S2.out rfl
      exact bodyPost_ret (results_cct rfl _ _ _ x12 x13 rfl Tryz.underlying34 rfl IM.out rfl Tryz.underlying28 rfl IZ.out) rfl (.inr (.inl ⟨HT.out, by omega, HNL.out, MC, [], by rw [← HZ.out]; rfl, xb, HM.out.kept (S := S) (T := fun _ => False) (Keeps.of_below xb) (fun _ e => e.elim)⟩))
     ·have r3 : ((nl : Int) == 0) = false := beq_eq_false_iff_ne.2 (by omega)
      have r4 : (nl == 0) = false := beq_eq_false_iff_ne.2 hnl
      have hnl0 : 0 < nl := by omega
      obtain ⟨gl, ol, hla, hcl⟩ := HL.out hnl0
      subst hla
      have cl := (Tr.out.below.cell (p := ⟨gl, ol + 0, none⟩) (World.block_lt_of_cell? _ _ (hcl 0 hnl0))).trans (hcl 0 hnl0)
      rw [Nat.add_zero] at cl
      obtain ⟨at', hat⟩ : ∃ z, z = l 0 := ⟨_, rfl⟩
      rw [← hat] at cl HB
      clear hat hcl
      go_upto_region 27 with fail
      rw [← HVV.out]
      have HBU := Lib.hid (show Calls Tryz.prog 28 #[.agg MC, .int .u64 at', vv] wr fun e w' => ∃ MC' L, e = .returned (.tuple #[.agg MC', .agg DD, .int .i64 er]) ∧ Below wr.heap.size wr w' ∧ RefAt (fun j => S j ∨ (w.heap.size ≤ j ∧ j < bs)) w' (.agg MC') sz F L by
       have h := HB.out HT.out (.inr hnl) wr (fun j => S j ∨ (w.heap.size ≤ j ∧ j < bs)) vv bs ((HM.out.more (fun b hb h => h.resolve_right (by omega))).below Tr.out.below) (fun j h => by rcases h with h | h; (have := HS.out j h; omega); omega) Tr.out.below (by omega) (by omega) OV.out
       rw [if_neg (by omega)] at h
       exact h)
      go_upto_region 28 with (first
       | ((with_reducible show wpList _ _ _ (⟨some 136, _, _, _, _, _⟩ :: _) _ _); refine wpList_loadA rfl Tr.out.r6 34 (.tmp 6) rfl (by first | rfl | simp [Act.eval, Act.put]) Tryz.underlying34 rfl IM.out ?_)
       | (go_at_call 28; refine HBU.out.mono ?_; rintro e w9 ⟨MC', L, rfl, hb, hr⟩; have hr0 := hr; obtain ⟨MC2, hMC2, hm2, hmo⟩ := refAt_form hr0; cases hMC2; have S2' := Lib.hid hm2; have OM' := Lib.hid hmo; have HR9 := Lib.hid hr; have T9 := Lib.hid (Tr.out.go hb); have hb9 : bs ≤ w9.heap.size := (by have := hb.size; omega); clear hb hr hr0 hm2 hmo)
       | ((with_reducible show wpList _ _ _ (⟨some 24, _, _, _, _, _⟩ :: _) _ _); refine wpList_alloc rfl 34 rfl zeroRM ?_; rw [show (Value.agg zRM).cells = zRM from rfl])
       | ((with_reducible show wpList _ _ _ (⟨some 25, _, _, _, _, _⟩ :: _) _ _); refine wpList_alloc rfl 72 rfl ZzD.out ?_; rw [show (Value.agg zD).cells = zD from rfl])
       | ((with_reducible show wpList _ _ _ (⟨none, .store _ (.tmp 24) _, _, _, _, _⟩ :: _) _ _); refine wpList_storeA rfl (b := w9.heap.size) (A := zRM) (A' := MC') ((ArrAt.fresh w9 zRM _ (by decide)).alloc _) 34 (.tmp 24) (.tmp 140) rfl (by simp [Act.eval, Act.put]) (by simp [Act.eval, Act.put]) ssizeRMz (by rw [S2'.out]; rfl) OM'.out ?_)
       | ((with_reducible show wpList _ _ _ (⟨none, .store _ (.tmp 25) _, _, _, _, _⟩ :: _) _ _); refine wpList_storeA rfl (b := w9.heap.size + 1) (A := zD) (A' := DD) (fresh2 w9 zRM zD MC' (by rw [SzD.out]; omega)) 72 (.tmp 25) (.tmp 141) rfl (by simp [Act.eval, Act.put]) (by simp [Act.eval, Act.put]) IzD.out (by rw [SDD.out, SzD.out]) ODD.out ?_))
      obtain ⟨W10, hW⟩ : ∃ z, z = (((w9.alloc (.cells zRM 34)).alloc (.cells zD 72)).setCells w9.heap.size 0 MC'.toList).setCells (w9.heap.size + 1) 0 DD.toList := ⟨_, rfl⟩
      rw [← hW]
      obtain ⟨hb10, ha24, ha25⟩ := stored2_at (by decide) (by rw [SzD.out]; omega) (by rw [S2'.out]; rfl) (by rw [SDD.out, SzD.out]) hW
      have T10 := Lib.hid (T9.out.go hb10)
      have R24 := Lib.hid ha24
      have R25 := Lib.hid ha25
      have HR10 := Lib.hid (HR9.out.below hb10)
      have IM' := Lib.hid (show (Tryz.prog.info? 34).map (·.size) = some MC'.size by rw [S2'.out]; exact sizeRM)
      obtain ⟨p24, hp24⟩ : ∃ z, z = w9.heap.size := ⟨_, rfl⟩
      have h24 : bs ≤ p24 := by rw [hp24]; exact hb9
      rw [← hp24] at R24 R25 ⊢
      have h24' : p24 < W10.heap.size := R24.out.lt
      clear hW hb10 ha24 ha25 hp24 T9 HR9 hb9 HBU
      by_cases he : er = 0
      ·have HE := Lib.hid he
       have q0 : (er != 0) = false := by simp [he]
       have HW := Lib.hid (HWD.out he W10)
       obtain ⟨x, hx⟩ : ∃ z, z = d.a := ⟨_, rfl⟩
       obtain ⟨y, hy⟩ : ∃ z, z = word1 d := ⟨_, rfl⟩
       rw [← hx, ← hy] at HW
       have HXY2 := Lib.hid (And.intro hx hy)
       clear he hx hy
       go_upto_region 31 with (first
        | ((with_reducible show wpList _ _ _ (⟨some 148, _, _, _, _, _⟩ :: _) _ _); refine wpList_loadA rfl R25.out 72 (.tmp 25) rfl (by first | rfl | simp [Act.eval, Act.put]) Tryz.underlying72 rfl IDD.out ?_)
        | (go_at_call 29; refine HW.out.mono ?_; rintro e w11 ⟨rfl, hb⟩; have T11 := Lib.hid (T10.out.go hb); have R2411 := Lib.hid (R24.out.below hb); have HR11 := Lib.hid (HR10.out.below hb); have h24b : p24 < w11.heap.size := (by have := hb.size; omega); clear hb)
        | ((with_reducible show wpList _ _ _ (⟨none, .store _ (.tmp 150) _, _, _, _, _⟩ :: _) _ _); refine wpList_storeN rfl 25 (.tmp 150) (.tmp 149) rfl rfl (w.heap.size + 1) 8 #[.int .u64 x, .int .u64 y] (by simp [Act.eval, Act.put]) (by simp [Act.eval, Act.put]) (fun j hj => by have h := T11.out.r7.th (8 + j) (by rw [HC.out.z]; simp at hj; omega); simpa using h) size2u (by simp [Value.oneCell']) ?_))
       obtain ⟨W7, hW⟩ : ∃ z, z = w11.setCells (w.heap.size + 1) 8 (#[Value.int .u64 x, .int .u64 y] : Array Value).toList := ⟨_, rfl⟩
       rw [← hW]
       have T7 := Lib.hid (show RPt w MC (cmD C x y) Z W7 by rw [hW]; exact T11.out.data HC.out.z x y)
       have k7 : Keeps (One (w.heap.size + 1)) w11 W7 := by rw [hW]; exact Keeps.store (S := One (w.heap.size + 1)) (Keeps.refl _ _) (fun _ => rfl) _ _
       have R247 := Lib.hid (R2411.out.kept k7 (fun e => by have e : p24 = (w.heap.size + 1) := e; omega))
       have HR7 := Lib.hid (HR11.out.kept k7 (fun j e => by have e : j = (w.heap.size + 1) := e; exact .inr ⟨by omega, by omega⟩))
       obtain ⟨D, hD⟩ : ∃ D, D = cmD C x y := ⟨_, rfl⟩
       rw [← hD] at T7
       have SD := Lib.hid (show D.size = 16 by rw [hD]; simp [cmD, HC.out.z])
       have OD := Lib.hid (show D.all (·.oneCell') = true by rw [hD]; exact all_set (all_set HC.out.o 8 _ rfl) 9 _ rfl)
       have ID := Lib.hid (show (Tryz.prog.info? 28).map (·.size) = some D.size by rw [SD.out]; exact sizeCm)
       have HD := Lib.hid hD
       clear hW k7 hD
       refine wp_region_held_drew (S := fun w' => Keeps (Two (w.heap.size + 1 + 1) (w.heap.size + 1 + 1 + 1)) W7 w') (by kernel_rfl) ((Keeps.refl _ _).drew) (fun hS0 => ?_)
       refine takeD 151 (i := 0) (v := .agg MC') rfl rfl (by kernel_rfl) (by kernel_rfl) (by kernel_rfl) (fun _ _ _ h => h) (yieldsA (by rfl) 34 (.tmp 24) rfl (p24) (by first | rfl | simp [Act.eval, Act.put]) MC' (fun w h => (R247.out.kept h (fun e => by rcases e with e | e <;> omega)).rng) Tryz.underlying34 rfl IM'.out) (by assumption) ?_
       try simp only [Act.put, List.setIfInBounds_toArray, List.set_cons_zero, List.set_cons_succ]
       refine takeD 152 (i := 1) (v := .agg D) rfl rfl (by kernel_rfl) (by kernel_rfl) (by kernel_rfl) (fun _ _ _ h => h) (yieldsA (by rfl) 28 (.tmp 7) rfl (w.heap.size + 1) (by first | rfl | simp [Act.eval, Act.put]) D (fun w h => (T7.out.r7.kept h (fun e => by rcases e with e | e <;> omega)).rng) Tryz.underlying28 rfl ID.out) (by assumption) ?_
       try simp only [Act.put, List.setIfInBounds_toArray, List.set_cons_zero, List.set_cons_succ]
       refine wpAnyH_ready (rs := [2]) (by kernel_rfl) (by simp) (AllReadyH.cons rfl (fun K hK => ?_) AllReadyH.nil)
       rw [if_pos (by rfl)]
       refine wp_storeN 34 (.tmp 12) (.tmp 151) rfl rfl (w.heap.size + 1 + 1) 0 MC' (by first | rfl | simp [Act.eval, Act.put]) (by first | rfl | simp [Act.eval, Act.put]) (by rw [S2'.out]; exact T7.out.r12.drew.th) (by rw [S2'.out]; exact sizeRM) OM'.out ?_
       refine hK.out _ _ (hS0.trans (Keeps.store (S := One (w.heap.size + 1 + 1)) (Keeps.refl _ _) (fun _ => rfl) _ _).two1) (fun hS0 => ?_)
       clear hK K
       try simp only [Act.put, List.setIfInBounds_toArray, List.set_cons_zero, List.set_cons_succ]
       refine wpAnyH_ready (rs := [3]) (by kernel_rfl) (by simp) (AllReadyH.cons rfl (fun K hK => ?_) AllReadyH.nil)
       rw [if_pos (by rfl)]
       refine wp_storeN 28 (.tmp 13) (.tmp 152) rfl rfl (w.heap.size + 1 + 1 + 1) 0 D (by first | rfl | simp [Act.eval, Act.put]) (by first | rfl | simp [Act.eval, Act.put]) (by rw [SD.out, ← SZ.out]; exact (T7.out.r13.drew.kept (Keeps.store (S := One (w.heap.size + 1 + 1)) (Keeps.refl _ _) (fun _ => rfl) _ _) (fun e => by have e : (w.heap.size + 1 + 1 + 1) = (w.heap.size + 1 + 1) := e; omega)).th) ID.out OD.out ?_
       refine hK.out _ _ (hS0.trans (Keeps.store (S := One (w.heap.size + 1 + 1 + 1)) (Keeps.refl _ _) (fun _ => rfl) _ _).two2) (fun hS0 => ?_)
       clear hK K
       try simp only [Act.put, List.setIfInBounds_toArray, List.set_cons_zero, List.set_cons_succ]
       refine takeD 14 (i := 4) (v := .int .i64 0) rfl rfl (by kernel_rfl) (by kernel_rfl) (by kernel_rfl) (fun _ _ _ h => h) (Or.inl ⟨by rfl, by (intro w' _; go_simp)⟩) (by assumption) ?_
       try simp only [Act.put, List.setIfInBounds_toArray, List.set_cons_zero, List.set_cons_succ]
       refine wpAnyH_done (by kernel_rfl) ?_ _
       go_wp2_with fail
       obtain ⟨x12, x13, xb, xk⟩ := rp_ret (X := MC') (Y := D) (T7.out.go (Below.refl _ W7).drew) S2'.out (by rw [SD.out, SZ.out])
       refine bodyPost_ret (results_cct rfl _ _ _ x12 x13 rfl Tryz.underlying34 rfl IM'.out rfl Tryz.underlying28 rfl ID.out) rfl (.inr (.inr ⟨HT.out, (.inr hnl), MC', L, by (try rw [if_pos HE.out]); rw [HD.out, HXY2.out.1, HXY2.out.2, HE.out]; rfl, xb, ?_⟩))
       exact ((HR7.out.kept (Keeps.refl (Two (w.heap.size + 1 + 1) (w.heap.size + 1 + 1 + 1)) W7).drew (fun _ e => .inr (by rcases e with e | e <;> omega))).kept xk (fun _ e => .inr (by rcases e with e | e <;> omega))).more (fun _ _ h => .inl h)
      ·have q0 : (er != 0) = true := bne_iff_ne.2 he
       have HE := Lib.hid he
       clear he
       go_wp2_with (first
        | ((with_reducible show wpList _ _ _ (⟨some 145, _, _, _, _, _⟩ :: _) _ _); refine wpList_loadA rfl T10.out.r6 34 (.tmp 6) rfl (by first | rfl | simp [Act.eval, Act.put]) Tryz.underlying34 rfl IM.out ?_)
        | ((with_reducible show wpList _ _ _ (⟨some 146, _, _, _, _, _⟩ :: _) _ _); refine wpList_build0 rfl 28 rfl (BZ.out _) ?_)
        | ((with_reducible show wpList _ _ _ (⟨none, .store _ (.tmp 12) _, _, _, _, _⟩ :: _) _ _); refine wpList_storeA rfl (b := (w.heap.size + 1 + 1)) (A := zRM) (A' := MC) T10.out.r12 34 (.tmp 12) (.tmp 145) rfl (by simp [Act.eval, Act.put]) (by simp [Act.eval, Act.put]) ssizeRMz (by rw [S2.out]; rfl) OM.out ?_)
        | ((with_reducible show wpList _ _ _ (⟨none, .store _ (.tmp 13) _, _, _, _, _⟩ :: _) _ _); refine wpList_storeA rfl (b := (w.heap.size + 1 + 1 + 1)) (A := Z) (A' := Z) (T10.out.r13.kept (Keeps.store (S := One (w.heap.size + 1 + 1)) (Keeps.refl _ _) (fun _ => rfl) _ _) (fun e => by have e : (w.heap.size + 1 + 1 + 1) = (w.heap.size + 1 + 1) := e; omega)) 28 (.tmp 13) (.tmp 146) rfl (by simp [Act.eval, Act.put]) (by simp [Act.eval, Act.put]) IZ.out (by first | rfl | rw [SZ.out, SZ.out]) OZ.out ?_))
       obtain ⟨x12, x13, xb, -⟩ := rp_ret (X := MC) (Y := Z) T10.out S2.out rfl
       exact bodyPost_ret (results_cct rfl _ _ _ x12 x13 rfl Tryz.underlying34 rfl IM.out rfl Tryz.underlying28 rfl IZ.out) rfl (.inr (.inr ⟨HT.out, (.inr hnl), MC, [], by (try rw [if_neg HE.out]); rw [← HZ.out]; rfl, xb, by rw [HF.out HE.out]; exact HM.out.kept (S := S) (T := fun _ => False) (Keeps.of_below xb) (fun _ e => e.elim)⟩))
end
end Go.Proofs.YtfmabknhfehdcaaGreat
