/- transfer: the specification's Prepare: what lies in memory; of a page list. -/
import Derived.Test.YtfmabknhfehdcaaGreatZP34
import Derived.Test.YtfmabknhfehdcaaGreatZP36
import Derived.Test.YtfmabknhfehdcaaGreatZP37
namespace Go.Proofs.YtfmabknhfehdcaaGreat
set_option linter.unusedSimpArgs false
set_option linter.unusedVariables false
open Go.RowKit
/-- What lies in memory while it runs: the parameters, the results. -/
structure RPt (w : World) (MC C Z : Array Value) (W : World) : Prop where
 below : Below w.heap.size w W
 ord : w.heap.size + 3 < W.heap.size
 r6 : ArrAt W w.heap.size MC
 r7 : ArrAt W (w.heap.size + 1) C
 r12 : ArrAt W (w.heap.size + 1 + 1) zRM
 r13 : ArrAt W (w.heap.size + 1 + 1 + 1) Z
section
variable {w W W' : World} {MC C Z : Array Value}
theorem RPt.kept {S : Nat → Prop} (h : RPt w MC C Z W) (k : Keeps S W W') (hS : ∀ j, S j → w.heap.size + 3 < j) : RPt w MC C Z W' :=
 ⟨h.below.trans (k.below h.below.size (fun j hj e => by have := hS j e; omega)), by have := h.ord; have := k.size; omega, h.r6.kept k (fun e => by have := hS _ e; omega), h.r7.kept k (fun e => by have := hS _ e; omega), h.r12.kept k (fun e => by have := hS _ e; omega), h.r13.kept k (fun e => by have := hS _ e; omega)⟩
theorem RPt.go (h : RPt w MC C Z W) (hb : Below W.heap.size W W') : RPt w MC C Z W' := h.kept (Keeps.of_below (S := fun _ => False) hb) (fun _ e => e.elim)
/-- the command's data laid over -/
theorem RPt.data (h : RPt w MC C Z W) (h16 : C.size = 16) (x y : Int) : RPt w MC (cmD C x y) Z (W.setCells (w.heap.size + 1) 8 (#[Value.int .u64 x, .int .u64 y] : Array Value).toList) := by
 have e : W.setCells (w.heap.size + 1) 8 (#[Value.int .u64 x, .int .u64 y] : Array Value).toList = (W.setCell ⟨w.heap.size + 1, 8, none⟩ (.int .u64 x)).setCell ⟨w.heap.size + 1, 9, none⟩ (.int .u64 y) := rfl
 have k : Keeps (One (w.heap.size + 1)) W (W.setCells (w.heap.size + 1) 8 (#[Value.int .u64 x, .int .u64 y] : Array Value).toList) := by rw [e]; exact ((Keeps.refl (One (w.heap.size + 1)) W).setCell (p := ⟨w.heap.size + 1, 8, none⟩) (fun _ => rfl) _).setCell (p := ⟨w.heap.size + 1, 9, none⟩) (fun _ => rfl) _
 refine ⟨h.below.trans (k.below h.below.size (fun j hj e => by have e : j = w.heap.size + 1 := e; omega)), by have := h.ord; have := k.size; omega, h.r6.kept k (fun e => by have e : w.heap.size = w.heap.size + 1 := e; omega), ?_, h.r12.kept k (fun e => by have e : w.heap.size + 1 + 1 = w.heap.size + 1 := e; omega), h.r13.kept k (fun e => by have e : w.heap.size + 1 + 1 + 1 = w.heap.size + 1 := e; omega)⟩
 rw [e]
 exact (h.r7.set 8 (.int .u64 x) (by omega)).set 9 (.int .u64 y) (by rw [Array.size_setIfInBounds]; omega)
theorem rp_new (hm : 0 < MC.size) (hc : 0 < C.size) (hz : 0 < Z.size) (hW : W = (((w.alloc (.cells MC 34)).alloc (.cells C 28)).alloc (.cells zRM 34)).alloc (.cells Z 28)) : RPt w MC C Z W := by
 have f1 := ArrAt.fresh w MC 34 hm
 have f2 := ArrAt.fresh (w.alloc (.cells MC 34)) C 28 hc
 have f3 := ArrAt.fresh ((w.alloc (.cells MC 34)).alloc (.cells C 28)) zRM 34 (by decide)
 have f4 := ArrAt.fresh (((w.alloc (.cells MC 34)).alloc (.cells C 28)).alloc (.cells zRM 34)) Z 28 hz
 simp only [World.size_alloc] at f2 f3 f4
 rw [hW]
 exact ⟨((((Below.refl _ w).alloc (Nat.le_refl _) _).alloc (by simp) _).alloc (by simp; omega) _).alloc (by simp; omega) _, by simp, ((f1.alloc _).alloc _).alloc _, (f2.alloc _).alloc _, f3.alloc _, f4⟩
theorem rp_ret (h : RPt w MC C Z W) {X Y : Array Value} (hx : X.size = 2) (hy : Y.size = Z.size) :
  ArrAt ((W.setCells (w.heap.size + 1 + 1) 0 X.toList).setCells (w.heap.size + 1 + 1 + 1) 0 Y.toList) (w.heap.size + 1 + 1) X ∧ ArrAt ((W.setCells (w.heap.size + 1 + 1) 0 X.toList).setCells (w.heap.size + 1 + 1 + 1) 0 Y.toList) (w.heap.size + 1 + 1 + 1) Y ∧
  Below w.heap.size w ((W.setCells (w.heap.size + 1 + 1) 0 X.toList).setCells (w.heap.size + 1 + 1 + 1) 0 Y.toList) ∧ Keeps (Two (w.heap.size + 1 + 1) (w.heap.size + 1 + 1 + 1)) W ((W.setCells (w.heap.size + 1 + 1) 0 X.toList).setCells (w.heap.size + 1 + 1 + 1) 0 Y.toList) := by
 have k1 : Keeps (One (w.heap.size + 1 + 1)) W (W.setCells (w.heap.size + 1 + 1) 0 X.toList) := Keeps.store (S := One (w.heap.size + 1 + 1)) (Keeps.refl _ _) (fun _ => rfl) _ _
 have k2 : Keeps (One (w.heap.size + 1 + 1 + 1)) (W.setCells (w.heap.size + 1 + 1) 0 X.toList) ((W.setCells (w.heap.size + 1 + 1) 0 X.toList).setCells (w.heap.size + 1 + 1 + 1) 0 Y.toList) := Keeps.store (S := One (w.heap.size + 1 + 1 + 1)) (Keeps.refl _ _) (fun _ => rfl) _ _
 have a6 := h.r12.store X (by rw [hx]; rfl)
 have a7 := h.r13.kept k1 (fun e => by have e : w.heap.size + 1 + 1 + 1 = w.heap.size + 1 + 1 := e; omega)
 exact ⟨a6.kept k2 (fun e => by have e : w.heap.size + 1 + 1 = w.heap.size + 1 + 1 + 1 := e; omega), a7.store Y hy, bstore (bstore h.below _ (by omega) _ _) _ (by omega) _ _, k1.two1.trans k2.two2⟩
end
/-- Two new variables. -/
theorem stored2_at {y W : World} {T1 T2 : TypeId} {Z1 Z2 A1 A2 : Array Value} (h1 : 0 < Z1.size) (h2 : 0 < Z2.size) (e1 : A1.size = Z1.size) (e2 : A2.size = Z2.size)
  (hW : W = (((y.alloc (.cells Z1 T1)).alloc (.cells Z2 T2)).setCells y.heap.size 0 A1.toList).setCells (y.heap.size + 1) 0 A2.toList) : Below y.heap.size y W ∧ ArrAt W y.heap.size A1 ∧ ArrAt W (y.heap.size + 1) A2 := by
 have f1 := (ArrAt.fresh y Z1 T1 h1).alloc (.cells Z2 T2)
 have f2 := ArrAt.fresh (y.alloc (.cells Z1 T1)) Z2 T2 h2
 simp only [World.size_alloc] at f2
 have k1 : Keeps (One y.heap.size) ((y.alloc (.cells Z1 T1)).alloc (.cells Z2 T2)) (((y.alloc (.cells Z1 T1)).alloc (.cells Z2 T2)).setCells y.heap.size 0 A1.toList) := Keeps.store (S := One y.heap.size) (Keeps.refl _ _) (fun _ => rfl) _ _
 have k2 : Keeps (One (y.heap.size + 1)) (((y.alloc (.cells Z1 T1)).alloc (.cells Z2 T2)).setCells y.heap.size 0 A1.toList) W := by rw [hW]; exact Keeps.store (S := One (y.heap.size + 1)) (Keeps.refl _ _) (fun _ => rfl) _ _
 have g1 := f1.store A1 e1
 have g2 := f2.kept k1 (fun e => by have e : y.heap.size + 1 = y.heap.size := e; omega)
 refine ⟨?_, g1.kept k2 (fun e => by have e : y.heap.size = y.heap.size + 1 := e; omega), by rw [hW]; exact g2.store A2 e2⟩
 rw [hW]
 exact bstore (bstore (((Below.refl _ y).alloc (Nat.le_refl _) _).alloc (by simp) _) _ (Nat.le_refl _) _ _) _ (by omega) _ _
/-- What Prepare gives. -/
def RQPost (S : Nat → Prop) (sz : Nat) (D : Array Value) (er : Int) (F : Nat → Int) (w : World) (e : Ending) (w' : World) : Prop :=
 ∃ MC' L, e = .returned (.tuple #[.agg MC', .agg D, .int .i64 er]) ∧ Below w.heap.size w w' ∧ RefAt S w' (.agg MC') sz F L
set_option maxRecDepth 100000 in
set_option maxHeartbeats 8000000 in
theorem rprep_p {C : Array Value} {mt d0 d1 : Int} (MC : Array Value) (la pa : Option Addr) (nl lc np pc : Nat) (o N : Int) (sz : Nat) (f : Nat → Int) (S : Nat → Prop) (w : World) (hC : Cm C false mt d0 d1) (hM : RefAt S w (.agg MC) sz f []) (h2 : MC.size = 2) (hOM : MC.all (·.oneCell') = true) (hS : ∀ j, S j → j < w.heap.size) (r1 r2 er : Int) (F : Nat → Int) (hF : er ≠ 0 → F = f)
  (hB : ∀ W S', RefAt S' W (.agg MC) sz f [] → (∀ j, S' j → j < W.heap.size) → Below w.heap.size w W → Calls Tryz.prog 26 #[.agg MC, .slice la nl lc, .slice pa np pc, .int .i64 o, .int .i64 N] W (B2Post S' sz r1 r2 er F W)) :
  Calls Tryz.prog 7 #[.agg MC, .agg C, .slice la nl lc, .slice pa np pc, .int .i64 o, .int .i64 N] w (RQPost S sz (if er = 0 then cmD C r1 r2 else zCm) er F w) := by
 have S2 := Lib.hid h2
 have OM := Lib.hid hOM
 have HM := Lib.hid hM
 have HC := Lib.hid hC
 have IM := Lib.hid (show (Tryz.prog.info? 34).map (·.size) = some MC.size by rw [h2]; exact sizeRM)
 have IC := Lib.hid (show (Tryz.prog.info? 28).map (·.size) = some C.size by rw [hC.z]; exact sizeCm)
 obtain ⟨Z, hZ⟩ : ∃ A : Array Value, A = zCm := ⟨_, rfl⟩
 have SZ := Lib.hid (show Z.size = 16 by rw [hZ]; rfl)
 have OZ := Lib.hid (show Z.all (·.oneCell') = true by rw [hZ]; simp [zCm, Value.oneCell'])
 have IZ := Lib.hid (show (Tryz.prog.info? 28).map (·.size) = some Z.size by rw [SZ.out]; exact sizeCm)
 have BZ := Lib.hid (show ∀ w, (Instr.build 28 #[]).run Tryz.prog w = .ok (.agg Z) w by rw [hZ]; exact build_cm0)
 have ZZ := Lib.hid (show ∀ w, (zeroValue 28).run Tryz.prog w = .ok (.agg Z) w by rw [hZ]; exact zeroCm)
 have HZ := Lib.hid hZ
 have HS := Lib.hid hS
 have HB := Lib.hid hB
 have HF := Lib.hid hF
 have HB2 := Lib.hid build2W
 clear hC hM h2 hOM hS hB hF hZ
 go_enter Tryz.func7, Tryz.ntmps7
 go_upto_region 1 with (first
  | ((with_reducible show wpList _ _ _ (⟨some 12, _, _, _, _, _⟩ :: _) _ _); refine wpList_alloc rfl 34 rfl zeroRM ?_; rw [show (Value.agg zRM).cells = zRM from rfl])
  | ((with_reducible show wpList _ _ _ (⟨some 13, _, _, _, _, _⟩ :: _) _ _); refine wpList_alloc rfl 28 rfl ZZ.out ?_; rw [show (Value.agg Z).cells = Z from rfl]))
 obtain ⟨W0, hW⟩ : ∃ z, z = (((w.alloc (.cells MC 34)).alloc (.cells C 28)).alloc (.cells zRM 34)).alloc (.cells Z 28) := ⟨_, rfl⟩
 have T0 := Lib.hid (rp_new (w := w) (MC := MC) (C := C) (Z := Z) (by rw [S2.out]; omega) (by rw [HC.out.z]; omega) (by rw [SZ.out]; omega) hW)
 rw [← hW]
 clear hW
 have hw0 : w.heap.size + 3 < W0.heap.size := T0.out.ord
 have c2 := T0.out.r7.cell HC.out.g2
 have hbl : ∀ j, (S j ∨ (w.heap.size ≤ j ∧ j < w.heap.size + 4)) → j < W0.heap.size := fun j h => by rcases h with h | h; (have := HS.out j h; omega); omega
 have HBL := Lib.hid hbl
 have M0 := Lib.hid ((HM.out.more (T := fun j => S j ∨ (w.heap.size ≤ j ∧ j < w.heap.size + 4)) (fun b hb h => h.resolve_right (by omega))).below T0.out.below)
 clear hbl
 go_upto_region 3 with (first
  | ((with_reducible show wpList _ _ _ (⟨some 31, _, _, _, _, _⟩ :: _) _ _); refine wpList_loadA rfl T0.out.r6 34 (.tmp 6) rfl (by first | rfl | simp [Act.eval, Act.put]) Tryz.underlying34 rfl IM.out ?_)
  | (go_at_call 26; refine (HB.out W0 _ M0.out HBL.out T0.out.below).mono ?_; rintro e w5 ⟨MC', L, rfl, hb, hr⟩; unfold rbE; have hr0 := hr; obtain ⟨MC2, hMC2, hm2, hmo⟩ := refAt_form hr0; cases hMC2; have S2' := Lib.hid hm2; have OM' := Lib.hid hmo; have HR5 := Lib.hid hr; have T5 := Lib.hid (T0.out.go hb); clear hb hr hr0 hm2 hmo)
  | ((with_reducible show wpList _ _ _ (⟨some 15, _, _, _, _, _⟩ :: _) _ _); refine wpList_alloc rfl 34 rfl zeroRM ?_; rw [show (Value.agg zRM).cells = zRM from rfl])
  | ((with_reducible show wpList _ _ _ (⟨none, .store _ (.tmp 15) _, _, _, _, _⟩ :: _) _ _); refine wpList_storeA rfl (b := w5.heap.size) (A := zRM) (A' := MC') (ArrAt.fresh w5 zRM _ (by decide)) 34 (.tmp 15) (.tmp 37) rfl (by simp [Act.eval, Act.put]) (by simp [Act.eval, Act.put]) ssizeRMz (by rw [S2'.out]; rfl) OM'.out ?_))
 obtain ⟨W6, hW⟩ : ∃ z, z = (w5.alloc (.cells zRM 34)).setCells w5.heap.size 0 MC'.toList := ⟨_, rfl⟩
 obtain ⟨hb6, ha6⟩ := stored_at (by decide) (by rw [S2'.out]; rfl) hW
 rw [← hW]
 have R15 := Lib.hid ha6
 have T6 := Lib.hid (T5.out.go hb6)
 have HR6 := Lib.hid (HR5.out.below hb6)
 have IM' := Lib.hid (show (Tryz.prog.info? 34).map (·.size) = some MC'.size by rw [S2'.out]; exact sizeRM)
 obtain ⟨p15, hp15⟩ : ∃ z, z = w5.heap.size := ⟨_, rfl⟩
 have h15 : w.heap.size + 3 < p15 := by rw [hp15]; exact T5.out.ord
 rw [← hp15] at R15 ⊢
 have h15' : p15 < W6.heap.size := R15.out.lt
 clear hW hb6 ha6 hp15 T5 HR5 c2
 by_cases he : er = 0
 ·subst he
  have q0 : ((0 : Int) != 0) = false := rfl
  go_upto_region 6 with (first
   | ((with_reducible show wpList _ _ _ (⟨some 48, _, _, _, _, _⟩ :: _) _ _); refine wpList_build2 rfl 25 0 1 (.tmp 46) (.tmp 47) rfl _ _ (by first | rfl | simp [Act.eval, Act.put]) (by first | rfl | simp [Act.eval, Act.put]) (HB2.out _ _ _) ?_)
   | ((with_reducible show wpList _ _ _ (⟨none, .store _ (.tmp 49) _, _, _, _, _⟩ :: _) _ _); refine wpList_storeN rfl 25 (.tmp 49) (.tmp 48) rfl rfl (w.heap.size + 1) 8 #[.int .u64 r1, .int .u64 r2] (by simp [Act.eval, Act.put]) (by simp [Act.eval, Act.put]) (fun j hj => by have h := T6.out.r7.th (8 + j) (by rw [HC.out.z]; simp at hj; omega); simpa using h) size2u (by simp [Value.oneCell']) ?_))
  obtain ⟨W7, hW⟩ : ∃ z, z = W6.setCells (w.heap.size + 1) 8 (#[Value.int .u64 r1, .int .u64 r2] : Array Value).toList := ⟨_, rfl⟩
  rw [← hW]
  have T7 := Lib.hid (show RPt w MC (cmD C r1 r2) Z W7 by rw [hW]; exact T6.out.data HC.out.z r1 r2)
  have k7 : Keeps (One (w.heap.size + 1)) W6 W7 := by rw [hW]; exact Keeps.store (S := One (w.heap.size + 1)) (Keeps.refl _ _) (fun _ => rfl) _ _
  have R157 := Lib.hid (R15.out.kept k7 (fun e => by have e : p15 = (w.heap.size + 1) := e; omega))
  have HR7 := Lib.hid (HR6.out.kept k7 (fun j e => by have e : j = (w.heap.size + 1) := e; exact .inr ⟨by omega, by omega⟩))
  obtain ⟨D, hD⟩ : ∃ D, D = cmD C r1 r2 := ⟨_, rfl⟩
  rw [← hD] at T7
  have SD := Lib.hid (show D.size = 16 by rw [hD]; simp [cmD, HC.out.z])
  have OD := Lib.hid (show D.all (·.oneCell') = true by rw [hD]; exact all_set (all_set HC.out.o 8 _ rfl) 9 _ rfl)
  have ID := Lib.hid (show (Tryz.prog.info? 28).map (·.size) = some D.size by rw [SD.out]; exact sizeCm)
  have HD := Lib.hid hD
  clear hW k7 hD
  refine wp_region_held_drew (S := fun w' => Keeps (Two (w.heap.size + 1 + 1) (w.heap.size + 1 + 1 + 1)) W7 w') (by kernel_rfl) ((Keeps.refl _ _).drew) (fun hS0 => ?_)
  refine takeD 50 (i := 0) (v := .agg MC') rfl rfl (by kernel_rfl) (by kernel_rfl) (by kernel_rfl) (fun _ _ _ h => h) (yieldsA (by rfl) 34 (.tmp 15) rfl (p15) (by first | rfl | simp [Act.eval, Act.put]) MC' (fun w h => (R157.out.kept h (fun e => by rcases e with e | e <;> omega)).rng) Tryz.underlying34 rfl IM'.out) (by assumption) ?_
  try simp only [Act.put, List.setIfInBounds_toArray, List.set_cons_zero, List.set_cons_succ]
  refine takeD 51 (i := 1) (v := .agg D) rfl rfl (by kernel_rfl) (by kernel_rfl) (by kernel_rfl) (fun _ _ _ h => h) (yieldsA (by rfl) 28 (.tmp 7) rfl (w.heap.size + 1) (by first | rfl | simp [Act.eval, Act.put]) D (fun w h => (T7.out.r7.kept h (fun e => by rcases e with e | e <;> omega)).rng) Tryz.underlying28 rfl ID.out) (by assumption) ?_
  try simp only [Act.put, List.setIfInBounds_toArray, List.set_cons_zero, List.set_cons_succ]
  refine wpAnyH_ready (rs := [2]) (by kernel_rfl) (by simp) (AllReadyH.cons rfl (fun K hK => ?_) AllReadyH.nil)
  rw [if_pos (by rfl)]
  refine wp_storeN 34 (.tmp 12) (.tmp 50) rfl rfl (w.heap.size + 1 + 1) 0 MC' (by first | rfl | simp [Act.eval, Act.put]) (by first | rfl | simp [Act.eval, Act.put]) (by rw [S2'.out]; exact T7.out.r12.drew.th) (by rw [S2'.out]; exact sizeRM) OM'.out ?_
  refine hK.out _ _ (hS0.trans (Keeps.store (S := One (w.heap.size + 1 + 1)) (Keeps.refl _ _) (fun _ => rfl) _ _).two1) (fun hS0 => ?_)
  clear hK K
  try simp only [Act.put, List.setIfInBounds_toArray, List.set_cons_zero, List.set_cons_succ]
  refine wpAnyH_ready (rs := [3]) (by kernel_rfl) (by simp) (AllReadyH.cons rfl (fun K hK => ?_) AllReadyH.nil)
  rw [if_pos (by rfl)]
  refine wp_storeN 28 (.tmp 13) (.tmp 51) rfl rfl (w.heap.size + 1 + 1 + 1) 0 D (by first | rfl | simp [Act.eval, Act.put]) (by first | rfl | simp [Act.eval, Act.put]) (by rw [SD.out, ← SZ.out]; exact (T7.out.r13.drew.kept (Keeps.store (S := One (w.heap.size + 1 + 1)) (Keeps.refl _ _) (fun _ => rfl) _ _) (fun e => by have e : (w.heap.size + 1 + 1 + 1) = (w.heap.size + 1 + 1) := e; omega)).th) ID.out OD.out ?_
  refine hK.out _ _ (hS0.trans (Keeps.store (S := One (w.heap.size + 1 + 1 + 1)) (Keeps.refl _ _) (fun _ => rfl) _ _).two2) (fun hS0 => ?_)
  clear hK K
  try simp only [Act.put, List.setIfInBounds_toArray, List.set_cons_zero, List.set_cons_succ]
  refine takeD 14 (i := 4) (v := .int .i64 0) rfl rfl (by kernel_rfl) (by kernel_rfl) (by kernel_rfl) (fun _ _ _ h => h) (Or.inl ⟨by rfl, by (intro w' _; go_simp)⟩) (by assumption) ?_
  try simp only [Act.put, List.setIfInBounds_toArray, List.set_cons_zero, List.set_cons_succ]
  refine wpAnyH_done (by kernel_rfl) ?_ _
  go_wp2_with fail
  obtain ⟨x12, x13, xb, xk⟩ := rp_ret (X := MC') (Y := D) (T7.out.go (Below.refl _ W7).drew) S2'.out (by rw [SD.out, SZ.out])
  refine bodyPost_ret (results_cct rfl _ _ _ x12 x13 rfl Tryz.underlying34 rfl IM'.out rfl Tryz.underlying28 rfl ID.out) rfl ⟨MC', L, by (try rw [if_pos rfl]); rw [HD.out]; rfl, xb, ?_⟩
  exact ((HR7.out.kept (Keeps.refl (Two (w.heap.size + 1 + 1) (w.heap.size + 1 + 1 + 1)) W7).drew (fun _ e => .inr (by rcases e with e | e <;> omega))).kept xk (fun _ e => .inr (by rcases e with e | e <;> omega))).more (fun _ _ h => .inl h)
 ·have q0 : (er != 0) = true := bne_iff_ne.2 he
  have HE := Lib.hid he
  clear he
  go_wp2_with (first
   | ((with_reducible show wpList _ _ _ (⟨some 43, _, _, _, _, _⟩ :: _) _ _); refine wpList_loadA rfl T6.out.r6 34 (.tmp 6) rfl (by first | rfl | simp [Act.eval, Act.put]) Tryz.underlying34 rfl IM.out ?_)
   | ((with_reducible show wpList _ _ _ (⟨some 44, _, _, _, _, _⟩ :: _) _ _); refine wpList_build0 rfl 28 rfl (BZ.out _) ?_)
   | ((with_reducible show wpList _ _ _ (⟨none, .store _ (.tmp 12) _, _, _, _, _⟩ :: _) _ _); refine wpList_storeA rfl (b := (w.heap.size + 1 + 1)) (A := zRM) (A' := MC) T6.out.r12 34 (.tmp 12) (.tmp 43) rfl (by simp [Act.eval, Act.put]) (by simp [Act.eval, Act.put]) ssizeRMz (by rw [S2.out]; rfl) OM.out ?_)
   | ((with_reducible show wpList _ _ _ (⟨none, .store _ (.tmp 13) _, _, _, _, _⟩ :: _) _ _); refine wpList_storeA rfl (b := (w.heap.size + 1 + 1 + 1)) (A := Z) (A' := Z) (T6.out.r13.kept (Keeps.store (S := One (w.heap.size + 1 + 1)) (Keeps.refl _ _) (fun _ => rfl) _ _) (fun e => by have e : (w.heap.size + 1 + 1 + 1) = (w.heap.size + 1 + 1) := e; omega)) 28 (.tmp 13) (.tmp 44) rfl (by simp [Act.eval, Act.put]) (by simp [Act.eval, Act.put]) IZ.out (by first | rfl | rw [SZ.out, SZ.out]) OZ.out ?_))
  obtain ⟨x12, x13, xb, -⟩ := rp_ret (X := MC) (Y := Z) T6.out S2.out rfl
  exact bodyPost_ret (results_cct rfl _ _ _ x12 x13 rfl Tryz.underlying34 rfl IM.out rfl Tryz.underlying28 rfl IZ.out) rfl ⟨MC, [], by (try rw [if_neg HE.out]); rw [← HZ.out]; rfl, xb, by rw [HF.out HE.out]; exact HM.out.kept (S := S) (T := fun _ => False) (Keeps.of_below xb) (fun _ e => e.elim)⟩
end Go.Proofs.YtfmabknhfehdcaaGreat
