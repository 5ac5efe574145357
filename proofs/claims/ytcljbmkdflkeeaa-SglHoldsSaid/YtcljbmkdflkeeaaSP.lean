/- sgl: the specification's Parse. -/
import Derived.Test.YtcljbmkdflkeeaaSW
namespace Go.Proofs.Ytcljbmkdflkeeaa
set_option linter.unusedVariables false
set_option linter.unusedSimpArgs false
open Go.RowKit

/-- sixteen bytes in memory -/
def Six (w : World) (g o : Nat) (F : Nat → Int) : Prop := ∀ i, i < 16 → w.cell? ⟨g, o + i, none⟩ = some (.int .u8 (F i))
theorem Six.kept {S : Nat → Prop} {w w' : World} {g o : Nat} {F : Nat → Int} (h : Six w g o F) (k : Keeps S w w') (hg : ¬ S g) : Six w' g o F := fun i hi => k.cell (h i hi) hg
theorem Six.below {w w' : World} {g o : Nat} {F : Nat → Int} (h : Six w g o F) (k : Below w.heap.size w w') : Six w' g o F := h.kept (Keeps.of_below (S := fun _ => False) k) (fun e => e)
theorem Six.lt {w : World} {g o : Nat} {F : Nat → Int} (h : Six w g o F) : g < w.heap.size := World.block_lt_of_cell? _ _ (h 0 (by omega))
def dA (k a n key : Int) : Array Value := #[.int .i64 k, .int .u64 a, .int .i64 n, .int .u32 key]
theorem dA_one (k a n key : Int) : (dA k a n key).all (·.oneCell') = true := Dsc.one ⟨k, a, n, key⟩
theorem dA_size (k a n key : Int) : (Try.prog.info? 26).map (·.size) = some (dA k a n key).size := sizeD
/-- the result and the variable -/
theorem parse_start (w : World) : ∃ W, W = (w.alloc (.cells (dA 0 0 0 0) 26)).alloc (.cells (dA 0 0 0 0) 26) ∧ Below w.heap.size w W ∧ ArrAt W w.heap.size (dA 0 0 0 0) ∧ ArrAt W (w.heap.size + 1) (dA 0 0 0 0) := by
  refine ⟨_, rfl, ((Below.refl _ w).alloc (Nat.le_refl _) _).alloc (by simp) _, (ArrAt.fresh w _ _ (by decide)).alloc _, ?_⟩
  have h := ArrAt.fresh (w.alloc (.cells (dA 0 0 0 0) 26)) (dA 0 0 0 0) 26 (by decide)
  rw [show (w.alloc (.cells (dA 0 0 0 0) 26)).heap.size = w.heap.size + 1 by simp] at h
  exact h
theorem pow256_le3 {k : Nat} (h : k ≤ 3) : (256 : Int) ^ k ≤ 16777216 := by
  have : k = 0 ∨ k = 1 ∨ k = 2 ∨ k = 3 := by omega
  rcases this with rfl | rfl | rfl | rfl <;> decide

set_option maxRecDepth 100000 in
set_option maxHeartbeats 4000000 in
theorem parse_e1 (F : Nat → Int) (g o c : Nat) (k : Int) (w : World) (HF : Hid (Bytes F)) (h6 : Six w g o F) (hk : F 15 / 16 = k) (q1 : decide (5 < k + 1) = true) :
    Calls Try.prog 37 #[.slice (some ⟨g, o, none⟩) 16 c] w fun e w' => e = .returned (.tuple #[.agg (dA 0 0 0 0), .int .i64 160]) ∧ Below w.heap.size w w' := by
  obtain ⟨W, hW, hbW, ha, hb4⟩ := parse_start w
  have HW := Lib.hid hW
  have HBW := Lib.hid hbW
  have AR := Lib.hid ha
  have AV := Lib.hid hb4
  have S0 := Lib.hid (h6.below hbW)
  have hgw := h6.lt
  clear hW hbW ha hb4 h6
  go_enter Try.func37, Try.ntmps37
  go_upto_region 2 with (first
    | ((with_reducible show wpList _ _ _ (⟨some 2, _, _, _, _, _⟩ :: _) _ _); refine wpList_alloc rfl 26 rfl zeroD ?_; rw [show (Value.agg zDsc.cells).cells = dA 0 0 0 0 from rfl])
    | ((with_reducible show wpList _ _ _ (⟨some 4, _, _, _, _, _⟩ :: _) _ _); refine wpList_alloc rfl 26 rfl zeroD ?_; rw [show (Value.agg zDsc.cells).cells = dA 0 0 0 0 from rfl]))
  rw [show (w.alloc (.cells (dA 0 0 0 0) 26)).alloc (.cells (dA 0 0 0 0) 26) = W from HW.out.symm]
  try simp only [World.alloc, Array.size_push]
  clear HW
  obtain ⟨v, hv⟩ : ∃ v, v = w.heap.size + 1 := ⟨_, rfl⟩
  obtain ⟨r, hr⟩ : ∃ r, r = w.heap.size := ⟨_, rfl⟩
  rw [← hv] at AV ⊢
  rw [← hr] at AR HBW hgw ⊢
  have hrv : r < v := by omega
  have hB : Below r w W := HBW.out
  clear hB
  have HRW := Lib.hid hr
  clear hv hr
  have b12 := S0.out 12 (by omega)
  have b13 := S0.out 13 (by omega)
  have b14 := S0.out 14 (by omega)
  have b15 := S0.out 15 (by omega)
  obtain ⟨v12, hv12⟩ : ∃ z, z = F 12 := ⟨_, rfl⟩
  obtain ⟨v13, hv13⟩ : ∃ z, z = F 13 := ⟨_, rfl⟩
  obtain ⟨v14, hv14⟩ : ∃ z, z = F 14 := ⟨_, rfl⟩
  obtain ⟨v15, hv15⟩ : ∃ z, z = F 15 := ⟨_, rfl⟩
  have lo15 : 0 ≤ v15 := by rw [hv15]; exact (HF.out 15).1
  have hi15 : v15 ≤ 255 := by rw [hv15]; exact (HF.out 15).2
  rw [← hv15] at b15 hk
  rw [← hv12] at b12
  rw [← hv13] at b13
  rw [← hv14] at b14
  clear hv12 hv13 hv14 hv15
  go_wp2_with (first
    | ((with_reducible show wpList _ _ _ (⟨some 47, _, _, _, _, _⟩ :: _) _ _); refine wpList_loadA rfl AV.out 26 (.tmp 4) rfl (by first | rfl | simp [Act.eval, Act.put]) Try.underlying26 rfl (dA_size _ _ _ _) ?_)
    | ((with_reducible show wpList _ _ _ (⟨none, .store _ (.tmp 2) _, _, _, _, _⟩ :: _) _ _); refine wpList_storeA rfl (b := r) (A := dA 0 0 0 0) (A' := dA 0 0 0 0) AR.out 26 (.tmp 2) (.tmp 47) rfl (by simp [Act.eval, Act.put]) (by simp [Act.eval, Act.put]) (dA_size _ _ _ _) rfl (dA_one _ _ _ _) ?_))
  rw [← HRW.out]
  exact bodyPost_ret (results_ct rfl _ _ _ (AR.out.store (dA 0 0 0 0) rfl) rfl Try.underlying26 rfl (dA_size _ _ _ _)) rfl ⟨rfl, bstore HBW.out _ (by omega) _ _⟩

set_option maxRecDepth 100000 in
set_option maxHeartbeats 4000000 in
theorem parse_e2 (F : Nat → Int) (g o c : Nat) (k : Int) (w : World) (HF : Hid (Bytes F)) (h6 : Six w g o F) (hk : F 15 / 16 = k) (q1 : decide (5 < k + 1) = false) (q2 : (F 15 % 16 != 0) = true) :
    Calls Try.prog 37 #[.slice (some ⟨g, o, none⟩) 16 c] w fun e w' => e = .returned (.tuple #[.agg (dA 0 0 0 0), .int .i64 160]) ∧ Below w.heap.size w w' := by
  obtain ⟨W, hW, hbW, ha, hb4⟩ := parse_start w
  have HW := Lib.hid hW
  have HBW := Lib.hid hbW
  have AR := Lib.hid ha
  have AV := Lib.hid hb4
  have S0 := Lib.hid (h6.below hbW)
  have hgw := h6.lt
  clear hW hbW ha hb4 h6
  go_enter Try.func37, Try.ntmps37
  go_upto_region 2 with (first
    | ((with_reducible show wpList _ _ _ (⟨some 2, _, _, _, _, _⟩ :: _) _ _); refine wpList_alloc rfl 26 rfl zeroD ?_; rw [show (Value.agg zDsc.cells).cells = dA 0 0 0 0 from rfl])
    | ((with_reducible show wpList _ _ _ (⟨some 4, _, _, _, _, _⟩ :: _) _ _); refine wpList_alloc rfl 26 rfl zeroD ?_; rw [show (Value.agg zDsc.cells).cells = dA 0 0 0 0 from rfl]))
  rw [show (w.alloc (.cells (dA 0 0 0 0) 26)).alloc (.cells (dA 0 0 0 0) 26) = W from HW.out.symm]
  try simp only [World.alloc, Array.size_push]
  clear HW
  obtain ⟨v, hv⟩ : ∃ v, v = w.heap.size + 1 := ⟨_, rfl⟩
  obtain ⟨r, hr⟩ : ∃ r, r = w.heap.size := ⟨_, rfl⟩
  rw [← hv] at AV ⊢
  rw [← hr] at AR HBW hgw ⊢
  have hrv : r < v := by omega
  have hB : Below r w W := HBW.out
  clear hB
  have HRW := Lib.hid hr
  clear hv hr
  have b12 := S0.out 12 (by omega)
  have b13 := S0.out 13 (by omega)
  have b14 := S0.out 14 (by omega)
  have b15 := S0.out 15 (by omega)
  obtain ⟨v12, hv12⟩ : ∃ z, z = F 12 := ⟨_, rfl⟩
  obtain ⟨v13, hv13⟩ : ∃ z, z = F 13 := ⟨_, rfl⟩
  obtain ⟨v14, hv14⟩ : ∃ z, z = F 14 := ⟨_, rfl⟩
  obtain ⟨v15, hv15⟩ : ∃ z, z = F 15 := ⟨_, rfl⟩
  have lo15 : 0 ≤ v15 := by rw [hv15]; exact (HF.out 15).1
  have hi15 : v15 ≤ 255 := by rw [hv15]; exact (HF.out 15).2
  rw [← hv15] at b15 hk
  rw [← hv12] at b12
  rw [← hv13] at b13
  rw [← hv14] at b14
  rw [← hv15] at q2
  clear hv12 hv13 hv14 hv15
  go_wp2_with (first
    | ((with_reducible show wpList _ _ _ (⟨some 47, _, _, _, _, _⟩ :: _) _ _); refine wpList_loadA rfl AV.out 26 (.tmp 4) rfl (by first | rfl | simp [Act.eval, Act.put]) Try.underlying26 rfl (dA_size _ _ _ _) ?_)
    | ((with_reducible show wpList _ _ _ (⟨none, .store _ (.tmp 2) _, _, _, _, _⟩ :: _) _ _); refine wpList_storeA rfl (b := r) (A := dA 0 0 0 0) (A' := dA 0 0 0 0) AR.out 26 (.tmp 2) (.tmp 47) rfl (by simp [Act.eval, Act.put]) (by simp [Act.eval, Act.put]) (dA_size _ _ _ _) rfl (dA_one _ _ _ _) ?_))
  rw [← HRW.out]
  exact bodyPost_ret (results_ct rfl _ _ _ (AR.out.store (dA 0 0 0 0) rfl) rfl Try.underlying26 rfl (dA_size _ _ _ _)) rfl ⟨rfl, bstore HBW.out _ (by omega) _ _⟩

set_option maxRecDepth 100000 in
set_option maxHeartbeats 4000000 in
theorem parse_e3 (F : Nat → Int) (g o c : Nat) (k : Int) (w : World) (HF : Hid (Bytes F)) (h6 : Six w g o F) (hk : F 15 / 16 = k) (q1 : decide (5 < k + 1) = false) (q2 : (F 15 % 16 != 0) = false) (q3 : decide (k + 1 < 5) = true) (q4 : (F 12 != 0) = true) :
    Calls Try.prog 37 #[.slice (some ⟨g, o, none⟩) 16 c] w fun e w' => e = .returned (.tuple #[.agg (dA 0 0 0 0), .int .i64 160]) ∧ Below w.heap.size w w' := by
  obtain ⟨W, hW, hbW, ha, hb4⟩ := parse_start w
  have HW := Lib.hid hW
  have HBW := Lib.hid hbW
  have AR := Lib.hid ha
  have AV := Lib.hid hb4
  have S0 := Lib.hid (h6.below hbW)
  have hgw := h6.lt
  clear hW hbW ha hb4 h6
  go_enter Try.func37, Try.ntmps37
  go_upto_region 2 with (first
    | ((with_reducible show wpList _ _ _ (⟨some 2, _, _, _, _, _⟩ :: _) _ _); refine wpList_alloc rfl 26 rfl zeroD ?_; rw [show (Value.agg zDsc.cells).cells = dA 0 0 0 0 from rfl])
    | ((with_reducible show wpList _ _ _ (⟨some 4, _, _, _, _, _⟩ :: _) _ _); refine wpList_alloc rfl 26 rfl zeroD ?_; rw [show (Value.agg zDsc.cells).cells = dA 0 0 0 0 from rfl]))
  rw [show (w.alloc (.cells (dA 0 0 0 0) 26)).alloc (.cells (dA 0 0 0 0) 26) = W from HW.out.symm]
  try simp only [World.alloc, Array.size_push]
  clear HW
  obtain ⟨v, hv⟩ : ∃ v, v = w.heap.size + 1 := ⟨_, rfl⟩
  obtain ⟨r, hr⟩ : ∃ r, r = w.heap.size := ⟨_, rfl⟩
  rw [← hv] at AV ⊢
  rw [← hr] at AR HBW hgw ⊢
  have hrv : r < v := by omega
  have hB : Below r w W := HBW.out
  clear hB
  have HRW := Lib.hid hr
  clear hv hr
  have b12 := S0.out 12 (by omega)
  have b13 := S0.out 13 (by omega)
  have b14 := S0.out 14 (by omega)
  have b15 := S0.out 15 (by omega)
  obtain ⟨v12, hv12⟩ : ∃ z, z = F 12 := ⟨_, rfl⟩
  obtain ⟨v13, hv13⟩ : ∃ z, z = F 13 := ⟨_, rfl⟩
  obtain ⟨v14, hv14⟩ : ∃ z, z = F 14 := ⟨_, rfl⟩
  obtain ⟨v15, hv15⟩ : ∃ z, z = F 15 := ⟨_, rfl⟩
  have lo15 : 0 ≤ v15 := by rw [hv15]; exact (HF.out 15).1
  have hi15 : v15 ≤ 255 := by rw [hv15]; exact (HF.out 15).2
  rw [← hv15] at b15 hk
  rw [← hv12] at b12
  rw [← hv13] at b13
  rw [← hv14] at b14
  rw [← hv15] at q2
  rw [← hv12] at q4
  clear hv12 hv13 hv14 hv15
  go_wp2_with (first
    | ((with_reducible show wpList _ _ _ (⟨some 47, _, _, _, _, _⟩ :: _) _ _); refine wpList_loadA rfl AV.out 26 (.tmp 4) rfl (by first | rfl | simp [Act.eval, Act.put]) Try.underlying26 rfl (dA_size _ _ _ _) ?_)
    | ((with_reducible show wpList _ _ _ (⟨none, .store _ (.tmp 2) _, _, _, _, _⟩ :: _) _ _); refine wpList_storeA rfl (b := r) (A := dA 0 0 0 0) (A' := dA 0 0 0 0) AR.out 26 (.tmp 2) (.tmp 47) rfl (by simp [Act.eval, Act.put]) (by simp [Act.eval, Act.put]) (dA_size _ _ _ _) rfl (dA_one _ _ _ _) ?_))
  rw [← HRW.out]
  exact bodyPost_ret (results_ct rfl _ _ _ (AR.out.store (dA 0 0 0 0) rfl) rfl Try.underlying26 rfl (dA_size _ _ _ _)) rfl ⟨rfl, bstore HBW.out _ (by omega) _ _⟩

set_option maxRecDepth 100000 in
set_option maxHeartbeats 4000000 in
theorem parse_e4 (F : Nat → Int) (g o c : Nat) (k : Int) (w : World) (HF : Hid (Bytes F)) (h6 : Six w g o F) (hk : F 15 / 16 = k) (q1 : decide (5 < k + 1) = false) (q2 : (F 15 % 16 != 0) = false) (q3 : decide (k + 1 < 5) = true) (q4 : (F 12 != 0) = false) (q5 : (F 13 != 0) = true) :
    Calls Try.prog 37 #[.slice (some ⟨g, o, none⟩) 16 c] w fun e w' => e = .returned (.tuple #[.agg (dA 0 0 0 0), .int .i64 160]) ∧ Below w.heap.size w w' := by
  obtain ⟨W, hW, hbW, ha, hb4⟩ := parse_start w
  have HW := Lib.hid hW
  have HBW := Lib.hid hbW
  have AR := Lib.hid ha
  have AV := Lib.hid hb4
  have S0 := Lib.hid (h6.below hbW)
  have hgw := h6.lt
  clear hW hbW ha hb4 h6
  go_enter Try.func37, Try.ntmps37
  go_upto_region 2 with (first
    | ((with_reducible show wpList _ _ _ (⟨some 2, _, _, _, _, _⟩ :: _) _ _); refine wpList_alloc rfl 26 rfl zeroD ?_; rw [show (Value.agg zDsc.cells).cells = dA 0 0 0 0 from rfl])
    | ((with_reducible show wpList _ _ _ (⟨some 4, _, _, _, _, _⟩ :: _) _ _); refine wpList_alloc rfl 26 rfl zeroD ?_; rw [show (Value.agg zDsc.cells).cells = dA 0 0 0 0 from rfl]))
  rw [show (w.alloc (.cells (dA 0 0 0 0) 26)).alloc (.cells (dA 0 0 0 0) 26) = W from HW.out.symm]
  try simp only [World.alloc, Array.size_push]
  clear HW
  obtain ⟨v, hv⟩ : ∃ v, v = w.heap.size + 1 := ⟨_, rfl⟩
  obtain ⟨r, hr⟩ : ∃ r, r = w.heap.size := ⟨_, rfl⟩
  rw [← hv] at AV ⊢
  rw [← hr] at AR HBW hgw ⊢
  have hrv : r < v := by omega
  have hB : Below r w W := HBW.out
  clear hB
  have HRW := Lib.hid hr
  clear hv hr
  have b12 := S0.out 12 (by omega)
  have b13 := S0.out 13 (by omega)
  have b14 := S0.out 14 (by omega)
  have b15 := S0.out 15 (by omega)
  obtain ⟨v12, hv12⟩ : ∃ z, z = F 12 := ⟨_, rfl⟩
  obtain ⟨v13, hv13⟩ : ∃ z, z = F 13 := ⟨_, rfl⟩
  obtain ⟨v14, hv14⟩ : ∃ z, z = F 14 := ⟨_, rfl⟩
  obtain ⟨v15, hv15⟩ : ∃ z, z = F 15 := ⟨_, rfl⟩
  have lo15 : 0 ≤ v15 := by rw [hv15]; exact (HF.out 15).1
  have hi15 : v15 ≤ 255 := by rw [hv15]; exact (HF.out 15).2
  rw [← hv15] at b15 hk
  rw [← hv12] at b12
  rw [← hv13] at b13
  rw [← hv14] at b14
  rw [← hv15] at q2
  rw [← hv12] at q4
  rw [← hv13] at q5
  clear hv12 hv13 hv14 hv15
  go_wp2_with (first
    | ((with_reducible show wpList _ _ _ (⟨some 47, _, _, _, _, _⟩ :: _) _ _); refine wpList_loadA rfl AV.out 26 (.tmp 4) rfl (by first | rfl | simp [Act.eval, Act.put]) Try.underlying26 rfl (dA_size _ _ _ _) ?_)
    | ((with_reducible show wpList _ _ _ (⟨none, .store _ (.tmp 2) _, _, _, _, _⟩ :: _) _ _); refine wpList_storeA rfl (b := r) (A := dA 0 0 0 0) (A' := dA 0 0 0 0) AR.out 26 (.tmp 2) (.tmp 47) rfl (by simp [Act.eval, Act.put]) (by simp [Act.eval, Act.put]) (dA_size _ _ _ _) rfl (dA_one _ _ _ _) ?_))
  rw [← HRW.out]
  exact bodyPost_ret (results_ct rfl _ _ _ (AR.out.store (dA 0 0 0 0) rfl) rfl Try.underlying26 rfl (dA_size _ _ _ _)) rfl ⟨rfl, bstore HBW.out _ (by omega) _ _⟩

set_option maxRecDepth 100000 in
set_option maxHeartbeats 4000000 in
theorem parse_e5 (F : Nat → Int) (g o c : Nat) (k : Int) (w : World) (HF : Hid (Bytes F)) (h6 : Six w g o F) (hk : F 15 / 16 = k) (q1 : decide (5 < k + 1) = false) (q2 : (F 15 % 16 != 0) = false) (q3 : decide (k + 1 < 5) = true) (q4 : (F 12 != 0) = false) (q5 : (F 13 != 0) = false) (q6 : (F 14 != 0) = true) :
    Calls Try.prog 37 #[.slice (some ⟨g, o, none⟩) 16 c] w fun e w' => e = .returned (.tuple #[.agg (dA 0 0 0 0), .int .i64 160]) ∧ Below w.heap.size w w' := by
  obtain ⟨W, hW, hbW, ha, hb4⟩ := parse_start w
  have HW := Lib.hid hW
  have HBW := Lib.hid hbW
  have AR := Lib.hid ha
  have AV := Lib.hid hb4
  have S0 := Lib.hid (h6.below hbW)
  have hgw := h6.lt
  clear hW hbW ha hb4 h6
  go_enter Try.func37, Try.ntmps37
  go_upto_region 2 with (first
    | ((with_reducible show wpList _ _ _ (⟨some 2, _, _, _, _, _⟩ :: _) _ _); refine wpList_alloc rfl 26 rfl zeroD ?_; rw [show (Value.agg zDsc.cells).cells = dA 0 0 0 0 from rfl])
    | ((with_reducible show wpList _ _ _ (⟨some 4, _, _, _, _, _⟩ :: _) _ _); refine wpList_alloc rfl 26 rfl zeroD ?_; rw [show (Value.agg zDsc.cells).cells = dA 0 0 0 0 from rfl]))
  rw [show (w.alloc (.cells (dA 0 0 0 0) 26)).alloc (.cells (dA 0 0 0 0) 26) = W from HW.out.symm]
  try simp only [World.alloc, Array.size_push]
  clear HW
  obtain ⟨v, hv⟩ : ∃ v, v = w.heap.size + 1 := ⟨_, rfl⟩
  obtain ⟨r, hr⟩ : ∃ r, r = w.heap.size := ⟨_, rfl⟩
  rw [← hv] at AV ⊢
  rw [← hr] at AR HBW hgw ⊢
  have hrv : r < v := by omega
  have hB : Below r w W := HBW.out
  clear hB
  have HRW := Lib.hid hr
  clear hv hr
  have b12 := S0.out 12 (by omega)
  have b13 := S0.out 13 (by omega)
  have b14 := S0.out 14 (by omega)
  have b15 := S0.out 15 (by omega)
  obtain ⟨v12, hv12⟩ : ∃ z, z = F 12 := ⟨_, rfl⟩
  obtain ⟨v13, hv13⟩ : ∃ z, z = F 13 := ⟨_, rfl⟩
  obtain ⟨v14, hv14⟩ : ∃ z, z = F 14 := ⟨_, rfl⟩
  obtain ⟨v15, hv15⟩ : ∃ z, z = F 15 := ⟨_, rfl⟩
  have lo15 : 0 ≤ v15 := by rw [hv15]; exact (HF.out 15).1
  have hi15 : v15 ≤ 255 := by rw [hv15]; exact (HF.out 15).2
  rw [← hv15] at b15 hk
  rw [← hv12] at b12
  rw [← hv13] at b13
  rw [← hv14] at b14
  rw [← hv15] at q2
  rw [← hv12] at q4
  rw [← hv13] at q5
  rw [← hv14] at q6
  clear hv12 hv13 hv14 hv15
  go_wp2_with (first
    | ((with_reducible show wpList _ _ _ (⟨some 47, _, _, _, _, _⟩ :: _) _ _); refine wpList_loadA rfl AV.out 26 (.tmp 4) rfl (by first | rfl | simp [Act.eval, Act.put]) Try.underlying26 rfl (dA_size _ _ _ _) ?_)
    | ((with_reducible show wpList _ _ _ (⟨none, .store _ (.tmp 2) _, _, _, _, _⟩ :: _) _ _); refine wpList_storeA rfl (b := r) (A := dA 0 0 0 0) (A' := dA 0 0 0 0) AR.out 26 (.tmp 2) (.tmp 47) rfl (by simp [Act.eval, Act.put]) (by simp [Act.eval, Act.put]) (dA_size _ _ _ _) rfl (dA_one _ _ _ _) ?_))
  rw [← HRW.out]
  exact bodyPost_ret (results_ct rfl _ _ _ (AR.out.store (dA 0 0 0 0) rfl) rfl Try.underlying26 rfl (dA_size _ _ _ _)) rfl ⟨rfl, bstore HBW.out _ (by omega) _ _⟩

set_option maxRecDepth 100000 in
set_option maxHeartbeats 4000000 in
theorem parse_k5 (F : Nat → Int) (g o c : Nat) (k : Int) (w : World) (HF : Hid (Bytes F)) (h6 : Six w g o F) (hk : F 15 / 16 = k) (q1 : decide (5 < k + 1) = false) (q2 : (F 15 % 16 != 0) = false) (q3 : decide (k + 1 < 5) = false) (q7 : (k + 1 == 5) = true) :
    Calls Try.prog 37 #[.slice (some ⟨g, o, none⟩) 16 c] w fun e w' => e = .returned (.tuple #[.agg (dA (k + 1) (hz F 7 8) (hz F 10 3) (hz F 14 4)), .int .i64 0]) ∧ Below w.heap.size w w' := by
  obtain ⟨W, hW, hbW, ha, hb4⟩ := parse_start w
  have HW := Lib.hid hW
  have HBW := Lib.hid hbW
  have AR := Lib.hid ha
  have AV := Lib.hid hb4
  have S0 := Lib.hid (h6.below hbW)
  have hgw := h6.lt
  clear hW hbW ha hb4 h6
  go_enter Try.func37, Try.ntmps37
  go_upto_region 2 with (first
    | ((with_reducible show wpList _ _ _ (⟨some 2, _, _, _, _, _⟩ :: _) _ _); refine wpList_alloc rfl 26 rfl zeroD ?_; rw [show (Value.agg zDsc.cells).cells = dA 0 0 0 0 from rfl])
    | ((with_reducible show wpList _ _ _ (⟨some 4, _, _, _, _, _⟩ :: _) _ _); refine wpList_alloc rfl 26 rfl zeroD ?_; rw [show (Value.agg zDsc.cells).cells = dA 0 0 0 0 from rfl]))
  rw [show (w.alloc (.cells (dA 0 0 0 0) 26)).alloc (.cells (dA 0 0 0 0) 26) = W from HW.out.symm]
  try simp only [World.alloc, Array.size_push]
  clear HW
  obtain ⟨v, hv⟩ : ∃ v, v = w.heap.size + 1 := ⟨_, rfl⟩
  obtain ⟨r, hr⟩ : ∃ r, r = w.heap.size := ⟨_, rfl⟩
  rw [← hv] at AV ⊢
  rw [← hr] at AR HBW hgw ⊢
  have hrv : r < v := by omega
  have hB : Below r w W := HBW.out
  clear hB
  have HRW := Lib.hid hr
  clear hv hr
  have b12 := S0.out 12 (by omega)
  have b13 := S0.out 13 (by omega)
  have b14 := S0.out 14 (by omega)
  have b15 := S0.out 15 (by omega)
  obtain ⟨v12, hv12⟩ : ∃ z, z = F 12 := ⟨_, rfl⟩
  obtain ⟨v13, hv13⟩ : ∃ z, z = F 13 := ⟨_, rfl⟩
  obtain ⟨v14, hv14⟩ : ∃ z, z = F 14 := ⟨_, rfl⟩
  obtain ⟨v15, hv15⟩ : ∃ z, z = F 15 := ⟨_, rfl⟩
  have lo15 : 0 ≤ v15 := by rw [hv15]; exact (HF.out 15).1
  have hi15 : v15 ≤ 255 := by rw [hv15]; exact (HF.out 15).2
  rw [← hv15] at b15 hk
  rw [← hv12] at b12
  rw [← hv13] at b13
  rw [← hv14] at b14
  rw [← hv15] at q2
  clear hv12 hv13 hv14 hv15
  have c0 : W.cell? ⟨v, 0, none⟩ = some (.int .i64 0) := AV.out.cell rfl
  have f0 : W.frozen? ⟨v, 0, none⟩ = false := AV.out.frozen (show 0 < 4 by omega)
  go_wp2_with fail
  have HK0 := Lib.hid ((Keeps.refl (One v) W).set1 0 (.int .i64 (k + 1)))
  have HA0 := Lib.hid (show ArrAt (W.setCell ⟨v, 0, none⟩ (.int .i64 (k + 1))) v (dA (k + 1) 0 0 0) from AV.out.set 0 (.int .i64 (k + 1)) (show 0 < 4 by omega))
  clear c0 f0
  go_loopw [6] (fun i wr => ∃ j : Nat, j ≤ 8 ∧ i = .int .i64 (7 - (j : Int)) ∧ Keeps (One v) W wr ∧ ArrAt wr v (dA (k + 1) (hz F 7 j) 0 0)) (fun i _ => (intOf i + 1 - 0).toNat)
  case atStart => exact ⟨0, by omega, by simp, HK0.out, HA0.out⟩
  case round =>
    obtain ⟨j, hj, rfl, hkp, ha⟩ := hrel
    try clear HK HA
    have HK := Lib.hid hkp
    have HA := Lib.hid ha
    have S1 := Lib.hid (S0.out.kept hkp (fun e => by have e : g = v := e; omega))
    clear hkp ha
    by_cases hlt : j < 8
    · obtain ⟨m, hm⟩ : ∃ m : Nat, 7 - (j : Int) = (m : Int) := ⟨7 - j, by omega⟩
      rw [hm]
      have hm2 : m = 7 - j := by omega
      have m0 : (0 : Int) ≤ (m : Int) := by omega
      have m1 : (m : Int) < 16 := by omega
      have m3 : decide ((0 : Int) ≤ (m : Int)) = true := by simp
      have x0 := S1.out m (by omega)
      obtain ⟨p1, p2⟩ := hz_bd HF.out 7 j
      have p3 := pow256_le (k := j) (by omega)
      obtain ⟨u1, u2⟩ := HF.out m
      have ea : hz F 7 (j + 1) = hz F 7 j * 256 + F m := by show _ * 256 + F (7 - j) = _; rw [← hm2]
      obtain ⟨a, haa⟩ : ∃ a, a = hz F 7 j := ⟨_, rfl⟩
      obtain ⟨u, hu⟩ : ∃ u, u = F m := ⟨_, rfl⟩
      rw [← haa] at p1 p2 ea HA
      rw [← hu] at x0 u1 u2 ea
      have p4 : a ≤ 72057594037927935 := by omega
      have EA := Lib.hid ea
      have HM := Lib.hid hm
      have c0 : wr.cell? ⟨v, 1, none⟩ = some (.int .u64 a) := HA.out.cell rfl
      have f0 : wr.frozen? ⟨v, 1, none⟩ = false := HA.out.frozen (show 1 < 4 by omega)
      clear ea haa hu p2 p3 hm hm2
      go_wp2_with fail
      go_region
      go_wp2_with fail
      go_roundw
      case rel =>
        refine ⟨j + 1, by omega, by have := HM.out; congr 1; push_cast; omega, (HK.out.set1 _ _).drew, ?_⟩
        rw [EA.out]
        exact (HA.out.set 1 (.int .u64 (a * 256 + u)) (show 1 < 4 by omega)).drew
      case measure => first | (simp [intOf]; done) | (have := HM.out; simp [intOf]; omega)
    · obtain rfl : j = 8 := by omega
      have e9 : (7 - ((8 : Nat) : Int)) = -1 := rfl
      rw [e9]
      clear hlt hj
      go_wp2_with fail
      go_loopw [8] (fun i wr => ∃ j : Nat, j ≤ 4 ∧ i = .int .i64 (14 - (j : Int)) ∧ Keeps (One v) W wr ∧ ArrAt wr v (dA (k + 1) (hz F 7 8) 0 (hz F 14 j))) (fun i _ => (intOf i + 1 - 11).toNat)
      case atStart => exact ⟨0, by omega, by simp, HK.out, HA.out⟩
      case round =>
        obtain ⟨j, hj, rfl, hkp, ha⟩ := hrel
        try clear HK HA
        have HK := Lib.hid hkp
        have HA := Lib.hid ha
        have S1 := Lib.hid (S0.out.kept hkp (fun e => by have e : g = v := e; omega))
        clear hkp ha
        by_cases hlt : j < 4
        · obtain ⟨m, hm⟩ : ∃ m : Nat, 14 - (j : Int) = (m : Int) := ⟨14 - j, by omega⟩
          rw [hm]
          have hm2 : m = 14 - j := by omega
          have m0 : (0 : Int) ≤ (m : Int) := by omega
          have m1 : (m : Int) < 16 := by omega
          have m3 : decide ((11 : Int) ≤ (m : Int)) = true := by simp; omega
          have x0 := S1.out m (by omega)
          obtain ⟨p1, p2⟩ := hz_bd HF.out 14 j
          have p3 := pow256_le3 (k := j) (by omega)
          obtain ⟨u1, u2⟩ := HF.out m
          have ea : hz F 14 (j + 1) = hz F 14 j * 256 + F m := by show _ * 256 + F (14 - j) = _; rw [← hm2]
          obtain ⟨a, haa⟩ : ∃ a, a = hz F 14 j := ⟨_, rfl⟩
          obtain ⟨u, hu⟩ : ∃ u, u = F m := ⟨_, rfl⟩
          rw [← haa] at p1 p2 ea HA
          rw [← hu] at x0 u1 u2 ea
          have p4 : a ≤ 16777215 := by omega
          have EA := Lib.hid ea
          have HM := Lib.hid hm
          have c0 : wr.cell? ⟨v, 3, none⟩ = some (.int .u32 a) := HA.out.cell rfl
          have f0 : wr.frozen? ⟨v, 3, none⟩ = false := HA.out.frozen (show 3 < 4 by omega)
          clear ea haa hu p2 p3 hm hm2
          go_wp2_with fail
          go_region
          go_wp2_with fail
          go_roundw
          case rel =>
            refine ⟨j + 1, by omega, by have := HM.out; congr 1; push_cast; omega, (HK.out.set1 _ _).drew, ?_⟩
            rw [EA.out]
            exact (HA.out.set 3 (.int .u32 (a * 256 + u)) (show 3 < 4 by omega)).drew
          case measure => first | (simp [intOf]; done) | (have := HM.out; simp [intOf]; omega)
        · obtain rfl : j = 4 := by omega
          have e9 : (14 - ((4 : Nat) : Int)) = 10 := rfl
          rw [e9]
          clear hlt hj
          go_wp2_with fail
          go_loopw [9] (fun i wr => ∃ j : Nat, j ≤ 3 ∧ i = .int .i64 (10 - (j : Int)) ∧ Keeps (One v) W wr ∧ ArrAt wr v (dA (k + 1) (hz F 7 8) (hz F 10 j) (hz F 14 4))) (fun i _ => (intOf i + 1 - 8).toNat)
          case atStart => exact ⟨0, by omega, by simp, HK.out, HA.out⟩
          case round =>
            obtain ⟨j, hj, rfl, hkp, ha⟩ := hrel
            try clear HK HA
            have HK := Lib.hid hkp
            have HA := Lib.hid ha
            have S1 := Lib.hid (S0.out.kept hkp (fun e => by have e : g = v := e; omega))
            clear hkp ha
            by_cases hlt : j < 3
            · obtain ⟨m, hm⟩ : ∃ m : Nat, 10 - (j : Int) = (m : Int) := ⟨10 - j, by omega⟩
              rw [hm]
              have hm2 : m = 10 - j := by omega
              have m0 : (0 : Int) ≤ (m : Int) := by omega
              have m1 : (m : Int) < 16 := by omega
              have m3 : decide ((8 : Int) ≤ (m : Int)) = true := by simp; omega
              have x0 := S1.out m (by omega)
              obtain ⟨p1, p2⟩ := hz_bd HF.out 10 j
              have p3 := pow256_le3 (k := j) (by omega)
              obtain ⟨u1, u2⟩ := HF.out m
              have ea : hz F 10 (j + 1) = hz F 10 j * 256 + F m := by show _ * 256 + F (10 - j) = _; rw [← hm2]
              obtain ⟨a, haa⟩ : ∃ a, a = hz F 10 j := ⟨_, rfl⟩
              obtain ⟨u, hu⟩ : ∃ u, u = F m := ⟨_, rfl⟩
              rw [← haa] at p1 p2 ea HA
              rw [← hu] at x0 u1 u2 ea
              have p4 : a ≤ 16777215 := by omega
              have EA := Lib.hid ea
              have HM := Lib.hid hm
              have c0 : wr.cell? ⟨v, 2, none⟩ = some (.int .i64 a) := HA.out.cell rfl
              have f0 : wr.frozen? ⟨v, 2, none⟩ = false := HA.out.frozen (show 2 < 4 by omega)
              clear ea haa hu p2 p3 hm hm2
              go_wp2_with fail
              go_region
              go_wp2_with fail
              go_roundw
              case rel =>
                refine ⟨j + 1, by omega, by have := HM.out; congr 1; push_cast; omega, (HK.out.set1 _ _).drew, ?_⟩
                rw [EA.out]
                exact (HA.out.set 2 (.int .i64 (a * 256 + u)) (show 2 < 4 by omega)).drew
              case measure => first | (simp [intOf]; done) | (have := HM.out; simp [intOf]; omega)
            · obtain rfl : j = 3 := by omega
              have e9 : (10 - ((3 : Nat) : Int)) = 7 := rfl
              rw [e9]
              clear hlt hj
              have A9 := Lib.hid (AR.out.kept HK.out (fun e => by have e : r = v := e; omega))
              have B9 := Lib.hid (HBW.out.trans (HK.out.below (B := r) (by have := HBW.out.size; have := HRW.out; omega) (fun j hj e => by have e : j = v := e; omega)))
              obtain ⟨x0, hx0⟩ : ∃ z, z = hz F 7 8 := ⟨_, rfl⟩
              rw [← hx0] at HA
              obtain ⟨x1, hx1⟩ : ∃ z, z = hz F 10 3 := ⟨_, rfl⟩
              rw [← hx1] at HA
              obtain ⟨x2, hx2⟩ : ∃ z : Int, z = hz F 14 4 := ⟨_, rfl⟩
              rw [← hx2] at HA
              have HX0 := Lib.hid hx0
              have HX1 := Lib.hid hx1
              have HX2 := Lib.hid hx2
              clear hx0 hx1 hx2
              go_wp2_with (first
                | ((with_reducible show wpList _ _ _ (⟨some 95, _, _, _, _, _⟩ :: _) _ _); refine wpList_loadA rfl HA.out 26 (.tmp 4) rfl (by first | rfl | simp [Act.eval, Act.put]) Try.underlying26 rfl (dA_size _ _ _ _) ?_)
                | ((with_reducible show wpList _ _ _ (⟨none, .store _ (.tmp 2) _, _, _, _, _⟩ :: _) _ _); refine wpList_storeA rfl (b := r) (A := dA 0 0 0 0) (A' := dA (k + 1) x0 x1 x2) A9.out 26 (.tmp 2) (.tmp 95) rfl (by simp [Act.eval, Act.put]) (by simp [Act.eval, Act.put]) (dA_size _ _ _ _) rfl (dA_one _ _ _ _) ?_))
              have A10 := Lib.hid (A9.out.store (dA (k + 1) x0 x1 x2) rfl)
              have B10 := Lib.hid (bstore B9.out r (Nat.le_refl _) (dA (k + 1) x0 x1 x2).toList 0)
              rw [HRW.out] at B10
              refine bodyPost_ret (results_ct rfl _ _ _ A10.out rfl Try.underlying26 rfl (dA_size _ _ _ _)) rfl ⟨?_, by have := HRW.out; subst this; exact B10.out⟩
              rw [HX0.out, HX1.out, HX2.out]
              rfl

set_option maxRecDepth 100000 in
set_option maxHeartbeats 4000000 in
theorem parse_kn (F : Nat → Int) (g o c : Nat) (k : Int) (w : World) (HF : Hid (Bytes F)) (h6 : Six w g o F) (hk : F 15 / 16 = k) (q1 : decide (5 < k + 1) = false) (q2 : (F 15 % 16 != 0) = false) (q3 : decide (k + 1 < 5) = true) (q4 : (F 12 != 0) = false) (q5 : (F 13 != 0) = false) (q6 : (F 14 != 0) = false) (q7 : (k + 1 == 5) = false) :
    Calls Try.prog 37 #[.slice (some ⟨g, o, none⟩) 16 c] w fun e w' => e = .returned (.tuple #[.agg (dA (k + 1) (hz F 7 8) (hz F 11 4) 0), .int .i64 0]) ∧ Below w.heap.size w w' := by
  obtain ⟨W, hW, hbW, ha, hb4⟩ := parse_start w
  have HW := Lib.hid hW
  have HBW := Lib.hid hbW
  have AR := Lib.hid ha
  have AV := Lib.hid hb4
  have S0 := Lib.hid (h6.below hbW)
  have hgw := h6.lt
  clear hW hbW ha hb4 h6
  go_enter Try.func37, Try.ntmps37
  go_upto_region 2 with (first
    | ((with_reducible show wpList _ _ _ (⟨some 2, _, _, _, _, _⟩ :: _) _ _); refine wpList_alloc rfl 26 rfl zeroD ?_; rw [show (Value.agg zDsc.cells).cells = dA 0 0 0 0 from rfl])
    | ((with_reducible show wpList _ _ _ (⟨some 4, _, _, _, _, _⟩ :: _) _ _); refine wpList_alloc rfl 26 rfl zeroD ?_; rw [show (Value.agg zDsc.cells).cells = dA 0 0 0 0 from rfl]))
  rw [show (w.alloc (.cells (dA 0 0 0 0) 26)).alloc (.cells (dA 0 0 0 0) 26) = W from HW.out.symm]
  try simp only [World.alloc, Array.size_push]
  clear HW
  obtain ⟨v, hv⟩ : ∃ v, v = w.heap.size + 1 := ⟨_, rfl⟩
  obtain ⟨r, hr⟩ : ∃ r, r = w.heap.size := ⟨_, rfl⟩
  rw [← hv] at AV ⊢
  rw [← hr] at AR HBW hgw ⊢
  have hrv : r < v := by omega
  have hB : Below r w W := HBW.out
  clear hB
  have HRW := Lib.hid hr
  clear hv hr
  have b12 := S0.out 12 (by omega)
  have b13 := S0.out 13 (by omega)
  have b14 := S0.out 14 (by omega)
  have b15 := S0.out 15 (by omega)
  obtain ⟨v12, hv12⟩ : ∃ z, z = F 12 := ⟨_, rfl⟩
  obtain ⟨v13, hv13⟩ : ∃ z, z = F 13 := ⟨_, rfl⟩
  obtain ⟨v14, hv14⟩ : ∃ z, z = F 14 := ⟨_, rfl⟩
  obtain ⟨v15, hv15⟩ : ∃ z, z = F 15 := ⟨_, rfl⟩
  have lo15 : 0 ≤ v15 := by rw [hv15]; exact (HF.out 15).1
  have hi15 : v15 ≤ 255 := by rw [hv15]; exact (HF.out 15).2
  rw [← hv15] at b15 hk
  rw [← hv12] at b12
  rw [← hv13] at b13
  rw [← hv14] at b14
  rw [← hv15] at q2
  rw [← hv12] at q4
  rw [← hv13] at q5
  rw [← hv14] at q6
  clear hv12 hv13 hv14 hv15
  have c0 : W.cell? ⟨v, 0, none⟩ = some (.int .i64 0) := AV.out.cell rfl
  have f0 : W.frozen? ⟨v, 0, none⟩ = false := AV.out.frozen (show 0 < 4 by omega)
  go_wp2_with fail
  have HK0 := Lib.hid ((Keeps.refl (One v) W).set1 0 (.int .i64 (k + 1)))
  have HA0 := Lib.hid (show ArrAt (W.setCell ⟨v, 0, none⟩ (.int .i64 (k + 1))) v (dA (k + 1) 0 0 0) from AV.out.set 0 (.int .i64 (k + 1)) (show 0 < 4 by omega))
  clear c0 f0
  go_loopw [6] (fun i wr => ∃ j : Nat, j ≤ 8 ∧ i = .int .i64 (7 - (j : Int)) ∧ Keeps (One v) W wr ∧ ArrAt wr v (dA (k + 1) (hz F 7 j) 0 0)) (fun i _ => (intOf i + 1 - 0).toNat)
  case atStart => exact ⟨0, by omega, by simp, HK0.out, HA0.out⟩
  case round =>
    obtain ⟨j, hj, rfl, hkp, ha⟩ := hrel
    try clear HK HA
    have HK := Lib.hid hkp
    have HA := Lib.hid ha
    have S1 := Lib.hid (S0.out.kept hkp (fun e => by have e : g = v := e; omega))
    clear hkp ha
    by_cases hlt : j < 8
    · obtain ⟨m, hm⟩ : ∃ m : Nat, 7 - (j : Int) = (m : Int) := ⟨7 - j, by omega⟩
      rw [hm]
      have hm2 : m = 7 - j := by omega
      have m0 : (0 : Int) ≤ (m : Int) := by omega
      have m1 : (m : Int) < 16 := by omega
      have m3 : decide ((0 : Int) ≤ (m : Int)) = true := by simp
      have x0 := S1.out m (by omega)
      obtain ⟨p1, p2⟩ := hz_bd HF.out 7 j
      have p3 := pow256_le (k := j) (by omega)
      obtain ⟨u1, u2⟩ := HF.out m
      have ea : hz F 7 (j + 1) = hz F 7 j * 256 + F m := by show _ * 256 + F (7 - j) = _; rw [← hm2]
      obtain ⟨a, haa⟩ : ∃ a, a = hz F 7 j := ⟨_, rfl⟩
      obtain ⟨u, hu⟩ : ∃ u, u = F m := ⟨_, rfl⟩
      rw [← haa] at p1 p2 ea HA
      rw [← hu] at x0 u1 u2 ea
      have p4 : a ≤ 72057594037927935 := by omega
      have EA := Lib.hid ea
      have HM := Lib.hid hm
      have c0 : wr.cell? ⟨v, 1, none⟩ = some (.int .u64 a) := HA.out.cell rfl
      have f0 : wr.frozen? ⟨v, 1, none⟩ = false := HA.out.frozen (show 1 < 4 by omega)
      clear ea haa hu p2 p3 hm hm2
      go_wp2_with fail
      go_region
      go_wp2_with fail
      go_roundw
      case rel =>
        refine ⟨j + 1, by omega, by have := HM.out; congr 1; push_cast; omega, (HK.out.set1 _ _).drew, ?_⟩
        rw [EA.out]
        exact (HA.out.set 1 (.int .u64 (a * 256 + u)) (show 1 < 4 by omega)).drew
      case measure => first | (simp [intOf]; done) | (have := HM.out; simp [intOf]; omega)
    · obtain rfl : j = 8 := by omega
      have e9 : (7 - ((8 : Nat) : Int)) = -1 := rfl
      rw [e9]
      clear hlt hj
      go_wp2_with fail
      go_loopw [9] (fun i wr => ∃ j : Nat, j ≤ 4 ∧ i = .int .i64 (11 - (j : Int)) ∧ Keeps (One v) W wr ∧ ArrAt wr v (dA (k + 1) (hz F 7 8) (hz F 11 j) 0)) (fun i _ => (intOf i + 1 - 8).toNat)
      case atStart => exact ⟨0, by omega, by simp, HK.out, HA.out⟩
      case round =>
        obtain ⟨j, hj, rfl, hkp, ha⟩ := hrel
        try clear HK HA
        have HK := Lib.hid hkp
        have HA := Lib.hid ha
        have S1 := Lib.hid (S0.out.kept hkp (fun e => by have e : g = v := e; omega))
        clear hkp ha
        by_cases hlt : j < 4
        · obtain ⟨m, hm⟩ : ∃ m : Nat, 11 - (j : Int) = (m : Int) := ⟨11 - j, by omega⟩
          rw [hm]
          have hm2 : m = 11 - j := by omega
          have m0 : (0 : Int) ≤ (m : Int) := by omega
          have m1 : (m : Int) < 16 := by omega
          have m3 : decide ((8 : Int) ≤ (m : Int)) = true := by simp; omega
          have x0 := S1.out m (by omega)
          obtain ⟨p1, p2⟩ := hz_bd HF.out 11 j
          have p3 := pow256_le3 (k := j) (by omega)
          obtain ⟨u1, u2⟩ := HF.out m
          have ea : hz F 11 (j + 1) = hz F 11 j * 256 + F m := by show _ * 256 + F (11 - j) = _; rw [← hm2]
          obtain ⟨a, haa⟩ : ∃ a, a = hz F 11 j := ⟨_, rfl⟩
          obtain ⟨u, hu⟩ : ∃ u, u = F m := ⟨_, rfl⟩
          rw [← haa] at p1 p2 ea HA
          rw [← hu] at x0 u1 u2 ea
          have p4 : a ≤ 16777215 := by omega
          have EA := Lib.hid ea
          have HM := Lib.hid hm
          have c0 : wr.cell? ⟨v, 2, none⟩ = some (.int .i64 a) := HA.out.cell rfl
          have f0 : wr.frozen? ⟨v, 2, none⟩ = false := HA.out.frozen (show 2 < 4 by omega)
          clear ea haa hu p2 p3 hm hm2
          go_wp2_with fail
          go_region
          go_wp2_with fail
          go_roundw
          case rel =>
            refine ⟨j + 1, by omega, by have := HM.out; congr 1; push_cast; omega, (HK.out.set1 _ _).drew, ?_⟩
            rw [EA.out]
            exact (HA.out.set 2 (.int .i64 (a * 256 + u)) (show 2 < 4 by omega)).drew
          case measure => first | (simp [intOf]; done) | (have := HM.out; simp [intOf]; omega)
        · obtain rfl : j = 4 := by omega
          have e9 : (11 - ((4 : Nat) : Int)) = 7 := rfl
          rw [e9]
          clear hlt hj
          have A9 := Lib.hid (AR.out.kept HK.out (fun e => by have e : r = v := e; omega))
          have B9 := Lib.hid (HBW.out.trans (HK.out.below (B := r) (by have := HBW.out.size; have := HRW.out; omega) (fun j hj e => by have e : j = v := e; omega)))
          obtain ⟨x0, hx0⟩ : ∃ z, z = hz F 7 8 := ⟨_, rfl⟩
          rw [← hx0] at HA
          obtain ⟨x1, hx1⟩ : ∃ z, z = hz F 11 4 := ⟨_, rfl⟩
          rw [← hx1] at HA
          obtain ⟨x2, hx2⟩ : ∃ z : Int, z = 0 := ⟨_, rfl⟩
          have HA := Lib.hid (show ArrAt wr v (dA (k + 1) x0 x1 x2) by rw [hx2]; exact HA.out)
          have HX0 := Lib.hid hx0
          have HX1 := Lib.hid hx1
          have HX2 := Lib.hid hx2
          clear hx0 hx1 hx2
          go_wp2_with (first
            | ((with_reducible show wpList _ _ _ (⟨some 95, _, _, _, _, _⟩ :: _) _ _); refine wpList_loadA rfl HA.out 26 (.tmp 4) rfl (by first | rfl | simp [Act.eval, Act.put]) Try.underlying26 rfl (dA_size _ _ _ _) ?_)
            | ((with_reducible show wpList _ _ _ (⟨none, .store _ (.tmp 2) _, _, _, _, _⟩ :: _) _ _); refine wpList_storeA rfl (b := r) (A := dA 0 0 0 0) (A' := dA (k + 1) x0 x1 x2) A9.out 26 (.tmp 2) (.tmp 95) rfl (by simp [Act.eval, Act.put]) (by simp [Act.eval, Act.put]) (dA_size _ _ _ _) rfl (dA_one _ _ _ _) ?_))
          have A10 := Lib.hid (A9.out.store (dA (k + 1) x0 x1 x2) rfl)
          have B10 := Lib.hid (bstore B9.out r (Nat.le_refl _) (dA (k + 1) x0 x1 x2).toList 0)
          rw [HRW.out] at B10
          refine bodyPost_ret (results_ct rfl _ _ _ A10.out rfl Try.underlying26 rfl (dA_size _ _ _ _)) rfl ⟨?_, by have := HRW.out; subst this; exact B10.out⟩
          rw [HX0.out, HX1.out, HX2.out]
          rfl

end Go.Proofs.Ytcljbmkdflkeeaa
