/- command: Decode. -/
import Derived.Test.YtggdjadhenamiaaRd
import Derived.Test.YtggdjadhenamiaaArr
import Derived.Test.YtggdjadhenamiaaIo
namespace Go.Proofs.Ytggdjadhenamiaa
set_option linter.unusedVariables false
set_option linter.unusedSimpArgs false
open Go.RowKit

def arrB64 (B : Nat → Int) : Value := .agg (arr 64 fun j => .int .u8 (B j))
/-- the lengths of an entry's fields -/
def nsC (i : Nat) : Nat := if i < 2 then 1 else if i = 2 then 2 else if i < 6 then 4 else if i < 9 then 8 else 4
theorem nsC_bd (i : Nat) : 1 ≤ nsC i ∧ nsC i ≤ 8 := by
  unfold nsC
  split
  · omega
  · split
    · omega
    · split
      · omega
      · split <;> omega
theorem nsC_le : ∀ k, k < 15 → offN nsC k + nsC k ≤ 64 := by decide
theorem nsC_cells {W : World} {t : TypeId} : ∀ i, i < 15 → (W.alloc (.cells #[.int .i64 1, .int .i64 1, .int .i64 2, .int .i64 4, .int .i64 4, .int .i64 4, .int .i64 8, .int .i64 8, .int .i64 8, .int .i64 4, .int .i64 4, .int .i64 4, .int .i64 4, .int .i64 4, .int .i64 4] t)).cell? ⟨W.heap.size, i, none⟩ = some (.int .i64 (nsC i)) := by
  intro i hi
  have h : i = 0 ∨ i = 1 ∨ i = 2 ∨ i = 3 ∨ i = 4 ∨ i = 5 ∨ i = 6 ∨ i = 7 ∨ i = 8 ∨ i = 9 ∨ i = 10 ∨ i = 11 ∨ i = 12 ∨ i = 13 ∨ i = 14 := by omega
  rcases h with rfl | rfl | rfl | rfl | rfl | rfl | rfl | rfl | rfl | rfl | rfl | rfl | rfl | rfl | rfl <;> go_simp <;> rfl
/-- an entry that may be decoded -/
def goodB (B : Nat → Int) : Prop := B 1 / 4 % 16 = 0 ∧ B 1 % 4 ≠ 3 ∧ B 1 / 64 ≤ 1
def dCmd (B : Nat → Int) : Cmd := { op := B 0, fused := B 1 % 4, sgl := B 1 / 64 == 1, id := le B 2 2, nsid := le B 4 4, c2 := le B 8 4, c3 := le B 12 4, mt := le B 16 8, d0 := le B 24 8, d1 := le B 32 8, w0 := le B 40 4, w1 := le B 44 4, w2 := le B 48 4, w3 := le B 52 4, w4 := le B 56 4, w5 := le B 60 4 }
theorem underCmd : ∃ d, Try.prog.underlying 28 = some d ∧ d.isRow = true := ⟨_, Try.underlying28, rfl⟩
theorem sizeCmd : (Try.prog.info? 28).map (·.size) = some 16 := by kernel_rfl
theorem u64_and60 (x : Int) (h : 0 ≤ x ∧ x ≤ 255) : bits .and .u64 x 60 = x / 4 % 16 * 4 := by
  obtain ⟨n, rfl⟩ := Int.eq_ofNat_of_zero_le h.1
  rw [u64_and _ _ (by omega) (by omega) (by omega) (by omega)]
  have e : ((60 : Int)).toNat = 60 := rfl
  rw [e, Int.toNat_natCast]
  have h1 : (n &&& 60) / 2 ^ 2 = (n / 2 ^ 2) &&& (60 / 2 ^ 2) := Nat.and_div_two_pow
  have h2 : (n &&& 60) % 2 ^ 2 = (n % 2 ^ 2) &&& (60 % 2 ^ 2) := Nat.and_mod_two_pow
  rw [show 60 / 2 ^ 2 = 2 ^ 4 - 1 from rfl, Nat.and_two_pow_sub_one_eq_mod] at h1
  rw [show 60 % 2 ^ 2 = 0 from rfl, Nat.and_zero] at h2
  generalize n &&& 60 = y at *
  omega

set_option maxRecDepth 100000 in
set_option maxHeartbeats 4000000 in
theorem cdec_bad (B : Nat → Int) (w : World) (hB : ∀ j, 0 ≤ B j ∧ B j ≤ 255) (h : ¬ goodB B) :
   Calls Try.prog 13 #[arrB64 B] w fun e w' => e = .returned (.tuple #[.agg zCmdC, .int .i64 6]) ∧ Below w.heap.size w w' := by
  have HB := Lib.hid hB
  have hb := hB 1
  have h3 : B 1 / 4 % 16 ≠ 0 ∨ (B 1 / 4 % 16 = 0 ∧ B 1 % 4 = 3) ∨ (B 1 / 4 % 16 = 0 ∧ B 1 % 4 ≠ 3 ∧ 1 < B 1 / 64) := by unfold goodB at h; omega
  have H3 := Lib.hid h3
  unfold arrB64
  clear hB h h3
  have hrow : (w.alloc (.cells (arr 64 fun j => .int .u8 (B j)) 29)).rowIs w.heap.size 29 64 (fun j => .int .u8 (B j)) := rowIs_arr _ _ _ _
  have HROW := Lib.hid hrow
  obtain ⟨A16, hA⟩ : ∃ A, A = arr 64 fun j => Value.int .u8 (B j) := ⟨_, rfl⟩
  rw [← hA]
  have HA := Lib.hid hA
  have z := zeroCmd
  obtain ⟨Z, hZ⟩ : ∃ Z, Z = zCmdC := ⟨_, rfl⟩
  rw [← hZ] at z ⊢
  have HZ := Lib.hid hZ
  have hal : ∀ w : World, ArrAt (w.alloc (.cells Z 28)) w.heap.size Z := fun w => ArrAt.fresh _ _ _ (by rw [hZ]; decide)
  have HAL := Lib.hid hal
  have HZ1 := Lib.hid (show Z.all (·.oneCell') = true by rw [hZ]; simp [zCmdC, Value.oneCell'])
  have HZS := Lib.hid (show (Try.prog.info? 28).map (·.size) = some Z.size by rw [hZ]; exact sizeCmd)
  clear hrow hA hZ hal
  go_enter Try.func13, Try.ntmps13
  go_wp2_with (first
    | ((with_reducible show wpList _ _ _ (⟨some 2, _, _, _, _, _⟩ :: _) _ _); refine wpList_alloc rfl _ rfl z ?_))
  have AZ0 := Lib.hid (HAL.out (w.alloc (.cells A16 29)))
  have hW : Hid ((w.alloc (.cells A16 29)).rowIs w.heap.size 29 64 (fun j => .int .u8 (B j))) := Lib.hid (by rw [HA.out]; exact HROW.out)
  refine (newReader_ok 64 64 ⟨w.heap.size, 0, none⟩ B _ (by omega) (by omega) (fun j hj => ((Keeps.refl (fun _ => False) _).alloc _).cell (by rw [Addr.add_mid, Nat.zero_add]; exact hW.out.cell hj) (fun e => e))).mono ?_
  rintro e w1 ⟨rb, g, rfl, hr, hb1', hrb, hg⟩
  have HR := Lib.hid hr
  have AZ1 := AZ0.out.below hb1'
  rw [World.size_alloc] at AZ1
  have AZ1 := Lib.hid AZ1
  have hbl : Below w.heap.size w w1 := (((Below.refl _ w).alloc (Nat.le_refl _) _).alloc (by simp) _).trans (hb1'.mono (by simp; omega))
  have HBL := Lib.hid hbl
  have hs := hb1'.size
  simp at hrb hg hs
  clear hr hb1' hbl
  go_wp2_with fail
  refine (rAll_ok rb g w1.heap.size 15 15 64 nsC B _ (by omega) HB.out (HR.out.kept (S := fun _ => False) ((Keeps.refl _ _).alloc _) (fun e => e) (fun e => e)) (by omega) nsC_cells nsC_bd nsC_le (by omega) (by simp; have := HR.out.srcLt (by omega); omega) (by simp)).mono ?_
  rintro e w2 ⟨q, cq, rfl, hq, hcq, hcc, hk2⟩
  have hbl2 : Below w.heap.size w w2 := ((HBL.out.alloc (by omega) _)).trans (hk2.below (by simp; omega) (fun j hj e => by have e : j = rb := e; omega))
  have AZ2 : ArrAt w2 (w.heap.size + 1) Z := (AZ1.out.alloc _).kept hk2 (fun e => by have e : w.heap.size + 1 = rb := e; omega)
  have c1 : w2.cell? ⟨q, 1, none⟩ = some (.int .u64 (B 1)) := by
    have := hcc 1 (by omega)
    have e : le B (offN nsC 1) (nsC 1) = B 1 := by simp [le, offN, nsC]
    rwa [e] at this
  have AZ2 := Lib.hid AZ2
  have HBL2 := Lib.hid hbl2
  obtain ⟨f, hf⟩ : ∃ f, f = B 1 := ⟨_, rfl⟩
  rw [← hf] at c1 hb H3
  have p1 := u64_and60 f hb
  have p2 : bits .and .u64 f 3 = f % 4 := and_mask _ 2 (by omega) (by omega) (by omega)
  obtain ⟨d, hd1, hd2⟩ := underCmd
  have h3 := H3.out
  clear hbl2 hk2 hcc hf
  rcases h3 with h3 | ⟨h3, h4⟩ | ⟨h3, h4, h5⟩
  · have q1 : (f / 4 % 16 * 4 != 0) = true := by simp; omega
    have q1' : (f / 4 % 16 * 4 == 0) = false := by simp; omega
    clear h3
    go_wp2_with (first
      | ((with_reducible show wpList _ _ _ (⟨some 34, _, _, _, _, _⟩ :: _) _ _); refine wpList_loadA rfl AZ2.out 28 (.tmp 2) rfl rfl hd1 hd2 HZS.out ?_)
      | ((with_reducible show wpList _ _ _ (⟨none, _, _, _, _, _⟩ :: _) _ _); refine wpList_storeA rfl (b := w.heap.size + 1) (A := Z) (A' := Z) AZ2.out 28 (.tmp 2) (.tmp 34) rfl (by simp [Act.eval, Act.put]) (by simp [Act.eval, Act.put]) HZS.out rfl HZ1.out ?_))
    have AZ := Lib.hid (AZ2.out.store Z rfl)
    exact bodyPost_ret (results_ct rfl _ _ _ AZ.out rfl hd1 hd2 HZS.out) rfl ⟨by simp, bstore HBL2.out _ (by omega) _ _⟩
  · have q1 : (f / 4 % 16 * 4 != 0) = false := by simp; omega
    have q1' : (f / 4 % 16 * 4 == 0) = true := by simp; omega
    have q2 : (f % 4 == 3) = true := by simp; omega
    clear h3 h4
    go_wp2_with (first
      | ((with_reducible show wpList _ _ _ (⟨some 34, _, _, _, _, _⟩ :: _) _ _); refine wpList_loadA rfl AZ2.out 28 (.tmp 2) rfl rfl hd1 hd2 HZS.out ?_)
      | ((with_reducible show wpList _ _ _ (⟨none, _, _, _, _, _⟩ :: _) _ _); refine wpList_storeA rfl (b := w.heap.size + 1) (A := Z) (A' := Z) AZ2.out 28 (.tmp 2) (.tmp 34) rfl (by simp [Act.eval, Act.put]) (by simp [Act.eval, Act.put]) HZS.out rfl HZ1.out ?_))
    have AZ := Lib.hid (AZ2.out.store Z rfl)
    exact bodyPost_ret (results_ct rfl _ _ _ AZ.out rfl hd1 hd2 HZS.out) rfl ⟨by simp, bstore HBL2.out _ (by omega) _ _⟩
  · have q1 : (f / 4 % 16 * 4 != 0) = false := by simp; omega
    have q1' : (f / 4 % 16 * 4 == 0) = true := by simp; omega
    have q2 : (f % 4 == 3) = false := by simp; omega
    have q3 : decide (1 < f / 64) = true := by simp; omega
    clear h3 h4
    go_wp2_with (first
      | ((with_reducible show wpList _ _ _ (⟨some 34, _, _, _, _, _⟩ :: _) _ _); refine wpList_loadA rfl AZ2.out 28 (.tmp 2) rfl rfl hd1 hd2 HZS.out ?_)
      | ((with_reducible show wpList _ _ _ (⟨none, _, _, _, _, _⟩ :: _) _ _); refine wpList_storeA rfl (b := w.heap.size + 1) (A := Z) (A' := Z) AZ2.out 28 (.tmp 2) (.tmp 34) rfl (by simp [Act.eval, Act.put]) (by simp [Act.eval, Act.put]) HZS.out rfl HZ1.out ?_))
    have AZ := Lib.hid (AZ2.out.store Z rfl)
    exact bodyPost_ret (results_ct rfl _ _ _ AZ.out rfl hd1 hd2 HZS.out) rfl ⟨by simp, bstore HBL2.out _ (by omega) _ _⟩
end Go.Proofs.Ytggdjadhenamiaa
