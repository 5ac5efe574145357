/- sgl: the reference's Spans. -/
import Derived.Test.YtcljbmkdflkeeaaMS2
import Derived.Test.YtcljbmkdflkeeaaBW
import Derived.Test.YtcljbmkdflkeeaaSQ
import Derived.BigQuiet
import Derived.Deep.CutBlock
namespace Go.Proofs.Ytcljbmkdflkeeaa
set_option linter.unusedVariables false
set_option linter.unusedSimpArgs false
open Go.RowKit

theorem sizeRM : (Try.prog.info? 45).map (·.size) = some 2 := by kernel_rfl
theorem push_keeps {W W3 w5 : World} {base : Nat} {v : Value} {m : Nat} {xs : List Value} (hb : Below W.heap.size W W3) (ho : W.ownsRow base 62 3 v m xs) (hbase : base ≤ W.heap.size) {o : Obj} (hg : (W3.alloc o).grownBy w5 v.ownBlock) : Keeps (fun j => base ≤ j) W w5 := by
  have hs := hb.size
  refine ⟨hg.os.trans hb.os, hg.tape.trans hb.tape, hg.output.trans hb.output, by have := hg.size; simp at this; omega, fun j hj hn => ?_⟩
  have e1 := hg.block j (by simp; omega) (fun e => hn (ho.lt j e.symm).1)
  rw [e1, Below.heap_alloc W3 o j (by omega), hb.block j hj]
theorem exam_left {size : Nat} {th : Bool} {d : Dsc} {s s' : WSt} (h : exam size th d s = .ok s') : s'.left ≤ s.left := by
  have ha : ∀ x : Spn, (addS x s).left ≤ s.left := fun x => by
    unfold addS
    split
    · show s.left - min x.n s.left ≤ s.left; omega
    · exact Int.le_refl _
  unfold exam at h
  split at h
  · split at h
    · cases h
    · split at h
      · cases h
      · cases h; exact Int.le_refl _
  · split at h
    · cases h
      split
      · exact ha _
      · exact Int.le_refl _
    · split at h
      · cases h
      · cases h; exact ha _
theorem RefAt.under {S T : Nat → Prop} {w w' : World} {v : Value} {n : Nat} {f : Nat → Int} {L : List (Nat × Nat)} (h : RefAt S w v n f L) (k : Keeps T w w') (hT : ∀ b, T b → S b) : RefAt S w' v n f L := h.kept k hT

section
variable (d : Dsc) (n : Int) (th : Bool) (M : Value) (size : Nat) (f : Nat → Int) (L : List (Nat × Nat)) (S : Nat → Prop) (w : World) (hM : RefAt S w M size f L) (hsz : size ≤ 4194304) (hd : d.Ok)
include hM hsz hd
set_option maxRecDepth 100000 in
set_option maxHeartbeats 4000000 in
theorem rspans_inv (hv : vldD d = false)  :
    Calls Try.prog 29 #[M, .agg d.cells, .int .i64 n, .bool th] w (SpPost w (.error 2)) := by
  have _hz := hsz
  have HM := Lib.hid hM
  have HV := Lib.hid fun w => rvalid_any d false hv w hd
  obtain ⟨A, hA⟩ : ∃ A, A = d.cells := ⟨_, rfl⟩
  have HA4 := Lib.hid (show 0 < A.size by rw [hA]; exact Nat.succ_pos 3)
  have HA44 := Lib.hid (show A.size = 4 by rw [hA]; rfl)
  have HA1 := Lib.hid (show A.all (·.oneCell') = true by rw [hA]; exact d.one)
  have HSZ := Lib.hid (show (Try.prog.info? 26).map (·.size) = some A.size by rw [hA]; exact sizeD)
  have HFR := Lib.hid (fun w => show ArrAt (w.alloc (.cells A 26)) w.heap.size A from ArrAt.fresh w A _ HA4.out)
  rw [← hA] at HV ⊢
  have HA := Lib.hid hA
  have HD := Lib.hid hd
  have HVL := Lib.hid hv
  obtain ⟨bo, nc, al, cl, rfl, hM2⟩ := hM
  clear hM2 hA hv hd
  go_enter Try.func29, Try.ntmps29
  go_upto_region 1 with fail
  obtain ⟨W0, hW0⟩ : ∃ W0, W0 = ((w.alloc (.cells #[.slice (some bo) size nc, .slice al L.length cl] 45)).alloc (.cells A 26)) := ⟨_, rfl⟩
  rw [← hW0]
  have B0 := Lib.hid (show Below w.heap.size w W0 by rw [hW0]; exact ((Below.refl _ w).alloc (Nat.le_refl _) _).alloc (by simp) _)
  have AM := Lib.hid (show ArrAt W0 w.heap.size #[.slice (some bo) size nc, .slice al L.length cl] by rw [hW0]; exact (ArrAt.fresh w _ _ (by show 0 < 2; omega)).alloc _)
  have AD := Lib.hid (show ArrAt W0 (w.heap.size + 1) A by rw [hW0]; have := HFR.out (w.alloc (.cells #[.slice (some bo) size nc, .slice al L.length cl] 45)); rw [show (w.alloc (.cells #[.slice (some bo) size nc, .slice al L.length cl] 45)).heap.size = w.heap.size + 1 by simp] at this; exact this)
  clear hW0
  go_wp2_with (first
    | ((with_reducible show wpList _ _ _ (⟨some 27, _, _, _, _, _⟩ :: _) _ _); refine wpList_loadA rfl AD.out 26 (.tmp 5) rfl (by first | rfl | simp [Act.eval, Act.put]) Try.underlying26 rfl HSZ.out ?_)
    | (go_at_call 15; refine (HV.out _).mono ?_; rintro e w1 ⟨rfl, hb⟩; have B1 := Lib.hid (B0.out.trans (hb.mono B0.out.size)); have AD1 := Lib.hid (AD.out.below hb); have AM1 := Lib.hid (AM.out.below hb); clear hb))
  go_ret2
  exact ⟨B1.out, rfl⟩

set_option maxRecDepth 100000 in
set_option maxHeartbeats 4000000 in
theorem rspans_neg (hv : vldD d = true) (q0 : decide (n < 0) = true) :
    Calls Try.prog 29 #[M, .agg d.cells, .int .i64 n, .bool th] w (SpPost w (.error 2)) := by
  have _hz := hsz
  have HM := Lib.hid hM
  have HV := Lib.hid fun w => rvalid_any d true hv w hd
  obtain ⟨A, hA⟩ : ∃ A, A = d.cells := ⟨_, rfl⟩
  have HA4 := Lib.hid (show 0 < A.size by rw [hA]; exact Nat.succ_pos 3)
  have HA44 := Lib.hid (show A.size = 4 by rw [hA]; rfl)
  have HA1 := Lib.hid (show A.all (·.oneCell') = true by rw [hA]; exact d.one)
  have HSZ := Lib.hid (show (Try.prog.info? 26).map (·.size) = some A.size by rw [hA]; exact sizeD)
  have HFR := Lib.hid (fun w => show ArrAt (w.alloc (.cells A 26)) w.heap.size A from ArrAt.fresh w A _ HA4.out)
  rw [← hA] at HV ⊢
  have HA := Lib.hid hA
  have HD := Lib.hid hd
  have HVL := Lib.hid hv
  obtain ⟨bo, nc, al, cl, rfl, hM2⟩ := hM
  clear hM2 hA hv hd
  go_enter Try.func29, Try.ntmps29
  go_upto_region 1 with fail
  obtain ⟨W0, hW0⟩ : ∃ W0, W0 = ((w.alloc (.cells #[.slice (some bo) size nc, .slice al L.length cl] 45)).alloc (.cells A 26)) := ⟨_, rfl⟩
  rw [← hW0]
  have B0 := Lib.hid (show Below w.heap.size w W0 by rw [hW0]; exact ((Below.refl _ w).alloc (Nat.le_refl _) _).alloc (by simp) _)
  have AM := Lib.hid (show ArrAt W0 w.heap.size #[.slice (some bo) size nc, .slice al L.length cl] by rw [hW0]; exact (ArrAt.fresh w _ _ (by show 0 < 2; omega)).alloc _)
  have AD := Lib.hid (show ArrAt W0 (w.heap.size + 1) A by rw [hW0]; have := HFR.out (w.alloc (.cells #[.slice (some bo) size nc, .slice al L.length cl] 45)); rw [show (w.alloc (.cells #[.slice (some bo) size nc, .slice al L.length cl] 45)).heap.size = w.heap.size + 1 by simp] at this; exact this)
  clear hW0
  go_wp2_with (first
    | ((with_reducible show wpList _ _ _ (⟨some 27, _, _, _, _, _⟩ :: _) _ _); refine wpList_loadA rfl AD.out 26 (.tmp 5) rfl (by first | rfl | simp [Act.eval, Act.put]) Try.underlying26 rfl HSZ.out ?_)
    | (go_at_call 15; refine (HV.out _).mono ?_; rintro e w1 ⟨rfl, hb⟩; have B1 := Lib.hid (B0.out.trans (hb.mono B0.out.size)); have AD1 := Lib.hid (AD.out.below hb); have AM1 := Lib.hid (AM.out.below hb); clear hb))
  go_ret2
  exact ⟨B1.out, rfl⟩

set_option maxRecDepth 100000 in
set_option maxHeartbeats 4000000 in
theorem rspans_big (hv : vldD d = true) (q0 : decide (n < 0) = false) (q1 : decide (1048576 < n) = true) :
    Calls Try.prog 29 #[M, .agg d.cells, .int .i64 n, .bool th] w (SpPost w (.error 2)) := by
  have _hz := hsz
  have HM := Lib.hid hM
  have HV := Lib.hid fun w => rvalid_any d true hv w hd
  obtain ⟨A, hA⟩ : ∃ A, A = d.cells := ⟨_, rfl⟩
  have HA4 := Lib.hid (show 0 < A.size by rw [hA]; exact Nat.succ_pos 3)
  have HA44 := Lib.hid (show A.size = 4 by rw [hA]; rfl)
  have HA1 := Lib.hid (show A.all (·.oneCell') = true by rw [hA]; exact d.one)
  have HSZ := Lib.hid (show (Try.prog.info? 26).map (·.size) = some A.size by rw [hA]; exact sizeD)
  have HFR := Lib.hid (fun w => show ArrAt (w.alloc (.cells A 26)) w.heap.size A from ArrAt.fresh w A _ HA4.out)
  rw [← hA] at HV ⊢
  have HA := Lib.hid hA
  have HD := Lib.hid hd
  have HVL := Lib.hid hv
  obtain ⟨bo, nc, al, cl, rfl, hM2⟩ := hM
  clear hM2 hA hv hd
  go_enter Try.func29, Try.ntmps29
  go_upto_region 1 with fail
  obtain ⟨W0, hW0⟩ : ∃ W0, W0 = ((w.alloc (.cells #[.slice (some bo) size nc, .slice al L.length cl] 45)).alloc (.cells A 26)) := ⟨_, rfl⟩
  rw [← hW0]
  have B0 := Lib.hid (show Below w.heap.size w W0 by rw [hW0]; exact ((Below.refl _ w).alloc (Nat.le_refl _) _).alloc (by simp) _)
  have AM := Lib.hid (show ArrAt W0 w.heap.size #[.slice (some bo) size nc, .slice al L.length cl] by rw [hW0]; exact (ArrAt.fresh w _ _ (by show 0 < 2; omega)).alloc _)
  have AD := Lib.hid (show ArrAt W0 (w.heap.size + 1) A by rw [hW0]; have := HFR.out (w.alloc (.cells #[.slice (some bo) size nc, .slice al L.length cl] 45)); rw [show (w.alloc (.cells #[.slice (some bo) size nc, .slice al L.length cl] 45)).heap.size = w.heap.size + 1 by simp] at this; exact this)
  clear hW0
  go_wp2_with (first
    | ((with_reducible show wpList _ _ _ (⟨some 27, _, _, _, _, _⟩ :: _) _ _); refine wpList_loadA rfl AD.out 26 (.tmp 5) rfl (by first | rfl | simp [Act.eval, Act.put]) Try.underlying26 rfl HSZ.out ?_)
    | (go_at_call 15; refine (HV.out _).mono ?_; rintro e w1 ⟨rfl, hb⟩; have B1 := Lib.hid (B0.out.trans (hb.mono B0.out.size)); have AD1 := Lib.hid (AD.out.below hb); have AM1 := Lib.hid (AM.out.below hb); clear hb))
  go_ret2
  exact ⟨B1.out, rfl⟩

set_option maxRecDepth 100000 in
set_option maxHeartbeats 8000000 in
theorem rspans_loop (hv : vldD d = true) (hby : Bytes f) (q0 : decide (n < 0) = false) (q1 : decide (1048576 < n) = false) (R : Except Int (List Spn)) (hR : nxtS f size th 0 d ⟨false, false, 0, 0, n, []⟩ = R) :
    Calls Try.prog 29 #[M, .agg d.cells, .int .i64 n, .bool th] w (SpPost w R) := by
  have hn0 : 0 ≤ n := Int.not_lt.1 (of_decide_eq_false q0)
  have hn1 : n ≤ 1048576 := Int.not_lt.1 (of_decide_eq_false q1)
  have HB := Lib.hid hby
  have HR := Lib.hid hR
  clear hby hR
  have _hz := hsz
  have HM := Lib.hid hM
  have HV := Lib.hid fun w => rvalid_any d true hv w hd
  obtain ⟨A, hA⟩ : ∃ A, A = d.cells := ⟨_, rfl⟩
  have HA4 := Lib.hid (show 0 < A.size by rw [hA]; exact Nat.succ_pos 3)
  have HA44 := Lib.hid (show A.size = 4 by rw [hA]; rfl)
  have HA1 := Lib.hid (show A.all (·.oneCell') = true by rw [hA]; exact d.one)
  have HSZ := Lib.hid (show (Try.prog.info? 26).map (·.size) = some A.size by rw [hA]; exact sizeD)
  have HFR := Lib.hid (fun w => show ArrAt (w.alloc (.cells A 26)) w.heap.size A from ArrAt.fresh w A _ HA4.out)
  rw [← hA] at HV ⊢
  have HA := Lib.hid hA
  have HD := Lib.hid hd
  have HVL := Lib.hid hv
  obtain ⟨bo, nc, al, cl, rfl, hM2⟩ := hM
  clear hM2 hA hv hd
  go_enter Try.func29, Try.ntmps29
  go_upto_region 1 with fail
  obtain ⟨W0, hW0⟩ : ∃ W0, W0 = ((w.alloc (.cells #[.slice (some bo) size nc, .slice al L.length cl] 45)).alloc (.cells A 26)) := ⟨_, rfl⟩
  rw [← hW0]
  have B0 := Lib.hid (show Below w.heap.size w W0 by rw [hW0]; exact ((Below.refl _ w).alloc (Nat.le_refl _) _).alloc (by simp) _)
  have AM := Lib.hid (show ArrAt W0 w.heap.size #[.slice (some bo) size nc, .slice al L.length cl] by rw [hW0]; exact (ArrAt.fresh w _ _ (by show 0 < 2; omega)).alloc _)
  have AD := Lib.hid (show ArrAt W0 (w.heap.size + 1) A by rw [hW0]; have := HFR.out (w.alloc (.cells #[.slice (some bo) size nc, .slice al L.length cl] 45)); rw [show (w.alloc (.cells #[.slice (some bo) size nc, .slice al L.length cl] 45)).heap.size = w.heap.size + 1 by simp] at this; exact this)
  clear hW0
  go_upto_region 5 with (first
    | ((with_reducible show wpList _ _ _ (⟨some 27, _, _, _, _, _⟩ :: _) _ _); refine wpList_loadA rfl AD.out 26 (.tmp 5) rfl (by first | rfl | simp [Act.eval, Act.put]) Try.underlying26 rfl HSZ.out ?_)
    | (go_at_call 15; refine (HV.out _).mono ?_; rintro e w1 ⟨rfl, hb⟩; have B1 := Lib.hid (B0.out.trans (hb.mono B0.out.size)); have AD1 := Lib.hid (AD.out.below hb); have AM1 := Lib.hid (AM.out.below hb); clear hb))
  obtain ⟨lb, hlb⟩ : ∃ z, z = w1.heap.size := ⟨_, rfl⟩
  have A5 := Lib.hid (show ArrAt (w1.alloc (.cells zDsc.cells 26)) w1.heap.size zDsc.cells from ArrAt.fresh w1 zDsc.cells _ (by decide))
  go_upto_region 6 with (first
    | ((with_reducible show wpList _ _ _ (⟨some 38, _, _, _, _, _⟩ :: _) _ _); refine wpList_loadA rfl AD1.out 26 (.tmp 5) rfl (by first | rfl | simp [Act.eval, Act.put]) Try.underlying26 rfl HSZ.out ?_)
    | ((with_reducible show wpList _ _ _ (⟨some 13, _, _, _, _, _⟩ :: _) _ _); refine wpList_alloc rfl 26 rfl zeroD ?_; rw [show (Value.agg zDsc.cells).cells = zDsc.cells from rfl])
    | ((with_reducible show wpList _ _ _ (⟨none, .store _ (.tmp 13) _, _, _, _, _⟩ :: _) _ _); refine wpList_storeA rfl (b := w1.heap.size) (A := zDsc.cells) (A' := A) A5.out 26 (.tmp 13) (.tmp 38) rfl (by simp [Act.eval, Act.put]) (by simp [Act.eval, Act.put]) (sizeDs _) (by rw [HA44.out]; rfl) HA1.out ?_))
  obtain ⟨W5, hW5⟩ : ∃ z, z = (w1.alloc (.cells zDsc.cells 26)).setCells w1.heap.size 0 A.toList := ⟨_, rfl⟩
  rw [← hW5]
  have b5 : Below w1.heap.size w1 W5 := by rw [hW5]; exact bstore ((Below.refl _ _).alloc (Nat.le_refl _) _) _ (Nat.le_refl _) _ _
  have HA5 := Lib.hid (show ArrAt W5 w1.heap.size d.cells by rw [hW5, ← HA.out]; exact A5.out.store A (by rw [HA44.out]; rfl))
  rw [← hlb] at HA5 ⊢
  have B5 := Lib.hid (B1.out.trans (b5.mono B1.out.size))
  have AM5 := Lib.hid (AM1.out.below b5)
  have HM5 := Lib.hid ((HM.out.more (T := fun b => w.heap.size ≤ b) (fun b h1 h2 => absurd h2 (by omega))).below (B1.out.trans (b5.mono B1.out.size)))
  have hlw : w.heap.size + 1 < lb := by rw [hlb]; exact AD1.out.lt
  have hl5 : lb < W5.heap.size := HA5.out.lt
  have hso0 : WSt.Ok ⟨false, false, 0, 0, n, []⟩ size := ⟨by show (0:Int) ≤ 0; omega, by show (0:Int) ≤ 0; omega, by show (0:Int) ≤ size; omega, rfl, hn0, by show ((0:Nat) : Int) + n ≤ _; omega⟩
  clear hW5 b5 A5 AD AM B0 B1 AM1 AD1 HM hlb HV HFR HA HA4 HA44 HA1 HSZ
  try simp only [Act.put, List.setIfInBounds_toArray, List.set_cons_succ, List.set_cons_zero]
  go_wp2_with fail
  go_loopw [10, 11, 12, 14, 15, 16, 17] (fun v10 v11 v12 v14 v15 v16 v17 wr => ∃ (k : Nat) (s : WSt) (d : Dsc), (∃ fd : Int, v11 = .int .i64 fd ∧ fd = n - s.left) ∧ v12 = .int .i64 (k : Nat) ∧ v14 = .bool s.ins ∧ v15 = .bool s.las ∧ v16 = .int .u64 s.at' ∧ v17 = .int .u64 s.en ∧ wr.ownsRow (lb + 1) 62 3 v10 s.out.length (spC s.out) ∧ k ≤ 1023 ∧ Keeps (fun j => lb ≤ j) W5 wr ∧ ArrAt wr lb d.cells ∧ s.Ok size ∧ s.left ≤ n ∧ d.Ok ∧ Vld d ∧ nxtS f size th k d s = R) (fun _ _ v12 _ _ _ _ _ => 1024 - (intOf v12).toNat)
  case atStart => exact ⟨0, _, _, ⟨0, rfl, by show (0 : Int) = n - n; omega⟩, rfl, rfl, rfl, rfl, rfl, World.ownsRow_nil _ _ _ _, by omega, Keeps.refl _ _, HA5.out, hso0, Int.le_refl _, HD.out, by have := HVL.out; unfold vldD at this; exact of_decide_eq_true this, HR.out⟩
  case round =>
    clear hso0 HA5 HD HVL HR
    obtain ⟨k, s, d, ⟨fd, rfl, hfd⟩, rfl, rfl, rfl, rfl, rfl, hown, hk, hK, hA, hso, hln, hdo, hvd, hR⟩ := hrel
    have HK := Lib.hid hK
    have HA := Lib.hid hA
    have HO := Lib.hid hown
    have HSO := Lib.hid hso
    have HDO := Lib.hid hdo
    have HVD := Lib.hid hvd
    have HR := Lib.hid hR
    have HFD := Lib.hid hfd
    have hwz : lb < wr.heap.size := hA.lt
    have HAM := Lib.hid (AM5.out.kept hK (by omega))
    have HMR := Lib.hid (HM5.out.kept hK (fun b (hb : lb ≤ b) => by show w.heap.size ≤ b; omega))
    have l0 := hso.l0
    clear hK hA hown hso hdo hvd hR
    by_cases hlz : s.left = 0
    · have q2 : decide (fd < n) = false := decide_eq_false (by omega)
      have hRR : R = .ok s.out := by have := HR.out; unfold nxtS at this; rw [if_pos hlz] at this; exact this.symm
      subst hRR
      clear hfd
      go_wp2_with fail
      go_ret2
      exact ⟨B5.out.trans (HK.out.below (B := w.heap.size) B5.out.size (fun j hj e => by have e : lb ≤ j := e; omega)), _, rfl, owns_less HO.out (by omega)⟩
    · have q2 : decide (fd < n) = true := decide_eq_true (by omega)
      have q3 : decide ((1024 : Int) ≤ (k : Int)) = false := decide_eq_false (by omega)
      clear hfd
      have c0 : wr.cell? ⟨lb, 0, none⟩ = some (.int .i64 d.k) := HA.out.cell rfl
      have c1 : wr.cell? ⟨lb, 1, none⟩ = some (.int .u64 d.a) := HA.out.cell rfl
      have c2 : wr.cell? ⟨lb, 2, none⟩ = some (.int .i64 d.n) := HA.out.cell rfl
      go_upto_block 2 with fail
      go_cut [10, 11, 14, 15, 16, 17, 18, 19, 20, 21, 22] from 39 to 169 (fun v10 v11 v14 v15 v16 v17 _ _ _ _ _ wc => ∃ s', exam size th d s = .ok s' ∧ (∃ fd : Int, v11 = .int .i64 fd ∧ fd = n - s'.left) ∧ v14 = .bool s'.ins ∧ v15 = .bool s'.las ∧ v16 = .int .u64 s'.at' ∧ v17 = .int .u64 s'.en ∧ wc.ownsRow (lb + 1) 62 3 v10 s'.out.length (spC s'.out) ∧ Keeps (fun j => lb + 1 ≤ j) wr wc)
      case first =>
        obtain ⟨i0, hi0, hz0, hz1, hz2⟩ := info_parts infoSp
        have hf0 : 0 ≤ fd := by have := HFD.out; omega
        have hf1 : fd ≤ n := by have := HFD.out; omega
        have hka := HDO.out.a
        have hkn := HDO.out.n
        have hvd := HVD.out
        have hol : s.out.length ≤ 1048576 := by have := HSO.out.l1; omega
        obtain ⟨dk, hdk⟩ : ∃ z, z = d.k := ⟨_, rfl⟩
        obtain ⟨da, hda⟩ : ∃ z, z = d.a := ⟨_, rfl⟩
        obtain ⟨dn, hdn⟩ : ∃ z, z = d.n := ⟨_, rfl⟩
        have hk15 : dk = 1 ∨ dk = 2 ∨ dk = 3 ∨ dk = 4 ∨ dk = 5 := by have := hvd.1; omega
        have hn00 : 0 ≤ dn := by have := hvd.2.1; omega
        rw [← hdk] at c0 ⊢
        rw [← hda] at c1 hka
        rw [← hdn] at c2 hkn
        have HDK := Lib.hid hdk
        have HDA := Lib.hid hda
        have HDN := Lib.hid hdn
        have hCK : ∀ W, Calls Try.prog 54 #[.agg #[.slice (some bo) size nc, .slice al L.length cl], .int .u64 da, .int .i64 dn] W fun e w' => e = .returned (.int .i64 (chk size da dn)) ∧ Below W.heap.size W w' := fun W => rcheck_any (some bo) size nc _ da dn W hsz hka.1 hka.2 hkn.1 hkn.2
        obtain ⟨ck, hck⟩ : ∃ z, z = chk size da dn := ⟨_, rfl⟩
        rw [← hck] at hCK
        have HCK := Lib.hid hCK
        have HCE := Lib.hid hck
        clear hCK hck hdk hda hdn hvd
        rcases hk15 with e | e | e | e | e
        case inr.inl =>
          subst e
          have hx : exam size th d s = .ok (if th then addS ⟨0, d.n, true⟩ s else s) := by
            unfold exam
            rw [if_neg (by rw [← HDK.out]; omega), if_pos (by rw [← HDK.out])]
          obtain ⟨km, hkm⟩ : ∃ z, z = min dn s.left := ⟨_, rfl⟩
          have hif : (if n - fd < dn then n - fd else dn) = km := by have := HFD.out; rw [hkm, Int.min_def]; split <;> split <;> omega
          have HKM := Lib.hid hkm
          have HIF := Lib.hid hif
          have hkl : km ≤ s.left := by rw [hkm]; exact Int.min_le_right _ _
          have hkb : 0 ≤ km := by rw [hkm, Int.min_def]; split <;> omega
          clear hkm hif
          cases th with
          | false =>
            have HX := Lib.hid hx
            clear hx
            go_upto_region 32 with fail
            rw [HIF.out]
            go_wp2_with fail
            go_meet
            exact ⟨_, HX.out, ⟨_, rfl, HFD.out⟩, rfl, rfl, rfl, rfl, HO.out, Keeps.refl _ _⟩
          | true =>
            rw [if_pos rfl] at hx
            have HX := Lib.hid hx
            clear hx
            go_upto_region 32 with fail
            rw [HIF.out]
            by_cases hk0 : 0 < km
            · have qk : decide (0 < km) = true := decide_eq_true hk0
              have hfs : fd + km ≤ n := by have := HFD.out; omega
              go_wp2_with (at_builtin; refine wpList_append_lies _ rfl _ _ 43 rfl (lb + 1) 62 i0 _ 3 24 Try.underlying43 hi0 hz0 hz1 hz2 rfl (by decide) u10 s.out.length (spC s.out) rfl (HO.out.alloc _) ⟨wr.heap.size, 0, none⟩ 1 1 [.int .u64 0, .int .i64 km, .bool true] rfl rfl (World.news_of_block (cs := #[.int .u64 0, .int .i64 km, .bool true]) (t := 62) (fr := (0, 0)) (heap_alloc_new wr _)) (by simp [Value.oneCell']) (by decide) (by unfold maxLen; omega) (by omega) (by simp; omega) (wr.heap.size + 1) (by simp) ?_; intro gg cap w5 hown5 hgr5 hat5 hlt5; have HO5 := Lib.hid hown5; have HK5 := Lib.hid (push_keeps (Below.refl _ wr) HO.out (by omega) hgr5); clear hown5 hgr5 hat5)
              go_meet
              refine ⟨_, HX.out, ⟨_, rfl, ?_⟩, ?_, ?_, ?_, ?_, ?_, HK5.out⟩
              all_goals (unfold addS; rw [← HDN.out, ← HKM.out, if_pos hk0])
              · have := HFD.out; show fd + km = n - (s.left - km); omega
              · show Go.World.ownsRow _ _ _ _ _ _ _
                rw [List.length_append, spC_append]
                exact HO5.out
            · have qk : decide (0 < km) = false := decide_eq_false hk0
              have HK0 := Lib.hid hk0
              go_wp2_with fail
              go_meet
              refine ⟨_, HX.out, ⟨_, rfl, ?_⟩, ?_, ?_, ?_, ?_, ?_, Keeps.refl _ _⟩
              all_goals (unfold addS; rw [← HDN.out, ← HKM.out, if_neg (by have := HK0.out; omega)])
              · exact HFD.out
              · exact HO.out
        case inr.inr.inl =>
          subst e
          obtain ⟨i, hi⟩ : ∃ z, z = s.ins := ⟨_, rfl⟩
          obtain ⟨l, hl⟩ : ∃ z, z = s.las := ⟨_, rfl⟩
          obtain ⟨fn, hfn⟩ : ∃ z : Bool, z = (s.at' == s.en) := ⟨_, rfl⟩
          obtain ⟨r, hr⟩ : ∃ z, z = dn % 16 := ⟨_, rfl⟩
          have htm : dn.tmod 16 = r := by rw [Int.tmod_eq_emod_of_nonneg hn00, hr]
          have HI := Lib.hid hi
          have HL := Lib.hid hl
          have HFN := Lib.hid hfn
          have HRM := Lib.hid hr
          rw [← hi, ← hl, ← hfn]
          clear hi hl hfn hr
          by_cases z0 : dn = 0
          · have q0 : (dn == 0) = true := beq_iff_eq.2 z0
            have hx : exam size th d s = .error 161 := by
              unfold exam
              rw [if_pos (by rw [← HDK.out]; omega), if_pos (by rw [← HDN.out]; omega)]
            have hRR := nxt_exam HR.out hlz hx
            subst hRR
            clear hx
            go_wp2_with fail
            go_ret2
            exact ⟨(B5.out.trans (HK.out.below (B := w.heap.size) B5.out.size (fun j hj e => by have e : lb ≤ j := e; omega))), rfl⟩
          · have q0 : (dn == 0) = false := beq_eq_false_iff_ne.2 z0
            by_cases z1 : r = 0
            case neg =>
              have q1 : (r != 0) = true := bne_iff_ne.2 z1
              have hx : exam size th d s = .error 161 := by
                unfold exam
                rw [if_pos (by rw [← HDK.out]; omega), if_pos (by rw [← HDN.out]; have := HRM.out; omega)]
              have hRR := nxt_exam HR.out hlz hx
              subst hRR
              clear hx
              go_wp2_with fail
              go_ret2
              exact ⟨(B5.out.trans (HK.out.below (B := w.heap.size) B5.out.size (fun j hj e => by have e : lb ≤ j := e; omega))), rfl⟩
            case pos =>
              have q1 : (r != 0) = false := by rw [z1]; rfl
              have hd0 : 0 < dn ∧ dn % 16 = 0 := by have := HRM.out; omega
              cases i with
              | false =>
                by_cases hc : ck = 0
                · have qc : (ck != 0) = false := by rw [hc]; rfl
                  have hx : exam size th d s = .ok { s with ins := true, las := false, at' := da, en := da + dn } := by
                    unfold exam
                    rw [if_pos (by rw [← HDK.out]; omega), if_neg (by rw [← HDN.out]; exact fun c => c ⟨hd0.1, hd0.2, .inl HI.out.symm⟩), if_neg (by rw [← HDA.out, ← HDN.out, ← HCE.out]; omega), ← HDK.out, ← HDA.out, ← HDN.out]
                    rfl
                  have HX := Lib.hid hx
                  have hfit : da + dn ≤ size := by
                    have h1 := HCE.out
                    rw [hc] at h1
                    exact (chk_ok (size := size) h1.symm).2
                  clear hx
                  go_upto_region 28 with (first
                    | ((with_reducible show wpList _ _ _ (⟨some 100, _, _, _, _, _⟩ :: _) _ _); refine wpList_loadA rfl HAM.out 45 (.tmp 4) rfl (by first | rfl | simp [Act.eval, Act.put]) Try.underlying45 rfl sizeRM ?_)
                    | (go_at_call 54; refine (HCK.out _).mono ?_; rintro e w3 ⟨rfl, hb3⟩; have HB3 := Lib.hid hb3; have hw3 := hb3.size; have x0 : w3.cell? ⟨lb, 0, none⟩ = _ := (hb3.cell (p := ⟨lb, 0, none⟩) hwz).trans c0; have x1 : w3.cell? ⟨lb, 1, none⟩ = _ := (hb3.cell (p := ⟨lb, 1, none⟩) hwz).trans c1; have x2 : w3.cell? ⟨lb, 2, none⟩ = _ := (hb3.cell (p := ⟨lb, 2, none⟩) hwz).trans c2; clear hb3))
                  go_region
                  all_goals
                    go_upto_region 29 with fail
                    go_region
                    all_goals
                      go_wp2_with fail
                      go_meet
                      exact ⟨_, HX.out, ⟨_, rfl, HFD.out⟩, rfl, rfl, rfl, rfl, HO.out.kept (row := none) ⟨HB3.out.os, HB3.out.tape, HB3.out.output, HB3.out.size, fun j hj _ => HB3.out.block j hj⟩ (by cases u10.ownBlock <;> simp), Keeps.of_below HB3.out.drew.drew⟩
                · have qc : (ck != 0) = true := bne_iff_ne.2 hc
                  have hx : exam size th d s = .error ck := by
                    unfold exam
                    rw [if_pos (by rw [← HDK.out]; omega), if_neg (by rw [← HDN.out]; exact fun c => c ⟨hd0.1, hd0.2, .inl HI.out.symm⟩), if_pos (by rw [← HDA.out, ← HDN.out, ← HCE.out]; exact hc), ← HDA.out, ← HDN.out, ← HCE.out]
                  have hRR := nxt_exam HR.out hlz hx
                  subst hRR
                  clear hx
                  go_wp2_with (first
                    | ((with_reducible show wpList _ _ _ (⟨some 100, _, _, _, _, _⟩ :: _) _ _); refine wpList_loadA rfl HAM.out 45 (.tmp 4) rfl (by first | rfl | simp [Act.eval, Act.put]) Try.underlying45 rfl sizeRM ?_)
                    | (go_at_call 54; refine (HCK.out _).mono ?_; rintro e w3 ⟨rfl, hb3⟩; have HB3 := Lib.hid hb3; have hw3 := hb3.size; have x0 : w3.cell? ⟨lb, 0, none⟩ = _ := (hb3.cell (p := ⟨lb, 0, none⟩) hwz).trans c0; have x1 : w3.cell? ⟨lb, 1, none⟩ = _ := (hb3.cell (p := ⟨lb, 1, none⟩) hwz).trans c1; have x2 : w3.cell? ⟨lb, 2, none⟩ = _ := (hb3.cell (p := ⟨lb, 2, none⟩) hwz).trans c2; clear hb3))
                  go_ret2
                  exact ⟨(B5.out.trans (HK.out.below (B := w.heap.size) B5.out.size (fun j hj e => by have e : lb ≤ j := e; omega))).trans (HB3.out.mono (by have := HK.out.size; have := B5.out.size; omega)), rfl⟩
              | true =>
                cases fn with
                | false =>
                  have hx : exam size th d s = .error 161 := by
                    unfold exam
                    rw [if_pos (by rw [← HDK.out]; omega), if_pos (by rw [← HDN.out]; intro c; rcases c.2.2 with e | e; (rw [← HI.out] at e; cases e); (have h := HFN.out; rw [e.2] at h; simp at h))]
                  have hRR := nxt_exam HR.out hlz hx
                  subst hRR
                  clear hx
                  go_wp2_with fail
                  go_ret2
                  exact ⟨(B5.out.trans (HK.out.below (B := w.heap.size) B5.out.size (fun j hj e => by have e : lb ≤ j := e; omega))), rfl⟩
                | true =>
                  cases l with
                  | true =>
                    have hx : exam size th d s = .error 161 := by
                      unfold exam
                      rw [if_pos (by rw [← HDK.out]; omega), if_pos (by rw [← HDN.out]; intro c; rcases c.2.2 with e | e; (rw [← HI.out] at e; cases e); (have h := e.1; rw [← HL.out] at h; cases h))]
                    have hRR := nxt_exam HR.out hlz hx
                    subst hRR
                    clear hx
                    go_wp2_with fail
                    go_ret2
                    exact ⟨(B5.out.trans (HK.out.below (B := w.heap.size) B5.out.size (fun j hj e => by have e : lb ≤ j := e; omega))), rfl⟩
                  | false =>
                    by_cases hc : ck = 0
                    · have qc : (ck != 0) = false := by rw [hc]; rfl
                      have hx : exam size th d s = .ok { s with ins := true, las := false, at' := da, en := da + dn } := by
                        unfold exam
                        rw [if_pos (by rw [← HDK.out]; omega), if_neg (by rw [← HDN.out]; exact fun c => c ⟨hd0.1, hd0.2, .inr ⟨HL.out.symm, beq_iff_eq.1 HFN.out.symm⟩⟩), if_neg (by rw [← HDA.out, ← HDN.out, ← HCE.out]; omega), ← HDK.out, ← HDA.out, ← HDN.out]
                        rfl
                      have HX := Lib.hid hx
                      have hfit : da + dn ≤ size := by
                        have h1 := HCE.out
                        rw [hc] at h1
                        exact (chk_ok (size := size) h1.symm).2
                      clear hx
                      go_upto_region 28 with (first
                        | ((with_reducible show wpList _ _ _ (⟨some 100, _, _, _, _, _⟩ :: _) _ _); refine wpList_loadA rfl HAM.out 45 (.tmp 4) rfl (by first | rfl | simp [Act.eval, Act.put]) Try.underlying45 rfl sizeRM ?_)
                        | (go_at_call 54; refine (HCK.out _).mono ?_; rintro e w3 ⟨rfl, hb3⟩; have HB3 := Lib.hid hb3; have hw3 := hb3.size; have x0 : w3.cell? ⟨lb, 0, none⟩ = _ := (hb3.cell (p := ⟨lb, 0, none⟩) hwz).trans c0; have x1 : w3.cell? ⟨lb, 1, none⟩ = _ := (hb3.cell (p := ⟨lb, 1, none⟩) hwz).trans c1; have x2 : w3.cell? ⟨lb, 2, none⟩ = _ := (hb3.cell (p := ⟨lb, 2, none⟩) hwz).trans c2; clear hb3))
                      go_region
                      all_goals
                        go_upto_region 29 with fail
                        go_region
                        all_goals
                          go_wp2_with fail
                          go_meet
                          exact ⟨_, HX.out, ⟨_, rfl, HFD.out⟩, rfl, rfl, rfl, rfl, HO.out.kept (row := none) ⟨HB3.out.os, HB3.out.tape, HB3.out.output, HB3.out.size, fun j hj _ => HB3.out.block j hj⟩ (by cases u10.ownBlock <;> simp), Keeps.of_below HB3.out.drew.drew⟩
                    · have qc : (ck != 0) = true := bne_iff_ne.2 hc
                      have hx : exam size th d s = .error ck := by
                        unfold exam
                        rw [if_pos (by rw [← HDK.out]; omega), if_neg (by rw [← HDN.out]; exact fun c => c ⟨hd0.1, hd0.2, .inr ⟨HL.out.symm, beq_iff_eq.1 HFN.out.symm⟩⟩), if_pos (by rw [← HDA.out, ← HDN.out, ← HCE.out]; exact hc), ← HDA.out, ← HDN.out, ← HCE.out]
                      have hRR := nxt_exam HR.out hlz hx
                      subst hRR
                      clear hx
                      go_wp2_with (first
                        | ((with_reducible show wpList _ _ _ (⟨some 100, _, _, _, _, _⟩ :: _) _ _); refine wpList_loadA rfl HAM.out 45 (.tmp 4) rfl (by first | rfl | simp [Act.eval, Act.put]) Try.underlying45 rfl sizeRM ?_)
                        | (go_at_call 54; refine (HCK.out _).mono ?_; rintro e w3 ⟨rfl, hb3⟩; have HB3 := Lib.hid hb3; have hw3 := hb3.size; have x0 : w3.cell? ⟨lb, 0, none⟩ = _ := (hb3.cell (p := ⟨lb, 0, none⟩) hwz).trans c0; have x1 : w3.cell? ⟨lb, 1, none⟩ = _ := (hb3.cell (p := ⟨lb, 1, none⟩) hwz).trans c1; have x2 : w3.cell? ⟨lb, 2, none⟩ = _ := (hb3.cell (p := ⟨lb, 2, none⟩) hwz).trans c2; clear hb3))
                      go_ret2
                      exact ⟨(B5.out.trans (HK.out.below (B := w.heap.size) B5.out.size (fun j hj e => by have e : lb ≤ j := e; omega))).trans (HB3.out.mono (by have := HK.out.size; have := B5.out.size; omega)), rfl⟩
        case inr.inr.inr.inl =>
          subst e
          obtain ⟨i, hi⟩ : ∃ z, z = s.ins := ⟨_, rfl⟩
          obtain ⟨l, hl⟩ : ∃ z, z = s.las := ⟨_, rfl⟩
          obtain ⟨fn, hfn⟩ : ∃ z : Bool, z = (s.at' == s.en) := ⟨_, rfl⟩
          obtain ⟨r, hr⟩ : ∃ z, z = dn % 16 := ⟨_, rfl⟩
          have htm : dn.tmod 16 = r := by rw [Int.tmod_eq_emod_of_nonneg hn00, hr]
          have HI := Lib.hid hi
          have HL := Lib.hid hl
          have HFN := Lib.hid hfn
          have HRM := Lib.hid hr
          rw [← hi, ← hl, ← hfn]
          clear hi hl hfn hr
          by_cases z0 : dn = 0
          · have q0 : (dn == 0) = true := beq_iff_eq.2 z0
            have hx : exam size th d s = .error 161 := by
              unfold exam
              rw [if_pos (by rw [← HDK.out]; omega), if_pos (by rw [← HDN.out]; omega)]
            have hRR := nxt_exam HR.out hlz hx
            subst hRR
            clear hx
            go_wp2_with fail
            go_ret2
            exact ⟨(B5.out.trans (HK.out.below (B := w.heap.size) B5.out.size (fun j hj e => by have e : lb ≤ j := e; omega))), rfl⟩
          · have q0 : (dn == 0) = false := beq_eq_false_iff_ne.2 z0
            by_cases z1 : r = 0
            case neg =>
              have q1 : (r != 0) = true := bne_iff_ne.2 z1
              have hx : exam size th d s = .error 161 := by
                unfold exam
                rw [if_pos (by rw [← HDK.out]; omega), if_pos (by rw [← HDN.out]; have := HRM.out; omega)]
              have hRR := nxt_exam HR.out hlz hx
              subst hRR
              clear hx
              go_wp2_with fail
              go_ret2
              exact ⟨(B5.out.trans (HK.out.below (B := w.heap.size) B5.out.size (fun j hj e => by have e : lb ≤ j := e; omega))), rfl⟩
            case pos =>
              have q1 : (r != 0) = false := by rw [z1]; rfl
              have hd0 : 0 < dn ∧ dn % 16 = 0 := by have := HRM.out; omega
              cases i with
              | false =>
                by_cases hc : ck = 0
                · have qc : (ck != 0) = false := by rw [hc]; rfl
                  have hx : exam size th d s = .ok { s with ins := true, las := true, at' := da, en := da + dn } := by
                    unfold exam
                    rw [if_pos (by rw [← HDK.out]; omega), if_neg (by rw [← HDN.out]; exact fun c => c ⟨hd0.1, hd0.2, .inl HI.out.symm⟩), if_neg (by rw [← HDA.out, ← HDN.out, ← HCE.out]; omega), ← HDK.out, ← HDA.out, ← HDN.out]
                    rfl
                  have HX := Lib.hid hx
                  have hfit : da + dn ≤ size := by
                    have h1 := HCE.out
                    rw [hc] at h1
                    exact (chk_ok (size := size) h1.symm).2
                  clear hx
                  go_upto_region 28 with (first
                    | ((with_reducible show wpList _ _ _ (⟨some 100, _, _, _, _, _⟩ :: _) _ _); refine wpList_loadA rfl HAM.out 45 (.tmp 4) rfl (by first | rfl | simp [Act.eval, Act.put]) Try.underlying45 rfl sizeRM ?_)
                    | (go_at_call 54; refine (HCK.out _).mono ?_; rintro e w3 ⟨rfl, hb3⟩; have HB3 := Lib.hid hb3; have hw3 := hb3.size; have x0 : w3.cell? ⟨lb, 0, none⟩ = _ := (hb3.cell (p := ⟨lb, 0, none⟩) hwz).trans c0; have x1 : w3.cell? ⟨lb, 1, none⟩ = _ := (hb3.cell (p := ⟨lb, 1, none⟩) hwz).trans c1; have x2 : w3.cell? ⟨lb, 2, none⟩ = _ := (hb3.cell (p := ⟨lb, 2, none⟩) hwz).trans c2; clear hb3))
                  go_region
                  all_goals
                    go_upto_region 29 with fail
                    go_region
                    all_goals
                      go_wp2_with fail
                      go_meet
                      exact ⟨_, HX.out, ⟨_, rfl, HFD.out⟩, rfl, rfl, rfl, rfl, HO.out.kept (row := none) ⟨HB3.out.os, HB3.out.tape, HB3.out.output, HB3.out.size, fun j hj _ => HB3.out.block j hj⟩ (by cases u10.ownBlock <;> simp), Keeps.of_below HB3.out.drew.drew⟩
                · have qc : (ck != 0) = true := bne_iff_ne.2 hc
                  have hx : exam size th d s = .error ck := by
                    unfold exam
                    rw [if_pos (by rw [← HDK.out]; omega), if_neg (by rw [← HDN.out]; exact fun c => c ⟨hd0.1, hd0.2, .inl HI.out.symm⟩), if_pos (by rw [← HDA.out, ← HDN.out, ← HCE.out]; exact hc), ← HDA.out, ← HDN.out, ← HCE.out]
                  have hRR := nxt_exam HR.out hlz hx
                  subst hRR
                  clear hx
                  go_wp2_with (first
                    | ((with_reducible show wpList _ _ _ (⟨some 100, _, _, _, _, _⟩ :: _) _ _); refine wpList_loadA rfl HAM.out 45 (.tmp 4) rfl (by first | rfl | simp [Act.eval, Act.put]) Try.underlying45 rfl sizeRM ?_)
                    | (go_at_call 54; refine (HCK.out _).mono ?_; rintro e w3 ⟨rfl, hb3⟩; have HB3 := Lib.hid hb3; have hw3 := hb3.size; have x0 : w3.cell? ⟨lb, 0, none⟩ = _ := (hb3.cell (p := ⟨lb, 0, none⟩) hwz).trans c0; have x1 : w3.cell? ⟨lb, 1, none⟩ = _ := (hb3.cell (p := ⟨lb, 1, none⟩) hwz).trans c1; have x2 : w3.cell? ⟨lb, 2, none⟩ = _ := (hb3.cell (p := ⟨lb, 2, none⟩) hwz).trans c2; clear hb3))
                  go_ret2
                  exact ⟨(B5.out.trans (HK.out.below (B := w.heap.size) B5.out.size (fun j hj e => by have e : lb ≤ j := e; omega))).trans (HB3.out.mono (by have := HK.out.size; have := B5.out.size; omega)), rfl⟩
              | true =>
                cases fn with
                | false =>
                  have hx : exam size th d s = .error 161 := by
                    unfold exam
                    rw [if_pos (by rw [← HDK.out]; omega), if_pos (by rw [← HDN.out]; intro c; rcases c.2.2 with e | e; (rw [← HI.out] at e; cases e); (have h := HFN.out; rw [e.2] at h; simp at h))]
                  have hRR := nxt_exam HR.out hlz hx
                  subst hRR
                  clear hx
                  go_wp2_with fail
                  go_ret2
                  exact ⟨(B5.out.trans (HK.out.below (B := w.heap.size) B5.out.size (fun j hj e => by have e : lb ≤ j := e; omega))), rfl⟩
                | true =>
                  cases l with
                  | true =>
                    have hx : exam size th d s = .error 161 := by
                      unfold exam
                      rw [if_pos (by rw [← HDK.out]; omega), if_pos (by rw [← HDN.out]; intro c; rcases c.2.2 with e | e; (rw [← HI.out] at e; cases e); (have h := e.1; rw [← HL.out] at h; cases h))]
                    have hRR := nxt_exam HR.out hlz hx
                    subst hRR
                    clear hx
                    go_wp2_with fail
                    go_ret2
                    exact ⟨(B5.out.trans (HK.out.below (B := w.heap.size) B5.out.size (fun j hj e => by have e : lb ≤ j := e; omega))), rfl⟩
                  | false =>
                    by_cases hc : ck = 0
                    · have qc : (ck != 0) = false := by rw [hc]; rfl
                      have hx : exam size th d s = .ok { s with ins := true, las := true, at' := da, en := da + dn } := by
                        unfold exam
                        rw [if_pos (by rw [← HDK.out]; omega), if_neg (by rw [← HDN.out]; exact fun c => c ⟨hd0.1, hd0.2, .inr ⟨HL.out.symm, beq_iff_eq.1 HFN.out.symm⟩⟩), if_neg (by rw [← HDA.out, ← HDN.out, ← HCE.out]; omega), ← HDK.out, ← HDA.out, ← HDN.out]
                        rfl
                      have HX := Lib.hid hx
                      have hfit : da + dn ≤ size := by
                        have h1 := HCE.out
                        rw [hc] at h1
                        exact (chk_ok (size := size) h1.symm).2
                      clear hx
                      go_upto_region 28 with (first
                        | ((with_reducible show wpList _ _ _ (⟨some 100, _, _, _, _, _⟩ :: _) _ _); refine wpList_loadA rfl HAM.out 45 (.tmp 4) rfl (by first | rfl | simp [Act.eval, Act.put]) Try.underlying45 rfl sizeRM ?_)
                        | (go_at_call 54; refine (HCK.out _).mono ?_; rintro e w3 ⟨rfl, hb3⟩; have HB3 := Lib.hid hb3; have hw3 := hb3.size; have x0 : w3.cell? ⟨lb, 0, none⟩ = _ := (hb3.cell (p := ⟨lb, 0, none⟩) hwz).trans c0; have x1 : w3.cell? ⟨lb, 1, none⟩ = _ := (hb3.cell (p := ⟨lb, 1, none⟩) hwz).trans c1; have x2 : w3.cell? ⟨lb, 2, none⟩ = _ := (hb3.cell (p := ⟨lb, 2, none⟩) hwz).trans c2; clear hb3))
                      go_region
                      all_goals
                        go_upto_region 29 with fail
                        go_region
                        all_goals
                          go_wp2_with fail
                          go_meet
                          exact ⟨_, HX.out, ⟨_, rfl, HFD.out⟩, rfl, rfl, rfl, rfl, HO.out.kept (row := none) ⟨HB3.out.os, HB3.out.tape, HB3.out.output, HB3.out.size, fun j hj _ => HB3.out.block j hj⟩ (by cases u10.ownBlock <;> simp), Keeps.of_below HB3.out.drew.drew⟩
                    · have qc : (ck != 0) = true := bne_iff_ne.2 hc
                      have hx : exam size th d s = .error ck := by
                        unfold exam
                        rw [if_pos (by rw [← HDK.out]; omega), if_neg (by rw [← HDN.out]; exact fun c => c ⟨hd0.1, hd0.2, .inr ⟨HL.out.symm, beq_iff_eq.1 HFN.out.symm⟩⟩), if_pos (by rw [← HDA.out, ← HDN.out, ← HCE.out]; exact hc), ← HDA.out, ← HDN.out, ← HCE.out]
                      have hRR := nxt_exam HR.out hlz hx
                      subst hRR
                      clear hx
                      go_wp2_with (first
                        | ((with_reducible show wpList _ _ _ (⟨some 100, _, _, _, _, _⟩ :: _) _ _); refine wpList_loadA rfl HAM.out 45 (.tmp 4) rfl (by first | rfl | simp [Act.eval, Act.put]) Try.underlying45 rfl sizeRM ?_)
                        | (go_at_call 54; refine (HCK.out _).mono ?_; rintro e w3 ⟨rfl, hb3⟩; have HB3 := Lib.hid hb3; have hw3 := hb3.size; have x0 : w3.cell? ⟨lb, 0, none⟩ = _ := (hb3.cell (p := ⟨lb, 0, none⟩) hwz).trans c0; have x1 : w3.cell? ⟨lb, 1, none⟩ = _ := (hb3.cell (p := ⟨lb, 1, none⟩) hwz).trans c1; have x2 : w3.cell? ⟨lb, 2, none⟩ = _ := (hb3.cell (p := ⟨lb, 2, none⟩) hwz).trans c2; clear hb3))
                      go_ret2
                      exact ⟨(B5.out.trans (HK.out.below (B := w.heap.size) B5.out.size (fun j hj e => by have e : lb ≤ j := e; omega))).trans (HB3.out.mono (by have := HK.out.size; have := B5.out.size; omega)), rfl⟩
        all_goals
          subst e
          by_cases hc : ck = 0
          · have qc : (ck != 0) = false := by rw [hc]; rfl
            have hx : exam size th d s = .ok (addS ⟨d.a, d.n, false⟩ s) := by
              unfold exam
              rw [if_neg (by rw [← HDK.out]; omega), if_neg (by rw [← HDK.out]; omega), if_neg (by rw [← HDA.out, ← HDN.out, ← HCE.out]; omega)]
            obtain ⟨km, hkm⟩ : ∃ z, z = min dn s.left := ⟨_, rfl⟩
            have hif : (if n - fd < dn then n - fd else dn) = km := by have := HFD.out; rw [hkm, Int.min_def]; split <;> split <;> omega
            have HKM := Lib.hid hkm
            have HIF := Lib.hid hif
            have HX := Lib.hid hx
            have hkl : km ≤ s.left := by rw [hkm]; exact Int.min_le_right _ _
            have hkb : 0 ≤ km := by rw [hkm, Int.min_def]; split <;> omega
            clear hkm hif hx
            go_upto_region 18 with (first
              | ((with_reducible show wpList _ _ _ (⟨some 51, _, _, _, _, _⟩ :: _) _ _); refine wpList_loadA rfl HAM.out 45 (.tmp 4) rfl (by first | rfl | simp [Act.eval, Act.put]) Try.underlying45 rfl sizeRM ?_)
              | (go_at_call 54; refine (HCK.out _).mono ?_; rintro e w3 ⟨rfl, hb3⟩; have HB3 := Lib.hid hb3; have hw3 := hb3.size; have x1 : w3.cell? ⟨lb, 1, none⟩ = _ := (hb3.cell (p := ⟨lb, 1, none⟩) hwz).trans c1; have x2 : w3.cell? ⟨lb, 2, none⟩ = _ := (hb3.cell (p := ⟨lb, 2, none⟩) hwz).trans c2; clear hb3))
            rw [HIF.out]
            by_cases hk0 : 0 < km
            · have qk : decide (0 < km) = true := decide_eq_true hk0
              have hown3 := HO.out.kept (w' := w3) (row := none) ⟨HB3.out.os, HB3.out.tape, HB3.out.output, HB3.out.size, fun j hj _ => HB3.out.block j hj⟩ (by cases u10.ownBlock <;> simp)
              have HO3 := Lib.hid hown3
              clear hown3
              have hfs : fd + km ≤ n := by have := HFD.out; omega
              go_wp2_with (at_builtin; refine wpList_append_lies _ rfl _ _ 43 rfl (lb + 1) 62 i0 _ 3 24 Try.underlying43 hi0 hz0 hz1 hz2 rfl (by decide) u10 s.out.length (spC s.out) rfl (HO3.out.alloc _) ⟨w3.heap.size, 0, none⟩ 1 1 [.int .u64 da, .int .i64 km, .bool false] rfl rfl (World.news_of_block (cs := #[.int .u64 da, .int .i64 km, .bool false]) (t := 62) (fr := (0, 0)) (heap_alloc_new w3 _)) (by simp [Value.oneCell']) (by decide) (by unfold maxLen; omega) (by omega) (by simp; omega) (w3.heap.size + 1) (by simp) ?_; intro gg cap w5 hown5 hgr5 hat5 hlt5; have HO5 := Lib.hid hown5; have HK5 := Lib.hid (push_keeps HB3.out HO.out (by omega) hgr5); clear hown5 hgr5 hat5)
              go_meet
              refine ⟨_, HX.out, ⟨_, rfl, ?_⟩, ?_, ?_, ?_, ?_, ?_, HK5.out⟩
              all_goals (unfold addS; rw [← HDN.out, ← HKM.out, if_pos hk0])
              · have := HFD.out; show fd + km = n - (s.left - km); omega
              · show Go.World.ownsRow _ _ _ _ _ _ _
                rw [← HDA.out, List.length_append, spC_append]
                exact HO5.out
            · have qk : decide (0 < km) = false := decide_eq_false hk0
              have HK0 := Lib.hid hk0
              go_wp2_with fail
              go_meet
              refine ⟨_, HX.out, ⟨_, rfl, ?_⟩, ?_, ?_, ?_, ?_, ?_, Keeps.of_below HB3.out⟩
              all_goals (unfold addS; rw [← HDN.out, ← HKM.out, if_neg (by have := HK0.out; omega)])
              · exact HFD.out
              · exact HO.out.kept (w' := w3) (row := none) ⟨HB3.out.os, HB3.out.tape, HB3.out.output, HB3.out.size, fun j hj _ => HB3.out.block j hj⟩ (by cases u10.ownBlock <;> simp)
          · have qc : (ck != 0) = true := bne_iff_ne.2 hc
            have hx : exam size th d s = .error ck := by
              unfold exam
              rw [if_neg (by rw [← HDK.out]; omega), if_neg (by rw [← HDK.out]; omega), if_pos (by rw [← HDA.out, ← HDN.out, ← HCE.out]; exact hc), ← HDA.out, ← HDN.out, ← HCE.out]
            have hRR := nxt_exam HR.out hlz hx
            subst hRR
            clear hx
            go_wp2_with (first
              | ((with_reducible show wpList _ _ _ (⟨some 51, _, _, _, _, _⟩ :: _) _ _); refine wpList_loadA rfl HAM.out 45 (.tmp 4) rfl (by first | rfl | simp [Act.eval, Act.put]) Try.underlying45 rfl sizeRM ?_)
              | (go_at_call 54; refine (HCK.out _).mono ?_; rintro e w3 ⟨rfl, hb3⟩; have HB3 := Lib.hid hb3; clear hb3))
            go_ret2
            exact ⟨(B5.out.trans (HK.out.below (B := w.heap.size) B5.out.size (fun j hj e => by have e : lb ≤ j := e; omega))).trans (HB3.out.mono (by have := HK.out.size; have := B5.out.size; omega)), rfl⟩
      case rest =>
        obtain ⟨s', hx, ⟨fd2, rfl, hfd2⟩, rfl, rfl, rfl, rfl, hown2, hK2⟩ := hcut
        have HX := Lib.hid hx
        have HF2 := Lib.hid hfd2
        have HO2 := Lib.hid hown2
        have hso2 := exam_ok hx HDO.out.a.1 HSO.out
        have HSO2 := Lib.hid hso2
        have hkc : Keeps (fun j => lb ≤ j) W5 wc := HK.out.trans (hK2.mono fun j _ h => by have h : lb + 1 ≤ j := h; show lb ≤ j; omega)
        have HKC := Lib.hid hkc
        have HA2 := Lib.hid (HA.out.kept hK2 (fun e => by have e : lb + 1 ≤ lb := e; omega))
        have HAM2 := Lib.hid (AM5.out.kept hkc (fun e => by have e : lb ≤ w.heap.size := e; omega))
        have HM2 := Lib.hid (HM5.out.kept hkc (fun b (hb : lb ≤ b) => by show w.heap.size ≤ b; omega))
        have hlw2 : w.heap.size ≤ wc.heap.size := by have := hkc.size; have := B5.out.size; omega
        have HBW := Lib.hid (B5.out.trans (hkc.below (B := w.heap.size) B5.out.size (fun j hj e => by have e : lb ≤ j := e; omega)))
        obtain ⟨l2, hl2⟩ : ∃ z, z = s'.left := ⟨_, rfl⟩
        obtain ⟨a0, ha0⟩ : ∃ z, z = s'.at' := ⟨_, rfl⟩
        obtain ⟨e0, he0⟩ : ∃ z, z = s'.en := ⟨_, rfl⟩
        have HL2 := Lib.hid hl2
        have HAT := Lib.hid ha0
        have HEN := Lib.hid he0
        have hae : a0 ≤ e0 := by rw [ha0, he0]; exact hso2.ae
        have ha00 : 0 ≤ a0 := by rw [ha0]; exact hso2.a0
        have hes : e0 ≤ size := by rw [he0]; exact hso2.es
        have hmm : (e0 - a0) % 16 = 0 := by rw [ha0, he0]; exact hso2.m
        have hl20 : 0 ≤ l2 := by rw [hl2]; exact hso2.l0
        rw [← ha0, ← he0]
        rw [← hl2] at hfd2
        have HFE := Lib.hid hfd2
        clear hx hown2 hso2 hK2 hkc hl2 ha0 he0 hfd2 HA HO HAM HMR c0 c1 c2 q2 q3
        by_cases hz2 : l2 = 0
        · have q2 : decide (n ≤ fd2) = true := decide_eq_true (by have := HFE.out; omega)
          have hRR := nxt_done HR.out hlz HX.out (by rw [← HL2.out]; exact hz2)
          subst hRR
          go_wp2_with fail
          go_ret2
          exact ⟨HBW.out, _, rfl, owns_less HO2.out (by omega)⟩
        · have q2 : decide (n ≤ fd2) = false := decide_eq_false (by have := HFE.out; omega)
          by_cases hlt : a0 < e0
          case neg =>
            have hRR := nxt_short HR.out hlz HX.out (by rw [← HL2.out]; exact hz2) (by rw [← HAT.out, ← HEN.out]; exact hlt)
            subst hRR
            have q3 : (a0 == e0) = true := beq_iff_eq.2 (by omega)
            go_wp2_with fail
            go_ret2
            exact ⟨HBW.out, rfl⟩
          case pos =>
            have q3 : (a0 == e0) = false := beq_eq_false_iff_ne.2 (by omega)
            by_cases hk3 : k = 1023
            · have q4 : decide ((1024 : Int) ≤ (k : Int) + 1) = true := decide_eq_true (by omega)
              have hRR := nxt_long HR.out hlz HX.out (by rw [← HL2.out]; exact hz2) (by rw [← HAT.out, ← HEN.out]; exact hlt) hk3
              subst hRR
              go_wp2_with fail
              go_ret2
              exact ⟨HBW.out, rfl⟩
            · have q4 : decide ((1024 : Int) ≤ (k : Int) + 1) = false := decide_eq_false (by omega)
              obtain ⟨r1, r2, r3⟩ := nxt_more HR.out hlz HX.out (by rw [← HL2.out]; exact hz2) (by rw [← HAT.out, ← HEN.out]; exact hlt) (by omega)
              obtain ⟨aN, rfl⟩ : ∃ m : Nat, a0 = m := ⟨a0.toNat, by omega⟩
              have eA : s'.at'.toNat = aN := by rw [← HAT.out]; rfl
              have eE : errAt f s'.at' = decE (hiW fun i => f (aN + i)) := by unfold errAt; rw [eA]
              have eD : dscAt f s'.at' = decD (hz (fun i => f (aN + i)) 7 8) (hiW fun i => f (aN + i)) := by unfold dscAt; rw [eA]
              rw [eE] at r1 r2 r3
              rw [eD] at r2 r3
              have hsz2 : aN + 16 ≤ size := by omega
              have hbf : Bytes fun i => f (aN + i) := fun i => HB.out _
              obtain ⟨no, hno⟩ : ∃ z, z = decE (hiW fun i => f (aN + i)) := ⟨_, rfl⟩
              obtain ⟨d', hd'⟩ : ∃ z, z = decD (hz (fun i => f (aN + i)) 7 8) (hiW fun i => f (aN + i)) := ⟨_, rfl⟩
              have hok' : d'.Ok := by rw [hd']; exact decD_ok _ _ (loW_bd hbf) (hiW_bd hbf)
              rw [← hno] at r1 r2 r3
              rw [← hd'] at r2 r3
              have HRD := Lib.hid (rread_ok _ _ size f L aN 16 wc HM2.out hsz hsz2)
              obtain ⟨D', hD'⟩ : ∃ z, z = d'.cells := ⟨_, rfl⟩
              have HPA := Lib.hid (show ∀ g o c W, Six W g o (fun i => f (aN + i)) → Calls Try.prog 37 #[.slice (some ⟨g, o, none⟩) 16 c] W fun e w' => e = .returned (.tuple #[.agg D', .int .i64 no]) ∧ Below W.heap.size W w' from fun g o c W h6 => by
                rw [hD', hd', hno]; exact parse_any _ g o c W hbf h6)
              have HD' := Lib.hid hD'
              have HS1 := Lib.hid (show D'.size = 4 by rw [hD']; rfl)
              have HO1 := Lib.hid (show D'.all (·.oneCell') = true by rw [hD']; exact d'.one)
              have HSZ' := Lib.hid (show (Try.prog.info? 26).map (·.size) = some D'.size by rw [hD']; exact sizeD)
              have HVA := Lib.hid (show ∀ r, vldD d' = r → ∀ W, Calls Try.prog 15 #[.agg D'] W fun e w' => e = .returned (.bool r) ∧ Below W.heap.size W w' from fun r hr W => by rw [hD']; exact rvalid_any d' r hr W hok')
              have HDT := Lib.hid hd'
              have HNO := Lib.hid hno
              clear hd' hno hD' hbf eA eE eD
              go_upto_region 43 with (first
                | ((with_reducible show wpList _ _ _ (⟨some 151, _, _, _, _, _⟩ :: _) _ _); refine wpList_loadA rfl HAM2.out 45 (.tmp 4) rfl (by first | rfl | simp [Act.eval, Act.put]) Try.underlying45 rfl sizeRM ?_)
                | (go_at_call 55; refine HRD.out.mono ?_; rintro e W6 ⟨sv, rfl, ⟨gb, capb, Fb, rfl, hgb, hrb, hnb, hcb, hxb⟩, hb6⟩; have H6 := Lib.hid (show Six W6 gb 0 (fun i => f (aN + i)) from fun i hi => by rw [Nat.zero_add, hrb.cell (by omega), hxb i hi]); have HB6 := Lib.hid hb6; clear hb6 hrb hxb)
                | (go_at_call 37; refine (HPA.out gb 0 capb W6 H6.out).mono ?_; rintro e W7 ⟨rfl, hb7⟩; have HB7 := Lib.hid (HB6.out.trans (hb7.mono HB6.out.size)); have A7 := Lib.hid (show ArrAt (W7.alloc (.cells zDsc.cells 26)) W7.heap.size zDsc.cells from ArrAt.fresh W7 zDsc.cells _ (by decide)); clear hb7)
                | ((with_reducible show wpList _ _ _ (⟨some 25, _, _, _, _, _⟩ :: _) _ _); refine wpList_alloc rfl 26 rfl zeroD ?_; rw [show (Value.agg zDsc.cells).cells = zDsc.cells from rfl])
                | ((with_reducible show wpList _ _ _ (⟨none, .store _ (.tmp 25) _, _, _, _, _⟩ :: _) _ _); refine wpList_storeA rfl (b := W7.heap.size) (A := zDsc.cells) (A' := D') A7.out 26 (.tmp 25) (.tmp 159) rfl (by simp [Act.eval, Act.put]) (by simp [Act.eval, Act.put]) (sizeDs _) (by rw [HS1.out]; rfl) HO1.out ?_))
              obtain ⟨W8, hW8⟩ : ∃ z, z = (W7.alloc (.cells zDsc.cells 26)).setCells W7.heap.size 0 D'.toList := ⟨_, rfl⟩
              have b8 : Below W7.heap.size W7 W8 := by rw [hW8]; exact bstore ((Below.refl _ _).alloc (Nat.le_refl _) _) _ (Nat.le_refl _) _ _
              have HA8 := Lib.hid (show ArrAt W8 W7.heap.size D' by rw [hW8]; exact A7.out.store D' (by rw [HS1.out]; rfl))
              have HB8 := Lib.hid (HB7.out.trans (b8.mono HB7.out.size))
              rw [← hW8]
              clear hW8 b8 A7
              have hl78 : wc.heap.size ≤ W7.heap.size := HB7.out.size
              have HBW8 := Lib.hid (HBW.out.trans (HB8.out.mono hlw2))
              by_cases hn : no = 0
              case neg =>
                have qn : (no != 0) = true := bne_iff_ne.2 hn
                have hRR := r1 hn
                subst hRR
                go_wp2_with fail
                go_ret2
                exact ⟨HBW8.out, rfl⟩
              case pos =>
                have qn : (no != 0) = false := by rw [hn]; rfl
                by_cases hv' : Vld d'
                case neg =>
                  have hRR := r2 hn hv'
                  subst hRR
                  go_wp2_with (first
                    | ((with_reducible show wpList _ _ _ (⟨some 164, _, _, _, _, _⟩ :: _) _ _); refine wpList_loadA rfl HA8.out 26 (.tmp 25) rfl (by first | rfl | simp [Act.eval, Act.put]) Try.underlying26 rfl HSZ'.out ?_)
                    | (go_at_call 15; refine (HVA.out false (decide_eq_false hv') _).mono ?_; rintro e W9 ⟨rfl, hb9⟩; have HB9 := Lib.hid (HBW8.out.trans (hb9.mono HBW8.out.size)); clear hb9))
                  go_ret2
                  exact ⟨HB9.out, rfl⟩
                case pos =>
                  have HRR := Lib.hid (r3 hn hv')
                  have HVD' := Lib.hid hv'
                  have HOK' := Lib.hid hok'
                  clear r1 r2 r3 hok'
                  have hw8 := HB8.out.size
                  obtain ⟨D2, hD2⟩ : ∃ z, z = d.cells := ⟨_, rfl⟩
                  have ha8 : ArrAt W8 lb d.cells := HA2.out.below HB8.out
                  rw [← hD2] at ha8
                  have HAL := Lib.hid ha8
                  have HSL := Lib.hid (show D2.size = 4 by rw [hD2]; rfl)
                  have HSZ2 := Lib.hid (show (Try.prog.info? 26).map (·.size) = some D2.size by rw [hD2]; exact sizeD)
                  clear hD2 ha8
                  go_wp2_with (first
                    | ((with_reducible show wpList _ _ _ (⟨some 164, _, _, _, _, _⟩ :: _) _ _); refine wpList_loadA rfl HA8.out 26 (.tmp 25) rfl (by first | rfl | simp [Act.eval, Act.put]) Try.underlying26 rfl HSZ'.out ?_)
                    | ((with_reducible show wpList _ _ _ (⟨some 167, _, _, _, _, _⟩ :: _) _ _); refine wpList_loadA rfl HA9.out 26 (.tmp 25) rfl (by first | rfl | simp [Act.eval, Act.put]) Try.underlying26 rfl HSZ'.out ?_)
                    | (go_at_call 15; refine (HVA.out true (decide_eq_true hv') _).mono ?_; rintro e W9 ⟨rfl, hb9⟩; have HB9 := Lib.hid hb9; have HA9 := Lib.hid (HA8.out.below hb9); have HAL9 := Lib.hid (HAL.out.below hb9); clear hb9)
                    | ((with_reducible show wpList _ _ _ (⟨none, .store _ (.tmp 13) _, _, _, _, _⟩ :: _) _ _); refine wpList_storeA rfl (b := lb) (A := D2) (A' := D') HAL9.out 26 (.tmp 13) (.tmp 167) rfl (by simp [Act.eval, Act.put]) (by simp [Act.eval, Act.put]) HSZ2.out (by rw [HS1.out, HSL.out]) HO1.out ?_))
                  obtain ⟨WE, hWE⟩ : ∃ z, z = W9.setCells lb 0 D'.toList := ⟨_, rfl⟩
                  have hbe : Below wc.heap.size wc W9 := HB8.out.trans (HB9.out.mono hw8)
                  have hke : Keeps (One lb) W9 WE := by rw [hWE]; exact Keeps.store (S := One lb) (Keeps.refl _ _) (fun _ => rfl) _ _
                  have HKE := Lib.hid (show Keeps (fun j => lb ≤ j) W5 WE from (HKC.out.trans (Keeps.of_below hbe)).trans (hke.mono fun j _ h => by have h : j = lb := h; show lb ≤ j; omega))
                  have HAE := Lib.hid (show ArrAt WE lb d'.cells by rw [hWE, ← HD'.out]; exact HAL9.out.store D' (by rw [HS1.out, HSL.out]))
                  have ho9 := HO2.out.kept (w' := W9) (row := none) ⟨hbe.os, hbe.tape, hbe.output, hbe.size, fun j hj _ => hbe.block j hj⟩ (by cases u10.ownBlock <;> simp)
                  have HOE := Lib.hid (show Go.World.ownsRow WE (lb + 1) 62 3 u10 s'.out.length (spC s'.out) from ownsRow_keeps ho9 hke (fun j hj e => by have e : j = lb := e; omega))
                  rw [← hWE]
                  clear hWE hbe hke ho9
                  have hso3 : WSt.Ok { s' with at' := s'.at' + 16 } size := ⟨by have := HAT.out; show 0 ≤ s'.at' + 16; omega, by have := HAT.out; have := HEN.out; show s'.at' + 16 ≤ s'.en; omega, HSO2.out.es, by have := HAT.out; have := HEN.out; show (s'.en - (s'.at' + 16)) % 16 = 0; omega, HSO2.out.l0, HSO2.out.l1⟩
                  have hln3 : ({ s' with at' := s'.at' + 16 } : WSt).left ≤ n := by have := HL2.out; have := HFE.out; show s'.left ≤ n; exact Int.le_trans (exam_left HX.out) hln
                  go_roundw
                  case rel =>
                    first
                      | exact ⟨k + 1, { s' with at' := s'.at' + 16 }, d', ⟨_, rfl, HF2.out⟩, (show Value.int IntKind.i64 ((k : Int) + 1) = .int .i64 ((k + 1 : Nat) : Int) by push_cast; rfl), (show Value.bool s'.ins = .bool s'.ins from rfl), (show Value.bool s'.las = .bool s'.las from rfl), (show Value.int IntKind.u64 ((aN : Int) + 16) = .int .u64 (s'.at' + 16) by rw [HAT.out]), (show Value.int IntKind.u64 e0 = .int .u64 s'.en by rw [HEN.out]), HOE.out, by omega, HKE.out, HAE.out, hso3, hln3, HOK'.out, HVD'.out, HRR.out⟩
                      | ((repeat apply Exists.intro); exact ⟨⟨k + 1, { s' with at' := s'.at' + 16 }, d', ⟨_, rfl, HF2.out⟩, (show Value.int IntKind.i64 ((k : Int) + 1) = .int .i64 ((k + 1 : Nat) : Int) by push_cast; rfl), (show Value.bool s'.ins = .bool s'.ins from rfl), (show Value.bool s'.las = .bool s'.las from rfl), (show Value.int IntKind.u64 ((aN : Int) + 16) = .int .u64 (s'.at' + 16) by rw [HAT.out]), (show Value.int IntKind.u64 e0 = .int .u64 s'.en by rw [HEN.out]), HOE.out, by omega, HKE.out, HAE.out, hso3, hln3, HOK'.out, HVD'.out, HRR.out⟩, rfl⟩)
                  case measure => simp [intOf]; omega
end
end Go.Proofs.Ytcljbmkdflkeeaa
