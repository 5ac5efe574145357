/- command: the law CommandBack. -/
import Derived.Test.YtggdjadhenamiaaBk
import Derived.Test.YtggdjadhenamiaaLPuts
import Derived.Test.YtggdjadhenamiaaLDecodes
namespace Go.Proofs.Ytggdjadhenamiaa
set_option linter.unusedVariables false
set_option linter.unusedSimpArgs false
open Go.RowKit Go.ChangeShapes Go.WideShapes Go.ChangeAt Go.Deep

set_option maxHeartbeats 2000000 in
theorem neqCmd (c : Cmd) (w : World) : (binOp .neq 28 c.v c.v).run Try.prog w = .ok (.bool false) w := by
  obtain ⟨op, fused, sgl, id, nsid, c2, c3, mt, d0, d1, w0, w1, w2, w3, w4, w5⟩ := c
  unfold Cmd.v Cmd.cells
  simp only []
  simp [go_sem, eqD2, eqC6]
set_option maxHeartbeats 2000000 in
theorem neqIo (x : Io) (w : World) : (binOp .neq 43 (.agg x.cells) (.agg x.cells)).run Try.prog w = .ok (.bool false) w := by
  obtain ⟨lba, bl, li, un, ck, rf, app, mask⟩ := x
  unfold Io.cells
  simp only []
  simp [go_sem]
theorem rng_sub {W : World} {b : Nat} {A : Array Value} (h : ArrAt W b A) (o : Nat) (cs : List Value) (hcs : ∀ j, j < cs.length → A[o + j]? = cs[j]?) : W.rangeAt b o cs := fun j v hv => by
  have hj : j < cs.length := (List.getElem?_eq_some_iff.1 hv).1
  exact h.cell ((hcs j hj).trans hv)
def cdwL (c : Cmd) : List Value := [.int .u32 c.w0, .int .u32 c.w1, .int .u32 c.w2, .int .u32 c.w3, .int .u32 c.w4, .int .u32 c.w5]
theorem cdw_sub (c : Cmd) : ∀ j, j < (cdwL c).length → c.cells[10 + j]? = (cdwL c)[j]? := by
  intro j hj
  have hj : j < 6 := hj
  match j, hj with
  | 0, _ => rfl
  | 1, _ => rfl
  | 2, _ => rfl
  | 3, _ => rfl
  | 4, _ => rfl
  | 5, _ => rfl
theorem put_back (c : Cmd) (x : Io) {W : World} {b : Nat} (h : ArrAt W b (putIo c x).cells) : ArrAt (W.setCells b 10 (cdwL c)) b c.cells := by
  have h2 := (((((h.set 10 (.int .u32 c.w0) (show 10 < 16 by omega)).set 11 (.int .u32 c.w1) (show 11 < 16 by omega)).set 12 (.int .u32 c.w2) (show 12 < 16 by omega)).set 13 (.int .u32 c.w3) (show 13 < 16 by omega)).set 14 (.int .u32 c.w4) (show 14 < 16 by omega)).set 15 (.int .u32 c.w5) (show 15 < 16 by omega)
  exact h2
theorem under6 : ∃ d, Try.prog.underlying 26 = some d ∧ d.isRow = true := ⟨_, Try.underlying26, rfl⟩
theorem size6 : (Try.prog.info? 26).map (·.size) = some 6 := by kernel_rfl

section
variable {P : Program} {ops : Array Oper} {Q : Exit → Act → World → Prop} {a : Act} {w : World} {rest : List Oper} {o : Oper}
/-- The load of an array that lies whole, under a guard that holds. -/
theorem wpList_loadAG (hw : Region.wanted o (yielded ops a.tmps) = true) {b : Nat} {A : Array Value} (H : ArrAt w b A) (ty : TypeId) (x : Operand) (ho : o.op = .load ty x) (hx : a.eval x = .pointer (some ⟨b, 0, none⟩)) {d : TypeDesc}
    (hu : P.underlying ty = some d) (hd : d.isRow = true) (hi : (P.info? ty).map (·.size) = some A.size) (h : wpList P ops Q rest (a.put o.dst (.agg A)) w) : wpList P ops Q (o :: rest) a w :=
  wpList_load_midG hw ty x ho b 0 hx A.toList d H.rng hu hd (by simpa using hi) (by simpa using h)
end

set_option maxRecDepth 100000 in
set_option maxHeartbeats 16000000 in
theorem backLaw (c : Cmd) (B : Nat → Int) (x : Io) (w : World) (hc : c.Ok) (hB : ∀ j, 0 ≤ B j ∧ B j ≤ 255) (hx : x.Ok) :
    Calls Try.prog 9 #[c.v, arrB64 B, .agg x.cells] w fun e w' => e = .returned (.bool true) ∧ Below w.heap.size w w' := by
  have HKN := Lib.hid known_any
  obtain ⟨C, hC⟩ : ∃ C, C = c.cells := ⟨_, rfl⟩
  obtain ⟨BA, hBA⟩ : ∃ A, A = arr 64 fun j => Value.int .u8 (B j) := ⟨_, rfl⟩
  obtain ⟨I, hI⟩ : ∃ I, I = x.cells := ⟨_, rfl⟩
  -- what the first part computes
  have S1 : (∃ Q : Array Value, BytesA 64 Q ∧ (∀ W, Calls Try.prog 10 #[.agg C] W fun e w' => e = .returned (.tuple #[.agg Q, .int .i64 0]) ∧ Below W.heap.size W w') ∧ (∀ W, Calls Try.prog 13 #[.agg Q] W fun e w' => e = .returned (.tuple #[.agg C, .int .i64 0]) ∧ Below W.heap.size W w')) ∨
      (∃ Q : Array Value, BytesA 64 Q ∧ (∀ W, Calls Try.prog 10 #[.agg C] W fun e w' => e = .returned (.tuple #[.agg Q, .int .i64 2]) ∧ Below W.heap.size W w')) := by
    rw [hC]
    by_cases hf : c.fused ≤ 2
    · refine .inl ⟨_, ⟨_, rfl⟩, fun W => cencode_any c W hc hf, fun W => ?_⟩
      have h := cdec_ok (cmdB c) W (cmdB_bd c hc hf) (cmdB_good c hc hf)
      rw [cmdB_back c hc hf] at h
      exact h
    · exact .inr ⟨_, ⟨fun _ => 0, rfl⟩, fun W => cencode_err c W hc (by omega)⟩
  have S2 : (∃ D : Array Value, D.size = 16 ∧ D.all (·.oneCell') = true ∧ (∀ W, Calls Try.prog 13 #[.agg BA] W fun e w' => e = .returned (.tuple #[.agg D, .int .i64 0]) ∧ Below W.heap.size W w') ∧ (∀ W, Calls Try.prog 10 #[.agg D] W fun e w' => e = .returned (.tuple #[.agg BA, .int .i64 0]) ∧ Below W.heap.size W w')) ∨
      (∃ D : Array Value, D.size = 16 ∧ D.all (·.oneCell') = true ∧ (∀ W, Calls Try.prog 13 #[.agg BA] W fun e w' => e = .returned (.tuple #[.agg D, .int .i64 6]) ∧ Below W.heap.size W w')) := by
    rw [hBA]
    by_cases hg : goodB B
    · obtain ⟨h1, h2⟩ := dCmd_ok B hB hg
      refine .inl ⟨(dCmd B).cells, rfl, Cmd.cells_one _, fun W => cdec_ok B W hB hg, fun W => ?_⟩
      have h := cencode_any (dCmd B) W h1 h2
      unfold cmdA at h
      rw [arr_congr (g := fun j => .int .u8 (B j)) (fun j hj => by rw [cmdB_dCmd B hB hg j hj])] at h
      exact h
    · exact .inr ⟨zCmdC, rfl, by simp [zCmdC, Value.oneCell'], fun W => cdec_bad B W hB hg⟩
  have S3 : (∃ V : Array Value, V.size = 16 ∧ V.all (·.oneCell') = true ∧ (∀ W, Calls Try.prog 15 #[.agg C, .agg I] W fun e w' => e = .returned (.tuple #[.agg V, .int .i64 0]) ∧ Below W.heap.size W w') ∧ (∀ W, Calls Try.prog 25 #[.agg V] W fun e w' => e = .returned (.agg I) ∧ Below W.heap.size W w') ∧
        (∃ a b3 b2 : Int, V[12]? = some (.int .u32 a) ∧ V[13]? = some (.int .u32 b3) ∧ C[12]? = some (.int .u32 b2) ∧ C[13]? = some (.int .u32 b3) ∧ a / 65536 % 1024 = b2 / 65536 % 1024 ∧ (0 ≤ a ∧ a ≤ 4294967295) ∧ (0 ≤ b2 ∧ b2 ≤ 4294967295)) ∧ ∃ cs : List Value, cs.length = 6 ∧ (∀ v ∈ cs, v.oneCell' = true) ∧ (∀ j, j < cs.length → C[10 + j]? = cs[j]?) ∧ ∀ (W : World) (b : Nat), ArrAt W b V → ArrAt (W.setCells b 10 cs) b C) ∨
      (∃ V : Array Value, V.size = 16 ∧ V.all (·.oneCell') = true ∧ (∀ W, Calls Try.prog 15 #[.agg C, .agg I] W fun e w' => e = .returned (.tuple #[.agg V, .int .i64 2]) ∧ Below W.heap.size W w')) := by
    rw [hC, hI]
    by_cases hg : x.good
    · obtain ⟨k1, k2, k3⟩ := io_back c x hc hx hg
      refine .inl ⟨(putIo c x).cells, rfl, Cmd.cells_one _, fun W => putio_ok c x hc hx hg W, fun W => ?_, ⟨_, _, _, rfl, rfl, rfl, rfl, k2, k3.w2, hc.w2⟩, cdwL c, rfl, ?_, cdw_sub c, fun W b h => put_back c x h⟩
      · have h := getio_any (putIo c x) k3 W
        rw [k1] at h
        exact h
      · intro v hv
        simp [cdwL] at hv
        rcases hv with rfl | rfl | rfl | rfl | rfl | rfl <;> rfl
    · exact .inr ⟨zCmdC, rfl, by simp [zCmdC, Value.oneCell'], fun W => putio_err c x hc hx hg W⟩
  have hq1 := fun w => neqCmd c w
  have hq2 := fun w => eqCmd c w
  have hq3 := fun w => neqIo x w
  have hbb : BytesA 64 BA := ⟨B, hBA⟩
  have hq4 := fun w => hbb.neq64 w
  unfold Cmd.v at hq1 hq2 ⊢
  unfold arrB64
  obtain ⟨w1, hw1⟩ : ∃ w1, w1 = ((w.alloc (.cells C 28)).alloc (.cells BA 29)).alloc (.cells I 43) := ⟨_, rfl⟩
  rw [← hC] at hq1 hq2 ⊢
  rw [← hI] at hq3 ⊢
  rw [← hBA]
  have hCs : C.size = 16 := by rw [hC]; rfl
  have hBs : BA.size = 64 := hbb.size
  have hIs : I.size = 8 := by rw [hI]; rfl
  have AC : ArrAt w1 w.heap.size C := by rw [hw1]; exact ((ArrAt.fresh _ _ _ (by omega)).alloc _).alloc _
  have AB : ArrAt w1 (w.heap.size + 1) BA := by
    rw [hw1]
    have := (ArrAt.fresh (w.alloc (.cells C 28)) BA 29 (by omega)).alloc (.cells I 43)
    rwa [World.size_alloc] at this
  have AI : ArrAt w1 (w.heap.size + 1 + 1) I := by
    rw [hw1]
    have := ArrAt.fresh ((w.alloc (.cells C 28)).alloc (.cells BA 29)) I 43 (by omega)
    rwa [World.size_alloc, World.size_alloc] at this
  have B1 : Below w.heap.size w w1 := by rw [hw1]; exact (((Below.refl _ _).alloc (Nat.le_refl _) _).alloc (by simp) _).alloc (by simp; omega) _
  have z := zeroCmd
  have z64 := zero64
  obtain ⟨Z, hZ⟩ : ∃ Z, Z = zCmdC := ⟨_, rfl⟩
  obtain ⟨Z64, hZ64⟩ : ∃ Z, Z = arr 64 z8 := ⟨_, rfl⟩
  rw [← hZ] at z
  rw [← hZ64] at z64
  have ZS := Lib.hid (show Z.size = 16 by rw [hZ]; rfl)
  have ZS64 := Lib.hid (show Z64.size = 64 by rw [hZ64, arr_size])
  have ZP := Lib.hid (show 0 < Z.size by rw [ZS.out]; omega)
  have ZP64 := Lib.hid (show 0 < Z64.size by rw [ZS64.out]; omega)
  have HSC := Lib.hid (show ∀ A : Array Value, A.size = 16 → (Try.prog.info? 28).map (·.size) = some A.size from fun A h => by rw [h]; exact sizeCmd)
  have HSB := Lib.hid (show ∀ A : Array Value, A.size = 64 → (Try.prog.info? 29).map (·.size) = some A.size from fun A h => by rw [h]; exact size64)
  have HSI := Lib.hid (show (Try.prog.info? 43).map (·.size) = some I.size by rw [hIs]; exact sizeIo)
  have CS := Lib.hid hCs
  have BS := Lib.hid hBs
  have C1 := Lib.hid (show C.all (·.oneCell') = true by rw [hC]; exact Cmd.cells_one c)
  have BB1 := Lib.hid hbb.one
  have HAC := Lib.hid AC
  have HAB := Lib.hid AB
  have HAI := Lib.hid AI
  have HB1 := Lib.hid B1
  have HW1 := Lib.hid hw1
  have HS2 := Lib.hid S2
  have HS3 := Lib.hid S3
  have HQ2 := Lib.hid hq2
  obtain ⟨d, hd1, hd2⟩ := underCmd
  obtain ⟨d', hd3, hd4⟩ := underIo
  obtain ⟨d2, hd5, hd6⟩ := under64
  clear AC AB AI B1 hw1 hZ hZ64 hC hI hBA hbb hCs hBs hIs S2 S3 hq2 hB hc hx
  rcases S1 with ⟨Q, hqb, he, hd⟩ | ⟨Q, hqb, he⟩
  · have QS := Lib.hid hqb.size
    have Q1 := Lib.hid hqb.one
    have HE1 := Lib.hid he
    have HD1 := Lib.hid hd
    clear hd
    clear hqb he
    go_enter Try.func9, Try.ntmps9
    go_upto_region 1 with fail
    rw [← HW1.out]
    go_upto_region 2 with (first
      | ((with_reducible show wpList _ _ _ (⟨some 18, _, _, _, _, _⟩ :: _) _ _); refine wpList_loadA rfl HAC.out 28 (.tmp 3) rfl (by first | rfl | simp [Act.eval, Act.put]) hd1 hd2 (HSC.out _ CS.out) ?_)
      | (go_at_call 10; refine (HE1.out _).mono ?_; rintro e w2 ⟨rfl, hb⟩; have AC2 := Lib.hid (HAC.out.below hb); have AB2 := Lib.hid (HAB.out.below hb); have AI2 := Lib.hid (HAI.out.below hb); have Bw2 := Lib.hid (HB1.out.trans (hb.mono HB1.out.size)); clear hb)
      | ((with_reducible show wpList _ _ _ (⟨some 7, _, _, _, _, _⟩ :: _) _ _); refine wpList_alloc rfl _ rfl z64 ?_)
      | ((with_reducible show wpList _ _ _ (⟨none, .store _ (.tmp 7) _, _, _, _, _⟩ :: _) _ _); refine wpList_storeA rfl (b := w2.heap.size) (A := Z64) (A' := Q) (ArrAt.fresh _ _ _ ZP64.out) 29 (.tmp 7) (.tmp 20) rfl rfl rfl (HSB.out _ ZS64.out) (QS.out.trans ZS64.out.symm) Q1.out ?_))
    obtain ⟨w3, hw3⟩ : ∃ z, z = (w2.alloc (.cells Z64 29)).setCells w2.heap.size 0 Q.toList := ⟨_, rfl⟩
    obtain ⟨b7, hb3⟩ : ∃ z, z = w2.heap.size := ⟨_, rfl⟩
    rw [← hw3, ← hb3]
    have hbw3 : Below w2.heap.size w2 w3 := by rw [hw3]; exact bstore ((Below.refl _ _).alloc (Nat.le_refl _) _) _ (Nat.le_refl _) _ _
    have A7 := Lib.hid (show ArrAt w3 b7 Q by rw [hw3, hb3]; exact (ArrAt.fresh _ _ _ (by rw [ZS64.out]; omega)).store Q (by rw [QS.out, ZS64.out]))
    have AC3 := Lib.hid (AC2.out.below hbw3)
    have AB3 := Lib.hid (AB2.out.below hbw3)
    have AI3 := Lib.hid (AI2.out.below hbw3)
    have Bw3 := Lib.hid (Bw2.out.trans (hbw3.mono Bw2.out.size))
    clear hw3 hbw3 hb3
    clear AC2 AB2 AI2 Bw2
    go_upto_region 4 with (first
      | ((with_reducible show wpList _ _ _ (⟨some 25, _, _, _, _, _⟩ :: _) _ _); refine wpList_loadA rfl A7.out 29 (.tmp 7) rfl (by first | rfl | simp [Act.eval, Act.put]) hd5 hd6 (HSB.out _ QS.out) ?_)
      | (go_at_call 13; refine (HD1.out _).mono ?_; rintro e w4 ⟨rfl, hb⟩; have AC4 := Lib.hid (AC3.out.below hb); have AB4 := Lib.hid (AB3.out.below hb); have AI4 := Lib.hid (AI3.out.below hb); have Bw4 := Lib.hid (Bw3.out.trans (hb.mono Bw3.out.size)); clear hb)
      | ((with_reducible show wpList _ _ _ (⟨some 9, _, _, _, _, _⟩ :: _) _ _); refine wpList_alloc rfl _ rfl z ?_)
      | ((with_reducible show wpList _ _ _ (⟨none, .store _ (.tmp 9) _, _, _, _, _⟩ :: _) _ _); refine wpList_storeA rfl (b := w4.heap.size) (A := Z) (A' := C) (ArrAt.fresh _ _ _ ZP.out) 28 (.tmp 9) (.tmp 27) rfl rfl rfl (HSC.out _ ZS.out) (CS.out.trans ZS.out.symm) C1.out ?_))
    obtain ⟨w5, hw3⟩ : ∃ z, z = (w4.alloc (.cells Z 28)).setCells w4.heap.size 0 C.toList := ⟨_, rfl⟩
    obtain ⟨b9, hb3⟩ : ∃ z, z = w4.heap.size := ⟨_, rfl⟩
    rw [← hw3, ← hb3]
    have hbw3 : Below w4.heap.size w4 w5 := by rw [hw3]; exact bstore ((Below.refl _ _).alloc (Nat.le_refl _) _) _ (Nat.le_refl _) _ _
    have A9 := Lib.hid (show ArrAt w5 b9 C by rw [hw3, hb3]; exact (ArrAt.fresh _ _ _ (by rw [ZS.out]; omega)).store C (by rw [CS.out, ZS.out]))
    have AC5 := Lib.hid (AC4.out.below hbw3)
    have AB5 := Lib.hid (AB4.out.below hbw3)
    have AI5 := Lib.hid (AI4.out.below hbw3)
    have Bw5 := Lib.hid (Bw4.out.trans (hbw3.mono Bw4.out.size))
    clear hw3 hbw3 hb3
    clear AC4 AB4 AI4 Bw4 AC3 AB3 AI3 Bw3 A7
    go_upto_region 6 with (first
      | ((with_reducible show wpList _ _ _ (⟨some 32, _, _, _, _, _⟩ :: _) _ _); refine wpList_loadAG (by rfl) A9.out 28 (.tmp 9) rfl (by first | rfl | simp [Act.eval, Act.put]) hd1 hd2 (HSC.out _ CS.out) ?_)
      | ((with_reducible show wpList _ _ _ (⟨some 33, _, _, _, _, _⟩ :: _) _ _); refine wpList_loadAG (by rfl) AC5.out 28 (.tmp 3) rfl (by first | rfl | simp [Act.eval, Act.put]) hd1 hd2 (HSC.out _ CS.out) ?_))
    clear A9 hq1
    rcases HS2.out with ⟨D, hds, hdd, hd, he⟩ | ⟨D, hds, hdd, hd⟩
    · have DS := Lib.hid hds
      have D1 := Lib.hid hdd
      have HD2 := Lib.hid hd
      have HE2 := Lib.hid he
      clear he
      clear hds hdd hd HS2
      go_upto_region 7 with (first
        | ((with_reducible show wpList _ _ _ (⟨some 37, _, _, _, _, _⟩ :: _) _ _); refine wpList_loadA rfl AB5.out 29 (.tmp 4) rfl (by first | rfl | simp [Act.eval, Act.put]) hd5 hd6 (HSB.out _ BS.out) ?_)
        | (go_at_call 13; refine (HD2.out _).mono ?_; rintro e w6 ⟨rfl, hb⟩; have AC6 := Lib.hid (AC5.out.below hb); have AB6 := Lib.hid (AB5.out.below hb); have AI6 := Lib.hid (AI5.out.below hb); have Bw6 := Lib.hid (Bw5.out.trans (hb.mono Bw5.out.size)); clear hb)
        | ((with_reducible show wpList _ _ _ (⟨some 11, _, _, _, _, _⟩ :: _) _ _); refine wpList_alloc rfl _ rfl z ?_)
        | ((with_reducible show wpList _ _ _ (⟨none, .store _ (.tmp 11) _, _, _, _, _⟩ :: _) _ _); refine wpList_storeA rfl (b := w6.heap.size) (A := Z) (A' := D) (ArrAt.fresh _ _ _ ZP.out) 28 (.tmp 11) (.tmp 39) rfl rfl rfl (HSC.out _ ZS.out) (DS.out.trans ZS.out.symm) D1.out ?_))
      obtain ⟨w7, hw3⟩ : ∃ z, z = (w6.alloc (.cells Z 28)).setCells w6.heap.size 0 D.toList := ⟨_, rfl⟩
      obtain ⟨b11, hb3⟩ : ∃ z, z = w6.heap.size := ⟨_, rfl⟩
      rw [← hw3, ← hb3]
      have hbw3 : Below w6.heap.size w6 w7 := by rw [hw3]; exact bstore ((Below.refl _ _).alloc (Nat.le_refl _) _) _ (Nat.le_refl _) _ _
      have A11 := Lib.hid (show ArrAt w7 b11 D by rw [hw3, hb3]; exact (ArrAt.fresh _ _ _ (by rw [ZS.out]; omega)).store D (by rw [DS.out, ZS.out]))
      have AC7 := Lib.hid (AC6.out.below hbw3)
      have AB7 := Lib.hid (AB6.out.below hbw3)
      have AI7 := Lib.hid (AI6.out.below hbw3)
      have Bw7 := Lib.hid (Bw6.out.trans (hbw3.mono Bw6.out.size))
      clear hw3 hbw3 hb3
      clear AC6 AB6 AI6 Bw6 AC5 AB5 AI5 Bw5
      go_upto_region 9 with (first
        | ((with_reducible show wpList _ _ _ (⟨some 44, _, _, _, _, _⟩ :: _) _ _); refine wpList_loadA rfl A11.out 28 (.tmp 11) rfl (by first | rfl | simp [Act.eval, Act.put]) hd1 hd2 (HSC.out _ DS.out) ?_)
        | (go_at_call 10; refine (HE2.out _).mono ?_; rintro e w8 ⟨rfl, hb⟩; have AC8 := Lib.hid (AC7.out.below hb); have AB8 := Lib.hid (AB7.out.below hb); have AI8 := Lib.hid (AI7.out.below hb); have Bw8 := Lib.hid (Bw7.out.trans (hb.mono Bw7.out.size)); clear hb)
        | ((with_reducible show wpList _ _ _ (⟨some 13, _, _, _, _, _⟩ :: _) _ _); refine wpList_alloc rfl _ rfl z64 ?_)
        | ((with_reducible show wpList _ _ _ (⟨none, .store _ (.tmp 13) _, _, _, _, _⟩ :: _) _ _); refine wpList_storeA rfl (b := w8.heap.size) (A := Z64) (A' := BA) (ArrAt.fresh _ _ _ ZP64.out) 29 (.tmp 13) (.tmp 46) rfl rfl rfl (HSB.out _ ZS64.out) (BS.out.trans ZS64.out.symm) BB1.out ?_))
      obtain ⟨w9, hw3⟩ : ∃ z, z = (w8.alloc (.cells Z64 29)).setCells w8.heap.size 0 BA.toList := ⟨_, rfl⟩
      obtain ⟨b13, hb3⟩ : ∃ z, z = w8.heap.size := ⟨_, rfl⟩
      rw [← hw3, ← hb3]
      have hbw3 : Below w8.heap.size w8 w9 := by rw [hw3]; exact bstore ((Below.refl _ _).alloc (Nat.le_refl _) _) _ (Nat.le_refl _) _ _
      have A13 := Lib.hid (show ArrAt w9 b13 BA by rw [hw3, hb3]; exact (ArrAt.fresh _ _ _ (by rw [ZS64.out]; omega)).store BA (by rw [BS.out, ZS64.out]))
      have AC9 := Lib.hid (AC8.out.below hbw3)
      have AB9 := Lib.hid (AB8.out.below hbw3)
      have AI9 := Lib.hid (AI8.out.below hbw3)
      have Bw9 := Lib.hid (Bw8.out.trans (hbw3.mono Bw8.out.size))
      clear hw3 hbw3 hb3
      clear AC8 AB8 AI8 Bw8 AC7 AB7 AI7 Bw7 A11
      go_upto_region 11 with (first
        | ((with_reducible show wpList _ _ _ (⟨some 51, _, _, _, _, _⟩ :: _) _ _); refine wpList_loadAG (by rfl) A13.out 29 (.tmp 13) rfl (by first | rfl | simp [Act.eval, Act.put]) hd5 hd6 (HSB.out _ BS.out) ?_)
        | ((with_reducible show wpList _ _ _ (⟨some 52, _, _, _, _, _⟩ :: _) _ _); refine wpList_loadAG (by rfl) AB9.out 29 (.tmp 4) rfl (by first | rfl | simp [Act.eval, Act.put]) hd5 hd6 (HSB.out _ BS.out) ?_))
      clear A13 hq4
      rcases HS3.out with ⟨V, hvs, hv1, hp, hg, hex, hcs⟩ | ⟨V, hvs, hv1, hp⟩
      · have VS := Lib.hid hvs
        have V1 := Lib.hid hv1
        have HP := Lib.hid hp
        have HG := Lib.hid hg
        have HEX := Lib.hid hex
        have HCS := Lib.hid hcs
        clear hvs hv1 hp hg hex hcs HS3
        go_upto_region 12 with (first
          | ((with_reducible show wpList _ _ _ (⟨some 56, _, _, _, _, _⟩ :: _) _ _); refine wpList_loadA rfl AC9.out 28 (.tmp 3) rfl (by first | rfl | simp [Act.eval, Act.put]) hd1 hd2 (HSC.out _ CS.out) ?_)
          | ((with_reducible show wpList _ _ _ (⟨some 57, _, _, _, _, _⟩ :: _) _ _); refine wpList_loadA rfl AI9.out 43 (.tmp 5) rfl (by first | rfl | simp [Act.eval, Act.put]) hd3 hd4 HSI.out ?_)
          | (go_at_call 15; refine (HP.out _).mono ?_; rintro e wA ⟨rfl, hb⟩; have ACa := Lib.hid (AC9.out.below hb); have AIa := Lib.hid (AI9.out.below hb); have BwA := Lib.hid (Bw9.out.trans (hb.mono Bw9.out.size)); clear hb)
          | ((with_reducible show wpList _ _ _ (⟨some 15, _, _, _, _, _⟩ :: _) _ _); refine wpList_alloc rfl _ rfl z ?_)
          | ((with_reducible show wpList _ _ _ (⟨none, .store _ (.tmp 15) _, _, _, _, _⟩ :: _) _ _); refine wpList_storeA rfl (b := wA.heap.size) (A := Z) (A' := V) (ArrAt.fresh _ _ _ ZP.out) 28 (.tmp 15) (.tmp 59) rfl rfl rfl (HSC.out _ ZS.out) (VS.out.trans ZS.out.symm) V1.out ?_))
        obtain ⟨wB, hw3⟩ : ∃ z, z = (wA.alloc (.cells Z 28)).setCells wA.heap.size 0 V.toList := ⟨_, rfl⟩
        obtain ⟨b15, hb3⟩ : ∃ z, z = wA.heap.size := ⟨_, rfl⟩
        rw [← hw3, ← hb3]
        have hbw3 : Below wA.heap.size wA wB := by rw [hw3]; exact bstore ((Below.refl _ _).alloc (Nat.le_refl _) _) _ (Nat.le_refl _) _ _
        have A15 := Lib.hid (show ArrAt wB b15 V by rw [hw3, hb3]; exact (ArrAt.fresh _ _ _ (by rw [ZS.out]; omega)).store V (by rw [VS.out, ZS.out]))
        have ACb := Lib.hid (ACa.out.below hbw3)
        have AIb := Lib.hid (AIa.out.below hbw3)
        have BwB := Lib.hid (BwA.out.trans (hbw3.mono BwA.out.size))
        have HNE := Lib.hid (show w.heap.size < b15 by rw [hb3]; exact ACa.out.lt)
        clear hw3 hbw3 hb3
        clear ACa AIa BwA AC9 AB9 AI9 Bw9
        obtain ⟨a, b3, b2, e1, e2, e3, e4, e5, e6, e7⟩ := HEX.out
        have HGI := Lib.hid (show ∀ p : InC (Below wB.heap.size wB), Calls Try.prog 25 #[.agg V] p.w fun e w' => e = .returned (.agg I) ∧ Below wB.heap.size wB w' from fun p => (HG.out p.w).mono fun e w' h => ⟨h.1, p.ok.trans (h.2.mono p.ok.size)⟩)
        have hnon : Nonempty (InC (Below wB.heap.size wB)) := ⟨⟨wB, Below.refl _ _⟩⟩
        have k1 : ∀ p : InC (Below wB.heap.size wB), p.w.cell? ⟨b15, 12, none⟩ = some (.int .u32 a) := fun p => (A15.out.below p.ok).cell e1
        have k2 : ∀ p : InC (Below wB.heap.size wB), p.w.cell? ⟨b15, 13, none⟩ = some (.int .u32 b3) := fun p => (A15.out.below p.ok).cell e2
        have k3 : ∀ p : InC (Below wB.heap.size wB), p.w.cell? ⟨w.heap.size, 12, none⟩ = some (.int .u32 b2) := fun p => (ACb.out.below p.ok).cell e3
        have k4 : ∀ p : InC (Below wB.heap.size wB), p.w.cell? ⟨w.heap.size, 13, none⟩ = some (.int .u32 b3) := fun p => (ACb.out.below p.ok).cell e4
        obtain ⟨a0, a1⟩ := e6
        obtain ⟨c0, c1⟩ := e7
        have q7 : (a / 65536 % 1024 != b2 / 65536 % 1024) = false := by simp [e5]
        have q7' : (a / 65536 % 1024 == b2 / 65536 % 1024) = true := by simp [e5]
        have E5 := Lib.hid e5
        clear e1 e2 e3 e4 e5
        go_upto_region 14 with fail
        refine wp_quiet_in (Below wB.heap.size wB) (Below.refl _ _).drew (by kernel_rfl) (by kernel_rfl) ?_
        repeat (first
          | ((with_reducible show wpQuiet _ _ _ _ (⟨some 64, .load _ _, _, _, _, _⟩ :: _) _); refine wpQuiet_load rfl 28 (.tmp 15) rfl (.pointer (some ⟨b15, 0, none⟩)) rfl (fun w' hp => by obtain ⟨p, rfl⟩ := hp; exact (A15.out.below p.ok).loadAt hd1 hd2 (HSC.out _ VS.out)) ?_; simp only [Act.put, List.setIfInBounds_toArray, List.set_cons_succ, List.set_cons_zero])
          | ((with_reducible show wpQuiet _ _ _ _ (⟨some 66, .load _ _, _, _, _, _⟩ :: _) _); refine wpQuiet_load rfl 43 (.tmp 5) rfl (.pointer (some ⟨w.heap.size + 1 + 1, 0, none⟩)) rfl (fun w' hp => by obtain ⟨p, rfl⟩ := hp; exact (AIb.out.below p.ok).loadAt hd3 hd4 HSI.out) ?_; simp only [Act.put, List.setIfInBounds_toArray, List.set_cons_succ, List.set_cons_zero])
          | (go_big_quiet_step (with_reducible exact calls_in (HGI.out _))))
        refine wpQuiet_nil ?_
        intro _ hw'
        obtain ⟨p, hw''⟩ := hw'
        subst hw''
        have ACp := Lib.hid (ACb.out.below p.ok)
        have A15p := Lib.hid (A15.out.below p.ok)
        have Bp := Lib.hid (BwB.out.trans (p.ok.mono BwB.out.size))
        obtain ⟨wP, hwP⟩ : ∃ z, z = p.w := ⟨_, rfl⟩
        rw [← hwP] at ACp A15p Bp ⊢
        clear hwP k1 k2 k3 k4 hnon HGI
        clear p
        obtain ⟨cs, s1, s2, s3, s4⟩ := HCS.out
        have R := Lib.hid (rng_sub ACp.out 10 cs s3)
        have A15q := Lib.hid (s4 wP b15 A15p.out)
        have hk : Keeps (One b15) wP (wP.setCells b15 10 cs) := Keeps.store (S := One b15) (Keeps.refl _ _) (fun _ => rfl) _ _
        have hne : b15 ≠ w.heap.size := by have := HNE.out; omega
        have ACq := Lib.hid (ACp.out.kept hk (fun e => hne (by have e : w.heap.size = b15 := e; exact e.symm)))
        have Bq := Lib.hid (bstore Bp.out b15 (by have := HNE.out; omega) cs 10)
        have TH := Lib.hid (show wP.there b15 10 cs.toArray.size from fun j hj => by
          have hj : j < 6 := by rw [← s1]; simpa using hj
          exact (by have h := A15p.out.th (10 + j) (by rw [VS.out]; omega); rwa [Nat.zero_add] at h))
        have S1 := Lib.hid s1
        have S2 := Lib.hid s2
        have hq2 := HQ2.out
        obtain ⟨d9, hd7, hd8⟩ := under6
        clear s1 s2 s3 s4 hk hne
        go_wp2_with (first
          | ((with_reducible show wpList _ _ _ (⟨some 91, _, _, _, _, _⟩ :: _) _ _); refine wpList_load_mid rfl 26 (.tmp 90) rfl w.heap.size 10 (by first | rfl | simp [Act.eval, Act.put]) cs _ R.out hd7 hd8 (by rw [S1.out]; exact size6) ?_)
          | ((with_reducible show wpList _ _ _ (⟨none, .store _ (.tmp 92) _, _, _, _, _⟩ :: _) _ _); refine wpList_store_mid rfl 26 (.tmp 92) (.tmp 91) rfl b15 10 cs.toArray (by first | rfl | simp [Act.eval, Act.put]) (by first | rfl | simp [Act.eval, Act.put]) TH.out (by rw [List.size_toArray, S1.out]; exact size6) (all_oneCell_toArray S2.out) ?_)
          | ((with_reducible show wpList _ _ _ (⟨some 93, _, _, _, _, _⟩ :: _) _ _); refine wpList_loadA rfl A15q.out 28 (.tmp 15) rfl (by first | rfl | simp [Act.eval, Act.put]) hd1 hd2 (HSC.out _ CS.out) ?_)
          | ((with_reducible show wpList _ _ _ (⟨some 94, _, _, _, _, _⟩ :: _) _ _); refine wpList_loadA rfl ACq.out 28 (.tmp 3) rfl (by first | rfl | simp [Act.eval, Act.put]) hd1 hd2 (HSC.out _ CS.out) ?_)
          | (go_at_call 12; refine (HKN.out _).mono ?_; rintro e w6 ⟨rfl, hb⟩; have B6 := Lib.hid (Bq.out.trans (hb.mono Bq.out.size)); clear hb))
        go_ret
        exact ⟨rfl, B6.out⟩
      · have VS := Lib.hid hvs
        have V1 := Lib.hid hv1
        have HP := Lib.hid hp
        clear hvs hv1 hp HS3
        go_upto_region 12 with (first
          | ((with_reducible show wpList _ _ _ (⟨some 56, _, _, _, _, _⟩ :: _) _ _); refine wpList_loadA rfl AC9.out 28 (.tmp 3) rfl (by first | rfl | simp [Act.eval, Act.put]) hd1 hd2 (HSC.out _ CS.out) ?_)
          | ((with_reducible show wpList _ _ _ (⟨some 57, _, _, _, _, _⟩ :: _) _ _); refine wpList_loadA rfl AI9.out 43 (.tmp 5) rfl (by first | rfl | simp [Act.eval, Act.put]) hd3 hd4 HSI.out ?_)
          | (go_at_call 15; refine (HP.out _).mono ?_; rintro e wA ⟨rfl, hb⟩; have ACa := Lib.hid (AC9.out.below hb); have AIa := Lib.hid (AI9.out.below hb); have BwA := Lib.hid (Bw9.out.trans (hb.mono Bw9.out.size)); clear hb)
          | ((with_reducible show wpList _ _ _ (⟨some 15, _, _, _, _, _⟩ :: _) _ _); refine wpList_alloc rfl _ rfl z ?_)
          | ((with_reducible show wpList _ _ _ (⟨none, .store _ (.tmp 15) _, _, _, _, _⟩ :: _) _ _); refine wpList_storeA rfl (b := wA.heap.size) (A := Z) (A' := V) (ArrAt.fresh _ _ _ ZP.out) 28 (.tmp 15) (.tmp 59) rfl rfl rfl (HSC.out _ ZS.out) (VS.out.trans ZS.out.symm) V1.out ?_))
        obtain ⟨wB, hw3⟩ : ∃ z, z = (wA.alloc (.cells Z 28)).setCells wA.heap.size 0 V.toList := ⟨_, rfl⟩
        obtain ⟨b15, hb3⟩ : ∃ z, z = wA.heap.size := ⟨_, rfl⟩
        rw [← hw3, ← hb3]
        have hbw3 : Below wA.heap.size wA wB := by rw [hw3]; exact bstore ((Below.refl _ _).alloc (Nat.le_refl _) _) _ (Nat.le_refl _) _ _
        have A15 := Lib.hid (show ArrAt wB b15 V by rw [hw3, hb3]; exact (ArrAt.fresh _ _ _ (by rw [ZS.out]; omega)).store V (by rw [VS.out, ZS.out]))
        have ACb := Lib.hid (ACa.out.below hbw3)
        have AIb := Lib.hid (AIa.out.below hbw3)
        have BwB := Lib.hid (BwA.out.trans (hbw3.mono BwA.out.size))
        clear hw3 hbw3 hb3
        clear ACa AIa BwA AC9 AB9 AI9 Bw9
        clear A15
        go_wp2_with (go_at_call 12; refine (HKN.out _).mono ?_; rintro e w6 ⟨rfl, hb⟩; have B6 := Lib.hid (BwB.out.trans (hb.mono BwB.out.size)); clear hb)
        go_ret
        exact ⟨rfl, B6.out⟩
    · have DS := Lib.hid hds
      have D1 := Lib.hid hdd
      have HD2 := Lib.hid hd
      clear hds hdd hd HS2
      go_upto_region 7 with (first
        | ((with_reducible show wpList _ _ _ (⟨some 37, _, _, _, _, _⟩ :: _) _ _); refine wpList_loadA rfl AB5.out 29 (.tmp 4) rfl (by first | rfl | simp [Act.eval, Act.put]) hd5 hd6 (HSB.out _ BS.out) ?_)
        | (go_at_call 13; refine (HD2.out _).mono ?_; rintro e w6 ⟨rfl, hb⟩; have AC6 := Lib.hid (AC5.out.below hb); have AB6 := Lib.hid (AB5.out.below hb); have AI6 := Lib.hid (AI5.out.below hb); have Bw6 := Lib.hid (Bw5.out.trans (hb.mono Bw5.out.size)); clear hb)
        | ((with_reducible show wpList _ _ _ (⟨some 11, _, _, _, _, _⟩ :: _) _ _); refine wpList_alloc rfl _ rfl z ?_)
        | ((with_reducible show wpList _ _ _ (⟨none, .store _ (.tmp 11) _, _, _, _, _⟩ :: _) _ _); refine wpList_storeA rfl (b := w6.heap.size) (A := Z) (A' := D) (ArrAt.fresh _ _ _ ZP.out) 28 (.tmp 11) (.tmp 39) rfl rfl rfl (HSC.out _ ZS.out) (DS.out.trans ZS.out.symm) D1.out ?_))
      obtain ⟨w7, hw3⟩ : ∃ z, z = (w6.alloc (.cells Z 28)).setCells w6.heap.size 0 D.toList := ⟨_, rfl⟩
      obtain ⟨b11, hb3⟩ : ∃ z, z = w6.heap.size := ⟨_, rfl⟩
      rw [← hw3, ← hb3]
      have hbw3 : Below w6.heap.size w6 w7 := by rw [hw3]; exact bstore ((Below.refl _ _).alloc (Nat.le_refl _) _) _ (Nat.le_refl _) _ _
      have A11 := Lib.hid (show ArrAt w7 b11 D by rw [hw3, hb3]; exact (ArrAt.fresh _ _ _ (by rw [ZS.out]; omega)).store D (by rw [DS.out, ZS.out]))
      have AC7 := Lib.hid (AC6.out.below hbw3)
      have AB7 := Lib.hid (AB6.out.below hbw3)
      have AI7 := Lib.hid (AI6.out.below hbw3)
      have Bw7 := Lib.hid (Bw6.out.trans (hbw3.mono Bw6.out.size))
      clear hw3 hbw3 hb3
      clear AC6 AB6 AI6 Bw6 AC5 AB5 AI5 Bw5
      clear A11
      go_upto_region 11 with fail
      rcases HS3.out with ⟨V, hvs, hv1, hp, hg, hex, hcs⟩ | ⟨V, hvs, hv1, hp⟩
      · have VS := Lib.hid hvs
        have V1 := Lib.hid hv1
        have HP := Lib.hid hp
        have HG := Lib.hid hg
        have HEX := Lib.hid hex
        have HCS := Lib.hid hcs
        clear hvs hv1 hp hg hex hcs HS3
        go_upto_region 12 with (first
          | ((with_reducible show wpList _ _ _ (⟨some 56, _, _, _, _, _⟩ :: _) _ _); refine wpList_loadA rfl AC7.out 28 (.tmp 3) rfl (by first | rfl | simp [Act.eval, Act.put]) hd1 hd2 (HSC.out _ CS.out) ?_)
          | ((with_reducible show wpList _ _ _ (⟨some 57, _, _, _, _, _⟩ :: _) _ _); refine wpList_loadA rfl AI7.out 43 (.tmp 5) rfl (by first | rfl | simp [Act.eval, Act.put]) hd3 hd4 HSI.out ?_)
          | (go_at_call 15; refine (HP.out _).mono ?_; rintro e wA ⟨rfl, hb⟩; have ACa := Lib.hid (AC7.out.below hb); have AIa := Lib.hid (AI7.out.below hb); have BwA := Lib.hid (Bw7.out.trans (hb.mono Bw7.out.size)); clear hb)
          | ((with_reducible show wpList _ _ _ (⟨some 15, _, _, _, _, _⟩ :: _) _ _); refine wpList_alloc rfl _ rfl z ?_)
          | ((with_reducible show wpList _ _ _ (⟨none, .store _ (.tmp 15) _, _, _, _, _⟩ :: _) _ _); refine wpList_storeA rfl (b := wA.heap.size) (A := Z) (A' := V) (ArrAt.fresh _ _ _ ZP.out) 28 (.tmp 15) (.tmp 59) rfl rfl rfl (HSC.out _ ZS.out) (VS.out.trans ZS.out.symm) V1.out ?_))
        obtain ⟨wB, hw3⟩ : ∃ z, z = (wA.alloc (.cells Z 28)).setCells wA.heap.size 0 V.toList := ⟨_, rfl⟩
        obtain ⟨b15, hb3⟩ : ∃ z, z = wA.heap.size := ⟨_, rfl⟩
        rw [← hw3, ← hb3]
        have hbw3 : Below wA.heap.size wA wB := by rw [hw3]; exact bstore ((Below.refl _ _).alloc (Nat.le_refl _) _) _ (Nat.le_refl _) _ _
        have A15 := Lib.hid (show ArrAt wB b15 V by rw [hw3, hb3]; exact (ArrAt.fresh _ _ _ (by rw [ZS.out]; omega)).store V (by rw [VS.out, ZS.out]))
        have ACb := Lib.hid (ACa.out.below hbw3)
        have AIb := Lib.hid (AIa.out.below hbw3)
        have BwB := Lib.hid (BwA.out.trans (hbw3.mono BwA.out.size))
        have HNE := Lib.hid (show w.heap.size < b15 by rw [hb3]; exact ACa.out.lt)
        clear hw3 hbw3 hb3
        clear ACa AIa BwA AC7 AB7 AI7 Bw7
        obtain ⟨a, b3, b2, e1, e2, e3, e4, e5, e6, e7⟩ := HEX.out
        have HGI := Lib.hid (show ∀ p : InC (Below wB.heap.size wB), Calls Try.prog 25 #[.agg V] p.w fun e w' => e = .returned (.agg I) ∧ Below wB.heap.size wB w' from fun p => (HG.out p.w).mono fun e w' h => ⟨h.1, p.ok.trans (h.2.mono p.ok.size)⟩)
        have hnon : Nonempty (InC (Below wB.heap.size wB)) := ⟨⟨wB, Below.refl _ _⟩⟩
        have k1 : ∀ p : InC (Below wB.heap.size wB), p.w.cell? ⟨b15, 12, none⟩ = some (.int .u32 a) := fun p => (A15.out.below p.ok).cell e1
        have k2 : ∀ p : InC (Below wB.heap.size wB), p.w.cell? ⟨b15, 13, none⟩ = some (.int .u32 b3) := fun p => (A15.out.below p.ok).cell e2
        have k3 : ∀ p : InC (Below wB.heap.size wB), p.w.cell? ⟨w.heap.size, 12, none⟩ = some (.int .u32 b2) := fun p => (ACb.out.below p.ok).cell e3
        have k4 : ∀ p : InC (Below wB.heap.size wB), p.w.cell? ⟨w.heap.size, 13, none⟩ = some (.int .u32 b3) := fun p => (ACb.out.below p.ok).cell e4
        obtain ⟨a0, a1⟩ := e6
        obtain ⟨c0, c1⟩ := e7
        have q7 : (a / 65536 % 1024 != b2 / 65536 % 1024) = false := by simp [e5]
        have q7' : (a / 65536 % 1024 == b2 / 65536 % 1024) = true := by simp [e5]
        have E5 := Lib.hid e5
        clear e1 e2 e3 e4 e5
        go_upto_region 14 with fail
        refine wp_quiet_in (Below wB.heap.size wB) (Below.refl _ _).drew (by kernel_rfl) (by kernel_rfl) ?_
        repeat (first
          | ((with_reducible show wpQuiet _ _ _ _ (⟨some 64, .load _ _, _, _, _, _⟩ :: _) _); refine wpQuiet_load rfl 28 (.tmp 15) rfl (.pointer (some ⟨b15, 0, none⟩)) rfl (fun w' hp => by obtain ⟨p, rfl⟩ := hp; exact (A15.out.below p.ok).loadAt hd1 hd2 (HSC.out _ VS.out)) ?_; simp only [Act.put, List.setIfInBounds_toArray, List.set_cons_succ, List.set_cons_zero])
          | ((with_reducible show wpQuiet _ _ _ _ (⟨some 66, .load _ _, _, _, _, _⟩ :: _) _); refine wpQuiet_load rfl 43 (.tmp 5) rfl (.pointer (some ⟨w.heap.size + 1 + 1, 0, none⟩)) rfl (fun w' hp => by obtain ⟨p, rfl⟩ := hp; exact (AIb.out.below p.ok).loadAt hd3 hd4 HSI.out) ?_; simp only [Act.put, List.setIfInBounds_toArray, List.set_cons_succ, List.set_cons_zero])
          | (go_big_quiet_step (with_reducible exact calls_in (HGI.out _))))
        refine wpQuiet_nil ?_
        intro _ hw'
        obtain ⟨p, hw''⟩ := hw'
        subst hw''
        have ACp := Lib.hid (ACb.out.below p.ok)
        have A15p := Lib.hid (A15.out.below p.ok)
        have Bp := Lib.hid (BwB.out.trans (p.ok.mono BwB.out.size))
        obtain ⟨wP, hwP⟩ : ∃ z, z = p.w := ⟨_, rfl⟩
        rw [← hwP] at ACp A15p Bp ⊢
        clear hwP k1 k2 k3 k4 hnon HGI
        clear p
        obtain ⟨cs, s1, s2, s3, s4⟩ := HCS.out
        have R := Lib.hid (rng_sub ACp.out 10 cs s3)
        have A15q := Lib.hid (s4 wP b15 A15p.out)
        have hk : Keeps (One b15) wP (wP.setCells b15 10 cs) := Keeps.store (S := One b15) (Keeps.refl _ _) (fun _ => rfl) _ _
        have hne : b15 ≠ w.heap.size := by have := HNE.out; omega
        have ACq := Lib.hid (ACp.out.kept hk (fun e => hne (by have e : w.heap.size = b15 := e; exact e.symm)))
        have Bq := Lib.hid (bstore Bp.out b15 (by have := HNE.out; omega) cs 10)
        have TH := Lib.hid (show wP.there b15 10 cs.toArray.size from fun j hj => by
          have hj : j < 6 := by rw [← s1]; simpa using hj
          exact (by have h := A15p.out.th (10 + j) (by rw [VS.out]; omega); rwa [Nat.zero_add] at h))
        have S1 := Lib.hid s1
        have S2 := Lib.hid s2
        have hq2 := HQ2.out
        obtain ⟨d9, hd7, hd8⟩ := under6
        clear s1 s2 s3 s4 hk hne
        go_wp2_with (first
          | ((with_reducible show wpList _ _ _ (⟨some 91, _, _, _, _, _⟩ :: _) _ _); refine wpList_load_mid rfl 26 (.tmp 90) rfl w.heap.size 10 (by first | rfl | simp [Act.eval, Act.put]) cs _ R.out hd7 hd8 (by rw [S1.out]; exact size6) ?_)
          | ((with_reducible show wpList _ _ _ (⟨none, .store _ (.tmp 92) _, _, _, _, _⟩ :: _) _ _); refine wpList_store_mid rfl 26 (.tmp 92) (.tmp 91) rfl b15 10 cs.toArray (by first | rfl | simp [Act.eval, Act.put]) (by first | rfl | simp [Act.eval, Act.put]) TH.out (by rw [List.size_toArray, S1.out]; exact size6) (all_oneCell_toArray S2.out) ?_)
          | ((with_reducible show wpList _ _ _ (⟨some 93, _, _, _, _, _⟩ :: _) _ _); refine wpList_loadA rfl A15q.out 28 (.tmp 15) rfl (by first | rfl | simp [Act.eval, Act.put]) hd1 hd2 (HSC.out _ CS.out) ?_)
          | ((with_reducible show wpList _ _ _ (⟨some 94, _, _, _, _, _⟩ :: _) _ _); refine wpList_loadA rfl ACq.out 28 (.tmp 3) rfl (by first | rfl | simp [Act.eval, Act.put]) hd1 hd2 (HSC.out _ CS.out) ?_)
          | (go_at_call 12; refine (HKN.out _).mono ?_; rintro e w6 ⟨rfl, hb⟩; have B6 := Lib.hid (Bq.out.trans (hb.mono Bq.out.size)); clear hb))
        go_ret
        exact ⟨rfl, B6.out⟩
      · have VS := Lib.hid hvs
        have V1 := Lib.hid hv1
        have HP := Lib.hid hp
        clear hvs hv1 hp HS3
        go_upto_region 12 with (first
          | ((with_reducible show wpList _ _ _ (⟨some 56, _, _, _, _, _⟩ :: _) _ _); refine wpList_loadA rfl AC7.out 28 (.tmp 3) rfl (by first | rfl | simp [Act.eval, Act.put]) hd1 hd2 (HSC.out _ CS.out) ?_)
          | ((with_reducible show wpList _ _ _ (⟨some 57, _, _, _, _, _⟩ :: _) _ _); refine wpList_loadA rfl AI7.out 43 (.tmp 5) rfl (by first | rfl | simp [Act.eval, Act.put]) hd3 hd4 HSI.out ?_)
          | (go_at_call 15; refine (HP.out _).mono ?_; rintro e wA ⟨rfl, hb⟩; have ACa := Lib.hid (AC7.out.below hb); have AIa := Lib.hid (AI7.out.below hb); have BwA := Lib.hid (Bw7.out.trans (hb.mono Bw7.out.size)); clear hb)
          | ((with_reducible show wpList _ _ _ (⟨some 15, _, _, _, _, _⟩ :: _) _ _); refine wpList_alloc rfl _ rfl z ?_)
          | ((with_reducible show wpList _ _ _ (⟨none, .store _ (.tmp 15) _, _, _, _, _⟩ :: _) _ _); refine wpList_storeA rfl (b := wA.heap.size) (A := Z) (A' := V) (ArrAt.fresh _ _ _ ZP.out) 28 (.tmp 15) (.tmp 59) rfl rfl rfl (HSC.out _ ZS.out) (VS.out.trans ZS.out.symm) V1.out ?_))
        obtain ⟨wB, hw3⟩ : ∃ z, z = (wA.alloc (.cells Z 28)).setCells wA.heap.size 0 V.toList := ⟨_, rfl⟩
        obtain ⟨b15, hb3⟩ : ∃ z, z = wA.heap.size := ⟨_, rfl⟩
        rw [← hw3, ← hb3]
        have hbw3 : Below wA.heap.size wA wB := by rw [hw3]; exact bstore ((Below.refl _ _).alloc (Nat.le_refl _) _) _ (Nat.le_refl _) _ _
        have A15 := Lib.hid (show ArrAt wB b15 V by rw [hw3, hb3]; exact (ArrAt.fresh _ _ _ (by rw [ZS.out]; omega)).store V (by rw [VS.out, ZS.out]))
        have ACb := Lib.hid (ACa.out.below hbw3)
        have AIb := Lib.hid (AIa.out.below hbw3)
        have BwB := Lib.hid (BwA.out.trans (hbw3.mono BwA.out.size))
        clear hw3 hbw3 hb3
        clear ACa AIa BwA AC7 AB7 AI7 Bw7
        clear A15
        go_wp2_with (go_at_call 12; refine (HKN.out _).mono ?_; rintro e w6 ⟨rfl, hb⟩; have B6 := Lib.hid (BwB.out.trans (hb.mono BwB.out.size)); clear hb)
        go_ret
        exact ⟨rfl, B6.out⟩
  · have QS := Lib.hid hqb.size
    have Q1 := Lib.hid hqb.one
    have HE1 := Lib.hid he
    clear hqb he
    go_enter Try.func9, Try.ntmps9
    go_upto_region 1 with fail
    rw [← HW1.out]
    go_upto_region 2 with (first
      | ((with_reducible show wpList _ _ _ (⟨some 18, _, _, _, _, _⟩ :: _) _ _); refine wpList_loadA rfl HAC.out 28 (.tmp 3) rfl (by first | rfl | simp [Act.eval, Act.put]) hd1 hd2 (HSC.out _ CS.out) ?_)
      | (go_at_call 10; refine (HE1.out _).mono ?_; rintro e w2 ⟨rfl, hb⟩; have AC2 := Lib.hid (HAC.out.below hb); have AB2 := Lib.hid (HAB.out.below hb); have AI2 := Lib.hid (HAI.out.below hb); have Bw2 := Lib.hid (HB1.out.trans (hb.mono HB1.out.size)); clear hb)
      | ((with_reducible show wpList _ _ _ (⟨some 7, _, _, _, _, _⟩ :: _) _ _); refine wpList_alloc rfl _ rfl z64 ?_)
      | ((with_reducible show wpList _ _ _ (⟨none, .store _ (.tmp 7) _, _, _, _, _⟩ :: _) _ _); refine wpList_storeA rfl (b := w2.heap.size) (A := Z64) (A' := Q) (ArrAt.fresh _ _ _ ZP64.out) 29 (.tmp 7) (.tmp 20) rfl rfl rfl (HSB.out _ ZS64.out) (QS.out.trans ZS64.out.symm) Q1.out ?_))
    obtain ⟨w3, hw3⟩ : ∃ z, z = (w2.alloc (.cells Z64 29)).setCells w2.heap.size 0 Q.toList := ⟨_, rfl⟩
    obtain ⟨b7, hb3⟩ : ∃ z, z = w2.heap.size := ⟨_, rfl⟩
    rw [← hw3, ← hb3]
    have hbw3 : Below w2.heap.size w2 w3 := by rw [hw3]; exact bstore ((Below.refl _ _).alloc (Nat.le_refl _) _) _ (Nat.le_refl _) _ _
    have A7 := Lib.hid (show ArrAt w3 b7 Q by rw [hw3, hb3]; exact (ArrAt.fresh _ _ _ (by rw [ZS64.out]; omega)).store Q (by rw [QS.out, ZS64.out]))
    have AC3 := Lib.hid (AC2.out.below hbw3)
    have AB3 := Lib.hid (AB2.out.below hbw3)
    have AI3 := Lib.hid (AI2.out.below hbw3)
    have Bw3 := Lib.hid (Bw2.out.trans (hbw3.mono Bw2.out.size))
    clear hw3 hbw3 hb3
    clear AC2 AB2 AI2 Bw2
    clear A7
    go_upto_region 6 with fail
    rcases HS2.out with ⟨D, hds, hdd, hd, he⟩ | ⟨D, hds, hdd, hd⟩
    · have DS := Lib.hid hds
      have D1 := Lib.hid hdd
      have HD2 := Lib.hid hd
      have HE2 := Lib.hid he
      clear he
      clear hds hdd hd HS2
      go_upto_region 7 with (first
        | ((with_reducible show wpList _ _ _ (⟨some 37, _, _, _, _, _⟩ :: _) _ _); refine wpList_loadA rfl AB3.out 29 (.tmp 4) rfl (by first | rfl | simp [Act.eval, Act.put]) hd5 hd6 (HSB.out _ BS.out) ?_)
        | (go_at_call 13; refine (HD2.out _).mono ?_; rintro e w6 ⟨rfl, hb⟩; have AC6 := Lib.hid (AC3.out.below hb); have AB6 := Lib.hid (AB3.out.below hb); have AI6 := Lib.hid (AI3.out.below hb); have Bw6 := Lib.hid (Bw3.out.trans (hb.mono Bw3.out.size)); clear hb)
        | ((with_reducible show wpList _ _ _ (⟨some 11, _, _, _, _, _⟩ :: _) _ _); refine wpList_alloc rfl _ rfl z ?_)
        | ((with_reducible show wpList _ _ _ (⟨none, .store _ (.tmp 11) _, _, _, _, _⟩ :: _) _ _); refine wpList_storeA rfl (b := w6.heap.size) (A := Z) (A' := D) (ArrAt.fresh _ _ _ ZP.out) 28 (.tmp 11) (.tmp 39) rfl rfl rfl (HSC.out _ ZS.out) (DS.out.trans ZS.out.symm) D1.out ?_))
      obtain ⟨w7, hw3⟩ : ∃ z, z = (w6.alloc (.cells Z 28)).setCells w6.heap.size 0 D.toList := ⟨_, rfl⟩
      obtain ⟨b11, hb3⟩ : ∃ z, z = w6.heap.size := ⟨_, rfl⟩
      rw [← hw3, ← hb3]
      have hbw3 : Below w6.heap.size w6 w7 := by rw [hw3]; exact bstore ((Below.refl _ _).alloc (Nat.le_refl _) _) _ (Nat.le_refl _) _ _
      have A11 := Lib.hid (show ArrAt w7 b11 D by rw [hw3, hb3]; exact (ArrAt.fresh _ _ _ (by rw [ZS.out]; omega)).store D (by rw [DS.out, ZS.out]))
      have AC7 := Lib.hid (AC6.out.below hbw3)
      have AB7 := Lib.hid (AB6.out.below hbw3)
      have AI7 := Lib.hid (AI6.out.below hbw3)
      have Bw7 := Lib.hid (Bw6.out.trans (hbw3.mono Bw6.out.size))
      clear hw3 hbw3 hb3
      clear AC6 AB6 AI6 Bw6 AC3 AB3 AI3 Bw3
      go_upto_region 9 with (first
        | ((with_reducible show wpList _ _ _ (⟨some 44, _, _, _, _, _⟩ :: _) _ _); refine wpList_loadA rfl A11.out 28 (.tmp 11) rfl (by first | rfl | simp [Act.eval, Act.put]) hd1 hd2 (HSC.out _ DS.out) ?_)
        | (go_at_call 10; refine (HE2.out _).mono ?_; rintro e w8 ⟨rfl, hb⟩; have AC8 := Lib.hid (AC7.out.below hb); have AB8 := Lib.hid (AB7.out.below hb); have AI8 := Lib.hid (AI7.out.below hb); have Bw8 := Lib.hid (Bw7.out.trans (hb.mono Bw7.out.size)); clear hb)
        | ((with_reducible show wpList _ _ _ (⟨some 13, _, _, _, _, _⟩ :: _) _ _); refine wpList_alloc rfl _ rfl z64 ?_)
        | ((with_reducible show wpList _ _ _ (⟨none, .store _ (.tmp 13) _, _, _, _, _⟩ :: _) _ _); refine wpList_storeA rfl (b := w8.heap.size) (A := Z64) (A' := BA) (ArrAt.fresh _ _ _ ZP64.out) 29 (.tmp 13) (.tmp 46) rfl rfl rfl (HSB.out _ ZS64.out) (BS.out.trans ZS64.out.symm) BB1.out ?_))
      obtain ⟨w9, hw3⟩ : ∃ z, z = (w8.alloc (.cells Z64 29)).setCells w8.heap.size 0 BA.toList := ⟨_, rfl⟩
      obtain ⟨b13, hb3⟩ : ∃ z, z = w8.heap.size := ⟨_, rfl⟩
      rw [← hw3, ← hb3]
      have hbw3 : Below w8.heap.size w8 w9 := by rw [hw3]; exact bstore ((Below.refl _ _).alloc (Nat.le_refl _) _) _ (Nat.le_refl _) _ _
      have A13 := Lib.hid (show ArrAt w9 b13 BA by rw [hw3, hb3]; exact (ArrAt.fresh _ _ _ (by rw [ZS64.out]; omega)).store BA (by rw [BS.out, ZS64.out]))
      have AC9 := Lib.hid (AC8.out.below hbw3)
      have AB9 := Lib.hid (AB8.out.below hbw3)
      have AI9 := Lib.hid (AI8.out.below hbw3)
      have Bw9 := Lib.hid (Bw8.out.trans (hbw3.mono Bw8.out.size))
      clear hw3 hbw3 hb3
      clear AC8 AB8 AI8 Bw8 AC7 AB7 AI7 Bw7 A11
      go_upto_region 11 with (first
        | ((with_reducible show wpList _ _ _ (⟨some 51, _, _, _, _, _⟩ :: _) _ _); refine wpList_loadAG (by rfl) A13.out 29 (.tmp 13) rfl (by first | rfl | simp [Act.eval, Act.put]) hd5 hd6 (HSB.out _ BS.out) ?_)
        | ((with_reducible show wpList _ _ _ (⟨some 52, _, _, _, _, _⟩ :: _) _ _); refine wpList_loadAG (by rfl) AB9.out 29 (.tmp 4) rfl (by first | rfl | simp [Act.eval, Act.put]) hd5 hd6 (HSB.out _ BS.out) ?_))
      clear A13 hq4
      rcases HS3.out with ⟨V, hvs, hv1, hp, hg, hex, hcs⟩ | ⟨V, hvs, hv1, hp⟩
      · have VS := Lib.hid hvs
        have V1 := Lib.hid hv1
        have HP := Lib.hid hp
        have HG := Lib.hid hg
        have HEX := Lib.hid hex
        have HCS := Lib.hid hcs
        clear hvs hv1 hp hg hex hcs HS3
        go_upto_region 12 with (first
          | ((with_reducible show wpList _ _ _ (⟨some 56, _, _, _, _, _⟩ :: _) _ _); refine wpList_loadA rfl AC9.out 28 (.tmp 3) rfl (by first | rfl | simp [Act.eval, Act.put]) hd1 hd2 (HSC.out _ CS.out) ?_)
          | ((with_reducible show wpList _ _ _ (⟨some 57, _, _, _, _, _⟩ :: _) _ _); refine wpList_loadA rfl AI9.out 43 (.tmp 5) rfl (by first | rfl | simp [Act.eval, Act.put]) hd3 hd4 HSI.out ?_)
          | (go_at_call 15; refine (HP.out _).mono ?_; rintro e wA ⟨rfl, hb⟩; have ACa := Lib.hid (AC9.out.below hb); have AIa := Lib.hid (AI9.out.below hb); have BwA := Lib.hid (Bw9.out.trans (hb.mono Bw9.out.size)); clear hb)
          | ((with_reducible show wpList _ _ _ (⟨some 15, _, _, _, _, _⟩ :: _) _ _); refine wpList_alloc rfl _ rfl z ?_)
          | ((with_reducible show wpList _ _ _ (⟨none, .store _ (.tmp 15) _, _, _, _, _⟩ :: _) _ _); refine wpList_storeA rfl (b := wA.heap.size) (A := Z) (A' := V) (ArrAt.fresh _ _ _ ZP.out) 28 (.tmp 15) (.tmp 59) rfl rfl rfl (HSC.out _ ZS.out) (VS.out.trans ZS.out.symm) V1.out ?_))
        obtain ⟨wB, hw3⟩ : ∃ z, z = (wA.alloc (.cells Z 28)).setCells wA.heap.size 0 V.toList := ⟨_, rfl⟩
        obtain ⟨b15, hb3⟩ : ∃ z, z = wA.heap.size := ⟨_, rfl⟩
        rw [← hw3, ← hb3]
        have hbw3 : Below wA.heap.size wA wB := by rw [hw3]; exact bstore ((Below.refl _ _).alloc (Nat.le_refl _) _) _ (Nat.le_refl _) _ _
        have A15 := Lib.hid (show ArrAt wB b15 V by rw [hw3, hb3]; exact (ArrAt.fresh _ _ _ (by rw [ZS.out]; omega)).store V (by rw [VS.out, ZS.out]))
        have ACb := Lib.hid (ACa.out.below hbw3)
        have AIb := Lib.hid (AIa.out.below hbw3)
        have BwB := Lib.hid (BwA.out.trans (hbw3.mono BwA.out.size))
        have HNE := Lib.hid (show w.heap.size < b15 by rw [hb3]; exact ACa.out.lt)
        clear hw3 hbw3 hb3
        clear ACa AIa BwA AC9 AB9 AI9 Bw9
        obtain ⟨a, b3, b2, e1, e2, e3, e4, e5, e6, e7⟩ := HEX.out
        have HGI := Lib.hid (show ∀ p : InC (Below wB.heap.size wB), Calls Try.prog 25 #[.agg V] p.w fun e w' => e = .returned (.agg I) ∧ Below wB.heap.size wB w' from fun p => (HG.out p.w).mono fun e w' h => ⟨h.1, p.ok.trans (h.2.mono p.ok.size)⟩)
        have hnon : Nonempty (InC (Below wB.heap.size wB)) := ⟨⟨wB, Below.refl _ _⟩⟩
        have k1 : ∀ p : InC (Below wB.heap.size wB), p.w.cell? ⟨b15, 12, none⟩ = some (.int .u32 a) := fun p => (A15.out.below p.ok).cell e1
        have k2 : ∀ p : InC (Below wB.heap.size wB), p.w.cell? ⟨b15, 13, none⟩ = some (.int .u32 b3) := fun p => (A15.out.below p.ok).cell e2
        have k3 : ∀ p : InC (Below wB.heap.size wB), p.w.cell? ⟨w.heap.size, 12, none⟩ = some (.int .u32 b2) := fun p => (ACb.out.below p.ok).cell e3
        have k4 : ∀ p : InC (Below wB.heap.size wB), p.w.cell? ⟨w.heap.size, 13, none⟩ = some (.int .u32 b3) := fun p => (ACb.out.below p.ok).cell e4
        obtain ⟨a0, a1⟩ := e6
        obtain ⟨c0, c1⟩ := e7
        have q7 : (a / 65536 % 1024 != b2 / 65536 % 1024) = false := by simp [e5]
        have q7' : (a / 65536 % 1024 == b2 / 65536 % 1024) = true := by simp [e5]
        have E5 := Lib.hid e5
        clear e1 e2 e3 e4 e5
        go_upto_region 14 with fail
        refine wp_quiet_in (Below wB.heap.size wB) (Below.refl _ _).drew (by kernel_rfl) (by kernel_rfl) ?_
        repeat (first
          | ((with_reducible show wpQuiet _ _ _ _ (⟨some 64, .load _ _, _, _, _, _⟩ :: _) _); refine wpQuiet_load rfl 28 (.tmp 15) rfl (.pointer (some ⟨b15, 0, none⟩)) rfl (fun w' hp => by obtain ⟨p, rfl⟩ := hp; exact (A15.out.below p.ok).loadAt hd1 hd2 (HSC.out _ VS.out)) ?_; simp only [Act.put, List.setIfInBounds_toArray, List.set_cons_succ, List.set_cons_zero])
          | ((with_reducible show wpQuiet _ _ _ _ (⟨some 66, .load _ _, _, _, _, _⟩ :: _) _); refine wpQuiet_load rfl 43 (.tmp 5) rfl (.pointer (some ⟨w.heap.size + 1 + 1, 0, none⟩)) rfl (fun w' hp => by obtain ⟨p, rfl⟩ := hp; exact (AIb.out.below p.ok).loadAt hd3 hd4 HSI.out) ?_; simp only [Act.put, List.setIfInBounds_toArray, List.set_cons_succ, List.set_cons_zero])
          | (go_big_quiet_step (with_reducible exact calls_in (HGI.out _))))
        refine wpQuiet_nil ?_
        intro _ hw'
        obtain ⟨p, hw''⟩ := hw'
        subst hw''
        have ACp := Lib.hid (ACb.out.below p.ok)
        have A15p := Lib.hid (A15.out.below p.ok)
        have Bp := Lib.hid (BwB.out.trans (p.ok.mono BwB.out.size))
        obtain ⟨wP, hwP⟩ : ∃ z, z = p.w := ⟨_, rfl⟩
        rw [← hwP] at ACp A15p Bp ⊢
        clear hwP k1 k2 k3 k4 hnon HGI
        clear p
        obtain ⟨cs, s1, s2, s3, s4⟩ := HCS.out
        have R := Lib.hid (rng_sub ACp.out 10 cs s3)
        have A15q := Lib.hid (s4 wP b15 A15p.out)
        have hk : Keeps (One b15) wP (wP.setCells b15 10 cs) := Keeps.store (S := One b15) (Keeps.refl _ _) (fun _ => rfl) _ _
        have hne : b15 ≠ w.heap.size := by have := HNE.out; omega
        have ACq := Lib.hid (ACp.out.kept hk (fun e => hne (by have e : w.heap.size = b15 := e; exact e.symm)))
        have Bq := Lib.hid (bstore Bp.out b15 (by have := HNE.out; omega) cs 10)
        have TH := Lib.hid (show wP.there b15 10 cs.toArray.size from fun j hj => by
          have hj : j < 6 := by rw [← s1]; simpa using hj
          exact (by have h := A15p.out.th (10 + j) (by rw [VS.out]; omega); rwa [Nat.zero_add] at h))
        have S1 := Lib.hid s1
        have S2 := Lib.hid s2
        have hq2 := HQ2.out
        obtain ⟨d9, hd7, hd8⟩ := under6
        clear s1 s2 s3 s4 hk hne
        go_wp2_with (first
          | ((with_reducible show wpList _ _ _ (⟨some 91, _, _, _, _, _⟩ :: _) _ _); refine wpList_load_mid rfl 26 (.tmp 90) rfl w.heap.size 10 (by first | rfl | simp [Act.eval, Act.put]) cs _ R.out hd7 hd8 (by rw [S1.out]; exact size6) ?_)
          | ((with_reducible show wpList _ _ _ (⟨none, .store _ (.tmp 92) _, _, _, _, _⟩ :: _) _ _); refine wpList_store_mid rfl 26 (.tmp 92) (.tmp 91) rfl b15 10 cs.toArray (by first | rfl | simp [Act.eval, Act.put]) (by first | rfl | simp [Act.eval, Act.put]) TH.out (by rw [List.size_toArray, S1.out]; exact size6) (all_oneCell_toArray S2.out) ?_)
          | ((with_reducible show wpList _ _ _ (⟨some 93, _, _, _, _, _⟩ :: _) _ _); refine wpList_loadA rfl A15q.out 28 (.tmp 15) rfl (by first | rfl | simp [Act.eval, Act.put]) hd1 hd2 (HSC.out _ CS.out) ?_)
          | ((with_reducible show wpList _ _ _ (⟨some 94, _, _, _, _, _⟩ :: _) _ _); refine wpList_loadA rfl ACq.out 28 (.tmp 3) rfl (by first | rfl | simp [Act.eval, Act.put]) hd1 hd2 (HSC.out _ CS.out) ?_)
          | (go_at_call 12; refine (HKN.out _).mono ?_; rintro e w6 ⟨rfl, hb⟩; have B6 := Lib.hid (Bq.out.trans (hb.mono Bq.out.size)); clear hb))
        go_ret
        exact ⟨rfl, B6.out⟩
      · have VS := Lib.hid hvs
        have V1 := Lib.hid hv1
        have HP := Lib.hid hp
        clear hvs hv1 hp HS3
        go_upto_region 12 with (first
          | ((with_reducible show wpList _ _ _ (⟨some 56, _, _, _, _, _⟩ :: _) _ _); refine wpList_loadA rfl AC9.out 28 (.tmp 3) rfl (by first | rfl | simp [Act.eval, Act.put]) hd1 hd2 (HSC.out _ CS.out) ?_)
          | ((with_reducible show wpList _ _ _ (⟨some 57, _, _, _, _, _⟩ :: _) _ _); refine wpList_loadA rfl AI9.out 43 (.tmp 5) rfl (by first | rfl | simp [Act.eval, Act.put]) hd3 hd4 HSI.out ?_)
          | (go_at_call 15; refine (HP.out _).mono ?_; rintro e wA ⟨rfl, hb⟩; have ACa := Lib.hid (AC9.out.below hb); have AIa := Lib.hid (AI9.out.below hb); have BwA := Lib.hid (Bw9.out.trans (hb.mono Bw9.out.size)); clear hb)
          | ((with_reducible show wpList _ _ _ (⟨some 15, _, _, _, _, _⟩ :: _) _ _); refine wpList_alloc rfl _ rfl z ?_)
          | ((with_reducible show wpList _ _ _ (⟨none, .store _ (.tmp 15) _, _, _, _, _⟩ :: _) _ _); refine wpList_storeA rfl (b := wA.heap.size) (A := Z) (A' := V) (ArrAt.fresh _ _ _ ZP.out) 28 (.tmp 15) (.tmp 59) rfl rfl rfl (HSC.out _ ZS.out) (VS.out.trans ZS.out.symm) V1.out ?_))
        obtain ⟨wB, hw3⟩ : ∃ z, z = (wA.alloc (.cells Z 28)).setCells wA.heap.size 0 V.toList := ⟨_, rfl⟩
        obtain ⟨b15, hb3⟩ : ∃ z, z = wA.heap.size := ⟨_, rfl⟩
        rw [← hw3, ← hb3]
        have hbw3 : Below wA.heap.size wA wB := by rw [hw3]; exact bstore ((Below.refl _ _).alloc (Nat.le_refl _) _) _ (Nat.le_refl _) _ _
        have A15 := Lib.hid (show ArrAt wB b15 V by rw [hw3, hb3]; exact (ArrAt.fresh _ _ _ (by rw [ZS.out]; omega)).store V (by rw [VS.out, ZS.out]))
        have ACb := Lib.hid (ACa.out.below hbw3)
        have AIb := Lib.hid (AIa.out.below hbw3)
        have BwB := Lib.hid (BwA.out.trans (hbw3.mono BwA.out.size))
        clear hw3 hbw3 hb3
        clear ACa AIa BwA AC9 AB9 AI9 Bw9
        clear A15
        go_wp2_with (go_at_call 12; refine (HKN.out _).mono ?_; rintro e w6 ⟨rfl, hb⟩; have B6 := Lib.hid (BwB.out.trans (hb.mono BwB.out.size)); clear hb)
        go_ret
        exact ⟨rfl, B6.out⟩
    · have DS := Lib.hid hds
      have D1 := Lib.hid hdd
      have HD2 := Lib.hid hd
      clear hds hdd hd HS2
      go_upto_region 7 with (first
        | ((with_reducible show wpList _ _ _ (⟨some 37, _, _, _, _, _⟩ :: _) _ _); refine wpList_loadA rfl AB3.out 29 (.tmp 4) rfl (by first | rfl | simp [Act.eval, Act.put]) hd5 hd6 (HSB.out _ BS.out) ?_)
        | (go_at_call 13; refine (HD2.out _).mono ?_; rintro e w6 ⟨rfl, hb⟩; have AC6 := Lib.hid (AC3.out.below hb); have AB6 := Lib.hid (AB3.out.below hb); have AI6 := Lib.hid (AI3.out.below hb); have Bw6 := Lib.hid (Bw3.out.trans (hb.mono Bw3.out.size)); clear hb)
        | ((with_reducible show wpList _ _ _ (⟨some 11, _, _, _, _, _⟩ :: _) _ _); refine wpList_alloc rfl _ rfl z ?_)
        | ((with_reducible show wpList _ _ _ (⟨none, .store _ (.tmp 11) _, _, _, _, _⟩ :: _) _ _); refine wpList_storeA rfl (b := w6.heap.size) (A := Z) (A' := D) (ArrAt.fresh _ _ _ ZP.out) 28 (.tmp 11) (.tmp 39) rfl rfl rfl (HSC.out _ ZS.out) (DS.out.trans ZS.out.symm) D1.out ?_))
      obtain ⟨w7, hw3⟩ : ∃ z, z = (w6.alloc (.cells Z 28)).setCells w6.heap.size 0 D.toList := ⟨_, rfl⟩
      obtain ⟨b11, hb3⟩ : ∃ z, z = w6.heap.size := ⟨_, rfl⟩
      rw [← hw3, ← hb3]
      have hbw3 : Below w6.heap.size w6 w7 := by rw [hw3]; exact bstore ((Below.refl _ _).alloc (Nat.le_refl _) _) _ (Nat.le_refl _) _ _
      have A11 := Lib.hid (show ArrAt w7 b11 D by rw [hw3, hb3]; exact (ArrAt.fresh _ _ _ (by rw [ZS.out]; omega)).store D (by rw [DS.out, ZS.out]))
      have AC7 := Lib.hid (AC6.out.below hbw3)
      have AB7 := Lib.hid (AB6.out.below hbw3)
      have AI7 := Lib.hid (AI6.out.below hbw3)
      have Bw7 := Lib.hid (Bw6.out.trans (hbw3.mono Bw6.out.size))
      clear hw3 hbw3 hb3
      clear AC6 AB6 AI6 Bw6 AC3 AB3 AI3 Bw3
      clear A11
      go_upto_region 11 with fail
      rcases HS3.out with ⟨V, hvs, hv1, hp, hg, hex, hcs⟩ | ⟨V, hvs, hv1, hp⟩
      · have VS := Lib.hid hvs
        have V1 := Lib.hid hv1
        have HP := Lib.hid hp
        have HG := Lib.hid hg
        have HEX := Lib.hid hex
        have HCS := Lib.hid hcs
        clear hvs hv1 hp hg hex hcs HS3
        go_upto_region 12 with (first
          | ((with_reducible show wpList _ _ _ (⟨some 56, _, _, _, _, _⟩ :: _) _ _); refine wpList_loadA rfl AC7.out 28 (.tmp 3) rfl (by first | rfl | simp [Act.eval, Act.put]) hd1 hd2 (HSC.out _ CS.out) ?_)
          | ((with_reducible show wpList _ _ _ (⟨some 57, _, _, _, _, _⟩ :: _) _ _); refine wpList_loadA rfl AI7.out 43 (.tmp 5) rfl (by first | rfl | simp [Act.eval, Act.put]) hd3 hd4 HSI.out ?_)
          | (go_at_call 15; refine (HP.out _).mono ?_; rintro e wA ⟨rfl, hb⟩; have ACa := Lib.hid (AC7.out.below hb); have AIa := Lib.hid (AI7.out.below hb); have BwA := Lib.hid (Bw7.out.trans (hb.mono Bw7.out.size)); clear hb)
          | ((with_reducible show wpList _ _ _ (⟨some 15, _, _, _, _, _⟩ :: _) _ _); refine wpList_alloc rfl _ rfl z ?_)
          | ((with_reducible show wpList _ _ _ (⟨none, .store _ (.tmp 15) _, _, _, _, _⟩ :: _) _ _); refine wpList_storeA rfl (b := wA.heap.size) (A := Z) (A' := V) (ArrAt.fresh _ _ _ ZP.out) 28 (.tmp 15) (.tmp 59) rfl rfl rfl (HSC.out _ ZS.out) (VS.out.trans ZS.out.symm) V1.out ?_))
        obtain ⟨wB, hw3⟩ : ∃ z, z = (wA.alloc (.cells Z 28)).setCells wA.heap.size 0 V.toList := ⟨_, rfl⟩
        obtain ⟨b15, hb3⟩ : ∃ z, z = wA.heap.size := ⟨_, rfl⟩
        rw [← hw3, ← hb3]
        have hbw3 : Below wA.heap.size wA wB := by rw [hw3]; exact bstore ((Below.refl _ _).alloc (Nat.le_refl _) _) _ (Nat.le_refl _) _ _
        have A15 := Lib.hid (show ArrAt wB b15 V by rw [hw3, hb3]; exact (ArrAt.fresh _ _ _ (by rw [ZS.out]; omega)).store V (by rw [VS.out, ZS.out]))
        have ACb := Lib.hid (ACa.out.below hbw3)
        have AIb := Lib.hid (AIa.out.below hbw3)
        have BwB := Lib.hid (BwA.out.trans (hbw3.mono BwA.out.size))
        have HNE := Lib.hid (show w.heap.size < b15 by rw [hb3]; exact ACa.out.lt)
        clear hw3 hbw3 hb3
        clear ACa AIa BwA AC7 AB7 AI7 Bw7
        obtain ⟨a, b3, b2, e1, e2, e3, e4, e5, e6, e7⟩ := HEX.out
        have HGI := Lib.hid (show ∀ p : InC (Below wB.heap.size wB), Calls Try.prog 25 #[.agg V] p.w fun e w' => e = .returned (.agg I) ∧ Below wB.heap.size wB w' from fun p => (HG.out p.w).mono fun e w' h => ⟨h.1, p.ok.trans (h.2.mono p.ok.size)⟩)
        have hnon : Nonempty (InC (Below wB.heap.size wB)) := ⟨⟨wB, Below.refl _ _⟩⟩
        have k1 : ∀ p : InC (Below wB.heap.size wB), p.w.cell? ⟨b15, 12, none⟩ = some (.int .u32 a) := fun p => (A15.out.below p.ok).cell e1
        have k2 : ∀ p : InC (Below wB.heap.size wB), p.w.cell? ⟨b15, 13, none⟩ = some (.int .u32 b3) := fun p => (A15.out.below p.ok).cell e2
        have k3 : ∀ p : InC (Below wB.heap.size wB), p.w.cell? ⟨w.heap.size, 12, none⟩ = some (.int .u32 b2) := fun p => (ACb.out.below p.ok).cell e3
        have k4 : ∀ p : InC (Below wB.heap.size wB), p.w.cell? ⟨w.heap.size, 13, none⟩ = some (.int .u32 b3) := fun p => (ACb.out.below p.ok).cell e4
        obtain ⟨a0, a1⟩ := e6
        obtain ⟨c0, c1⟩ := e7
        have q7 : (a / 65536 % 1024 != b2 / 65536 % 1024) = false := by simp [e5]
        have q7' : (a / 65536 % 1024 == b2 / 65536 % 1024) = true := by simp [e5]
        have E5 := Lib.hid e5
        clear e1 e2 e3 e4 e5
        go_upto_region 14 with fail
        refine wp_quiet_in (Below wB.heap.size wB) (Below.refl _ _).drew (by kernel_rfl) (by kernel_rfl) ?_
        repeat (first
          | ((with_reducible show wpQuiet _ _ _ _ (⟨some 64, .load _ _, _, _, _, _⟩ :: _) _); refine wpQuiet_load rfl 28 (.tmp 15) rfl (.pointer (some ⟨b15, 0, none⟩)) rfl (fun w' hp => by obtain ⟨p, rfl⟩ := hp; exact (A15.out.below p.ok).loadAt hd1 hd2 (HSC.out _ VS.out)) ?_; simp only [Act.put, List.setIfInBounds_toArray, List.set_cons_succ, List.set_cons_zero])
          | ((with_reducible show wpQuiet _ _ _ _ (⟨some 66, .load _ _, _, _, _, _⟩ :: _) _); refine wpQuiet_load rfl 43 (.tmp 5) rfl (.pointer (some ⟨w.heap.size + 1 + 1, 0, none⟩)) rfl (fun w' hp => by obtain ⟨p, rfl⟩ := hp; exact (AIb.out.below p.ok).loadAt hd3 hd4 HSI.out) ?_; simp only [Act.put, List.setIfInBounds_toArray, List.set_cons_succ, List.set_cons_zero])
          | (go_big_quiet_step (with_reducible exact calls_in (HGI.out _))))
        refine wpQuiet_nil ?_
        intro _ hw'
        obtain ⟨p, hw''⟩ := hw'
        subst hw''
        have ACp := Lib.hid (ACb.out.below p.ok)
        have A15p := Lib.hid (A15.out.below p.ok)
        have Bp := Lib.hid (BwB.out.trans (p.ok.mono BwB.out.size))
        obtain ⟨wP, hwP⟩ : ∃ z, z = p.w := ⟨_, rfl⟩
        rw [← hwP] at ACp A15p Bp ⊢
        clear hwP k1 k2 k3 k4 hnon HGI
        clear p
        obtain ⟨cs, s1, s2, s3, s4⟩ := HCS.out
        have R := Lib.hid (rng_sub ACp.out 10 cs s3)
        have A15q := Lib.hid (s4 wP b15 A15p.out)
        have hk : Keeps (One b15) wP (wP.setCells b15 10 cs) := Keeps.store (S := One b15) (Keeps.refl _ _) (fun _ => rfl) _ _
        have hne : b15 ≠ w.heap.size := by have := HNE.out; omega
        have ACq := Lib.hid (ACp.out.kept hk (fun e => hne (by have e : w.heap.size = b15 := e; exact e.symm)))
        have Bq := Lib.hid (bstore Bp.out b15 (by have := HNE.out; omega) cs 10)
        have TH := Lib.hid (show wP.there b15 10 cs.toArray.size from fun j hj => by
          have hj : j < 6 := by rw [← s1]; simpa using hj
          exact (by have h := A15p.out.th (10 + j) (by rw [VS.out]; omega); rwa [Nat.zero_add] at h))
        have S1 := Lib.hid s1
        have S2 := Lib.hid s2
        have hq2 := HQ2.out
        obtain ⟨d9, hd7, hd8⟩ := under6
        clear s1 s2 s3 s4 hk hne
        go_wp2_with (first
          | ((with_reducible show wpList _ _ _ (⟨some 91, _, _, _, _, _⟩ :: _) _ _); refine wpList_load_mid rfl 26 (.tmp 90) rfl w.heap.size 10 (by first | rfl | simp [Act.eval, Act.put]) cs _ R.out hd7 hd8 (by rw [S1.out]; exact size6) ?_)
          | ((with_reducible show wpList _ _ _ (⟨none, .store _ (.tmp 92) _, _, _, _, _⟩ :: _) _ _); refine wpList_store_mid rfl 26 (.tmp 92) (.tmp 91) rfl b15 10 cs.toArray (by first | rfl | simp [Act.eval, Act.put]) (by first | rfl | simp [Act.eval, Act.put]) TH.out (by rw [List.size_toArray, S1.out]; exact size6) (all_oneCell_toArray S2.out) ?_)
          | ((with_reducible show wpList _ _ _ (⟨some 93, _, _, _, _, _⟩ :: _) _ _); refine wpList_loadA rfl A15q.out 28 (.tmp 15) rfl (by first | rfl | simp [Act.eval, Act.put]) hd1 hd2 (HSC.out _ CS.out) ?_)
          | ((with_reducible show wpList _ _ _ (⟨some 94, _, _, _, _, _⟩ :: _) _ _); refine wpList_loadA rfl ACq.out 28 (.tmp 3) rfl (by first | rfl | simp [Act.eval, Act.put]) hd1 hd2 (HSC.out _ CS.out) ?_)
          | (go_at_call 12; refine (HKN.out _).mono ?_; rintro e w6 ⟨rfl, hb⟩; have B6 := Lib.hid (Bq.out.trans (hb.mono Bq.out.size)); clear hb))
        go_ret
        exact ⟨rfl, B6.out⟩
      · have VS := Lib.hid hvs
        have V1 := Lib.hid hv1
        have HP := Lib.hid hp
        clear hvs hv1 hp HS3
        go_upto_region 12 with (first
          | ((with_reducible show wpList _ _ _ (⟨some 56, _, _, _, _, _⟩ :: _) _ _); refine wpList_loadA rfl AC7.out 28 (.tmp 3) rfl (by first | rfl | simp [Act.eval, Act.put]) hd1 hd2 (HSC.out _ CS.out) ?_)
          | ((with_reducible show wpList _ _ _ (⟨some 57, _, _, _, _, _⟩ :: _) _ _); refine wpList_loadA rfl AI7.out 43 (.tmp 5) rfl (by first | rfl | simp [Act.eval, Act.put]) hd3 hd4 HSI.out ?_)
          | (go_at_call 15; refine (HP.out _).mono ?_; rintro e wA ⟨rfl, hb⟩; have ACa := Lib.hid (AC7.out.below hb); have AIa := Lib.hid (AI7.out.below hb); have BwA := Lib.hid (Bw7.out.trans (hb.mono Bw7.out.size)); clear hb)
          | ((with_reducible show wpList _ _ _ (⟨some 15, _, _, _, _, _⟩ :: _) _ _); refine wpList_alloc rfl _ rfl z ?_)
          | ((with_reducible show wpList _ _ _ (⟨none, .store _ (.tmp 15) _, _, _, _, _⟩ :: _) _ _); refine wpList_storeA rfl (b := wA.heap.size) (A := Z) (A' := V) (ArrAt.fresh _ _ _ ZP.out) 28 (.tmp 15) (.tmp 59) rfl rfl rfl (HSC.out _ ZS.out) (VS.out.trans ZS.out.symm) V1.out ?_))
        obtain ⟨wB, hw3⟩ : ∃ z, z = (wA.alloc (.cells Z 28)).setCells wA.heap.size 0 V.toList := ⟨_, rfl⟩
        obtain ⟨b15, hb3⟩ : ∃ z, z = wA.heap.size := ⟨_, rfl⟩
        rw [← hw3, ← hb3]
        have hbw3 : Below wA.heap.size wA wB := by rw [hw3]; exact bstore ((Below.refl _ _).alloc (Nat.le_refl _) _) _ (Nat.le_refl _) _ _
        have A15 := Lib.hid (show ArrAt wB b15 V by rw [hw3, hb3]; exact (ArrAt.fresh _ _ _ (by rw [ZS.out]; omega)).store V (by rw [VS.out, ZS.out]))
        have ACb := Lib.hid (ACa.out.below hbw3)
        have AIb := Lib.hid (AIa.out.below hbw3)
        have BwB := Lib.hid (BwA.out.trans (hbw3.mono BwA.out.size))
        clear hw3 hbw3 hb3
        clear ACa AIa BwA AC7 AB7 AI7 Bw7
        clear A15
        go_wp2_with (go_at_call 12; refine (HKN.out _).mono ?_; rintro e w6 ⟨rfl, hb⟩; have B6 := Lib.hid (BwB.out.trans (hb.mono BwB.out.size)); clear hb)
        go_ret
        exact ⟨rfl, B6.out⟩
end Go.Proofs.Ytggdjadhenamiaa
