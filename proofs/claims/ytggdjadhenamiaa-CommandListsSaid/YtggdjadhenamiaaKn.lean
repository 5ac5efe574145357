/- command: the chapter's examples hold. -/
import Derived.Test.YtggdjadhenamiaaDc
import Derived.Test.YtggdjadhenamiaaIp
import Derived.Test.YtggdjadhenamiaaNc
import Derived.Test.YtggdjadhenamiaaArr
namespace Go.Proofs.Ytggdjadhenamiaa
set_option linter.unusedVariables false
set_option linter.unusedSimpArgs false
open Go.RowKit

/-- The string of n bytes. -/
def strOf (n : Nat) (f : Nat → Int) : ByteArray := ⟨((List.range n).map fun i => UInt8.ofNat (f i).toNat).toArray⟩
theorem strOf_congr {n : Nat} {f g : Nat → Int} (h : ∀ i, i < n → f i = g i) : strOf n f = strOf n g := by
  unfold strOf
  congr 2
  exact List.map_congr_left fun i hi => by rw [h i (List.mem_range.1 hi)]

theorem foldl_pushes : ∀ (l : List Int) (r : ByteArray), l.foldl (fun r n => r.push (UInt8.ofNat n.toNat)) r = ⟨r.data ++ (l.map fun n => UInt8.ofNat n.toNat).toArray⟩
  | [], r => by simp
  | b :: l, r => by
    simp only [List.foldl_cons]
    rw [foldl_pushes l]
    simp [ByteArray.push]

theorem conv_str (w : World) (a : Addr) (n cap : Nat) (f : Nat → Int) (hc : ∀ j, j < n → w.cell? (a.add j) = some (.int .u8 (f j))) :
    (convert 65 9 (.slice (some a) n cap)).run Try.prog w = .ok (.string (strOf n f)) w := by
  rw [run_convert_bytes_string w 65 9 5 (some a) n cap Try.underlying65 Try.underlying5 Try.underlying9]
  have hl := run_loadCells_list (P := Try.prog) w a (((List.range n).map f).map (Value.int .u8)) (fun j v hj => by
    have hj' : j < n := by
      have := (List.getElem?_eq_some_iff.1 hj).1
      simpa using this
    rw [hc j hj']
    simp [hj'] at hj
    rw [← hj])
  simp only [List.length_map, List.length_range] at hl
  rw [run_bytesToString w a n cap _ hl, foldl_pushes]
  have he0 : ByteArray.empty.data = #[] := rfl
  rw [he0]
  simp [strOf, Function.comp_def]

section
variable {P : Program} {ops : Array Oper} {Q : Exit → Act → World → Prop} {a : Act} {w : World} {rest : List Oper} {o : Oper}
/-- A struct built out of four parts, its outcome known. -/
theorem wpList_build4 (hgd : o.guard = none) (t i j k l : Nat) (x y z u : Operand) (ho : o.op = .build t #[(i, x), (j, y), (k, z), (l, u)]) (v0 v1 v2 v3 : Value) (hx : a.eval x = v0) (hy : a.eval y = v1) (hz : a.eval z = v2) (hu : a.eval u = v3)
    {v : Value} (hb : (Instr.build t #[(i, v0), (j, v1), (k, v2), (l, v3)]).run P w = .ok v w) (h : wpList P ops Q rest (a.put o.dst v) w) : wpList P ops Q (o :: rest) a w :=
  wpList_plain hgd fun K hK => by
    unfold Oper.wp execOp
    simp only [ho, List.map_toArray, List.map_cons, List.map_nil, hx, hy, hz, hu]
    simp only [Sem.run_bind, hb, Result.andThen_ok, Sem.run_pure]
    exact hK _ _ h
theorem wpList_slice_hi (hgd : o.guard = none) (t : Nat) (x y : Operand) (ho : o.op = .slice t x none (some y) none) (v0 v1 : Value) (hx : a.eval x = v0) (hy : a.eval y = v1)
    {v : Value} (hb : (Instr.sliceAt t v0 none (some v1) none).run P w = .ok v w) (h : wpList P ops Q rest (a.put o.dst v) w) : wpList P ops Q (o :: rest) a w :=
  wpList_plain hgd fun K hK => by
    unfold Oper.wp execOp
    simp only [ho, Option.map_some, Option.map_none, hx, hy]
    simp only [Sem.run_bind, hb, Result.andThen_ok, Sem.run_pure]
    exact hK _ _ h
theorem wpList_build3 (hgd : o.guard = none) (t i j k : Nat) (x y z : Operand) (ho : o.op = .build t #[(i, x), (j, y), (k, z)]) (v0 v1 v2 : Value) (hx : a.eval x = v0) (hy : a.eval y = v1) (hz : a.eval z = v2)
    {v : Value} (hb : (Instr.build t #[(i, v0), (j, v1), (k, v2)]).run P w = .ok v w) (h : wpList P ops Q rest (a.put o.dst v) w) : wpList P ops Q (o :: rest) a w :=
  wpList_plain hgd fun K hK => by
    unfold Oper.wp execOp
    simp only [ho, List.map_toArray, List.map_cons, List.map_nil, hx, hy, hz]
    simp only [Sem.run_bind, hb, Result.andThen_ok, Sem.run_pure]
    exact hK _ _ h
end

/-- the examples' command, and a zero one -/
def kCmd : Cmd := { op := 2, fused := 0, sgl := true, id := 258, nsid := 1, c2 := 0, c3 := 0, mt := 0, d0 := 0, d1 := 0, w0 := 0, w1 := 0, w2 := 0, w3 := 0, w4 := 0, w5 := 0 }
def oCmd : Cmd := { op := 0, fused := 0, sgl := false, id := 0, nsid := 0, c2 := 0, c3 := 0, mt := 0, d0 := 0, d1 := 0, w0 := 0, w1 := 0, w2 := 0, w3 := 0, w4 := 0, w5 := 0 }
def kIo : Io := { lba := 4294967301, bl := 8, li := false, un := true, ck := 0, rf := 0, app := 0, mask := 0 }
theorem kCmd_ok : kCmd.Ok := by constructor <;> (constructor <;> decide)
theorem oCmd_ok : oCmd.Ok := by constructor <;> (constructor <;> decide)
theorem kIo_ok : kIo.Ok := by constructor <;> (constructor <;> decide)
theorem kIo_good : kIo.good := by unfold Io.good; decide
theorem kEnc (w : World) : Calls Try.prog 10 #[.agg #[.int .u8 2, .int .u8 0, .bool true, .int .u16 258, .int .u32 1, .int .u32 0, .int .u32 0, .int .u64 0, .int .u64 0, .int .u64 0, .int .u32 0, .int .u32 0, .int .u32 0, .int .u32 0, .int .u32 0, .int .u32 0]] w fun e w' => e = .returned (.tuple #[cmdA kCmd, .int .i64 0]) ∧ Below w.heap.size w w' := cencode_any kCmd w kCmd_ok (by decide)
theorem kPut (w : World) : Calls Try.prog 15 #[.agg zCmdC, .agg #[.int .u64 4294967301, .int .i64 8, .bool false, .bool true, .int .u8 0, .int .u32 0, .int .u16 0, .int .u16 0]] w fun e w' => e = .returned (.tuple #[(putIo oCmd kIo).v, .int .i64 0]) ∧ Below w.heap.size w w' := putio_ok oCmd kIo oCmd_ok kIo_ok kIo_good w
theorem kPut2 : ∃ P1 : Array Value, (∀ w, Calls Try.prog 15 #[.agg zCmdC, .agg #[.int .u64 4294967301, .int .i64 8, .bool false, .bool true, .int .u8 0, .int .u32 0, .int .u16 0, .int .u16 0]] w fun e w' => e = .returned (.tuple #[.agg P1, .int .i64 0]) ∧ Below w.heap.size w w') ∧
    P1.size = 16 ∧ P1.all (·.oneCell') = true ∧ P1[10]? = some (.int .u32 5) ∧ P1[11]? = some (.int .u32 1) ∧ P1[12]? = some (.int .u32 1073741831) :=
  ⟨(putIo oCmd kIo).cells, kPut, rfl, by simp [Cmd.cells, Value.oneCell'], by kernel_rfl, by kernel_rfl, by kernel_rfl⟩
theorem kDec (w : World) : Calls Try.prog 13 #[arrB64 fun _ => 255] w fun e w' => e = .returned (.tuple #[.agg zCmdC, .int .i64 6]) ∧ Below w.heap.size w w' := cdec_bad _ w (fun _ => by omega) (by unfold goodB; decide)
theorem kOpc (w : World) : Calls Try.prog 17 #[.bool true, .string ⟨#[105, 100, 101, 110, 116, 105, 102, 121]⟩] w fun e w' => e = .returned (.tuple #[.int .u8 6, .int .i64 0]) ∧ Below w.heap.size w w' := by
  have h := opcode_any true ⟨#[105, 100, 101, 110, 116, 105, 102, 121]⟩ w
  have e1 : opcOf true (ByteArray.toList ⟨#[105, 100, 101, 110, 116, 105, 102, 121]⟩) = 6 := by kernel_rfl
  have e2 : opcErr true (ByteArray.toList ⟨#[105, 100, 101, 110, 116, 105, 102, 121]⟩) = 0 := by kernel_rfl
  rw [e1, e2] at h
  exact h
theorem kName1 (w : World) : Calls Try.prog 19 #[.bool false, .int .u8 2] w fun e w' => e = .returned (.string ⟨#[114, 101, 97, 100]⟩) ∧ Below w.heap.size w w' := name_any false 2 w
theorem kName2 (w : World) : Calls Try.prog 19 #[.bool true, .int .u8 2] w fun e w' => e = .returned (.string ⟨#[103, 101, 116, 108, 111, 103]⟩) ∧ Below w.heap.size w w' := name_any true 2 w
theorem kName3 (w : World) : Calls Try.prog 19 #[.bool true, .int .u8 3] w fun e w' => e = .returned (.string ⟨#[]⟩) ∧ Below w.heap.size w w' := name_any true 3 w
theorem u8_and3 (x : Int) (h : 0 ≤ x ∧ x ≤ 255) : bits .and .u8 x 3 = x % 4 := by
  obtain ⟨n, rfl⟩ := Int.eq_ofNat_of_zero_le h.1
  rw [u8_and _ _ (by omega) (by omega) (by omega) (by omega)]
  have e : ((3 : Int)).toNat = 2 ^ 2 - 1 := rfl
  rw [e, Int.toNat_natCast, Nat.and_two_pow_sub_one_eq_mod]
  push_cast
  rfl
set_option maxHeartbeats 1000000 in
theorem dir_any (k : Int) (h : 0 ≤ k ∧ k ≤ 255) (w : World) : Calls Try.prog 21 #[.int .u8 k] w fun e w' => e = .returned (.int .i64 (k % 4)) ∧ w' = w := by
  have e1 := u8_and3 k h
  have e2 : IntKind.i64.wrap (k % 4) = k % 4 := IntWalk.i64_in _ (by omega)
  go_enter Try.func21, Try.ntmps21
  go_wp2_with fail
  go_ret
  exact ⟨rfl, rfl⟩

theorem bld12 (w : World) : (Instr.build 28 #[(0, .int .u8 2), (3, .int .u16 258), (4, .int .u32 1), (2, .bool true)]).run Try.prog w = .ok (.agg #[.int .u8 2, .int .u8 0, .bool true, .int .u16 258, .int .u32 1, .int .u32 0, .int .u32 0, .int .u64 0, .int .u64 0, .int .u64 0, .int .u32 0, .int .u32 0, .int .u32 0, .int .u32 0, .int .u32 0, .int .u32 0]) w := by kernel_rfl
theorem bld29 (w : World) : (Instr.build 43 #[(0, .int .u64 4294967301), (1, .int .i64 8), (3, .bool true)]).run Try.prog w = .ok (.agg #[.int .u64 4294967301, .int .i64 8, .bool false, .bool true, .int .u8 0, .int .u32 0, .int .u16 0, .int .u16 0]) w := by kernel_rfl
theorem cmdA_one (c : Cmd) : (arr 64 fun j => Value.int .u8 (cmdB c j)).all (·.oneCell') = true := arr_one fun _ _ => rfl

set_option maxRecDepth 100000 in
set_option maxHeartbeats 8000000 in
theorem known_any (w : World) : Calls Try.prog 12 #[] w fun e w' => e = .returned (.bool true) ∧ Below w.heap.size w w' := by
  have hb0 := buildCmd
  have z := zeroCmd
  obtain ⟨Z, hZ⟩ : ∃ Z, Z = zCmdC := ⟨_, rfl⟩
  obtain ⟨P1, hkp, hP16, hP1, hp10, hp11, hp12⟩ := kPut2
  have HKP := Lib.hid hkp
  have HP := Lib.hid (And.intro hp10 (And.intro hp11 hp12))
  have HP1 := Lib.hid hP1
  have HP16 := Lib.hid hP16
  clear hkp hp10 hp11 hp12 hP1 hP16
  have HKD := Lib.hid kDec
  rw [← hZ] at z hb0 HKP HKD
  have HZ1 := Lib.hid (show Z.all (·.oneCell') = true by rw [hZ]; simp [zCmdC, Value.oneCell'])
  have HZS := Lib.hid (show (Try.prog.info? 28).map (·.size) = some Z.size by rw [hZ]; exact sizeCmd)
  have HZP := Lib.hid (show 0 < Z.size by rw [hZ]; decide)
  have HZZ := Lib.hid (show Z.size = 16 by rw [hZ]; rfl)
  obtain ⟨A0, hA0⟩ : ∃ A0, A0 = arr 64 z8 := ⟨_, rfl⟩
  have z64 := zero64
  rw [← hA0] at z64
  have H64 := Lib.hid (show A0.size = 64 by rw [hA0, arr_size])
  have HS64 := Lib.hid (show (Try.prog.info? 29).map (·.size) = some A0.size by rw [hA0, arr_size]; exact size64)
  have HA0 := Lib.hid hA0
  have HA0P := Lib.hid (show 0 < A0.size by rw [H64.out]; omega)
  obtain ⟨E1, hE1⟩ : ∃ E1, E1 = arr 64 fun j => Value.int .u8 (cmdB kCmd j) := ⟨_, rfl⟩
  have hke := kEnc
  unfold cmdA at hke
  rw [← hE1] at hke
  have HKE := Lib.hid hke
  have HE1 := Lib.hid hE1
  have HE1S := Lib.hid (show E1.size = A0.size by rw [hE1, arr_size, H64.out])
  have HE11 := Lib.hid (show E1.all (·.oneCell') = true by rw [hE1]; exact cmdA_one kCmd)
  clear hZ hA0 hE1 hke
  go_enter Try.func12, Try.ntmps12
  go_upto_region 2 with (first
    | ((with_reducible show wpList _ _ _ (⟨some 12, _, _, _, _, _⟩ :: _) _ _); refine wpList_build4 rfl _ _ _ _ _ _ _ _ _ rfl _ _ _ _ rfl rfl rfl rfl (bld12 _) ?_)
    | (go_at_call 10; refine (HKE.out _).mono ?_; rintro e w1 ⟨rfl, hb⟩; have B1 := Lib.hid hb; clear hb)
    | ((with_reducible show wpList _ _ _ (⟨some 1, _, _, _, _, _⟩ :: _) _ _); refine wpList_alloc rfl _ rfl z64 ?_)
    | ((with_reducible show wpList _ _ _ (⟨none, _, _, _, _, _⟩ :: _) _ _); (refine wpList_storeA rfl (b := w1.heap.size) (A := A0) (A' := E1) (ArrAt.fresh _ _ _ HA0P.out) 29 (.tmp 1) (.tmp 14) rfl rfl rfl HS64.out HE1S.out HE11.out ?_)))
  obtain ⟨w2, hw2⟩ : ∃ w2, w2 = (w1.alloc (.cells A0 29)).setCells w1.heap.size 0 E1.toList := ⟨_, rfl⟩
  rw [← hw2]
  obtain ⟨b1, hb1⟩ : ∃ b, b = w1.heap.size := ⟨_, rfl⟩
  rw [← hb1] at hw2 ⊢
  have AE : ArrAt w2 b1 E1 := by
    rw [hw2, hb1]
    exact (ArrAt.fresh _ _ _ HA0P.out).store E1 HE1S.out
  have B2 : Below w.heap.size w w2 := by
    rw [hw2]
    exact bstore (B1.out.alloc B1.out.size _) b1 (by rw [hb1]; exact B1.out.size) _ _
  have hb1w : w.heap.size ≤ b1 := by rw [hb1]; exact B1.out.size
  have hs2 : b1 < w2.heap.size := AE.lt
  have HAE := Lib.hid AE
  have HB2 := Lib.hid B2
  clear hw2 hb1 AE B2 B1
  go_wp2_with ((with_reducible show wpList _ _ _ (⟨some 3, _, _, _, _, _⟩ :: _) _ _); refine wpList_alloc rfl _ rfl z64 ?_)
  obtain ⟨w3, hw3⟩ : ∃ w3, w3 = w2.alloc (.cells A0 29) := ⟨_, rfl⟩
  obtain ⟨b3, hb3⟩ : ∃ b, b = w2.heap.size := ⟨_, rfl⟩
  rw [← hw3, ← hb3]
  have hr3 : w3.rowIs b3 29 64 (fun j => .int .u8 (if j < 0 then 255 else 0)) := by
    rw [hw3, hb3, HA0.out]
    exact (rowIs_arr w2 29 64 z8).congr (fun j hj => by simp [z8])
  have B3 : Below w.heap.size w w3 := by rw [hw3]; exact HB2.out.alloc HB2.out.size _
  have AE3 : ArrAt w3 b1 E1 := by rw [hw3]; exact HAE.out.alloc _
  have h13 : b1 < b3 := by omega
  have HR3 := Lib.hid hr3
  have HB3 := Lib.hid B3
  have HAE3 := Lib.hid AE3
  clear hw3 hb3 hr3 B3 AE3 HB2 HAE hs2
  go_loopw [4] (fun vi wr => ∃ k : Nat, vi = .int .i64 k ∧ k ≤ 64 ∧ wr.rowIs b3 29 64 (fun j => .int .u8 (if j < k then 255 else 0)) ∧ Keeps (One b3) w3 wr) (fun vi _ => 64 - (intOf vi).toNat)
  case atStart => exact ⟨0, rfl, by omega, HR3.out, Keeps.refl _ _⟩
  case round =>
    obtain ⟨k, rfl, hk, hr, hkk⟩ := hrel
    have HR := Lib.hid hr
    have HKK := Lib.hid hkk
    have hl : b3 < wr.heap.size := hr.lt
    clear hr hkk
    by_cases hlt : k < 64
    · have c0 := HR.out.cell (i := k) hlt
      have f0 := HR.out.frozen k
      have e1 : IntKind.i64.wrap ((k : Int) + 1) = (k : Int) + 1 := IntWalk.i64_in _ (by omega)
      go_wp2_with fail
      go_roundw
      case rel => exact ⟨k + 1, by go_num, by omega, (HR.out.set k (.int .u8 255)).congr (fun j hj => by
        by_cases e : j = k
        · simp [e]
        · by_cases e2 : j < k
          · simp [e, e2, show j < k + 1 by omega]
          · simp [e, e2, show ¬ j < k + 1 by omega]), HKK.out.set1 _ _⟩
      case measure => simp [intOf]; omega
    · have hk64 : k = 64 := by omega
      have hF : wr.rangeAt b3 0 (arr 64 fun j => Value.int .u8 ((fun _ => (255 : Int)) j)).toList := rowIs_range0 (HR.out.congr (fun j hj => by simp [show j < k by omega]))
      obtain ⟨F1, hF1⟩ : ∃ F1, F1 = arr 64 fun j => Value.int .u8 ((fun _ => (255 : Int)) j) := ⟨_, rfl⟩
      have hkd := HKD.out
      unfold arrB64 at hkd
      rw [← hF1] at hF hkd
      have HF := Lib.hid hF
      have HKD2 := Lib.hid hkd
      have HF1 := Lib.hid (show (Try.prog.info? 29).map (·.size) = some F1.toList.length by rw [Array.length_toList, hF1, arr_size]; exact size64)
      have hd64 : ∃ d, Try.prog.underlying 29 = some d ∧ d.isRow = true := ⟨_, Try.underlying29, rfl⟩
      obtain ⟨d64, hd1, hd2⟩ := hd64
      have AE4 := Lib.hid (HAE3.out.kept HKK.out (fun e => by have e : b1 = b3 := e; omega))
      have B4 := Lib.hid (HB3.out.trans (HKK.out.below (B := w.heap.size) HB3.out.size (fun j hj e => by have e : j = b3 := e; omega)))
      clear hF hkd hF1 hk64 HKK HR
      go_upto_region 8 with (first
        | ((with_reducible show wpList _ _ _ (⟨some 23, _, _, _, _, _⟩ :: _) _ _); refine wpList_load_mid rfl 29 (.tmp 3) rfl b3 0 rfl F1.toList d64 HF.out hd1 hd2 HF1.out ?_)
        | (go_at_call 13; refine (HKD2.out _).mono ?_; rintro e w5 ⟨rfl, hb⟩; have B5 := Lib.hid (B4.out.trans (hb.mono B4.out.size)); have AE5 := Lib.hid (AE4.out.below hb); clear hb)
        | ((with_reducible show wpList _ _ _ (⟨some 5, _, _, _, _, _⟩ :: _) _ _); refine wpList_alloc rfl _ rfl z ?_)
        | ((with_reducible show wpList _ _ _ (⟨none, _, _, _, _, _⟩ :: _) _ _); (refine wpList_storeA rfl (b := w5.heap.size) (A := Z) (A' := Z) (ArrAt.fresh _ _ _ HZP.out) 28 (.tmp 5) (.tmp 25) rfl rfl rfl HZS.out rfl HZ1.out ?_)))
      obtain ⟨w6, hw6⟩ : ∃ w6, w6 = (w5.alloc (.cells Z 28)).setCells w5.heap.size 0 Z.toList := ⟨_, rfl⟩
      rw [← hw6]
      have hb6 : Below w5.heap.size w5 w6 := by rw [hw6]; exact bstore ((Below.refl _ _).alloc (Nat.le_refl _) _) _ (Nat.le_refl _) _ _
      have AE6 := Lib.hid (AE5.out.below hb6)
      have B6 := Lib.hid (B5.out.trans (hb6.mono B5.out.size))
      have HPZ := Lib.hid (show P1.size = Z.size by rw [HP16.out, HZZ.out])
      clear hw6 hb6 AE4 B4 HF HF1
      go_upto_region 9 with (first
        | ((with_reducible show wpList _ _ _ (⟨some 28, _, _, _, _, _⟩ :: _) _ _); refine wpList_build0 rfl _ rfl (hb0 _) ?_)
        | ((with_reducible show wpList _ _ _ (⟨some 29, _, _, _, _, _⟩ :: _) _ _); refine wpList_build3 rfl _ _ _ _ _ _ _ rfl _ _ _ rfl rfl rfl (bld29 _) ?_)
        | (go_at_call 15; refine (HKP.out _).mono ?_; rintro e w7 ⟨rfl, hb⟩; have B7 := Lib.hid (B6.out.trans (hb.mono B6.out.size)); have AE7 := Lib.hid (AE6.out.below hb); clear hb)
        | ((with_reducible show wpList _ _ _ (⟨some 7, _, _, _, _, _⟩ :: _) _ _); refine wpList_alloc rfl _ rfl z ?_)
        | ((with_reducible show wpList _ _ _ (⟨none, _, _, _, _, _⟩ :: _) _ _); (refine wpList_storeA rfl (b := w7.heap.size) (A := Z) (A' := P1) (ArrAt.fresh _ _ _ HZP.out) 28 (.tmp 7) (.tmp 31) rfl rfl rfl HZS.out HPZ.out HP1.out ?_)))
      obtain ⟨w8, hw8⟩ : ∃ w8, w8 = (w7.alloc (.cells Z 28)).setCells w7.heap.size 0 P1.toList := ⟨_, rfl⟩
      obtain ⟨b7, hb7⟩ : ∃ b, b = w7.heap.size := ⟨_, rfl⟩
      rw [← hw8, ← hb7]
      have hb8 : Below w7.heap.size w7 w8 := by rw [hw8]; exact bstore ((Below.refl _ _).alloc (Nat.le_refl _) _) _ (Nat.le_refl _) _ _
      have AP8 : ArrAt w8 b7 P1 := by rw [hw8, hb7]; exact (ArrAt.fresh _ _ _ HZP.out).store P1 HPZ.out
      have HAP8 := Lib.hid AP8
      have AE8 := Lib.hid (AE7.out.below hb8)
      have B8 := Lib.hid (B7.out.trans (hb8.mono B7.out.size))
      clear hw8 hb8 hb7 AP8 AE5 B5 AE6 B6 AE7 B7
      go_upto_region 10 with (first
        | (go_at_call 17; refine (kOpc _).mono ?_; rintro e w9 ⟨rfl, hb⟩; have B9 := Lib.hid (B8.out.trans (hb.mono B8.out.size)); have AE9 := Lib.hid (AE8.out.below hb); have AP9 := Lib.hid (HAP8.out.below hb); clear hb))
      have hsl : ∀ W : World, (Instr.sliceAt 29 (.pointer (some ⟨b1, 0, none⟩)) none (some (.int .i64 8)) none).run Try.prog W = .ok (.slice (some ⟨b1, 0, none⟩) 8 64) W := fun W => by kernel_rfl
      have hcv : (convert 65 9 (.slice (some ⟨b1, 0, none⟩) 8 64)).run Try.prog w9 = .ok (.string ⟨#[2, 64, 2, 1, 1, 0, 0, 0]⟩) w9 := by
        have := conv_str w9 ⟨b1, 0, none⟩ 8 64 (cmdB kCmd) (fun j hj => by
          rw [Addr.add_mid, Nat.zero_add]
          exact AE9.out.cell (by rw [HE1.out]; exact arr_get _ _ _ (by omega)))
        have e : strOf 8 (cmdB kCmd) = ⟨#[2, 64, 2, 1, 1, 0, 0, 0]⟩ := by kernel_rfl
        rw [e] at this
        exact this
      have p10 := AP9.out.cell HP.out.1
      have p11 := AP9.out.cell HP.out.2.1
      have p12 := AP9.out.cell HP.out.2.2
      go_wp2_with (first
        | ((with_reducible show wpList _ _ _ (⟨some 37, _, _, _, _, _⟩ :: _) _ _); refine wpList_slice_hi rfl _ _ _ rfl _ _ rfl rfl (hsl _) ?_)
        | (go_at_call 21; refine (dir_any 1 (by omega) _).mono ?_; rintro e w' ⟨rfl, rfl⟩)
        | (go_at_call 19; first
          | ((with_reducible refine (kName1 _).mono ?_); rintro e w10 ⟨rfl, hb⟩; have B10 := Lib.hid (B9.out.trans (hb.mono B9.out.size)); clear hb)
          | ((with_reducible refine (kName2 _).mono ?_); rintro e w11 ⟨rfl, hb⟩; have B11 := Lib.hid (B10.out.trans (hb.mono B10.out.size)); clear hb)
          | ((with_reducible refine (kName3 _).mono ?_); rintro e w12 ⟨rfl, hb⟩; have B12 := Lib.hid (B11.out.trans (hb.mono B11.out.size)); clear hb)))
      go_ret
      exact ⟨rfl, B12.out⟩
end Go.Proofs.Ytggdjadhenamiaa
