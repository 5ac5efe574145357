/- completion: the chapter's examples hold. -/
import Derived.Test.YtiinjjfggmmkmaaSu
import Derived.Test.YtiinjjfggmmkmaaRG
namespace Go.Proofs.Ytiinjjfggmmkmaa
set_option linter.unusedVariables false
set_option linter.unusedSimpArgs false
open Go.RowKit

/-- The string of n bytes. -/
def strOf (n : Nat) (f : Nat → Int) : ByteArray := ⟨((List.range n).map fun i => UInt8.ofNat (f i).toNat).toArray⟩
theorem strOf_congr {n : Nat} {f g : Nat → Int} (h : ∀ i, i < n → f i = g i) : strOf n f = strOf n g := by
  unfold strOf
  congr 2
  exact List.map_congr_left fun i hi => by rw [h i (List.mem_range.1 hi)]

theorem foldl_pushes : ∀ (l : List Int) (r : ByteArray), l.foldl (fun r n => r.push (UInt8.ofNat n.toNat)) r = ⟨r.data ++ (l.map fun n => UInt8.ofNat n.toNat).toArray⟩
  | [], r => by simp
  | b :: l, r => by
    simp only [List.foldl_cons]
    rw [foldl_pushes l]
    simp [ByteArray.push]

theorem conv_str (w : World) (a : Addr) (n cap : Nat) (f : Nat → Int) (hc : ∀ j, j < n → w.cell? (a.add j) = some (.int .u8 (f j))) :
    (convert 66 9 (.slice (some a) n cap)).run Try.prog w = .ok (.string (strOf n f)) w := by
  rw [run_convert_bytes_string w 66 9 5 (some a) n cap Try.underlying66 Try.underlying5 Try.underlying9]
  have hl := run_loadCells_list (P := Try.prog) w a (((List.range n).map f).map (Value.int .u8)) (fun j v hj => by
    have hj' : j < n := by
      have := (List.getElem?_eq_some_iff.1 hj).1
      simpa using this
    rw [hc j hj']
    simp [hj'] at hj
    rw [← hj])
  simp only [List.length_map, List.length_range] at hl
  rw [run_bytesToString w a n cap _ hl, foldl_pushes]
  have he0 : ByteArray.empty.data = #[] := rfl
  rw [he0]
  simp [strOf, Function.comp_def]

section
variable {P : Program} {ops : Array Oper} {Q : Exit → Act → World → Prop} {a : Act} {w : World} {rest : List Oper} {o : Oper}
theorem wpList_slice_loG (hw : Region.wanted o (yielded ops a.tmps) = true) (t : Nat) (x y : Operand) (ho : o.op = .slice t x (some y) none none) (v0 v1 : Value) (hx : a.eval x = v0) (hy : a.eval y = v1)
    {v : Value} (hb : (Instr.sliceAt t v0 (some v1) none none).run P w = .ok v w) (h : wpList P ops Q rest (a.put o.dst v) w) : wpList P ops Q (o :: rest) a w :=
  wpList_step fun K hK => by
    rw [if_pos hw]
    unfold Oper.wp execOp
    simp only [ho, Option.map_some, Option.map_none, hx, hy]
    simp only [Sem.run_bind, hb, Result.andThen_ok, Sem.run_pure]
    exact hK _ _ h
/-- The load of an array that lies whole, under a guard that holds. -/
theorem wpList_loadAG (hw : Region.wanted o (yielded ops a.tmps) = true) {b : Nat} {A : Array Value} (H : ArrAt w b A) (ty : TypeId) (x : Operand) (ho : o.op = .load ty x) (hx : a.eval x = .pointer (some ⟨b, 0, none⟩)) {d : TypeDesc}
    (hu : P.underlying ty = some d) (hd : d.isRow = true) (hi : (P.info? ty).map (·.size) = some A.size) (h : wpList P ops Q rest (a.put o.dst (.agg A)) w) : wpList P ops Q (o :: rest) a w :=
  wpList_load_midG hw ty x ho b 0 hx A.toList d H.rng hu hd (by simpa using hi) (by simpa using h)
end

def st1 : Array Value := #[.int .u8 2, .int .u8 130, .bool false, .bool true]
def st2 : Array Value := #[.int .u8 0, .int .u8 128, .bool false, .bool false]
def st3 : Array Value := #[.int .u8 0, .int .u8 6, .bool false, .bool false]
def st4 : Array Value := #[.int .u8 0, .int .u8 6, .bool false, .bool true]
def kCpl : Cpl := { r0 := 1, r1 := 0, head := 2, queue := 3, id := 4, ph := true, ty := 0, code := 128, more := false, never := false }
theorem kCpl_ok : kCpl.Ok := by constructor <;> (constructor <;> decide)
theorem kMk1 (w : World) : Calls Try.prog 10 #[.int .u16 642, .bool true] w fun e w' => e = .returned (.agg st1) ∧ Below w.heap.size w w' := make_any 642 true (by omega) (by omega) w
theorem kMk2 (w : World) : Calls Try.prog 10 #[.int .u16 128, .bool false] w fun e w' => e = .returned (.agg #[.int .u8 0, .int .u8 128, .bool false, .bool false]) ∧ Below w.heap.size w w' := make_any 128 false (by omega) (by omega) w
theorem kMk3 (w : World) : Calls Try.prog 10 #[.int .u16 6, .bool false] w fun e w' => e = .returned (.agg st3) ∧ Below w.heap.size w w' := make_any 6 false (by omega) (by omega) w
theorem kMk4 (w : World) : Calls Try.prog 10 #[.int .u16 6, .bool true] w fun e w' => e = .returned (.agg st4) ∧ Below w.heap.size w w' := make_any 6 true (by omega) (by omega) w
theorem kEnc (w : World) : Calls Try.prog 16 #[.agg #[.int .u32 1, .int .u32 0, .int .u16 2, .int .u16 3, .int .u16 4, .bool true, .int .u8 0, .int .u8 128, .bool false, .bool false]] w fun e w' => e = .returned (.tuple #[cplA kCpl, .int .i64 0]) ∧ Below w.heap.size w w' := pencode_ok kCpl w kCpl_ok (by decide)
theorem kFind1 (w : World) : Calls Try.prog 18 #[.string ⟨#[122, 111, 110, 101, 32, 105, 115, 32, 102, 117, 108, 108]⟩] w fun e w' => e = .returned (.tuple #[.int .u16 441, .int .i64 0]) ∧ Below w.heap.size w w' := by
  have h := find_any ⟨#[122, 111, 110, 101, 32, 105, 115, 32, 102, 117, 108, 108]⟩ w
  have e1 : opcOf (ByteArray.toList ⟨#[122, 111, 110, 101, 32, 105, 115, 32, 102, 117, 108, 108]⟩) = 441 := by kernel_rfl
  have e2 : opcErr (ByteArray.toList ⟨#[122, 111, 110, 101, 32, 105, 115, 32, 102, 117, 108, 108]⟩) = 0 := by kernel_rfl
  rw [e1, e2] at h
  exact h
theorem kFind2 (w : World) : Calls Try.prog 18 #[.string ⟨#[120]⟩] w fun e w' => e = .returned (.tuple #[.int .u16 0, .int .i64 9]) ∧ Below w.heap.size w w' := by
  have h := find_any ⟨#[120]⟩ w
  have e1 : opcOf (ByteArray.toList ⟨#[120]⟩) = 0 := by kernel_rfl
  have e2 : opcErr (ByteArray.toList ⟨#[120]⟩) = 9 := by kernel_rfl
  rw [e1, e2] at h
  exact h
theorem kName (w : World) : Calls Try.prog 20 #[.int .u16 441] w fun e w' => e = .returned (.string ⟨#[122, 111, 110, 101, 32, 105, 115, 32, 102, 117, 108, 108]⟩) ∧ Below w.heap.size w w' := by
  have h := name_any 441 w
  have e : nameOf 441 = [122, 111, 110, 101, 32, 105, 115, 32, 102, 117, 108, 108] := by kernel_rfl
  rw [e] at h
  exact h
theorem kRetry3 (w : World) : Calls Try.prog 24 #[.agg st3] w fun e w' => e = .returned (.bool true) ∧ Below w.heap.size w w' := by
  have h := retry_any (mkSt 6 false) (mkSt_ok 6 false) w
  rw [show retryB (mkSt 6 false) = true by kernel_rfl] at h
  exact h
theorem kRetry4 (w : World) : Calls Try.prog 24 #[.agg st4] w fun e w' => e = .returned (.bool false) ∧ Below w.heap.size w w' := by
  have h := retry_any (mkSt 6 true) (mkSt_ok 6 true) w
  rw [show retryB (mkSt 6 true) = false by kernel_rfl] at h
  exact h
theorem kRetry0 (w : World) : Calls Try.prog 24 #[.agg #[.int .u8 0, .int .u8 0, .bool false, .bool false]] w fun e w' => e = .returned (.bool false) ∧ Below w.heap.size w w' := by
  have h := retry_any (mkSt 0 false) (mkSt_ok 0 false) w
  rw [show retryB (mkSt 0 false) = false by kernel_rfl] at h
  exact h
theorem bldSt1 (w : World) : (Instr.build 24 #[(0, .int .u8 2), (1, .int .u8 130), (3, .bool true)]).run Try.prog w = .ok (.agg st1) w := by kernel_rfl
theorem eqSt1 (w : World) : (binOp .eql 24 (.agg st1) (.agg st1)).run Try.prog w = .ok (.bool true) w := by
  unfold st1
  simp [go_sem]
theorem underSt : ∃ d, Try.prog.underlying 24 = some d ∧ d.isRow = true := ⟨_, Try.underlying24, rfl⟩
theorem cplA_one (c : Cpl) : (arr 16 fun j => Value.int .u8 (cplB c j)).all (·.oneCell') = true := arr_one fun _ _ => rfl

set_option maxRecDepth 100000 in
set_option maxHeartbeats 8000000 in
theorem known_any (w : World) : Calls Try.prog 13 #[] w fun e w' => e = .returned (.bool true) ∧ Below w.heap.size w w' := by
  have z16' := zero16
  obtain ⟨A0, hA0⟩ : ∃ A0, A0 = arr 16 z16 := ⟨_, rfl⟩
  rw [← hA0] at z16'
  have HA16 := Lib.hid (show A0.size = 16 by rw [hA0, arr_size])
  have HS16 := Lib.hid (show (Try.prog.info? 41).map (·.size) = some A0.size by rw [hA0, arr_size]; exact size16)
  have HA0P := Lib.hid (show 0 < A0.size by rw [HA16.out]; omega)
  obtain ⟨E1, hE1⟩ : ∃ E1, E1 = arr 16 fun j => Value.int .u8 (cplB kCpl j) := ⟨_, rfl⟩
  have hke := kEnc
  unfold cplA at hke
  rw [← hE1] at hke
  have HKE := Lib.hid hke
  have HE1 := Lib.hid hE1
  have HE1S := Lib.hid (show E1.size = A0.size by rw [hE1, arr_size, HA16.out])
  have HE11 := Lib.hid (show E1.all (·.oneCell') = true by rw [hE1]; exact cplA_one kCpl)
  have zs := zeroSt
  obtain ⟨Z, hZ⟩ : ∃ Z : Array Value, Z = #[.int .u8 0, .int .u8 0, .bool false, .bool false] := ⟨_, rfl⟩
  rw [← hZ] at zs
  have HZP := Lib.hid (show 0 < Z.size by rw [hZ]; decide)
  have HZS := Lib.hid (show (Try.prog.info? 24).map (·.size) = some Z.size by rw [hZ]; exact sizeSt)
  obtain ⟨S1, h1⟩ : ∃ S, S = st1 := ⟨_, rfl⟩
  obtain ⟨S3, h3⟩ : ∃ S, S = st3 := ⟨_, rfl⟩
  obtain ⟨S4, h4⟩ : ∃ S, S = st4 := ⟨_, rfl⟩
  have M1 := Lib.hid kMk1
  have M3 := Lib.hid kMk3
  have M4 := Lib.hid kMk4
  have Y3 := Lib.hid kRetry3
  have Y4 := Lib.hid kRetry4
  have HS1 := Lib.hid h1
  rw [← h1] at M1
  rw [← h3] at M3 Y3
  rw [← h4] at M4 Y4
  have N1 := Lib.hid (show S1.size = Z.size by rw [h1, hZ]; rfl)
  have N3 := Lib.hid (show S3.size = Z.size by rw [h3, hZ]; rfl)
  have N4 := Lib.hid (show S4.size = Z.size by rw [h4, hZ]; rfl)
  have O1 := Lib.hid (show S1.all (·.oneCell') = true by rw [h1]; simp [st1, Value.oneCell'])
  have O3 := Lib.hid (show S3.all (·.oneCell') = true by rw [h3]; simp [st3, Value.oneCell'])
  have O4 := Lib.hid (show S4.all (·.oneCell') = true by rw [h4]; simp [st4, Value.oneCell'])
  have I1 := Lib.hid (show (Try.prog.info? 24).map (·.size) = some S1.size by rw [h1]; exact sizeSt)
  have I3 := Lib.hid (show (Try.prog.info? 24).map (·.size) = some S3.size by rw [h3]; exact sizeSt)
  have I4 := Lib.hid (show (Try.prog.info? 24).map (·.size) = some S4.size by rw [h4]; exact sizeSt)
  have HB0 := Lib.hid (Below.refl w.heap.size w)
  have ZS0 := Lib.hid zs
  obtain ⟨d, hd1, hd2⟩ := underSt
  clear hA0 hE1 hke hZ h1 h3 h4 zs hd1
  go_enter Try.func13, Try.ntmps13
  go_upto_region 2 with (first
    | (go_at_call 10; refine (M1.out _).mono ?_; rintro e w1 ⟨rfl, hb⟩; have Bw1 := Lib.hid (HB0.out.trans (hb.mono HB0.out.size)); clear hb)
    | ((with_reducible show wpList _ _ _ (⟨some 1, _, _, _, _, _⟩ :: _) _ _); refine wpList_alloc rfl _ rfl ZS0.out ?_; rw [show (Value.agg Z).cells = Z from rfl])
    | ((with_reducible show wpList _ _ _ (⟨none, .store _ (.tmp 1) _, _, _, _, _⟩ :: _) _ _); refine wpList_storeA rfl (b := w1.heap.size) (A := Z) (A' := S1) (ArrAt.fresh _ _ _ HZP.out) 24 (.tmp 1) (.tmp 10) rfl rfl rfl HZS.out N1.out O1.out ?_))
  obtain ⟨w2, hw⟩ : ∃ x, x = (w1.alloc (.cells Z 24)).setCells w1.heap.size 0 S1.toList := ⟨_, rfl⟩
  obtain ⟨b1, hbb⟩ : ∃ x, x = w1.heap.size := ⟨_, rfl⟩
  try simp only [Act.put, List.setIfInBounds_toArray, List.set_cons_succ, List.set_cons_zero]
  rw [← hw, ← hbb]
  have hbw : Below w1.heap.size w1 w2 := by rw [hw]; exact bstore ((Below.refl _ _).alloc (Nat.le_refl _) _) _ (Nat.le_refl _) _ _
  have A1 := Lib.hid (show ArrAt w2 b1 S1 by rw [hw, hbb]; exact (ArrAt.fresh _ _ _ HZP.out).store S1 N1.out)
  have Bw2 := Lib.hid (Bw1.out.trans (hbw.mono Bw1.out.size))
  clear hw hbb hbw Bw1
  have KM2 := Lib.hid kMk2
  go_upto_region 3 with (first
    | (go_at_call 10; refine (KM2.out _).mono ?_; rintro e wM ⟨rfl, hb⟩; have BwM := Lib.hid (Bw2.out.trans (hb.mono Bw2.out.size)); have A1m := Lib.hid (A1.out.below hb); clear hb)
    | (go_at_call 16; refine (HKE.out _).mono ?_; rintro e w4 ⟨rfl, hb⟩; have Bw4 := Lib.hid (BwM.out.trans (hb.mono BwM.out.size)); have A1ea := Lib.hid (A1m.out.below hb); clear hb)
    | ((with_reducible show wpList _ _ _ (⟨some 2, _, _, _, _, _⟩ :: _) _ _); refine wpList_alloc rfl _ rfl z16' ?_; rw [show (Value.agg A0).cells = A0 from rfl])
    | ((with_reducible show wpList _ _ _ (⟨none, .store _ (.tmp 2) _, _, _, _, _⟩ :: _) _ _); refine wpList_storeA rfl (b := w4.heap.size) (A := A0) (A' := E1) (ArrAt.fresh _ _ _ HA0P.out) 41 (.tmp 2) (.tmp 16) rfl rfl rfl HS16.out HE1S.out HE11.out ?_))
  obtain ⟨w5, hw⟩ : ∃ x, x = (w4.alloc (.cells A0 41)).setCells w4.heap.size 0 E1.toList := ⟨_, rfl⟩
  obtain ⟨b2, hbb⟩ : ∃ x, x = w4.heap.size := ⟨_, rfl⟩
  try simp only [Act.put, List.setIfInBounds_toArray, List.set_cons_succ, List.set_cons_zero]
  rw [← hw, ← hbb]
  have hbw : Below w4.heap.size w4 w5 := by rw [hw]; exact bstore ((Below.refl _ _).alloc (Nat.le_refl _) _) _ (Nat.le_refl _) _ _
  have A2 := Lib.hid (show ArrAt w5 b2 E1 by rw [hw, hbb]; exact (ArrAt.fresh _ _ _ HA0P.out).store E1 HE1S.out)
  have A1e := Lib.hid (A1ea.out.below hbw)
  have Bw5 := Lib.hid (Bw4.out.trans (hbw.mono Bw4.out.size))
  clear hw hbb hbw A1ea Bw4
  clear A1m BwM
  go_upto_region 4 with (go_at_call 18; refine (kFind1 _).mono ?_; rintro e w6 ⟨rfl, hb⟩; have Bw6 := Lib.hid (Bw5.out.trans (hb.mono Bw5.out.size)); have A16 := Lib.hid (A1e.out.below hb); have A26 := Lib.hid (A2.out.below hb); clear hb)
  go_upto_region 5 with (go_at_call 18; refine (kFind2 _).mono ?_; rintro e w7 ⟨rfl, hb⟩; have Bw7 := Lib.hid (Bw6.out.trans (hb.mono Bw6.out.size)); have A17 := Lib.hid (A16.out.below hb); have A27 := Lib.hid (A26.out.below hb); clear hb)
  clear A16 A26 Bw6 Bw5 A1e A2
  go_upto_region 6 with (first
    | (go_at_call 10; refine (M3.out _).mono ?_; rintro e w8 ⟨rfl, hb⟩; have Bw8 := Lib.hid (Bw7.out.trans (hb.mono Bw7.out.size)); have A19a := Lib.hid (A17.out.below hb); have A29a := Lib.hid (A27.out.below hb); clear hb)
    | ((with_reducible show wpList _ _ _ (⟨some 8, _, _, _, _, _⟩ :: _) _ _); refine wpList_alloc rfl _ rfl ZS0.out ?_; rw [show (Value.agg Z).cells = Z from rfl])
    | ((with_reducible show wpList _ _ _ (⟨none, .store _ (.tmp 8) _, _, _, _, _⟩ :: _) _ _); refine wpList_storeA rfl (b := w8.heap.size) (A := Z) (A' := S3) (ArrAt.fresh _ _ _ HZP.out) 24 (.tmp 8) (.tmp 26) rfl rfl rfl HZS.out N3.out O3.out ?_))
  obtain ⟨w9, hw⟩ : ∃ x, x = (w8.alloc (.cells Z 24)).setCells w8.heap.size 0 S3.toList := ⟨_, rfl⟩
  obtain ⟨b8, hbb⟩ : ∃ x, x = w8.heap.size := ⟨_, rfl⟩
  try simp only [Act.put, List.setIfInBounds_toArray, List.set_cons_succ, List.set_cons_zero]
  rw [← hw, ← hbb]
  have hbw : Below w8.heap.size w8 w9 := by rw [hw]; exact bstore ((Below.refl _ _).alloc (Nat.le_refl _) _) _ (Nat.le_refl _) _ _
  have A8 := Lib.hid (show ArrAt w9 b8 S3 by rw [hw, hbb]; exact (ArrAt.fresh _ _ _ HZP.out).store S3 N3.out)
  have A19 := Lib.hid (A19a.out.below hbw)
  have A29 := Lib.hid (A29a.out.below hbw)
  have Bw9 := Lib.hid (Bw8.out.trans (hbw.mono Bw8.out.size))
  clear hw hbb hbw A19a A29a Bw8
  go_upto_region 7 with (first
    | (go_at_call 10; refine (M4.out _).mono ?_; rintro e wA ⟨rfl, hb⟩; have BwA := Lib.hid (Bw9.out.trans (hb.mono Bw9.out.size)); have A1Ba := Lib.hid (A19.out.below hb); have A2Ba := Lib.hid (A29.out.below hb); have A8Ba := Lib.hid (A8.out.below hb); clear hb)
    | ((with_reducible show wpList _ _ _ (⟨some 9, _, _, _, _, _⟩ :: _) _ _); refine wpList_alloc rfl _ rfl ZS0.out ?_; rw [show (Value.agg Z).cells = Z from rfl])
    | ((with_reducible show wpList _ _ _ (⟨none, .store _ (.tmp 9) _, _, _, _, _⟩ :: _) _ _); refine wpList_storeA rfl (b := wA.heap.size) (A := Z) (A' := S4) (ArrAt.fresh _ _ _ HZP.out) 24 (.tmp 9) (.tmp 27) rfl rfl rfl HZS.out N4.out O4.out ?_))
  obtain ⟨wB, hw⟩ : ∃ x, x = (wA.alloc (.cells Z 24)).setCells wA.heap.size 0 S4.toList := ⟨_, rfl⟩
  obtain ⟨b9, hbb⟩ : ∃ x, x = wA.heap.size := ⟨_, rfl⟩
  try simp only [Act.put, List.setIfInBounds_toArray, List.set_cons_succ, List.set_cons_zero]
  rw [← hw, ← hbb]
  have hbw : Below wA.heap.size wA wB := by rw [hw]; exact bstore ((Below.refl _ _).alloc (Nat.le_refl _) _) _ (Nat.le_refl _) _ _
  have A9 := Lib.hid (show ArrAt wB b9 S4 by rw [hw, hbb]; exact (ArrAt.fresh _ _ _ HZP.out).store S4 N4.out)
  have A1B := Lib.hid (A1Ba.out.below hbw)
  have A2B := Lib.hid (A2Ba.out.below hbw)
  have A8B := Lib.hid (A8Ba.out.below hbw)
  have BwB := Lib.hid (BwA.out.trans (hbw.mono BwA.out.size))
  clear hw hbb hbw A1Ba A2Ba A8Ba BwA
  have hsl : ∀ W : World, (Instr.sliceAt 41 (.pointer (some ⟨b2, 0, none⟩)) (some (.int .i64 8)) none none).run Try.prog W = .ok (.slice (some ⟨b2, 8, none⟩) 8 8) W := fun W => by kernel_rfl
  have hcv : (convert 66 9 (.slice (some ⟨b2, 8, none⟩) 8 8)).run Try.prog wB = .ok (.string ⟨#[2, 0, 3, 0, 4, 0, 1, 1]⟩) wB := by
    have := conv_str wB ⟨b2, 8, none⟩ 8 8 (fun j => cplB kCpl (8 + j)) (fun j hj => by
      rw [Addr.add_mid]
      exact A2B.out.cell (by rw [HE1.out]; exact arr_get _ _ _ (by omega)))
    have e : strOf 8 (fun j => cplB kCpl (8 + j)) = ⟨#[2, 0, 3, 0, 4, 0, 1, 1]⟩ := by kernel_rfl
    rw [e] at this
    exact this
  have hu := Try.underlying24
  clear z16'
  have HU := Lib.hid hu
  clear hu
  have A1L := A1B.out
  have I1L := I1.out
  rw [HS1.out] at A1L I1L
  unfold st1 at A1L I1L
  have A1B := Lib.hid A1L
  have I1 := Lib.hid I1L
  clear A1L I1L
  go_wp2_with (first
    | ((with_reducible show wpList _ _ _ (⟨some 28, _, _, _, _, _⟩ :: _) _ _); refine wpList_loadA rfl A1B.out 24 (.tmp 1) rfl (by first | rfl | simp [Act.eval, Act.put]) HU.out rfl I1.out ?_)
    | ((with_reducible show wpList _ _ _ (⟨some 32, _, _, _, _, _⟩ :: _) _ _); refine wpList_slice_loG (by rfl) _ _ _ rfl _ _ rfl rfl (hsl _) ?_)
    | ((with_reducible show wpList _ _ _ (⟨some 57, _, _, _, _, _⟩ :: _) _ _); refine wpList_loadAG (by rfl) AR8.out 24 (.tmp 8) rfl (by first | rfl | simp [Act.eval, Act.put]) HU.out rfl I3.out ?_)
    | ((with_reducible show wpList _ _ _ (⟨some 61, _, _, _, _, _⟩ :: _) _ _); refine wpList_loadAG (by rfl) AS9.out 24 (.tmp 9) rfl (by first | rfl | simp [Act.eval, Act.put]) HU.out rfl I4.out ?_)
    | (go_at_call 20; refine (kName _).mono ?_; rintro e wC ⟨rfl, hb⟩; have BwC := Lib.hid (BwB.out.trans (hb.mono BwB.out.size)); have AR8 := Lib.hid (A8B.out.below hb); have AR9 := Lib.hid (A9.out.below hb); clear hb)
    | (go_at_call 24; first
      | ((with_reducible refine (Y3.out _).mono ?_); rintro e wD ⟨rfl, hb⟩; have BwD := Lib.hid (BwC.out.trans (hb.mono BwC.out.size)); have AS9 := Lib.hid (AR9.out.below hb); clear hb)
      | ((with_reducible refine (Y4.out _).mono ?_); rintro e wE ⟨rfl, hb⟩; have BwE := Lib.hid (BwD.out.trans (hb.mono BwD.out.size)); clear hb)
      | ((with_reducible refine (kRetry0 _).mono ?_); rintro e wF ⟨rfl, hb⟩; have BwF := Lib.hid (BwE.out.trans (hb.mono BwE.out.size)); clear hb)))
  go_ret
  exact ⟨rfl, BwF.out⟩
end Go.Proofs.Ytiinjjfggmmkmaa
