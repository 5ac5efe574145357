/- sgl: works: the chapter's examples. -/
import Derived.Test.YtcljbmkdflkeeaaWA
namespace Go.Proofs.Ytcljbmkdflkeeaa
set_option linter.unusedVariables false
set_option linter.unusedSimpArgs false
open Go.RowKit

theorem below_alloc {x y : World} {o : Obj} (h : Below (x.alloc o).heap.size (x.alloc o) y) : Below x.heap.size x y := ((Below.refl _ x).alloc (Nat.le_refl _) o).trans (h.mono (by simp))
theorem exec_eql {P : Program} {o : Oper} {a : Act} {w : World} (t : TypeId) (x y : Operand) (rt : TypeId) (ho : o.op = .binOp .eql t x y rt) (v0 v1 : Value) (hx : a.eval x = v0) (hy : a.eval y = v1)
    (hg : (eqGuard .eql t x y v0 v1).run P w = .ok () w) {v : Value} (hb : (binOp .eql t v0 v1).run P w = .ok v w) : (execOp a.eval o).run P w = .ok (.value v) w := by
  unfold execOp
  simp only [ho, hx, hy]
  simp only [Sem.run_bind, hg, hb, Result.andThen_ok, Sem.run_pure]
theorem guardW (i j : Nat) (X Y : Array Value) (w : World) : (eqGuard .neq 27 (.tmp i) (.tmp j) (.agg X) (.agg Y)).run Try.prog w = .ok () w := by kernel_rfl
theorem guardD (i j : Nat) (X Y : Array Value) (w : World) : (eqGuard .neq 26 (.tmp i) (.tmp j) (.agg X) (.agg Y)).run Try.prog w = .ok () w := by kernel_rfl
theorem guardDe (i j : Nat) (X Y : Array Value) (w : World) : (eqGuard .eql 26 (.tmp i) (.tmp j) (.agg X) (.agg Y)).run Try.prog w = .ok () w := by kernel_rfl
theorem neqW1 (w : World) : (binOp .neq 27 (.agg #[.int .u64 4096, .int .u64 512]) (.agg #[.int .u64 4096, .int .u64 512])).run Try.prog w = .ok (.bool false) w := by kernel_rfl
theorem neqW2 (w : World) : (binOp .neq 27 (.agg #[.int .u64 1, .int .u64 4611686018477719554]) (.agg #[.int .u64 1, .int .u64 4611686018477719554])).run Try.prog w = .ok (.bool false) w := by kernel_rfl
theorem neqD1 (w : World) : (binOp .neq 26 (.agg (⟨2, 0, 7, 0⟩ : Dsc).cells) (.agg (⟨2, 0, 7, 0⟩ : Dsc).cells)).run Try.prog w = .ok (.bool false) w := by kernel_rfl
theorem eqlD1 (w : World) : (binOp .eql 26 (.agg (⟨4, 0, 48, 0⟩ : Dsc).cells) (.agg (⟨4, 0, 48, 0⟩ : Dsc).cells)).run Try.prog w = .ok (.bool true) w := by kernel_rfl
theorem buildD1 (w : World) : (Instr.build 26 #[(0, .int .i64 2), (1, .int .u64 1), (2, .int .i64 5)]).run Try.prog w = .ok (.agg (⟨2, 1, 5, 0⟩ : Dsc).cells) w := by kernel_rfl
/-- what lies where an array was stored -/
theorem stored_at {y W : World} {T : TypeId} {Z A : Array Value} (hz : 0 < Z.size) (hA : A.size = Z.size) (hW : W = (y.alloc (.cells Z T)).setCells y.heap.size 0 A.toList) : Below y.heap.size y W ∧ ArrAt W y.heap.size A := by
  subst hW
  exact ⟨bstore ((Below.refl _ _).alloc (Nat.le_refl _) _) _ (Nat.le_refl _) _ _, (ArrAt.fresh y Z T hz).store A hA⟩
/-- The examples so far: nothing older is touched, the memory is there. -/
structure Wk (w : World) (b B : Nat) (f : Nat → Int) (L : List (Nat × Nat)) (S : List (Nat × Array Value)) (W : World) : Prop where
  below : Below w.heap.size w W
  mem : MemAt W b B 4096 f L
  arr : ∀ x ∈ S, ArrAt W x.1 x.2
theorem Wk.go {w : World} {b B : Nat} {f : Nat → Int} {L : List (Nat × Nat)} {S : List (Nat × Array Value)} {W W' : World} (h : Wk w b B f L S W) (hb : Below W.heap.size W W') : Wk w b B f L S W' := ⟨h.below.trans (hb.mono h.below.size), h.mem.below hb, fun x hx => (h.arr x hx).below hb⟩
theorem Wk.add {w : World} {b B : Nat} {f : Nat → Int} {L : List (Nat × Nat)} {S : List (Nat × Array Value)} {W : World} (h : Wk w b B f L S W) {g : Nat} {A : Array Value} (ha : ArrAt W g A) : Wk w b B f L ((g, A) :: S) W := ⟨h.below, h.mem, fun x hx => by
  rcases List.mem_cons.1 hx with rfl | hx
  · exact ha
  · exact h.arr x hx⟩

theorem wkC1 (b B : Nat) (x : World) (hM : MemAt x b B 4096 (fun _ => 0) []) :
    Calls Try.prog 27 #[.pointer (some ⟨b, 0, none⟩), .agg (⟨1, 100, 50, 0⟩ : Dsc).cells, .int .i64 40, .bool true, .int .i64 0, .slice (some ⟨x.heap.size, 0, none⟩) 1 1] (x.alloc (.cells #[.int .u64 100, .int .i64 40, .bool false] 62)) fun e w' => e = .returned (.bool true) ∧ Below x.heap.size x w' := by
  have hb : Below x.heap.size x (x.alloc (.cells #[.int .u64 100, .int .i64 40, .bool false] 62)) := (Below.refl _ _).alloc (Nat.le_refl _) _
  refine (wkSp ⟨1, 100, 50, 0⟩ 40 0 true b B (fun _ => 0) [] _ (wk1 _) (wkOk _ _ _ _ (by omega) (by omega) (by omega) (by omega)) bytes0 _ 1 1 (x.alloc (.cells #[.int .u64 100, .int .i64 40, .bool false] 62)) (hM.below hb) (⟨rfl, rfl, by decide, spAt_fresh x [⟨100, 40, false⟩] 62⟩)).mono ?_
  rintro e w' ⟨rfl, h⟩
  exact ⟨rfl, hb.trans (h.mono hb.size)⟩
theorem wkC2 (b B : Nat) (x : World) (hM : MemAt x b B 4096 (fun _ => 0) []) :
    Calls Try.prog 27 #[.pointer (some ⟨b, 0, none⟩), .agg (⟨1, 100, 50, 0⟩ : Dsc).cells, .int .i64 51, .bool true, .int .i64 162, .slice none 0 0] x fun e w' => e = .returned (.bool true) ∧ Below x.heap.size x w' := by
  have hb : Below x.heap.size x x := Below.refl _ _
  refine (wkSp ⟨1, 100, 50, 0⟩ 51 162 true b B (fun _ => 0) [] _ (wk2 _) (wkOk _ _ _ _ (by omega) (by omega) (by omega) (by omega)) bytes0 _ 0 0 x (hM.below hb) (⟨rfl, rfl⟩)).mono ?_
  rintro e w' ⟨rfl, h⟩
  exact ⟨rfl, hb.trans (h.mono hb.size)⟩
theorem wkC3 (b B : Nat) (x : World) (hM : MemAt x b B 4096 (fun _ => 0) []) :
    Calls Try.prog 27 #[.pointer (some ⟨b, 0, none⟩), .agg (⟨1, 4090, 7, 0⟩ : Dsc).cells, .int .i64 1, .bool true, .int .i64 3, .slice none 0 0] x fun e w' => e = .returned (.bool true) ∧ Below x.heap.size x w' := by
  have hb : Below x.heap.size x x := Below.refl _ _
  refine (wkSp ⟨1, 4090, 7, 0⟩ 1 3 true b B (fun _ => 0) [] _ (wk3 _) (wkOk _ _ _ _ (by omega) (by omega) (by omega) (by omega)) bytes0 _ 0 0 x (hM.below hb) (⟨rfl, rfl⟩)).mono ?_
  rintro e w' ⟨rfl, h⟩
  exact ⟨rfl, hb.trans (h.mono hb.size)⟩
theorem wkC4 (b B : Nat) (x : World) (hM : MemAt x b B 4096 (upd (fun _ => 0) 0 48 (lstB fun i => wkL.getD i zDsc)) [(0, 48)]) :
    Calls Try.prog 27 #[.pointer (some ⟨b, 0, none⟩), .agg (⟨4, 0, 48, 0⟩ : Dsc).cells, .int .i64 15, .bool true, .int .i64 0, .slice (some ⟨x.heap.size, 0, none⟩) 3 3] (x.alloc (.cells #[.int .u64 1000, .int .i64 8, .bool false, .int .u64 0, .int .i64 4, .bool true, .int .u64 2000, .int .i64 3, .bool false] 62)) fun e w' => e = .returned (.bool true) ∧ Below x.heap.size x w' := by
  have hb : Below x.heap.size x (x.alloc (.cells #[.int .u64 1000, .int .i64 8, .bool false, .int .u64 0, .int .i64 4, .bool true, .int .u64 2000, .int .i64 3, .bool false] 62)) := (Below.refl _ _).alloc (Nat.le_refl _) _
  refine (wkSp ⟨4, 0, 48, 0⟩ 15 0 true b B (upd (fun _ => 0) 0 48 (lstB fun i => wkL.getD i zDsc)) [(0, 48)] _ wk4 (wkOk _ _ _ _ (by omega) (by omega) (by omega) (by omega)) (bytes_upd bytes0 (bytes_lst _)) _ 3 3 (x.alloc (.cells #[.int .u64 1000, .int .i64 8, .bool false, .int .u64 0, .int .i64 4, .bool true, .int .u64 2000, .int .i64 3, .bool false] 62)) (hM.below hb) (⟨rfl, rfl, by decide, spAt_fresh x [⟨1000, 8, false⟩, ⟨0, 4, true⟩, ⟨2000, 3, false⟩] 62⟩)).mono ?_
  rintro e w' ⟨rfl, h⟩
  exact ⟨rfl, hb.trans (h.mono hb.size)⟩
theorem wkC5 (b B : Nat) (x : World) (hM : MemAt x b B 4096 (upd (fun _ => 0) 0 48 (lstB fun i => wkL.getD i zDsc)) [(0, 48)]) :
    Calls Try.prog 27 #[.pointer (some ⟨b, 0, none⟩), .agg (⟨4, 0, 48, 0⟩ : Dsc).cells, .int .i64 15, .bool false, .int .i64 0, .slice (some ⟨x.heap.size, 0, none⟩) 2 2] (x.alloc (.cells #[.int .u64 1000, .int .i64 8, .bool false, .int .u64 2000, .int .i64 7, .bool false] 62)) fun e w' => e = .returned (.bool true) ∧ Below x.heap.size x w' := by
  have hb : Below x.heap.size x (x.alloc (.cells #[.int .u64 1000, .int .i64 8, .bool false, .int .u64 2000, .int .i64 7, .bool false] 62)) := (Below.refl _ _).alloc (Nat.le_refl _) _
  refine (wkSp ⟨4, 0, 48, 0⟩ 15 0 false b B (upd (fun _ => 0) 0 48 (lstB fun i => wkL.getD i zDsc)) [(0, 48)] _ wk5 (wkOk _ _ _ _ (by omega) (by omega) (by omega) (by omega)) (bytes_upd bytes0 (bytes_lst _)) _ 2 2 (x.alloc (.cells #[.int .u64 1000, .int .i64 8, .bool false, .int .u64 2000, .int .i64 7, .bool false] 62)) (hM.below hb) (⟨rfl, rfl, by decide, spAt_fresh x [⟨1000, 8, false⟩, ⟨2000, 7, false⟩] 62⟩)).mono ?_
  rintro e w' ⟨rfl, h⟩
  exact ⟨rfl, hb.trans (h.mono hb.size)⟩
theorem wkC6 (b B : Nat) (x : World) (hM : MemAt x b B 4096 (fun _ => 0) []) :
    Calls Try.prog 19 #[.pointer (some ⟨b, 0, none⟩), .int .u64 0, .slice (some ⟨x.heap.size, 0, none⟩) 3 3] (x.alloc (.cells #[.int .i64 1, .int .u64 1000, .int .i64 8, .int .u32 0, .int .i64 2, .int .u64 0, .int .i64 4, .int .u32 0, .int .i64 1, .int .u64 2000, .int .i64 8, .int .u32 0] 26)) fun e w' => e = .returned (.tuple #[.agg (⟨4, 0, 48, 0⟩ : Dsc).cells, .int .i64 0]) ∧ Keeps (Two b B) x w' ∧ MemAt w' b B 4096 (upd (fun _ => 0) 0 48 (lstB fun i => wkL.getD i zDsc)) [(0, 48)] := by
  have hb : Below x.heap.size x (x.alloc (.cells #[.int .i64 1, .int .u64 1000, .int .i64 8, .int .u32 0, .int .i64 2, .int .u64 0, .int .i64 4, .int .u32 0, .int .i64 1, .int .u64 2000, .int .i64 8, .int .u32 0] 26)) := (Below.refl _ _).alloc (Nat.le_refl _) _
  refine (wkBld b B _ 3 (some ⟨x.heap.size, 0, none⟩) (hM.below hb) (dAt_fresh x wkL 26 3 rfl)).mono ?_
  rintro e w' ⟨rfl, hk, hm⟩
  exact ⟨rfl, (Keeps.of_below hb).trans hk, hm⟩
set_option maxRecDepth 100000 in
set_option maxHeartbeats 8000000 in
theorem works_ok (w : World) : Calls Try.prog 16 #[] w fun e w' => e = .returned (.bool true) ∧ Below w.heap.size w w' := by
  obtain ⟨A1, hA1⟩ : ∃ A : Array Value, A = #[.int .u64 4096, .int .u64 512] := ⟨_, rfl⟩
  have SA1 := Lib.hid (show A1.size = 2 by rw [hA1]; rfl)
  have OA1 := Lib.hid (show A1.all (·.oneCell') = true by rw [hA1]; exact u64s_one _ _)
  have IA1 := Lib.hid (show (Try.prog.info? 27).map (·.size) = some A1.size by rw [SA1.out]; exact size2w)
  have HE1 := Lib.hid (fun w => wkEnc1 w)
  rw [← hA1] at HE1
  obtain ⟨A2, hA2⟩ : ∃ A : Array Value, A = #[.int .u64 0, .int .u64 0] := ⟨_, rfl⟩
  have SA2 := Lib.hid (show A2.size = 2 by rw [hA2]; rfl)
  have OA2 := Lib.hid (show A2.all (·.oneCell') = true by rw [hA2]; exact u64s_one _ _)
  have IA2 := Lib.hid (show (Try.prog.info? 27).map (·.size) = some A2.size by rw [SA2.out]; exact size2w)
  have HE2 := Lib.hid (fun w => wkEnc2 w)
  rw [← hA2] at HE2
  obtain ⟨A3, hA3⟩ : ∃ A : Array Value, A = (⟨2, 0, 7, 0⟩ : Dsc).cells := ⟨_, rfl⟩
  have SA3 := Lib.hid (show A3.size = 4 by rw [hA3]; rfl)
  have OA3 := Lib.hid (show A3.all (·.oneCell') = true by rw [hA3]; exact Dsc.one _)
  have IA3 := Lib.hid (show (Try.prog.info? 26).map (·.size) = some A3.size by rw [SA3.out]; exact sizeD)
  have HE3 := Lib.hid (fun w => wkDec1 w)
  rw [← hA3] at HE3
  obtain ⟨A4, hA4⟩ : ∃ A : Array Value, A = #[.int .u64 1, .int .u64 4611686018477719554] := ⟨_, rfl⟩
  have SA4 := Lib.hid (show A4.size = 2 by rw [hA4]; rfl)
  have OA4 := Lib.hid (show A4.all (·.oneCell') = true by rw [hA4]; exact u64s_one _ _)
  have IA4 := Lib.hid (show (Try.prog.info? 27).map (·.size) = some A4.size by rw [SA4.out]; exact size2w)
  have HE4 := Lib.hid (fun w => wkEnc3 w)
  rw [← hA4] at HE4
  obtain ⟨A5, hA5⟩ : ∃ A : Array Value, A = (decD 0 72057594037927936).cells := ⟨_, rfl⟩
  have SA5 := Lib.hid (show A5.size = 4 by rw [hA5]; rfl)
  have OA5 := Lib.hid (show A5.all (·.oneCell') = true by rw [hA5]; exact Dsc.one _)
  have IA5 := Lib.hid (show (Try.prog.info? 26).map (·.size) = some A5.size by rw [SA5.out]; exact sizeD)
  have HE5 := Lib.hid (fun w => wkDec2 w)
  rw [← hA5] at HE5
  obtain ⟨A6, hA6⟩ : ∃ A : Array Value, A = (⟨4, 0, 48, 0⟩ : Dsc).cells := ⟨_, rfl⟩
  have SA6 := Lib.hid (show A6.size = 4 by rw [hA6]; rfl)
  have OA6 := Lib.hid (show A6.all (·.oneCell') = true by rw [hA6]; exact Dsc.one _)
  have IA6 := Lib.hid (show (Try.prog.info? 26).map (·.size) = some A6.size by rw [SA6.out]; exact sizeD)
  have N1 := Lib.hid (show ∀ w, (binOp .neq 27 (.agg A1) (.agg #[.int .u64 4096, .int .u64 512])).run Try.prog w = .ok (.bool false) w by rw [hA1]; exact neqW1)
  have N3 := Lib.hid (show ∀ w, (binOp .neq 26 (.agg A3) (.agg (⟨2, 0, 7, 0⟩ : Dsc).cells)).run Try.prog w = .ok (.bool false) w by rw [hA3]; exact neqD1)
  have N4 := Lib.hid (show ∀ w, (binOp .neq 27 (.agg A4) (.agg #[.int .u64 1, .int .u64 4611686018477719554])).run Try.prog w = .ok (.bool false) w by rw [hA4]; exact neqW2)
  have N6 := Lib.hid (show ∀ w, (binOp .eql 26 (.agg A6) (.agg (⟨4, 0, 48, 0⟩ : Dsc).cells)).run Try.prog w = .ok (.bool true) w by rw [hA6]; exact eqlD1)
  have HB := Lib.hid fun b B x hM => wkC6 b B x hM
  have HSP4 := Lib.hid fun b B x hM => wkC4 b B x hM
  have HSP5 := Lib.hid fun b B x hM => wkC5 b B x hM
  rw [← hA6] at HB HSP4 HSP5
  clear hA1 hA2 hA3 hA4 hA5 hA6
  go_enter Try.func16, Try.ntmps16
  go_upto_region 2 with (go_at_call 23; refine (new1 _).mono ?_; rintro e W1 ⟨b, B, rfl, hb1, hB1, hbl1, hM1⟩; have K1 := Lib.hid (show Wk w b B (fun _ => 0) [] [] W1 from ⟨hbl1, hM1, fun x hx => by cases hx⟩); clear hbl1 hM1)
  go_upto_region 3 with (first
    | (go_at_call 24; refine (data_any _ _ W1).mono ?_; rintro e x2 ⟨rfl, hx⟩; have KX2 := Lib.hid (K1.out.go hx); clear hx)
    | (go_at_call 10; refine (HE1.out _).mono ?_; rintro e y2 ⟨rfl, hy⟩; have KY2 := Lib.hid (KX2.out.go hy); clear hy)
    | ((with_reducible show wpList _ _ _ (⟨some 3, _, _, _, _, _⟩ :: _) _ _); refine wpList_alloc rfl 27 rfl zero2 ?_; rw [show (Value.agg zer2).cells = zer2 from rfl])
    | ((with_reducible show wpList _ _ _ (⟨none, .store _ (.tmp 3) _, _, _, _, _⟩ :: _) _ _); refine wpList_storeA rfl (b := y2.heap.size) (A := zer2) (A' := A1) (ArrAt.fresh y2 zer2 _ (by decide)) 27 (.tmp 3) (.tmp 22) rfl (by simp [Act.eval, Act.put]) (by simp [Act.eval, Act.put]) size2z (by rw [SA1.out]; rfl) OA1.out ?_))
  obtain ⟨W2, hW⟩ : ∃ z, z = (y2.alloc (.cells zer2 27)).setCells y2.heap.size 0 A1.toList := ⟨_, rfl⟩
  obtain ⟨hb, ha⟩ := stored_at (by decide) (by rw [SA1.out]; rfl) hW
  rw [← hW]
  obtain ⟨gA1, hg⟩ : ∃ z, z = y2.heap.size := ⟨_, rfl⟩
  rw [← hg] at ha ⊢
  have K2 := Lib.hid ((KY2.out.go hb).add ha)
  clear hW hb ha hg
  go_upto_region 4 with (first
    | ((with_reducible show wpList _ _ _ (⟨some 25, _, _, _, _, _⟩ :: _) _ _); refine wpList_valG (by rfl) (v := .agg (⟨2, 1, 5, 0⟩ : Dsc).cells) (by kernel_rfl) ?_)
    | (go_at_call 10; refine (HE2.out _).mono ?_; rintro e y3 ⟨rfl, hy⟩; have KY3 := Lib.hid (K2.out.go hy); clear hy)
    | ((with_reducible show wpList _ _ _ (⟨some 5, _, _, _, _, _⟩ :: _) _ _); refine wpList_alloc rfl 27 rfl zero2 ?_; rw [show (Value.agg zer2).cells = zer2 from rfl])
    | ((with_reducible show wpList _ _ _ (⟨none, .store _ (.tmp 5) _, _, _, _, _⟩ :: _) _ _); refine wpList_storeA rfl (b := y3.heap.size) (A := zer2) (A' := A2) (ArrAt.fresh y3 zer2 _ (by decide)) 27 (.tmp 5) (.tmp 27) rfl (by simp [Act.eval, Act.put]) (by simp [Act.eval, Act.put]) size2z (by rw [SA2.out]; rfl) OA2.out ?_))
  obtain ⟨W3, hW⟩ : ∃ z, z = (y3.alloc (.cells zer2 27)).setCells y3.heap.size 0 A2.toList := ⟨_, rfl⟩
  obtain ⟨hb, ha⟩ := stored_at (by decide) (by rw [SA2.out]; rfl) hW
  rw [← hW]
  obtain ⟨gA2, hg⟩ : ∃ z, z = y3.heap.size := ⟨_, rfl⟩
  rw [← hg] at ha ⊢
  have K3 := Lib.hid ((KY3.out.go hb).add ha)
  clear hW hb ha hg
  go_upto_region 5 with (first
    | ((with_reducible show wpList _ _ _ (⟨some 30, _, _, _, _, _⟩ :: _) _ _); refine wpList_valG (by rfl) (v := .agg #[.int .u64 0, .int .u64 1152921504606846983]) (by kernel_rfl) ?_)
    | (go_at_call 11; refine (HE3.out _).mono ?_; rintro e y4 ⟨rfl, hy⟩; have KY4 := Lib.hid (K3.out.go hy); clear hy)
    | ((with_reducible show wpList _ _ _ (⟨some 7, _, _, _, _, _⟩ :: _) _ _); refine wpList_alloc rfl 26 rfl zeroD ?_; rw [show (Value.agg zDsc.cells).cells = zDsc.cells from rfl])
    | ((with_reducible show wpList _ _ _ (⟨none, .store _ (.tmp 7) _, _, _, _, _⟩ :: _) _ _); refine wpList_storeA rfl (b := y4.heap.size) (A := zDsc.cells) (A' := A3) (ArrAt.fresh y4 zDsc.cells _ (by decide)) 26 (.tmp 7) (.tmp 32) rfl (by simp [Act.eval, Act.put]) (by simp [Act.eval, Act.put]) (sizeDs _) (by rw [SA3.out]; rfl) OA3.out ?_))
  obtain ⟨W4, hW⟩ : ∃ z, z = (y4.alloc (.cells zDsc.cells 26)).setCells y4.heap.size 0 A3.toList := ⟨_, rfl⟩
  obtain ⟨hb, ha⟩ := stored_at (by decide) (by rw [SA3.out]; rfl) hW
  rw [← hW]
  obtain ⟨gA3, hg⟩ : ∃ z, z = y4.heap.size := ⟨_, rfl⟩
  rw [← hg] at ha ⊢
  have K4 := Lib.hid ((KY4.out.go hb).add ha)
  clear hW hb ha hg
  go_upto_region 6 with (first
    | ((with_reducible show wpList _ _ _ (⟨some 35, _, _, _, _, _⟩ :: _) _ _); refine wpList_valG (by rfl) (v := .agg (⟨5, 1, 2, 3⟩ : Dsc).cells) (by kernel_rfl) ?_)
    | (go_at_call 10; refine (HE4.out _).mono ?_; rintro e y5 ⟨rfl, hy⟩; have KY5 := Lib.hid (K4.out.go hy); clear hy)
    | ((with_reducible show wpList _ _ _ (⟨some 9, _, _, _, _, _⟩ :: _) _ _); refine wpList_alloc rfl 27 rfl zero2 ?_; rw [show (Value.agg zer2).cells = zer2 from rfl])
    | ((with_reducible show wpList _ _ _ (⟨none, .store _ (.tmp 9) _, _, _, _, _⟩ :: _) _ _); refine wpList_storeA rfl (b := y5.heap.size) (A := zer2) (A' := A4) (ArrAt.fresh y5 zer2 _ (by decide)) 27 (.tmp 9) (.tmp 37) rfl (by simp [Act.eval, Act.put]) (by simp [Act.eval, Act.put]) size2z (by rw [SA4.out]; rfl) OA4.out ?_))
  obtain ⟨W5, hW⟩ : ∃ z, z = (y5.alloc (.cells zer2 27)).setCells y5.heap.size 0 A4.toList := ⟨_, rfl⟩
  obtain ⟨hb, ha⟩ := stored_at (by decide) (by rw [SA4.out]; rfl) hW
  rw [← hW]
  obtain ⟨gA4, hg⟩ : ∃ z, z = y5.heap.size := ⟨_, rfl⟩
  rw [← hg] at ha ⊢
  have K5 := Lib.hid ((KY5.out.go hb).add ha)
  clear hW hb ha hg
  go_upto_region 7 with (first
    | ((with_reducible show wpList _ _ _ (⟨some 40, _, _, _, _, _⟩ :: _) _ _); refine wpList_valG (by rfl) (v := .agg #[.int .u64 0, .int .u64 72057594037927936]) (by kernel_rfl) ?_)
    | (go_at_call 11; refine (HE5.out _).mono ?_; rintro e y6 ⟨rfl, hy⟩; have KY6 := Lib.hid (K5.out.go hy); clear hy)
    | ((with_reducible show wpList _ _ _ (⟨some 11, _, _, _, _, _⟩ :: _) _ _); refine wpList_alloc rfl 26 rfl zeroD ?_; rw [show (Value.agg zDsc.cells).cells = zDsc.cells from rfl])
    | ((with_reducible show wpList _ _ _ (⟨none, .store _ (.tmp 11) _, _, _, _, _⟩ :: _) _ _); refine wpList_storeA rfl (b := y6.heap.size) (A := zDsc.cells) (A' := A5) (ArrAt.fresh y6 zDsc.cells _ (by decide)) 26 (.tmp 11) (.tmp 42) rfl (by simp [Act.eval, Act.put]) (by simp [Act.eval, Act.put]) (sizeDs _) (by rw [SA5.out]; rfl) OA5.out ?_))
  obtain ⟨W6, hW⟩ : ∃ z, z = (y6.alloc (.cells zDsc.cells 26)).setCells y6.heap.size 0 A5.toList := ⟨_, rfl⟩
  obtain ⟨hb, ha⟩ := stored_at (by decide) (by rw [SA5.out]; rfl) hW
  rw [← hW]
  obtain ⟨gA5, hg⟩ : ∃ z, z = y6.heap.size := ⟨_, rfl⟩
  rw [← hg] at ha ⊢
  have K6 := Lib.hid ((KY6.out.go hb).add ha)
  clear hW hb ha hg
  have RA1 := Lib.hid (K6.out.arr (gA1, A1) (by simp))
  have RA3 := Lib.hid (K6.out.arr (gA3, A3) (by simp))
  have RA4 := Lib.hid (K6.out.arr (gA4, A4) (by simp))
  go_upto_region 9 with (first
    | ((with_reducible show wpList _ _ _ (⟨some 57, _, _, _, _, _⟩ :: _) _ _); refine wpList_loadAG (by rfl) RA1.out 27 (.tmp 3) rfl (by first | rfl | simp [Act.eval, Act.put]) Try.underlying27 rfl IA1.out ?_)
    | ((with_reducible show wpList _ _ _ (⟨some 58, _, _, _, _, _⟩ :: _) _ _); refine wpList_valG (by rfl) (v := .agg #[.int .u64 4096, .int .u64 512]) (by kernel_rfl) ?_)
    | ((with_reducible show wpList _ _ _ (⟨some 59, _, _, _, _, _⟩ :: _) _ _); refine wpList_valG (by rfl) (v := .bool false) (exec_neq 27 (.tmp 57) (.tmp 58) _ rfl _ _ rfl rfl (guardW _ _ _ _ _) (N1.out _)) ?_)
    | ((with_reducible show wpList _ _ _ (⟨some 67, _, _, _, _, _⟩ :: _) _ _); refine wpList_loadAG (by rfl) RA3.out 26 (.tmp 7) rfl (by first | rfl | simp [Act.eval, Act.put]) Try.underlying26 rfl IA3.out ?_)
    | ((with_reducible show wpList _ _ _ (⟨some 68, _, _, _, _, _⟩ :: _) _ _); refine wpList_valG (by rfl) (v := .agg (⟨2, 0, 7, 0⟩ : Dsc).cells) (by kernel_rfl) ?_)
    | ((with_reducible show wpList _ _ _ (⟨some 69, _, _, _, _, _⟩ :: _) _ _); refine wpList_valG (by rfl) (v := .bool false) (exec_neq 26 (.tmp 67) (.tmp 68) _ rfl _ _ rfl rfl (guardD _ _ _ _ _) (N3.out _)) ?_)
    | ((with_reducible show wpList _ _ _ (⟨some 72, _, _, _, _, _⟩ :: _) _ _); refine wpList_loadAG (by rfl) RA4.out 27 (.tmp 9) rfl (by first | rfl | simp [Act.eval, Act.put]) Try.underlying27 rfl IA4.out ?_)
    | ((with_reducible show wpList _ _ _ (⟨some 73, _, _, _, _, _⟩ :: _) _ _); refine wpList_valG (by rfl) (v := .agg #[.int .u64 1, .int .u64 4611686018477719554]) (by kernel_rfl) ?_)
    | ((with_reducible show wpList _ _ _ (⟨some 74, _, _, _, _, _⟩ :: _) _ _); refine wpList_valG (by rfl) (v := .bool false) (exec_neq 27 (.tmp 72) (.tmp 73) _ rfl _ _ rfl rfl (guardW _ _ _ _ _) (N4.out _)) ?_)
    | (go_at_call 13; refine (num_any _ _).mono ?_; rintro e w' ⟨rfl, rfl⟩))
  go_upto_region 11 with (first
    | (go_at_call 27; refine (wkC3 b B x95 KX95.out.mem).mono ?_; rintro e x96 ⟨rfl, hx⟩; have KX96 := Lib.hid (KX95.out.go hx); clear hx)
    | (go_at_call 24; refine (data_any _ _ x90).mono ?_; rintro e x95 ⟨rfl, hx⟩; have KX95 := Lib.hid (KX90.out.go hx); clear hx)
    | (go_at_call 27; refine (wkC2 b B x89 KX89.out.mem).mono ?_; rintro e x90 ⟨rfl, hx⟩; have KX90 := Lib.hid (KX89.out.go hx); clear hx)
    | (go_at_call 24; refine (data_any _ _ x85).mono ?_; rintro e x89 ⟨rfl, hx⟩; have KX89 := Lib.hid (KX85.out.go hx); clear hx)
    | (go_at_call 27; refine (wkC1 b B x82 KX82.out.mem).mono ?_; rintro e x85 ⟨rfl, hx⟩; have KX85 := Lib.hid (KX82.out.go hx); clear hx)
    | (go_at_call 24; refine (data_any _ _ W6).mono ?_; rintro e x82 ⟨rfl, hx⟩; have KX82 := Lib.hid (K6.out.go hx); clear hx))
  go_upto_region 12 with (first
    | ((with_reducible show wpList _ _ _ (⟨none, .store _ (.tmp 13) _, _, _, _, _⟩ :: _) _ _); refine wpList_storeA rfl (b := x105.heap.size) (A := zDsc.cells) (A' := A6) (ArrAt.fresh x105 zDsc.cells _ (by decide)) 26 (.tmp 13) (.tmp 106) rfl (by simp [Act.eval, Act.put]) (by simp [Act.eval, Act.put]) (sizeDs _) (by rw [SA6.out]; rfl) OA6.out ?_)
    | ((with_reducible show wpList _ _ _ (⟨some 13, _, _, _, _, _⟩ :: _) _ _); refine wpList_alloc rfl 26 rfl zeroD ?_; rw [show (Value.agg zDsc.cells).cells = zDsc.cells from rfl])
    | (go_at_call 19; refine (HB.out b B x103 KX103.out.mem).mono ?_; rintro e x105 ⟨rfl, hk, hm⟩; have KX105 := Lib.hid (show Wk w b B _ _ [] x105 from ⟨KX103.out.below.trans (hk.below (B := w.heap.size) KX103.out.below.size (fun j hj e => by rcases e with e | e <;> omega)), hm, fun x hx => by cases hx⟩); clear hk hm)
    | (go_at_call 24; refine (data_any _ _ x101).mono ?_; rintro e x103 ⟨rfl, hx⟩; have KX103 := Lib.hid (KX101.out.go hx); clear hx)
    | ((with_reducible show wpList _ _ _ (⟨some 102, _, _, _, _, _⟩ :: _) _ _); refine wpList_valG (by rfl) (v := .agg (⟨2, 0, 4, 0⟩ : Dsc).cells) (by kernel_rfl) ?_)
    | (go_at_call 24; refine (data_any _ _ x96).mono ?_; rintro e x101 ⟨rfl, hx⟩; have KX101 := Lib.hid (KX96.out.go hx); clear hx))
  obtain ⟨W12, hW⟩ : ∃ z, z = (x105.alloc (.cells zDsc.cells 26)).setCells x105.heap.size 0 A6.toList := ⟨_, rfl⟩
  obtain ⟨hb, ha⟩ := stored_at (by decide) (by rw [SA6.out]; rfl) hW
  rw [← hW]
  obtain ⟨gA6, hg⟩ : ∃ z, z = x105.heap.size := ⟨_, rfl⟩
  rw [← hg] at ha ⊢
  have K12 := Lib.hid ((KX105.out.go hb).add ha)
  clear hW hb ha hg
  have RA6 := Lib.hid (K12.out.arr (gA6, A6) (by simp))
  go_wp2_with (first
    | (go_at_call 27; refine (HSP5.out b B x123 KX123.out.mem).mono ?_; rintro e x131 ⟨rfl, hx⟩; have KX131 := Lib.hid (KX123.out.go hx); clear hx)
    | ((with_reducible show wpList _ _ _ (⟨some 127, _, _, _, _, _⟩ :: _) _ _); refine wpList_loadAG (by rfl) RA7.out 26 (.tmp 13) rfl (by first | rfl | simp [Act.eval, Act.put]) Try.underlying26 rfl IA6.out ?_)
    | (go_at_call 27; refine (HSP4.out b B W12 K12.out.mem).mono ?_; rintro e x123 ⟨rfl, hx⟩; have KX123 := Lib.hid (K12.out.go hx); have RA7 := Lib.hid (RA6.out.below hx); clear hx)
    | ((with_reducible show wpList _ _ _ (⟨some 118, _, _, _, _, _⟩ :: _) _ _); refine wpList_loadAG (by rfl) RA6.out 26 (.tmp 13) rfl (by first | rfl | simp [Act.eval, Act.put]) Try.underlying26 rfl IA6.out ?_)
    | ((with_reducible show wpList _ _ _ (⟨some 114, _, _, _, _, _⟩ :: _) _ _); refine wpList_valG (by rfl) (v := .bool true) (exec_eql 26 (.tmp 112) (.tmp 113) _ rfl _ _ rfl rfl (guardDe _ _ _ _ _) (N6.out _)) ?_)
    | ((with_reducible show wpList _ _ _ (⟨some 113, _, _, _, _, _⟩ :: _) _ _); refine wpList_valG (by rfl) (v := .agg (⟨4, 0, 48, 0⟩ : Dsc).cells) (by kernel_rfl) ?_)
    | ((with_reducible show wpList _ _ _ (⟨some 112, _, _, _, _, _⟩ :: _) _ _); refine wpList_loadAG (by rfl) RA6.out 26 (.tmp 13) rfl (by first | rfl | simp [Act.eval, Act.put]) Try.underlying26 rfl IA6.out ?_)
    | (go_at_call 13; refine (num_any _ _).mono ?_; rintro e w' ⟨rfl, rfl⟩))
  go_ret
  exact ⟨rfl, KX131.out.below⟩
end Go.Proofs.Ytcljbmkdflkeeaa
