/- sgl: the law SglNone. -/
import Derived.Test.YtcljbmkdflkeeaaEA
import Derived.Test.YtcljbmkdflkeeaaWK
import Derived.Test.YtcljbmkdflkeeaaDV
namespace Go.Proofs.Ytcljbmkdflkeeaa
set_option linter.unusedVariables false
set_option linter.unusedSimpArgs false
open Go.RowKit Go.Shelf

theorem Quiet.arr {N : Nat} {A B : World} (h : Quiet N A B) {b : Nat} {X : Array Value} (ha : ArrAt A b X) : ArrAt B b X := by
  have e : B.heap[b]? = A.heap[b]? := by
    have h0 := ha.cell (i := 0) (Array.getElem?_eq_getElem ha.pos)
    unfold World.cell? at h0
    cases hA : A.heap[b]? with
    | none => rw [hA] at h0; cases h0
    | some o =>
      cases o with
      | cells c t f => rw [h.cells _ _ _ _ hA]
      | _ => rw [hA] at h0; cases h0
  refine ⟨fun j v hv => ?_, fun j hj => ?_, ha.pos⟩
  · rw [World.cell?_of_block (w := A) (a := ⟨b, 0 + j, none⟩) e]; exact ha.rng j v hv
  · rw [World.cell?_of_block (w := A) (a := ⟨b, 0 + j, none⟩) e, World.frozen?_of_block (w := A) (a := ⟨b, 0 + j, none⟩) e]; exact ha.th j hj
theorem Quiet.nomem {N : Nat} {A B : World} (h : Quiet N A B) {q : Option Addr} (hp : NoMem A q) : NoMem B q := by
  rcases hp with rfl | ⟨b, m, k, rfl, hc⟩
  · exact .inl rfl
  · exact .inr ⟨b, m, k, rfl, h.cell hc⟩
theorem res_end {w W : World} {D r : Nat} (hb : Below w.heap.size w W) (hr : w.heap.size ≤ r) (hD : w.heap.size ≤ D) (hc : (W.cell? ⟨r, 0, none⟩).isSome = true) (hK : W.heap[D]? = some (.deferred (some []))) :
    (W.setCell ⟨r, 0, none⟩ (.bool true)).heap[D]? = some (.deferred (some [])) ∧
    (((W.setCell ⟨r, 0, none⟩ (.bool true)).putObj D (.deferred none)).cell? ⟨r, 0, none⟩ = some (.bool true)) ∧
    Below w.heap.size w ((W.setCell ⟨r, 0, none⟩ (.bool true)).putObj D (.deferred none)) := by
  have hK' := (KeepsOthers.setCell W ⟨r, 0, none⟩ (.bool true)).same D _ hK rfl
  refine ⟨hK', cell_kept (World.cell?_setCell_same' W ⟨r, 0, none⟩ (.bool true) hc) (grownBy_putObj' _ D (.deferred none)) (fun r e => by cases e; exact ⟨_, hK', rfl⟩), ?_⟩
  exact (hb.setCell (p := ⟨r, 0, none⟩) hr _).trans (belowK_b (w := w) (Nat.le_refl _) _ D _ _ hD hK' rfl rfl)
set_option maxRecDepth 100000 in
theorem build_mem0 (w : World) : (Instr.build 69 #[]).run Try.prog w = .ok (.agg (zjl ++ [Value.slice none 0 0]).toArray) w := by kernel_rfl

theorem eqlDsc0 (w : World) : (binOp .eql 26 (.agg zDsc.cells) (.agg zDsc.cells)).run Try.prog w = .ok (.bool true) w := by
  unfold Dsc.cells
  simp [go_sem]
theorem wpList_build0G {P : Program} {ops : Array Oper} {Q : Exit → Act → World → Prop} {a : Act} {w : World} {rest : List Oper} {o : Oper} (hw : Region.wanted o (yielded ops a.tmps) = true) (t : Nat) (ho : o.op = .build t #[])
    {v : Value} (hb : (Instr.build t #[]).run P w = .ok v w) (h : wpList P ops Q rest (a.put o.dst v) w) : wpList P ops Q (o :: rest) a w :=
  wpList_step fun K hK => by
    rw [if_pos hw]
    unfold Oper.wp execOp
    simp only [ho, List.map_toArray, List.map_nil]
    simp only [Sem.run_bind, hb, Result.andThen_ok, Sem.run_pure]
    exact hK _ _ h
theorem run_bs1 (d : Dsc) (w : World) : (Instr.buildSlice 40 1 #[(0, .agg d.cells)]).run Try.prog w = .ok (.slice (some ⟨w.heap.size, 0, none⟩) 1 1) (w.alloc (.cells d.cells 26)) := by kernel_rfl
theorem wpList_bs {P : Program} {ops : Array Oper} {Q : Exit → Act → World → Prop} {a : Act} {w : World} {rest : List Oper} {o : Oper} (hgd : o.guard = none) (t n : Nat) (parts : Array (Nat × Operand)) (ho : o.op = .buildSlice t n parts) (pv : Array (Nat × Value)) (hp : parts.map (fun p => (p.1, a.eval p.2)) = pv)
    {v : Value} {w' : World} (hb : (Instr.buildSlice t n pv).run P w = .ok v w') (h : wpList P ops Q rest (a.put o.dst v) w') : wpList P ops Q (o :: rest) a w :=
  wpList_plain hgd fun K hK => by
    subst hp
    unfold Oper.wp execOp
    simp only [ho]
    simp only [Sem.run_bind, hb, Result.andThen_ok, Sem.run_pure]
    exact hK _ _ h
/-- What lies in memory in SglNone. -/
structure NoneI (w : World) (D : Array Value) (q : Option Addr) (Z : Array Value) (g8 : Nat) (W : World) : Prop where
  below : Below w.heap.size w W
  nomem : NoMem W q
  r3 : ArrAt W w.heap.size D
  r6 : W.rowIs (w.heap.size + 1) 4 1 (fun _ => .bool false)
  r8 : ArrAt W g8 Z
theorem NoneI.quiet {w A B : World} {N : Nat} {D : Array Value} {q : Option Addr} {Z : Array Value} {g8 : Nat} (h : NoneI w D q Z g8 A) (k : Quiet N A B) (hN : w.heap.size ≤ N) : NoneI w D q Z g8 B :=
  ⟨k.below h.below hN, k.nomem h.nomem, k.arr h.r3, k.rowIs h.r6, k.arr h.r8⟩
theorem NoneI.go {w A B : World} {D : Array Value} {q : Option Addr} {Z : Array Value} {g8 : Nat} (h : NoneI w D q Z g8 A) (k : Below A.heap.size A B) : NoneI w D q Z g8 B :=
  ⟨h.below.trans (k.mono h.below.size), h.nomem.below k, h.r3.below k, (Keeps.of_below (S := fun _ => False) k).rowIs h.r6 (fun e => e), h.r8.below k⟩

set_option maxRecDepth 100000 in
set_option maxHeartbeats 8000000 in
theorem noneLaw_nil (d : Dsc) (n : Int) (w : World) (hd : d.Ok) :
    Calls Try.prog 7 #[.agg d.cells, .int .i64 n, .bool false] w fun e w' => e = .returned (.bool true) ∧ Below w.heap.size w w' := by
  have HSP := Lib.hid fun p W (hp : NoMem W p) => spans_none d n true p W hp
  have HEA := Lib.hid fun p W (hp : NoMem W p) => each_of p d n true (.error 1) W (fun w' hb => spans_none d n true p w' (hp.below hb))
  have HSL := Lib.hid fun p W (hp : NoMem W p) => spansL_of p d n 1 true (.error 1) none 0 0 W (fun w' hb => spans_none d n true p w' (hp.below hb)) ⟨rfl, rfl⟩
  obtain ⟨D, hD⟩ : ∃ A : Array Value, A = d.cells := ⟨_, rfl⟩
  have SD := Lib.hid (show D.size = 4 by rw [hD]; rfl)
  have ID := Lib.hid (show (Try.prog.info? 26).map (·.size) = some D.size by rw [SD.out]; exact sizeD)
  have HBS := Lib.hid fun w => run_bs1 d w
  rw [← hD] at HSP HEA HSL HBS ⊢
  clear hD hd
  obtain ⟨Z, hZ⟩ : ∃ A : Array Value, A = zDsc.cells := ⟨_, rfl⟩
  have SZ := Lib.hid (show Z.size = 4 by rw [hZ]; rfl)
  have OZ := Lib.hid (show Z.all (·.oneCell') = true by rw [hZ]; exact Dsc.one _)
  have IZ := Lib.hid (show (Try.prog.info? 26).map (·.size) = some Z.size by rw [SZ.out]; exact sizeD)
  have QZ := Lib.hid (show ∀ w, (binOp .eql 26 (.agg Z) (.agg Z)).run Try.prog w = .ok (.bool true) w by rw [hZ]; exact eqlDsc0)
  have BZ := Lib.hid (show ∀ w, (Instr.build 26 #[]).run Try.prog w = .ok (.agg Z) w by rw [hZ]; exact buildDz)
  have HBL := Lib.hid fun p W ao n c (hp : NoMem W p) => bld_none 0 ao n c p W hp
  rw [← hZ] at HBL
  have HZ := Lib.hid hZ
  clear hZ
  refine calls_marks Try.func7 rfl ?_
  simp only [Try.ntmps7, List.size_toArray, List.length_cons, List.length_nil, Nat.reduceAdd, Nat.reduceSub, Array.replicate_succ, Array.replicate_zero, List.push_toArray, List.append_toArray, List.nil_append, List.cons_append]
  go_upto_region 4 with (fail)
  obtain ⟨W0, hW⟩ : ∃ z, z = (w.alloc (.cells D 26)).alloc (.cells #[.bool false] 4) := ⟨_, rfl⟩
  rw [← hW]
  have b0 : Below w.heap.size w W0 := by rw [hW]; exact ((Below.refl _ _).alloc (Nat.le_refl _) _).alloc (by simp) _
  have r3 : ArrAt W0 w.heap.size D := by rw [hW]; exact (ArrAt.fresh w D _ (by rw [SD.out]; omega)).alloc _
  have r6 : W0.rowIs (w.heap.size + 1) 4 1 (fun _ => .bool false) := by
    rw [hW]
    have h := World.rowIs_alloc (w.alloc (.cells D 26)) #[.bool false] 4 (fun _ => .bool false) (fun i hi => by simp at hi; subst hi; rfl)
    simp only [World.size_alloc, List.size_toArray, List.length_cons, List.length_nil, Nat.zero_add] at h
    exact h
  have hq : NoMem W0 none := .inl rfl
  obtain ⟨q, hqq⟩ : ∃ q : Option Addr, q = none := ⟨_, rfl⟩
  rw [← hqq] at hq ⊢
  clear hqq
  have B0 := Lib.hid b0
  have R3 := Lib.hid r3
  have R6 := Lib.hid r6
  have NM := Lib.hid hq
  clear hW b0 r3 r6 hq
  go_upto_region 5 with (first
    | ((with_reducible show wpList _ _ _ (⟨some 16, _, _, _, _, _⟩ :: _) _ _); refine wpList_loadA rfl R3.out 26 (.tmp 3) rfl (by first | rfl | simp [Act.eval, Act.put]) Try.underlying26 rfl ID.out ?_)
    | ((with_reducible show wpList _ _ _ (⟨some 17, _, _, _, _, _⟩ :: _) _ _); refine wpList_bs rfl 40 1 #[(0, .tmp 16)] rfl #[(0, .agg D)] (by simp [Act.eval, Act.put]) (HBS.out _) ?_)
    | (go_at_call 19; refine (HBL.out q _ _ _ _ (NM.out.below ((Below.refl _ _).alloc (Nat.le_refl _) _))).mono ?_; rintro e w4 ⟨rfl, hb⟩; have H4 := Lib.hid (((Below.refl _ W0).alloc (Nat.le_refl _) (.cells D 26)).trans (hb.mono (by simp))); clear hb)
    | ((with_reducible show wpList _ _ _ (⟨some 8, _, _, _, _, _⟩ :: _) _ _); refine wpList_alloc rfl 26 rfl zeroD ?_; rw [show (Value.agg zDsc.cells).cells = zDsc.cells from rfl])
    | ((with_reducible show wpList _ _ _ (⟨none, .store _ (.tmp 8) _, _, _, _, _⟩ :: _) _ _); refine wpList_storeA rfl (b := w4.heap.size) (A := zDsc.cells) (A' := Z) (ArrAt.fresh w4 zDsc.cells _ (by decide)) 26 (.tmp 8) (.tmp 19) rfl (by simp [Act.eval, Act.put]) (by simp [Act.eval, Act.put]) (sizeDs _) (by rw [SZ.out]; rfl) OZ.out ?_))
  obtain ⟨W1, hW⟩ : ∃ z, z = (w4.alloc (.cells zDsc.cells 26)).setCells w4.heap.size 0 Z.toList := ⟨_, rfl⟩
  obtain ⟨hb, ha⟩ := stored_at (by decide) (by rw [SZ.out]; rfl) hW
  have hb2 := H4.out.trans (hb.mono H4.out.size)
  rw [← hW]
  obtain ⟨g8, hg8⟩ : ∃ z, z = w4.heap.size := ⟨_, rfl⟩
  rw [← hg8] at ha ⊢
  have INV := Lib.hid (show NoneI w D q Z g8 W1 from ⟨B0.out.trans (hb2.mono B0.out.size), NM.out.below hb2, R3.out.below hb2, (Keeps.of_below (S := fun _ => False) hb2).rowIs R6.out (fun e => e), ha⟩)
  clear hW hb ha hb2 B0 R3 R6 NM H4 hg8
  have r3 := Lib.hid INV.out.r3
  go_upto_region 6 with (first
    | ((with_reducible show wpList _ _ _ (⟨some 22, _, _, _, _, _⟩ :: _) _ _); refine wpList_loadA rfl r3.out 26 (.tmp 3) rfl (by first | rfl | simp [Act.eval, Act.put]) Try.underlying26 rfl ID.out ?_)
    | (go_at_call 28; refine (HEA.out q _ INV.out.nomem).mono ?_; rintro e W2 ⟨c, ao, cap, rfl, hc0, hb, hcell, hsp, hll, hag⟩; have INV2 := Lib.hid (INV.out.go hb); have HCE := Lib.hid hcell; have HAG := Lib.hid hag; have hbs := hb.size; clear hb hcell hll hag))
  go_wp2_with fail
  have hst := Lib.hid (each1_stops 8 (by omega) c cap [] ao W2 HCE.out (SpAt.nil _ _) (by simp))
  have hw2 : w.heap.size ≤ W2.heap.size := INV2.out.below.size
  clear INV HCE hsp r3
  refine wp_range (gf := 53) (lb := #[.pointer (some ⟨c, 0, none⟩)]) rfl (enters_of Try.func53 (by kernel_rfl) rfl) hst.out
    (fun h k g o e => (k g o e).trans (h g o e)) (fun W l o o' hl _ _ _ g o2 e => World.putObj_heap_other (by have := HAG.out g o2 e; omega)) (fun _ => rfl)
    (fun _ W => NoneI w D q Z g8 W) (fun _ _ _ => False)
    (own_of fun s A B hs hq => hs.quiet hq (by omega))
    (fun cd => own_of fun s A B hs hq => hs)
    INV2.out (fun _ _ _ => True) (fun _ _ => own_of fun s A B hs hq => trivial) ?assign ?body ?done ?stop
  case assign =>
    intro l pre x W K hI hK
    have HI := Lib.hid hI
    have HK := Lib.hid hK
    clear hI hK
    gi_wp2
    exact HK.out _ _ (KeepsFrom.of_keeps (Keeps.refl (fun _ => False) _) (fun _ h => h.elim)) (fun _ _ _ => rfl) HI.out trivial
  case body =>
    intro l pre x a' W hl hr hI hA hlen
    exact absurd hlen (by simp)
  case stop =>
    intro D' cd pre W hD hp hX
    exact hX.elim
  case done =>
    rintro D' xs W hD - hI hK
    have HI := Lib.hid hI
    have HK := Lib.hid hK
    have r3 := Lib.hid hI.r3
    have r8 := Lib.hid hI.r8
    have hDW : D' < W.heap.size := lt_of_block hK
    clear hI hK
    have c6 := HI.out.r6.cell (i := 0) (by omega)
    have f6 := HI.out.r6.frozen 0
    go_wp2_with (first
      | ((with_reducible show wpList _ _ _ (⟨some 31, _, _, _, _, _⟩ :: _) _ _); refine wpList_loadA rfl r3.out 26 (.tmp 3) rfl (by first | rfl | simp [Act.eval, Act.put]) Try.underlying26 rfl ID.out ?_)
      | (go_at_call 27; refine (HSL.out q _ HI.out.nomem).mono ?_; rintro e W5 ⟨rfl, hb⟩; have HI5 := Lib.hid (HI.out.go hb); have HK5 := Lib.hid ((hb.block D' hDW).trans HK.out); have r85 := Lib.hid (r8.out.below hb); clear hb)
      | (go_at_call 13; refine (num_any _ _).mono ?_; rintro e w' ⟨rfl, rfl⟩)
      | ((with_reducible show wpList _ _ _ (⟨some 40, _, _, _, _, _⟩ :: _) _ _); refine wpList_loadAG (by rfl) r85.out 26 (.tmp 8) rfl (by first | rfl | simp [Act.eval, Act.put]) Try.underlying26 rfl IZ.out ?_)
      | ((with_reducible show wpList _ _ _ (⟨some 41, _, _, _, _, _⟩ :: _) _ _); refine wpList_build0G (by rfl) 26 rfl (BZ.out _) ?_)
      | ((with_reducible show wpList _ _ _ (⟨some 42, _, _, _, _, _⟩ :: _) _ _); refine wpList_valG (by rfl) (v := .bool true) (exec_eql 26 (.tmp 40) (.tmp 41) _ rfl _ _ rfl rfl (guardDe _ _ _ _ _) (QZ.out _)) ?_)
      | (go_at_call 16; refine (works_ok _).mono ?_; rintro e W6 ⟨rfl, hb⟩; have HI6 := Lib.hid (HI5.out.go hb); have HK6 := Lib.hid ((hb.block D' (lt_of_block HK5.out)).trans HK5.out); have e6 := HI6.out.r6.cell (i := 0) (by omega); have ef := HI6.out.r6.frozen 0; clear hb))
    have HF := Lib.hid (res_end (w := w) (r := w.heap.size + 1) (D := D') HI6.out.below (by omega) (by omega) (by rw [e6]; rfl) HK6.out)
    obtain ⟨f1, f2, f3⟩ := HF.out
    refine ⟨by simp, .inl ⟨_, _, rfl, run_takeDeferred f1, ?_⟩⟩
    refine ⟨.bool true, ?_, rfl, f3⟩
    simp [results, Try.f7, go_sem, f2]

set_option maxRecDepth 100000 in
set_option maxHeartbeats 8000000 in
theorem noneLaw_zero (d : Dsc) (n : Int) (w : World) (hd : d.Ok) :
    Calls Try.prog 7 #[.agg d.cells, .int .i64 n, .bool true] w fun e w' => e = .returned (.bool true) ∧ Below w.heap.size w w' := by
  have HSP := Lib.hid fun p W (hp : NoMem W p) => spans_none d n true p W hp
  have HEA := Lib.hid fun p W (hp : NoMem W p) => each_of p d n true (.error 1) W (fun w' hb => spans_none d n true p w' (hp.below hb))
  have HSL := Lib.hid fun p W (hp : NoMem W p) => spansL_of p d n 1 true (.error 1) none 0 0 W (fun w' hb => spans_none d n true p w' (hp.below hb)) ⟨rfl, rfl⟩
  obtain ⟨D, hD⟩ : ∃ A : Array Value, A = d.cells := ⟨_, rfl⟩
  have SD := Lib.hid (show D.size = 4 by rw [hD]; rfl)
  have ID := Lib.hid (show (Try.prog.info? 26).map (·.size) = some D.size by rw [SD.out]; exact sizeD)
  have HBS := Lib.hid fun w => run_bs1 d w
  rw [← hD] at HSP HEA HSL HBS ⊢
  clear hD hd
  obtain ⟨Z, hZ⟩ : ∃ A : Array Value, A = zDsc.cells := ⟨_, rfl⟩
  have SZ := Lib.hid (show Z.size = 4 by rw [hZ]; rfl)
  have OZ := Lib.hid (show Z.all (·.oneCell') = true by rw [hZ]; exact Dsc.one _)
  have IZ := Lib.hid (show (Try.prog.info? 26).map (·.size) = some Z.size by rw [SZ.out]; exact sizeD)
  have QZ := Lib.hid (show ∀ w, (binOp .eql 26 (.agg Z) (.agg Z)).run Try.prog w = .ok (.bool true) w by rw [hZ]; exact eqlDsc0)
  have BZ := Lib.hid (show ∀ w, (Instr.build 26 #[]).run Try.prog w = .ok (.agg Z) w by rw [hZ]; exact buildDz)
  have HBL := Lib.hid fun p W ao n c (hp : NoMem W p) => bld_none 0 ao n c p W hp
  rw [← hZ] at HBL
  have HZ := Lib.hid hZ
  clear hZ
  refine calls_marks Try.func7 rfl ?_
  simp only [Try.ntmps7, List.size_toArray, List.length_cons, List.length_nil, Nat.reduceAdd, Nat.reduceSub, Array.replicate_succ, Array.replicate_zero, List.push_toArray, List.append_toArray, List.nil_append, List.cons_append]
  go_upto_region 4 with ((with_reducible show wpList _ _ _ (⟨some 12, _, _, _, _, _⟩ :: _) _ _); refine wpList_build0 rfl 69 rfl (build_mem0 _) ?_)
  obtain ⟨W0, hW⟩ : ∃ z, z = ((w.alloc (.cells D 26)).alloc (.cells #[.bool false] 4)).alloc (.cells (zjl ++ [Value.slice none 0 0]).toArray 69) := ⟨_, rfl⟩
  rw [← hW]
  have b0 : Below w.heap.size w W0 := by rw [hW]; exact (((Below.refl _ _).alloc (Nat.le_refl _) _).alloc (by simp) _).alloc (by simp; omega) _
  have r3 : ArrAt W0 w.heap.size D := by rw [hW]; exact ((ArrAt.fresh w D _ (by rw [SD.out]; omega)).alloc _).alloc _
  have r6 : W0.rowIs (w.heap.size + 1) 4 1 (fun _ => .bool false) := by
    rw [hW]
    have h := World.rowIs_alloc (w.alloc (.cells D 26)) #[.bool false] 4 (fun _ => .bool false) (fun i hi => by simp at hi; subst hi; rfl)
    simp only [World.size_alloc, List.size_toArray, List.length_cons, List.length_nil, Nat.zero_add] at h
    exact h.alloc _
  have hq : NoMem W0 (some ⟨w.heap.size + 1 + 1, 0, none⟩) := by
    refine .inr ⟨_, 0, 0, rfl, ?_⟩
    rw [hW]
    have h := (ArrAt.fresh ((w.alloc (.cells D 26)).alloc (.cells #[.bool false] 4)) (zjl ++ [Value.slice none 0 0]).toArray 69 (by simp)).cell (i := 769) (v := .slice none 0 0) (by
      have : (zjl ++ [Value.slice none 0 0]).toArray[769]? = (zjl ++ [Value.slice none 0 0])[769]? := by simp
      rw [this, List.getElem?_append_right (by rw [zjl_length]; omega), zjl_length]; rfl)
    simpa using h
  obtain ⟨q, hqq⟩ : ∃ q : Option Addr, q = some ⟨w.heap.size + 1 + 1, 0, none⟩ := ⟨_, rfl⟩
  rw [← hqq] at hq ⊢
  clear hqq
  have B0 := Lib.hid b0
  have R3 := Lib.hid r3
  have R6 := Lib.hid r6
  have NM := Lib.hid hq
  clear hW b0 r3 r6 hq
  go_upto_region 5 with (first
    | ((with_reducible show wpList _ _ _ (⟨some 16, _, _, _, _, _⟩ :: _) _ _); refine wpList_loadA rfl R3.out 26 (.tmp 3) rfl (by first | rfl | simp [Act.eval, Act.put]) Try.underlying26 rfl ID.out ?_)
    | ((with_reducible show wpList _ _ _ (⟨some 17, _, _, _, _, _⟩ :: _) _ _); refine wpList_bs rfl 40 1 #[(0, .tmp 16)] rfl #[(0, .agg D)] (by simp [Act.eval, Act.put]) (HBS.out _) ?_)
    | (go_at_call 19; refine (HBL.out q _ _ _ _ (NM.out.below ((Below.refl _ _).alloc (Nat.le_refl _) _))).mono ?_; rintro e w4 ⟨rfl, hb⟩; have H4 := Lib.hid (((Below.refl _ W0).alloc (Nat.le_refl _) (.cells D 26)).trans (hb.mono (by simp))); clear hb)
    | ((with_reducible show wpList _ _ _ (⟨some 8, _, _, _, _, _⟩ :: _) _ _); refine wpList_alloc rfl 26 rfl zeroD ?_; rw [show (Value.agg zDsc.cells).cells = zDsc.cells from rfl])
    | ((with_reducible show wpList _ _ _ (⟨none, .store _ (.tmp 8) _, _, _, _, _⟩ :: _) _ _); refine wpList_storeA rfl (b := w4.heap.size) (A := zDsc.cells) (A' := Z) (ArrAt.fresh w4 zDsc.cells _ (by decide)) 26 (.tmp 8) (.tmp 19) rfl (by simp [Act.eval, Act.put]) (by simp [Act.eval, Act.put]) (sizeDs _) (by rw [SZ.out]; rfl) OZ.out ?_))
  obtain ⟨W1, hW⟩ : ∃ z, z = (w4.alloc (.cells zDsc.cells 26)).setCells w4.heap.size 0 Z.toList := ⟨_, rfl⟩
  obtain ⟨hb, ha⟩ := stored_at (by decide) (by rw [SZ.out]; rfl) hW
  have hb2 := H4.out.trans (hb.mono H4.out.size)
  rw [← hW]
  obtain ⟨g8, hg8⟩ : ∃ z, z = w4.heap.size := ⟨_, rfl⟩
  rw [← hg8] at ha ⊢
  have INV := Lib.hid (show NoneI w D q Z g8 W1 from ⟨B0.out.trans (hb2.mono B0.out.size), NM.out.below hb2, R3.out.below hb2, (Keeps.of_below (S := fun _ => False) hb2).rowIs R6.out (fun e => e), ha⟩)
  clear hW hb ha hb2 B0 R3 R6 NM H4 hg8
  have r3 := Lib.hid INV.out.r3
  go_upto_region 6 with (first
    | ((with_reducible show wpList _ _ _ (⟨some 22, _, _, _, _, _⟩ :: _) _ _); refine wpList_loadA rfl r3.out 26 (.tmp 3) rfl (by first | rfl | simp [Act.eval, Act.put]) Try.underlying26 rfl ID.out ?_)
    | (go_at_call 28; refine (HEA.out q _ INV.out.nomem).mono ?_; rintro e W2 ⟨c, ao, cap, rfl, hc0, hb, hcell, hsp, hll, hag⟩; have INV2 := Lib.hid (INV.out.go hb); have HCE := Lib.hid hcell; have HAG := Lib.hid hag; have hbs := hb.size; clear hb hcell hll hag))
  go_wp2_with fail
  have hst := Lib.hid (each1_stops 8 (by omega) c cap [] ao W2 HCE.out (SpAt.nil _ _) (by simp))
  have hw2 : w.heap.size ≤ W2.heap.size := INV2.out.below.size
  clear INV HCE hsp r3
  refine wp_range (gf := 53) (lb := #[.pointer (some ⟨c, 0, none⟩)]) rfl (enters_of Try.func53 (by kernel_rfl) rfl) hst.out
    (fun h k g o e => (k g o e).trans (h g o e)) (fun W l o o' hl _ _ _ g o2 e => World.putObj_heap_other (by have := HAG.out g o2 e; omega)) (fun _ => rfl)
    (fun _ W => NoneI w D q Z g8 W) (fun _ _ _ => False)
    (own_of fun s A B hs hq => hs.quiet hq (by omega))
    (fun cd => own_of fun s A B hs hq => hs)
    INV2.out (fun _ _ _ => True) (fun _ _ => own_of fun s A B hs hq => trivial) ?assign ?body ?done ?stop
  case assign =>
    intro l pre x W K hI hK
    have HI := Lib.hid hI
    have HK := Lib.hid hK
    clear hI hK
    gi_wp2
    exact HK.out _ _ (KeepsFrom.of_keeps (Keeps.refl (fun _ => False) _) (fun _ h => h.elim)) (fun _ _ _ => rfl) HI.out trivial
  case body =>
    intro l pre x a' W hl hr hI hA hlen
    exact absurd hlen (by simp)
  case stop =>
    intro D' cd pre W hD hp hX
    exact hX.elim
  case done =>
    rintro D' xs W hD - hI hK
    have HI := Lib.hid hI
    have HK := Lib.hid hK
    have r3 := Lib.hid hI.r3
    have r8 := Lib.hid hI.r8
    have hDW : D' < W.heap.size := lt_of_block hK
    clear hI hK
    have c6 := HI.out.r6.cell (i := 0) (by omega)
    have f6 := HI.out.r6.frozen 0
    go_wp2_with (first
      | ((with_reducible show wpList _ _ _ (⟨some 31, _, _, _, _, _⟩ :: _) _ _); refine wpList_loadA rfl r3.out 26 (.tmp 3) rfl (by first | rfl | simp [Act.eval, Act.put]) Try.underlying26 rfl ID.out ?_)
      | (go_at_call 27; refine (HSL.out q _ HI.out.nomem).mono ?_; rintro e W5 ⟨rfl, hb⟩; have HI5 := Lib.hid (HI.out.go hb); have HK5 := Lib.hid ((hb.block D' hDW).trans HK.out); have r85 := Lib.hid (r8.out.below hb); clear hb)
      | (go_at_call 13; refine (num_any _ _).mono ?_; rintro e w' ⟨rfl, rfl⟩)
      | ((with_reducible show wpList _ _ _ (⟨some 40, _, _, _, _, _⟩ :: _) _ _); refine wpList_loadAG (by rfl) r85.out 26 (.tmp 8) rfl (by first | rfl | simp [Act.eval, Act.put]) Try.underlying26 rfl IZ.out ?_)
      | ((with_reducible show wpList _ _ _ (⟨some 41, _, _, _, _, _⟩ :: _) _ _); refine wpList_build0G (by rfl) 26 rfl (BZ.out _) ?_)
      | ((with_reducible show wpList _ _ _ (⟨some 42, _, _, _, _, _⟩ :: _) _ _); refine wpList_valG (by rfl) (v := .bool true) (exec_eql 26 (.tmp 40) (.tmp 41) _ rfl _ _ rfl rfl (guardDe _ _ _ _ _) (QZ.out _)) ?_)
      | (go_at_call 16; refine (works_ok _).mono ?_; rintro e W6 ⟨rfl, hb⟩; have HI6 := Lib.hid (HI5.out.go hb); have HK6 := Lib.hid ((hb.block D' (lt_of_block HK5.out)).trans HK5.out); have e6 := HI6.out.r6.cell (i := 0) (by omega); have ef := HI6.out.r6.frozen 0; clear hb))
    have HF := Lib.hid (res_end (w := w) (r := w.heap.size + 1) (D := D') HI6.out.below (by omega) (by omega) (by rw [e6]; rfl) HK6.out)
    obtain ⟨f1, f2, f3⟩ := HF.out
    refine ⟨by simp, .inl ⟨_, _, rfl, run_takeDeferred f1, ?_⟩⟩
    refine ⟨.bool true, ?_, rfl, f3⟩
    simp [results, Try.f7, go_sem, f2]

theorem noneLaw (d : Dsc) (n : Int) (zero : Bool) (w : World) (hd : d.Ok) (_hn : (Lit.int .i64 n).wf = true) :
    Calls Try.prog 7 #[.agg d.cells, .int .i64 n, .bool zero] w fun e w' => e = .returned (.bool true) ∧ Below w.heap.size w w' := by
  cases zero
  · exact noneLaw_nil d n w hd
  · exact noneLaw_zero d n w hd
end Go.Proofs.Ytcljbmkdflkeeaa
