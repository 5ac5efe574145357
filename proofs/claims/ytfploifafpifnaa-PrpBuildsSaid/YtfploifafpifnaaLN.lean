/- prp: the law PrpNone. -/
import Derived.Test.YtfploifafpifnaaMW
namespace Go.Proofs.Ytfploifafpifnaa
set_option linter.unusedVariables false
set_option linter.unusedSimpArgs false
open Go.RowKit Go.Shelf
theorem Quiet.nomem {N : Nat} {A B : World} (h : Quiet N A B) {q : Option Addr} (hp : NoMem A q) : NoMem B q := by
  rcases hp with rfl | ⟨b, m, k, rfl, hc⟩
  · exact .inl rfl
  · exact .inr ⟨b, m, k, rfl, h.cell hc⟩
theorem res_end {w W : World} {D r : Nat} (hb : Below w.heap.size w W) (hr : w.heap.size ≤ r) (hD : w.heap.size ≤ D) (hc : (W.cell? ⟨r, 0, none⟩).isSome = true) (hK : W.heap[D]? = some (.deferred (some []))) :
    (W.setCell ⟨r, 0, none⟩ (.bool true)).heap[D]? = some (.deferred (some [])) ∧
    (((W.setCell ⟨r, 0, none⟩ (.bool true)).putObj D (.deferred none)).cell? ⟨r, 0, none⟩ = some (.bool true)) ∧
    Below w.heap.size w ((W.setCell ⟨r, 0, none⟩ (.bool true)).putObj D (.deferred none)) := by
  have hK' := (KeepsOthers.setCell W ⟨r, 0, none⟩ (.bool true)).same D _ hK rfl
  refine ⟨hK', cell_kept (World.cell?_setCell_same' W ⟨r, 0, none⟩ (.bool true) hc) (grownBy_putObj' _ D (.deferred none)) (fun r e => by cases e; exact ⟨_, hK', rfl⟩), ?_⟩
  exact (hb.setCell (p := ⟨r, 0, none⟩) hr _).trans (belowK_b (w := w) (Nat.le_refl _) _ D _ _ hD hK' rfl rfl)
set_option maxRecDepth 100000 in
theorem build_mem0 (w : World) : (Instr.build 57 #[]).run Try.prog w = .ok (.agg (zjl ++ [Value.slice none 0 0]).toArray) w := by kernel_rfl


theorem run_bsu (x : Int) (w : World) : (Instr.buildSlice 22 1 #[(0, .int .u64 x)]).run Try.prog w = .ok (.slice (some ⟨w.heap.size, 0, none⟩) 1 1) (w.alloc (.cells #[.int .u64 x] 31)) := by kernel_rfl
/-- What lies in memory in PrpNone. -/
structure NoneI (w : World) (q : Option Addr) (W : World) : Prop where
  below : Below w.heap.size w W
  nomem : NoMem W q
  r8 : W.rowIs w.heap.size 4 1 (fun _ => .bool false)
theorem NoneI.quiet {w A B : World} {N : Nat} {q : Option Addr} (h : NoneI w q A) (k : Quiet N A B) (hN : w.heap.size ≤ N) : NoneI w q B :=
  ⟨k.below h.below hN, k.nomem h.nomem, k.rowIs h.r8⟩
theorem NoneI.go {w A B : World} {q : Option Addr} (h : NoneI w q A) (k : Below A.heap.size A B) : NoneI w q B :=
  ⟨h.below.trans (k.mono h.below.size), h.nomem.below k, (Keeps.of_below (S := fun _ => False) k).rowIs h.r8 (fun e => e)⟩

set_option maxRecDepth 100000 in
set_option maxHeartbeats 8000000 in
theorem noneLaw_nil (x y n : Int) (w : World) :
    Calls Try.prog 6 #[.int .u64 x, .int .u64 y, .int .i64 n, .bool false] w fun e w' => e = .returned (.bool true) ∧ Below w.heap.size w w' := by
  have HEA := Lib.hid fun p W (hp : NoMem W p) => each_of p x y n (.error 1) W (spans_none x y n p W hp)
  have HSL := Lib.hid fun p W (hp : NoMem W p) => spansL_of p x y n 1 (.error 1) none 0 0 W (spans_none x y n p W hp) ⟨rfl, rfl⟩
  have HBL := Lib.hid fun p W la pa nl np lc pc (hp : NoMem W p) => bld_none la pa nl np lc pc 0 n p W hp
  have HBS := Lib.hid run_bsu
  refine calls_marks Try.func6 rfl ?_
  simp only [Try.ntmps6, List.size_toArray, List.length_cons, List.length_nil, Nat.reduceAdd, Nat.reduceSub, Array.replicate_succ, Array.replicate_zero, List.push_toArray, List.append_toArray, List.nil_append, List.cons_append]
  go_upto_region 4 with (fail)
  obtain ⟨W0, hW⟩ : ∃ z, z = w.alloc (.cells #[.bool false] 4) := ⟨_, rfl⟩
  rw [← hW]
  have b0 : Below w.heap.size w W0 := by rw [hW]; exact (Below.refl _ _).alloc (Nat.le_refl _) _
  have r6 : W0.rowIs w.heap.size 4 1 (fun _ => .bool false) := by
    rw [hW]
    have h := World.rowIs_alloc w #[.bool false] 4 (fun _ => .bool false) (fun i hi => by simp at hi; subst hi; rfl)
    simp only [List.size_toArray, List.length_cons, List.length_nil, Nat.zero_add] at h
    exact h
  have hq : NoMem W0 none := .inl rfl
  obtain ⟨q, hqq⟩ : ∃ q : Option Addr, q = none := ⟨_, rfl⟩
  rw [← hqq] at hq ⊢
  clear hqq
  have INV := Lib.hid (show NoneI w q W0 from ⟨b0, hq, r6⟩)
  clear hW b0 r6 hq
  go_upto_region 5 with (first
    | ((with_reducible show wpList _ _ _ (⟨some 20, _, _, _, _, _⟩ :: _) _ _); refine wpList_bs rfl 22 1 #[(0, .tmp 19)] rfl #[(0, .int .u64 x)] (by simp [Act.eval, Act.put]) (HBS.out x _) ?_)
    | ((with_reducible show wpList _ _ _ (⟨some 22, _, _, _, _, _⟩ :: _) _ _); refine wpList_bs rfl 22 1 #[(0, .tmp 21)] rfl #[(0, .int .u64 y)] (by simp [Act.eval, Act.put]) (HBS.out y _) ?_)
    | (go_at_call 10; refine (HBL.out q _ _ _ _ _ _ _ ((INV.out.go ((Below.refl _ _).alloc (Nat.le_refl _) _)).go ((Below.refl _ _).alloc (Nat.le_refl _) _)).nomem).mono ?_; rintro e w4 ⟨rfl, hb⟩; have INV4 := Lib.hid (((INV.out.go ((Below.refl _ _).alloc (Nat.le_refl _) (.cells #[.int .u64 x] 31))).go ((Below.refl _ _).alloc (Nat.le_refl _) (.cells #[.int .u64 y] 31))).go hb); clear hb))
  go_upto_region 6 with (go_at_call 19; refine (HEA.out q _ INV4.out.nomem).mono ?_; rintro e W2 ⟨c, ao, cap, rfl, hc0, hb, hcell, hsp, hll, hag⟩; have INV2 := Lib.hid (INV4.out.go hb); have HCE := Lib.hid hcell; have HAG := Lib.hid hag; have hbs := hb.size; clear hb hcell hll hag)
  go_wp2_with fail
  have hst := Lib.hid (each1_stops 8 (by omega) c cap [] ao W2 HCE.out (SpAt.nil _ _) (by simp))
  have hw2 : w.heap.size ≤ W2.heap.size := INV2.out.below.size
  clear INV INV4 HCE hsp
  refine wp_range (gf := 45) (lb := #[.pointer (some ⟨c, 0, none⟩)]) rfl (enters_of Try.func45 (by kernel_rfl) rfl) hst.out
    (fun h k g o e => (k g o e).trans (h g o e)) (fun W l o o' hl _ _ _ g o2 e => World.putObj_heap_other (by have := HAG.out g o2 e; omega)) (fun _ => rfl)
    (fun _ W => NoneI w q W) (fun _ _ _ => False)
    (own_of fun s A B hs hq => hs.quiet hq (by omega))
    (fun cd => own_of fun s A B hs hq => hs)
    INV2.out (fun _ _ _ => True) (fun _ _ => own_of fun s A B hs hq => trivial) ?assign ?body ?done ?stop
  case assign =>
    intro l pre x W K hI hK
    have HI := Lib.hid hI
    have HK := Lib.hid hK
    clear hI hK
    gi_wp2
    exact HK.out _ _ (KeepsFrom.of_keeps (Keeps.refl (fun _ => False) _) (fun _ h => h.elim)) (fun _ _ _ => rfl) HI.out trivial
  case body =>
    intro l pre x a' W hl hr hI hA hlen
    exact absurd hlen (by simp)
  case stop =>
    intro D' cd pre W hD hp hX
    exact hX.elim
  case done =>
    rintro D' xs W hD - hI hK
    have HI := Lib.hid hI
    have HK := Lib.hid hK
    have hDW : D' < W.heap.size := lt_of_block hK
    clear hI hK
    go_wp2_with (first
      | (go_at_call 20; refine (HSL.out q _ HI.out.nomem).mono ?_; rintro e W5 ⟨rfl, hb⟩; have HI5 := Lib.hid (HI.out.go hb); have HK5 := Lib.hid ((hb.block D' hDW).trans HK.out); clear hb)
      | (go_at_call 14; refine (num_any _ _).mono ?_; rintro e w' ⟨rfl, rfl⟩)
      | (go_at_call 9; refine (works_ok _).mono ?_; rintro e W6 ⟨rfl, hb⟩; have HI6 := Lib.hid (HI5.out.go hb); have HK6 := Lib.hid ((hb.block D' (lt_of_block HK5.out)).trans HK5.out); have e6 := HI6.out.r8.cell (i := 0) (by omega); have ef := HI6.out.r8.frozen 0; clear hb))
    have HF := Lib.hid (res_end (w := w) (r := w.heap.size) (D := D') HI6.out.below (by omega) (by omega) (by rw [e6]; rfl) HK6.out)
    obtain ⟨f1, f2, f3⟩ := HF.out
    refine ⟨by simp, .inl ⟨_, _, rfl, run_takeDeferred f1, ?_⟩⟩
    refine ⟨.bool true, ?_, rfl, f3⟩
    simp [results, Try.f6, go_sem, f2]

set_option maxRecDepth 100000 in
set_option maxHeartbeats 8000000 in
theorem noneLaw_zero (x y n : Int) (w : World) :
    Calls Try.prog 6 #[.int .u64 x, .int .u64 y, .int .i64 n, .bool true] w fun e w' => e = .returned (.bool true) ∧ Below w.heap.size w w' := by
  have HEA := Lib.hid fun p W (hp : NoMem W p) => each_of p x y n (.error 1) W (spans_none x y n p W hp)
  have HSL := Lib.hid fun p W (hp : NoMem W p) => spansL_of p x y n 1 (.error 1) none 0 0 W (spans_none x y n p W hp) ⟨rfl, rfl⟩
  have HBL := Lib.hid fun p W la pa nl np lc pc (hp : NoMem W p) => bld_none la pa nl np lc pc 0 n p W hp
  have HBS := Lib.hid run_bsu
  refine calls_marks Try.func6 rfl ?_
  simp only [Try.ntmps6, List.size_toArray, List.length_cons, List.length_nil, Nat.reduceAdd, Nat.reduceSub, Array.replicate_succ, Array.replicate_zero, List.push_toArray, List.append_toArray, List.nil_append, List.cons_append]
  go_upto_region 4 with ((with_reducible show wpList _ _ _ (⟨some 15, _, _, _, _, _⟩ :: _) _ _); refine wpList_build0 rfl 57 rfl (build_mem0 _) ?_)
  obtain ⟨W0, hW⟩ : ∃ z, z = (w.alloc (.cells #[.bool false] 4)).alloc (.cells (zjl ++ [Value.slice none 0 0]).toArray 57) := ⟨_, rfl⟩
  rw [← hW]
  have b0 : Below w.heap.size w W0 := by rw [hW]; exact ((Below.refl _ _).alloc (Nat.le_refl _) _).alloc (by simp) _
  have r6 : W0.rowIs w.heap.size 4 1 (fun _ => .bool false) := by
    rw [hW]
    have h := World.rowIs_alloc w #[.bool false] 4 (fun _ => .bool false) (fun i hi => by simp at hi; subst hi; rfl)
    simp only [List.size_toArray, List.length_cons, List.length_nil, Nat.zero_add] at h
    exact h.alloc _
  have hq : NoMem W0 (some ⟨w.heap.size + 1, 0, none⟩) := by
    refine .inr ⟨_, 0, 0, rfl, ?_⟩
    rw [hW]
    have h := (ArrAt.fresh (w.alloc (.cells #[.bool false] 4)) (zjl ++ [Value.slice none 0 0]).toArray 57 (by simp)).cell (i := 769) (v := .slice none 0 0) (by
      have : (zjl ++ [Value.slice none 0 0]).toArray[769]? = (zjl ++ [Value.slice none 0 0])[769]? := by simp
      rw [this, List.getElem?_append_right (by rw [zjl_length]; omega), zjl_length]; rfl)
    simpa using h
  obtain ⟨q, hqq⟩ : ∃ q : Option Addr, q = some ⟨w.heap.size + 1, 0, none⟩ := ⟨_, rfl⟩
  rw [← hqq] at hq ⊢
  clear hqq
  have INV := Lib.hid (show NoneI w q W0 from ⟨b0, hq, r6⟩)
  clear hW b0 r6 hq
  go_upto_region 5 with (first
    | ((with_reducible show wpList _ _ _ (⟨some 20, _, _, _, _, _⟩ :: _) _ _); refine wpList_bs rfl 22 1 #[(0, .tmp 19)] rfl #[(0, .int .u64 x)] (by simp [Act.eval, Act.put]) (HBS.out x _) ?_)
    | ((with_reducible show wpList _ _ _ (⟨some 22, _, _, _, _, _⟩ :: _) _ _); refine wpList_bs rfl 22 1 #[(0, .tmp 21)] rfl #[(0, .int .u64 y)] (by simp [Act.eval, Act.put]) (HBS.out y _) ?_)
    | (go_at_call 10; refine (HBL.out q _ _ _ _ _ _ _ ((INV.out.go ((Below.refl _ _).alloc (Nat.le_refl _) _)).go ((Below.refl _ _).alloc (Nat.le_refl _) _)).nomem).mono ?_; rintro e w4 ⟨rfl, hb⟩; have INV4 := Lib.hid (((INV.out.go ((Below.refl _ _).alloc (Nat.le_refl _) (.cells #[.int .u64 x] 31))).go ((Below.refl _ _).alloc (Nat.le_refl _) (.cells #[.int .u64 y] 31))).go hb); clear hb))
  go_upto_region 6 with (go_at_call 19; refine (HEA.out q _ INV4.out.nomem).mono ?_; rintro e W2 ⟨c, ao, cap, rfl, hc0, hb, hcell, hsp, hll, hag⟩; have INV2 := Lib.hid (INV4.out.go hb); have HCE := Lib.hid hcell; have HAG := Lib.hid hag; have hbs := hb.size; clear hb hcell hll hag)
  go_wp2_with fail
  have hst := Lib.hid (each1_stops 8 (by omega) c cap [] ao W2 HCE.out (SpAt.nil _ _) (by simp))
  have hw2 : w.heap.size ≤ W2.heap.size := INV2.out.below.size
  clear INV INV4 HCE hsp
  refine wp_range (gf := 45) (lb := #[.pointer (some ⟨c, 0, none⟩)]) rfl (enters_of Try.func45 (by kernel_rfl) rfl) hst.out
    (fun h k g o e => (k g o e).trans (h g o e)) (fun W l o o' hl _ _ _ g o2 e => World.putObj_heap_other (by have := HAG.out g o2 e; omega)) (fun _ => rfl)
    (fun _ W => NoneI w q W) (fun _ _ _ => False)
    (own_of fun s A B hs hq => hs.quiet hq (by omega))
    (fun cd => own_of fun s A B hs hq => hs)
    INV2.out (fun _ _ _ => True) (fun _ _ => own_of fun s A B hs hq => trivial) ?assign ?body ?done ?stop
  case assign =>
    intro l pre x W K hI hK
    have HI := Lib.hid hI
    have HK := Lib.hid hK
    clear hI hK
    gi_wp2
    exact HK.out _ _ (KeepsFrom.of_keeps (Keeps.refl (fun _ => False) _) (fun _ h => h.elim)) (fun _ _ _ => rfl) HI.out trivial
  case body =>
    intro l pre x a' W hl hr hI hA hlen
    exact absurd hlen (by simp)
  case stop =>
    intro D' cd pre W hD hp hX
    exact hX.elim
  case done =>
    rintro D' xs W hD - hI hK
    have HI := Lib.hid hI
    have HK := Lib.hid hK
    have hDW : D' < W.heap.size := lt_of_block hK
    clear hI hK
    go_wp2_with (first
      | (go_at_call 20; refine (HSL.out q _ HI.out.nomem).mono ?_; rintro e W5 ⟨rfl, hb⟩; have HI5 := Lib.hid (HI.out.go hb); have HK5 := Lib.hid ((hb.block D' hDW).trans HK.out); clear hb)
      | (go_at_call 14; refine (num_any _ _).mono ?_; rintro e w' ⟨rfl, rfl⟩)
      | (go_at_call 9; refine (works_ok _).mono ?_; rintro e W6 ⟨rfl, hb⟩; have HI6 := Lib.hid (HI5.out.go hb); have HK6 := Lib.hid ((hb.block D' (lt_of_block HK5.out)).trans HK5.out); have e6 := HI6.out.r8.cell (i := 0) (by omega); have ef := HI6.out.r8.frozen 0; clear hb))
    have HF := Lib.hid (res_end (w := w) (r := w.heap.size) (D := D') HI6.out.below (by omega) (by omega) (by rw [e6]; rfl) HK6.out)
    obtain ⟨f1, f2, f3⟩ := HF.out
    refine ⟨by simp, .inl ⟨_, _, rfl, run_takeDeferred f1, ?_⟩⟩
    refine ⟨.bool true, ?_, rfl, f3⟩
    simp [results, Try.f6, go_sem, f2]

theorem noneLaw (x y n : Int) (zero : Bool) (w : World) (_ : (Lit.int .u64 x).wf = true) (_ : (Lit.int .u64 y).wf = true) (_ : (Lit.int .i64 n).wf = true) :
    Calls Try.prog 6 #[.int .u64 x, .int .u64 y, .int .i64 n, .bool zero] w fun e w' => e = .returned (.bool true) ∧ Below w.heap.size w w' := by
  cases zero
  · exact noneLaw_nil x y n w
  · exact noneLaw_zero x y n w
end Go.Proofs.Ytfploifafpifnaa
