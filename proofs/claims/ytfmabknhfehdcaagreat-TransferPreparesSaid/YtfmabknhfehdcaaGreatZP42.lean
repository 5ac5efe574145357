/- transfer: works: the chapter's examples. -/
import Derived.Test.YtfmabknhfehdcaaGreatZP34
import Derived.Test.YtfmabknhfehdcaaGreatZP21
import Derived.Lib.SmallJoins
namespace Go.Proofs.YtfmabknhfehdcaaGreat
set_option linter.unusedSimpArgs false
set_option linter.unusedVariables false
open Go.RowKit
theorem cC_one (x y : Int) : (cC x y).all (·.oneCell') = true := by simp [cC, Value.oneCell']
theorem cD_one (m x y : Int) : (cD m x y).all (·.oneCell') = true := by simp [cD, Value.oneCell']
theorem conv_self (w : World) (C : Array Value) (n c : Nat) : (convert 31 31 (.slice (some ⟨w.heap.size, 0, none⟩) n c)).run Tryz.prog (w.alloc (.cells C 5)) = .ok (.slice (some ⟨w.heap.size, 0, none⟩) n c) (w.alloc (.cells C 5 (C.size, C.size + 1))) := Lib.run_convert_bytes_const w 31 5 C n c Tryz.underlying31 Tryz.underlying5
set_option maxRecDepth 100000 in
set_option maxHeartbeats 16000000 in
theorem works_a (w : World) : Calls Tryz.prog 5 #[] w fun e w' => e = .returned (.bool true) ∧ Below w.heap.size w w' := by
 have HB2 := Lib.hid build2W
 have HBC := Lib.hid buildCC
 have HBD := Lib.hid buildCD
 go_enter Tryz.func5, Tryz.ntmps5
 go_upto_region 2 with (go_at_call 10; refine (new4 _).mono ?_; rintro e w1 ⟨b, B, rfl, hb0, hB0, hb, hm⟩; have I1 := Lib.hid (show TWk w b B (fun _ => 0) 0 [] w1 from ⟨hb, ⟨[], Nat.le_refl _, hm⟩, hb0, hB0, fun x hx => by cases hx⟩); clear hb hm hb0 hB0)
 have HF1 := Lib.hid (ArrAt.fresh w1 zCm 28 (by decide))
 go_upto_region 3 with (first
  | ((with_reducible show wpList _ _ _ (⟨some 20, _, _, _, _, _⟩ :: _) _ _); refine wpList_build2 rfl 25 0 1 (.const (.int .u64 4092)) (.const (.int .u64 8192)) rfl _ _ rfl rfl (HB2.out 4092 8192 _) ?_)
  | ((with_reducible show wpList _ _ _ (⟨some 21, _, _, _, _, _⟩ :: _) _ _); refine wpList_build1 rfl 28 8 (.tmp 20) rfl _ rfl (HBC.out 4092 8192 _) ?_)
  | ((with_reducible show wpList _ _ _ (⟨some 3, _, _, _, _, _⟩ :: _) _ _); refine wpList_alloc rfl 28 rfl zeroCm ?_; rw [show (Value.agg zCm).cells = zCm from rfl])
  | ((with_reducible show wpList _ _ _ (⟨none, .store _ _ _, _, _, _, _⟩ :: _) _ _); refine wpList_storeA rfl (b := w1.heap.size) (A := zCm) (A' := cC 4092 8192) HF1.out 28 (.tmp 3) (.tmp 21) rfl (by simp [Act.eval, Act.put]) (by simp [Act.eval, Act.put]) sizeCm rfl (cC_one _ _) ?_))
 obtain ⟨W2, hW2⟩ : ∃ z, z = (w1.alloc (.cells zCm 28)).setCells w1.heap.size 0 (cC 4092 8192).toList := ⟨_, rfl⟩
 rw [← hW2]
 have I2 := Lib.hid (I1.out.var 28 (Z := zCm) (A := cC 4092 8192) (by decide) rfl hW2)
 obtain ⟨p3, hp3⟩ : ∃ z, z = w1.heap.size := ⟨_, rfl⟩
 rw [← hp3] at I2 ⊢
 clear hW2 hp3 I1 HF1
 have HF2 := Lib.hid (ArrAt.fresh W2 zCm 28 (by decide))
 go_upto_region 4 with (first
  | ((with_reducible show wpList _ _ _ (⟨some 22, _, _, _, _, _⟩ :: _) _ _); refine wpList_build2 rfl 25 0 1 (.const (.int .u64 100)) (.const (.int .u64 5)) rfl _ _ rfl rfl (HB2.out 100 5 _) ?_)
  | ((with_reducible show wpList _ _ _ (⟨some 23, _, _, _, _, _⟩ :: _) _ _); refine wpList_build2 rfl 28 2 8 (.const (.bool true)) (.tmp 22) rfl _ _ rfl rfl (HBD.out 100 5 _) ?_)
  | ((with_reducible show wpList _ _ _ (⟨some 4, _, _, _, _, _⟩ :: _) _ _); refine wpList_alloc rfl 28 rfl zeroCm ?_; rw [show (Value.agg zCm).cells = zCm from rfl])
  | ((with_reducible show wpList _ _ _ (⟨none, .store _ _ _, _, _, _, _⟩ :: _) _ _); refine wpList_storeA rfl (b := W2.heap.size) (A := zCm) (A' := cD 0 100 5) HF2.out 28 (.tmp 4) (.tmp 23) rfl (by simp [Act.eval, Act.put]) (by simp [Act.eval, Act.put]) sizeCm rfl (cD_one _ _ _) ?_))
 obtain ⟨W3, hW3⟩ : ∃ z, z = (W2.alloc (.cells zCm 28)).setCells W2.heap.size 0 (cD 0 100 5).toList := ⟨_, rfl⟩
 rw [← hW3]
 have I3 := Lib.hid (I2.out.var 28 (Z := zCm) (A := cD 0 100 5) (by decide) rfl hW3)
 obtain ⟨p4, hp4⟩ : ∃ z, z = W2.heap.size := ⟨_, rfl⟩
 have H34 := Lib.hid (show p3 < p4 by rw [hp4]; exact (I2.out.arr (p3, cC 4092 8192) (by simp)).1.lt)
 rw [← hp4] at I3 ⊢
 clear hW3 hp4 I2 HF2
 try simp only [Act.put, List.setIfInBounds_toArray, List.set_cons_succ, List.set_cons_zero]
 go_cut [5, 6, 7] from 24 to 26 (fun v5 v6 v7 wc => ∃ p5 p6 p7 : Nat, v5 = .pointer (some ⟨p5, 0, none⟩) ∧ v6 = .pointer (some ⟨p6, 0, none⟩) ∧ v7 = .pointer (some ⟨p7, 0, none⟩) ∧ (p4 < p5 ∧ p4 < p6 ∧ p4 < p7 ∧ p5 ≠ p6 ∧ p5 ≠ p7 ∧ p6 ≠ p7) ∧
  TWk w b B (fun _ => 0) 0 [(p7, cD 0 100 5), (p6, cC 4092 8192), (p5, cC 4092 8192), (p4, cD 0 100 5), (p3, cC 4092 8192)] wc)
 case first =>
  refine wp_region_held_drew (S := fun w' => ArrAt w' p3 (cC 4092 8192) ∧ ArrAt w' p4 (cD 0 100 5)) (by kernel_rfl) ⟨(I3.out.arr (p3, cC 4092 8192) (by simp)).1.drew, (I3.out.arr (p4, cD 0 100 5) (by simp)).1.drew⟩ (fun hS0 => ?_)
  refine takeD 24 (i := 0) (v := .agg (cC 4092 8192)) rfl rfl (by kernel_rfl) (by kernel_rfl) (by kernel_rfl) (fun _ _ _ h => h) (yieldsA (by rfl) 28 (.tmp 3) rfl (p3) (by first | rfl | simp [Act.eval, Act.put]) (cC 4092 8192) (fun w h => h.1.rng) Tryz.underlying28 rfl sizeCm) (by assumption) ?_
  try simp only [Act.put, List.setIfInBounds_toArray, List.set_cons_zero, List.set_cons_succ]
  refine takeD 25 (i := 1) (v := .agg (cC 4092 8192)) rfl rfl (by kernel_rfl) (by kernel_rfl) (by kernel_rfl) (fun _ _ _ h => h) (yieldsA (by rfl) 28 (.tmp 3) rfl (p3) (by first | rfl | simp [Act.eval, Act.put]) (cC 4092 8192) (fun w h => h.1.rng) Tryz.underlying28 rfl sizeCm) (by assumption) ?_
  try simp only [Act.put, List.setIfInBounds_toArray, List.set_cons_zero, List.set_cons_succ]
  refine takeD 26 (i := 2) (v := .agg (cD 0 100 5)) rfl rfl (by kernel_rfl) (by kernel_rfl) (by kernel_rfl) (fun _ _ _ h => h) (yieldsA (by rfl) 28 (.tmp 4) rfl (p4) (by first | rfl | simp [Act.eval, Act.put]) (cD 0 100 5) (fun w h => h.2.rng) Tryz.underlying28 rfl sizeCm) (by assumption) ?_
  try simp only [Act.put, List.setIfInBounds_toArray, List.set_cons_zero, List.set_cons_succ]
  have J0 := Lib.hid (I3.out.go (Below.refl _ W3).drew)
  have hl4 : p4 < W3.drew.heap.size := (J0.out.arr (p4, cD 0 100 5) (by simp)).1.lt
  refine wpAnyH_ready (rs := [3, 4, 5]) (by kernel_rfl) (by simp) (AllReadyH.cons rfl (fun K hK => ?_) (AllReadyH.cons rfl (fun K hK => ?_) (AllReadyH.cons rfl (fun K hK => ?_) AllReadyH.nil)))
  ·rw [if_pos (by rfl)]
   refine wp_allocN 28 5 rfl rfl zeroCm (A := zCm) rfl ?_
   obtain ⟨w5, hw⟩ : ∃ x, x = (W3.drew).alloc (.cells zCm 28) := ⟨_, rfl⟩
   rw [← hw]
   have hb : Below (W3.drew).heap.size (W3.drew) w5 := by rw [hw]; exact (Below.refl _ _).alloc (Nat.le_refl _) _
   have ha : ArrAt w5 (W3.drew).heap.size zCm := by rw [hw]; exact ArrAt.fresh _ zCm _ (by decide)
   have J5 := Lib.hid ((J0.out.go hb).add ha J0.out.below.size (fun e => by obtain ⟨L, -, hm⟩ := J0.out.mem; have := hm.lt; omega) (fun e => by obtain ⟨L, -, hm⟩ := J0.out.mem; have := hm.lt'; omega))
   obtain ⟨p5, hp⟩ : ∃ z, z = (W3.drew).heap.size := ⟨_, rfl⟩
   rw [← hp] at J5 ⊢
   have l5 : p4 < p5 := by rw [hp]; exact hl4
   have q5 : p5 < w5.heap.size := by rw [hp]; exact ha.lt
   refine hK.out _ _ ⟨(J5.out.arr (p3, cC 4092 8192) (by simp)).1, (J5.out.arr (p4, cD 0 100 5) (by simp)).1⟩ (fun hS0 => ?_)
   clear hK K hb ha hw hp
   try simp only [Act.put, List.setIfInBounds_toArray, List.set_cons_zero, List.set_cons_succ]
   refine wpAnyH_ready (rs := [4, 5]) (by kernel_rfl) (by simp) (AllReadyH.cons rfl (fun K hK => ?_) (AllReadyH.cons rfl (fun K hK => ?_) AllReadyH.nil))
   ·rw [if_pos (by rfl)]
    refine wp_allocN 28 6 rfl rfl zeroCm (A := zCm) rfl ?_
    obtain ⟨w56, hw⟩ : ∃ x, x = (w5).alloc (.cells zCm 28) := ⟨_, rfl⟩
    rw [← hw]
    have hb : Below (w5).heap.size (w5) w56 := by rw [hw]; exact (Below.refl _ _).alloc (Nat.le_refl _) _
    have ha : ArrAt w56 (w5).heap.size zCm := by rw [hw]; exact ArrAt.fresh _ zCm _ (by decide)
    have J56 := Lib.hid ((J5.out.go hb).add ha J5.out.below.size (fun e => by obtain ⟨L, -, hm⟩ := J5.out.mem; have := hm.lt; omega) (fun e => by obtain ⟨L, -, hm⟩ := J5.out.mem; have := hm.lt'; omega))
    obtain ⟨p6, hp⟩ : ∃ z, z = (w5).heap.size := ⟨_, rfl⟩
    rw [← hp] at J56 ⊢
    have l6 : p5 < p6 := by rw [hp]; exact q5
    have q6 : p6 < w56.heap.size := by rw [hp]; exact ha.lt
    refine hK.out _ _ ⟨(J56.out.arr (p3, cC 4092 8192) (by simp)).1, (J56.out.arr (p4, cD 0 100 5) (by simp)).1⟩ (fun hS0 => ?_)
    clear hK K hb ha hw hp
    try simp only [Act.put, List.setIfInBounds_toArray, List.set_cons_zero, List.set_cons_succ]
    refine wpAnyH_ready (rs := [5]) (by kernel_rfl) (by simp) (AllReadyH.cons rfl (fun K hK => ?_) AllReadyH.nil)
    ·rw [if_pos (by rfl)]
     refine wp_allocN 28 7 rfl rfl zeroCm (A := zCm) rfl ?_
     obtain ⟨w567, hw⟩ : ∃ x, x = (w56).alloc (.cells zCm 28) := ⟨_, rfl⟩
     rw [← hw]
     have hb : Below (w56).heap.size (w56) w567 := by rw [hw]; exact (Below.refl _ _).alloc (Nat.le_refl _) _
     have ha : ArrAt w567 (w56).heap.size zCm := by rw [hw]; exact ArrAt.fresh _ zCm _ (by decide)
     have J567 := Lib.hid ((J56.out.go hb).add ha J56.out.below.size (fun e => by obtain ⟨L, -, hm⟩ := J56.out.mem; have := hm.lt; omega) (fun e => by obtain ⟨L, -, hm⟩ := J56.out.mem; have := hm.lt'; omega))
     obtain ⟨p7, hp⟩ : ∃ z, z = (w56).heap.size := ⟨_, rfl⟩
     rw [← hp] at J567 ⊢
     have l7 : p6 < p7 := by rw [hp]; exact q6
     have q7 : p7 < w567.heap.size := by rw [hp]; exact ha.lt
     refine hK.out _ _ ⟨(J567.out.arr (p3, cC 4092 8192) (by simp)).1, (J567.out.arr (p4, cD 0 100 5) (by simp)).1⟩ (fun hS0 => ?_)
     clear hK K hb ha hw hp
     try simp only [Act.put, List.setIfInBounds_toArray, List.set_cons_zero, List.set_cons_succ]
     refine wpAnyH_ready (rs := [6]) (by kernel_rfl) (by simp) (AllReadyH.cons rfl (fun K hK => ?_) AllReadyH.nil)
     rw [if_pos (by rfl)]
     refine wp_storeN 28 (.tmp 5) (.tmp 24) rfl rfl (p5) 0 (cC 4092 8192) (by first | rfl | simp [Act.eval, Act.put]) (by first | rfl | simp [Act.eval, Act.put]) (J567.out.arr (p5, zCm) (by simp)).1.th sizeCm (cC_one _ _) ?_
     have k1 : Keeps (One p5) (w567) ((w567).setCells p5 0 (cC 4092 8192).toList) := Keeps.store (S := One p5) (Keeps.refl _ _) (fun _ => rfl) _ _
     obtain ⟨u5675, hw⟩ : ∃ z, z = (w567).setCells p5 0 (cC 4092 8192).toList := ⟨_, rfl⟩
     rw [← hw] at k1 ⊢
     have K5675 := Lib.hid (show TWk w b B (fun _ => 0) 0 [(p7, zCm), (p6, zCm), (p5, cC 4092 8192), (p4, cD 0 100 5), (p3, cC 4092 8192)] u5675 from by
      obtain ⟨L, hl, hM⟩ := J567.out.mem
      have e0 := J567.out.arr (p5, zCm) (by simp)
      refine ⟨J567.out.two k1 (fun q e => by have e : q = p5 := e; rw [e]; exact e0.2.2.2), ⟨L, hl, hM.kept k1 (fun e => e0.2.1 (Eq.symm e)) (fun e => e0.2.2.1 (Eq.symm e))⟩, J567.out.bl, J567.out.Bl, fun y hy => ?_⟩
      simp only [List.mem_cons, List.not_mem_nil, or_false] at hy
      rcases hy with rfl | rfl | rfl | rfl | rfl
      ·have := J567.out.arr (p7, zCm) (by simp); exact ⟨this.1.kept k1 (fun e => by have e : p7 = p5 := e; have := H34.out; omega), this.2⟩
      ·have := J567.out.arr (p6, zCm) (by simp); exact ⟨this.1.kept k1 (fun e => by have e : p6 = p5 := e; have := H34.out; omega), this.2⟩
      ·exact ⟨by rw [hw]; exact e0.1.store (cC 4092 8192) rfl, e0.2⟩
      ·have := J567.out.arr (p4, cD 0 100 5) (by simp); exact ⟨this.1.kept k1 (fun e => by have e : p4 = p5 := e; have := H34.out; omega), this.2⟩
      ·have := J567.out.arr (p3, cC 4092 8192) (by simp); exact ⟨this.1.kept k1 (fun e => by have e : p3 = p5 := e; have := H34.out; omega), this.2⟩
     )
     refine hK.out _ _ ⟨(K5675.out.arr (p3, cC 4092 8192) (by simp)).1, (K5675.out.arr (p4, cD 0 100 5) (by simp)).1⟩ (fun hS0 => ?_)
     clear hK K hw k1
     try simp only [Act.put, List.setIfInBounds_toArray, List.set_cons_zero, List.set_cons_succ]
     refine wpAnyH_ready (rs := [7]) (by kernel_rfl) (by simp) (AllReadyH.cons rfl (fun K hK => ?_) AllReadyH.nil)
     rw [if_pos (by rfl)]
     refine wp_storeN 28 (.tmp 6) (.tmp 25) rfl rfl (p6) 0 (cC 4092 8192) (by first | rfl | simp [Act.eval, Act.put]) (by first | rfl | simp [Act.eval, Act.put]) (K5675.out.arr (p6, zCm) (by simp)).1.th sizeCm (cC_one _ _) ?_
     have k1 : Keeps (One p6) (u5675) ((u5675).setCells p6 0 (cC 4092 8192).toList) := Keeps.store (S := One p6) (Keeps.refl _ _) (fun _ => rfl) _ _
     obtain ⟨u5676, hw⟩ : ∃ z, z = (u5675).setCells p6 0 (cC 4092 8192).toList := ⟨_, rfl⟩
     rw [← hw] at k1 ⊢
     have K5676 := Lib.hid (show TWk w b B (fun _ => 0) 0 [(p7, zCm), (p6, cC 4092 8192), (p5, cC 4092 8192), (p4, cD 0 100 5), (p3, cC 4092 8192)] u5676 from by
      obtain ⟨L, hl, hM⟩ := K5675.out.mem
      have e0 := K5675.out.arr (p6, zCm) (by simp)
      refine ⟨K5675.out.two k1 (fun q e => by have e : q = p6 := e; rw [e]; exact e0.2.2.2), ⟨L, hl, hM.kept k1 (fun e => e0.2.1 (Eq.symm e)) (fun e => e0.2.2.1 (Eq.symm e))⟩, K5675.out.bl, K5675.out.Bl, fun y hy => ?_⟩
      simp only [List.mem_cons, List.not_mem_nil, or_false] at hy
      rcases hy with rfl | rfl | rfl | rfl | rfl
      ·have := K5675.out.arr (p7, zCm) (by simp); exact ⟨this.1.kept k1 (fun e => by have e : p7 = p6 := e; have := H34.out; omega), this.2⟩
      ·exact ⟨by rw [hw]; exact e0.1.store (cC 4092 8192) rfl, e0.2⟩
      ·have := K5675.out.arr (p5, cC 4092 8192) (by simp); exact ⟨this.1.kept k1 (fun e => by have e : p5 = p6 := e; have := H34.out; omega), this.2⟩
      ·have := K5675.out.arr (p4, cD 0 100 5) (by simp); exact ⟨this.1.kept k1 (fun e => by have e : p4 = p6 := e; have := H34.out; omega), this.2⟩
      ·have := K5675.out.arr (p3, cC 4092 8192) (by simp); exact ⟨this.1.kept k1 (fun e => by have e : p3 = p6 := e; have := H34.out; omega), this.2⟩
     )
     refine hK.out _ _ ⟨(K5676.out.arr (p3, cC 4092 8192) (by simp)).1, (K5676.out.arr (p4, cD 0 100 5) (by simp)).1⟩ (fun hS0 => ?_)
     clear hK K hw k1
     try simp only [Act.put, List.setIfInBounds_toArray, List.set_cons_zero, List.set_cons_succ]
     refine wpAnyH_ready (rs := [8]) (by kernel_rfl) (by simp) (AllReadyH.cons rfl (fun K hK => ?_) AllReadyH.nil)
     rw [if_pos (by rfl)]
     refine wp_storeN 28 (.tmp 7) (.tmp 26) rfl rfl (p7) 0 (cD 0 100 5) (by first | rfl | simp [Act.eval, Act.put]) (by first | rfl | simp [Act.eval, Act.put]) (K5676.out.arr (p7, zCm) (by simp)).1.th sizeCm (cD_one _ _ _) ?_
     have k1 : Keeps (One p7) (u5676) ((u5676).setCells p7 0 (cD 0 100 5).toList) := Keeps.store (S := One p7) (Keeps.refl _ _) (fun _ => rfl) _ _
     obtain ⟨u5677, hw⟩ : ∃ z, z = (u5676).setCells p7 0 (cD 0 100 5).toList := ⟨_, rfl⟩
     rw [← hw] at k1 ⊢
     have K5677 := Lib.hid (show TWk w b B (fun _ => 0) 0 [(p7, cD 0 100 5), (p6, cC 4092 8192), (p5, cC 4092 8192), (p4, cD 0 100 5), (p3, cC 4092 8192)] u5677 from by
      obtain ⟨L, hl, hM⟩ := K5676.out.mem
      have e0 := K5676.out.arr (p7, zCm) (by simp)
      refine ⟨K5676.out.two k1 (fun q e => by have e : q = p7 := e; rw [e]; exact e0.2.2.2), ⟨L, hl, hM.kept k1 (fun e => e0.2.1 (Eq.symm e)) (fun e => e0.2.2.1 (Eq.symm e))⟩, K5676.out.bl, K5676.out.Bl, fun y hy => ?_⟩
      simp only [List.mem_cons, List.not_mem_nil, or_false] at hy
      rcases hy with rfl | rfl | rfl | rfl | rfl
      ·exact ⟨by rw [hw]; exact e0.1.store (cD 0 100 5) rfl, e0.2⟩
      ·have := K5676.out.arr (p6, cC 4092 8192) (by simp); exact ⟨this.1.kept k1 (fun e => by have e : p6 = p7 := e; have := H34.out; omega), this.2⟩
      ·have := K5676.out.arr (p5, cC 4092 8192) (by simp); exact ⟨this.1.kept k1 (fun e => by have e : p5 = p7 := e; have := H34.out; omega), this.2⟩
      ·have := K5676.out.arr (p4, cD 0 100 5) (by simp); exact ⟨this.1.kept k1 (fun e => by have e : p4 = p7 := e; have := H34.out; omega), this.2⟩
      ·have := K5676.out.arr (p3, cC 4092 8192) (by simp); exact ⟨this.1.kept k1 (fun e => by have e : p3 = p7 := e; have := H34.out; omega), this.2⟩
     )
     refine hK.out _ _ ⟨(K5677.out.arr (p3, cC 4092 8192) (by simp)).1, (K5677.out.arr (p4, cD 0 100 5) (by simp)).1⟩ (fun hS0 => ?_)
     clear hK K hw k1
     try simp only [Act.put, List.setIfInBounds_toArray, List.set_cons_zero, List.set_cons_succ]
     refine wpAnyH_done (by kernel_rfl) ?_ _
     go_wp2_with fail
     go_meet
     case rel =>
      have h34 := H34.out
      exact ⟨p5, p6, p7, rfl, rfl, rfl, ⟨by omega, by omega, by omega, by omega, by omega, by omega⟩, ⟨K5677.out.below, K5677.out.mem, K5677.out.bl, K5677.out.Bl, fun x hx => K5677.out.arr x (by simp only [List.mem_cons, List.not_mem_nil, or_false] at hx ⊢; rcases hx with h | h | h | h | h <;> simp [h])⟩⟩
   ·rw [if_pos (by rfl)]
    refine wp_allocN 28 7 rfl rfl zeroCm (A := zCm) rfl ?_
    obtain ⟨w57, hw⟩ : ∃ x, x = (w5).alloc (.cells zCm 28) := ⟨_, rfl⟩
    rw [← hw]
    have hb : Below (w5).heap.size (w5) w57 := by rw [hw]; exact (Below.refl _ _).alloc (Nat.le_refl _) _
    have ha : ArrAt w57 (w5).heap.size zCm := by rw [hw]; exact ArrAt.fresh _ zCm _ (by decide)
    have J57 := Lib.hid ((J5.out.go hb).add ha J5.out.below.size (fun e => by obtain ⟨L, -, hm⟩ := J5.out.mem; have := hm.lt; omega) (fun e => by obtain ⟨L, -, hm⟩ := J5.out.mem; have := hm.lt'; omega))
    obtain ⟨p7, hp⟩ : ∃ z, z = (w5).heap.size := ⟨_, rfl⟩
    rw [← hp] at J57 ⊢
    have l7 : p5 < p7 := by rw [hp]; exact q5
    have q7 : p7 < w57.heap.size := by rw [hp]; exact ha.lt
    refine hK.out _ _ ⟨(J57.out.arr (p3, cC 4092 8192) (by simp)).1, (J57.out.arr (p4, cD 0 100 5) (by simp)).1⟩ (fun hS0 => ?_)
    clear hK K hb ha hw hp
    try simp only [Act.put, List.setIfInBounds_toArray, List.set_cons_zero, List.set_cons_succ]
    refine wpAnyH_ready (rs := [4]) (by kernel_rfl) (by simp) (AllReadyH.cons rfl (fun K hK => ?_) AllReadyH.nil)
    ·rw [if_pos (by rfl)]
     refine wp_allocN 28 6 rfl rfl zeroCm (A := zCm) rfl ?_
     obtain ⟨w576, hw⟩ : ∃ x, x = (w57).alloc (.cells zCm 28) := ⟨_, rfl⟩
     rw [← hw]
     have hb : Below (w57).heap.size (w57) w576 := by rw [hw]; exact (Below.refl _ _).alloc (Nat.le_refl _) _
     have ha : ArrAt w576 (w57).heap.size zCm := by rw [hw]; exact ArrAt.fresh _ zCm _ (by decide)
     have J576 := Lib.hid ((J57.out.go hb).add ha J57.out.below.size (fun e => by obtain ⟨L, -, hm⟩ := J57.out.mem; have := hm.lt; omega) (fun e => by obtain ⟨L, -, hm⟩ := J57.out.mem; have := hm.lt'; omega))
     obtain ⟨p6, hp⟩ : ∃ z, z = (w57).heap.size := ⟨_, rfl⟩
     rw [← hp] at J576 ⊢
     have l6 : p7 < p6 := by rw [hp]; exact q7
     have q6 : p6 < w576.heap.size := by rw [hp]; exact ha.lt
     refine hK.out _ _ ⟨(J576.out.arr (p3, cC 4092 8192) (by simp)).1, (J576.out.arr (p4, cD 0 100 5) (by simp)).1⟩ (fun hS0 => ?_)
     clear hK K hb ha hw hp
     try simp only [Act.put, List.setIfInBounds_toArray, List.set_cons_zero, List.set_cons_succ]
     refine wpAnyH_ready (rs := [6]) (by kernel_rfl) (by simp) (AllReadyH.cons rfl (fun K hK => ?_) AllReadyH.nil)
     rw [if_pos (by rfl)]
     refine wp_storeN 28 (.tmp 5) (.tmp 24) rfl rfl (p5) 0 (cC 4092 8192) (by first | rfl | simp [Act.eval, Act.put]) (by first | rfl | simp [Act.eval, Act.put]) (J576.out.arr (p5, zCm) (by simp)).1.th sizeCm (cC_one _ _) ?_
     have k1 : Keeps (One p5) (w576) ((w576).setCells p5 0 (cC 4092 8192).toList) := Keeps.store (S := One p5) (Keeps.refl _ _) (fun _ => rfl) _ _
     obtain ⟨u5765, hw⟩ : ∃ z, z = (w576).setCells p5 0 (cC 4092 8192).toList := ⟨_, rfl⟩
     rw [← hw] at k1 ⊢
     have K5765 := Lib.hid (show TWk w b B (fun _ => 0) 0 [(p6, zCm), (p7, zCm), (p5, cC 4092 8192), (p4, cD 0 100 5), (p3, cC 4092 8192)] u5765 from by
      obtain ⟨L, hl, hM⟩ := J576.out.mem
      have e0 := J576.out.arr (p5, zCm) (by simp)
      refine ⟨J576.out.two k1 (fun q e => by have e : q = p5 := e; rw [e]; exact e0.2.2.2), ⟨L, hl, hM.kept k1 (fun e => e0.2.1 (Eq.symm e)) (fun e => e0.2.2.1 (Eq.symm e))⟩, J576.out.bl, J576.out.Bl, fun y hy => ?_⟩
      simp only [List.mem_cons, List.not_mem_nil, or_false] at hy
      rcases hy with rfl | rfl | rfl | rfl | rfl
      ·have := J576.out.arr (p6, zCm) (by simp); exact ⟨this.1.kept k1 (fun e => by have e : p6 = p5 := e; have := H34.out; omega), this.2⟩
      ·have := J576.out.arr (p7, zCm) (by simp); exact ⟨this.1.kept k1 (fun e => by have e : p7 = p5 := e; have := H34.out; omega), this.2⟩
      ·exact ⟨by rw [hw]; exact e0.1.store (cC 4092 8192) rfl, e0.2⟩
      ·have := J576.out.arr (p4, cD 0 100 5) (by simp); exact ⟨this.1.kept k1 (fun e => by have e : p4 = p5 := e; have := H34.out; omega), this.2⟩
      ·have := J576.out.arr (p3, cC 4092 8192) (by simp); exact ⟨this.1.kept k1 (fun e => by have e : p3 = p5 := e; have := H34.out; omega), this.2⟩
     )
     refine hK.out _ _ ⟨(K5765.out.arr (p3, cC 4092 8192) (by simp)).1, (K5765.out.arr (p4, cD 0 100 5) (by simp)).1⟩ (fun hS0 => ?_)
     clear hK K hw k1
     try simp only [Act.put, List.setIfInBounds_toArray, List.set_cons_zero, List.set_cons_succ]
     refine wpAnyH_ready (rs := [7]) (by kernel_rfl) (by simp) (AllReadyH.cons rfl (fun K hK => ?_) AllReadyH.nil)
     rw [if_pos (by rfl)]
     refine wp_storeN 28 (.tmp 6) (.tmp 25) rfl rfl (p6) 0 (cC 4092 8192) (by first | rfl | simp [Act.eval, Act.put]) (by first | rfl | simp [Act.eval, Act.put]) (K5765.out.arr (p6, zCm) (by simp)).1.th sizeCm (cC_one _ _) ?_
     have k1 : Keeps (One p6) (u5765) ((u5765).setCells p6 0 (cC 4092 8192).toList) := Keeps.store (S := One p6) (Keeps.refl _ _) (fun _ => rfl) _ _
     obtain ⟨u5766, hw⟩ : ∃ z, z = (u5765).setCells p6 0 (cC 4092 8192).toList := ⟨_, rfl⟩
     rw [← hw] at k1 ⊢
     have K5766 := Lib.hid (show TWk w b B (fun _ => 0) 0 [(p6, cC 4092 8192), (p7, zCm), (p5, cC 4092 8192), (p4, cD 0 100 5), (p3, cC 4092 8192)] u5766 from by
      obtain ⟨L, hl, hM⟩ := K5765.out.mem
      have e0 := K5765.out.arr (p6, zCm) (by simp)
      refine ⟨K5765.out.two k1 (fun q e => by have e : q = p6 := e; rw [e]; exact e0.2.2.2), ⟨L, hl, hM.kept k1 (fun e => e0.2.1 (Eq.symm e)) (fun e => e0.2.2.1 (Eq.symm e))⟩, K5765.out.bl, K5765.out.Bl, fun y hy => ?_⟩
      simp only [List.mem_cons, List.not_mem_nil, or_false] at hy
      rcases hy with rfl | rfl | rfl | rfl | rfl
      ·exact ⟨by rw [hw]; exact e0.1.store (cC 4092 8192) rfl, e0.2⟩
      ·have := K5765.out.arr (p7, zCm) (by simp); exact ⟨this.1.kept k1 (fun e => by have e : p7 = p6 := e; have := H34.out; omega), this.2⟩
      ·have := K5765.out.arr (p5, cC 4092 8192) (by simp); exact ⟨this.1.kept k1 (fun e => by have e : p5 = p6 := e; have := H34.out; omega), this.2⟩
      ·have := K5765.out.arr (p4, cD 0 100 5) (by simp); exact ⟨this.1.kept k1 (fun e => by have e : p4 = p6 := e; have := H34.out; omega), this.2⟩
      ·have := K5765.out.arr (p3, cC 4092 8192) (by simp); exact ⟨this.1.kept k1 (fun e => by have e : p3 = p6 := e; have := H34.out; omega), this.2⟩
     )
     refine hK.out _ _ ⟨(K5766.out.arr (p3, cC 4092 8192) (by simp)).1, (K5766.out.arr (p4, cD 0 100 5) (by simp)).1⟩ (fun hS0 => ?_)
     clear hK K hw k1
     try simp only [Act.put, List.setIfInBounds_toArray, List.set_cons_zero, List.set_cons_succ]
     refine wpAnyH_ready (rs := [8]) (by kernel_rfl) (by simp) (AllReadyH.cons rfl (fun K hK => ?_) AllReadyH.nil)
     rw [if_pos (by rfl)]
     refine wp_storeN 28 (.tmp 7) (.tmp 26) rfl rfl (p7) 0 (cD 0 100 5) (by first | rfl | simp [Act.eval, Act.put]) (by first | rfl | simp [Act.eval, Act.put]) (K5766.out.arr (p7, zCm) (by simp)).1.th sizeCm (cD_one _ _ _) ?_
     have k1 : Keeps (One p7) (u5766) ((u5766).setCells p7 0 (cD 0 100 5).toList) := Keeps.store (S := One p7) (Keeps.refl _ _) (fun _ => rfl) _ _
     obtain ⟨u5767, hw⟩ : ∃ z, z = (u5766).setCells p7 0 (cD 0 100 5).toList := ⟨_, rfl⟩
     rw [← hw] at k1 ⊢
     have K5767 := Lib.hid (show TWk w b B (fun _ => 0) 0 [(p6, cC 4092 8192), (p7, cD 0 100 5), (p5, cC 4092 8192), (p4, cD 0 100 5), (p3, cC 4092 8192)] u5767 from by
      obtain ⟨L, hl, hM⟩ := K5766.out.mem
      have e0 := K5766.out.arr (p7, zCm) (by simp)
      refine ⟨K5766.out.two k1 (fun q e => by have e : q = p7 := e; rw [e]; exact e0.2.2.2), ⟨L, hl, hM.kept k1 (fun e => e0.2.1 (Eq.symm e)) (fun e => e0.2.2.1 (Eq.symm e))⟩, K5766.out.bl, K5766.out.Bl, fun y hy => ?_⟩
      simp only [List.mem_cons, List.not_mem_nil, or_false] at hy
      rcases hy with rfl | rfl | rfl | rfl | rfl
      ·have := K5766.out.arr (p6, cC 4092 8192) (by simp); exact ⟨this.1.kept k1 (fun e => by have e : p6 = p7 := e; have := H34.out; omega), this.2⟩
      ·exact ⟨by rw [hw]; exact e0.1.store (cD 0 100 5) rfl, e0.2⟩
      ·have := K5766.out.arr (p5, cC 4092 8192) (by simp); exact ⟨this.1.kept k1 (fun e => by have e : p5 = p7 := e; have := H34.out; omega), this.2⟩
      ·have := K5766.out.arr (p4, cD 0 100 5) (by simp); exact ⟨this.1.kept k1 (fun e => by have e : p4 = p7 := e; have := H34.out; omega), this.2⟩
      ·have := K5766.out.arr (p3, cC 4092 8192) (by simp); exact ⟨this.1.kept k1 (fun e => by have e : p3 = p7 := e; have := H34.out; omega), this.2⟩
     )
     refine hK.out _ _ ⟨(K5767.out.arr (p3, cC 4092 8192) (by simp)).1, (K5767.out.arr (p4, cD 0 100 5) (by simp)).1⟩ (fun hS0 => ?_)
     clear hK K hw k1
     try simp only [Act.put, List.setIfInBounds_toArray, List.set_cons_zero, List.set_cons_succ]
     refine wpAnyH_done (by kernel_rfl) ?_ _
     go_wp2_with fail
     go_meet
     case rel =>
      have h34 := H34.out
      exact ⟨p5, p6, p7, rfl, rfl, rfl, ⟨by omega, by omega, by omega, by omega, by omega, by omega⟩, ⟨K5767.out.below, K5767.out.mem, K5767.out.bl, K5767.out.Bl, fun x hx => K5767.out.arr x (by simp only [List.mem_cons, List.not_mem_nil, or_false] at hx ⊢; rcases hx with h | h | h | h | h <;> simp [h])⟩⟩
  ·rw [if_pos (by rfl)]
   refine wp_allocN 28 6 rfl rfl zeroCm (A := zCm) rfl ?_
   obtain ⟨w6, hw⟩ : ∃ x, x = (W3.drew).alloc (.cells zCm 28) := ⟨_, rfl⟩
   rw [← hw]
   have hb : Below (W3.drew).heap.size (W3.drew) w6 := by rw [hw]; exact (Below.refl _ _).alloc (Nat.le_refl _) _
   have ha : ArrAt w6 (W3.drew).heap.size zCm := by rw [hw]; exact ArrAt.fresh _ zCm _ (by decide)
   have J6 := Lib.hid ((J0.out.go hb).add ha J0.out.below.size (fun e => by obtain ⟨L, -, hm⟩ := J0.out.mem; have := hm.lt; omega) (fun e => by obtain ⟨L, -, hm⟩ := J0.out.mem; have := hm.lt'; omega))
   obtain ⟨p6, hp⟩ : ∃ z, z = (W3.drew).heap.size := ⟨_, rfl⟩
   rw [← hp] at J6 ⊢
   have l6 : p4 < p6 := by rw [hp]; exact hl4
   have q6 : p6 < w6.heap.size := by rw [hp]; exact ha.lt
   refine hK.out _ _ ⟨(J6.out.arr (p3, cC 4092 8192) (by simp)).1, (J6.out.arr (p4, cD 0 100 5) (by simp)).1⟩ (fun hS0 => ?_)
   clear hK K hb ha hw hp
   try simp only [Act.put, List.setIfInBounds_toArray, List.set_cons_zero, List.set_cons_succ]
   refine wpAnyH_ready (rs := [3, 5]) (by kernel_rfl) (by simp) (AllReadyH.cons rfl (fun K hK => ?_) (AllReadyH.cons rfl (fun K hK => ?_) AllReadyH.nil))
   ·rw [if_pos (by rfl)]
    refine wp_allocN 28 5 rfl rfl zeroCm (A := zCm) rfl ?_
    obtain ⟨w65, hw⟩ : ∃ x, x = (w6).alloc (.cells zCm 28) := ⟨_, rfl⟩
    rw [← hw]
    have hb : Below (w6).heap.size (w6) w65 := by rw [hw]; exact (Below.refl _ _).alloc (Nat.le_refl _) _
    have ha : ArrAt w65 (w6).heap.size zCm := by rw [hw]; exact ArrAt.fresh _ zCm _ (by decide)
    have J65 := Lib.hid ((J6.out.go hb).add ha J6.out.below.size (fun e => by obtain ⟨L, -, hm⟩ := J6.out.mem; have := hm.lt; omega) (fun e => by obtain ⟨L, -, hm⟩ := J6.out.mem; have := hm.lt'; omega))
    obtain ⟨p5, hp⟩ : ∃ z, z = (w6).heap.size := ⟨_, rfl⟩
    rw [← hp] at J65 ⊢
    have l5 : p6 < p5 := by rw [hp]; exact q6
    have q5 : p5 < w65.heap.size := by rw [hp]; exact ha.lt
    refine hK.out _ _ ⟨(J65.out.arr (p3, cC 4092 8192) (by simp)).1, (J65.out.arr (p4, cD 0 100 5) (by simp)).1⟩ (fun hS0 => ?_)
    clear hK K hb ha hw hp
    try simp only [Act.put, List.setIfInBounds_toArray, List.set_cons_zero, List.set_cons_succ]
    refine wpAnyH_ready (rs := [5]) (by kernel_rfl) (by simp) (AllReadyH.cons rfl (fun K hK => ?_) AllReadyH.nil)
    ·rw [if_pos (by rfl)]
     refine wp_allocN 28 7 rfl rfl zeroCm (A := zCm) rfl ?_
     obtain ⟨w657, hw⟩ : ∃ x, x = (w65).alloc (.cells zCm 28) := ⟨_, rfl⟩
     rw [← hw]
     have hb : Below (w65).heap.size (w65) w657 := by rw [hw]; exact (Below.refl _ _).alloc (Nat.le_refl _) _
     have ha : ArrAt w657 (w65).heap.size zCm := by rw [hw]; exact ArrAt.fresh _ zCm _ (by decide)
     have J657 := Lib.hid ((J65.out.go hb).add ha J65.out.below.size (fun e => by obtain ⟨L, -, hm⟩ := J65.out.mem; have := hm.lt; omega) (fun e => by obtain ⟨L, -, hm⟩ := J65.out.mem; have := hm.lt'; omega))
     obtain ⟨p7, hp⟩ : ∃ z, z = (w65).heap.size := ⟨_, rfl⟩
     rw [← hp] at J657 ⊢
     have l7 : p5 < p7 := by rw [hp]; exact q5
     have q7 : p7 < w657.heap.size := by rw [hp]; exact ha.lt
     refine hK.out _ _ ⟨(J657.out.arr (p3, cC 4092 8192) (by simp)).1, (J657.out.arr (p4, cD 0 100 5) (by simp)).1⟩ (fun hS0 => ?_)
     clear hK K hb ha hw hp
     try simp only [Act.put, List.setIfInBounds_toArray, List.set_cons_zero, List.set_cons_succ]
     refine wpAnyH_ready (rs := [6]) (by kernel_rfl) (by simp) (AllReadyH.cons rfl (fun K hK => ?_) AllReadyH.nil)
     rw [if_pos (by rfl)]
     refine wp_storeN 28 (.tmp 5) (.tmp 24) rfl rfl (p5) 0 (cC 4092 8192) (by first | rfl | simp [Act.eval, Act.put]) (by first | rfl | simp [Act.eval, Act.put]) (J657.out.arr (p5, zCm) (by simp)).1.th sizeCm (cC_one _ _) ?_
     have k1 : Keeps (One p5) (w657) ((w657).setCells p5 0 (cC 4092 8192).toList) := Keeps.store (S := One p5) (Keeps.refl _ _) (fun _ => rfl) _ _
     obtain ⟨u6575, hw⟩ : ∃ z, z = (w657).setCells p5 0 (cC 4092 8192).toList := ⟨_, rfl⟩
     rw [← hw] at k1 ⊢
     have K6575 := Lib.hid (show TWk w b B (fun _ => 0) 0 [(p7, zCm), (p5, cC 4092 8192), (p6, zCm), (p4, cD 0 100 5), (p3, cC 4092 8192)] u6575 from by
      obtain ⟨L, hl, hM⟩ := J657.out.mem
      have e0 := J657.out.arr (p5, zCm) (by simp)
      refine ⟨J657.out.two k1 (fun q e => by have e : q = p5 := e; rw [e]; exact e0.2.2.2), ⟨L, hl, hM.kept k1 (fun e => e0.2.1 (Eq.symm e)) (fun e => e0.2.2.1 (Eq.symm e))⟩, J657.out.bl, J657.out.Bl, fun y hy => ?_⟩
      simp only [List.mem_cons, List.not_mem_nil, or_false] at hy
      rcases hy with rfl | rfl | rfl | rfl | rfl
      ·have := J657.out.arr (p7, zCm) (by simp); exact ⟨this.1.kept k1 (fun e => by have e : p7 = p5 := e; have := H34.out; omega), this.2⟩
      ·exact ⟨by rw [hw]; exact e0.1.store (cC 4092 8192) rfl, e0.2⟩
      ·have := J657.out.arr (p6, zCm) (by simp); exact ⟨this.1.kept k1 (fun e => by have e : p6 = p5 := e; have := H34.out; omega), this.2⟩
      ·have := J657.out.arr (p4, cD 0 100 5) (by simp); exact ⟨this.1.kept k1 (fun e => by have e : p4 = p5 := e; have := H34.out; omega), this.2⟩
      ·have := J657.out.arr (p3, cC 4092 8192) (by simp); exact ⟨this.1.kept k1 (fun e => by have e : p3 = p5 := e; have := H34.out; omega), this.2⟩
     )
     refine hK.out _ _ ⟨(K6575.out.arr (p3, cC 4092 8192) (by simp)).1, (K6575.out.arr (p4, cD 0 100 5) (by simp)).1⟩ (fun hS0 => ?_)
     clear hK K hw k1
     try simp only [Act.put, List.setIfInBounds_toArray, List.set_cons_zero, List.set_cons_succ]
     refine wpAnyH_ready (rs := [7]) (by kernel_rfl) (by simp) (AllReadyH.cons rfl (fun K hK => ?_) AllReadyH.nil)
     rw [if_pos (by rfl)]
     refine wp_storeN 28 (.tmp 6) (.tmp 25) rfl rfl (p6) 0 (cC 4092 8192) (by first | rfl | simp [Act.eval, Act.put]) (by first | rfl | simp [Act.eval, Act.put]) (K6575.out.arr (p6, zCm) (by simp)).1.th sizeCm (cC_one _ _) ?_
     have k1 : Keeps (One p6) (u6575) ((u6575).setCells p6 0 (cC 4092 8192).toList) := Keeps.store (S := One p6) (Keeps.refl _ _) (fun _ => rfl) _ _
     obtain ⟨u6576, hw⟩ : ∃ z, z = (u6575).setCells p6 0 (cC 4092 8192).toList := ⟨_, rfl⟩
     rw [← hw] at k1 ⊢
     have K6576 := Lib.hid (show TWk w b B (fun _ => 0) 0 [(p7, zCm), (p5, cC 4092 8192), (p6, cC 4092 8192), (p4, cD 0 100 5), (p3, cC 4092 8192)] u6576 from by
      obtain ⟨L, hl, hM⟩ := K6575.out.mem
      have e0 := K6575.out.arr (p6, zCm) (by simp)
      refine ⟨K6575.out.two k1 (fun q e => by have e : q = p6 := e; rw [e]; exact e0.2.2.2), ⟨L, hl, hM.kept k1 (fun e => e0.2.1 (Eq.symm e)) (fun e => e0.2.2.1 (Eq.symm e))⟩, K6575.out.bl, K6575.out.Bl, fun y hy => ?_⟩
      simp only [List.mem_cons, List.not_mem_nil, or_false] at hy
      rcases hy with rfl | rfl | rfl | rfl | rfl
      ·have := K6575.out.arr (p7, zCm) (by simp); exact ⟨this.1.kept k1 (fun e => by have e : p7 = p6 := e; have := H34.out; omega), this.2⟩
      ·have := K6575.out.arr (p5, cC 4092 8192) (by simp); exact ⟨this.1.kept k1 (fun e => by have e : p5 = p6 := e; have := H34.out; omega), this.2⟩
      ·exact ⟨by rw [hw]; exact e0.1.store (cC 4092 8192) rfl, e0.2⟩
      ·have := K6575.out.arr (p4, cD 0 100 5) (by simp); exact ⟨this.1.kept k1 (fun e => by have e : p4 = p6 := e; have := H34.out; omega), this.2⟩
      ·have := K6575.out.arr (p3, cC 4092 8192) (by simp); exact ⟨this.1.kept k1 (fun e => by have e : p3 = p6 := e; have := H34.out; omega), this.2⟩
     )
     refine hK.out _ _ ⟨(K6576.out.arr (p3, cC 4092 8192) (by simp)).1, (K6576.out.arr (p4, cD 0 100 5) (by simp)).1⟩ (fun hS0 => ?_)
     clear hK K hw k1
     try simp only [Act.put, List.setIfInBounds_toArray, List.set_cons_zero, List.set_cons_succ]
     refine wpAnyH_ready (rs := [8]) (by kernel_rfl) (by simp) (AllReadyH.cons rfl (fun K hK => ?_) AllReadyH.nil)
     rw [if_pos (by rfl)]
     refine wp_storeN 28 (.tmp 7) (.tmp 26) rfl rfl (p7) 0 (cD 0 100 5) (by first | rfl | simp [Act.eval, Act.put]) (by first | rfl | simp [Act.eval, Act.put]) (K6576.out.arr (p7, zCm) (by simp)).1.th sizeCm (cD_one _ _ _) ?_
     have k1 : Keeps (One p7) (u6576) ((u6576).setCells p7 0 (cD 0 100 5).toList) := Keeps.store (S := One p7) (Keeps.refl _ _) (fun _ => rfl) _ _
     obtain ⟨u6577, hw⟩ : ∃ z, z = (u6576).setCells p7 0 (cD 0 100 5).toList := ⟨_, rfl⟩
     rw [← hw] at k1 ⊢
     have K6577 := Lib.hid (show TWk w b B (fun _ => 0) 0 [(p7, cD 0 100 5), (p5, cC 4092 8192), (p6, cC 4092 8192), (p4, cD 0 100 5), (p3, cC 4092 8192)] u6577 from by
      obtain ⟨L, hl, hM⟩ := K6576.out.mem
      have e0 := K6576.out.arr (p7, zCm) (by simp)
      refine ⟨K6576.out.two k1 (fun q e => by have e : q = p7 := e; rw [e]; exact e0.2.2.2), ⟨L, hl, hM.kept k1 (fun e => e0.2.1 (Eq.symm e)) (fun e => e0.2.2.1 (Eq.symm e))⟩, K6576.out.bl, K6576.out.Bl, fun y hy => ?_⟩
      simp only [List.mem_cons, List.not_mem_nil, or_false] at hy
      rcases hy with rfl | rfl | rfl | rfl | rfl
      ·exact ⟨by rw [hw]; exact e0.1.store (cD 0 100 5) rfl, e0.2⟩
      ·have := K6576.out.arr (p5, cC 4092 8192) (by simp); exact ⟨this.1.kept k1 (fun e => by have e : p5 = p7 := e; have := H34.out; omega), this.2⟩
      ·have := K6576.out.arr (p6, cC 4092 8192) (by simp); exact ⟨this.1.kept k1 (fun e => by have e : p6 = p7 := e; have := H34.out; omega), this.2⟩
      ·have := K6576.out.arr (p4, cD 0 100 5) (by simp); exact ⟨this.1.kept k1 (fun e => by have e : p4 = p7 := e; have := H34.out; omega), this.2⟩
      ·have := K6576.out.arr (p3, cC 4092 8192) (by simp); exact ⟨this.1.kept k1 (fun e => by have e : p3 = p7 := e; have := H34.out; omega), this.2⟩
     )
     refine hK.out _ _ ⟨(K6577.out.arr (p3, cC 4092 8192) (by simp)).1, (K6577.out.arr (p4, cD 0 100 5) (by simp)).1⟩ (fun hS0 => ?_)
     clear hK K hw k1
     try simp only [Act.put, List.setIfInBounds_toArray, List.set_cons_zero, List.set_cons_succ]
     refine wpAnyH_done (by kernel_rfl) ?_ _
     go_wp2_with fail
     go_meet
     case rel =>
      have h34 := H34.out
      exact ⟨p5, p6, p7, rfl, rfl, rfl, ⟨by omega, by omega, by omega, by omega, by omega, by omega⟩, ⟨K6577.out.below, K6577.out.mem, K6577.out.bl, K6577.out.Bl, fun x hx => K6577.out.arr x (by simp only [List.mem_cons, List.not_mem_nil, or_false] at hx ⊢; rcases hx with h | h | h | h | h <;> simp [h])⟩⟩
   ·rw [if_pos (by rfl)]
    refine wp_allocN 28 7 rfl rfl zeroCm (A := zCm) rfl ?_
    obtain ⟨w67, hw⟩ : ∃ x, x = (w6).alloc (.cells zCm 28) := ⟨_, rfl⟩
    rw [← hw]
    have hb : Below (w6).heap.size (w6) w67 := by rw [hw]; exact (Below.refl _ _).alloc (Nat.le_refl _) _
    have ha : ArrAt w67 (w6).heap.size zCm := by rw [hw]; exact ArrAt.fresh _ zCm _ (by decide)
    have J67 := Lib.hid ((J6.out.go hb).add ha J6.out.below.size (fun e => by obtain ⟨L, -, hm⟩ := J6.out.mem; have := hm.lt; omega) (fun e => by obtain ⟨L, -, hm⟩ := J6.out.mem; have := hm.lt'; omega))
    obtain ⟨p7, hp⟩ : ∃ z, z = (w6).heap.size := ⟨_, rfl⟩
    rw [← hp] at J67 ⊢
    have l7 : p6 < p7 := by rw [hp]; exact q6
    have q7 : p7 < w67.heap.size := by rw [hp]; exact ha.lt
    refine hK.out _ _ ⟨(J67.out.arr (p3, cC 4092 8192) (by simp)).1, (J67.out.arr (p4, cD 0 100 5) (by simp)).1⟩ (fun hS0 => ?_)
    clear hK K hb ha hw hp
    try simp only [Act.put, List.setIfInBounds_toArray, List.set_cons_zero, List.set_cons_succ]
    refine wpAnyH_ready (rs := [3]) (by kernel_rfl) (by simp) (AllReadyH.cons rfl (fun K hK => ?_) AllReadyH.nil)
    ·rw [if_pos (by rfl)]
     refine wp_allocN 28 5 rfl rfl zeroCm (A := zCm) rfl ?_
     obtain ⟨w675, hw⟩ : ∃ x, x = (w67).alloc (.cells zCm 28) := ⟨_, rfl⟩
     rw [← hw]
     have hb : Below (w67).heap.size (w67) w675 := by rw [hw]; exact (Below.refl _ _).alloc (Nat.le_refl _) _
     have ha : ArrAt w675 (w67).heap.size zCm := by rw [hw]; exact ArrAt.fresh _ zCm _ (by decide)
     have J675 := Lib.hid ((J67.out.go hb).add ha J67.out.below.size (fun e => by obtain ⟨L, -, hm⟩ := J67.out.mem; have := hm.lt; omega) (fun e => by obtain ⟨L, -, hm⟩ := J67.out.mem; have := hm.lt'; omega))
     obtain ⟨p5, hp⟩ : ∃ z, z = (w67).heap.size := ⟨_, rfl⟩
     rw [← hp] at J675 ⊢
     have l5 : p7 < p5 := by rw [hp]; exact q7
     have q5 : p5 < w675.heap.size := by rw [hp]; exact ha.lt
     refine hK.out _ _ ⟨(J675.out.arr (p3, cC 4092 8192) (by simp)).1, (J675.out.arr (p4, cD 0 100 5) (by simp)).1⟩ (fun hS0 => ?_)
     clear hK K hb ha hw hp
     try simp only [Act.put, List.setIfInBounds_toArray, List.set_cons_zero, List.set_cons_succ]
     refine wpAnyH_ready (rs := [6]) (by kernel_rfl) (by simp) (AllReadyH.cons rfl (fun K hK => ?_) AllReadyH.nil)
     rw [if_pos (by rfl)]
     refine wp_storeN 28 (.tmp 5) (.tmp 24) rfl rfl (p5) 0 (cC 4092 8192) (by first | rfl | simp [Act.eval, Act.put]) (by first | rfl | simp [Act.eval, Act.put]) (J675.out.arr (p5, zCm) (by simp)).1.th sizeCm (cC_one _ _) ?_
     have k1 : Keeps (One p5) (w675) ((w675).setCells p5 0 (cC 4092 8192).toList) := Keeps.store (S := One p5) (Keeps.refl _ _) (fun _ => rfl) _ _
     obtain ⟨u6755, hw⟩ : ∃ z, z = (w675).setCells p5 0 (cC 4092 8192).toList := ⟨_, rfl⟩
     rw [← hw] at k1 ⊢
     have K6755 := Lib.hid (show TWk w b B (fun _ => 0) 0 [(p5, cC 4092 8192), (p7, zCm), (p6, zCm), (p4, cD 0 100 5), (p3, cC 4092 8192)] u6755 from by
      obtain ⟨L, hl, hM⟩ := J675.out.mem
      have e0 := J675.out.arr (p5, zCm) (by simp)
      refine ⟨J675.out.two k1 (fun q e => by have e : q = p5 := e; rw [e]; exact e0.2.2.2), ⟨L, hl, hM.kept k1 (fun e => e0.2.1 (Eq.symm e)) (fun e => e0.2.2.1 (Eq.symm e))⟩, J675.out.bl, J675.out.Bl, fun y hy => ?_⟩
      simp only [List.mem_cons, List.not_mem_nil, or_false] at hy
      rcases hy with rfl | rfl | rfl | rfl | rfl
      ·exact ⟨by rw [hw]; exact e0.1.store (cC 4092 8192) rfl, e0.2⟩
      ·have := J675.out.arr (p7, zCm) (by simp); exact ⟨this.1.kept k1 (fun e => by have e : p7 = p5 := e; have := H34.out; omega), this.2⟩
      ·have := J675.out.arr (p6, zCm) (by simp); exact ⟨this.1.kept k1 (fun e => by have e : p6 = p5 := e; have := H34.out; omega), this.2⟩
      ·have := J675.out.arr (p4, cD 0 100 5) (by simp); exact ⟨this.1.kept k1 (fun e => by have e : p4 = p5 := e; have := H34.out; omega), this.2⟩
      ·have := J675.out.arr (p3, cC 4092 8192) (by simp); exact ⟨this.1.kept k1 (fun e => by have e : p3 = p5 := e; have := H34.out; omega), this.2⟩
     )
     refine hK.out _ _ ⟨(K6755.out.arr (p3, cC 4092 8192) (by simp)).1, (K6755.out.arr (p4, cD 0 100 5) (by simp)).1⟩ (fun hS0 => ?_)
     clear hK K hw k1
     try simp only [Act.put, List.setIfInBounds_toArray, List.set_cons_zero, List.set_cons_succ]
     refine wpAnyH_ready (rs := [7]) (by kernel_rfl) (by simp) (AllReadyH.cons rfl (fun K hK => ?_) AllReadyH.nil)
     rw [if_pos (by rfl)]
     refine wp_storeN 28 (.tmp 6) (.tmp 25) rfl rfl (p6) 0 (cC 4092 8192) (by first | rfl | simp [Act.eval, Act.put]) (by first | rfl | simp [Act.eval, Act.put]) (K6755.out.arr (p6, zCm) (by simp)).1.th sizeCm (cC_one _ _) ?_
     have k1 : Keeps (One p6) (u6755) ((u6755).setCells p6 0 (cC 4092 8192).toList) := Keeps.store (S := One p6) (Keeps.refl _ _) (fun _ => rfl) _ _
     obtain ⟨u6756, hw⟩ : ∃ z, z = (u6755).setCells p6 0 (cC 4092 8192).toList := ⟨_, rfl⟩
     rw [← hw] at k1 ⊢
     have K6756 := Lib.hid (show TWk w b B (fun _ => 0) 0 [(p5, cC 4092 8192), (p7, zCm), (p6, cC 4092 8192), (p4, cD 0 100 5), (p3, cC 4092 8192)] u6756 from by
      obtain ⟨L, hl, hM⟩ := K6755.out.mem
      have e0 := K6755.out.arr (p6, zCm) (by simp)
      refine ⟨K6755.out.two k1 (fun q e => by have e : q = p6 := e; rw [e]; exact e0.2.2.2), ⟨L, hl, hM.kept k1 (fun e => e0.2.1 (Eq.symm e)) (fun e => e0.2.2.1 (Eq.symm e))⟩, K6755.out.bl, K6755.out.Bl, fun y hy => ?_⟩
      simp only [List.mem_cons, List.not_mem_nil, or_false] at hy
      rcases hy with rfl | rfl | rfl | rfl | rfl
      ·have := K6755.out.arr (p5, cC 4092 8192) (by simp); exact ⟨this.1.kept k1 (fun e => by have e : p5 = p6 := e; have := H34.out; omega), this.2⟩
      ·have := K6755.out.arr (p7, zCm) (by simp); exact ⟨this.1.kept k1 (fun e => by have e : p7 = p6 := e; have := H34.out; omega), this.2⟩
      ·exact ⟨by rw [hw]; exact e0.1.store (cC 4092 8192) rfl, e0.2⟩
      ·have := K6755.out.arr (p4, cD 0 100 5) (by simp); exact ⟨this.1.kept k1 (fun e => by have e : p4 = p6 := e; have := H34.out; omega), this.2⟩
      ·have := K6755.out.arr (p3, cC 4092 8192) (by simp); exact ⟨this.1.kept k1 (fun e => by have e : p3 = p6 := e; have := H34.out; omega), this.2⟩
     )
     refine hK.out _ _ ⟨(K6756.out.arr (p3, cC 4092 8192) (by simp)).1, (K6756.out.arr (p4, cD 0 100 5) (by simp)).1⟩ (fun hS0 => ?_)
     clear hK K hw k1
     try simp only [Act.put, List.setIfInBounds_toArray, List.set_cons_zero, List.set_cons_succ]
     refine wpAnyH_ready (rs := [8]) (by kernel_rfl) (by simp) (AllReadyH.cons rfl (fun K hK => ?_) AllReadyH.nil)
     rw [if_pos (by rfl)]
     refine wp_storeN 28 (.tmp 7) (.tmp 26) rfl rfl (p7) 0 (cD 0 100 5) (by first | rfl | simp [Act.eval, Act.put]) (by first | rfl | simp [Act.eval, Act.put]) (K6756.out.arr (p7, zCm) (by simp)).1.th sizeCm (cD_one _ _ _) ?_
     have k1 : Keeps (One p7) (u6756) ((u6756).setCells p7 0 (cD 0 100 5).toList) := Keeps.store (S := One p7) (Keeps.refl _ _) (fun _ => rfl) _ _
     obtain ⟨u6757, hw⟩ : ∃ z, z = (u6756).setCells p7 0 (cD 0 100 5).toList := ⟨_, rfl⟩
     rw [← hw] at k1 ⊢
     have K6757 := Lib.hid (show TWk w b B (fun _ => 0) 0 [(p5, cC 4092 8192), (p7, cD 0 100 5), (p6, cC 4092 8192), (p4, cD 0 100 5), (p3, cC 4092 8192)] u6757 from by
      obtain ⟨L, hl, hM⟩ := K6756.out.mem
      have e0 := K6756.out.arr (p7, zCm) (by simp)
      refine ⟨K6756.out.two k1 (fun q e => by have e : q = p7 := e; rw [e]; exact e0.2.2.2), ⟨L, hl, hM.kept k1 (fun e => e0.2.1 (Eq.symm e)) (fun e => e0.2.2.1 (Eq.symm e))⟩, K6756.out.bl, K6756.out.Bl, fun y hy => ?_⟩
      simp only [List.mem_cons, List.not_mem_nil, or_false] at hy
      rcases hy with rfl | rfl | rfl | rfl | rfl
      ·have := K6756.out.arr (p5, cC 4092 8192) (by simp); exact ⟨this.1.kept k1 (fun e => by have e : p5 = p7 := e; have := H34.out; omega), this.2⟩
      ·exact ⟨by rw [hw]; exact e0.1.store (cD 0 100 5) rfl, e0.2⟩
      ·have := K6756.out.arr (p6, cC 4092 8192) (by simp); exact ⟨this.1.kept k1 (fun e => by have e : p6 = p7 := e; have := H34.out; omega), this.2⟩
      ·have := K6756.out.arr (p4, cD 0 100 5) (by simp); exact ⟨this.1.kept k1 (fun e => by have e : p4 = p7 := e; have := H34.out; omega), this.2⟩
      ·have := K6756.out.arr (p3, cC 4092 8192) (by simp); exact ⟨this.1.kept k1 (fun e => by have e : p3 = p7 := e; have := H34.out; omega), this.2⟩
     )
     refine hK.out _ _ ⟨(K6757.out.arr (p3, cC 4092 8192) (by simp)).1, (K6757.out.arr (p4, cD 0 100 5) (by simp)).1⟩ (fun hS0 => ?_)
     clear hK K hw k1
     try simp only [Act.put, List.setIfInBounds_toArray, List.set_cons_zero, List.set_cons_succ]
     refine wpAnyH_done (by kernel_rfl) ?_ _
     go_wp2_with fail
     go_meet
     case rel =>
      have h34 := H34.out
      exact ⟨p5, p6, p7, rfl, rfl, rfl, ⟨by omega, by omega, by omega, by omega, by omega, by omega⟩, ⟨K6757.out.below, K6757.out.mem, K6757.out.bl, K6757.out.Bl, fun x hx => K6757.out.arr x (by simp only [List.mem_cons, List.not_mem_nil, or_false] at hx ⊢; rcases hx with h | h | h | h | h <;> simp [h])⟩⟩
  ·rw [if_pos (by rfl)]
   refine wp_allocN 28 7 rfl rfl zeroCm (A := zCm) rfl ?_
   obtain ⟨w7, hw⟩ : ∃ x, x = (W3.drew).alloc (.cells zCm 28) := ⟨_, rfl⟩
   rw [← hw]
   have hb : Below (W3.drew).heap.size (W3.drew) w7 := by rw [hw]; exact (Below.refl _ _).alloc (Nat.le_refl _) _
   have ha : ArrAt w7 (W3.drew).heap.size zCm := by rw [hw]; exact ArrAt.fresh _ zCm _ (by decide)
   have J7 := Lib.hid ((J0.out.go hb).add ha J0.out.below.size (fun e => by obtain ⟨L, -, hm⟩ := J0.out.mem; have := hm.lt; omega) (fun e => by obtain ⟨L, -, hm⟩ := J0.out.mem; have := hm.lt'; omega))
   obtain ⟨p7, hp⟩ : ∃ z, z = (W3.drew).heap.size := ⟨_, rfl⟩
   rw [← hp] at J7 ⊢
   have l7 : p4 < p7 := by rw [hp]; exact hl4
   have q7 : p7 < w7.heap.size := by rw [hp]; exact ha.lt
   refine hK.out _ _ ⟨(J7.out.arr (p3, cC 4092 8192) (by simp)).1, (J7.out.arr (p4, cD 0 100 5) (by simp)).1⟩ (fun hS0 => ?_)
   clear hK K hb ha hw hp
   try simp only [Act.put, List.setIfInBounds_toArray, List.set_cons_zero, List.set_cons_succ]
   refine wpAnyH_ready (rs := [3, 4]) (by kernel_rfl) (by simp) (AllReadyH.cons rfl (fun K hK => ?_) (AllReadyH.cons rfl (fun K hK => ?_) AllReadyH.nil))
   ·rw [if_pos (by rfl)]
    refine wp_allocN 28 5 rfl rfl zeroCm (A := zCm) rfl ?_
    obtain ⟨w75, hw⟩ : ∃ x, x = (w7).alloc (.cells zCm 28) := ⟨_, rfl⟩
    rw [← hw]
    have hb : Below (w7).heap.size (w7) w75 := by rw [hw]; exact (Below.refl _ _).alloc (Nat.le_refl _) _
    have ha : ArrAt w75 (w7).heap.size zCm := by rw [hw]; exact ArrAt.fresh _ zCm _ (by decide)
    have J75 := Lib.hid ((J7.out.go hb).add ha J7.out.below.size (fun e => by obtain ⟨L, -, hm⟩ := J7.out.mem; have := hm.lt; omega) (fun e => by obtain ⟨L, -, hm⟩ := J7.out.mem; have := hm.lt'; omega))
    obtain ⟨p5, hp⟩ : ∃ z, z = (w7).heap.size := ⟨_, rfl⟩
    rw [← hp] at J75 ⊢
    have l5 : p7 < p5 := by rw [hp]; exact q7
    have q5 : p5 < w75.heap.size := by rw [hp]; exact ha.lt
    refine hK.out _ _ ⟨(J75.out.arr (p3, cC 4092 8192) (by simp)).1, (J75.out.arr (p4, cD 0 100 5) (by simp)).1⟩ (fun hS0 => ?_)
    clear hK K hb ha hw hp
    try simp only [Act.put, List.setIfInBounds_toArray, List.set_cons_zero, List.set_cons_succ]
    refine wpAnyH_ready (rs := [4]) (by kernel_rfl) (by simp) (AllReadyH.cons rfl (fun K hK => ?_) AllReadyH.nil)
    ·rw [if_pos (by rfl)]
     refine wp_allocN 28 6 rfl rfl zeroCm (A := zCm) rfl ?_
     obtain ⟨w756, hw⟩ : ∃ x, x = (w75).alloc (.cells zCm 28) := ⟨_, rfl⟩
     rw [← hw]
     have hb : Below (w75).heap.size (w75) w756 := by rw [hw]; exact (Below.refl _ _).alloc (Nat.le_refl _) _
     have ha : ArrAt w756 (w75).heap.size zCm := by rw [hw]; exact ArrAt.fresh _ zCm _ (by decide)
     have J756 := Lib.hid ((J75.out.go hb).add ha J75.out.below.size (fun e => by obtain ⟨L, -, hm⟩ := J75.out.mem; have := hm.lt; omega) (fun e => by obtain ⟨L, -, hm⟩ := J75.out.mem; have := hm.lt'; omega))
     obtain ⟨p6, hp⟩ : ∃ z, z = (w75).heap.size := ⟨_, rfl⟩
     rw [← hp] at J756 ⊢
     have l6 : p5 < p6 := by rw [hp]; exact q5
     have q6 : p6 < w756.heap.size := by rw [hp]; exact ha.lt
     refine hK.out _ _ ⟨(J756.out.arr (p3, cC 4092 8192) (by simp)).1, (J756.out.arr (p4, cD 0 100 5) (by simp)).1⟩ (fun hS0 => ?_)
     clear hK K hb ha hw hp
     try simp only [Act.put, List.setIfInBounds_toArray, List.set_cons_zero, List.set_cons_succ]
     refine wpAnyH_ready (rs := [6]) (by kernel_rfl) (by simp) (AllReadyH.cons rfl (fun K hK => ?_) AllReadyH.nil)
     rw [if_pos (by rfl)]
     refine wp_storeN 28 (.tmp 5) (.tmp 24) rfl rfl (p5) 0 (cC 4092 8192) (by first | rfl | simp [Act.eval, Act.put]) (by first | rfl | simp [Act.eval, Act.put]) (J756.out.arr (p5, zCm) (by simp)).1.th sizeCm (cC_one _ _) ?_
     have k1 : Keeps (One p5) (w756) ((w756).setCells p5 0 (cC 4092 8192).toList) := Keeps.store (S := One p5) (Keeps.refl _ _) (fun _ => rfl) _ _
     obtain ⟨u7565, hw⟩ : ∃ z, z = (w756).setCells p5 0 (cC 4092 8192).toList := ⟨_, rfl⟩
     rw [← hw] at k1 ⊢
     have K7565 := Lib.hid (show TWk w b B (fun _ => 0) 0 [(p6, zCm), (p5, cC 4092 8192), (p7, zCm), (p4, cD 0 100 5), (p3, cC 4092 8192)] u7565 from by
      obtain ⟨L, hl, hM⟩ := J756.out.mem
      have e0 := J756.out.arr (p5, zCm) (by simp)
      refine ⟨J756.out.two k1 (fun q e => by have e : q = p5 := e; rw [e]; exact e0.2.2.2), ⟨L, hl, hM.kept k1 (fun e => e0.2.1 (Eq.symm e)) (fun e => e0.2.2.1 (Eq.symm e))⟩, J756.out.bl, J756.out.Bl, fun y hy => ?_⟩
      simp only [List.mem_cons, List.not_mem_nil, or_false] at hy
      rcases hy with rfl | rfl | rfl | rfl | rfl
      ·have := J756.out.arr (p6, zCm) (by simp); exact ⟨this.1.kept k1 (fun e => by have e : p6 = p5 := e; have := H34.out; omega), this.2⟩
      ·exact ⟨by rw [hw]; exact e0.1.store (cC 4092 8192) rfl, e0.2⟩
      ·have := J756.out.arr (p7, zCm) (by simp); exact ⟨this.1.kept k1 (fun e => by have e : p7 = p5 := e; have := H34.out; omega), this.2⟩
      ·have := J756.out.arr (p4, cD 0 100 5) (by simp); exact ⟨this.1.kept k1 (fun e => by have e : p4 = p5 := e; have := H34.out; omega), this.2⟩
      ·have := J756.out.arr (p3, cC 4092 8192) (by simp); exact ⟨this.1.kept k1 (fun e => by have e : p3 = p5 := e; have := H34.out; omega), this.2⟩
     )
     refine hK.out _ _ ⟨(K7565.out.arr (p3, cC 4092 8192) (by simp)).1, (K7565.out.arr (p4, cD 0 100 5) (by simp)).1⟩ (fun hS0 => ?_)
     clear hK K hw k1
     try simp only [Act.put, List.setIfInBounds_toArray, List.set_cons_zero, List.set_cons_succ]
     refine wpAnyH_ready (rs := [7]) (by kernel_rfl) (by simp) (AllReadyH.cons rfl (fun K hK => ?_) AllReadyH.nil)
     rw [if_pos (by rfl)]
     refine wp_storeN 28 (.tmp 6) (.tmp 25) rfl rfl (p6) 0 (cC 4092 8192) (by first | rfl | simp [Act.eval, Act.put]) (by first | rfl | simp [Act.eval, Act.put]) (K7565.out.arr (p6, zCm) (by simp)).1.th sizeCm (cC_one _ _) ?_
     have k1 : Keeps (One p6) (u7565) ((u7565).setCells p6 0 (cC 4092 8192).toList) := Keeps.store (S := One p6) (Keeps.refl _ _) (fun _ => rfl) _ _
     obtain ⟨u7566, hw⟩ : ∃ z, z = (u7565).setCells p6 0 (cC 4092 8192).toList := ⟨_, rfl⟩
     rw [← hw] at k1 ⊢
     have K7566 := Lib.hid (show TWk w b B (fun _ => 0) 0 [(p6, cC 4092 8192), (p5, cC 4092 8192), (p7, zCm), (p4, cD 0 100 5), (p3, cC 4092 8192)] u7566 from by
      obtain ⟨L, hl, hM⟩ := K7565.out.mem
      have e0 := K7565.out.arr (p6, zCm) (by simp)
      refine ⟨K7565.out.two k1 (fun q e => by have e : q = p6 := e; rw [e]; exact e0.2.2.2), ⟨L, hl, hM.kept k1 (fun e => e0.2.1 (Eq.symm e)) (fun e => e0.2.2.1 (Eq.symm e))⟩, K7565.out.bl, K7565.out.Bl, fun y hy => ?_⟩
      simp only [List.mem_cons, List.not_mem_nil, or_false] at hy
      rcases hy with rfl | rfl | rfl | rfl | rfl
      ·exact ⟨by rw [hw]; exact e0.1.store (cC 4092 8192) rfl, e0.2⟩
      ·have := K7565.out.arr (p5, cC 4092 8192) (by simp); exact ⟨this.1.kept k1 (fun e => by have e : p5 = p6 := e; have := H34.out; omega), this.2⟩
      ·have := K7565.out.arr (p7, zCm) (by simp); exact ⟨this.1.kept k1 (fun e => by have e : p7 = p6 := e; have := H34.out; omega), this.2⟩
      ·have := K7565.out.arr (p4, cD 0 100 5) (by simp); exact ⟨this.1.kept k1 (fun e => by have e : p4 = p6 := e; have := H34.out; omega), this.2⟩
      ·have := K7565.out.arr (p3, cC 4092 8192) (by simp); exact ⟨this.1.kept k1 (fun e => by have e : p3 = p6 := e; have := H34.out; omega), this.2⟩
     )
     refine hK.out _ _ ⟨(K7566.out.arr (p3, cC 4092 8192) (by simp)).1, (K7566.out.arr (p4, cD 0 100 5) (by simp)).1⟩ (fun hS0 => ?_)
     clear hK K hw k1
     try simp only [Act.put, List.setIfInBounds_toArray, List.set_cons_zero, List.set_cons_succ]
     refine wpAnyH_ready (rs := [8]) (by kernel_rfl) (by simp) (AllReadyH.cons rfl (fun K hK => ?_) AllReadyH.nil)
     rw [if_pos (by rfl)]
     refine wp_storeN 28 (.tmp 7) (.tmp 26) rfl rfl (p7) 0 (cD 0 100 5) (by first | rfl | simp [Act.eval, Act.put]) (by first | rfl | simp [Act.eval, Act.put]) (K7566.out.arr (p7, zCm) (by simp)).1.th sizeCm (cD_one _ _ _) ?_
     have k1 : Keeps (One p7) (u7566) ((u7566).setCells p7 0 (cD 0 100 5).toList) := Keeps.store (S := One p7) (Keeps.refl _ _) (fun _ => rfl) _ _
     obtain ⟨u7567, hw⟩ : ∃ z, z = (u7566).setCells p7 0 (cD 0 100 5).toList := ⟨_, rfl⟩
     rw [← hw] at k1 ⊢
     have K7567 := Lib.hid (show TWk w b B (fun _ => 0) 0 [(p6, cC 4092 8192), (p5, cC 4092 8192), (p7, cD 0 100 5), (p4, cD 0 100 5), (p3, cC 4092 8192)] u7567 from by
      obtain ⟨L, hl, hM⟩ := K7566.out.mem
      have e0 := K7566.out.arr (p7, zCm) (by simp)
      refine ⟨K7566.out.two k1 (fun q e => by have e : q = p7 := e; rw [e]; exact e0.2.2.2), ⟨L, hl, hM.kept k1 (fun e => e0.2.1 (Eq.symm e)) (fun e => e0.2.2.1 (Eq.symm e))⟩, K7566.out.bl, K7566.out.Bl, fun y hy => ?_⟩
      simp only [List.mem_cons, List.not_mem_nil, or_false] at hy
      rcases hy with rfl | rfl | rfl | rfl | rfl
      ·have := K7566.out.arr (p6, cC 4092 8192) (by simp); exact ⟨this.1.kept k1 (fun e => by have e : p6 = p7 := e; have := H34.out; omega), this.2⟩
      ·have := K7566.out.arr (p5, cC 4092 8192) (by simp); exact ⟨this.1.kept k1 (fun e => by have e : p5 = p7 := e; have := H34.out; omega), this.2⟩
      ·exact ⟨by rw [hw]; exact e0.1.store (cD 0 100 5) rfl, e0.2⟩
      ·have := K7566.out.arr (p4, cD 0 100 5) (by simp); exact ⟨this.1.kept k1 (fun e => by have e : p4 = p7 := e; have := H34.out; omega), this.2⟩
      ·have := K7566.out.arr (p3, cC 4092 8192) (by simp); exact ⟨this.1.kept k1 (fun e => by have e : p3 = p7 := e; have := H34.out; omega), this.2⟩
     )
     refine hK.out _ _ ⟨(K7567.out.arr (p3, cC 4092 8192) (by simp)).1, (K7567.out.arr (p4, cD 0 100 5) (by simp)).1⟩ (fun hS0 => ?_)
     clear hK K hw k1
     try simp only [Act.put, List.setIfInBounds_toArray, List.set_cons_zero, List.set_cons_succ]
     refine wpAnyH_done (by kernel_rfl) ?_ _
     go_wp2_with fail
     go_meet
     case rel =>
      have h34 := H34.out
      exact ⟨p5, p6, p7, rfl, rfl, rfl, ⟨by omega, by omega, by omega, by omega, by omega, by omega⟩, ⟨K7567.out.below, K7567.out.mem, K7567.out.bl, K7567.out.Bl, fun x hx => K7567.out.arr x (by simp only [List.mem_cons, List.not_mem_nil, or_false] at hx ⊢; rcases hx with h | h | h | h | h <;> simp [h])⟩⟩
   ·rw [if_pos (by rfl)]
    refine wp_allocN 28 6 rfl rfl zeroCm (A := zCm) rfl ?_
    obtain ⟨w76, hw⟩ : ∃ x, x = (w7).alloc (.cells zCm 28) := ⟨_, rfl⟩
    rw [← hw]
    have hb : Below (w7).heap.size (w7) w76 := by rw [hw]; exact (Below.refl _ _).alloc (Nat.le_refl _) _
    have ha : ArrAt w76 (w7).heap.size zCm := by rw [hw]; exact ArrAt.fresh _ zCm _ (by decide)
    have J76 := Lib.hid ((J7.out.go hb).add ha J7.out.below.size (fun e => by obtain ⟨L, -, hm⟩ := J7.out.mem; have := hm.lt; omega) (fun e => by obtain ⟨L, -, hm⟩ := J7.out.mem; have := hm.lt'; omega))
    obtain ⟨p6, hp⟩ : ∃ z, z = (w7).heap.size := ⟨_, rfl⟩
    rw [← hp] at J76 ⊢
    have l6 : p7 < p6 := by rw [hp]; exact q7
    have q6 : p6 < w76.heap.size := by rw [hp]; exact ha.lt
    refine hK.out _ _ ⟨(J76.out.arr (p3, cC 4092 8192) (by simp)).1, (J76.out.arr (p4, cD 0 100 5) (by simp)).1⟩ (fun hS0 => ?_)
    clear hK K hb ha hw hp
    try simp only [Act.put, List.setIfInBounds_toArray, List.set_cons_zero, List.set_cons_succ]
    refine wpAnyH_ready (rs := [3]) (by kernel_rfl) (by simp) (AllReadyH.cons rfl (fun K hK => ?_) AllReadyH.nil)
    ·rw [if_pos (by rfl)]
     refine wp_allocN 28 5 rfl rfl zeroCm (A := zCm) rfl ?_
     obtain ⟨w765, hw⟩ : ∃ x, x = (w76).alloc (.cells zCm 28) := ⟨_, rfl⟩
     rw [← hw]
     have hb : Below (w76).heap.size (w76) w765 := by rw [hw]; exact (Below.refl _ _).alloc (Nat.le_refl _) _
     have ha : ArrAt w765 (w76).heap.size zCm := by rw [hw]; exact ArrAt.fresh _ zCm _ (by decide)
     have J765 := Lib.hid ((J76.out.go hb).add ha J76.out.below.size (fun e => by obtain ⟨L, -, hm⟩ := J76.out.mem; have := hm.lt; omega) (fun e => by obtain ⟨L, -, hm⟩ := J76.out.mem; have := hm.lt'; omega))
     obtain ⟨p5, hp⟩ : ∃ z, z = (w76).heap.size := ⟨_, rfl⟩
     rw [← hp] at J765 ⊢
     have l5 : p6 < p5 := by rw [hp]; exact q6
     have q5 : p5 < w765.heap.size := by rw [hp]; exact ha.lt
     refine hK.out _ _ ⟨(J765.out.arr (p3, cC 4092 8192) (by simp)).1, (J765.out.arr (p4, cD 0 100 5) (by simp)).1⟩ (fun hS0 => ?_)
     clear hK K hb ha hw hp
     try simp only [Act.put, List.setIfInBounds_toArray, List.set_cons_zero, List.set_cons_succ]
     refine wpAnyH_ready (rs := [6]) (by kernel_rfl) (by simp) (AllReadyH.cons rfl (fun K hK => ?_) AllReadyH.nil)
     rw [if_pos (by rfl)]
     refine wp_storeN 28 (.tmp 5) (.tmp 24) rfl rfl (p5) 0 (cC 4092 8192) (by first | rfl | simp [Act.eval, Act.put]) (by first | rfl | simp [Act.eval, Act.put]) (J765.out.arr (p5, zCm) (by simp)).1.th sizeCm (cC_one _ _) ?_
     have k1 : Keeps (One p5) (w765) ((w765).setCells p5 0 (cC 4092 8192).toList) := Keeps.store (S := One p5) (Keeps.refl _ _) (fun _ => rfl) _ _
     obtain ⟨u7655, hw⟩ : ∃ z, z = (w765).setCells p5 0 (cC 4092 8192).toList := ⟨_, rfl⟩
     rw [← hw] at k1 ⊢
     have K7655 := Lib.hid (show TWk w b B (fun _ => 0) 0 [(p5, cC 4092 8192), (p6, zCm), (p7, zCm), (p4, cD 0 100 5), (p3, cC 4092 8192)] u7655 from by
      obtain ⟨L, hl, hM⟩ := J765.out.mem
      have e0 := J765.out.arr (p5, zCm) (by simp)
      refine ⟨J765.out.two k1 (fun q e => by have e : q = p5 := e; rw [e]; exact e0.2.2.2), ⟨L, hl, hM.kept k1 (fun e => e0.2.1 (Eq.symm e)) (fun e => e0.2.2.1 (Eq.symm e))⟩, J765.out.bl, J765.out.Bl, fun y hy => ?_⟩
      simp only [List.mem_cons, List.not_mem_nil, or_false] at hy
      rcases hy with rfl | rfl | rfl | rfl | rfl
      ·exact ⟨by rw [hw]; exact e0.1.store (cC 4092 8192) rfl, e0.2⟩
      ·have := J765.out.arr (p6, zCm) (by simp); exact ⟨this.1.kept k1 (fun e => by have e : p6 = p5 := e; have := H34.out; omega), this.2⟩
      ·have := J765.out.arr (p7, zCm) (by simp); exact ⟨this.1.kept k1 (fun e => by have e : p7 = p5 := e; have := H34.out; omega), this.2⟩
      ·have := J765.out.arr (p4, cD 0 100 5) (by simp); exact ⟨this.1.kept k1 (fun e => by have e : p4 = p5 := e; have := H34.out; omega), this.2⟩
      ·have := J765.out.arr (p3, cC 4092 8192) (by simp); exact ⟨this.1.kept k1 (fun e => by have e : p3 = p5 := e; have := H34.out; omega), this.2⟩
     )
     refine hK.out _ _ ⟨(K7655.out.arr (p3, cC 4092 8192) (by simp)).1, (K7655.out.arr (p4, cD 0 100 5) (by simp)).1⟩ (fun hS0 => ?_)
     clear hK K hw k1
     try simp only [Act.put, List.setIfInBounds_toArray, List.set_cons_zero, List.set_cons_succ]
     refine wpAnyH_ready (rs := [7]) (by kernel_rfl) (by simp) (AllReadyH.cons rfl (fun K hK => ?_) AllReadyH.nil)
     rw [if_pos (by rfl)]
     refine wp_storeN 28 (.tmp 6) (.tmp 25) rfl rfl (p6) 0 (cC 4092 8192) (by first | rfl | simp [Act.eval, Act.put]) (by first | rfl | simp [Act.eval, Act.put]) (K7655.out.arr (p6, zCm) (by simp)).1.th sizeCm (cC_one _ _) ?_
     have k1 : Keeps (One p6) (u7655) ((u7655).setCells p6 0 (cC 4092 8192).toList) := Keeps.store (S := One p6) (Keeps.refl _ _) (fun _ => rfl) _ _
     obtain ⟨u7656, hw⟩ : ∃ z, z = (u7655).setCells p6 0 (cC 4092 8192).toList := ⟨_, rfl⟩
     rw [← hw] at k1 ⊢
     have K7656 := Lib.hid (show TWk w b B (fun _ => 0) 0 [(p5, cC 4092 8192), (p6, cC 4092 8192), (p7, zCm), (p4, cD 0 100 5), (p3, cC 4092 8192)] u7656 from by
      obtain ⟨L, hl, hM⟩ := K7655.out.mem
      have e0 := K7655.out.arr (p6, zCm) (by simp)
      refine ⟨K7655.out.two k1 (fun q e => by have e : q = p6 := e; rw [e]; exact e0.2.2.2), ⟨L, hl, hM.kept k1 (fun e => e0.2.1 (Eq.symm e)) (fun e => e0.2.2.1 (Eq.symm e))⟩, K7655.out.bl, K7655.out.Bl, fun y hy => ?_⟩
      simp only [List.mem_cons, List.not_mem_nil, or_false] at hy
      rcases hy with rfl | rfl | rfl | rfl | rfl
      ·have := K7655.out.arr (p5, cC 4092 8192) (by simp); exact ⟨this.1.kept k1 (fun e => by have e : p5 = p6 := e; have := H34.out; omega), this.2⟩
      ·exact ⟨by rw [hw]; exact e0.1.store (cC 4092 8192) rfl, e0.2⟩
      ·have := K7655.out.arr (p7, zCm) (by simp); exact ⟨this.1.kept k1 (fun e => by have e : p7 = p6 := e; have := H34.out; omega), this.2⟩
      ·have := K7655.out.arr (p4, cD 0 100 5) (by simp); exact ⟨this.1.kept k1 (fun e => by have e : p4 = p6 := e; have := H34.out; omega), this.2⟩
      ·have := K7655.out.arr (p3, cC 4092 8192) (by simp); exact ⟨this.1.kept k1 (fun e => by have e : p3 = p6 := e; have := H34.out; omega), this.2⟩
     )
     refine hK.out _ _ ⟨(K7656.out.arr (p3, cC 4092 8192) (by simp)).1, (K7656.out.arr (p4, cD 0 100 5) (by simp)).1⟩ (fun hS0 => ?_)
     clear hK K hw k1
     try simp only [Act.put, List.setIfInBounds_toArray, List.set_cons_zero, List.set_cons_succ]
     refine wpAnyH_ready (rs := [8]) (by kernel_rfl) (by simp) (AllReadyH.cons rfl (fun K hK => ?_) AllReadyH.nil)
     rw [if_pos (by rfl)]
     refine wp_storeN 28 (.tmp 7) (.tmp 26) rfl rfl (p7) 0 (cD 0 100 5) (by first | rfl | simp [Act.eval, Act.put]) (by first | rfl | simp [Act.eval, Act.put]) (K7656.out.arr (p7, zCm) (by simp)).1.th sizeCm (cD_one _ _ _) ?_
     have k1 : Keeps (One p7) (u7656) ((u7656).setCells p7 0 (cD 0 100 5).toList) := Keeps.store (S := One p7) (Keeps.refl _ _) (fun _ => rfl) _ _
     obtain ⟨u7657, hw⟩ : ∃ z, z = (u7656).setCells p7 0 (cD 0 100 5).toList := ⟨_, rfl⟩
     rw [← hw] at k1 ⊢
     have K7657 := Lib.hid (show TWk w b B (fun _ => 0) 0 [(p5, cC 4092 8192), (p6, cC 4092 8192), (p7, cD 0 100 5), (p4, cD 0 100 5), (p3, cC 4092 8192)] u7657 from by
      obtain ⟨L, hl, hM⟩ := K7656.out.mem
      have e0 := K7656.out.arr (p7, zCm) (by simp)
      refine ⟨K7656.out.two k1 (fun q e => by have e : q = p7 := e; rw [e]; exact e0.2.2.2), ⟨L, hl, hM.kept k1 (fun e => e0.2.1 (Eq.symm e)) (fun e => e0.2.2.1 (Eq.symm e))⟩, K7656.out.bl, K7656.out.Bl, fun y hy => ?_⟩
      simp only [List.mem_cons, List.not_mem_nil, or_false] at hy
      rcases hy with rfl | rfl | rfl | rfl | rfl
      ·have := K7656.out.arr (p5, cC 4092 8192) (by simp); exact ⟨this.1.kept k1 (fun e => by have e : p5 = p7 := e; have := H34.out; omega), this.2⟩
      ·have := K7656.out.arr (p6, cC 4092 8192) (by simp); exact ⟨this.1.kept k1 (fun e => by have e : p6 = p7 := e; have := H34.out; omega), this.2⟩
      ·exact ⟨by rw [hw]; exact e0.1.store (cD 0 100 5) rfl, e0.2⟩
      ·have := K7656.out.arr (p4, cD 0 100 5) (by simp); exact ⟨this.1.kept k1 (fun e => by have e : p4 = p7 := e; have := H34.out; omega), this.2⟩
      ·have := K7656.out.arr (p3, cC 4092 8192) (by simp); exact ⟨this.1.kept k1 (fun e => by have e : p3 = p7 := e; have := H34.out; omega), this.2⟩
     )
     refine hK.out _ _ ⟨(K7657.out.arr (p3, cC 4092 8192) (by simp)).1, (K7657.out.arr (p4, cD 0 100 5) (by simp)).1⟩ (fun hS0 => ?_)
     clear hK K hw k1
     try simp only [Act.put, List.setIfInBounds_toArray, List.set_cons_zero, List.set_cons_succ]
     refine wpAnyH_done (by kernel_rfl) ?_ _
     go_wp2_with fail
     go_meet
     case rel =>
      have h34 := H34.out
      exact ⟨p5, p6, p7, rfl, rfl, rfl, ⟨by omega, by omega, by omega, by omega, by omega, by omega⟩, ⟨K7657.out.below, K7657.out.mem, K7657.out.bl, K7657.out.Bl, fun x hx => K7657.out.arr x (by simp only [List.mem_cons, List.not_mem_nil, or_false] at hx ⊢; rcases hx with h | h | h | h | h <;> simp [h])⟩⟩
 case rest =>
  obtain ⟨p5, p6, p7, rfl, rfl, rfl, ⟨n5, n6, n7, n56, n57, n67⟩, hI⟩ := hcut
  have I4 := Lib.hid hI
  clear hI I3
  have a5 := I4.out.arr (p5, cC 4092 8192) (by simp)
  have a6 := I4.out.arr (p6, cC 4092 8192) (by simp)
  have a7 := I4.out.arr (p7, cD 0 100 5) (by simp)
  have e5 := a5.1.cell (i := 8) (v := .int .u64 4092) rfl
  have e6 := a6.1.cell (i := 9) (v := .int .u64 8192) rfl
  have e7 := a7.1.cell (i := 9) (v := .int .u64 5) rfl
  have f5 := a5.1.frozen (i := 8) (show 8 < 16 by decide)
  have f6 := a6.1.frozen (i := 9) (show 9 < 16 by decide)
  have f7 := a7.1.frozen (i := 9) (show 9 < 16 by decide)
  have A5 := Lib.hid a5
  have A6 := Lib.hid a6
  have A7 := Lib.hid a7
  have m56 : ¬ p6 = p5 := fun e => n56 e.symm
  have m57 : ¬ p7 = p5 := fun e => n57 e.symm
  have m67 : ¬ p7 = p6 := fun e => n67 e.symm
  clear a5 a6 a7
  go_upto_region 6 with fail
  obtain ⟨V1, hV1⟩ : ∃ z, z = wc.setCell ⟨p5, 8, none⟩ (.int .u64 4093) := ⟨_, rfl⟩
  rw [← hV1]
  obtain ⟨V2, hV2⟩ : ∃ z, z = V1.setCell ⟨p6, 9, none⟩ (.int .u64 8193) := ⟨_, rfl⟩
  rw [← hV2]
  obtain ⟨V3, hV3⟩ : ∃ z, z = V2.setCell ⟨p7, 9, none⟩ (.int .u64 72057594037927941) := ⟨_, rfl⟩
  rw [← hV3]
  have I5 := Lib.hid (show TWk w b B (fun _ => 0) 0 [(p7, cD 0 100 72057594037927941), (p6, cC 4092 8193), (p5, cC 4093 8192), (p4, cD 0 100 5), (p3, cC 4092 8192)] V3 from by
   have k1 : Keeps (One p5) wc V1 := by rw [hV1]; exact (Keeps.refl _ _).set1 _ _
   have k2 : Keeps (One p6) V1 V2 := by rw [hV2]; exact (Keeps.refl _ _).set1 _ _
   have k3 : Keeps (One p7) V2 V3 := by rw [hV3]; exact (Keeps.refl _ _).set1 _ _
   have b5 : ArrAt V1 p5 (cC 4093 8192) := by rw [hV1]; exact A5.out.1.set 8 (.int .u64 4093) (show 8 < 16 by decide)
   have b6 : ArrAt V2 p6 (cC 4092 8193) := by rw [hV2]; exact (A6.out.1.kept k1 (fun e => m56 e)).set 9 (.int .u64 8193) (show 9 < 16 by decide)
   have b7 : ArrAt V3 p7 (cD 0 100 72057594037927941) := by rw [hV3]; exact ((A7.out.1.kept k1 (fun e => m57 e)).kept k2 (fun e => m67 e)).set 9 (.int .u64 72057594037927941) (show 9 < 16 by decide)
   have h34 := H34.out
   have kk : Keeps (fun j => j = p5 ∨ j = p6 ∨ j = p7) wc V3 := ((k1.mono fun j _ e => .inl e).trans (k2.mono fun j _ e => .inr (.inl e))).trans (k3.mono fun j _ e => .inr (.inr e))
   obtain ⟨L, hl, hM⟩ := I4.out.mem
   refine ⟨I4.out.two kk (fun j e => by rcases e with e | e | e <;> rw [e]; exact A5.out.2.2.2; exact A6.out.2.2.2; exact A7.out.2.2.2), ⟨L, hl, hM.kept kk (fun e => by have := A5.out.2; have := A6.out.2; have := A7.out.2; omega) (fun e => by have := A5.out.2; have := A6.out.2; have := A7.out.2; omega)⟩, I4.out.bl, I4.out.Bl, fun y hy => ?_⟩
   simp only [List.mem_cons, List.not_mem_nil, or_false] at hy
   rcases hy with rfl | rfl | rfl | rfl | rfl
   ·exact ⟨b7, A7.out.2⟩
   ·exact ⟨b6.kept k3 (fun e => n67 e), A6.out.2⟩
   ·exact ⟨(b5.kept k2 (fun e => n56 e)).kept k3 (fun e => n57 e), A5.out.2⟩
   ·have := I4.out.arr (p4, cD 0 100 5) (by simp); exact ⟨this.1.kept kk (fun e => by omega), this.2⟩
   ·have := I4.out.arr (p3, cC 4092 8192) (by simp); exact ⟨this.1.kept kk (fun e => by omega), this.2⟩)
  clear hV1 hV2 hV3 A5 A6 A7 I4 e5 e6 e7 f5 f6 f7 m56 m57 m67
  have hcs := conv_self
  go_upto_region 8 with (first
   | (go_at_call 8; refine (num16_any _ _).mono ?_; rintro e w' ⟨rfl, rfl⟩)
   | ((with_reducible show wpList _ _ _ (⟨some 38, _, _, _, _, _⟩ :: _) _ _); refine wpList_loadAG (by rfl) (I5.out.arr (p3, cC 4092 8192) (by simp)).1 28 (.tmp 3) rfl (by first | rfl | simp [Act.eval, Act.put]) Tryz.underlying28 rfl sizeCm ?_)
   | ((with_reducible show wpList _ _ _ (⟨some 47, _, _, _, _, _⟩ :: _) _ _); refine wpList_loadAG (by rfl) (I7.out.arr (p3, cC 4092 8192) (by simp)).1 28 (.tmp 3) rfl (by first | rfl | simp [Act.eval, Act.put]) Tryz.underlying28 rfl sizeCm ?_)
   | (go_at_call 14; refine (twGa I7.out bytes_wF1 (cC_cm 4092 8192 (by decide) (by decide)) 5 _ (tw2 _) (fun c e => by cases e) _ tw11 0 rfl).mono ?_; rintro e w8 ⟨rfl, hi⟩; have I8 := Lib.hid hi; clear hi)
   | ((with_reducible show wpList _ _ _ (⟨some 53, _, _, _, _, _⟩ :: _) _ _); refine wpList_loadAG (by rfl) (I8.out.arr (p5, cC 4093 8192) (by simp)).1 28 (.tmp 5) rfl (by first | rfl | simp [Act.eval, Act.put]) Tryz.underlying28 rfl sizeCm ?_)
   | ((with_reducible show wpList _ _ _ (⟨some 62, _, _, _, _, _⟩ :: _) _ _); refine wpList_loadAG (by rfl) (I10.out.arr (p6, cC 4092 8193) (by simp)).1 28 (.tmp 6) rfl (by first | rfl | simp [Act.eval, Act.put]) Tryz.underlying28 rfl sizeCm ?_)
   | (go_at_call 13; refine (twScE I10.out bytes_wF1 (cC_cm 4092 8193 (by decide) (by decide)) wl6 6 rfl (by decide) (by omega) _ (tw4 _) _ _ (6, 6+1) rfl rfl).mono ?_; rintro e w11 ⟨rfl, hi⟩; have I11 := Lib.hid hi; clear hi)
   | (go_at_call 13; refine (twScE I8.out bytes_wF1 (cC_cm 4093 8192 (by decide) (by decide)) wl6 6 rfl (by decide) (by omega) _ (tw3 _) _ _ (6, 6+1) rfl rfl).mono ?_; rintro e w9 ⟨rfl, hi⟩; have I9 := Lib.hid hi; clear hi)
   | (go_at_call 13; refine (twScE I5.out bytes0 (cC_cm 4092 8192 (by decide) (by decide)) wl6 6 rfl (by decide) (by omega) _ (tw1 _) _ _ (6, 6+1) rfl rfl).mono ?_; rintro e w6 ⟨rfl, hi⟩; have I6 := Lib.hid (show TWk w b B wF1 2 [(p7, cD 0 100 72057594037927941), (p6, cC 4092 8193), (p5, cC 4093 8192), (p4, cD 0 100 5), (p3, cC 4092 8192)] w6 from hi); clear hi)
   | (go_at_call_of 12 (Value.agg (stA 19)); refine (code_c 19 rfl (by decide) (by decide) _).mono ?_; rintro e w12 ⟨rfl, hb⟩; have I12 := Lib.hid (I11.out.go hb); clear hb)
   | (go_at_call_of 12 (Value.agg (stA 19)); refine (code_c 19 rfl (by decide) (by decide) _).mono ?_; rintro e w10 ⟨rfl, hb⟩; have I10 := Lib.hid (I9.out.go hb); clear hb)
   | (go_at_call_of 12 (Value.agg st0); refine (code_0 _).mono ?_; rintro e w7 ⟨rfl, hb⟩; have I7 := Lib.hid (I6.out.go hb); clear hb))
  go_upto_region 9 with (go_at_call 15; refine (read_w I12.out).mono ?_; rintro e w13 ⟨ng, ncap, rfl, hcv, hi⟩; have I13 := Lib.hid hi; clear hi)
  clear hcs
  have hcs := conv_self
  go_upto_region 11 with (first
   | (go_at_call 8; refine (num16_any _ _).mono ?_; rintro e w' ⟨rfl, rfl⟩)
   | ((with_reducible show wpList _ _ _ (⟨some 84, _, _, _, _, _⟩ :: _) _ _); refine wpList_loadAG (by rfl) (I13.out.arr (p4, cD 0 100 5) (by simp)).1 28 (.tmp 4) rfl (by first | rfl | simp [Act.eval, Act.put]) Tryz.underlying28 rfl sizeCm ?_)
   | ((with_reducible show wpList _ _ _ (⟨some 93, _, _, _, _, _⟩ :: _) _ _); refine wpList_loadAG (by rfl) (I15.out.arr (p4, cD 0 100 5) (by simp)).1 28 (.tmp 4) rfl (by first | rfl | simp [Act.eval, Act.put]) Tryz.underlying28 rfl sizeCm ?_)
   | ((with_reducible show wpList _ _ _ (⟨some 99, _, _, _, _, _⟩ :: _) _ _); refine wpList_loadAG (by rfl) (I16.out.arr (p7, cD 0 100 72057594037927941) (by simp)).1 28 (.tmp 7) rfl (by first | rfl | simp [Act.eval, Act.put]) Tryz.underlying28 rfl sizeCm ?_)
   | (go_at_call 13; refine (twScE I13.out bytes_wF1 (cD_cm 0 100 5 (by decide) (by decide) (by decide)) wl5 5 rfl (by decide) (by omega) _ (tw5 _) _ _ (5, 5+1) rfl rfl).mono ?_; rintro e w14 ⟨rfl, hi⟩; have I14 := Lib.hid (show TWk w b B wF2 3 [(p7, cD 0 100 72057594037927941), (p6, cC 4092 8193), (p5, cC 4093 8192), (p4, cD 0 100 5), (p3, cC 4092 8192)] w14 from hi); clear hi)
   | (go_at_call_of 12 (Value.agg st0); refine (code_0 _).mono ?_; rintro e w15 ⟨rfl, hb⟩; have I15 := Lib.hid (I14.out.go hb); clear hb)
   | (go_at_call 14; refine (twGa I16.out bytes_wF2 (cD_cm 0 100 72057594037927941 (by decide) (by decide) (by decide)) 1 _ (tw7 _) (fun c e => by cases e; decide) _ rfl 17 rfl).mono ?_; rintro e w17 ⟨rfl, hi⟩; have I17 := Lib.hid hi; clear hi)
   | (go_at_call 14; refine (twGa I15.out bytes_wF2 (cD_cm 0 100 5 (by decide) (by decide) (by decide)) 6 _ (tw6 _) (fun c e => by cases e; decide) _ rfl 15 rfl).mono ?_; rintro e w16 ⟨rfl, hi⟩; have I16 := Lib.hid hi; clear hi))
  go_upto_region 12 with (first
   | ((with_reducible show wpList _ _ _ (⟨some 105, _, _, _, _, _⟩ :: _) _ _); refine wpList_loadA rfl (I17.out.arr (p4, cD 0 100 5) (by simp)).1 28 (.tmp 4) rfl (by first | rfl | simp [Act.eval, Act.put]) Tryz.underlying28 rfl sizeCm ?_)
   | (go_at_call 16; refine (sp_w I17.out bytes_wF2).mono ?_; rintro e w18 ⟨ps, sc, rfl, hg, hi⟩; have I18 := Lib.hid hi; have SG := Lib.hid hg; clear hi hg)
   | ((with_reducible show wpList _ _ _ (⟨some 11, _, _, _, _, _⟩ :: _) _ _); refine wpList_alloc rfl 54 rfl zeroSt ?_; rw [show (Value.agg st0).cells = st0 from rfl])
   | ((with_reducible show wpList _ _ _ (⟨none, .store _ _ _, _, _, _, _⟩ :: _) _ _); refine wpList_storeA rfl (b := w18.heap.size) (A := st0) (A' := st0) (ArrAt.fresh w18 st0 54 (by decide)) 54 (.tmp 11) (.tmp 108) rfl (by simp [Act.eval, Act.put]) (by simp [Act.eval, Act.put]) sizeSt rfl (st0_one) ?_))
  obtain ⟨W19, hW⟩ : ∃ z, z = (w18.alloc (.cells st0 54)).setCells w18.heap.size 0 (st0).toList := ⟨_, rfl⟩
  rw [← hW]
  have hb := (stored_at (y := w18) (T := 54) (Z := st0) (A := st0) (by decide) rfl hW).1
  have I19 := Lib.hid (I18.out.var 54 (Z := st0) (A := st0) (by decide) rfl hW)
  obtain ⟨p11, hp⟩ : ∃ z, z = w18.heap.size := ⟨_, rfl⟩
  rw [← hp] at I19 ⊢
  have H11 := Lib.hid (show p4 < p11 ∧ p4 < ps from by
   have h1 := (I18.out.arr (p4, cD 0 100 5) (by simp)).1.lt
   have h2 := (I17.out.arr (p4, cD 0 100 5) (by simp)).1.lt
   exact ⟨by rw [hp]; exact h1, Nat.lt_of_lt_of_le h2 SG.out⟩)
  clear hb hp hW I18
  have e4 := (I19.out.arr (p4, cD 0 100 5) (by simp)).1.cell (i := 7) (v := .int .u64 0) rfl
  have f4 := (I19.out.arr (p4, cD 0 100 5) (by simp)).1.frozen (i := 7) (show 7 < 16 by decide)
  go_upto_region 13 with fail
  obtain ⟨V20, hV⟩ : ∃ z, z = W19.setCell ⟨p4, 7, none⟩ (.int .u64 6) := ⟨_, rfl⟩
  rw [← hV]
  have k4 : Keeps (One p4) W19 V20 := by rw [hV]; exact (Keeps.refl _ _).set1 _ _
  have I20 := Lib.hid (show TWk w b B wF2 3 [(p11, st0), (ps, spA), (p7, cD 0 100 72057594037927941), (p6, cC 4092 8193), (p5, cC 4093 8192), (p4, cD 6 100 5), (p3, cC 4092 8192)] V20 from by
   have a4 := I19.out.arr (p4, cD 0 100 5) (by simp)
   have b4 : ArrAt V20 p4 (cD 6 100 5) := by rw [hV]; exact a4.1.set 7 (.int .u64 6) (show 7 < 16 by decide)
   have h34 := H34.out
   have h11 := H11.out.1
   have h12 := H11.out.2
   obtain ⟨L, hl, hM⟩ := I19.out.mem
   refine ⟨I19.out.two k4 (fun j e => by have e : j = p4 := e; rw [e]; exact a4.2.2.2), ⟨L, hl, hM.kept k4 (fun e => a4.2.1 (Eq.symm e)) (fun e => a4.2.2.1 (Eq.symm e))⟩, I19.out.bl, I19.out.Bl, fun y hy => ?_⟩
   simp only [List.mem_cons, List.not_mem_nil, or_false] at hy
   rcases hy with rfl | rfl | rfl | rfl | rfl | rfl | rfl
   ·have := I19.out.arr (p11, st0) (by simp); exact ⟨this.1.kept k4 (fun e => by have e : p11 = p4 := e; omega), this.2⟩
   ·have := I19.out.arr (ps, spA) (by simp); exact ⟨this.1.kept k4 (fun e => by have e : ps = p4 := e; omega), this.2⟩
   ·have := I19.out.arr (p7, cD 0 100 72057594037927941) (by simp); exact ⟨this.1.kept k4 (fun e => by have e : p7 = p4 := e; omega), this.2⟩
   ·have := I19.out.arr (p6, cC 4092 8193) (by simp); exact ⟨this.1.kept k4 (fun e => by have e : p6 = p4 := e; omega), this.2⟩
   ·have := I19.out.arr (p5, cC 4093 8192) (by simp); exact ⟨this.1.kept k4 (fun e => by have e : p5 = p4 := e; omega), this.2⟩
   ·exact ⟨b4, a4.2⟩
   ·have := I19.out.arr (p3, cC 4092 8192) (by simp); exact ⟨this.1.kept k4 (fun e => by have e : p3 = p4 := e; omega), this.2⟩)
  clear hV k4 e4 f4 I19
  go_upto_region 14 with (first
   | ((with_reducible show wpList _ _ _ (⟨some 112, _, _, _, _, _⟩ :: _) _ _); refine wpList_loadA rfl (I20.out.arr (p4, cD 6 100 5) (by simp)).1 28 (.tmp 4) rfl (by first | rfl | simp [Act.eval, Act.put]) Tryz.underlying28 rfl sizeCm ?_)
   | (go_at_call 17; refine (gm_w1 I20.out).mono ?_; rintro e w21 ⟨rfl, hi⟩; have I21 := Lib.hid hi; clear hi)
   | ((with_reducible show wpList _ _ _ (⟨some 13, _, _, _, _, _⟩ :: _) _ _); refine wpList_alloc rfl 54 rfl zeroSt ?_; rw [show (Value.agg st0).cells = st0 from rfl])
   | ((with_reducible show wpList _ _ _ (⟨none, .store _ _ _, _, _, _, _⟩ :: _) _ _); refine wpList_storeA rfl (b := w21.heap.size) (A := st0) (A' := stA 2) (ArrAt.fresh w21 st0 54 (by decide)) 54 (.tmp 13) (.tmp 115) rfl (by simp [Act.eval, Act.put]) (by simp [Act.eval, Act.put]) sizeSt rfl (stA_one _) ?_))
  obtain ⟨W22, hW⟩ : ∃ z, z = (w21.alloc (.cells st0 54)).setCells w21.heap.size 0 (stA 2).toList := ⟨_, rfl⟩
  rw [← hW]
  have hb := (stored_at (y := w21) (T := 54) (Z := st0) (A := stA 2) (by decide) rfl hW).1
  have I22 := Lib.hid (I21.out.var 54 (Z := st0) (A := stA 2) (by decide) rfl hW)
  obtain ⟨p13, hp⟩ : ∃ z, z = w21.heap.size := ⟨_, rfl⟩
  rw [← hp] at I22 ⊢
  clear hb hW hp I21
  go_upto_region 15 with (first
   | ((with_reducible show wpList _ _ _ (⟨some 118, _, _, _, _, _⟩ :: _) _ _); refine wpList_loadA rfl (I22.out.arr (p4, cD 6 100 5) (by simp)).1 28 (.tmp 4) rfl (by first | rfl | simp [Act.eval, Act.put]) Tryz.underlying28 rfl sizeCm ?_)
   | (go_at_call 17; refine (gm_w0 I22.out).mono ?_; rintro e w23 ⟨rfl, hi⟩; have I23 := Lib.hid hi; clear hi)
   | ((with_reducible show wpList _ _ _ (⟨some 15, _, _, _, _, _⟩ :: _) _ _); refine wpList_alloc rfl 54 rfl zeroSt ?_; rw [show (Value.agg st0).cells = st0 from rfl])
   | ((with_reducible show wpList _ _ _ (⟨none, .store _ _ _, _, _, _, _⟩ :: _) _ _); refine wpList_storeA rfl (b := w23.heap.size) (A := st0) (A' := st0) (ArrAt.fresh w23 st0 54 (by decide)) 54 (.tmp 15) (.tmp 121) rfl (by simp [Act.eval, Act.put]) (by simp [Act.eval, Act.put]) sizeSt rfl (st0_one) ?_))
  obtain ⟨W24, hW⟩ : ∃ z, z = (w23.alloc (.cells st0 54)).setCells w23.heap.size 0 (st0).toList := ⟨_, rfl⟩
  rw [← hW]
  have hb := (stored_at (y := w23) (T := 54) (Z := st0) (A := st0) (by decide) rfl hW).1
  have I24 := Lib.hid (I23.out.var 54 (Z := st0) (A := st0) (by decide) rfl hW)
  obtain ⟨p15, hp⟩ : ∃ z, z = w23.heap.size := ⟨_, rfl⟩
  rw [← hp] at I24 ⊢
  clear hb hW hp I23
  go_wp2_with (first
   | ((with_reducible show wpList _ _ _ (⟨some 122, _, _, _, _, _⟩ :: _) _ _); refine wpList_loadA rfl (I24.out.arr (p11, st0) (by simp)).1 54 (.tmp 11) rfl (by first | rfl | simp [Act.eval, Act.put]) Tryz.underlying54 rfl sizeSt ?_)
   | ((with_reducible show wpList _ _ _ (⟨some 139, _, _, _, _, _⟩ :: _) _ _); refine wpList_loadAG (by rfl) (I26.out.arr (p13, stA 2) (by simp)).1 54 (.tmp 13) rfl (by first | rfl | simp [Act.eval, Act.put]) Tryz.underlying54 rfl sizeSt ?_)
   | ((with_reducible show wpList _ _ _ (⟨some 143, _, _, _, _, _⟩ :: _) _ _); refine wpList_loadAG (by rfl) (I27.out.arr (p15, st0) (by simp)).1 54 (.tmp 15) rfl (by first | rfl | simp [Act.eval, Act.put]) Tryz.underlying54 rfl sizeSt ?_)
   | (go_at_call 18; refine (same_lit I25.out).mono ?_; rintro e w26 ⟨rfl, hi⟩; have I26 := Lib.hid hi; clear hi)
   | (go_at_call_of 12 (Value.agg st0); refine (code_0 _).mono ?_; rintro e w28 ⟨rfl, hb⟩;  have I28 := Lib.hid (I27.out.go hb); clear hb)
   | (go_at_call_of 12 (Value.agg (stA 2)); refine (code_c 2 rfl (by decide) (by decide) _).mono ?_; rintro e w27 ⟨rfl, hb⟩; have I27 := Lib.hid (I26.out.go hb); clear hb)
   | (go_at_call_of 12 (Value.agg st0); refine (code_0 _).mono ?_; rintro e w25 ⟨rfl, hb⟩; have I25 := Lib.hid (I24.out.go hb); clear hb))
  go_ret
  exact ⟨rfl, I28.out.below⟩
end Go.Proofs.YtfmabknhfehdcaaGreat
