/- memory: Writes: the iterator over a copy of the log. -/
import Derived.Test.YtobbnfdflogicaaG
namespace Go.Proofs.Ytobbnfdflogicaa
open Go.RowKit

/-- Block g is a log: L. -/
def JAt (w : World) (g : Nat) (L : List (Nat × Nat)) : Prop := ∃ G, w.rowIs g 67 769 G ∧ G 768 = .int .i64 L.length ∧ RingOK G L

theorem RingOK.congr {G H : Nat → Value} {L : List (Nat × Nat)} (h : RingOK G L) (e : ∀ i, i < 769 → G i = H i) : RingOK H L := by
  refine ⟨fun i hi => by rw [← e i hi]; exact h.one i hi, ?_⟩
  intro i hi hr
  have hm := Nat.mod_lt i (show 0 < 256 by omega)
  obtain ⟨a1, a2, a3⟩ := h.at' i hi hr
  exact ⟨(e _ (by omega)).symm.trans a1, (e _ (by omega)).symm.trans a2, (e _ (by omega)).symm.trans a3⟩

theorem JAt.kept {S : Nat → Prop} {w w' : World} {g : Nat} {L : List (Nat × Nat)} (h : JAt w g L) (k : Keeps S w w') (hg : ¬ S g) : JAt w' g L := by
  obtain ⟨G, h1, h2⟩ := h
  exact ⟨G, k.rowIs h1 hg, h2⟩

theorem oneCells {G : Nat → Value} {n : Nat} (h : ∀ i, i < n → (G i).oneCell' = true) : (((List.range n).map fun j => G (0 + j)).toArray).all (·.oneCell') = true :=
  all_oneCell_toArray fun v hv => by
    simp only [List.mem_map, List.mem_range] at hv
    obtain ⟨i, hi, rfl⟩ := hv
    rw [Nat.zero_add]; exact h i hi

set_option maxRecDepth 100000 in
set_option maxHeartbeats 1000000 in
theorem writes_none (w : World) (p : Option Addr) (hp : Calls Try.prog 29 #[.pointer p] (w.alloc (.cells zjl.toArray 67)) fun e w' => e = .returned (.bool true) ∧ w.alloc (.cells zjl.toArray 67) = w') :
   Calls Try.prog 13 #[.pointer p] w fun e w' =>
     ∃ g, e = .returned (.func (.func 30) #[] #[.pointer (some ⟨g, 0, none⟩)]) ∧ JAt w' g [] ∧ w.heap.size ≤ g ∧ Below w.heap.size w w' := by
  have HP := Lib.hid hp
  clear hp
  go_enter Try.func13, Try.ntmps13
  go_wp2_with (first | ((with_reducible show wpList _ _ _ (⟨some 3, _, _, _, _, _⟩ :: _) _ _); refine wpList_alloc rfl 67 rfl zero_journal ?_) | (go_at_call 29; refine HP.out.mono ?_; rintro e w' ⟨rfl, rfl⟩))
  go_ret
  refine ⟨_, rfl, ?_, Nat.le_refl _, (Below.refl _ w).alloc (Nat.le_refl _) _⟩
  have hr := World.rowIs_alloc w zjl.toArray 67 zj (fun i hi => by rw [List.getElem?_toArray]; exact zjl_get i (by simpa [zjl_length] using hi))
  have hsz : zjl.toArray.size = 769 := by simp [zjl_length]
  rw [hsz] at hr
  exact ⟨_, hr, rfl, fun i _ => zj_one i, fun i hi => by simp at hi⟩

set_option maxRecDepth 100000 in
set_option maxHeartbeats 1000000 in
theorem writes_ok (b B size : Nat) (f : Nat → Int) (L : List (Nat × Nat)) (w : World) (h : MemAt w b B size f L) :
   Calls Try.prog 13 #[.pointer (some ⟨b, 0, none⟩)] w fun e w' =>
     ∃ g, e = .returned (.func (.func 30) #[] #[.pointer (some ⟨g, 0, none⟩)]) ∧ JAt w' g L ∧ w.heap.size ≤ g ∧ Below w.heap.size w w' := by
  obtain ⟨cap, hsl, -, -⟩ := h.slice
  have hlt := h.lt
  obtain ⟨h1, h2, G, cap', F, h4, h5, h6, h7, h8, h9, h10, h11⟩ := h
  obtain ⟨w1, hw1⟩ : ∃ w1, w1 = w.alloc (.cells zjl.toArray 67) := ⟨_, rfl⟩
  have hk1 : Keeps (fun _ => False) w w1 := by rw [hw1]; exact (Keeps.refl _ w).alloc _
  have hr := World.rowIs_alloc w zjl.toArray 67 zj (fun i hi => by rw [List.getElem?_toArray]; exact zjl_get i (by simpa [zjl_length] using hi))
  have hsz : zjl.toArray.size = 769 := by simp [zjl_length]
  rw [hsz, ← hw1] at hr
  have hrange := Lib.hid (rowIs_range (hk1.rowIs h4 (fun h => h)) 0 769 (by omega))
  have hth := Lib.hid (rowIs_there hr 0 769 (by omega))
  have hone := oneCells (n := 769) (fun i hi => h7.one i hi)
  generalize hV : ((List.range 769).map fun j => G (0 + j)) = V at *
  have hVl : V.length = 769 := by rw [← hV]; simp
  have hVs : V.toArray.size = 769 := by rw [List.size_toArray]; exact hVl
  have HV := Lib.hid hV
  have HVl := Lib.hid hVl
  have HVs := Lib.hid hVs
  have Hone := Lib.hid hone
  have H1 := Lib.hid h1
  have H5 := Lib.hid h5
  have H7 := Lib.hid h7
  have Hr := Lib.hid hr
  have HW := Lib.hid hw1
  have Hsl := Lib.hid (hk1.cell hsl (fun h => h))
  clear h4 h5 h6 h7 h8 h11 hV hone hr hVl hVs hw1 hsl h1 hsz
  go_enter Try.func13, Try.ntmps13
  go_wp2_with (first | ((with_reducible show wpList _ _ _ (⟨some 3, _, _, _, _, _⟩ :: _) _ _); refine wpList_alloc rfl 67 rfl zero_journal ?_; rw [show (Value.agg zjl.toArray).cells = zjl.toArray from rfl, ← HW.out]) | (go_at_call 29; refine (none_some _ _ _ _ _ Hsl.out).mono ?_; rintro e w' ⟨rfl, rfl⟩) |
    ((with_reducible show wpList _ _ _ (⟨some 10, _, _, _, _, _⟩ :: _) _ _); refine wpList_load_mid rfl 67 (.tmp 9) rfl b 0 rfl V _ hrange.out Try.underlying67 rfl (by rw [sizeJ, HVl.out]) ?_) |
    ((with_reducible show wpList _ _ _ (⟨none, _, _, _, _, _⟩ :: _) _ _); refine wpList_store_mid rfl 67 (.tmp 3) (.tmp 10) rfl w.heap.size 0 V.toArray rfl rfl (by rw [HVs.out]; exact hth.out) (by rw [sizeJ, HVs.out]) Hone.out ?_))
  go_ret
  have hb1 : Below w.heap.size w w1 := by rw [HW.out]; exact (Below.refl _ w).alloc (Nat.le_refl _) _
  refine ⟨_, rfl, ?_, Nat.le_refl _, ?_⟩
  · have hr2 := rowIs_setCells Hr.out V 0
    refine ⟨_, hr2, ?_, ?_⟩
    · rw [if_pos (by rw [HVl.out]; omega), ← HV.out]; simp [H5.out]
    · refine H7.out.congr fun i hi => ?_
      rw [if_pos (by rw [HVl.out]; omega), ← HV.out]; simp [hi]
  · exact hb1.trans ((Keeps.setCells V (Keeps.refl (One w.heap.size) w1) 0).below (B := w.heap.size) hk1.size (fun k hk e => by have e : k = w.heap.size := e; omega))
end Go.Proofs.Ytobbnfdflogicaa
