/- connect: the reference's Encode. -/
import Derived.Test.YtchkipafjnehfaaRE
import Derived.Test.YtchkipafjnehfaaRV
import Derived.Test.YtchkipafjnehfaaPW
import Derived.Deep.CutRange
import Derived.BigRegion
namespace Go.Proofs.Ytchkipafjnehfaa
set_option linter.unusedVariables false
set_option linter.unusedSimpArgs false
open Go.RowKit

/-- the row with three bytes set -/
def st (k : Int) : Nat → Value := fun i => if i = 0 then .int .u8 127 else if i = 1 then .int .u8 64 else if i = 4 then .int .u8 k else .int .u8 0
theorem st_hd {f : Fab} (hok : f.Ok) (j : Nat) : putF (st f.kind) 2 2 f.id j = hd f 5 j := by
  obtain ⟨i1, i2⟩ := hok.id
  unfold putF st hd hv
  by_cases h0 : j = 0
  · subst h0; simp
  by_cases h1 : j = 1
  · subst h1; simp
  by_cases h2 : j = 2
  · subst h2; simp
  by_cases h3 : j = 3
  · subst h3; simp; omega
  by_cases h4 : j = 4
  · subst h4; simp
  rw [if_neg (by omega), if_neg h0, if_neg h1, if_neg h4, if_neg (by omega)]

theorem putF_zero {F : Nat → Value} {p n : Nat} (h : ∀ j, p ≤ j → j < p + n → F j = .int .u8 0) (j : Nat) : putF F p n 0 j = F j := by
  unfold putF
  split
  · rename_i hj
    rw [h j (by omega) (by omega)]
    simp
  · rfl
theorem putF_congr {F G : Nat → Value} (h : ∀ j, F j = G j) (p n : Nat) (v : Int) (j : Nat) : putF F p n v j = putF G p n v j := by
  unfold putF; rw [h]

/-- The entry of a valid command. -/
def encF (f : Fab) : Nat → Value :=
  if f.kind = 0 then putF (putF (putF (hd f 5) 40 1 (wv f)) 44 4 f.offset) 48 8 f.value
  else if f.kind = 1 then putF (putF (putF (hd f 5) 42 2 f.queue) 44 2 f.size) 48 4 f.keep
  else if f.kind = 4 then putF (putF (hd f 5) 40 1 (wv f)) 44 4 f.offset
  else if f.kind = 5 then putF (hd f 5) 44 4 f.length
  else if f.kind = 6 then putF (hd f 5) 44 4 f.length
  else hd f 5

theorem vld_kind {f : Fab} (h : vld f = true) : f.kind = 0 ∨ f.kind = 1 ∨ f.kind = 4 ∨ f.kind = 5 ∨ f.kind = 6 ∨ f.kind = 8 := by
  unfold vld at h
  by_cases h0 : f.kind = 0
  · exact .inl h0
  by_cases h1 : f.kind = 1
  · exact .inr (.inl h1)
  by_cases h4 : f.kind = 4
  · exact .inr (.inr (.inl h4))
  by_cases h5 : f.kind = 5
  · exact .inr (.inr (.inr (.inl h5)))
  by_cases h6 : f.kind = 6
  · exact .inr (.inr (.inr (.inr (.inl h6))))
  by_cases h8 : f.kind = 8
  · exact .inr (.inr (.inr (.inr (.inr h8))))
  rw [if_neg h0, if_neg h1, if_neg h4, if_neg h5, if_neg h6, if_neg h8] at h
  exact absurd h (by decide)
theorem vld_4 {f : Fab} (h : vld f = true) (hk : f.kind = 4) : f.value = 0 := by
  rw [← rvld_eq] at h
  unfold rvld at h
  rw [hk] at h
  simp at h
  exact h.2.1
theorem hd_zero (f : Fab) (j : Nat) (h : 5 ≤ j) : hd f 5 j = .int .u8 0 := by unfold hd; rw [if_neg (by omega)]
theorem putF_off {F : Nat → Value} {p n j : Nat} {v : Int} (h : j < p ∨ p + n ≤ j) : putF F p n v j = F j := by unfold putF; rw [if_neg (by omega)]
theorem putF_one1 (F : Nat → Value) (p : Nat) (v : Int) (h : 0 ≤ v) (h' : v ≤ 255) (j : Nat) : (if j = p then .int .u8 v else F j) = putF F p 1 v j := by
  unfold putF
  by_cases e : j = p
  · subst e
    rw [if_pos rfl, if_pos (by omega), Nat.sub_self]
    simp
    omega
  · rw [if_neg e, if_neg (by omega)]

theorem results_cell1 {fn : Func} {p : Tmp} {ty : TypeId} (h : fn.results = #[.cell p ty]) (tmps : Array Value) (P : Program) (w : World) :
    (results fn tmps).run P w = ((asAddr (tmps.getD p undef)).run P w).andThen fun a w₁ => (loadVar ty a).run P w₁ := by
  simp only [results, h]
  simp [Sem.run_bind, Result.andThen]

/-- The three blocks that the reference makes first. -/
theorem ref_start (f : Fab) (w W : World) (hW : W = ((w.alloc (.cells #[.int .u8 f.kind, .int .u16 f.id, .int .u16 f.queue, .int .u16 f.size, .int .u32 f.keep, .bool f.wide, .int .u32 f.offset, .int .u64 f.value, .int .u32 f.length] 42)).alloc (.cells (arr 64 z8) 43)).alloc (.cells (arr 64 z8) 43)) :
    FabAt W w.heap.size f ∧ W.rowIs (w.heap.size + 1) 43 64 z8 ∧ W.rowIs (w.heap.size + 1 + 1) 43 64 z8 ∧ Below w.heap.size w W ∧ W.heap.size = w.heap.size + 3 := by
  obtain ⟨W1, hW1⟩ : ∃ W1, W1 = (w.alloc (.cells #[.int .u8 f.kind, .int .u16 f.id, .int .u16 f.queue, .int .u16 f.size, .int .u32 f.keep, .bool f.wide, .int .u32 f.offset, .int .u64 f.value, .int .u32 f.length] 42)).alloc (.cells (arr 64 z8) 43) := ⟨_, rfl⟩
  obtain ⟨h1, h2, h3, h4⟩ := encode_start f w W1 hW1
  rw [← hW1] at hW
  subst hW
  have h5 := rowIs_arr W1 43 64 z8
  rw [h4] at h5
  exact ⟨World.rowIs.alloc h1 _, World.rowIs.alloc h2 _, h5, h3.alloc h3.size _, by simp [h4]⟩

theorem refencode_results (tmps : Array Value) (w : World) (ab ty : Nat) (G : Nat → Value) (h : w.rowIs ab ty 64 G) (h2 : tmps.getD 2 undef = .pointer (some ⟨ab, 0, none⟩)) :
    (results Try.f22 tmps).run Try.prog w = .ok (.agg (arr 64 G)) w := by
  rw [results_cell1 (p := 2) (ty := 43) rfl, h2]
  have hl := run_loadVar_mid (P := Try.prog) w ab 0 43 (arr 64 G).toList _ (rowIs_range0 h) Try.underlying43 rfl (by rw [arr64]; simp [arr])
  simp only [asAddr, Sem.run_pure, Result.andThen_ok, hl, Array.toArray_toList]

set_option maxRecDepth 100000 in
set_option maxHeartbeats 4000000 in
theorem refencode_any (f : Fab) (w : World) (hok : f.Ok) (hv : vld f = true) :
    Calls Try.prog 22 #[f.v] w fun e w' => e = .returned (.agg (arr 64 (encF f))) ∧ Below w.heap.size w w' := by
  obtain ⟨kind, id, queue, size, keep, wide, offset, value, length⟩ := f
  have HST := Lib.hid (fun j => st_hd hok j)
  have i1 := hok.id.1
  have i2 := hok.id.2
  have q1 := hok.queue.1
  have q2 := hok.queue.2
  have s1 := hok.size.1
  have s2 := hok.size.2
  have p1 := hok.keep.1
  have p2 := hok.keep.2
  have o1 := hok.offset.1
  have o2 := hok.offset.2
  have x1 := hok.value.1
  have x2 := hok.value.2
  have l1 := hok.length.1
  have l2 := hok.length.2
  have hv4 := fun hk => vld_4 hv hk
  have hkind := vld_kind hv
  simp only at i1 i2 q1 q2 s1 s2 p1 p2 o1 o2 x1 x2 l1 l2 hkind hv4
  have HV4 := Lib.hid hv4
  have HKI := Lib.hid hkind
  clear hok hv hv4 hkind
  unfold Fab.v at *
  simp only [] at *
  go_enter Try.func22, Try.ntmps22
  go_upto_region 2 with ((with_reducible show wpList _ _ _ (⟨some _, _, _, _, _, _⟩ :: _) _ _); refine wpList_alloc rfl 43 rfl zero64 ?_; rw [show (Value.agg (arr 64 z8)).cells = arr 64 z8 from rfl])
  obtain ⟨W, hW⟩ : ∃ W, W = ((w.alloc (.cells #[.int .u8 kind, .int .u16 id, .int .u16 queue, .int .u16 size, .int .u32 keep, .bool wide, .int .u32 offset, .int .u64 value, .int .u32 length] 42)).alloc (.cells (arr 64 z8) 43)).alloc (.cells (arr 64 z8) 43) := ⟨_, rfl⟩
  rw [← hW]
  simp only [Act.put, List.setIfInBounds_toArray, List.set_cons_succ, List.set_cons_zero, World.alloc, Array.size_push]
  obtain ⟨h1, h2, h3, h4, h5⟩ := ref_start ⟨kind, id, queue, size, keep, wide, offset, value, length⟩ w W hW
  have hl0 : w.heap.size < W.heap.size := by omega
  have hl1 : w.heap.size + 1 < W.heap.size := by omega
  have hl2 : w.heap.size + 1 + 1 < W.heap.size := by omega
  have c0 : W.cell? ⟨w.heap.size, 0, none⟩ = some (.int .u8 kind) := World.rowIs.cell h1 (by omega)
  have r0 : W.cell? ⟨w.heap.size + 1 + 1, 0, none⟩ = some (.int .u8 0) := World.rowIs.cell h3 (by omega)
  have r1 : W.cell? ⟨w.heap.size + 1 + 1, 1, none⟩ = some (.int .u8 0) := World.rowIs.cell h3 (by omega)
  have r4 : W.cell? ⟨w.heap.size + 1 + 1, 4, none⟩ = some (.int .u8 0) := World.rowIs.cell h3 (by omega)
  have f0 := h3.frozen 0
  have f1 := h3.frozen 1
  have f4 := h3.frozen 4
  have H1 := Lib.hid h1
  have H2 := Lib.hid h2
  have H3 := Lib.hid h3
  have HB := Lib.hid h4
  clear h1 h2 h3 h4 hW h5
  go_cut [8] from 4 to 9 (fun _ wc => Keeps (One (w.heap.size + 1 + 1)) W wc ∧ wc.rowIs (w.heap.size + 1 + 1) 43 64 (st kind))
  case first =>
    go_region
    all_goals
      go_wp2_with fail
      go_meet
      refine ⟨((((Keeps.refl _ _).set1 _ _).set1 _ _).set1 _ _).drew, World.rowIs.congr (World.rowIs.of_block (((World.rowIs.set H3.out 0 _).set 1 _).set 4 _) rfl) fun i _ => ?_⟩
      unfold st z8
      (repeat' split) <;> first | rfl | omega
  case rest =>
    obtain ⟨hk, hr⟩ := hcut
    have c1 : wc.cell? ⟨w.heap.size, 1, none⟩ = some (.int .u16 id) := hk.cell (World.rowIs.cell H1.out (by omega)) (fun e => by have e : w.heap.size = w.heap.size + 1 + 1 := e; omega)
    have HK := Lib.hid hk
    have HR := Lib.hid hr
    clear hk hr r0 r1 r4 f0 f1 f4 c0
    go_wp2_with fail
    refine (refput (w.heap.size + 1 + 1) 43 2 2 id (st kind) _ HR.out (by omega) (by omega) (by omega) (by omega)).mono ?_
    rintro e w2 ⟨rfl, k2, r2⟩
    have HK2 := Lib.hid (HK.out.trans k2)
    have HR2 := Lib.hid (World.rowIs.congr r2 (fun j _ => HST.out j))
    clear k2 r2 c1 HK HR
    have HF2 := Lib.hid (show FabAt w2 w.heap.size ⟨kind, id, queue, size, keep, wide, offset, value, length⟩ from HK2.out.rowIs H1.out (fun e => by have e : w.heap.size = w.heap.size + 1 + 1 := e; omega))
    have c0 : w2.cell? ⟨w.heap.size, 0, none⟩ = some (.int .u8 kind) := World.rowIs.cell HF2.out (by omega)
    rcases HKI.out with rfl | rfl | rfl | rfl | rfl | rfl
    · cases wide
      · have c5 : w2.cell? ⟨w.heap.size, 5, none⟩ = some (.bool false) := World.rowIs.cell HF2.out (by omega)
        have c6 : w2.cell? ⟨w.heap.size, 6, none⟩ = some (.int .u32 offset) := World.rowIs.cell HF2.out (by omega)
        go_wp2_with fail
        refine (refput (w.heap.size + 1 + 1) 43 44 4 offset (putF (hd ⟨0, id, queue, size, keep, false, offset, value, length⟩ 5) 40 1 0) _ (World.rowIs.congr HR2.out fun j _ => (putF_zero (p := 40) (n := 1) (fun j h _ => hd_zero _ j (by omega)) j).symm) (by omega) (by omega) (by omega) (by omega)).mono ?_
        rintro e w3 ⟨rfl, k3, r3⟩
        have HK3 := Lib.hid (HK2.out.trans k3)
        have HR3 := Lib.hid r3
        have HF3 := Lib.hid (show FabAt w3 w.heap.size ⟨0, id, queue, size, keep, false, offset, value, length⟩ from HK3.out.rowIs H1.out (fun e => by have e : w.heap.size = w.heap.size + 1 + 1 := e; omega))
        clear k3 r3 c0 c5 c6
        have c7 : w3.cell? ⟨w.heap.size, 7, none⟩ = some (.int .u64 value) := World.rowIs.cell HF3.out (by omega)
        go_wp2_with fail
        refine (refput (w.heap.size + 1 + 1) 43 48 8 value (putF (putF (hd ⟨0, id, queue, size, keep, false, offset, value, length⟩ 5) 40 1 0) 44 4 offset) _ HR3.out (by omega) (by omega) (by omega) (by omega)).mono ?_
        rintro e w4 ⟨rfl, k4, r4⟩
        have HK4 := Lib.hid (HK3.out.trans k4)
        have HR4 := Lib.hid r4
        have HF4 := Lib.hid (show FabAt w4 w.heap.size ⟨0, id, queue, size, keep, false, offset, value, length⟩ from HK4.out.rowIs H1.out (fun e => by have e : w.heap.size = w.heap.size + 1 + 1 := e; omega))
        clear k4 r4  c7
        have HRA := Lib.hid (rowIs_range0 HR4.out)
        have HB2 := Lib.hid (HK4.out.rowIs H2.out (fun e => by have e : w.heap.size + 1 = w.heap.size + 1 + 1 := e; omega))
        have HTH := Lib.hid (rowIs_there HB2.out 0 64 (by omega))
        have HONE := Lib.hid (arr_one (n := 64) (f := (putF (putF (putF (hd ⟨0, id, queue, size, keep, false, offset, value, length⟩ 5) 40 1 0) 44 4 offset) 48 8 value)) (fun j _ => (putF_one (putF_one (putF_one (hd_one _ _)))) j))
        go_wp2_with (first | ((with_reducible show wpList _ _ _ (⟨some 50, _, _, _, _, _⟩ :: _) _ _); refine wpList_load_mid rfl 43 (.tmp 3) rfl (w.heap.size + 1 + 1) 0 rfl (arr 64 (putF (putF (putF (hd ⟨0, id, queue, size, keep, false, offset, value, length⟩ 5) 40 1 0) 44 4 offset) 48 8 value)).toList _ HRA.out Try.underlying43 rfl (by rw [arr64]; simp [arr]) ?_) |
          ((with_reducible show wpList _ _ _ (⟨none, _, _, _, _, _⟩ :: _) _ _); refine wpList_store_mid rfl 43 (.tmp 2) (.tmp 50) rfl (w.heap.size + 1) 0 (arr 64 (putF (putF (putF (hd ⟨0, id, queue, size, keep, false, offset, value, length⟩ 5) 40 1 0) 44 4 offset) 48 8 value)) rfl (by simp [Act.eval, Act.put]) (by rw [arr_size]; exact HTH.out) (by rw [arr64, arr_size]) HONE.out ?_))
        refine bodyPost_ret (refencode_results _ _ _ _ (putF (putF (putF (hd ⟨0, id, queue, size, keep, false, offset, value, length⟩ 5) 40 1 0) 44 4 offset) 48 8 value) (rowIs_store HB2.out) rfl) rfl ⟨?_, ?_⟩
        · rfl
        · exact HB.out.trans (((HK4.out.two2).trans (Keeps.setCells _ (Keeps.refl (One (w.heap.size + 1)) w4) 0).two1).below (B := w.heap.size) HB.out.size (fun k hk e => by rcases e with e | e <;> omega))
      · have c5 : w2.cell? ⟨w.heap.size, 5, none⟩ = some (.bool true) := World.rowIs.cell HF2.out (by omega)
        have c6 : w2.cell? ⟨w.heap.size, 6, none⟩ = some (.int .u32 offset) := World.rowIs.cell HF2.out (by omega)
        have r40 : w2.cell? ⟨(w.heap.size + 1 + 1), 40, none⟩ = some (.int .u8 0) := World.rowIs.cell HR2.out (by omega)
        have f40 := HR2.out.frozen 40
        go_wp2_with fail
        refine (refput (w.heap.size + 1 + 1) 43 44 4 offset (putF (hd ⟨0, id, queue, size, keep, true, offset, value, length⟩ 5) 40 1 1) _ (World.rowIs.congr (World.rowIs.set HR2.out 40 (.int .u8 1)) fun j _ => putF_one1 _ 40 1 (by omega) (by omega) j) (by omega) (by omega) (by omega) (by omega)).mono ?_
        rintro e w3 ⟨rfl, k3, r3⟩
        have HK3 := Lib.hid ((HK2.out.set1 _ _).trans k3)
        have HR3 := Lib.hid r3
        have HF3 := Lib.hid (show FabAt w3 w.heap.size ⟨0, id, queue, size, keep, true, offset, value, length⟩ from HK3.out.rowIs H1.out (fun e => by have e : w.heap.size = w.heap.size + 1 + 1 := e; omega))
        clear k3 r3 c0 c5 c6 r40 f40
        have c7 : w3.cell? ⟨w.heap.size, 7, none⟩ = some (.int .u64 value) := World.rowIs.cell HF3.out (by omega)
        go_wp2_with fail
        refine (refput (w.heap.size + 1 + 1) 43 48 8 value (putF (putF (hd ⟨0, id, queue, size, keep, true, offset, value, length⟩ 5) 40 1 1) 44 4 offset) _ HR3.out (by omega) (by omega) (by omega) (by omega)).mono ?_
        rintro e w4 ⟨rfl, k4, r4⟩
        have HK4 := Lib.hid (HK3.out.trans k4)
        have HR4 := Lib.hid r4
        have HF4 := Lib.hid (show FabAt w4 w.heap.size ⟨0, id, queue, size, keep, true, offset, value, length⟩ from HK4.out.rowIs H1.out (fun e => by have e : w.heap.size = w.heap.size + 1 + 1 := e; omega))
        clear k4 r4  c7
        have HRA := Lib.hid (rowIs_range0 HR4.out)
        have HB2 := Lib.hid (HK4.out.rowIs H2.out (fun e => by have e : w.heap.size + 1 = w.heap.size + 1 + 1 := e; omega))
        have HTH := Lib.hid (rowIs_there HB2.out 0 64 (by omega))
        have HONE := Lib.hid (arr_one (n := 64) (f := (putF (putF (putF (hd ⟨0, id, queue, size, keep, true, offset, value, length⟩ 5) 40 1 1) 44 4 offset) 48 8 value)) (fun j _ => (putF_one (putF_one (putF_one (hd_one _ _)))) j))
        go_wp2_with (first | ((with_reducible show wpList _ _ _ (⟨some 50, _, _, _, _, _⟩ :: _) _ _); refine wpList_load_mid rfl 43 (.tmp 3) rfl (w.heap.size + 1 + 1) 0 rfl (arr 64 (putF (putF (putF (hd ⟨0, id, queue, size, keep, true, offset, value, length⟩ 5) 40 1 1) 44 4 offset) 48 8 value)).toList _ HRA.out Try.underlying43 rfl (by rw [arr64]; simp [arr]) ?_) |
          ((with_reducible show wpList _ _ _ (⟨none, _, _, _, _, _⟩ :: _) _ _); refine wpList_store_mid rfl 43 (.tmp 2) (.tmp 50) rfl (w.heap.size + 1) 0 (arr 64 (putF (putF (putF (hd ⟨0, id, queue, size, keep, true, offset, value, length⟩ 5) 40 1 1) 44 4 offset) 48 8 value)) rfl (by simp [Act.eval, Act.put]) (by rw [arr_size]; exact HTH.out) (by rw [arr64, arr_size]) HONE.out ?_))
        refine bodyPost_ret (refencode_results _ _ _ _ (putF (putF (putF (hd ⟨0, id, queue, size, keep, true, offset, value, length⟩ 5) 40 1 1) 44 4 offset) 48 8 value) (rowIs_store HB2.out) rfl) rfl ⟨?_, ?_⟩
        · rfl
        · exact HB.out.trans (((HK4.out.two2).trans (Keeps.setCells _ (Keeps.refl (One (w.heap.size + 1)) w4) 0).two1).below (B := w.heap.size) HB.out.size (fun k hk e => by rcases e with e | e <;> omega))
    · have c2 : w2.cell? ⟨w.heap.size, 2, none⟩ = some (.int .u16 queue) := World.rowIs.cell HF2.out (by omega)
      go_wp2_with fail
      refine (refput (w.heap.size + 1 + 1) 43 42 2 queue (hd ⟨1, id, queue, size, keep, wide, offset, value, length⟩ 5) _ HR2.out (by omega) (by omega) (by omega) (by omega)).mono ?_
      rintro e w3 ⟨rfl, k3, r3⟩
      have HK3 := Lib.hid (HK2.out.trans k3)
      have HR3 := Lib.hid r3
      have HF3 := Lib.hid (show FabAt w3 w.heap.size ⟨1, id, queue, size, keep, wide, offset, value, length⟩ from HK3.out.rowIs H1.out (fun e => by have e : w.heap.size = w.heap.size + 1 + 1 := e; omega))
      clear k3 r3 c0 c2
      have c3 : w3.cell? ⟨w.heap.size, 3, none⟩ = some (.int .u16 size) := World.rowIs.cell HF3.out (by omega)
      go_wp2_with fail
      refine (refput (w.heap.size + 1 + 1) 43 44 2 size (putF (hd ⟨1, id, queue, size, keep, wide, offset, value, length⟩ 5) 42 2 queue) _ HR3.out (by omega) (by omega) (by omega) (by omega)).mono ?_
      rintro e w4 ⟨rfl, k4, r4⟩
      have HK4 := Lib.hid (HK3.out.trans k4)
      have HR4 := Lib.hid r4
      have HF4 := Lib.hid (show FabAt w4 w.heap.size ⟨1, id, queue, size, keep, wide, offset, value, length⟩ from HK4.out.rowIs H1.out (fun e => by have e : w.heap.size = w.heap.size + 1 + 1 := e; omega))
      clear k4 r4  c3
      have c4 : w4.cell? ⟨w.heap.size, 4, none⟩ = some (.int .u32 keep) := World.rowIs.cell HF4.out (by omega)
      go_wp2_with fail
      refine (refput (w.heap.size + 1 + 1) 43 48 4 keep (putF (putF (hd ⟨1, id, queue, size, keep, wide, offset, value, length⟩ 5) 42 2 queue) 44 2 size) _ HR4.out (by omega) (by omega) (by omega) (by omega)).mono ?_
      rintro e w5 ⟨rfl, k5, r5⟩
      have HK5 := Lib.hid (HK4.out.trans k5)
      have HR5 := Lib.hid r5
      have HF5 := Lib.hid (show FabAt w5 w.heap.size ⟨1, id, queue, size, keep, wide, offset, value, length⟩ from HK5.out.rowIs H1.out (fun e => by have e : w.heap.size = w.heap.size + 1 + 1 := e; omega))
      clear k5 r5  c4
      have HRA := Lib.hid (rowIs_range0 HR5.out)
      have HB2 := Lib.hid (HK5.out.rowIs H2.out (fun e => by have e : w.heap.size + 1 = w.heap.size + 1 + 1 := e; omega))
      have HTH := Lib.hid (rowIs_there HB2.out 0 64 (by omega))
      have HONE := Lib.hid (arr_one (n := 64) (f := (putF (putF (putF (hd ⟨1, id, queue, size, keep, wide, offset, value, length⟩ 5) 42 2 queue) 44 2 size) 48 4 keep)) (fun j _ => (putF_one (putF_one (putF_one (hd_one _ _)))) j))
      go_wp2_with (first | ((with_reducible show wpList _ _ _ (⟨some 50, _, _, _, _, _⟩ :: _) _ _); refine wpList_load_mid rfl 43 (.tmp 3) rfl (w.heap.size + 1 + 1) 0 rfl (arr 64 (putF (putF (putF (hd ⟨1, id, queue, size, keep, wide, offset, value, length⟩ 5) 42 2 queue) 44 2 size) 48 4 keep)).toList _ HRA.out Try.underlying43 rfl (by rw [arr64]; simp [arr]) ?_) |
        ((with_reducible show wpList _ _ _ (⟨none, _, _, _, _, _⟩ :: _) _ _); refine wpList_store_mid rfl 43 (.tmp 2) (.tmp 50) rfl (w.heap.size + 1) 0 (arr 64 (putF (putF (putF (hd ⟨1, id, queue, size, keep, wide, offset, value, length⟩ 5) 42 2 queue) 44 2 size) 48 4 keep)) rfl (by simp [Act.eval, Act.put]) (by rw [arr_size]; exact HTH.out) (by rw [arr64, arr_size]) HONE.out ?_))
      refine bodyPost_ret (refencode_results _ _ _ _ (putF (putF (putF (hd ⟨1, id, queue, size, keep, wide, offset, value, length⟩ 5) 42 2 queue) 44 2 size) 48 4 keep) (rowIs_store HB2.out) rfl) rfl ⟨?_, ?_⟩
      · rfl
      · exact HB.out.trans (((HK5.out.two2).trans (Keeps.setCells _ (Keeps.refl (One (w.heap.size + 1)) w5) 0).two1).below (B := w.heap.size) HB.out.size (fun k hk e => by rcases e with e | e <;> omega))
    · cases wide
      · have c5 : w2.cell? ⟨w.heap.size, 5, none⟩ = some (.bool false) := World.rowIs.cell HF2.out (by omega)
        have c6 : w2.cell? ⟨w.heap.size, 6, none⟩ = some (.int .u32 offset) := World.rowIs.cell HF2.out (by omega)
        go_wp2_with fail
        refine (refput (w.heap.size + 1 + 1) 43 44 4 offset (putF (hd ⟨4, id, queue, size, keep, false, offset, value, length⟩ 5) 40 1 0) _ (World.rowIs.congr HR2.out fun j _ => (putF_zero (p := 40) (n := 1) (fun j h _ => hd_zero _ j (by omega)) j).symm) (by omega) (by omega) (by omega) (by omega)).mono ?_
        rintro e w3 ⟨rfl, k3, r3⟩
        have HK3 := Lib.hid (HK2.out.trans k3)
        have HR3 := Lib.hid r3
        have HF3 := Lib.hid (show FabAt w3 w.heap.size ⟨4, id, queue, size, keep, false, offset, value, length⟩ from HK3.out.rowIs H1.out (fun e => by have e : w.heap.size = w.heap.size + 1 + 1 := e; omega))
        clear k3 r3 c0 c5 c6
        have c7 : w3.cell? ⟨w.heap.size, 7, none⟩ = some (.int .u64 value) := World.rowIs.cell HF3.out (by omega)
        go_wp2_with fail
        refine (refput (w.heap.size + 1 + 1) 43 48 8 value (putF (putF (hd ⟨4, id, queue, size, keep, false, offset, value, length⟩ 5) 40 1 0) 44 4 offset) _ HR3.out (by omega) (by omega) (by omega) (by omega)).mono ?_
        rintro e w4 ⟨rfl, k4, r4⟩
        have HK4 := Lib.hid (HK3.out.trans k4)
        have HR4 := Lib.hid r4
        have HF4 := Lib.hid (show FabAt w4 w.heap.size ⟨4, id, queue, size, keep, false, offset, value, length⟩ from HK4.out.rowIs H1.out (fun e => by have e : w.heap.size = w.heap.size + 1 + 1 := e; omega))
        clear k4 r4  c7
        have HRA := Lib.hid (rowIs_range0 HR4.out)
        have HB2 := Lib.hid (HK4.out.rowIs H2.out (fun e => by have e : w.heap.size + 1 = w.heap.size + 1 + 1 := e; omega))
        have HTH := Lib.hid (rowIs_there HB2.out 0 64 (by omega))
        have HONE := Lib.hid (arr_one (n := 64) (f := (putF (putF (putF (hd ⟨4, id, queue, size, keep, false, offset, value, length⟩ 5) 40 1 0) 44 4 offset) 48 8 value)) (fun j _ => (putF_one (putF_one (putF_one (hd_one _ _)))) j))
        go_wp2_with (first | ((with_reducible show wpList _ _ _ (⟨some 50, _, _, _, _, _⟩ :: _) _ _); refine wpList_load_mid rfl 43 (.tmp 3) rfl (w.heap.size + 1 + 1) 0 rfl (arr 64 (putF (putF (putF (hd ⟨4, id, queue, size, keep, false, offset, value, length⟩ 5) 40 1 0) 44 4 offset) 48 8 value)).toList _ HRA.out Try.underlying43 rfl (by rw [arr64]; simp [arr]) ?_) |
          ((with_reducible show wpList _ _ _ (⟨none, _, _, _, _, _⟩ :: _) _ _); refine wpList_store_mid rfl 43 (.tmp 2) (.tmp 50) rfl (w.heap.size + 1) 0 (arr 64 (putF (putF (putF (hd ⟨4, id, queue, size, keep, false, offset, value, length⟩ 5) 40 1 0) 44 4 offset) 48 8 value)) rfl (by simp [Act.eval, Act.put]) (by rw [arr_size]; exact HTH.out) (by rw [arr64, arr_size]) HONE.out ?_))
        refine bodyPost_ret (refencode_results _ _ _ _ (putF (putF (putF (hd ⟨4, id, queue, size, keep, false, offset, value, length⟩ 5) 40 1 0) 44 4 offset) 48 8 value) (rowIs_store HB2.out) rfl) rfl ⟨?_, ?_⟩
        · have hz := HV4.out trivial
          subst hz
          refine congrArg (fun x => Ending.returned (Value.agg x)) (arr_congr fun j _ => ?_)
          exact putF_zero (fun j h1 h2 => by rw [putF_off (by omega), putF_off (by omega), hd_zero _ _ (by omega)]) j
        · exact HB.out.trans (((HK4.out.two2).trans (Keeps.setCells _ (Keeps.refl (One (w.heap.size + 1)) w4) 0).two1).below (B := w.heap.size) HB.out.size (fun k hk e => by rcases e with e | e <;> omega))
      · have c5 : w2.cell? ⟨w.heap.size, 5, none⟩ = some (.bool true) := World.rowIs.cell HF2.out (by omega)
        have c6 : w2.cell? ⟨w.heap.size, 6, none⟩ = some (.int .u32 offset) := World.rowIs.cell HF2.out (by omega)
        have r40 : w2.cell? ⟨(w.heap.size + 1 + 1), 40, none⟩ = some (.int .u8 0) := World.rowIs.cell HR2.out (by omega)
        have f40 := HR2.out.frozen 40
        go_wp2_with fail
        refine (refput (w.heap.size + 1 + 1) 43 44 4 offset (putF (hd ⟨4, id, queue, size, keep, true, offset, value, length⟩ 5) 40 1 1) _ (World.rowIs.congr (World.rowIs.set HR2.out 40 (.int .u8 1)) fun j _ => putF_one1 _ 40 1 (by omega) (by omega) j) (by omega) (by omega) (by omega) (by omega)).mono ?_
        rintro e w3 ⟨rfl, k3, r3⟩
        have HK3 := Lib.hid ((HK2.out.set1 _ _).trans k3)
        have HR3 := Lib.hid r3
        have HF3 := Lib.hid (show FabAt w3 w.heap.size ⟨4, id, queue, size, keep, true, offset, value, length⟩ from HK3.out.rowIs H1.out (fun e => by have e : w.heap.size = w.heap.size + 1 + 1 := e; omega))
        clear k3 r3 c0 c5 c6 r40 f40
        have c7 : w3.cell? ⟨w.heap.size, 7, none⟩ = some (.int .u64 value) := World.rowIs.cell HF3.out (by omega)
        go_wp2_with fail
        refine (refput (w.heap.size + 1 + 1) 43 48 8 value (putF (putF (hd ⟨4, id, queue, size, keep, true, offset, value, length⟩ 5) 40 1 1) 44 4 offset) _ HR3.out (by omega) (by omega) (by omega) (by omega)).mono ?_
        rintro e w4 ⟨rfl, k4, r4⟩
        have HK4 := Lib.hid (HK3.out.trans k4)
        have HR4 := Lib.hid r4
        have HF4 := Lib.hid (show FabAt w4 w.heap.size ⟨4, id, queue, size, keep, true, offset, value, length⟩ from HK4.out.rowIs H1.out (fun e => by have e : w.heap.size = w.heap.size + 1 + 1 := e; omega))
        clear k4 r4  c7
        have HRA := Lib.hid (rowIs_range0 HR4.out)
        have HB2 := Lib.hid (HK4.out.rowIs H2.out (fun e => by have e : w.heap.size + 1 = w.heap.size + 1 + 1 := e; omega))
        have HTH := Lib.hid (rowIs_there HB2.out 0 64 (by omega))
        have HONE := Lib.hid (arr_one (n := 64) (f := (putF (putF (putF (hd ⟨4, id, queue, size, keep, true, offset, value, length⟩ 5) 40 1 1) 44 4 offset) 48 8 value)) (fun j _ => (putF_one (putF_one (putF_one (hd_one _ _)))) j))
        go_wp2_with (first | ((with_reducible show wpList _ _ _ (⟨some 50, _, _, _, _, _⟩ :: _) _ _); refine wpList_load_mid rfl 43 (.tmp 3) rfl (w.heap.size + 1 + 1) 0 rfl (arr 64 (putF (putF (putF (hd ⟨4, id, queue, size, keep, true, offset, value, length⟩ 5) 40 1 1) 44 4 offset) 48 8 value)).toList _ HRA.out Try.underlying43 rfl (by rw [arr64]; simp [arr]) ?_) |
          ((with_reducible show wpList _ _ _ (⟨none, _, _, _, _, _⟩ :: _) _ _); refine wpList_store_mid rfl 43 (.tmp 2) (.tmp 50) rfl (w.heap.size + 1) 0 (arr 64 (putF (putF (putF (hd ⟨4, id, queue, size, keep, true, offset, value, length⟩ 5) 40 1 1) 44 4 offset) 48 8 value)) rfl (by simp [Act.eval, Act.put]) (by rw [arr_size]; exact HTH.out) (by rw [arr64, arr_size]) HONE.out ?_))
        refine bodyPost_ret (refencode_results _ _ _ _ (putF (putF (putF (hd ⟨4, id, queue, size, keep, true, offset, value, length⟩ 5) 40 1 1) 44 4 offset) 48 8 value) (rowIs_store HB2.out) rfl) rfl ⟨?_, ?_⟩
        · have hz := HV4.out trivial
          subst hz
          refine congrArg (fun x => Ending.returned (Value.agg x)) (arr_congr fun j _ => ?_)
          exact putF_zero (fun j h1 h2 => by rw [putF_off (by omega), putF_off (by omega), hd_zero _ _ (by omega)]) j
        · exact HB.out.trans (((HK4.out.two2).trans (Keeps.setCells _ (Keeps.refl (One (w.heap.size + 1)) w4) 0).two1).below (B := w.heap.size) HB.out.size (fun k hk e => by rcases e with e | e <;> omega))
    · have c8 : w2.cell? ⟨w.heap.size, 8, none⟩ = some (.int .u32 length) := World.rowIs.cell HF2.out (by omega)
      go_wp2_with fail
      refine (refput (w.heap.size + 1 + 1) 43 44 4 length (hd ⟨5, id, queue, size, keep, wide, offset, value, length⟩ 5) _ HR2.out (by omega) (by omega) (by omega) (by omega)).mono ?_
      rintro e w3 ⟨rfl, k3, r3⟩
      have HK3 := Lib.hid (HK2.out.trans k3)
      have HR3 := Lib.hid r3
      have HF3 := Lib.hid (show FabAt w3 w.heap.size ⟨5, id, queue, size, keep, wide, offset, value, length⟩ from HK3.out.rowIs H1.out (fun e => by have e : w.heap.size = w.heap.size + 1 + 1 := e; omega))
      clear k3 r3 c0 c8
      have HRA := Lib.hid (rowIs_range0 HR3.out)
      have HB2 := Lib.hid (HK3.out.rowIs H2.out (fun e => by have e : w.heap.size + 1 = w.heap.size + 1 + 1 := e; omega))
      have HTH := Lib.hid (rowIs_there HB2.out 0 64 (by omega))
      have HONE := Lib.hid (arr_one (n := 64) (f := (putF (hd ⟨5, id, queue, size, keep, wide, offset, value, length⟩ 5) 44 4 length)) (fun j _ => (putF_one (hd_one _ _)) j))
      go_wp2_with (first | ((with_reducible show wpList _ _ _ (⟨some 50, _, _, _, _, _⟩ :: _) _ _); refine wpList_load_mid rfl 43 (.tmp 3) rfl (w.heap.size + 1 + 1) 0 rfl (arr 64 (putF (hd ⟨5, id, queue, size, keep, wide, offset, value, length⟩ 5) 44 4 length)).toList _ HRA.out Try.underlying43 rfl (by rw [arr64]; simp [arr]) ?_) |
        ((with_reducible show wpList _ _ _ (⟨none, _, _, _, _, _⟩ :: _) _ _); refine wpList_store_mid rfl 43 (.tmp 2) (.tmp 50) rfl (w.heap.size + 1) 0 (arr 64 (putF (hd ⟨5, id, queue, size, keep, wide, offset, value, length⟩ 5) 44 4 length)) rfl (by simp [Act.eval, Act.put]) (by rw [arr_size]; exact HTH.out) (by rw [arr64, arr_size]) HONE.out ?_))
      refine bodyPost_ret (refencode_results _ _ _ _ (putF (hd ⟨5, id, queue, size, keep, wide, offset, value, length⟩ 5) 44 4 length) (rowIs_store HB2.out) rfl) rfl ⟨?_, ?_⟩
      · rfl
      · exact HB.out.trans (((HK3.out.two2).trans (Keeps.setCells _ (Keeps.refl (One (w.heap.size + 1)) w3) 0).two1).below (B := w.heap.size) HB.out.size (fun k hk e => by rcases e with e | e <;> omega))
    · have c8 : w2.cell? ⟨w.heap.size, 8, none⟩ = some (.int .u32 length) := World.rowIs.cell HF2.out (by omega)
      go_wp2_with fail
      refine (refput (w.heap.size + 1 + 1) 43 44 4 length (hd ⟨6, id, queue, size, keep, wide, offset, value, length⟩ 5) _ HR2.out (by omega) (by omega) (by omega) (by omega)).mono ?_
      rintro e w3 ⟨rfl, k3, r3⟩
      have HK3 := Lib.hid (HK2.out.trans k3)
      have HR3 := Lib.hid r3
      have HF3 := Lib.hid (show FabAt w3 w.heap.size ⟨6, id, queue, size, keep, wide, offset, value, length⟩ from HK3.out.rowIs H1.out (fun e => by have e : w.heap.size = w.heap.size + 1 + 1 := e; omega))
      clear k3 r3 c0 c8
      have HRA := Lib.hid (rowIs_range0 HR3.out)
      have HB2 := Lib.hid (HK3.out.rowIs H2.out (fun e => by have e : w.heap.size + 1 = w.heap.size + 1 + 1 := e; omega))
      have HTH := Lib.hid (rowIs_there HB2.out 0 64 (by omega))
      have HONE := Lib.hid (arr_one (n := 64) (f := (putF (hd ⟨6, id, queue, size, keep, wide, offset, value, length⟩ 5) 44 4 length)) (fun j _ => (putF_one (hd_one _ _)) j))
      go_wp2_with (first | ((with_reducible show wpList _ _ _ (⟨some 50, _, _, _, _, _⟩ :: _) _ _); refine wpList_load_mid rfl 43 (.tmp 3) rfl (w.heap.size + 1 + 1) 0 rfl (arr 64 (putF (hd ⟨6, id, queue, size, keep, wide, offset, value, length⟩ 5) 44 4 length)).toList _ HRA.out Try.underlying43 rfl (by rw [arr64]; simp [arr]) ?_) |
        ((with_reducible show wpList _ _ _ (⟨none, _, _, _, _, _⟩ :: _) _ _); refine wpList_store_mid rfl 43 (.tmp 2) (.tmp 50) rfl (w.heap.size + 1) 0 (arr 64 (putF (hd ⟨6, id, queue, size, keep, wide, offset, value, length⟩ 5) 44 4 length)) rfl (by simp [Act.eval, Act.put]) (by rw [arr_size]; exact HTH.out) (by rw [arr64, arr_size]) HONE.out ?_))
      refine bodyPost_ret (refencode_results _ _ _ _ (putF (hd ⟨6, id, queue, size, keep, wide, offset, value, length⟩ 5) 44 4 length) (rowIs_store HB2.out) rfl) rfl ⟨?_, ?_⟩
      · rfl
      · exact HB.out.trans (((HK3.out.two2).trans (Keeps.setCells _ (Keeps.refl (One (w.heap.size + 1)) w3) 0).two1).below (B := w.heap.size) HB.out.size (fun k hk e => by rcases e with e | e <;> omega))
    · have HRA := Lib.hid (rowIs_range0 HR2.out)
      have HB2 := Lib.hid (HK2.out.rowIs H2.out (fun e => by have e : w.heap.size + 1 = w.heap.size + 1 + 1 := e; omega))
      have HTH := Lib.hid (rowIs_there HB2.out 0 64 (by omega))
      have HONE := Lib.hid (arr_one (n := 64) (f := (hd ⟨8, id, queue, size, keep, wide, offset, value, length⟩ 5)) (fun j _ => (hd_one _ _) j))
      go_wp2_with (first | ((with_reducible show wpList _ _ _ (⟨some 50, _, _, _, _, _⟩ :: _) _ _); refine wpList_load_mid rfl 43 (.tmp 3) rfl (w.heap.size + 1 + 1) 0 rfl (arr 64 (hd ⟨8, id, queue, size, keep, wide, offset, value, length⟩ 5)).toList _ HRA.out Try.underlying43 rfl (by rw [arr64]; simp [arr]) ?_) |
        ((with_reducible show wpList _ _ _ (⟨none, _, _, _, _, _⟩ :: _) _ _); refine wpList_store_mid rfl 43 (.tmp 2) (.tmp 50) rfl (w.heap.size + 1) 0 (arr 64 (hd ⟨8, id, queue, size, keep, wide, offset, value, length⟩ 5)) rfl (by simp [Act.eval, Act.put]) (by rw [arr_size]; exact HTH.out) (by rw [arr64, arr_size]) HONE.out ?_))
      refine bodyPost_ret (refencode_results _ _ _ _ (hd ⟨8, id, queue, size, keep, wide, offset, value, length⟩ 5) (rowIs_store HB2.out) rfl) rfl ⟨?_, ?_⟩
      · rfl
      · exact HB.out.trans (((HK2.out.two2).trans (Keeps.setCells _ (Keeps.refl (One (w.heap.size + 1)) w2) 0).two1).below (B := w.heap.size) HB.out.size (fun k hk e => by rcases e with e | e <;> omega))
end Go.Proofs.Ytchkipafjnehfaa
