/- sgl: Spans of any input. -/
import Derived.Test.YtfmabknhfehdcaaGreatZP17
import Derived.Test.YtfmabknhfehdcaaGreatZP1
import Derived.Test.YtfmabknhfehdcaaGreatZP12
namespace Go.Proofs.YtfmabknhfehdcaaGreat
set_option linter.unusedSimpArgs false
set_option linter.unusedVariables false
open Go.RowKit
theorem spans_any (d : Dsc) (n : Int) (th : Bool) (b B size : Nat) (f : Nat → Int) (L : List (Nat × Nat)) (w : World) (hM : MemAt w b B size f L) (hs : 0 < size) (hd : d.Ok) (hby : Bytes f) :
  Calls Tryz.prog 89 #[.pointer (some ⟨b, 0, none⟩), .agg d.cells, .int .i64 n, .bool th] w (SpPost w (spansM f size d n th)) := by
 by_cases hv : Vld d
 ·by_cases h0 : 0 ≤ n
  ·by_cases h1 : n ≤ 1048576
   ·exact spans_loop d n th b B size f L w hM hs hd (decide_eq_true hv) hby (decide_eq_true h0) (decide_eq_true h1) _ (spansM_nxt hv h0 h1).symm
   ·have e : spansM f size d n th = .error 2 := by unfold spansM; rw [if_pos (fun c => h1 c.2.2)]
    rw [e]
    exact spans_big d n th b B size f L w hM hs hd (decide_eq_true hv) (decide_eq_true h0) (decide_eq_false h1)
  ·have e : spansM f size d n th = .error 2 := by unfold spansM; rw [if_pos (fun c => h0 c.2.1)]
   rw [e]
   exact spans_neg d n th b B size f L w hM hs hd (decide_eq_true hv) (decide_eq_false h0)
 ·have e : spansM f size d n th = .error 2 := by unfold spansM; rw [if_pos (fun c => hv c.1)]
  rw [e]
  exact spans_inv d n th b B size f L w hM hs hd (decide_eq_false hv)
end Go.Proofs.YtfmabknhfehdcaaGreat
namespace Go.Proofs.YtfmabknhfehdcaaGreat
set_option linter.unusedSimpArgs false
set_option linter.unusedVariables false
open Go.RowKit
/-- the bytes of a descriptor -/
def dscL (d : Dsc) : List Value := bytesL d.a 8 ++ bytesL (word1 d) 8
theorem dscL_length (d : Dsc) : (dscL d).length = 16 := by unfold dscL; rw [List.length_append, bytesL_length, bytesL_length]
def partL (xs : List Value) (x y : Int) (k : Nat) : List Value := if k = 0 then xs else if k = 1 then xs ++ bytesL x 8 else xs ++ (bytesL x 8 ++ bytesL y 8)
theorem idx0 (x y : Int) (w : World) : (Instr.index 25 (.agg #[.int .u64 x, .int .u64 y]) (.int .i64 0)).run Tryz.prog w = .ok (.int .u64 x) w := by kernel_rfl
theorem idx1 (x y : Int) (w : World) : (Instr.index 25 (.agg #[.int .u64 x, .int .u64 y]) (.int .i64 1)).run Tryz.prog w = .ok (.int .u64 y) w := by kernel_rfl
theorem word1_bd {d : Dsc} (h : Vld d) (ho : d.Ok) : 0 ≤ word1 d ∧ word1 d ≤ 18446744073709551615 := by
 obtain ⟨⟨h1, h2⟩, ⟨h3, h4⟩, h5, h6⟩ := h
 have k1 := ho.key.1
 have k2 := ho.key.2
 unfold lim at h4
 unfold word1
 split at h4
 ·omega
 ·have : d.key = 0 := by omega
  omega
section
variable (P : Nat → Prop) (bb : Nat) (xs : List Value) (d : Dsc) (W : World)
set_option maxRecDepth 100000 in
set_option maxHeartbeats 8000000 in
theorem bput_ok (h : Wr P bb W xs) (hd : d.Ok) (hv : Vld d) (k3 : (d.k != 3) = true) (k4 : (d.k != 4) = true) (hl : xs.length ≤ 100000) :
  Calls Tryz.prog 59 #[.agg d.cells, .pointer (some ⟨bb, 0, none⟩)] W fun e W' => e = .returned (.tuple #[]) ∧ Keeps (fun k => ¬ P k) W W' ∧ Wr P bb W' (xs ++ dscL d) := by
 have hi0 := idx0
 have hi1 := idx1
 obtain ⟨i0, hi, hz0, hz1, hz2⟩ := info_parts infoU8
 obtain ⟨W1, hW1, hb1, ha1, hs1⟩ := box_start d W
 have HE := Lib.hid fun w => encode_ok d w hd hv
 have c0 : W1.cell? ⟨W.heap.size, 0, none⟩ = some (.int .i64 d.k) := ha1.cell rfl
 have HA := Lib.hid ha1
 have HW1 := Lib.hid hW1
 have HWR := Lib.hid (h.below hb1)
 have HB1 := Lib.hid hb1
 have hx := hd.a
 have hy := word1_bd hv hd
 have HSZ := Lib.hid (show (Tryz.prog.info? 72).map (·.size) = some d.cells.size from sizeDs d)
 obtain ⟨x, ex⟩ : ∃ x, x = d.a := ⟨_, rfl⟩
 obtain ⟨y, ey⟩ : ∃ y, y = word1 d := ⟨_, rfl⟩
 have HDL := Lib.hid (show dscL d = bytesL x 8 ++ bytesL y 8 by rw [ex, ey]; rfl)
 obtain ⟨A, hA⟩ : ∃ A, A = d.cells := ⟨_, rfl⟩
 obtain ⟨dk, hdk⟩ : ∃ z, z = d.k := ⟨_, rfl⟩
 rw [← ex, ← ey] at HE
 rw [← ex] at hx
 rw [← ey] at hy
 rw [← hA] at HE HA HW1 HSZ ⊢
 rw [← hdk] at c0 k3 k4
 have HX := Lib.hid hx
 have HY := Lib.hid hy
 clear h hd hv hW1 hb1 ha1 hx hy ex ey hA hdk
 go_enter Tryz.func59, Tryz.ntmps59
 go_upto_region 1 with (fail)
 rw [← HW1.out]
 go_wp2_with (first
  | (go_at_call 58; refine (must_ok _ _).mono ?_; rintro e w' ⟨rfl, rfl⟩)
  | ((with_reducible show wpList _ _ _ (⟨some 14, _, _, _, _, _⟩ :: _) _ _); refine wpList_loadA rfl HA.out 72 (.tmp 2) rfl (by first | rfl | simp [Act.eval, Act.put]) Tryz.underlying72 rfl HSZ.out ?_)
  | (go_at_call 25; refine (HE.out _).mono ?_; rintro e w2 ⟨rfl, hb2⟩; have HW2 := Lib.hid (HWR.out.below hb2); have HB2 := Lib.hid (HB1.out.trans (hb2.mono (by omega))); clear hb2)
  | (go_at_call 60; refine (got_words _ _ _).mono ?_; rintro e w3 ⟨rfl, hb3⟩; have HW3 := Lib.hid (HW2.out.below hb3); have HB3 := Lib.hid (HB2.out.trans (hb3.mono HB2.out.size)); clear hb3))
 try simp only [Act.put, List.setIfInBounds_toArray, List.set_cons_succ, List.set_cons_zero]
 go_loopw [19] (fun i wr => ∃ k : Nat, k ≤ 2 ∧ i = .int .i64 (k : Nat) ∧ Keeps (fun k => ¬ P k) W wr ∧ Wr P bb wr (partL xs x y k)) (fun i _ => 2 - (intOf i).toNat)
 case atStart => exact ⟨0, by omega, rfl, Keeps.of_below HB3.out, HW3.out⟩
 case round =>
  clear HW1 HWR HB1 HE HA HSZ HW2 HB2 HW3 HB3 c0 k3 k4
  obtain ⟨k, hk, rfl, hK, hW⟩ := hrel
  have HK := Lib.hid hK
  have HWW := Lib.hid hW
  clear hK hW
  by_cases hk2 : k = 2
  ·subst hk2
   go_wp2_with fail
   go_end0
   exact ⟨rfl, HK.out, by rw [HDL.out]; exact HWW.out⟩
  ·have hkk : k = 0 ∨ k = 1 := by omega
   have hln : (partL xs x y k).length ≤ 200000 := by unfold partL; split; omega; split <;> simp [bytesL_length] <;> omega
   obtain ⟨z, hzz⟩ : ∃ z : Int, (k = 0 → z = x) ∧ (k = 1 → z = y) := by
    rcases hkk with e | e
    ·exact ⟨x, fun _ => rfl, fun e2 => by omega⟩
    ·exact ⟨y, fun e2 => by omega, fun _ => rfl⟩
   have hzb : 0 ≤ z ∧ z ≤ 18446744073709551615 := by
    rcases hkk with e | e
    ·rw [hzz.1 e]; exact HX.out
    ·rw [hzz.2 e]; exact HY.out
   have HNX := Lib.hid (show partL xs x y k ++ bytesL z 8 = partL xs x y (k + 1) by
    rcases hkk with e | e
    ·rw [hzz.1 e, e]; rfl
    ·rw [hzz.2 e, e]; show (xs ++ bytesL x 8) ++ bytesL y 8 = _; rw [List.append_assoc]; rfl)
   have HZ := Lib.hid hzz
   have HZB := Lib.hid hzb
   obtain ⟨ys, hys⟩ : ∃ ys, ys = partL xs x y k := ⟨_, rfl⟩
   rw [← hys] at HWW hln HNX
   obtain ⟨ao, nc, b0, o0, p0⟩ := HWW.out.form
   have f0 := HWW.out.fr
   have hbl := HWW.out.glt
   have HO := Lib.hid o0
   have HP := Lib.hid p0
   have HC := Lib.hid b0
   clear hzz hzb hys o0 p0
   rcases hkk with hkk | hkk
   all_goals
    have ez : z = _ := (by first | exact HZ.out.1 hkk | exact HZ.out.2 hkk)
    subst hkk
    subst ez
    go_upto_region 5 with fail
    go_region_law (first
     | (refine step_append_lies _ (by rfl) _ _ _ (by rfl) (bb + 1) 5 i0 _ 1 1 Tryz.underlying31 hi hz0 hz1 hz2 rfl (by decide) (.slice ao ys.length nc) ys.length ys (by rfl) HO4.out ⟨g1, 0, none⟩ 8 8 (bytesL z 8) (by rfl) (by rw [bytesL_length]) H8.out (bytesL_one z 8) (by decide) (by unfold maxLen; omega) (by omega) (by omega) w4.heap.size rfl ?_; intro gg cap w5 hown hgr hat hlt; obtain ⟨x5, y5, k5, r5⟩ := wr_mid HW4.out HC4.out HO4.out HP.out (bytesL_length z 8) hown hgr hat; have HK5 := Lib.hid k5; have HR5 := Lib.hid r5; clear k5 r5 hown hgr hat)
     | (rw [if_pos (by rfl)]; go_simp; go_at_call 62; refine (wput_ok z 8 _ (by omega) (by omega) HZB.out.1 HZB.out.2 (.inl rfl)).mono ?_; rintro e w4 ⟨g1, rfl, hg1, hb4, hr4⟩; have hb4' := (Below.refl wr.heap.size wr).drew.trans hb4; have b4 := (hb4'.cell (p := ⟨bb, 0, none⟩) hbl).trans b0; have f4 := (hb4'.frozen (p := ⟨bb, 0, none⟩) hbl).trans f0; have HW4 := Lib.hid (HWW.out.below hb4'); have HC4 := Lib.hid b4; have HK4 := Lib.hid (HK.out.trans (Keeps.of_below hb4')); have HO4 := Lib.hid (HO.out.kept (w' := w4) (row := none) ⟨hb4'.os, hb4'.tape, hb4'.output, hb4'.size, fun j hj _ => hb4'.block j hj⟩ (by cases (Value.slice ao ys.length nc).ownBlock <;> simp)); have H8 := Lib.hid (show ∀ j u, (bytesL z 8)[j]? = some u → w4.cell? ((⟨g1, 0, none⟩ : Addr).add j) = some u from fun j u hu => by have hj : j < 8 := (by rw [← bytesL_length z 8]; exact (List.getElem?_eq_some_iff.1 hu).1); rw [bytesL_get z 8 j hj] at hu; cases hu; rw [Addr.add_mid, Nat.zero_add]; exact hr4.cell hj); have hbl4 := HW4.out.glt; clear hb4 hb4' hr4)
     | (rw [if_pos (by rfl)]; go_simp; go_at_call 61; refine (got_bytes _ _).mono ?_; rintro e w' ⟨rfl, rfl⟩))
    all_goals
     go_wp2_with fail
     go_roundw
     case rel =>
      first
       | exact ⟨0 + 1, by omega, rfl, HK4.out.trans HK5.out, by rw [← HNX.out]; exact HR5.out⟩
       | exact ⟨1 + 1, by omega, rfl, HK4.out.trans HK5.out, by rw [← HNX.out]; exact HR5.out⟩
     case measure => simp [intOf]
set_option maxRecDepth 100000 in
set_option maxHeartbeats 4000000 in
theorem bput_inv (hd : d.Ok) (hv : ¬ Vld d) (k3 : (d.k != 3) = true) (k4 : (d.k != 4) = true) :
  Calls Tryz.prog 59 #[.agg d.cells, .pointer (some ⟨bb, 0, none⟩)] W fun e W' => e = .panicked [pan 2] ∧ Below W.heap.size W W' := by
 obtain ⟨W1, hW1, hb1, ha1, hs1⟩ := box_start d W
 have HE := Lib.hid fun w => encode_no d w hd hv
 have c0 : W1.cell? ⟨W.heap.size, 0, none⟩ = some (.int .i64 d.k) := ha1.cell rfl
 have HA := Lib.hid ha1
 have HW1 := Lib.hid hW1
 have HB1 := Lib.hid hb1
 have HSZ := Lib.hid (show (Tryz.prog.info? 72).map (·.size) = some d.cells.size from sizeDs d)
 obtain ⟨A, hA⟩ : ∃ A, A = d.cells := ⟨_, rfl⟩
 obtain ⟨dk, hdk⟩ : ∃ z, z = d.k := ⟨_, rfl⟩
 rw [← hA] at HE HA HW1 HSZ ⊢
 rw [← hdk] at c0 k3 k4
 clear hd hv hW1 hb1 ha1 hA hdk
 go_enter Tryz.func59, Tryz.ntmps59
 go_upto_region 1 with (fail)
 rw [← HW1.out]
 go_wp2_with (first
  | (go_at_call 58; refine (must_ok _ _).mono ?_; rintro e w' ⟨rfl, rfl⟩)
  | ((with_reducible show wpList _ _ _ (⟨some 14, _, _, _, _, _⟩ :: _) _ _); refine wpList_loadA rfl HA.out 72 (.tmp 2) rfl (by first | rfl | simp [Act.eval, Act.put]) Tryz.underlying72 rfl HSZ.out ?_)
  | (go_at_call 25; refine (HE.out _).mono ?_; rintro e w2 ⟨rfl, hb2⟩; have HB2 := Lib.hid (HB1.out.trans (hb2.mono (by omega))); clear hb2))
 refine (got_words_bad _ rfl 2 rfl _).mono ?_
 rintro e w3 ⟨rfl, hb3⟩
 exact ⟨rfl, rfl, HB2.out.trans (hb3.mono HB2.out.size)⟩
set_option maxRecDepth 100000 in
set_option maxHeartbeats 4000000 in
theorem bput_seg (hk : d.k = 3 ∨ d.k = 4) :
  Calls Tryz.prog 59 #[.agg d.cells, .pointer (some ⟨bb, 0, none⟩)] W fun e W' => e = .panicked [pan 2] ∧ Below W.heap.size W W' := by
 obtain ⟨W1, hW1, hb1, ha1, hs1⟩ := box_start d W
 have c0 : W1.cell? ⟨W.heap.size, 0, none⟩ = some (.int .i64 d.k) := ha1.cell rfl
 have HW1 := Lib.hid hW1
 have HB1 := Lib.hid hb1
 obtain ⟨A, hA⟩ : ∃ A, A = d.cells := ⟨_, rfl⟩
 rw [← hA] at HW1 ⊢
 clear hW1 hb1 ha1 hA
 rcases hk with hk | hk
 all_goals
  rw [hk] at c0
  clear hk
  go_enter Tryz.func59, Tryz.ntmps59
  go_upto_region 1 with (fail)
  rw [← HW1.out]
  go_wp2_with fail
  refine (must_bad _ _).mono ?_
  rintro e w' ⟨rfl, rfl⟩
  exact ⟨rfl, rfl, HB1.out⟩
end
end Go.Proofs.YtfmabknhfehdcaaGreat
namespace Go.Proofs.YtfmabknhfehdcaaGreat
set_option linter.unusedSimpArgs false
set_option linter.unusedVariables false
open Go.RowKit
theorem bld_results (tmps : Array Value) (w : World) (db eb : Nat) (A : Array Value) (x : Int) (h2 : tmps.getD 6 undef = .pointer (some ⟨db, 0, none⟩)) (h3 : tmps.getD 7 undef = .pointer (some ⟨eb, 0, none⟩))
  (ha : ArrAt w db A) (hs : A.size = 4) (he : w.cell? ⟨eb, 0, none⟩ = some (.int .i64 x)) :
  (results Tryz.f22 tmps).run Tryz.prog w = .ok (.tuple #[.agg A, .int .i64 x]) w := by
 have h2' : tmps[6]?.getD undef = .pointer (some ⟨db, 0, none⟩) := by simpa using h2
 have h3' : tmps[7]?.getD undef = .pointer (some ⟨eb, 0, none⟩) := by simpa using h3
 have hl := ha.loadVar (P := Tryz.prog) Tryz.underlying72 rfl (by rw [hs]; exact sizeD)
 have hl2 : (loadVar 38 ⟨eb, 0, none⟩).run Tryz.prog w = .ok (.int .i64 x) w := by simp [go_sem, he]
 simp only [results, Tryz.results22]
 simp [Sem.run_bind, Result.andThen, h2', h3', asAddr, hl, hl2]
/-- the deferred call -/
def sdfrB (db eb : Nat) : Deferred := { target := .fn (.func 56) #[], args := #[.pointer (some ⟨eb, 0, none⟩), .func (.func 57) #[] #[.pointer (some ⟨db, 0, none⟩)]] }
theorem bld_bad (tmps : Array Value) (w : World) (db eb : Nat) (d : Dsc) (x no : Int) (R : Ending → World → Prop) (h2 : tmps.getD 6 undef = .pointer (some ⟨db, 0, none⟩)) (h3 : tmps.getD 7 undef = .pointer (some ⟨eb, 0, none⟩))
  (ha : ArrAt w db d.cells) (he : w.cell? ⟨eb, 0, none⟩ = some (.int .i64 x)) (hz' : w.frozen? ⟨eb, 0, none⟩ = false) (hne : eb ≠ db)
  (hR : ∀ w', Keeps (Two db eb) w w' → R (.returned (.tuple #[.agg zDsc.cells, .int .i64 no])) w') :
  bodyPostD Tryz.prog Tryz.f22 R (Exit.panic [pan no]) { tmps := tmps, defers := [sdfrB db eb] } w := by
 show Leaves Tryz.prog Tryz.f22 tmps R [sdfrB db eb] (.panicking [pan no]) w
 refine leaves_cons (f := 56) (args := #[.pointer (some ⟨eb, 0, none⟩), .func (.func 57) #[] #[.pointer (some ⟨db, 0, none⟩)]]) (by simp) (by simp [go_sem]) ?_
 refine (scaught_panicking 57 db eb _ _ x no w (sclears_build db) ⟨d, ha⟩ he hz' hne (fun a b h k => h.kept k (fun e => hne (Eq.symm e)))).mono ?_
 rintro e u' w'' ⟨rfl, rfl, hk, hc, hc2⟩
 show Leaves Tryz.prog Tryz.f22 tmps R [] .returning w''
 exact ⟨_, bld_results tmps w'' db eb _ no h2 h3 hc rfl hc2, hR w'' hk⟩
theorem bld_good (tmps : Array Value) (w : World) (db eb : Nat) (A : Array Value) (x : Int) (R : Ending → World → Prop) (h2 : tmps.getD 6 undef = .pointer (some ⟨db, 0, none⟩)) (h3 : tmps.getD 7 undef = .pointer (some ⟨eb, 0, none⟩))
  (ha : ArrAt w db A) (hs : A.size = 4) (he : w.cell? ⟨eb, 0, none⟩ = some (.int .i64 x)) (hR : R (.returned (.tuple #[.agg A, .int .i64 x])) w) :
  bodyPostD Tryz.prog Tryz.f22 R Exit.ret { tmps := tmps, defers := [sdfrB db eb] } w := by
 show Leaves Tryz.prog Tryz.f22 tmps R [sdfrB db eb] .returning w
 refine leaves_cons (f := 56) (args := #[.pointer (some ⟨eb, 0, none⟩), .func (.func 57) #[] #[.pointer (some ⟨db, 0, none⟩)]]) (by simp) (by simp [go_sem]) ?_
 refine (scaught_idle _ _ w).mono ?_
 rintro e u' w'' ⟨rfl, rfl, rfl⟩
 show Leaves Tryz.prog Tryz.f22 tmps R [] .returning _
 exact ⟨_, bld_results tmps _ db eb A x h2 h3 ha hs he, hR⟩
/-- What lies in memory while Build runs: its results. -/
structure sBSt (w W : World) : Prop where
 below : Below w.heap.size w W
 dsc : ArrAt W w.heap.size zDsc.cells
 err : W.cell? ⟨w.heap.size + 1, 0, none⟩ = some (.int .i64 0)
 efz : W.frozen? ⟨w.heap.size + 1, 0, none⟩ = false
namespace sBSt
set_option linter.unusedSimpArgs false
set_option linter.unusedVariables false
variable {w W W' : World}
theorem lt (h : sBSt w W) : w.heap.size + 1 < W.heap.size := World.block_lt_of_cell? _ _ h.err
theorem kept {S : Nat → Prop} (h : sBSt w W) (k : Keeps S W W') (hS : ∀ j, j ≤ w.heap.size + 1 → ¬ S j) : sBSt w W' := by
 have hl := h.lt
 refine ⟨h.below.trans (k.below h.below.size (fun j hj => hS j (by omega))), h.dsc.kept k (hS _ (by omega)), k.cell h.err (hS _ (by simp)), ?_⟩
 rw [World.frozen?_of_block (a := ⟨w.heap.size + 1, 0, none⟩) (k.block (w.heap.size + 1) (by omega) (hS _ (by omega)))]
 exact h.efz
theorem beyond (h : sBSt w W) (hb : Below W.heap.size W W') : sBSt w W' := h.kept (Keeps.of_below (S := fun _ => False) hb) (fun _ _ e => e)
end sBSt
theorem sbst_start (w : World) : sBSt w ((w.alloc (.cells zDsc.cells 72)).alloc (.cells #[.int .i64 0] 38)) := by
 refine ⟨((Below.refl _ w).alloc (Nat.le_refl _) _).alloc (by simp) _, (ArrAt.fresh w zDsc.cells _ (by decide)).alloc _, ?_, ?_⟩
 all_goals go_simp
theorem sbl_bad {w W : World} {no : Int} {tmps : Array Value} {R : Ending → World → Prop} (S : sBSt w W) (h8 : tmps.getD 6 undef = .pointer (some ⟨w.heap.size, 0, none⟩)) (h9 : tmps.getD 7 undef = .pointer (some ⟨w.heap.size + 1, 0, none⟩))
  (hR : ∀ w', Below w.heap.size w w' → R (.returned (.tuple #[.agg zDsc.cells, .int .i64 no])) w') :
  bodyPostD Tryz.prog Tryz.f22 R (Exit.panic [pan no]) { tmps := tmps, defers := [sdfrB w.heap.size (w.heap.size + 1)] } W :=
 bld_bad tmps W _ _ zDsc 0 no _ h8 h9 S.dsc S.err S.efz (by omega) fun w' k => hR w' (S.below.trans (k.below (B := w.heap.size) S.below.size (fun j hj e => by rcases e with e | e <;> omega)))
/-- A list of descriptors lies at ao. -/
def DAt (w : World) (ao : Option Addr) (n : Nat) (l : Nat → Dsc) : Prop := ∀ i, i < n → ∃ g o, ao = some ⟨g, o, none⟩ ∧ w.rangeAt g (o + i * 4) (l i).cells.toList
theorem DAt.below {w w' : World} {ao : Option Addr} {n : Nat} {l : Nat → Dsc} {B : Nat} (h : DAt w ao n l) (hb : Below B w w') (hB : ∀ g o, ao = some ⟨g, o, none⟩ → g < B) : DAt w' ao n l := by
 intro i hi
 obtain ⟨g, o, e, hr⟩ := h i hi
 refine ⟨g, o, e, fun j v hj => ?_⟩
 rw [hb.cell (p := ⟨g, o + i * 4 + j, none⟩) (hB g o e)]
 exact hr j v hj
theorem DAt.lt {w : World} {ao : Option Addr} {n : Nat} {l : Nat → Dsc} (h : DAt w ao n l) (hn : 0 < n) : ∃ g o, ao = some ⟨g, o, none⟩ ∧ g < w.heap.size := by
 obtain ⟨g, o, e, hr⟩ := h 0 hn
 exact ⟨g, o, e, World.block_lt_of_cell? _ _ (hr 0 _ rfl)⟩
def Good (d : Dsc) : Prop := Vld d ∧ d.k ≠ 3 ∧ d.k ≠ 4
instance (d : Dsc) : Decidable (Good d) := by unfold Good; infer_instance
/-- the bytes of the first k -/
def flatD (l : Nat → Dsc) : Nat → List Value
 | 0 => []
 | k + 1 => flatD l k ++ dscL (l k)
theorem flatD_length (l : Nat → Dsc) (k : Nat) : (flatD l k).length = 16 * k := by
 induction k with
 | zero => rfl
 | succ k ih => show (flatD l k ++ dscL (l k)).length = _; rw [List.length_append, ih, dscL_length]; omega
/-- byte j of a list -/
def lstB (l : Nat → Dsc) (j : Nat) : Int := if j % 16 < 8 then byteOf (l (j / 16)).a (j % 16) else byteOf (word1 (l (j / 16))) (j % 16 - 8)
theorem dscL_get (d : Dsc) (j : Nat) (h : j < 16) : (dscL d)[j]? = some (.int .u8 (if j < 8 then byteOf d.a j else byteOf (word1 d) (j - 8))) := by
 unfold dscL
 by_cases h8 : j < 8
 ·rw [List.getElem?_append_left (by rw [bytesL_length]; exact h8), bytesL_get _ _ _ h8, if_pos h8]
 ·rw [List.getElem?_append_right (by rw [bytesL_length]; omega), bytesL_length, bytesL_get _ _ _ (by omega), if_neg h8]
theorem flatD_get (l : Nat → Dsc) (k j : Nat) (h : j < 16 * k) : (flatD l k)[j]? = some (.int .u8 (lstB l j)) := by
 induction k with
 | zero => omega
 | succ k ih =>
  show (flatD l k ++ dscL (l k))[j]? = _
  by_cases hj : j < 16 * k
  ·rw [List.getElem?_append_left (by rw [flatD_length]; exact hj)]
   exact ih hj
  ·rw [List.getElem?_append_right (by rw [flatD_length]; omega), flatD_length, dscL_get _ _ (by omega)]
   unfold lstB
   have e1 : j / 16 = k := by omega
   have e2 : j % 16 = j - 16 * k := by omega
   rw [e1, e2]
end Go.Proofs.YtfmabknhfehdcaaGreat
namespace Go.Proofs.YtfmabknhfehdcaaGreat
set_option linter.unusedSimpArgs false
set_option linter.unusedVariables false
open Go.RowKit
/-- the cells of a walk -/
def wcell (m : Value) (s : PSt) (v : Value) : Nat → Value := fun i =>
 if i = 0 then m else if i = 1 then .int .u64 s.list else if i = 2 then .bool s.fresh else if i = 3 then v else .int .i64 s.left
/-- A walk lies in block wb; the blocks P are not its own. -/
structure Wlk (P : Nat → Prop) (wb : Nat) (W : World) (m : Value) (s : PSt) : Prop where
 ex : ∃ v, W.rowIs wb 153 5 (wcell m s v) ∧ W.ownsRow (wb + 1) 65 3 v s.out.length (spC s.out) ∧ ∀ k, P k → v.ownBlock ≠ some k
 notg : ¬ P wb
 lt : ∀ k, P k → k < W.heap.size
namespace Wlk
set_option linter.unusedSimpArgs false
set_option linter.unusedVariables false
variable {P : Nat → Prop} {wb : Nat} {W W' : World} {m : Value} {s : PSt}
theorem wlt (h : Wlk P wb W m s) : wb < W.heap.size := by obtain ⟨v, hr, -⟩ := h.ex; exact hr.lt
theorem less {Q : Nat → Prop} (h : Wlk P wb W m s) (hQ : ∀ k, Q k → P k) : Wlk Q wb W m s := by
 obtain ⟨v, hr, ho, hp⟩ := h.ex
 exact ⟨⟨v, hr, ho, fun k hk => hp k (hQ k hk)⟩, fun hg => h.notg (hQ _ hg), fun k hk => h.lt k (hQ k hk)⟩
theorem below (h : Wlk P wb W m s) (hb : Below W.heap.size W W') : Wlk P wb W' m s := by
 obtain ⟨v, hr, ho, hp⟩ := h.ex
 have k := Keeps.of_below (S := fun _ => False) hb
 exact ⟨⟨v, k.rowIs hr (fun e => e), ho.kept (row := none) ⟨k.os, k.tape, k.output, k.size, fun j hj _ => k.block j hj (fun e => e)⟩ (by cases v.ownBlock <;> simp), hp⟩, h.notg, fun j hj => Nat.lt_of_lt_of_le (h.lt j hj) k.size⟩
/-- Blocks made since are not the walk's own. -/
theorem more (h : Wlk P wb W m s) (hb : Below W.heap.size W W') : Wlk (fun k => P k ∨ (W.heap.size ≤ k ∧ k < W'.heap.size)) wb W' m s := by
 obtain ⟨v, hr, ho, hp⟩ := h.ex
 have k := Keeps.of_below (S := fun _ => False) hb
 refine ⟨⟨v, k.rowIs hr (fun e => e), ho.kept (row := none) ⟨k.os, k.tape, k.output, k.size, fun j hj _ => k.block j hj (fun e => e)⟩ (by cases v.ownBlock <;> simp), fun j hj => ?_⟩, fun hg => hg.elim h.notg (fun e => by have := hr.lt; omega), fun j hj => hj.elim (fun e => Nat.lt_of_lt_of_le (h.lt j e) k.size) (fun e => e.2)⟩
 rcases hj with hj | hj
 ·exact hp j hj
 ·intro e
  have := (ho.lt j e).2
  omega
end Wlk
/-- Behind the append: the slice laid into its field. -/
theorem add_mid {P : Nat → Prop} {wb : Nat} {W W1 w2 : World} {m : Value} {s : PSt} {v : Value} {gg cap : Nat} {xs : List Value} {X : Obj} (hr : W.rowIs wb 153 5 (wcell m s v)) (ho : W.ownsRow (wb + 1) 65 3 v s.out.length (spC s.out))
  (hp : ∀ k, P k → v.ownBlock ≠ some k) (hng : ¬ P wb) (hlt : ∀ k, P k → k < W.heap.size) (hb : Below W.heap.size W W1)
  (hown : w2.ownsRow (wb + 1) 65 3 (.slice (some ⟨gg, 0, none⟩) (s.out.length + 1) cap) (s.out.length + 1) xs) (hg : (W1.alloc X).grownBy w2 v.ownBlock) (hat : v.ownBlock = some gg ∨ gg = W1.heap.size + 1) :
  Keeps (fun k => ¬ P k) W (w2.setCell ⟨wb, 3, none⟩ (.slice (some ⟨gg, 0, none⟩) (s.out.length + 1) cap)) ∧ (w2.setCell ⟨wb, 3, none⟩ (.slice (some ⟨gg, 0, none⟩) (s.out.length + 1) cap)).rowIs wb 153 5 (wcell m s (.slice (some ⟨gg, 0, none⟩) (s.out.length + 1) cap)) ∧
  (w2.setCell ⟨wb, 3, none⟩ (.slice (some ⟨gg, 0, none⟩) (s.out.length + 1) cap)).ownsRow (wb + 1) 65 3 (.slice (some ⟨gg, 0, none⟩) (s.out.length + 1) cap) (s.out.length + 1) xs ∧ (∀ k, P k → (Value.slice (some ⟨gg, 0, none⟩) (s.out.length + 1) cap).ownBlock ≠ some k) ∧
  (∀ b, b < W1.heap.size → b ≠ wb → v.ownBlock ≠ some b → (w2.setCell ⟨wb, 3, none⟩ (.slice (some ⟨gg, 0, none⟩) (s.out.length + 1) cap)).heap[b]? = W1.heap[b]?) := by
 have hwl := hr.lt
 have hs1 := hb.size
 have hgw : wb + 1 ≤ gg := (hown.lt gg rfl).1
 have hkb : ∀ b, b < W1.heap.size → v.ownBlock ≠ some b → w2.heap[b]? = W1.heap[b]? := fun b hb hne => (hg.block b (by simp; omega) (fun e => hne e.symm)).trans (Below.heap_alloc W1 _ b hb)
 have hk2 : Keeps (fun k => ¬ P k) W w2 := ⟨hg.os.trans hb.os, hg.tape.trans hb.tape, hg.output.trans hb.output, by have := hg.size; simp at this; omega, fun k hk hP => (hkb k (by omega) (hp k (Classical.not_not.1 hP))).trans (hb.block k hk)⟩
 have hkw : Keeps (fun k => v.ownBlock = some k) W w2 := ⟨hk2.os, hk2.tape, hk2.output, hk2.size, fun k hk hP => (hkb k (by omega) hP).trans (hb.block k hk)⟩
 have hr2 : w2.rowIs wb 153 5 (wcell m s v) := hkw.rowIs hr (fun e => by have := (ho.lt wb e).1; omega)
 refine ⟨hk2.setCell (p := ⟨wb, 3, none⟩) (fun _ => hng) _, (hr2.set 3 _).congr fun i _ => ?_, ?_, ?_, ?_⟩
 ·unfold wcell
  by_cases e : i = 3
  ·subst e; rfl
  ·simp only [e, if_false]
 ·refine hown.kept (row := some wb) ⟨rfl, rfl, rfl, by simp, fun k hk hne => Below.heap_setCell _ _ _ _ (fun e => hne (by rw [e]))⟩ (.inr ?_)
  intro e
  have e : some gg = some wb := e
  cases e
  omega
 ·intro k hk e
  have e : some gg = some k := e
  cases e
  rcases hat with h | h
  ·exact hp gg hk h
  ·have := hlt gg hk; omega
 ·intro b hb2 hne hne2
  rw [Below.heap_setCell _ _ _ _ (fun e => hne e)]
  exact hkb b hb2 hne2
section
variable (P : Nat → Prop) (wb b B size : Nat) (f : Nat → Int) (L : List (Nat × Nat)) (s : PSt) (a k : Int) (W : World) (hM : MemAt W b B size f L) (h : Wlk P wb W (.pointer (some ⟨b, 0, none⟩)) s) (ha0 : 0 ≤ a) (ha1 : a ≤ 18446744073709551615) (hl0 : 0 ≤ s.left) (hl : s.left ≤ 1048576) (hk : min s.left (4096 - a % 4096) = k)
include hM h ha0 ha1 hl0 hl hk
set_option maxRecDepth 100000 in
set_option maxHeartbeats 4000000 in
theorem add_bad (no : Int) (hc : chk size a k = no) (hne : (no == 0) = false) :
  Calls Tryz.prog 94 #[.pointer (some ⟨wb, 0, none⟩), .int .u64 a] W fun e W' => e = .panicked [pan no] ∧ Below W.heap.size W W' := by
 have H := Lib.hid h
 have HM := Lib.hid hM
 obtain ⟨v, hr, ho, hp⟩ := h.ex
 have hwl := hr.lt
 have c0 : W.cell? ⟨wb, 0, none⟩ = some (.pointer (some ⟨b, 0, none⟩)) := hr.cell (i := 0) (by omega)
 have c4 : W.cell? ⟨wb, 4, none⟩ = some (.int .i64 s.left) := hr.cell (i := 4) (by omega)
 obtain ⟨lf, hlf⟩ : ∃ z, z = s.left := ⟨_, rfl⟩
 rw [← hlf] at c4 hl0 hl hk
 have hif : (if 4096 - a % 4096 < lf then 4096 - a % 4096 else lf) = k := by rw [← hk, Int.min_def]; split <;> split <;> omega
 have HIF := Lib.hid hif
 have HC := Lib.hid hc
 have hk0 : 0 ≤ k := by rw [← hif]; split <;> omega
 have hk1 : k ≤ 4096 := by rw [← hif]; split <;> omega
 have b0 : 0 ≤ a % 4096 := by omega
 have b1 : a % 4096 < 4096 := by omega
 clear hM h hr ho hp hk hif hc hlf
 go_enter Tryz.func94, Tryz.ntmps94
 go_upto_region 1 with fail
 rw [HIF.out]
 go_wp2_with (go_at_call 79; refine (check_is b B size f L a k no _ HM.out ha0 ha1 (by omega) (by omega) HC.out).mono ?_; rintro e w1 ⟨rfl, hb⟩; have H1 := Lib.hid hb; clear hb)
 refine (must1_bad _ _).mono ?_
 rintro e w' ⟨rfl, rfl⟩
 exact ⟨rfl, rfl, H1.out.alloc H1.out.size _⟩
set_option maxRecDepth 100000 in
set_option maxHeartbeats 4000000 in
theorem add_ok (hc : chk size a k = 0) (hol : s.out.length ≤ 1048576) :
  Calls Tryz.prog 94 #[.pointer (some ⟨wb, 0, none⟩), .int .u64 a] W fun e W' => e = .returned (.tuple #[]) ∧ Keeps (fun k => ¬ P k) W W' ∧ Wlk P wb W' (.pointer (some ⟨b, 0, none⟩)) ⟨s.list, s.fresh, s.left - k, s.out ++ [⟨a, k, false⟩]⟩ := by
 obtain ⟨i0, hi0, hz0, hz1, hz2⟩ := info_parts infoSp
 have H := Lib.hid h
 have HM := Lib.hid hM
 obtain ⟨v, hr, ho, hp⟩ := h.ex
 have hwl := hr.lt
 have c0 : W.cell? ⟨wb, 0, none⟩ = some (.pointer (some ⟨b, 0, none⟩)) := hr.cell (i := 0) (by omega)
 have c3 : W.cell? ⟨wb, 3, none⟩ = some v := hr.cell (i := 3) (by omega)
 have c4 : W.cell? ⟨wb, 4, none⟩ = some (.int .i64 s.left) := hr.cell (i := 4) (by omega)
 have f3 := hr.frozen 3
 have f4 := hr.frozen 4
 obtain ⟨lf, hlf⟩ : ∃ z, z = s.left := ⟨_, rfl⟩
 rw [← hlf] at c4 hl0 hl hk
 have hif : (if 4096 - a % 4096 < lf then 4096 - a % 4096 else lf) = k := by rw [← hk, Int.min_def]; split <;> split <;> omega
 have HIF := Lib.hid hif
 have HC := Lib.hid hc
 have HLF := Lib.hid hlf
 have HR := Lib.hid hr
 have HO := Lib.hid ho
 have HP := Lib.hid hp
 have hk0 : 0 ≤ k := by rw [← hif]; split <;> omega
 have hk1 : k ≤ 4096 := by rw [← hif]; split <;> omega
 have hk2 : k ≤ lf := by rw [← hif]; split <;> omega
 have b0 : 0 ≤ a % 4096 := by omega
 have b1 : a % 4096 < 4096 := by omega
 clear hM h hr ho hp hk hif hc hlf
 go_enter Tryz.func94, Tryz.ntmps94
 go_upto_region 1 with fail
 rw [HIF.out]
 go_upto_region 3 with (first
  | (go_at_call 79; refine (check_is b B size f L a k 0 _ HM.out ha0 ha1 (by omega) (by omega) HC.out).mono ?_; rintro e w1 ⟨rfl, hb⟩; have H1 := Lib.hid hb; clear hb)
  | (go_at_call 46; refine (must1_ok _ _).mono ?_; rintro e w' ⟨rfl, rfl⟩))
 obtain ⟨W1, hW1⟩ : ∃ z, z = w1.alloc (.cells #[.bool true] 4) := ⟨_, rfl⟩
 rw [← hW1]
 have hb1 : Below W.heap.size W W1 := by rw [hW1]; exact H1.out.alloc H1.out.size _
 have d3 : W1.cell? ⟨wb, 3, none⟩ = some v := (hb1.cell (p := ⟨wb, 3, none⟩) hwl).trans c3
 have HR1 := Lib.hid ((Keeps.of_below (S := fun _ => False) hb1).rowIs HR.out (fun e => e))
 have HO1 := Lib.hid (HO.out.kept (w' := W1) (row := none) ⟨hb1.os, hb1.tape, hb1.output, hb1.size, fun j hj _ => hb1.block j hj⟩ (by cases v.ownBlock <;> simp))
 have HB1 := Lib.hid hb1
 have hz1' := hb1.size
 have g3 : W1.frozen? ⟨wb, 3, none⟩ = false := HR1.out.frozen 3
 clear hW1 hb1 c0 c3 c4 f3 f4
 go_upto_region 4 with (at_builtin; refine wpList_append_lies _ rfl _ _ 32 rfl (wb + 1) 65 i0 _ 3 24 Tryz.underlying32 hi0 hz0 hz1 hz2 rfl (by decide) v s.out.length (spC s.out) rfl (HO1.out.alloc _) ⟨W1.heap.size, 0, none⟩ 1 1 [.int .u64 a, .int .i64 k, .bool false] rfl rfl (World.news_of_block (cs := #[.int .u64 a, .int .i64 k, .bool false]) (t := 65) (fr := (0, 0)) (heap_alloc_new W1 _)) (by simp [Value.oneCell']) (by decide) (by unfold maxLen; omega) (by omega) (by simp; omega) (W1.heap.size + 1) (by simp) ?_; intro gg cap w2 hown2 hgrow hat hlt; obtain ⟨k3, r3, o3, p3, b3⟩ := add_mid HR.out HO.out HP.out H.out.notg H.out.lt HB1.out hown2 hgrow (by simpa using hat); have x3 := (World.cell?_of_block (w := W1.alloc (.cells #[.int .u64 a, .int .i64 k, .bool false] 65)) (a := ⟨wb, 3, none⟩) (hgrow.block wb (by simp; omega) (fun e => by have := (HO.out.lt wb e.symm).1; omega))).trans ((World.cell?_alloc_lt _ _ _ (by show wb < _; omega)).trans d3); have y3 := (World.frozen?_of_block (w := W1.alloc (.cells #[.int .u64 a, .int .i64 k, .bool false] 65)) (a := ⟨wb, 3, none⟩) (hgrow.block wb (by simp; omega) (fun e => by have := (HO.out.lt wb e.symm).1; omega))).trans ((World.frozen?_of_block (w := W1) (a := ⟨wb, 3, none⟩) (Below.heap_alloc _ _ _ (by show wb < _; omega))).trans g3); have K3 := Lib.hid k3; have R3 := Lib.hid r3; have O3 := Lib.hid o3; have P3 := Lib.hid p3; clear k3 r3 o3 p3 b3 hown2 hgrow hat hlt)
 obtain ⟨nv, hnv⟩ : ∃ z, z = Value.slice (some ⟨gg, 0, none⟩) (s.out.length + 1) cap := ⟨_, rfl⟩
 rw [← hnv] at K3 R3 O3 P3 ⊢
 obtain ⟨W3, hW3⟩ : ∃ z, z = w2.setCell ⟨wb, 3, none⟩ nv := ⟨_, rfl⟩
 rw [← hW3] at K3 R3 O3 ⊢
 have t4 : W3.cell? ⟨wb, 4, none⟩ = some (.int .i64 lf) := by rw [HLF.out]; exact R3.out.cell (i := 4) (by omega)
 have y4 : W3.frozen? ⟨wb, 4, none⟩ = false := R3.out.frozen 4
 clear hW3 hnv x3 y3 HR1 HO1 d3 g3
 have l0 : 0 ≤ lf - k := by omega
 have l1 : lf - k ≤ 1048576 := by omega
 go_wp2_with fail
 go_end0
 rw [← HLF.out]
 refine ⟨rfl, K3.out.setCell (p := ⟨wb, 4, none⟩) (fun _ => H.out.notg) _, ⟨⟨nv, ?_, ?_, P3.out⟩, H.out.notg, fun j hj => Nat.lt_of_lt_of_le (H.out.lt j hj) (by have := K3.out.size; simpa using this)⟩⟩
 ·refine (R3.out.set 4 (.int .i64 (lf - k))).congr fun i hi => ?_
  unfold wcell
  by_cases e : i = 4
  ·subst e; rfl
  ·rw [if_neg e]
   by_cases e0 : i = 0
   ·subst e0; rfl
   ·by_cases e1 : i = 1
    ·subst e1; rfl
    ·by_cases e2 : i = 2
     ·subst e2; rfl
     ·obtain rfl : i = 3 := by omega
      rfl
 ·have hlen : (s.out ++ [({ a := a, n := k, bk := false } : Spn)]).length = s.out.length + 1 := by simp
  rw [hlen, spC_append]
  exact O3.out.kept (w' := W3.setCell ⟨wb, 4, none⟩ (.int .i64 (lf - k))) (row := some wb) ⟨rfl, rfl, rfl, by simp, fun j hj hne => Below.heap_setCell _ _ _ _ (fun e => hne (congrArg some e))⟩ (.inr (fun e => by have := (O3.out.lt wb e).1; omega))
end
end Go.Proofs.YtfmabknhfehdcaaGreat
