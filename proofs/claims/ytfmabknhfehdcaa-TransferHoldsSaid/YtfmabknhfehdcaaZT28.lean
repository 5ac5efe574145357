/- sgl: Spans of any input. -/
import Derived.Test.YtfmabknhfehdcaaZT27
import Derived.Test.YtfmabknhfehdcaaZT1
namespace Go.Proofs.Ytfmabknhfehdcaa
set_option linter.unusedVariables false
set_option linter.unusedSimpArgs false
open Go.RowKit

theorem spans_any (d : Dsc) (n : Int) (th : Bool) (b B size : Nat) (f : Nat → Int) (L : List (Nat × Nat)) (w : World) (hM : MemAt w b B size f L) (hs : 0 < size) (hd : d.Ok) (hby : Bytes f) :
    Calls Try.prog 94 #[.pointer (some ⟨b, 0, none⟩), .agg d.cells, .int .i64 n, .bool th] w (SpPost w (spansM f size d n th)) := by
  by_cases hv : Vld d
  · by_cases h0 : 0 ≤ n
    · by_cases h1 : n ≤ 1048576
      · exact spans_loop d n th b B size f L w hM hs hd (decide_eq_true hv) hby (decide_eq_true h0) (decide_eq_true h1) _ (spansM_nxt hv h0 h1).symm
      · have e : spansM f size d n th = .error 2 := by unfold spansM; rw [if_pos (fun c => h1 c.2.2)]
        rw [e]
        exact spans_big d n th b B size f L w hM hs hd (decide_eq_true hv) (decide_eq_true h0) (decide_eq_false h1)
    · have e : spansM f size d n th = .error 2 := by unfold spansM; rw [if_pos (fun c => h0 c.2.1)]
      rw [e]
      exact spans_neg d n th b B size f L w hM hs hd (decide_eq_true hv) (decide_eq_false h0)
  · have e : spansM f size d n th = .error 2 := by unfold spansM; rw [if_pos (fun c => hv c.1)]
    rw [e]
    exact spans_inv d n th b B size f L w hM hs hd (decide_eq_false hv)
end Go.Proofs.Ytfmabknhfehdcaa

namespace Go.Proofs.Ytfmabknhfehdcaa
open Go.RowKit

/-- the bytes of a descriptor -/
def dscL (d : Dsc) : List Value := bytesL d.a 8 ++ bytesL (word1 d) 8
theorem dscL_length (d : Dsc) : (dscL d).length = 16 := by unfold dscL; rw [List.length_append, bytesL_length, bytesL_length]
def partL (xs : List Value) (x y : Int) (k : Nat) : List Value := if k = 0 then xs else if k = 1 then xs ++ bytesL x 8 else xs ++ (bytesL x 8 ++ bytesL y 8)
theorem idx0 (x y : Int) (w : World) : (Instr.index 25 (.agg #[.int .u64 x, .int .u64 y]) (.int .i64 0)).run Try.prog w = .ok (.int .u64 x) w := by kernel_rfl
theorem idx1 (x y : Int) (w : World) : (Instr.index 25 (.agg #[.int .u64 x, .int .u64 y]) (.int .i64 1)).run Try.prog w = .ok (.int .u64 y) w := by kernel_rfl
theorem word1_bd {d : Dsc} (h : Vld d) (ho : d.Ok) : 0 ≤ word1 d ∧ word1 d ≤ 18446744073709551615 := by
  obtain ⟨⟨h1, h2⟩, ⟨h3, h4⟩, h5, h6⟩ := h
  have k1 := ho.key.1
  have k2 := ho.key.2
  unfold lim at h4
  unfold word1
  split at h4
  · omega
  · have : d.key = 0 := by omega
    omega

section
variable (P : Nat → Prop) (bb : Nat) (xs : List Value) (d : Dsc) (W : World)
set_option maxRecDepth 100000 in
set_option maxHeartbeats 8000000 in
theorem bput_ok (h : Wr P bb W xs) (hd : d.Ok) (hv : Vld d) (k3 : (d.k != 3) = true) (k4 : (d.k != 4) = true) (hl : xs.length ≤ 100000) :
    Calls Try.prog 73 #[.agg d.cells, .pointer (some ⟨bb, 0, none⟩)] W fun e W' => e = .returned (.tuple #[]) ∧ Keeps (fun k => ¬ P k) W W' ∧ Wr P bb W' (xs ++ dscL d) := by
  have hi0 := idx0
  have hi1 := idx1
  obtain ⟨i0, hi, hz0, hz1, hz2⟩ := info_parts infoU8
  obtain ⟨W1, hW1, hb1, ha1, hs1⟩ := box_start d W
  have HE := Lib.hid fun w => encode_ok d w hd hv
  have c0 : W1.cell? ⟨W.heap.size, 0, none⟩ = some (.int .i64 d.k) := ha1.cell rfl
  have HA := Lib.hid ha1
  have HW1 := Lib.hid hW1
  have HWR := Lib.hid (h.below hb1)
  have HB1 := Lib.hid hb1
  have hx := hd.a
  have hy := word1_bd hv hd
  have HSZ := Lib.hid (show (Try.prog.info? 66).map (·.size) = some d.cells.size from sizeDs d)
  obtain ⟨x, ex⟩ : ∃ x, x = d.a := ⟨_, rfl⟩
  obtain ⟨y, ey⟩ : ∃ y, y = word1 d := ⟨_, rfl⟩
  have HDL := Lib.hid (show dscL d = bytesL x 8 ++ bytesL y 8 by rw [ex, ey]; rfl)
  obtain ⟨A, hA⟩ : ∃ A, A = d.cells := ⟨_, rfl⟩
  obtain ⟨dk, hdk⟩ : ∃ z, z = d.k := ⟨_, rfl⟩
  rw [← ex, ← ey] at HE
  rw [← ex] at hx
  rw [← ey] at hy
  rw [← hA] at HE HA HW1 HSZ ⊢
  rw [← hdk] at c0 k3 k4
  have HX := Lib.hid hx
  have HY := Lib.hid hy
  clear h hd hv hW1 hb1 ha1 hx hy ex ey hA hdk
  go_enter Try.func73, Try.ntmps73
  go_upto_region 1 with (fail)
  rw [← HW1.out]
  go_wp2_with (first
    | (go_at_call 72; refine (must_ok _ _).mono ?_; rintro e w' ⟨rfl, rfl⟩)
    | ((with_reducible show wpList _ _ _ (⟨some 14, _, _, _, _, _⟩ :: _) _ _); refine wpList_loadA rfl HA.out 66 (.tmp 2) rfl (by first | rfl | simp [Act.eval, Act.put]) Try.underlying66 rfl HSZ.out ?_)
    | (go_at_call 41; refine (HE.out _).mono ?_; rintro e w2 ⟨rfl, hb2⟩; have HW2 := Lib.hid (HWR.out.below hb2); have HB2 := Lib.hid (HB1.out.trans (hb2.mono (by omega))); clear hb2)
    | (go_at_call 74; refine (got_words _ _ _).mono ?_; rintro e w3 ⟨rfl, hb3⟩; have HW3 := Lib.hid (HW2.out.below hb3); have HB3 := Lib.hid (HB2.out.trans (hb3.mono HB2.out.size)); clear hb3))
  try simp only [Act.put, List.setIfInBounds_toArray, List.set_cons_succ, List.set_cons_zero]
  go_loopw [19] (fun i wr => ∃ k : Nat, k ≤ 2 ∧ i = .int .i64 (k : Nat) ∧ Keeps (fun k => ¬ P k) W wr ∧ Wr P bb wr (partL xs x y k)) (fun i _ => 2 - (intOf i).toNat)
  case atStart => exact ⟨0, by omega, rfl, Keeps.of_below HB3.out, HW3.out⟩
  case round =>
    clear HW1 HWR HB1 HE HA HSZ HW2 HB2 HW3 HB3 c0 k3 k4
    obtain ⟨k, hk, rfl, hK, hW⟩ := hrel
    have HK := Lib.hid hK
    have HWW := Lib.hid hW
    clear hK hW
    by_cases hk2 : k = 2
    · subst hk2
      go_wp2_with fail
      go_end0
      exact ⟨rfl, HK.out, by rw [HDL.out]; exact HWW.out⟩
    · have hkk : k = 0 ∨ k = 1 := by omega
      have hln : (partL xs x y k).length ≤ 200000 := by unfold partL; split; omega; split <;> simp [bytesL_length] <;> omega
      obtain ⟨z, hzz⟩ : ∃ z : Int, (k = 0 → z = x) ∧ (k = 1 → z = y) := by
        rcases hkk with e | e
        · exact ⟨x, fun _ => rfl, fun e2 => by omega⟩
        · exact ⟨y, fun e2 => by omega, fun _ => rfl⟩
      have hzb : 0 ≤ z ∧ z ≤ 18446744073709551615 := by
        rcases hkk with e | e
        · rw [hzz.1 e]; exact HX.out
        · rw [hzz.2 e]; exact HY.out
      have HNX := Lib.hid (show partL xs x y k ++ bytesL z 8 = partL xs x y (k + 1) by
        rcases hkk with e | e
        · rw [hzz.1 e, e]; rfl
        · rw [hzz.2 e, e]; show (xs ++ bytesL x 8) ++ bytesL y 8 = _; rw [List.append_assoc]; rfl)
      have HZ := Lib.hid hzz
      have HZB := Lib.hid hzb
      obtain ⟨ys, hys⟩ : ∃ ys, ys = partL xs x y k := ⟨_, rfl⟩
      rw [← hys] at HWW hln HNX
      obtain ⟨ao, nc, b0, o0, p0⟩ := HWW.out.form
      have f0 := HWW.out.fr
      have hbl := HWW.out.glt
      have HO := Lib.hid o0
      have HP := Lib.hid p0
      have HC := Lib.hid b0
      clear hzz hzb hys o0 p0
      rcases hkk with hkk | hkk
      all_goals
        have ez : z = _ := (by first | exact HZ.out.1 hkk | exact HZ.out.2 hkk)
        subst hkk
        subst ez
        go_upto_region 5 with fail
        go_region_law (first
          | (refine step_append_lies _ (by rfl) _ _ _ (by rfl) (bb + 1) 5 i0 _ 1 1 Try.underlying29 hi hz0 hz1 hz2 rfl (by decide) (.slice ao ys.length nc) ys.length ys (by rfl) HO4.out ⟨g1, 0, none⟩ 8 8 (bytesL z 8) (by rfl) (by rw [bytesL_length]) H8.out (bytesL_one z 8) (by decide) (by unfold maxLen; omega) (by omega) (by omega) w4.heap.size rfl ?_; intro gg cap w5 hown hgr hat hlt; obtain ⟨x5, y5, k5, r5⟩ := wr_mid HW4.out HC4.out HO4.out HP.out (bytesL_length z 8) hown hgr hat; have HK5 := Lib.hid k5; have HR5 := Lib.hid r5; clear k5 r5 hown hgr hat)
          | (rw [if_pos (by rfl)]; go_simp; go_at_call 76; refine (wput_ok z 8 _ (by omega) (by omega) HZB.out.1 HZB.out.2 (.inl rfl)).mono ?_; rintro e w4 ⟨g1, rfl, hg1, hb4, hr4⟩; have hb4' := (Below.refl wr.heap.size wr).drew.trans hb4; have b4 := (hb4'.cell (p := ⟨bb, 0, none⟩) hbl).trans b0; have f4 := (hb4'.frozen (p := ⟨bb, 0, none⟩) hbl).trans f0; have HW4 := Lib.hid (HWW.out.below hb4'); have HC4 := Lib.hid b4; have HK4 := Lib.hid (HK.out.trans (Keeps.of_below hb4')); have HO4 := Lib.hid (HO.out.kept (w' := w4) (row := none) ⟨hb4'.os, hb4'.tape, hb4'.output, hb4'.size, fun j hj _ => hb4'.block j hj⟩ (by cases (Value.slice ao ys.length nc).ownBlock <;> simp)); have H8 := Lib.hid (show ∀ j u, (bytesL z 8)[j]? = some u → w4.cell? ((⟨g1, 0, none⟩ : Addr).add j) = some u from fun j u hu => by have hj : j < 8 := (by rw [← bytesL_length z 8]; exact (List.getElem?_eq_some_iff.1 hu).1); rw [bytesL_get z 8 j hj] at hu; cases hu; rw [Addr.add_mid, Nat.zero_add]; exact hr4.cell hj); have hbl4 := HW4.out.glt; clear hb4 hb4' hr4)
          | (rw [if_pos (by rfl)]; go_simp; go_at_call 75; refine (got_bytes _ _).mono ?_; rintro e w' ⟨rfl, rfl⟩))
        all_goals
          go_wp2_with fail
          go_roundw
          case rel =>
            first
              | exact ⟨0 + 1, by omega, rfl, HK4.out.trans HK5.out, by rw [← HNX.out]; exact HR5.out⟩
              | exact ⟨1 + 1, by omega, rfl, HK4.out.trans HK5.out, by rw [← HNX.out]; exact HR5.out⟩
          case measure => simp [intOf]

set_option maxRecDepth 100000 in
set_option maxHeartbeats 4000000 in
theorem bput_inv (hd : d.Ok) (hv : ¬ Vld d) (k3 : (d.k != 3) = true) (k4 : (d.k != 4) = true) :
    Calls Try.prog 73 #[.agg d.cells, .pointer (some ⟨bb, 0, none⟩)] W fun e W' => e = .panicked [pan 2] ∧ Below W.heap.size W W' := by
  obtain ⟨W1, hW1, hb1, ha1, hs1⟩ := box_start d W
  have HE := Lib.hid fun w => encode_no d w hd hv
  have c0 : W1.cell? ⟨W.heap.size, 0, none⟩ = some (.int .i64 d.k) := ha1.cell rfl
  have HA := Lib.hid ha1
  have HW1 := Lib.hid hW1
  have HB1 := Lib.hid hb1
  have HSZ := Lib.hid (show (Try.prog.info? 66).map (·.size) = some d.cells.size from sizeDs d)
  obtain ⟨A, hA⟩ : ∃ A, A = d.cells := ⟨_, rfl⟩
  obtain ⟨dk, hdk⟩ : ∃ z, z = d.k := ⟨_, rfl⟩
  rw [← hA] at HE HA HW1 HSZ ⊢
  rw [← hdk] at c0 k3 k4
  clear hd hv hW1 hb1 ha1 hA hdk
  go_enter Try.func73, Try.ntmps73
  go_upto_region 1 with (fail)
  rw [← HW1.out]
  go_wp2_with (first
    | (go_at_call 72; refine (must_ok _ _).mono ?_; rintro e w' ⟨rfl, rfl⟩)
    | ((with_reducible show wpList _ _ _ (⟨some 14, _, _, _, _, _⟩ :: _) _ _); refine wpList_loadA rfl HA.out 66 (.tmp 2) rfl (by first | rfl | simp [Act.eval, Act.put]) Try.underlying66 rfl HSZ.out ?_)
    | (go_at_call 41; refine (HE.out _).mono ?_; rintro e w2 ⟨rfl, hb2⟩; have HB2 := Lib.hid (HB1.out.trans (hb2.mono (by omega))); clear hb2))
  refine (got_words_bad _ rfl 2 rfl _).mono ?_
  rintro e w3 ⟨rfl, hb3⟩
  exact ⟨rfl, rfl, HB2.out.trans (hb3.mono HB2.out.size)⟩

set_option maxRecDepth 100000 in
set_option maxHeartbeats 4000000 in
theorem bput_seg (hk : d.k = 3 ∨ d.k = 4) :
    Calls Try.prog 73 #[.agg d.cells, .pointer (some ⟨bb, 0, none⟩)] W fun e W' => e = .panicked [pan 2] ∧ Below W.heap.size W W' := by
  obtain ⟨W1, hW1, hb1, ha1, hs1⟩ := box_start d W
  have c0 : W1.cell? ⟨W.heap.size, 0, none⟩ = some (.int .i64 d.k) := ha1.cell rfl
  have HW1 := Lib.hid hW1
  have HB1 := Lib.hid hb1
  obtain ⟨A, hA⟩ : ∃ A, A = d.cells := ⟨_, rfl⟩
  rw [← hA] at HW1 ⊢
  clear hW1 hb1 ha1 hA
  rcases hk with hk | hk
  all_goals
    rw [hk] at c0
    clear hk
    go_enter Try.func73, Try.ntmps73
    go_upto_region 1 with (fail)
    rw [← HW1.out]
    go_wp2_with fail
    refine (must_bad _ _).mono ?_
    rintro e w' ⟨rfl, rfl⟩
    exact ⟨rfl, rfl, HB1.out⟩
end
end Go.Proofs.Ytfmabknhfehdcaa

namespace Go.Proofs.Ytfmabknhfehdcaa
open Go.RowKit

theorem bld_results (tmps : Array Value) (w : World) (db eb : Nat) (A : Array Value) (x : Int) (h2 : tmps.getD 6 undef = .pointer (some ⟨db, 0, none⟩)) (h3 : tmps.getD 7 undef = .pointer (some ⟨eb, 0, none⟩))
    (ha : ArrAt w db A) (hs : A.size = 4) (he : w.cell? ⟨eb, 0, none⟩ = some (.int .i64 x)) :
    (results Try.f38 tmps).run Try.prog w = .ok (.tuple #[.agg A, .int .i64 x]) w := by
  have h2' : tmps[6]?.getD undef = .pointer (some ⟨db, 0, none⟩) := by simpa using h2
  have h3' : tmps[7]?.getD undef = .pointer (some ⟨eb, 0, none⟩) := by simpa using h3
  have hl := ha.loadVar (P := Try.prog) Try.underlying66 rfl (by rw [hs]; exact sizeD)
  have hl2 : (loadVar 50 ⟨eb, 0, none⟩).run Try.prog w = .ok (.int .i64 x) w := by simp [go_sem, he]
  simp only [results, Try.results38]
  simp [Sem.run_bind, Result.andThen, h2', h3', asAddr, hl, hl2]
/-- the deferred call -/
def sdfrB (db eb : Nat) : Deferred := { target := .fn (.func 70) #[], args := #[.pointer (some ⟨eb, 0, none⟩), .func (.func 71) #[] #[.pointer (some ⟨db, 0, none⟩)]] }
theorem bld_bad (tmps : Array Value) (w : World) (db eb : Nat) (d : Dsc) (x no : Int) (R : Ending → World → Prop) (h2 : tmps.getD 6 undef = .pointer (some ⟨db, 0, none⟩)) (h3 : tmps.getD 7 undef = .pointer (some ⟨eb, 0, none⟩))
    (ha : ArrAt w db d.cells) (he : w.cell? ⟨eb, 0, none⟩ = some (.int .i64 x)) (hz' : w.frozen? ⟨eb, 0, none⟩ = false) (hne : eb ≠ db)
    (hR : ∀ w', Keeps (Two db eb) w w' → R (.returned (.tuple #[.agg zDsc.cells, .int .i64 no])) w') :
    bodyPostD Try.prog Try.f38 R (Exit.panic [pan no]) { tmps := tmps, defers := [sdfrB db eb] } w := by
  show Leaves Try.prog Try.f38 tmps R [sdfrB db eb] (.panicking [pan no]) w
  refine leaves_cons (f := 70) (args := #[.pointer (some ⟨eb, 0, none⟩), .func (.func 71) #[] #[.pointer (some ⟨db, 0, none⟩)]]) (by simp) (by simp [go_sem]) ?_
  refine (scaught_panicking 71 db eb _ _ x no w (sclears_build db) ⟨d, ha⟩ he hz' hne (fun a b h k => h.kept k (fun e => hne (Eq.symm e)))).mono ?_
  rintro e u' w'' ⟨rfl, rfl, hk, hc, hc2⟩
  show Leaves Try.prog Try.f38 tmps R [] .returning w''
  exact ⟨_, bld_results tmps w'' db eb _ no h2 h3 hc rfl hc2, hR w'' hk⟩
theorem bld_good (tmps : Array Value) (w : World) (db eb : Nat) (A : Array Value) (x : Int) (R : Ending → World → Prop) (h2 : tmps.getD 6 undef = .pointer (some ⟨db, 0, none⟩)) (h3 : tmps.getD 7 undef = .pointer (some ⟨eb, 0, none⟩))
    (ha : ArrAt w db A) (hs : A.size = 4) (he : w.cell? ⟨eb, 0, none⟩ = some (.int .i64 x)) (hR : R (.returned (.tuple #[.agg A, .int .i64 x])) w) :
    bodyPostD Try.prog Try.f38 R Exit.ret { tmps := tmps, defers := [sdfrB db eb] } w := by
  show Leaves Try.prog Try.f38 tmps R [sdfrB db eb] .returning w
  refine leaves_cons (f := 70) (args := #[.pointer (some ⟨eb, 0, none⟩), .func (.func 71) #[] #[.pointer (some ⟨db, 0, none⟩)]]) (by simp) (by simp [go_sem]) ?_
  refine (scaught_idle _ _ w).mono ?_
  rintro e u' w'' ⟨rfl, rfl, rfl⟩
  show Leaves Try.prog Try.f38 tmps R [] .returning _
  exact ⟨_, bld_results tmps _ db eb A x h2 h3 ha hs he, hR⟩

/-- What lies in memory while Build runs: its results. -/
structure sBSt (w W : World) : Prop where
  below : Below w.heap.size w W
  dsc : ArrAt W w.heap.size zDsc.cells
  err : W.cell? ⟨w.heap.size + 1, 0, none⟩ = some (.int .i64 0)
  efz : W.frozen? ⟨w.heap.size + 1, 0, none⟩ = false
namespace sBSt
variable {w W W' : World}
theorem lt (h : sBSt w W) : w.heap.size + 1 < W.heap.size := World.block_lt_of_cell? _ _ h.err
theorem kept {S : Nat → Prop} (h : sBSt w W) (k : Keeps S W W') (hS : ∀ j, j ≤ w.heap.size + 1 → ¬ S j) : sBSt w W' := by
  have hl := h.lt
  refine ⟨h.below.trans (k.below h.below.size (fun j hj => hS j (by omega))), h.dsc.kept k (hS _ (by omega)), k.cell h.err (hS _ (by simp)), ?_⟩
  rw [World.frozen?_of_block (a := ⟨w.heap.size + 1, 0, none⟩) (k.block (w.heap.size + 1) (by omega) (hS _ (by omega)))]
  exact h.efz
theorem beyond (h : sBSt w W) (hb : Below W.heap.size W W') : sBSt w W' := h.kept (Keeps.of_below (S := fun _ => False) hb) (fun _ _ e => e)
end sBSt
theorem sbst_start (w : World) : sBSt w ((w.alloc (.cells zDsc.cells 66)).alloc (.cells #[.int .i64 0] 50)) := by
  refine ⟨((Below.refl _ w).alloc (Nat.le_refl _) _).alloc (by simp) _, (ArrAt.fresh w zDsc.cells _ (by decide)).alloc _, ?_, ?_⟩
  all_goals go_simp
theorem sbl_bad {w W : World} {no : Int} {tmps : Array Value} {R : Ending → World → Prop} (S : sBSt w W) (h8 : tmps.getD 6 undef = .pointer (some ⟨w.heap.size, 0, none⟩)) (h9 : tmps.getD 7 undef = .pointer (some ⟨w.heap.size + 1, 0, none⟩))
    (hR : ∀ w', Below w.heap.size w w' → R (.returned (.tuple #[.agg zDsc.cells, .int .i64 no])) w') :
    bodyPostD Try.prog Try.f38 R (Exit.panic [pan no]) { tmps := tmps, defers := [sdfrB w.heap.size (w.heap.size + 1)] } W :=
  bld_bad tmps W _ _ zDsc 0 no _ h8 h9 S.dsc S.err S.efz (by omega) fun w' k => hR w' (S.below.trans (k.below (B := w.heap.size) S.below.size (fun j hj e => by rcases e with e | e <;> omega)))

/-- A list of descriptors lies at ao. -/
def DAt (w : World) (ao : Option Addr) (n : Nat) (l : Nat → Dsc) : Prop := ∀ i, i < n → ∃ g o, ao = some ⟨g, o, none⟩ ∧ w.rangeAt g (o + i * 4) (l i).cells.toList
theorem DAt.below {w w' : World} {ao : Option Addr} {n : Nat} {l : Nat → Dsc} {B : Nat} (h : DAt w ao n l) (hb : Below B w w') (hB : ∀ g o, ao = some ⟨g, o, none⟩ → g < B) : DAt w' ao n l := by
  intro i hi
  obtain ⟨g, o, e, hr⟩ := h i hi
  refine ⟨g, o, e, fun j v hj => ?_⟩
  rw [hb.cell (p := ⟨g, o + i * 4 + j, none⟩) (hB g o e)]
  exact hr j v hj
theorem DAt.lt {w : World} {ao : Option Addr} {n : Nat} {l : Nat → Dsc} (h : DAt w ao n l) (hn : 0 < n) : ∃ g o, ao = some ⟨g, o, none⟩ ∧ g < w.heap.size := by
  obtain ⟨g, o, e, hr⟩ := h 0 hn
  exact ⟨g, o, e, World.block_lt_of_cell? _ _ (hr 0 _ rfl)⟩
def Good (d : Dsc) : Prop := Vld d ∧ d.k ≠ 3 ∧ d.k ≠ 4
instance (d : Dsc) : Decidable (Good d) := by unfold Good; infer_instance
/-- the bytes of the first k -/
def flatD (l : Nat → Dsc) : Nat → List Value
  | 0 => []
  | k + 1 => flatD l k ++ dscL (l k)
theorem flatD_length (l : Nat → Dsc) (k : Nat) : (flatD l k).length = 16 * k := by
  induction k with
  | zero => rfl
  | succ k ih => show (flatD l k ++ dscL (l k)).length = _; rw [List.length_append, ih, dscL_length]; omega
/-- byte j of a list -/
def lstB (l : Nat → Dsc) (j : Nat) : Int := if j % 16 < 8 then byteOf (l (j / 16)).a (j % 16) else byteOf (word1 (l (j / 16))) (j % 16 - 8)
theorem dscL_get (d : Dsc) (j : Nat) (h : j < 16) : (dscL d)[j]? = some (.int .u8 (if j < 8 then byteOf d.a j else byteOf (word1 d) (j - 8))) := by
  unfold dscL
  by_cases h8 : j < 8
  · rw [List.getElem?_append_left (by rw [bytesL_length]; exact h8), bytesL_get _ _ _ h8, if_pos h8]
  · rw [List.getElem?_append_right (by rw [bytesL_length]; omega), bytesL_length, bytesL_get _ _ _ (by omega), if_neg h8]
theorem flatD_get (l : Nat → Dsc) (k j : Nat) (h : j < 16 * k) : (flatD l k)[j]? = some (.int .u8 (lstB l j)) := by
  induction k with
  | zero => omega
  | succ k ih =>
    show (flatD l k ++ dscL (l k))[j]? = _
    by_cases hj : j < 16 * k
    · rw [List.getElem?_append_left (by rw [flatD_length]; exact hj)]
      exact ih hj
    · rw [List.getElem?_append_right (by rw [flatD_length]; omega), flatD_length, dscL_get _ _ (by omega)]
      unfold lstB
      have e1 : j / 16 = k := by omega
      have e2 : j % 16 = j - 16 * k := by omega
      rw [e1, e2]
end Go.Proofs.Ytfmabknhfehdcaa
