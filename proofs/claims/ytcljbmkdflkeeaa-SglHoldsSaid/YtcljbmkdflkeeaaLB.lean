/- sgl: the law's small functions: num, data, same, spans. -/
import Derived.Test.YtcljbmkdflkeeaaST
import Derived.Test.YtcljbmkdflkeeaaSN
import Derived.Test.YtcljbmkdflkeeaaMJ
import Derived.Laws.StructEq
namespace Go.Proofs.Ytcljbmkdflkeeaa
set_option linter.unusedVariables false
set_option linter.unusedSimpArgs false
open Go.RowKit

theorem num_any (x : Int) (w : World) : Calls Try.prog 13 #[.int .i64 x] w fun e w' => e = .returned (.int .i64 x) ∧ w = w' := by
  go_enter Try.func13, Try.ntmps13
  go_wp2
  go_ret
  exact ⟨rfl, rfl⟩

theorem build_data (a n : Int) (w : World) : (Instr.build 26 #[(0, .int .i64 1), (1, .int .u64 a), (2, .int .i64 n)]).run Try.prog w = .ok (.agg (⟨1, a, n, 0⟩ : Dsc).cells) w := by kernel_rfl
set_option maxRecDepth 100000 in
theorem data_any (a n : Int) (w : World) : Calls Try.prog 24 #[.int .u64 a, .int .i64 n] w fun e w' => e = .returned (.agg (⟨1, a, n, 0⟩ : Dsc).cells) ∧ Below w.heap.size w w' := by
  obtain ⟨A, hA⟩ : ∃ A, A = (⟨1, a, n, 0⟩ : Dsc).cells := ⟨_, rfl⟩
  have HS := Lib.hid (show A.size = 4 by rw [hA]; rfl)
  have H1 := Lib.hid (show A.all (·.oneCell') = true by rw [hA]; exact Dsc.one _)
  have HB := Lib.hid fun w => build_data a n w
  rw [← hA] at HB ⊢
  have HI := Lib.hid (show (Try.prog.info? 26).map (·.size) = some A.size by rw [HS.out]; exact sizeD)
  clear hA
  go_enter Try.func24, Try.ntmps24
  go_wp2_with (first
    | ((with_reducible show wpList _ _ _ (⟨some 4, _, _, _, _, _⟩ :: _) _ _); refine wpList_alloc rfl 26 rfl zeroD ?_; rw [show (Value.agg zDsc.cells).cells = zDsc.cells from rfl])
    | ((with_reducible show wpList _ _ _ (⟨some 7, _, _, _, _, _⟩ :: _) _ _); refine wpList_buildC rfl 26 #[(0, .const (.int .i64 1)), (1, .tmp 5), (2, .tmp 6)] rfl #[(0, .int .i64 1), (1, .int .u64 a), (2, .int .i64 n)] (by simp [Act.eval, Act.put]) (HB.out _) ?_)
    | ((with_reducible show wpList _ _ _ (⟨none, .store _ (.tmp 4) _, _, _, _, _⟩ :: _) _ _); refine wpList_storeA rfl (b := w.heap.size) (A := zDsc.cells) (A' := A) (ArrAt.fresh w zDsc.cells _ (by decide)) 26 (.tmp 4) (.tmp 7) rfl (by simp [Act.eval, Act.put]) (by simp [Act.eval, Act.put]) (sizeDs _) HS.out H1.out ?_))
  exact bodyPost_ret (results_c rfl _ _ _ ((ArrAt.fresh w zDsc.cells _ (by decide)).store A HS.out) rfl Try.underlying26 rfl HI.out) rfl ⟨rfl, bstore ((Below.refl _ _).alloc (Nat.le_refl _) _) _ (Nat.le_refl _) _ _⟩

/-- Spans lie at an address. -/
def SpAt (w : World) (ao : Option Addr) (l : List Spn) : Prop := ∀ i (h : i < l.length), ∃ g o, ao = some ⟨g, o, none⟩ ∧ w.rangeAt g (o + i * 3) (l[i]'h).l
theorem SpAt.nil (w : World) (ao : Option Addr) : SpAt w ao [] := fun i h => absurd h (by simp)
theorem rangeAt_below {w w' : World} {g o : Nat} {xs : List Value} {B : Nat} (h : w.rangeAt g o xs) (hb : Below B w w') (hg : g < B) : w'.rangeAt g o xs := fun j v hj => (hb.cell (p := ⟨g, o + j, none⟩) hg).trans (h j v hj)
theorem SpAt.lt {w : World} {g o : Nat} {l : List Spn} (h : SpAt w (some ⟨g, o, none⟩) l) (hl : 0 < l.length) : g < w.heap.size := by
  obtain ⟨g', o', e, hr⟩ := h 0 hl
  cases e
  exact World.block_lt_of_cell? _ _ (hr 0 _ rfl)
theorem SpAt.below {w w' : World} {ao : Option Addr} {l : List Spn} (h : SpAt w ao l) (hb : Below w.heap.size w w') : SpAt w' ao l := by
  intro i hi
  obtain ⟨g, o, e, hr⟩ := h i hi
  exact ⟨g, o, e, rangeAt_below hr hb (World.block_lt_of_cell? _ _ (hr 0 _ rfl))⟩
theorem spC_get : ∀ (l : List Spn) (i : Nat) (h : i < l.length) (j : Nat) (v : Value), (l[i]'h).l[j]? = some v → (spC l)[i * 3 + j]? = some v
  | x :: r, 0, _, j, v, hv => by
    show (x.l ++ spC r)[0 * 3 + j]? = _
    have hj : j < x.l.length := (List.getElem?_eq_some_iff.1 hv).1
    rw [Nat.zero_mul, Nat.zero_add, List.getElem?_append_left hj]
    exact hv
  | x :: r, i + 1, h, j, v, hv => by
    show (x.l ++ spC r)[(i + 1) * 3 + j]? = _
    have hx : x.l.length = 3 := rfl
    rw [List.getElem?_append_right (by rw [hx]; omega), hx, show (i + 1) * 3 + j - 3 = i * 3 + j by omega]
    exact spC_get r i (by simpa using h) j v hv
theorem spAt_owns {w : World} {base c : Nat} {ao : Option Addr} {l : List Spn} (h : w.ownsRow base 62 3 (.slice ao l.length c) l.length (spC l)) : SpAt w ao l := by
  intro i hi
  rcases h.2 with ⟨-, h1⟩ | ⟨g, cap, cur, e, hb, hg, rest⟩
  · omega
  · cases e
    refine ⟨g, 0, rfl, fun j v hv => ?_⟩
    have hc := h.cells (g := g) rfl
    have e1 := hc _ _ (spC_get l i hi j v hv)
    simp only [Addr.add_mid] at e1
    rw [Nat.zero_add]
    simpa using e1

theorem neqSp (a n : Int) (b : Bool) (w : World) : (binOp .neq 62 (.agg #[.int .u64 a, .int .i64 n, .bool b]) (.agg #[.int .u64 a, .int .i64 n, .bool b])).run Try.prog w = .ok (.bool false) w := by
  simp [go_sem]
theorem eqSp (a n : Int) (b : Bool) (w : World) : (Op.equalIn 10000 62 (.agg #[.int .u64 a, .int .i64 n, .bool b]) (.agg #[.int .u64 a, .int .i64 n, .bool b])).run Try.prog w = .ok true w := by
  simp [go_sem]
theorem exec_neq {P : Program} {o : Oper} {a : Act} {w : World} (t : TypeId) (x y : Operand) (rt : TypeId) (ho : o.op = .binOp .neq t x y rt) (v0 v1 : Value) (hx : a.eval x = v0) (hy : a.eval y = v1)
    (hg : (eqGuard .neq t x y v0 v1).run P w = .ok () w) {v : Value} (hb : (binOp .neq t v0 v1).run P w = .ok v w) : (execOp a.eval o).run P w = .ok (.value v) w := by
  unfold execOp
  simp only [ho, hx, hy]
  simp only [Sem.run_bind, hg, hb, Result.andThen_ok, Sem.run_pure]
theorem guardSp (i j : Nat) (X Y : Array Value) (w : World) : (eqGuard .neq 62 (.tmp i) (.tmp j) (.agg X) (.agg Y)).run Try.prog w = .ok () w := by kernel_rfl
set_option maxRecDepth 100000 in
set_option maxHeartbeats 2000000 in
theorem same_ok (ao bo : Option Addr) (l : List Spn) (c c2 : Nat) (w : World) (ha : SpAt w ao l) (hb : SpAt w bo l) (hl : l.length ≤ 9223372036854775807) :
    Calls Try.prog 33 #[.slice ao l.length c, .slice bo l.length c2] w fun e w' => e = .returned (.bool true) ∧ Below w.heap.size w w' := by
  obtain ⟨n, hn⟩ : ∃ n, n = l.length := ⟨_, rfl⟩
  have q1 : ((n : Int) != (n : Int)) = false := by simp
  have HAA := Lib.hid ha
  have HBB := Lib.hid hb
  rw [← hn] at hl ⊢
  have HN := Lib.hid hn
  clear ha hb hn
  go_enter Try.func33, Try.ntmps33
  go_wp2_with fail
  go_loopw [5] (fun i wr => ∃ k : Nat, k ≤ n ∧ i = .int .i64 (k : Nat) ∧ Below w.heap.size w wr) (fun i _ => n - (intOf i).toNat)
  case atStart => exact ⟨0, by omega, rfl, Below.refl _ _⟩
  case round =>
    obtain ⟨k, hk, rfl, hW⟩ := hrel
    have HW := Lib.hid hW
    clear hW
    by_cases hkn : k < n
    · have q3 : decide ((k : Int) < (n : Int)) = true := decide_eq_true (by omega)
      obtain ⟨ag, oa, rfl, hra⟩ := HAA.out k (by rw [← HN.out]; exact hkn)
      obtain ⟨bg, ob, rfl, hrb⟩ := HBB.out k (by rw [← HN.out]; exact hkn)
      have hla0 := HAA.out.lt (by rw [← HN.out]; omega)
      have hlb0 := HBB.out.lt (by rw [← HN.out]; omega)
      have hla : ag < wr.heap.size := Nat.lt_of_lt_of_le hla0 HW.out.size
      have hlb : bg < wr.heap.size := Nat.lt_of_lt_of_le hlb0 HW.out.size
      obtain ⟨X, hX⟩ : ∃ X : Array Value, X.toList = (l[k]'(by rw [← HN.out]; exact hkn)).l := ⟨⟨_⟩, rfl⟩
      have HSZ := Lib.hid (show (Try.prog.info? 62).map (·.size) = some X.size by rw [← Array.length_toList, hX]; exact sizeSp)
      have HNQ := Lib.hid (show ∀ w, (binOp .neq 62 (.agg X) (.agg X)).run Try.prog w = .ok (.bool false) w from fun w => by
        have e : X = ⟨(l[k]'(by rw [← HN.out]; exact hkn)).l⟩ := by rw [← hX]
        rw [e]; exact neqSp _ _ _ w)
      have HEQ := Lib.hid (show ∀ w, (Op.equalIn 10000 62 (.agg X) (.agg X)).run Try.prog w = .ok true w from fun w => by
        have e : X = ⟨(l[k]'(by rw [← HN.out]; exact hkn)).l⟩ := by rw [← hX]
        rw [e]; exact eqSp _ _ _ w)
      rw [← hX] at hra hrb
      have HRA := Lib.hid (rangeAt_below hra HW.out hla0)
      have HRB := Lib.hid (rangeAt_below hrb HW.out hlb0)
      clear hX hra hrb hla0 hlb0
      go_upto_region 6 with fail
      refine wp_region_held_drew (S := fun w' => Below wr.heap.size wr w') (by kernel_rfl) ((Below.refl _ wr).drew) (fun hS0 => ?_)
      refine takeD 17 (i := 0) (v := .slice (some ⟨ag, oa, none⟩) n c) rfl rfl (by kernel_rfl) (by kernel_rfl) (by kernel_rfl) (fun _ _ _ h => h) (Or.inl ⟨by rfl, by (intro w' _; go_simp)⟩) (by assumption) ?_
      try simp only [Act.put, List.setIfInBounds_toArray, List.set_cons_zero, List.set_cons_succ]
      refine takeD 18 (i := 1) (v := .int .i64 (k : Nat)) rfl rfl (by kernel_rfl) (by kernel_rfl) (by kernel_rfl) (fun _ _ _ h => h) (Or.inl ⟨by rfl, by (intro w' _; go_simp)⟩) (by assumption) ?_
      try simp only [Act.put, List.setIfInBounds_toArray, List.set_cons_zero, List.set_cons_succ]
      refine takeD 19 (i := 2) (v := .pointer (some ⟨ag, oa + k * 3, none⟩)) rfl rfl (by kernel_rfl) (by kernel_rfl) (by kernel_rfl) (fun _ _ _ h => h) (Or.inl ⟨by rfl, by (intro w' _; go_simp)⟩) (by assumption) ?_
      try simp only [Act.put, List.setIfInBounds_toArray, List.set_cons_zero, List.set_cons_succ]
      refine takeD 20 (i := 3) (v := .agg X) rfl rfl (by kernel_rfl) (by kernel_rfl) (by kernel_rfl) (fun _ _ _ h => h) (yieldsR (by rfl) 62 (.tmp 19) rfl (ag) (oa + k * 3) (by first | rfl | simp [Act.eval, Act.put]) X (fun w h => (rangeAt_below HRA.out h hla)) Try.underlying62 rfl HSZ.out) (by assumption) ?_
      try simp only [Act.put, List.setIfInBounds_toArray, List.set_cons_zero, List.set_cons_succ]
      refine takeD 21 (i := 4) (v := .slice (some ⟨bg, ob, none⟩) n c2) rfl rfl (by kernel_rfl) (by kernel_rfl) (by kernel_rfl) (fun _ _ _ h => h) (Or.inl ⟨by rfl, by (intro w' _; go_simp)⟩) (by assumption) ?_
      try simp only [Act.put, List.setIfInBounds_toArray, List.set_cons_zero, List.set_cons_succ]
      refine takeD 22 (i := 5) (v := .int .i64 (k : Nat)) rfl rfl (by kernel_rfl) (by kernel_rfl) (by kernel_rfl) (fun _ _ _ h => h) (Or.inl ⟨by rfl, by (intro w' _; go_simp)⟩) (by assumption) ?_
      try simp only [Act.put, List.setIfInBounds_toArray, List.set_cons_zero, List.set_cons_succ]
      refine takeD 23 (i := 6) (v := .pointer (some ⟨bg, ob + k * 3, none⟩)) rfl rfl (by kernel_rfl) (by kernel_rfl) (by kernel_rfl) (fun _ _ _ h => h) (Or.inl ⟨by rfl, by (intro w' _; go_simp)⟩) (by assumption) ?_
      try simp only [Act.put, List.setIfInBounds_toArray, List.set_cons_zero, List.set_cons_succ]
      refine takeD 24 (i := 7) (v := .agg X) rfl rfl (by kernel_rfl) (by kernel_rfl) (by kernel_rfl) (fun _ _ _ h => h) (yieldsR (by rfl) 62 (.tmp 23) rfl (bg) (ob + k * 3) (by first | rfl | simp [Act.eval, Act.put]) X (fun w h => (rangeAt_below HRB.out h hlb)) Try.underlying62 rfl HSZ.out) (by assumption) ?_
      try simp only [Act.put, List.setIfInBounds_toArray, List.set_cons_zero, List.set_cons_succ]
      refine takeD 25 (i := 8) (v := .bool false) rfl rfl (by kernel_rfl) (by kernel_rfl) (by kernel_rfl) (fun _ _ _ h => h) (Or.inl ⟨by rfl, by (intro w' _; exact exec_neq 62 (.tmp 20) (.tmp 24) _ rfl _ _ rfl rfl (guardSp _ _ _ _ _) (HNQ.out w'))⟩) (by assumption) ?_
      try simp only [Act.put, List.setIfInBounds_toArray, List.set_cons_zero, List.set_cons_succ]
      refine wpAnyH_done (by kernel_rfl) ?_ _
      go_wp2_with fail
      go_roundw
      case rel =>
        first
          | exact ⟨k + 1, by omega, by go_num, HW.out.drew⟩
          | ((repeat apply Exists.intro); exact ⟨⟨k + 1, by omega, by go_num, HW.out.drew⟩, rfl⟩)
      case measure => simp [intOf]; omega
    · obtain rfl : k = n := by omega
      have q3 : decide ((k : Int) < (k : Int)) = false := decide_eq_false (by omega)
      go_wp2_with fail
      go_ret
      exact ⟨rfl, HW.out⟩

/-- Spans of the law: what is wanted comes. -/
def SpW (R : Except Int (List Spn)) (no : Int) (n : Nat) (ao : Option Addr) (w : World) : Prop := match R with
  | .error e => e = no ∧ n = 0
  | .ok l => no = 0 ∧ n = l.length ∧ l.length ≤ 9223372036854775807 ∧ SpAt w ao l
set_option maxRecDepth 100000 in
set_option maxHeartbeats 2000000 in
theorem spansL_of (p : Option Addr) (d : Dsc) (m no : Int) (th : Bool) (R : Except Int (List Spn)) (ao : Option Addr) (n c : Nat) (w : World)
    (hsp : ∀ w', Below w.heap.size w w' → Calls Try.prog 32 #[.pointer p, .agg d.cells, .int .i64 m, .bool th] w' (SpPost w' R)) (hW : SpW R no n ao w) :
    Calls Try.prog 27 #[.pointer p, .agg d.cells, .int .i64 m, .bool th, .int .i64 no, .slice ao n c] w fun e w' => e = .returned (.bool true) ∧ Below w.heap.size w w' := by
  have HSP := Lib.hid hsp
  have HWW := Lib.hid hW
  obtain ⟨A, hA⟩ : ∃ A, A = d.cells := ⟨_, rfl⟩
  have HA4 := Lib.hid (show 0 < A.size by rw [hA]; exact Nat.succ_pos 3)
  have HSZ := Lib.hid (show (Try.prog.info? 26).map (·.size) = some A.size by rw [hA]; exact sizeD)
  rw [← hA] at HSP ⊢
  clear hsp hW hA
  go_enter Try.func27, Try.ntmps27
  go_upto_region 1 with fail
  obtain ⟨W0, hW0⟩ : ∃ z, z = w.alloc (.cells A 26) := ⟨_, rfl⟩
  rw [← hW0]
  have AD := Lib.hid (show ArrAt W0 w.heap.size A by rw [hW0]; exact ArrAt.fresh w A _ HA4.out)
  have B0 := Lib.hid (show Below w.heap.size w W0 by rw [hW0]; exact (Below.refl _ _).alloc (Nat.le_refl _) _)
  clear hW0
  have hsp := Lib.hid (HSP.out W0 B0.out)
  clear HSP
  cases R with
  | error e =>
    obtain ⟨rfl, rfl⟩ := HWW.out
    have q : (e == e) = true := by simp
    go_wp2_with (first
      | ((with_reducible show wpList _ _ _ (⟨some 17, _, _, _, _, _⟩ :: _) _ _); refine wpList_loadA rfl AD.out 26 (.tmp 7) rfl (by first | rfl | simp [Act.eval, Act.put]) Try.underlying26 rfl HSZ.out ?_)
      | (go_at_call 32; refine hsp.out.mono ?_; rintro e2 w1 ⟨hb1, rfl⟩; have B1 := Lib.hid hb1; clear hb1)
      | (go_at_call 33; refine (same_ok none ao [] 0 c _ (SpAt.nil _ _) (SpAt.nil _ _) (by simp)).mono ?_; rintro e3 w2 ⟨rfl, hb2⟩; have B2 := Lib.hid hb2; clear hb2)
      | (go_at_call 13; refine (num_any _ _).mono ?_; rintro e3 w3 ⟨rfl, rfl⟩))
    go_ret
    exact ⟨by simp, (B0.out.trans (B1.out.mono B0.out.size)).trans (B2.out.mono (Nat.le_trans B0.out.size B1.out.size))⟩
  | ok l =>
    obtain ⟨rfl, rfl, hl, hsa⟩ := HWW.out
    have HSA := Lib.hid (hsa.below B0.out)
    have HL := Lib.hid hl
    clear hsa hl HWW
    go_wp2_with (first
      | ((with_reducible show wpList _ _ _ (⟨some 17, _, _, _, _, _⟩ :: _) _ _); refine wpList_loadA rfl AD.out 26 (.tmp 7) rfl (by first | rfl | simp [Act.eval, Act.put]) Try.underlying26 rfl HSZ.out ?_)
      | (go_at_call 32; refine hsp.out.mono ?_; rintro e2 w1 ⟨hb1, v, rfl, hown⟩; obtain ⟨aw, cw, rfl, -⟩ := ownsRow_shape hown; have B1 := Lib.hid hb1; have HOW := Lib.hid (spAt_owns hown); clear hb1 hown)
      | (go_at_call 33; refine (same_ok aw ao l cw c _ HOW.out (HSA.out.below B1.out) HL.out).mono ?_; rintro e3 w2 ⟨rfl, hb2⟩; have B2 := Lib.hid hb2; clear hb2)
      | (go_at_call 13; refine (num_any _ _).mono ?_; rintro e3 w3 ⟨rfl, rfl⟩))
    go_ret
    exact ⟨by simp, (B0.out.trans (B1.out.mono B0.out.size)).trans (B2.out.mono (Nat.le_trans B0.out.size B1.out.size))⟩
end Go.Proofs.Ytcljbmkdflkeeaa
