/- completion: the law CompletionCodes. -/
import Derived.Test.YtiinjjfggmmkmaaKn
namespace Go.Proofs.Ytiinjjfggmmkmaa
set_option linter.unusedVariables false
set_option linter.unusedSimpArgs false
open Go.RowKit Go.Shelf
attribute [local go_sem] Oper.semAt_some

/-- What the law's own blocks hold. -/
structure LL (w : World) (many : Int) (g3 gw : Nat) (W : World) : Prop where
  below : Below w.heap.size w W
  c1 : W.cell? ⟨w.heap.size, 0, none⟩ = some (.int .i64 many)
  r2 : W.rowIs (w.heap.size + 1) 4 1 (fun _ => .bool false)
  c3 : W.cell? ⟨g3, 0, none⟩ = some (.slice (some ⟨gw, 0, none⟩) 84 84)
  rw : W.rowIs gw 3 84 (fun i => .int .i64 (codeAt i))
theorem LL.kept {w : World} {many : Int} {g3 gw : Nat} {W W' : World} {S : Nat → Prop} (h : LL w many g3 gw W) (k : Keeps S W W') (hS : ∀ j, j < W.heap.size → ¬ S j) : LL w many g3 gw W' :=
  ⟨h.below.trans (k.below (B := w.heap.size) h.below.size (fun j hj => hS j (by have := h.below.size; omega))), k.cell h.c1 (hS _ (World.block_lt_of_cell? _ _ h.c1)), k.rowIs h.r2 (hS _ h.r2.lt), k.cell h.c3 (hS _ (World.block_lt_of_cell? _ _ h.c3)), k.rowIs h.rw (hS _ h.rw.lt)⟩
theorem LL.go {w : World} {many : Int} {g3 gw : Nat} {W W' : World} (h : LL w many g3 gw W) (k : Below W.heap.size W W') : LL w many g3 gw W' := h.kept (Keeps.of_below (S := fun _ => False) k) (fun _ _ e => e)
theorem lists_end {w W : World} {D0 D1 : Nat} {many : Int} {g3 gw : Nat} (h : LL w many g3 gw W) (h0 : w.heap.size ≤ D0) (h1 : w.heap.size ≤ D1) (hne : D0 ≠ D1) (k0 : W.heap[D0]? = some (.deferred (some []))) (k1 : W.heap[D1]? = some (.deferred (some []))) :
    ∃ W1 W2, W1 = (W.setCell ⟨w.heap.size + 1, 0, none⟩ (.bool true)) ∧ W1.heap[D1]? = some (.deferred (some [])) ∧ (W1.putObj D1 (.deferred none)).heap[D0]? = some (.deferred (some [])) ∧ W2 = (W1.putObj D1 (.deferred none)).putObj D0 (.deferred none) ∧
      W2.cell? ⟨w.heap.size + 1, 0, none⟩ = some (.bool true) ∧ Below w.heap.size w W2 := by
  have e3 := h.r2.cell (i := 0) (by omega)
  have q1 := (KeepsOthers.setCell W ⟨w.heap.size + 1, 0, none⟩ (.bool true)).same D1 _ k1 rfl
  have q0 := (KeepsOthers.setCell W ⟨w.heap.size + 1, 0, none⟩ (.bool true)).same D0 _ k0 rfl
  have p0 : ((W.setCell ⟨w.heap.size + 1, 0, none⟩ (.bool true)).putObj D1 (.deferred none)).heap[D0]? = some (.deferred (some [])) := (World.putObj_heap_other hne).trans q0
  have hc := World.cell?_setCell_same' W ⟨w.heap.size + 1, 0, none⟩ (.bool true) (by rw [e3]; rfl)
  have hb := h.below.setCell (p := ⟨w.heap.size + 1, 0, none⟩) (by show w.heap.size ≤ w.heap.size + 1; omega) (.bool true)
  exact ⟨_, _, rfl, q1, p0, rfl, cell_kept (cell_kept hc (grownBy_putObj' _ D1 (.deferred none)) (fun r e => by cases e; exact ⟨_, q1, rfl⟩)) (grownBy_putObj' _ D0 (.deferred none)) (fun r e => by cases e; exact ⟨_, p0, rfl⟩),
    (hb.trans (belowK_b (w := w) (Nat.le_refl _) _ D1 _ _ h1 q1 rfl rfl)).trans (belowK_b (w := w) (Nat.le_refl _) _ D0 _ _ h0 p0 rfl rfl)⟩
/-- What lies in memory between two rounds of the range: what lay there when the loop began; the counters of the loop and of the range; the mark of the round before. -/
structure EachI (W8 : World) (g17 g18 : Nat) (t k : Nat) (dd : Option Nat) (W : World) : Prop where
  keep : Keeps (fun j => W8.heap.size ≤ j) W8 W
  r17 : W.rowIs g17 3 1 (fun _ => .int .i64 t)
  r18 : W.rowIs g18 3 1 (fun _ => .int .i64 k)
  mark : ∀ D, dd = some D → W.heap[D]? = some (.deferred (some []))
theorem EachI.quiet {W8 A B : World} {N g17 g18 t k : Nat} {dd : Option Nat} (h : EachI W8 g17 g18 t k dd A) (q : Quiet N A B) (hN : W8.heap.size ≤ N) (hd : ∀ D, dd = some D → D < N) : EachI W8 g17 g18 t k dd B :=
  ⟨q.keeps h.keep hN, q.rowIs h.r17, q.rowIs h.r18, fun D e => (q.old D (hd D e) (lt_of_block (h.mark D e))).trans (h.mark D e)⟩
theorem EachI.below {W8 A B : World} {g17 g18 t k : Nat} {dd : Option Nat} (h : EachI W8 g17 g18 t k dd A) (q : Below A.heap.size A B) : EachI W8 g17 g18 t k dd B := by
  have kk : Keeps (fun _ => False) A B := Keeps.of_below q
  exact ⟨h.keep.trans (kk.mono fun j _ e => e.elim), kk.rowIs h.r17 (fun e => e), kk.rowIs h.r18 (fun e => e), fun D e => (q.block D (lt_of_block (h.mark D e))).trans (h.mark D e)⟩
theorem EachI.step {W8 W : World} {g17 g18 t k : Nat} {dd : Option Nat} (h : EachI W8 g17 g18 t k dd W) (h8 : W8.heap.size ≤ g18) (h7 : g17 ≠ g18) (hd : ∀ D, dd = some D → D ≠ g18) :
    EachI W8 g17 g18 t (k + 1) dd (W.setCell ⟨g18, 0, none⟩ (.int .i64 ((k : Int) + 1))) := by
  have hk : Keeps (One g18) W (W.setCell ⟨g18, 0, none⟩ (.int .i64 ((k : Int) + 1))) := (Keeps.refl _ _).set1 _ _
  refine ⟨h.keep.trans (hk.mono fun j _ e => by have e : j = g18 := e; show W8.heap.size ≤ j; omega), hk.rowIs h.r17 (fun e => h7 e), ?_, fun D e => ?_⟩
  · exact (World.rowIs.set (w := W) h.r18 0 _).congr fun i hi => by
      have : i = 0 := by omega
      subst this; rfl
  · exact (hk.block D (lt_of_block (h.mark D e)) (fun e' => hd D e e')).trans (h.mark D e)
/-- between two rounds: the first turn may be left when many were seen -/
def EachJ (W8 : World) (g17 g18 : Nat) (t : Nat) (dd : Option Nat) (many : Int) (pre : List Nat) (W : World) : Prop :=
  (t = 0 → pre.length = 0 ∨ (pre.length : Int) < many) ∧ EachI W8 g17 g18 t pre.length dd W
/-- behind a round that left -/
def EachX (W8 : World) (g17 g18 : Nat) (t : Nat) (dd : Option Nat) (many : Int) (n : Nat) (cd : Code) (pre : List Nat) (W : World) : Prop :=
  (cd = .ret ∧ pre ≠ List.range pre.length) ∨ (cd = .exit 2 ∧ t = 0 ∧ pre.length ≤ n ∧ many ≤ pre.length ∧ 1 ≤ pre.length ∧ (pre.length = 1 ∨ (pre.length : Int) - 1 < many) ∧ EachI W8 g17 g18 t pre.length dd W)
/-- what a round's body is told -/
def EachA (a : Act) (j : Nat) (a' : Act) (_ : World) : Prop :=
  a' = { tmps := (((a.tmps.setIfInBounds 18 (.int .i64 (j : Nat))).setIfInBounds 19 (.int .u16 (codeAt j))).setIfInBounds 7 (.int .i64 (j : Nat))).setIfInBounds 8 (.int .u16 (codeAt j)), defers := [] }
theorem codeAt_bd (i : Nat) : 0 ≤ codeAt i ∧ codeAt i ≤ 65535 := by
  unfold codeAt
  have : ∀ x ∈ codesL, 0 ≤ x ∧ x ≤ 65535 := by decide +kernel
  by_cases hi : i < codesL.length
  · rw [List.getD_eq_getElem?_getD, List.getElem?_eq_getElem hi]
    exact this _ (List.getElem_mem hi)
  · rw [List.getD_eq_getElem?_getD, List.getElem?_eq_none (by omega)]
    exact ⟨by decide, by decide⟩

set_option maxRecDepth 100000 in
set_option maxHeartbeats 16000000 in
theorem codesLaw (many : Int) (w : World) (hmy : (Lit.int .i64 many).wf = true) :
    Calls Try.prog 4 #[.int .i64 many] w fun e w' => e = .returned (.bool true) ∧ Below w.heap.size w w' := by
  obtain ⟨y0, y1⟩ := wf_i64 hmy
  have HKN := Lib.hid known_any
  have HRC := Lib.hid rcodes_any
  have HSTP := Lib.hid (codes1_stops 8 (by omega))
  clear hmy
  refine calls_marks Try.func4 rfl ?_
  simp only [Try.ntmps4, List.size_toArray, List.length_cons, List.length_nil, Nat.reduceAdd, Nat.reduceSub, Array.replicate_succ, Array.replicate_zero, List.push_toArray, List.append_toArray, List.nil_append, List.cons_append]
  go_upto_region 1 with (fail)
  obtain ⟨W0, hW⟩ : ∃ z, z = (w.alloc (.cells #[.int .i64 many] 3)).alloc (.cells #[.bool false] 4) := ⟨_, rfl⟩
  rw [← hW]
  have hb0 : Below w.heap.size w W0 := by rw [hW]; exact ((Below.refl _ _).alloc (Nat.le_refl _) _).alloc (by simp) _
  have hc1 : W0.cell? ⟨w.heap.size, 0, none⟩ = some (.int .i64 many) := by rw [hW]; go_simp
  have hr2 : W0.rowIs (w.heap.size + 1) 4 1 (fun _ => .bool false) := by
    rw [hW]
    have h := World.rowIs_alloc (w.alloc (.cells #[.int .i64 many] 3)) #[.bool false] 4 (fun _ => .bool false) (fun i hi => by simp at hi; subst hi; rfl)
    simp only [World.size_alloc] at h
    exact h
  have HS0 := Lib.hid (show W0.heap.size = w.heap.size + 2 by rw [hW]; simp)
  have B0 := Lib.hid hb0
  have C10 := Lib.hid hc1
  have R20 := Lib.hid hr2
  clear hW hb0 hc1 hr2
  go_upto_region 2 with (go_at_call 14; refine (HRC.out _).mono ?_; rintro e w1 ⟨⟨gw, rfl, hg, hc⟩, hb⟩; have RW := Lib.hid hc; have B1 := Lib.hid hb; have hgw := hg; clear hc hb hg)
  obtain ⟨W2, hW⟩ : ∃ z, z = w1.alloc (.cells #[.slice (some ⟨gw, 0, none⟩) 84 84] 31) := ⟨_, rfl⟩
  rw [← hW]
  have hb2 : Below w1.heap.size w1 W2 := by rw [hW]; exact (Below.refl _ _).alloc (Nat.le_refl _) _
  have hc3 : W2.cell? ⟨w1.heap.size, 0, none⟩ = some (.slice (some ⟨gw, 0, none⟩) 84 84) := by rw [hW]; go_simp
  obtain ⟨g3, hg3⟩ : ∃ z, z = w1.heap.size := ⟨_, rfl⟩
  rw [← hg3] at hc3 ⊢
  have hb02 : Below W0.heap.size W0 W2 := B1.out.trans (hb2.mono B1.out.size)
  have k02 : Keeps (fun _ => False) W0 W2 := Keeps.of_below hb02
  have E2 := Lib.hid (show LL w many g3 gw W2 from ⟨B0.out.trans (hb02.mono B0.out.size), k02.cell C10.out (fun e => e), k02.rowIs R20.out (fun e => e), hc3, (Keeps.of_below (S := fun _ => False) hb2).rowIs RW.out (fun e => e)⟩)
  have HS2 := Lib.hid (show w.heap.size + 2 ≤ W2.heap.size by have := hb02.size; have := HS0.out; omega)
  have hfn : ∀ (w : World), (binOp .eql 34 (.func (.func 31) #[] #[]) .nilFunc).run Try.prog w = .ok (.bool false) w := fun _ => by first | rfl | kernel_rfl
  clear hW hb2 hc3 hg3 hb02 k02 B0 C10 R20 RW B1 hgw
  go_upto_region 5 with (go_at_call 15; refine (codes_any _).mono ?_; rintro e w' ⟨rfl, hww⟩; obtain rfl : W2 = w' := hww.symm)
  obtain ⟨W8, hW⟩ : ∃ z, z = W2.alloc (.cells #[.int .i64 0] 3) := ⟨_, rfl⟩
  have hb8 : Below W2.heap.size W2 W8 := by rw [hW]; exact (Below.refl _ _).alloc (Nat.le_refl _) _
  have HS8 := Lib.hid (show W8.heap.size = W2.heap.size + 1 by rw [hW]; simp)
  have r17 : W8.rowIs W2.heap.size 3 1 (fun _ => .int .i64 (0 : Nat)) := by rw [hW]; exact World.rowIs_alloc W2 #[.int .i64 0] 3 _ (fun i hi => by simp at hi; subst hi; rfl)
  have E8 := Lib.hid (E2.out.go hb8)
  have hw8 : w.heap.size + 2 < W8.heap.size := by have := HS2.out; have := HS8.out; omega
  obtain ⟨g17, hg17⟩ : ∃ z, z = W2.heap.size := ⟨_, rfl⟩
  have hg178 : g17 < W8.heap.size := by have := HS8.out; omega
  rw [← hg17] at r17
  go_wp2_with fail
  rw [← hW, ← hg17]
  have R17 := Lib.hid r17
  have F0 := Lib.hid (show Keeps (fun j => W8.heap.size ≤ j) W8 W8 from Keeps.refl _ _)
  clear hW hb8 r17 hg17 E2 hfn
  refine wp_loop_rounds 3 ?_
  rw [rounds_succ]
  obtain ⟨M, hM⟩ : ∃ z, z = (if 1 < many then many else 1) := ⟨_, rfl⟩
  obtain ⟨K0, hK0⟩ : ∃ z : Nat, (z : Int) = (if M < 84 then M else 84) := ⟨(if M < 84 then M else 84).toNat, by split <;> (rw [Int.toNat_of_nonneg]; (have : 1 ≤ M := by (rw [hM]; split <;> omega)); omega)⟩
  have HK0 := Lib.hid (show ∀ k : Nat, k ≤ 84 → (k = 84 ∧ (k = 0 ∨ (k : Int) < many) ∨ 1 ≤ k ∧ many ≤ k ∧ (k = 1 ∨ (k : Int) - 1 < many)) → K0 = k from fun k h1 h2 => by
    split at hM <;> split at hK0 <;> omega)
  have HM1 := Lib.hid hM.symm
  have HM2 := Lib.hid hK0.symm
  clear hM hK0
  have c17 := R17.out.cell (i := 0) (by omega)
  have f17 := R17.out.frozen 0
  go_wp2_with fail
  obtain ⟨W90, hW⟩ : ∃ z, z = W8.alloc (.cells #[.int .i64 0] 3) := ⟨_, rfl⟩
  rw [← hW]
  clear c17 f17
  have hk9 : Keeps (fun _ => False) W8 W90 := by rw [hW]; exact (Keeps.refl _ _).alloc _
  have r18 : W90.rowIs W8.heap.size 3 1 (fun _ => .int .i64 (0 : Nat)) := by rw [hW]; exact World.rowIs_alloc W8 #[.int .i64 0] 3 _ (fun i hi => by simp at hi; subst hi; rfl)
  have hs9 : W90.heap.size = W8.heap.size + 1 := by rw [hW]; simp
  have hs98 : W8.heap.size ≤ W8.heap.size := F0.out.size
  obtain ⟨g180, hg18⟩ : ∃ z, z = W8.heap.size := ⟨_, rfl⟩
  have hge : W8.heap.size ≤ g180 := by omega
  rw [← hg18] at r18 hs9 ⊢
  have hne : g17 < g180 := by rw [hg18]; exact R17.out.lt

  have i9 : EachI W8 g17 g180 0 0 none W90 := ⟨F0.out.trans (hk9.mono fun j _ e => e.elim), hk9.rowIs R17.out (fun h => h), r18, (fun D e => by cases e)⟩
  have HST := Lib.hid (HSTP.out W90)
  have I9 := Lib.hid i9
  have hs9a : g180 < W90.heap.size := by omega
  have hs9b : W90.heap.size ≤ g180 + 1 := by omega
  clear hW hk9 r18 hg18 i9 hs98 hs9
  refine wp_rangeC 2 (fun W => EachI W8 g17 g180 0 K0 none W) (gf := 31) (lb := #[]) rfl (enters_of Try.func31 (by kernel_rfl) rfl) HST.out
    (fun h k => h.trans k) (fun W l o o' _ h1 h2 h3 => KeepCW.putObj _ h1 h2 h3) (fun _ => rfl)
    (EachJ W8 g17 g180 0 none many) (EachX W8 g17 g180 0 none many 84)
    (own_of fun s A B hs hq => ⟨hs.1, hs.2.quiet hq (by omega) (fun D e => by cases e)⟩)
    (fun cd => own_of fun s A B hs hq => hs.imp (fun h => h) (fun ⟨h1, h2, h4, h5, h6, h7, h8⟩ => ⟨h1, h2, h4, h5, h6, h7, h8.quiet hq (by omega) (fun D e => by cases e)⟩))
    ⟨fun _ => .inl rfl, I9.out⟩ EachA
    (fun x a' => own_of fun s A B hs hq => hs) ?assign0 ?body0 ?done0 ?stop0 (fun _ _ h => h) ?rest0
  case assign0 =>
    intro lr pre x W K hI hK
    have HI := Lib.hid hI
    unfold EachA at hK
    simp only [encO] at hK ⊢
    have hK' := Lib.hid hK
    clear hI hK
    generalize codeAt x = cv at *
    gi_wp2
    exact hK'.out _ _ (KeepsFrom.refl _ _) (KeepCW.refl _ _) HI.out rfl
  case body0 =>
    rintro lr pre x a' W hl hrec ⟨hI2, hI3⟩ rfl hlen
    have HLR := Lib.hid hrec
    simp only [List.setIfInBounds_toArray, List.set_cons_succ, List.set_cons_zero]
    obtain ⟨k, hk⟩ : ∃ k, k = pre.length := ⟨_, rfl⟩
    rw [← hk] at hI2 hI3 hlen
    have hes := E8.out.kept hI3.keep (fun j hj h => by have h : W8.heap.size ≤ j := h; omega)
    have e1 := hes.c1
    have e3 := hes.c3
    have e2 := hes.r2.cell (i := 0) (by omega)
    have f2 := hes.r2.frozen 0
    have e17 := hI3.r17.cell (i := 0) (by omega)
    have e18 := hI3.r18.cell (i := 0) (by omega)
    have f18 := hI3.r18.frozen 0
    have ew := hes.rw.cell (i := k) hlen
    have HI2 := Lib.hid (hI2 rfl)
    have HI3 := Lib.hid hI3
    have HK := Lib.hid hk
    have HIL := Lib.hid hlen
    have hkb : (k : Int) ≤ 83 := by omega
    have d1 : decide (84 ≤ k) = false := by simp; omega
    have d1' : decide ((84 : Int) ≤ (k : Int)) = false := by simp; omega
    have hb0 : (0 : Int) ≤ (k : Int) := by omega
    have hb1 : (k : Int) < 84 := by omega
    clear hrec hI2 hI3 hk hes hlen
    by_cases hxk : x = k
    · subst hxk
      obtain ⟨cb0, cb1⟩ := codeAt_bd x
      obtain ⟨cx, hcx⟩ : ∃ z, z = codeAt x := ⟨_, rfl⟩
      rw [← hcx] at ew cb0 cb1 ⊢
      have ecv : IntKind.i64.wrap cx = cx := IntWalk.i64_in _ (by omega)
      clear hcx
      have STP := Lib.hid (HI3.out.step (by omega) (by omega) (fun D e => by cases e))
      have HKF := Lib.hid (show KeepsFrom W90.heap.size W (W.setCell ⟨g180, 0, none⟩ (.int .i64 ((x : Int) + 1))) from KeepsFrom.of_keeps (S := One g180) ((Keeps.refl _ W).set1 _ _) (fun k e => by have e : k = g180 := e; omega))
      have HKC := Lib.hid (show KeepCW W90.heap.size W (W.setCell ⟨g180, 0, none⟩ (.int .i64 ((x : Int) + 1))) from KeepCW.setCell ⟨g180, 0, none⟩ hs9a _)
      by_cases hmx : many ≤ (x : Int) + 1
      · gi_wp2
        refine ⟨HKF.out, .inr ⟨rfl, rfl, ?_, ?_, ?_, ?_, ?_⟩⟩
        · rw [List.length_append, ← HK.out]; simp; have := HIL.out; omega
        · rw [List.length_append, ← HK.out]; simp; omega
        · rw [List.length_append, ← HK.out]; simp
        · rw [List.length_append, ← HK.out]; simp; have := HI2.out; omega
        · rw [List.length_append, ← HK.out]; exact STP.out
      · gi_wp2
        refine ⟨HKF.out, HKC.out, ?_, ?_⟩
        · intro _; right; rw [List.length_append, ← HK.out]; simp; omega
        · rw [List.length_append, ← HK.out]; exact STP.out
    · have d2 : ((x : Int) != (k : Int)) = true := by simp; omega
      have HXK := Lib.hid hxk
      clear hxk
      generalize codeAt x = cx at *
      gi_wp2
      refine ⟨KeepsFrom.of_keeps (S := One (w.heap.size + 1)) ((Keeps.refl _ W).set1 _ _) (fun k e => by have e : k = w.heap.size + 1 := e; omega), .inl ⟨rfl, fun e => HXK.out ?_⟩⟩
      rw [List.length_append, ← HK.out, List.length_cons, List.length_nil, Nat.zero_add, List.range_succ] at e
      have h1 := List.append_inj' e (by simp)
      simpa using h1.2
  case done0 =>
    rintro xs W rfl ⟨hI2, hI3⟩
    rw [List.length_range] at hI2 hI3
    rw [HK0.out 84 (Nat.le_refl _) (.inl ⟨rfl, hI2 rfl⟩)]
    exact hI3
  case stop0 =>
    rintro cd pre W ⟨k, rfl⟩ hX
    rcases hX with ⟨-, hX⟩ | ⟨rfl, -, hX1, hX2, hX3, hX4, hI3⟩
    · rw [List.length_range] at hX; exact absurd rfl hX
    · rw [List.length_range] at hX1 hX2 hX3 hX4 hI3
      exact ⟨rfl, by rw [HK0.out k hX1 (.inr ⟨hX3, hX2, hX4⟩)]; exact hI3⟩
  case rest0 =>
    intro D0 W hD hI3 hK
    have hes := E8.out.kept hI3.keep (fun j hj h => by have h : W8.heap.size ≤ j := h; omega)
    have e1 := hes.c1
    have e3 := hes.c3
    have e17 := hI3.r17.cell (i := 0) (by omega)
    have e18 := hI3.r18.cell (i := 0) (by omega)
    have I31 := Lib.hid hI3
    have KD1 := Lib.hid hK
    clear hes hI3 hK
    have hM1 := HM1.out
    have hM2 := HM2.out
    go_wp2_with fail
    obtain ⟨V0, hV⟩ : ∃ z, z = W.alloc (.cells #[.int .i64 1] 3) := ⟨_, rfl⟩
    rw [← hV]
    have hF1 : Keeps (fun j => W8.heap.size ≤ j) W8 V0 := by rw [hV]; exact I31.out.keep.alloc _
    have hR1 : V0.rowIs W.heap.size 3 1 (fun _ => .int .i64 (1 : Nat)) := by rw [hV]; exact World.rowIs_alloc W #[.int .i64 1] 3 _ (fun i hi => by simp at hi; subst hi; rfl)
    have hMK : V0.heap[D0]? = some (.deferred (some [])) := by rw [hV]; exact (Below.heap_alloc _ _ _ (lt_of_block KD1.out)).trans KD1.out
    have hDw : w.heap.size ≤ D0 := by omega
    obtain ⟨g171, hg171⟩ : ∃ z, z = W.heap.size := ⟨_, rfl⟩
    rw [← hg171] at hR1 ⊢
    have F1 := Lib.hid hF1
    have R171 := Lib.hid hR1
    have HMK := Lib.hid hMK
    clear hV hF1 hR1 hMK hg171 I31 KD1 e1 e3 e17 e18 I9 HST HK0 HM1 HM2 hD hs9a hs9b hge hne hM1 hM2
    rw [rounds_succ]
    have c17 := R171.out.cell (i := 0) (by omega)
    have f17 := R171.out.frozen 0
    go_wp2_with fail
    obtain ⟨W91, hW⟩ : ∃ z, z = V0.alloc (.cells #[.int .i64 0] 3) := ⟨_, rfl⟩
    rw [← hW]
    clear c17 f17
    have hk9 : Keeps (fun _ => False) V0 W91 := by rw [hW]; exact (Keeps.refl _ _).alloc _
    have r18 : W91.rowIs V0.heap.size 3 1 (fun _ => .int .i64 (0 : Nat)) := by rw [hW]; exact World.rowIs_alloc V0 #[.int .i64 0] 3 _ (fun i hi => by simp at hi; subst hi; rfl)
    have hs9 : W91.heap.size = V0.heap.size + 1 := by rw [hW]; simp
    have hs98 : W8.heap.size ≤ V0.heap.size := F1.out.size
    obtain ⟨g181, hg18⟩ : ∃ z, z = V0.heap.size := ⟨_, rfl⟩
    have hge : W8.heap.size ≤ g181 := by omega
    rw [← hg18] at r18 hs9 ⊢
    have hne : g171 < g181 := by rw [hg18]; exact R171.out.lt
    have hD09 : D0 < W91.heap.size := by have := lt_of_block HMK.out; omega
    have hD08 : D0 < g181 := by have := lt_of_block HMK.out; omega
    have i9 : EachI W8 g171 g181 1 0 (some D0) W91 := ⟨F1.out.trans (hk9.mono fun j _ e => e.elim), hk9.rowIs R171.out (fun h => h), r18, (fun D e => by cases e; exact (hk9.block D0 (lt_of_block HMK.out) (fun h => h)).trans HMK.out)⟩
    have HST := Lib.hid (HSTP.out W91)
    have I9 := Lib.hid i9
    have hs9a : g181 < W91.heap.size := by omega
    have hs9b : W91.heap.size ≤ g181 + 1 := by omega
    clear hW hk9 r18 hg18 i9 hs98 hs9
    refine wp_rangeC 2 (fun W => EachI W8 g171 g181 1 84 (some D0) W) (gf := 31) (lb := #[]) rfl (enters_of Try.func31 (by kernel_rfl) rfl) HST.out
      (fun h k => h.trans k) (fun W l o o' _ h1 h2 h3 => KeepCW.putObj _ h1 h2 h3) (fun _ => rfl)
      (EachJ W8 g171 g181 1 (some D0) many) (EachX W8 g171 g181 1 (some D0) many 84)
      (own_of fun s A B hs hq => ⟨hs.1, hs.2.quiet hq (by omega) (fun D e => by cases e; exact hD09)⟩)
      (fun cd => own_of fun s A B hs hq => hs.imp (fun h => h) (fun ⟨h1, h2, h4, h5, h6, h7, h8⟩ => ⟨h1, h2, h4, h5, h6, h7, h8.quiet hq (by omega) (fun D e => by cases e; exact hD09)⟩))
      ⟨fun _ => .inl rfl, I9.out⟩ EachA
      (fun x a' => own_of fun s A B hs hq => hs) ?assign1 ?body1 ?done1 ?stop1 (fun _ _ h => h) ?rest1
    case assign1 =>
      intro lr pre x W K hI hK
      have HI := Lib.hid hI
      unfold EachA at hK
      simp only [encO] at hK ⊢
      have hK' := Lib.hid hK
      clear hI hK
      generalize codeAt x = cv at *
      gi_wp2
      exact hK'.out _ _ (KeepsFrom.refl _ _) (KeepCW.refl _ _) HI.out rfl
    case body1 =>
      rintro lr pre x a' W hl hrec ⟨hI2, hI3⟩ rfl hlen
      have HLR := Lib.hid hrec
      simp only [List.setIfInBounds_toArray, List.set_cons_succ, List.set_cons_zero]
      obtain ⟨k, hk⟩ : ∃ k, k = pre.length := ⟨_, rfl⟩
      rw [← hk] at hI2 hI3 hlen
      have hes := E8.out.kept hI3.keep (fun j hj h => by have h : W8.heap.size ≤ j := h; omega)
      have e1 := hes.c1
      have e3 := hes.c3
      have e2 := hes.r2.cell (i := 0) (by omega)
      have f2 := hes.r2.frozen 0
      have e17 := hI3.r17.cell (i := 0) (by omega)
      have e18 := hI3.r18.cell (i := 0) (by omega)
      have f18 := hI3.r18.frozen 0
      have ew := hes.rw.cell (i := k) hlen
      have HI2 := Lib.hid hI2
      have HI3 := Lib.hid hI3
      have HK := Lib.hid hk
      have HIL := Lib.hid hlen
      have hkb : (k : Int) ≤ 83 := by omega
      have d1 : decide (84 ≤ k) = false := by simp; omega
      have d1' : decide ((84 : Int) ≤ (k : Int)) = false := by simp; omega
      have hb0 : (0 : Int) ≤ (k : Int) := by omega
      have hb1 : (k : Int) < 84 := by omega
      clear hrec hI2 hI3 hk hes hlen
      by_cases hxk : x = k
      · subst hxk
        obtain ⟨cb0, cb1⟩ := codeAt_bd x
        obtain ⟨cx, hcx⟩ : ∃ z, z = codeAt x := ⟨_, rfl⟩
        rw [← hcx] at ew cb0 cb1 ⊢
        have ecv : IntKind.i64.wrap cx = cx := IntWalk.i64_in _ (by omega)
        clear hcx
        have STP := Lib.hid (HI3.out.step (by omega) (by omega) (fun D e => by cases e; omega))
        have HKF := Lib.hid (show KeepsFrom W91.heap.size W (W.setCell ⟨g181, 0, none⟩ (.int .i64 ((x : Int) + 1))) from KeepsFrom.of_keeps (S := One g181) ((Keeps.refl _ W).set1 _ _) (fun k e => by have e : k = g181 := e; omega))
        have HKC := Lib.hid (show KeepCW W91.heap.size W (W.setCell ⟨g181, 0, none⟩ (.int .i64 ((x : Int) + 1))) from KeepCW.setCell ⟨g181, 0, none⟩ hs9a _)
        gi_wp2
        refine ⟨HKF.out, HKC.out, ?_, ?_⟩
        · intro h; omega
        · rw [List.length_append, ← HK.out]; exact STP.out
      · have d2 : ((x : Int) != (k : Int)) = true := by simp; omega
        have HXK := Lib.hid hxk
        clear hxk
        generalize codeAt x = cx at *
        gi_wp2
        refine ⟨KeepsFrom.of_keeps (S := One (w.heap.size + 1)) ((Keeps.refl _ W).set1 _ _) (fun k e => by have e : k = w.heap.size + 1 := e; omega), .inl ⟨rfl, fun e => HXK.out ?_⟩⟩
        rw [List.length_append, ← HK.out, List.length_cons, List.length_nil, Nat.zero_add, List.range_succ] at e
        have h1 := List.append_inj' e (by simp)
        simpa using h1.2
    case done1 =>
      rintro xs W rfl ⟨hI2, hI3⟩
      rw [List.length_range] at hI2 hI3
      exact hI3
    case stop1 =>
      rintro cd pre W ⟨k, rfl⟩ hX
      rcases hX with ⟨-, hX⟩ | ⟨rfl, hX, -⟩
      · rw [List.length_range] at hX; exact absurd rfl hX
      · exact absurd hX (by omega)
    case rest1 =>
      intro D1 W hD hI3 hK
      have hes := E8.out.kept hI3.keep (fun j hj h => by have h : W8.heap.size ≤ j := h; omega)
      have e1 := hes.c1
      have e3 := hes.c3
      have e17 := hI3.r17.cell (i := 0) (by omega)
      have e18 := hI3.r18.cell (i := 0) (by omega)
      have I31 := Lib.hid hI3
      have KD1 := Lib.hid hK
      clear hes hI3 hK
  
      go_wp2_with fail
      obtain ⟨V1, hV⟩ : ∃ z, z = W.alloc (.cells #[.int .i64 2] 3) := ⟨_, rfl⟩
      rw [← hV]
      have hF2 : Keeps (fun j => W8.heap.size ≤ j) W8 V1 := by rw [hV]; exact I31.out.keep.alloc _
      have hes := E8.out.kept hF2 (fun j hj h => by have h : W8.heap.size ≤ j := h; omega)
      have c17 : V1.cell? ⟨W.heap.size, 0, none⟩ = some (.int .i64 2) := by rw [hV]; go_simp
      have hm1 : V1.heap[D1]? = some (.deferred (some [])) := by rw [hV]; exact (Below.heap_alloc _ _ _ (lt_of_block KD1.out)).trans KD1.out
      have hm0 : V1.heap[D0]? = some (.deferred (some [])) := by rw [hV]; exact (Below.heap_alloc _ _ _ (lt_of_block (I31.out.mark D0 rfl))).trans (I31.out.mark D0 rfl)
      have c4 := hes.r2.cell (i := 0) (by omega)
      have f4 := hes.r2.frozen 0
      have ES := Lib.hid hes
      have HM0 := Lib.hid hm0
      have HM1 := Lib.hid hm1
      clear hV hF2 hes hm0 hm1 I31 KD1 e1 e3 e17 e18
      rw [rounds_succ]
      go_wp2_with (go_at_call 13; refine (HKN.out _).mono ?_; rintro e w9 ⟨rfl, hb⟩; have E9 := Lib.hid (ES.out.go hb); have N0 := Lib.hid ((hb.block D0 (lt_of_block HM0.out)).trans HM0.out); have N1 := Lib.hid ((hb.block D1 (lt_of_block HM1.out)).trans HM1.out); have d10 := E9.out.r2.cell (i := 0) (by omega); have e10 := E9.out.r2.frozen 0; clear hb)
      obtain ⟨_, _, rfl, f1, f2, rfl, f3, f4⟩ := lists_end E9.out (D0 := D0) (D1 := D1) (by omega) (by omega) (by omega) N0.out N1.out
      refine ⟨by simp, .inl ⟨_, _, rfl, run_takeDeferred f1, ?_⟩⟩
      refine ⟨by simp, .inl ⟨_, _, rfl, run_takeDeferred f2, ?_⟩⟩
      refine ⟨.bool true, ?_, rfl, f4⟩
      simp [results, Try.f4, go_sem, f3]
end Go.Proofs.Ytiinjjfggmmkmaa
