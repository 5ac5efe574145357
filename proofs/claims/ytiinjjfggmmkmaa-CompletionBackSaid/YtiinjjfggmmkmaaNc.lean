/- completion: Find. -/
import Derived.Test.YtiinjjfggmmkmaaNb
import Derived.Test.YtiinjjfggmmkmaaRG
namespace Go.Proofs.Ytiinjjfggmmkmaa
set_option linter.unusedVariables false
set_option linter.unusedSimpArgs false
open Go.RowKit Go.Shelf
attribute [local go_sem] Oper.semAt_some

/-- What Opcode answers: the first opcode with that name; the error. -/
def opcIx (s : List UInt8) : Option Nat := (List.range (84)).find? fun i => nameOf (codeAt i) == s
def opcOf (s : List UInt8) : Int := match opcIx s with | some i => codeAt i | none => 0
def opcErr (s : List UInt8) : Int := match opcIx s with | some _ => 0 | none => 9
theorem opc_some {s : List UInt8} {k : Nat} (hk : k < 84) (h : ∀ i, i < k → nameOf (codeAt i) ≠ s) (hs : nameOf (codeAt k) = s) : opcOf s = codeAt k ∧ opcErr s = 0 := by
  have : opcIx s = some k := by
    unfold opcIx
    rw [List.find?_range_eq_some]
    exact ⟨by simpa using hs, List.mem_range.2 hk, fun i hi => by simpa using h i hi⟩
  unfold opcOf opcErr
  rw [this]
  exact ⟨rfl, rfl⟩
theorem opc_none {s : List UInt8} (h : ∀ i, i < 84 → nameOf (codeAt i) ≠ s) : opcOf s = 0 ∧ opcErr s = 9 := by
  have : opcIx s = none := by
    unfold opcIx
    rw [List.find?_eq_none]
    intro i hi
    simpa using h i (List.mem_range.1 hi)
  unfold opcOf opcErr
  rw [this]
  exact ⟨rfl, rfl⟩

theorem row1_set {w : World} {b : Nat} {t : TypeId} {v : Value} (h : w.rowIs b t 1 (fun _ => v)) (u : Value) : (w.setCell ⟨b, 0, none⟩ u).rowIs b t 1 (fun _ => u) :=
  (World.rowIs.set h 0 u).congr fun i hi => by
    have : i = 0 := by omega
    subst this; rfl
/-- What lies in memory while Opcode looks. -/
structure OpcI (w : World) (s : ByteArray) (g4 r : Nat) (x y : Int) (W : World) : Prop where
  below : Below w.heap.size w W
  r0 : W.rowIs w.heap.size 9 1 (fun _ => .string s)
  r1 : W.rowIs (w.heap.size + 1) 26 1 (fun _ => .int .u16 x)
  r2 : W.rowIs (w.heap.size + 1 + 1) 42 1 (fun _ => .int .i64 y)
  r4 : W.rowIs g4 73 1 (fun _ => .map (some r))
  mp : MapIs .u16 W r (kvS namesL)
theorem OpcI.quiet {w A B : World} {s : ByteArray} {g4 r : Nat} {x y : Int} {N : Nat} (h : OpcI w s g4 r x y A) (q : Quiet N A B) (hN : w.heap.size ≤ N) (hr : r < N) : OpcI w s g4 r x y B :=
  ⟨q.below h.below hN, q.rowIs h.r0, q.rowIs h.r1, q.rowIs h.r2, q.rowIs h.r4, h.mp.same (q.old r hr h.mp.lt)⟩
def FindA (a : Act) (j : Nat) (a' : Act) (_ : World) : Prop :=
  a' = { tmps := ((a.tmps.setIfInBounds 9 (.int .i64 (j : Nat))).setIfInBounds 10 (.int .u16 (codeAt j))).setIfInBounds 6 (.int .u16 (codeAt j)), defers := [] }
theorem opc_end {w W : World} {x y : Value} {D : Nat} (hr1 : W.rowIs (w.heap.size + 1) 26 1 (fun _ => x)) (hr2 : W.rowIs (w.heap.size + 1 + 1) 42 1 (fun _ => y)) (hD : W.heap[D]? = some (.deferred (some []))) (hb : Below w.heap.size w W) (h3 : w.heap.size + 1 + 1 < D) :
    (W.putObj D (.deferred none)).cell? ⟨w.heap.size + 1, 0, none⟩ = some x ∧ (W.putObj D (.deferred none)).cell? ⟨w.heap.size + 1 + 1, 0, none⟩ = some y ∧ Below w.heap.size w (W.putObj D (.deferred none)) := by
  have h1 := hr1.of_block (w' := W.putObj D (.deferred none)) (World.putObj_heap_other (by omega))
  have h2 := hr2.of_block (w' := W.putObj D (.deferred none)) (World.putObj_heap_other (by omega))
  exact ⟨h1.cell (by omega), h2.cell (by omega), hb.grown (grownBy_putObj' W D _) hb.size (fun k e => by cases e; omega)⟩


set_option maxRecDepth 100000 in
set_option maxHeartbeats 2000000 in
theorem find_any (s : ByteArray) (w : World) : Calls Try.prog 18 #[.string s] w fun e w' =>
    e = .returned (.tuple #[.int .u16 (opcOf s.toList), .int .i64 (opcErr s.toList)]) ∧ Below w.heap.size w w' := by
  have z8 : ∀ w, (zeroValue 26).run Try.prog w = .ok (.int .u16 0) w := fun _ => by kernel_rfl
  have zE : ∀ w, (zeroValue 42).run Try.prog w = .ok (.int .i64 0) w := fun _ => by kernel_rfl
  have HN := Lib.hid names_any
  refine calls_marks Try.func18 rfl ?_
  simp only [Try.ntmps18, List.size_toArray, List.length_cons, List.length_nil, Nat.reduceAdd, Nat.reduceSub, Array.replicate_succ, Array.replicate_zero, List.push_toArray, List.append_toArray, List.nil_append, List.cons_append]
  go_upto_region 1 with fail
  obtain ⟨w1, hw1⟩ : ∃ w1, w1 = ((w.alloc (.cells #[.string s] 9)).alloc (.cells #[.int .u16 0] 26)).alloc (.cells #[.int .i64 0] 42) := ⟨_, rfl⟩
  have hb1 : Below w.heap.size w w1 := by rw [hw1]; exact (((Below.refl _ _).alloc (Nat.le_refl _) _).alloc (by simp) _).alloc (by simp; omega) _
  have hs1 := Lib.hid (show w1.heap.size = w.heap.size + 3 by rw [hw1]; simp)
  have hr0 : w1.rowIs w.heap.size 9 1 (fun _ => .string s) := by
    rw [hw1]
    exact ((World.rowIs_alloc w #[.string s] 9 (fun _ => .string s) (fun i hi => by simp at hi; subst hi; rfl)).alloc _).alloc _
  have hr1 : w1.rowIs (w.heap.size + 1) 26 1 (fun _ => .int .u16 0) := by
    rw [hw1]
    have := (World.rowIs_alloc (w.alloc (.cells #[.string s] 9)) #[.int .u16 0] 26 (fun _ => .int .u16 0) (fun i hi => by simp at hi; subst hi; rfl)).alloc (.cells #[.int .i64 0] 42)
    simpa using this
  have hr2 : w1.rowIs (w.heap.size + 1 + 1) 42 1 (fun _ => .int .i64 0) := by
    rw [hw1]
    have := World.rowIs_alloc ((w.alloc (.cells #[.string s] 9)).alloc (.cells #[.int .u16 0] 26)) #[.int .i64 0] 42 (fun _ => .int .i64 0) (fun i hi => by simp at hi; subst hi; rfl)
    simpa using this
  rw [← hw1]
  have R0 := Lib.hid hr0
  have R1 := Lib.hid hr1
  have R2 := Lib.hid hr2
  have B1 := Lib.hid hb1
  clear hw1 hb1 hr0 hr1 hr2
  go_upto_region 2 with (go_at_call 34; refine (HN.out _).mono ?_; rintro e w2 ⟨r, rfl, h1, h2, h3⟩; have HM := Lib.hid h2; have B2 := Lib.hid h3; have hr2 : w1.heap.size ≤ r := h1; clear h1 h2 h3)
  obtain ⟨W3, hW⟩ : ∃ z, z = w2.alloc (.cells #[.map (some r)] 73) := ⟨_, rfl⟩
  rw [← hW]
  have hb3 : Below w2.heap.size w2 W3 := by rw [hW]; exact (Below.refl _ _).alloc (Nat.le_refl _) _
  have hr4 : W3.rowIs w2.heap.size 73 1 (fun _ => .map (some r)) := by rw [hW]; exact World.rowIs_alloc w2 #[.map (some r)] 73 _ (fun i hi => by simp at hi; subst hi; rfl)
  obtain ⟨g4, hg4⟩ : ∃ z, z = w2.heap.size := ⟨_, rfl⟩
  rw [← hg4] at hr4 ⊢
  have hb13 : Below w1.heap.size w1 W3 := B2.out.trans (hb3.mono B2.out.size)
  have k13 : Keeps (fun _ => False) w1 W3 := Keeps.of_below hb13
  have O2 := Lib.hid (show OpcI w s g4 r 0 0 W3 from ⟨B1.out.trans (hb13.mono B1.out.size), k13.rowIs R0.out (fun e => e), k13.rowIs R1.out (fun e => e), k13.rowIs R2.out (fun e => e), hr4, HM.out.below hb3⟩)
  have hrW : r < W3.heap.size := O2.out.mp.lt
  have hgW : g4 < W3.heap.size := hr4.lt
  have hrg : r < g4 := by rw [hg4]; exact HM.out.lt
  have hwr : w.heap.size + 2 < r := by have := hs1.out; omega
  have hwW : w.heap.size ≤ W3.heap.size := by omega
  have HST := Lib.hid (codes1_stops 8 (by omega) W3)
  clear hW hb3 hr4 hg4 hb13 k13 B1 B2 R0 R1 R2 HM
  go_wp2_with (go_at_call 15; refine (codes_any _).mono ?_; rintro e w' ⟨rfl, rfl⟩)
  refine wp_rangeA (gf := 31) (lb := #[]) rfl (enters_of Try.func31 (by kernel_rfl) rfl) HST.out
    (fun h k => h.trans k) (fun W l o o' _ h1 h2 h3 => KeepCW.putObj _ h1 h2 h3) (fun _ => rfl)
    (fun xs W => OpcI w s g4 r 0 0 W ∧ (xs = List.range xs.length → ∀ i, i < xs.length → nameOf (codeAt i) ≠ s.toList))
    (fun cd xs W => cd = .ret ∧ ∃ k, OpcI w s g4 r (codeAt k) 0 W ∧ (xs = List.range xs.length → k < 84 ∧ (∀ i, i < k → nameOf (codeAt i) ≠ s.toList) ∧ nameOf (codeAt k) = s.toList))
    (own_of fun xs A B hs hq => ⟨hs.1.quiet hq (by omega) (by omega), hs.2⟩)
    (fun cd => own_of fun xs A B hs hq => by
      obtain ⟨h1, k, h2, h3⟩ := hs
      exact ⟨h1, k, h2.quiet hq (by omega) (by omega), h3⟩)
    ⟨O2.out, fun _ i hi => absurd hi (by simp)⟩ FindA
    (fun x a' => own_of fun xs A B hs hq => hs) ?assign ?body ?done ?stop
  case assign =>
    intro l pre x W K hI hK
    have HI := Lib.hid hI
    unfold FindA at hK
    have HK := Lib.hid hK
    clear hI hK
    simp only [encO]
    gi_wp2
    exact HK.out _ _ (KeepsFrom.refl _ _) (KeepCW.refl _ _) HI.out rfl
  case body =>
    rintro l pre x a' W hl hrec ⟨hO, hI⟩ rfl hlen
    simp only [List.setIfInBounds_toArray, List.set_cons_succ, List.set_cons_zero]
    have OI := Lib.hid hO
    have HI := Lib.hid hI
    have c0 := hO.r0.cell (i := 0) (by omega)
    have c1 := hO.r1.cell (i := 0) (by omega)
    have c2 := hO.r2.cell (i := 0) (by omega)
    have c4 := hO.r4.cell (i := 0) (by omega)
    have f1 := hO.r1.frozen 0
    have f2 := hO.r2.frozen 0
    have hlk := look_name hO.mp (codeAt x)
    obtain ⟨k, hk⟩ : ∃ k, k = codeAt x := ⟨_, rfl⟩
    rw [← hk] at hlk ⊢
    have HKX := Lib.hid hk
    unfold strV at hlk
    clear hrec hO hI hk
    by_cases hn : nameOf k = s.toList
    · have hb2 : (nameOf k == s.toList) = true := by simpa using hn
      have HN := Lib.hid hn
      clear hn
      gi_wp2
      have hk1 : KeepsOthers W ((W.setCell ⟨w.heap.size + 1, 0, none⟩ (.int .u16 k)).setCell ⟨w.heap.size + 1 + 1, 0, none⟩ (.int .i64 0)) := (KeepsOthers.setCell _ _ _).trans (KeepsOthers.setCell _ _ _)
      have k0 : Keeps (One (w.heap.size + 1)) W (W.setCell ⟨w.heap.size + 1, 0, none⟩ (.int .u16 k)) := (Keeps.refl _ _).set1 _ _
      have k1 : Keeps (One (w.heap.size + 1 + 1)) (W.setCell ⟨w.heap.size + 1, 0, none⟩ (.int .u16 k)) ((W.setCell ⟨w.heap.size + 1, 0, none⟩ (.int .u16 k)).setCell ⟨w.heap.size + 1 + 1, 0, none⟩ (.int .i64 0)) := (Keeps.refl _ _).set1 _ _
      refine ⟨hk1.from _, rfl, x, ⟨(OI.out.below.setCell (p := ⟨w.heap.size + 1, 0, none⟩) (by show w.heap.size ≤ w.heap.size + 1; omega) _).setCell (p := ⟨w.heap.size + 1 + 1, 0, none⟩) (by show w.heap.size ≤ w.heap.size + 1 + 1; omega) _, ?_, ?_, ?_, ?_, ?_⟩, ?_⟩
      · exact k1.rowIs (k0.rowIs OI.out.r0 (fun e => by have e : w.heap.size = w.heap.size + 1 := e; omega)) (fun e => by have e : w.heap.size = w.heap.size + 1 + 1 := e; omega)
      · rw [← HKX.out]
        exact k1.rowIs (row1_set OI.out.r1 (.int .u16 k)) (fun e => by have e : w.heap.size + 1 = w.heap.size + 1 + 1 := e; omega)
      · exact row1_set (k0.rowIs OI.out.r2 (fun e => by have e : w.heap.size + 1 + 1 = w.heap.size + 1 := e; omega)) (.int .i64 0)
      · exact k1.rowIs (k0.rowIs OI.out.r4 (fun e => by have e : g4 = w.heap.size + 1 := e; omega)) (fun e => by have e : g4 = w.heap.size + 1 + 1 := e; omega)
      · exact (OI.out.mp.kept k0 (fun e => by have e : r = w.heap.size + 1 := e; omega)).kept k1 (fun e => by have e : r = w.heap.size + 1 + 1 := e; omega)
      · intro hx
        rw [List.length_append, List.length_cons, List.length_nil, Nat.zero_add, List.range_succ] at hx
        have h1 := List.append_inj' hx (by simp)
        have h2 : x = pre.length := by simpa using h1.2
        exact ⟨by omega, fun i hi => HI.out h1.1 i (by omega), by rw [← HKX.out]; exact HN.out⟩
    · have hb2 : (nameOf k == s.toList) = false := by simpa using hn
      have HN := Lib.hid hn
      clear hn
      gi_wp2
      refine ⟨KeepsFrom.refl _ _, KeepCW.refl _ _, OI.out, fun hx i hi => ?_⟩
      rw [List.length_append, List.length_cons, List.length_nil, Nat.zero_add, List.range_succ] at hx
      have h1 := List.append_inj' hx (by simp)
      have h2 : x = pre.length := by simpa using h1.2
      rw [List.length_append, List.length_cons, List.length_nil] at hi
      by_cases he : i = x
      · subst he
        rw [← HKX.out]
        exact HN.out
      · exact HI.out h1.1 i (by omega)
  case done =>
    rintro D xs W hD rfl ⟨hO, hI⟩ hK
    obtain ⟨e1, e2⟩ := opc_none (hI (by rw [List.length_range]) |> fun h i hi => h i (by rw [List.length_range]; exact hi))
    have c1 := hO.r1.cell (i := 0) (by omega)
    have c2 := hO.r2.cell (i := 0) (by omega)
    have f1 := hO.r1.frozen 0
    have f2 := hO.r2.frozen 0
    have HO2 := Lib.hid hO
    have HK := Lib.hid hK
    have E1 := Lib.hid e1
    have E2 := Lib.hid e2
    clear hO hI hK e1 e2
    go_wp2_with fail
    have hKO : KeepsOthers W ((W.setCell ⟨w.heap.size + 1, 0, none⟩ (.int .u16 0)).setCell ⟨w.heap.size + 1 + 1, 0, none⟩ (.int .i64 9)) := (KeepsOthers.setCell _ _ _).trans (KeepsOthers.setCell _ _ _)
    have hK' := hKO.same D _ HK.out rfl
    have k1 : Keeps (One (w.heap.size + 1 + 1)) (W.setCell ⟨w.heap.size + 1, 0, none⟩ (.int .u16 0)) ((W.setCell ⟨w.heap.size + 1, 0, none⟩ (.int .u16 0)).setCell ⟨w.heap.size + 1 + 1, 0, none⟩ (.int .i64 9)) := (Keeps.refl _ _).set1 _ _
    have k0 : Keeps (One (w.heap.size + 1)) W (W.setCell ⟨w.heap.size + 1, 0, none⟩ (.int .u16 0)) := (Keeps.refl _ _).set1 _ _
    have hE := opc_end (hr1 := k1.rowIs (row1_set HO2.out.r1 (.int .u16 0)) (fun e => by have e : w.heap.size + 1 = w.heap.size + 1 + 1 := e; omega)) (hr2 := row1_set (k0.rowIs HO2.out.r2 (fun e => by have e : w.heap.size + 1 + 1 = w.heap.size + 1 := e; omega)) (.int .i64 9)) (hD := hK') (hb := (HO2.out.below.setCell (p := ⟨w.heap.size + 1, 0, none⟩) (by show w.heap.size ≤ w.heap.size + 1; omega) _).setCell (p := ⟨w.heap.size + 1 + 1, 0, none⟩) (by show w.heap.size ≤ w.heap.size + 1 + 1; omega) _) (h3 := by omega)
    obtain ⟨g1, g2, g3⟩ := hE
    refine ⟨by simp, .inl ⟨_, _, rfl, run_takeDeferred hK', ?_⟩⟩
    refine ⟨.tuple #[.int .u16 0, .int .i64 9], by simp [results, Try.f18, go_sem, g1, g2], by rw [E1.out, E2.out], g3⟩
  case stop =>
    rintro D cd pre W hD ⟨k, rfl⟩ ⟨rfl, k1, hO, h1⟩ hK
    obtain ⟨h1, h2, h3⟩ := h1 (by rw [List.length_range])
    obtain ⟨e1, e2⟩ := opc_some h1 h2 h3
    have HO2 := Lib.hid hO
    have HK := Lib.hid hK
    have E1 := Lib.hid e1
    have E2 := Lib.hid e2
    clear hO hK e1 e2 h1 h2 h3
    go_wp2_with fail
    obtain ⟨g1, g2, g3⟩ := opc_end (hr1 := HO2.out.r1) (hr2 := HO2.out.r2) (hD := HK.out) (hb := HO2.out.below) (h3 := by omega)
    refine ⟨by simp, .inl ⟨_, _, rfl, run_takeDeferred HK.out, ?_⟩⟩
    refine ⟨.tuple #[.int .u16 (codeAt k1), .int .i64 0], by simp [results, Try.f18, go_sem, g1, g2], by rw [E1.out, E2.out], g3⟩
end Go.Proofs.Ytiinjjfggmmkmaa
