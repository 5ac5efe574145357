/- command: Opcode. -/
import Derived.Test.YtggdjadhenamiaaNb
namespace Go.Proofs.Ytggdjadhenamiaa
set_option linter.unusedVariables false
set_option linter.unusedSimpArgs false
open Go.RowKit Go.Shelf
attribute [local go_sem] Oper.semAt_some

/-- the opcode with an index -/
def codeAt (a : Bool) (i : Nat) : Int := (codesL a).getD i 0
/-- What Opcode answers: the first opcode with that name; the error. -/
def opcIx (a : Bool) (s : List UInt8) : Option Nat := (List.range (nCodes a)).find? fun i => nameOf a (codeAt a i) == s
def opcOf (a : Bool) (s : List UInt8) : Int := match opcIx a s with | some i => codeAt a i | none => 0
def opcErr (a : Bool) (s : List UInt8) : Int := match opcIx a s with | some _ => 0 | none => 9
theorem opc_some {a : Bool} {s : List UInt8} {k : Nat} (hk : k < nCodes a) (h : ∀ i, i < k → nameOf a (codeAt a i) ≠ s) (hs : nameOf a (codeAt a k) = s) : opcOf a s = codeAt a k ∧ opcErr a s = 0 := by
  have : opcIx a s = some k := by
    unfold opcIx
    rw [List.find?_range_eq_some]
    exact ⟨by simpa using hs, List.mem_range.2 hk, fun i hi => by simpa using h i hi⟩
  unfold opcOf opcErr
  rw [this]
  exact ⟨rfl, rfl⟩
theorem opc_none {a : Bool} {s : List UInt8} (h : ∀ i, i < nCodes a → nameOf a (codeAt a i) ≠ s) : opcOf a s = 0 ∧ opcErr a s = 9 := by
  have : opcIx a s = none := by
    unfold opcIx
    rw [List.find?_eq_none]
    intro i hi
    simpa using h i (List.mem_range.1 hi)
  unfold opcOf opcErr
  rw [this]
  exact ⟨rfl, rfl⟩

theorem row1_set {w : World} {b : Nat} {t : TypeId} {v : Value} (h : w.rowIs b t 1 (fun _ => v)) (u : Value) : (w.setCell ⟨b, 0, none⟩ u).rowIs b t 1 (fun _ => u) :=
  (World.rowIs.set h 0 u).congr fun i hi => by
    have : i = 0 := by omega
    subst this; rfl
/-- What lies in memory while Opcode looks. -/
structure OpcI (w : World) (s : ByteArray) (x y : Int) (W : World) : Prop where
  below : Below w.heap.size w W
  r0 : W.rowIs w.heap.size 9 1 (fun _ => .string s)
  r1 : W.rowIs (w.heap.size + 1) 5 1 (fun _ => .int .u8 x)
  r2 : W.rowIs (w.heap.size + 1 + 1) 30 1 (fun _ => .int .i64 y)
theorem OpcI.quiet {w A B : World} {s : ByteArray} {x y : Int} {N : Nat} (h : OpcI w s x y A) (q : Quiet N A B) (hN : w.heap.size ≤ N) : OpcI w s x y B :=
  ⟨q.below h.below hN, q.rowIs h.r0, q.rowIs h.r1, q.rowIs h.r2⟩
theorem opc_end {w W : World} {x y : Value} {D : Nat} (hr1 : W.rowIs (w.heap.size + 1) 5 1 (fun _ => x)) (hr2 : W.rowIs (w.heap.size + 1 + 1) 30 1 (fun _ => y)) (hD : W.heap[D]? = some (.deferred (some []))) (hb : Below w.heap.size w W) (h3 : w.heap.size + 1 + 1 < D) :
    (W.putObj D (.deferred none)).cell? ⟨w.heap.size + 1, 0, none⟩ = some x ∧ (W.putObj D (.deferred none)).cell? ⟨w.heap.size + 1 + 1, 0, none⟩ = some y ∧ Below w.heap.size w (W.putObj D (.deferred none)) := by
  have h1 := hr1.of_block (w' := W.putObj D (.deferred none)) (World.putObj_heap_other (by omega))
  have h2 := hr2.of_block (w' := W.putObj D (.deferred none)) (World.putObj_heap_other (by omega))
  exact ⟨h1.cell (by omega), h2.cell (by omega), hb.grown (grownBy_putObj' W D _) hb.size (fun k e => by cases e; omega)⟩

set_option maxRecDepth 100000 in
set_option maxHeartbeats 2000000 in
theorem opcode_any (a : Bool) (s : ByteArray) (w : World) : Calls Try.prog 17 #[.bool a, .string s] w fun e w' =>
    e = .returned (.tuple #[.int .u8 (opcOf a s.toList), .int .i64 (opcErr a s.toList)]) ∧ Below w.heap.size w w' := by
  have z8 : ∀ w, (zeroValue 5).run Try.prog w = .ok (.int .u8 0) w := fun _ => by kernel_rfl
  have zE : ∀ w, (zeroValue 30).run Try.prog w = .ok (.int .i64 0) w := fun _ => by kernel_rfl
  refine calls_marks Try.func17 rfl ?_
  simp only [Try.ntmps17, List.size_toArray, List.length_cons, List.length_nil, Nat.reduceAdd, Nat.reduceSub, Array.replicate_succ, Array.replicate_zero, List.push_toArray, List.append_toArray, List.nil_append, List.cons_append]
  go_wp2_with fail
  obtain ⟨w1, hw1⟩ : ∃ w1, w1 = ((w.alloc (.cells #[.string s] 9)).alloc (.cells #[.int .u8 0] 5)).alloc (.cells #[.int .i64 0] 30) := ⟨_, rfl⟩
  have hb1 : Below w.heap.size w w1 := by rw [hw1]; exact (((Below.refl _ _).alloc (Nat.le_refl _) _).alloc (by simp) _).alloc (by simp; omega) _
  have hs1 : w1.heap.size = w.heap.size + 3 := by rw [hw1]; simp
  have hr0 : w1.rowIs w.heap.size 9 1 (fun _ => .string s) := by
    rw [hw1]
    exact ((World.rowIs_alloc w #[.string s] 9 (fun _ => .string s) (fun i hi => by simp at hi; subst hi; rfl)).alloc _).alloc _
  have hr1 : w1.rowIs (w.heap.size + 1) 5 1 (fun _ => .int .u8 0) := by
    rw [hw1]
    have := (World.rowIs_alloc (w.alloc (.cells #[.string s] 9)) #[.int .u8 0] 5 (fun _ => .int .u8 0) (fun i hi => by simp at hi; subst hi; rfl)).alloc (.cells #[.int .i64 0] 30)
    simpa using this
  have hr2 : w1.rowIs (w.heap.size + 1 + 1) 30 1 (fun _ => .int .i64 0) := by
    rw [hw1]
    have := World.rowIs_alloc ((w.alloc (.cells #[.string s] 9)).alloc (.cells #[.int .u8 0] 5)) #[.int .i64 0] 30 (fun _ => .int .i64 0) (fun i hi => by simp at hi; subst hi; rfl)
    simpa using this
  have O1 : OpcI w s 0 0 w1 := ⟨hb1, hr0, hr1, hr2⟩
  rw [← hw1]
  clear hw1 hb1 hr0 hr1 hr2
  refine (opcodes_any a w1).mono ?_
  rintro e w2 ⟨rfl, hw2⟩
  obtain ⟨c, hcc⟩ : ∃ c, c = w1.heap.size := ⟨_, rfl⟩
  rw [← hcc]
  have hc2 : w2.cell? ⟨c, 0, none⟩ = some (.bool a) := by rw [hw2, hcc]; go_simp
  have hs2 : w2.heap.size = w1.heap.size + 1 := by rw [hw2]; simp
  have q12 : Quiet w1.heap.size w1 w2 := by rw [hw2]; exact Quiet.alloc _ _ _
  have O2 := O1.quiet q12 (by omega)
  have HST := Lib.hid (opcodes1_stops 8 (by omega) c a w2 hc2)
  have HO := Lib.hid O2
  clear O1 O2 q12 hc2 hw2 hcc
  go_wp2_with fail
  refine wp_range (gf := 37) (lb := #[.pointer (some ⟨c, 0, none⟩)]) rfl (enters_of Try.func37 (by kernel_rfl) rfl) HST.out
    (fun h k => h.trans k) (fun W l o o' _ h1 h2 h3 => KeepCW.putObj _ h1 h2 h3) (fun _ => rfl)
    (fun xs W => OpcI w s 0 0 W ∧ (xs = List.range xs.length → ∀ i, i < xs.length → nameOf a (codeAt a i) ≠ s.toList))
    (fun cd xs W => cd = .ret ∧ ∃ k, OpcI w s (codeAt a k) 0 W ∧ (xs = List.range xs.length → k < nCodes a ∧ (∀ i, i < k → nameOf a (codeAt a i) ≠ s.toList) ∧ nameOf a (codeAt a k) = s.toList))
    (own_of fun xs A B hs hq => ⟨hs.1.quiet hq (by omega), hs.2⟩)
    (fun cd => own_of fun xs A B hs hq => by
      obtain ⟨h1, k, h2, h3⟩ := hs
      exact ⟨h1, k, h2.quiet hq (by omega), h3⟩)
    ⟨HO.out, fun _ i hi => absurd hi (by simp)⟩
    (fun i a' W => a' = { tmps := #[.bool a, .string s, undef, .pointer (some ⟨w.heap.size, 0, none⟩), .pointer (some ⟨w.heap.size + 1, 0, none⟩), .pointer (some ⟨w.heap.size + 1 + 1, 0, none⟩), .int .u8 (codeAt a i), strV (nameOf a (codeAt a i)), .bool a, .func (.func 37) #[] #[.pointer (some ⟨c, 0, none⟩)], .int .u8 (codeAt a i), strV (nameOf a (codeAt a i)), undef, undef, undef, undef], defers := [] })
    (fun x a' => own_of fun xs A B hs hq => hs) ?assign ?body ?done ?stop
  case assign =>
    intro l pre x W K hI hK
    have HI := Lib.hid hI
    have HK := Lib.hid hK
    clear hI hK
    simp only [encO]
    gi_wp2
    exact HK.out _ _ (KeepsFrom.refl _ _) (KeepCW.refl _ _) HI.out rfl
  case body =>
    rintro l pre x a' W hl hrec ⟨hO, hI⟩ rfl hlen
    have OI := Lib.hid hO
    have HI := Lib.hid hI
    have c0 := hO.r0.cell (i := 0) (by omega)
    have c1 := hO.r1.cell (i := 0) (by omega)
    have c2 := hO.r2.cell (i := 0) (by omega)
    have f1 := hO.r1.frozen 0
    have f2 := hO.r2.frozen 0
    obtain ⟨k, hk⟩ : ∃ k, k = codeAt a x := ⟨_, rfl⟩
    rw [← hk]
    have HKX := Lib.hid hk
    unfold strV
    clear hrec hO hI hk
    by_cases hn : nameOf a k = s.toList
    · have hb2 : (nameOf a k == s.toList) = true := by simpa using hn
      have HN := Lib.hid hn
      clear hn
      gi_wp2
      have hk1 : KeepsOthers W ((W.setCell ⟨w.heap.size + 1, 0, none⟩ (.int .u8 k)).setCell ⟨w.heap.size + 1 + 1, 0, none⟩ (.int .i64 0)) := (KeepsOthers.setCell _ _ _).trans (KeepsOthers.setCell _ _ _)
      have k0 : Keeps (One (w.heap.size + 1)) W (W.setCell ⟨w.heap.size + 1, 0, none⟩ (.int .u8 k)) := (Keeps.refl _ _).set1 _ _
      have k1 : Keeps (One (w.heap.size + 1 + 1)) (W.setCell ⟨w.heap.size + 1, 0, none⟩ (.int .u8 k)) ((W.setCell ⟨w.heap.size + 1, 0, none⟩ (.int .u8 k)).setCell ⟨w.heap.size + 1 + 1, 0, none⟩ (.int .i64 0)) := (Keeps.refl _ _).set1 _ _
      have n0 : ∀ j, w.heap.size ≠ w.heap.size + 1 + j := fun j => by omega
      refine ⟨hk1.from _, rfl, x, ⟨(OI.out.below.setCell (p := ⟨w.heap.size + 1, 0, none⟩) (by show w.heap.size ≤ w.heap.size + 1; omega) _).setCell (p := ⟨w.heap.size + 1 + 1, 0, none⟩) (by show w.heap.size ≤ w.heap.size + 1 + 1; omega) _, ?_, ?_, ?_⟩, ?_⟩
      · exact k1.rowIs (k0.rowIs OI.out.r0 (fun e => by have e : w.heap.size = w.heap.size + 1 := e; omega)) (fun e => by have e : w.heap.size = w.heap.size + 1 + 1 := e; omega)
      · rw [← HKX.out]
        exact k1.rowIs (row1_set OI.out.r1 (.int .u8 k)) (fun e => by have e : w.heap.size + 1 = w.heap.size + 1 + 1 := e; omega)
      · exact row1_set (k0.rowIs OI.out.r2 (fun e => by have e : w.heap.size + 1 + 1 = w.heap.size + 1 := e; omega)) (.int .i64 0)
      · intro hx
        rw [List.length_append, List.length_cons, List.length_nil, Nat.zero_add, List.range_succ] at hx
        have h1 := List.append_inj' hx (by simp)
        have h2 : x = pre.length := by simpa using h1.2
        exact ⟨by omega, fun i hi => HI.out h1.1 i (by omega), by rw [← HKX.out]; exact HN.out⟩
    · have hb2 : (nameOf a k == s.toList) = false := by simpa using hn
      have HN := Lib.hid hn
      clear hn
      gi_wp2
      refine ⟨KeepsFrom.refl _ _, KeepCW.refl _ _, OI.out, fun hx i hi => ?_⟩
      rw [List.length_append, List.length_cons, List.length_nil, Nat.zero_add, List.range_succ] at hx
      have h1 := List.append_inj' hx (by simp)
      have h2 : x = pre.length := by simpa using h1.2
      rw [List.length_append, List.length_cons, List.length_nil] at hi
      by_cases he : i = x
      · subst he
        rw [← HKX.out]
        exact HN.out
      · exact HI.out h1.1 i (by omega)
  case done =>
    rintro D xs W hD rfl ⟨hO, hI⟩ hK
    obtain ⟨e1, e2⟩ := opc_none (hI (by rw [List.length_range]) |> fun h i hi => h i (by rw [List.length_range]; exact hi))
    have c1 := hO.r1.cell (i := 0) (by omega)
    have c2 := hO.r2.cell (i := 0) (by omega)
    have f1 := hO.r1.frozen 0
    have f2 := hO.r2.frozen 0
    have HO2 := Lib.hid hO
    have HK := Lib.hid hK
    have E1 := Lib.hid e1
    have E2 := Lib.hid e2
    clear hO hI hK e1 e2
    go_wp2_with fail
    have hKO : KeepsOthers W ((W.setCell ⟨w.heap.size + 1, 0, none⟩ (.int .u8 0)).setCell ⟨w.heap.size + 1 + 1, 0, none⟩ (.int .i64 9)) := (KeepsOthers.setCell _ _ _).trans (KeepsOthers.setCell _ _ _)
    have hK' := hKO.same D _ HK.out rfl
    have k1 : Keeps (One (w.heap.size + 1 + 1)) (W.setCell ⟨w.heap.size + 1, 0, none⟩ (.int .u8 0)) ((W.setCell ⟨w.heap.size + 1, 0, none⟩ (.int .u8 0)).setCell ⟨w.heap.size + 1 + 1, 0, none⟩ (.int .i64 9)) := (Keeps.refl _ _).set1 _ _
    have k0 : Keeps (One (w.heap.size + 1)) W (W.setCell ⟨w.heap.size + 1, 0, none⟩ (.int .u8 0)) := (Keeps.refl _ _).set1 _ _
    have hE := opc_end (hr1 := k1.rowIs (row1_set HO2.out.r1 (.int .u8 0)) (fun e => by have e : w.heap.size + 1 = w.heap.size + 1 + 1 := e; omega)) (hr2 := row1_set (k0.rowIs HO2.out.r2 (fun e => by have e : w.heap.size + 1 + 1 = w.heap.size + 1 := e; omega)) (.int .i64 9)) (hD := hK') (hb := (HO2.out.below.setCell (p := ⟨w.heap.size + 1, 0, none⟩) (by show w.heap.size ≤ w.heap.size + 1; omega) _).setCell (p := ⟨w.heap.size + 1 + 1, 0, none⟩) (by show w.heap.size ≤ w.heap.size + 1 + 1; omega) _) (h3 := by omega)
    obtain ⟨g1, g2, g3⟩ := hE
    refine ⟨by simp, .inl ⟨_, _, rfl, run_takeDeferred hK', ?_⟩⟩
    refine ⟨.tuple #[.int .u8 0, .int .i64 9], by simp [results, Try.f17, go_sem, g1, g2], by rw [E1.out, E2.out], g3⟩
  case stop =>
    rintro D cd pre W hD ⟨k, rfl⟩ ⟨rfl, k1, hO, h1⟩ hK
    obtain ⟨h1, h2, h3⟩ := h1 (by rw [List.length_range])
    obtain ⟨e1, e2⟩ := opc_some h1 h2 h3
    have HO2 := Lib.hid hO
    have HK := Lib.hid hK
    have E1 := Lib.hid e1
    have E2 := Lib.hid e2
    clear hO hK e1 e2 h1 h2 h3
    go_wp2_with fail
    obtain ⟨g1, g2, g3⟩ := opc_end (hr1 := HO2.out.r1) (hr2 := HO2.out.r2) (hD := HK.out) (hb := HO2.out.below) (h3 := by omega)
    refine ⟨by simp, .inl ⟨_, _, rfl, run_takeDeferred HK.out, ?_⟩⟩
    refine ⟨.tuple #[.int .u8 (codeAt a k1), .int .i64 0], by simp [results, Try.f17, go_sem, g1, g2], by rw [E1.out, E2.out], g3⟩
end Go.Proofs.Ytggdjadhenamiaa
