/- memory: logs, where the log is as wanted. -/
import Derived.Test.YtobbnfdflogicaaI
import Derived.Test.YtobbnfdflogicaaR
namespace Go.Proofs.Ytobbnfdflogicaa
open Go.RowKit Go.Shelf
attribute [local go_sem] Oper.semAt_some

/-- The slice at ao holds the spans S. -/
def SpanSrc (w : World) (ao : Option Addr) (S : List (Nat × Nat)) : Prop :=
  0 < S.length → ∃ g o, ao = some ⟨g, o, none⟩ ∧ ∀ i (h : i < S.length), w.cell? ⟨g, o + i * 3, none⟩ = some (.int .u64 (S[i]'h).1) ∧
    w.cell? ⟨g, o + i * 3 + 1, none⟩ = some (.int .i64 (S[i]'h).2) ∧ w.cell? ⟨g, o + i * 3 + 2, none⟩ = some (.bool false)

theorem SpanSrc.of {w w' : World} {ao : Option Addr} {S : List (Nat × Nat)} (h : SpanSrc w ao S) (hc : ∀ p v, w.cell? p = some v → w'.cell? p = some v) : SpanSrc w' ao S := fun h0 => by
  obtain ⟨g, o, e, hx⟩ := h h0
  exact ⟨g, o, e, fun i hi => ⟨hc _ _ (hx i hi).1, hc _ _ (hx i hi).2.1, hc _ _ (hx i hi).2.2⟩⟩

@[go_sem] theorem eqnil_seq (w : World) (k : Nat) (x y : Array Value) : (binOp .eql 37 (.func (.func k) x y) .nilFunc).run Try.prog w = .ok (.bool false) w := by kernel_rfl

theorem sizeSpan : (Try.prog.info? 35).map (·.size) = some 3 := by kernel_rfl

/-- What lies in memory between two rounds of logs. -/
structure LogsInv (w : World) (s0 from' n c kb : Nat) (ao : Option Addr) (many : Int) (k : Nat) (W : World) : Prop where
  c0 : W.cell? ⟨w.heap.size, 0, none⟩ = some (.int .i64 from')
  c1 : W.cell? ⟨w.heap.size + 1, 0, none⟩ = some (.slice ao n c)
  c2 : W.cell? ⟨w.heap.size + 1 + 1, 0, none⟩ = some (.int .i64 many)
  r3 : W.rowIs (w.heap.size + 1 + 1 + 1) 4 1 (fun _ => .bool false)
  rk : W.rowIs kb 3 1 (fun _ => .int .i64 k)
  below : Below w.heap.size w W
  size : s0 ≤ W.heap.size

theorem LogsInv.quiet {w A B : World} {N s0 from' n c kb : Nat} {ao : Option Addr} {many : Int} {k : Nat} (h : LogsInv w s0 from' n c kb ao many k A) (q : Quiet N A B) (hN : w.heap.size ≤ N) : LogsInv w s0 from' n c kb ao many k B :=
  ⟨q.cell h.c0, q.cell h.c1, q.cell h.c2, q.rowIs h.r3, q.rowIs h.rk, q.below h.below hN, Nat.le_trans h.size q.size⟩

/-- between two rounds -/
def LogsI (w : World) (s0 from' n c kb : Nat) (ao : Option Addr) (many : Int) (pre : List Nat) (W : World) : Prop :=
  pre = List.range pre.length ∧ (pre.length = 0 ∨ (pre.length : Int) < many) ∧ LogsInv w s0 from' n c kb ao many pre.length W
/-- behind a round that left: by a return (what came was not the next write), or by a break -/
def LogsX (w : World) (s0 from' n c kb : Nat) (ao : Option Addr) (many : Int) (cd : Code) (pre : List Nat) (W : World) : Prop :=
  (cd = .ret ∧ pre ≠ List.range pre.length) ∨ (cd = .exit 0 ∧ pre = List.range pre.length ∧ pre.length ≤ n ∧ many ≤ pre.length ∧ 1 ≤ pre.length ∧ (pre.length = 1 ∨ (pre.length : Int) - 1 < many) ∧ LogsInv w s0 from' n c kb ao many pre.length W)

theorem LogsInv.step {w W : World} {s0 from' n c kb : Nat} {ao : Option Addr} {many : Int} {k : Nat} (nq : Nat) (h : LogsInv w s0 from' n c kb ao many k W) (hkb : w.heap.size + 1 + 1 + 1 < kb) :
    LogsInv w s0 from' n c kb ao many (k + 1) ((W.drewN nq).setCell ⟨kb, 0, none⟩ (.int .i64 ((k : Int) + 1))) := by
  have hk : Keeps (One kb) (W.drewN nq) ((W.drewN nq).setCell ⟨kb, 0, none⟩ (.int .i64 ((k : Int) + 1))) := (Keeps.refl _ _).set1 _ _
  have hd : Keeps (One kb) W (W.drewN nq) := ⟨rfl, rfl, rfl, Nat.le_refl _, fun _ _ _ => rfl⟩
  have hk := hd.trans hk
  refine ⟨hk.cell h.c0 (fun e => ?_), hk.cell h.c1 (fun e => ?_), hk.cell h.c2 (fun e => ?_), hk.rowIs h.r3 (fun e => ?_), ?_, ?_, ?_⟩
  · have e : w.heap.size = kb := e; omega
  · have e : w.heap.size + 1 = kb := e; omega
  · have e : w.heap.size + 1 + 1 = kb := e; omega
  · have e : w.heap.size + 1 + 1 + 1 = kb := e; omega
  · exact (World.rowIs.set (w := W.drewN nq) h.rk 0 _).congr fun i hi => by
      have : i = 0 := by omega
      subst this; rfl
  · exact h.below.trans (hk.below (B := w.heap.size) h.below.size (fun k hk e => by have e : k = kb := e; omega))
  · have := h.size
    rw [World.size_setCell]; exact this

theorem logs_end {w W : World} {s0 from' n c kb D : Nat} {ao : Option Addr} {many : Int} {k : Nat} (h : LogsInv w s0 from' n c kb ao many k W) (hD : s0 ≤ D) (hw : w.heap.size ≤ s0) (hK : W.heap[D]? = some (.deferred (some []))) :
    (W.setCell ⟨w.heap.size + 1 + 1 + 1, 0, none⟩ (.bool true)).heap[D]? = some (.deferred (some [])) ∧
    (((W.setCell ⟨w.heap.size + 1 + 1 + 1, 0, none⟩ (.bool true)).putObj D (.deferred none)).cell? ⟨w.heap.size + 1 + 1 + 1, 0, none⟩ = some (.bool true)) ∧
    Below w.heap.size w ((W.setCell ⟨w.heap.size + 1 + 1 + 1, 0, none⟩ (.bool true)).putObj D (.deferred none)) := by
  have e3 := h.r3.cell (i := 0) (by omega)
  have hK' := (KeepsOthers.setCell W ⟨w.heap.size + 1 + 1 + 1, 0, none⟩ (.bool true)).same D _ hK rfl
  refine ⟨hK', cell_kept (World.cell?_setCell_same' W ⟨w.heap.size + 1 + 1 + 1, 0, none⟩ (.bool true) (by rw [e3]; rfl)) (grownBy_putObj' _ D (.deferred none)) (fun r e => by cases e; exact ⟨_, hK', rfl⟩), ?_⟩
  exact (h.below.setCell (p := ⟨w.heap.size + 1 + 1 + 1, 0, none⟩) (by show w.heap.size ≤ w.heap.size + 1 + 1 + 1; omega) _).trans (belowK_b (w := w) (Nat.le_refl _) _ D _ _ (by omega) hK' rfl rfl)

set_option maxRecDepth 100000 in
set_option maxHeartbeats 2000000 in
theorem logs_true (p : Value) (L : List (Nat × Nat)) (ao : Option Addr) (c : Nat) (many : Int) (w : World) (hL : L.length < 4611686018427387904)
    (hm : -9223372036854775808 ≤ many) (hm' : many ≤ 9223372036854775807)
    (hS : SpanSrc w ao (L.drop (L.length - 256)))
    (HW : ∀ W, Below w.heap.size w W → Calls Try.prog 13 #[p] W fun e w' => ∃ g, e = .returned (.func (.func 30) #[] #[.pointer (some ⟨g, 0, none⟩)]) ∧ JAt w' g L ∧ W.heap.size ≤ g ∧ Below W.heap.size W w') :
   Calls Try.prog 14 #[p, .int .i64 (L.length - 256 : Nat), .slice ao (L.length - (L.length - 256)) c, .int .i64 many] w fun e w' => e = .returned (.bool true) ∧ Below w.heap.size w w' := by
  obtain ⟨from', hfrom⟩ : ∃ f, f = L.length - 256 := ⟨_, rfl⟩
  obtain ⟨n, hn⟩ : ∃ n, n = L.length - from' := ⟨_, rfl⟩
  rw [← hfrom] at hS ⊢
  rw [← hn]
  have Hfrom := Lib.hid hfrom
  have Hn := Lib.hid hn
  have HH := Lib.hid HW
  have HS := Lib.hid hS
  have hnb : n ≤ 256 := by omega
  have hfb : from' < 4611686018427387904 := by omega
  clear hfrom hn HW hS
  refine calls_marks Try.func14 rfl ?_
  simp only [Try.ntmps14, List.size_toArray, List.length_cons, List.length_nil, Nat.reduceAdd, Nat.reduceSub, Array.replicate_succ, Array.replicate_zero, List.push_toArray, List.append_toArray, List.nil_append, List.cons_append]
  go_wp2_with fail
  obtain ⟨w1, hw1⟩ : ∃ w1, w1 = (((w.alloc (.cells #[.int .i64 from'] 3)).alloc (.cells #[.slice ao n c] 28)).alloc (.cells #[.int .i64 many] 3)).alloc (.cells #[.bool false] 4) := ⟨_, rfl⟩
  rw [← hw1]
  have hb1 : Below w.heap.size w w1 := by rw [hw1]; exact ((((Below.refl _ w).alloc (Nat.le_refl _) _).alloc (by simp) _).alloc (by simp; omega) _).alloc (by simp; omega) _
  have hs1 : w1.heap.size = w.heap.size + 4 := by rw [hw1]; simp
  have c0 : w1.cell? ⟨w.heap.size, 0, none⟩ = some (.int .i64 from') := by rw [hw1]; go_simp
  have c1 : w1.cell? ⟨w.heap.size + 1, 0, none⟩ = some (.slice ao n c) := by rw [hw1]; go_simp
  have c2 : w1.cell? ⟨w.heap.size + 1 + 1, 0, none⟩ = some (.int .i64 many) := by rw [hw1]; go_simp
  have r3 : w1.rowIs (w.heap.size + 1 + 1 + 1) 4 1 (fun _ => .bool false) := by
    rw [hw1]
    have := World.rowIs_alloc (((w.alloc (.cells #[.int .i64 from'] 3)).alloc (.cells #[.slice ao n c] 28)).alloc (.cells #[.int .i64 many] 3)) #[.bool false] 4 (fun _ => .bool false) (fun i hi => by simp at hi; subst hi; rfl)
    simpa using this
  clear hw1
  refine (HH.out w1 hb1).mono ?_
  rintro e w2 ⟨g, rfl, hJ, hg, hb2⟩
  have d0 := (hb2.cell (p := ⟨w.heap.size, 0, none⟩) (by rw [hs1]; show w.heap.size < _; omega)).trans c0
  have d1 := (hb2.cell (p := ⟨w.heap.size + 1, 0, none⟩) (by rw [hs1]; show w.heap.size + 1 < _; omega)).trans c1
  have d2 := (hb2.cell (p := ⟨w.heap.size + 1 + 1, 0, none⟩) (by rw [hs1]; show w.heap.size + 1 + 1 < _; omega)).trans c2
  have hr3 : w2.rowIs (w.heap.size + 1 + 1 + 1) 4 1 (fun _ => .bool false) := r3.of_block (hb2.block _ (by omega))
  have hb2' := hb1.trans (hb2.mono (by omega))
  have hs2 := hb2.size
  have hgw2 : g < w2.heap.size := hJ.choose_spec.1.lt
  clear c0 c1 c2 r3 hb1 hb2 HH
  have hJ' := Lib.hid hJ
  clear hJ
  go_wp2_with fail
  obtain ⟨W0, hW0⟩ : ∃ W0, W0 = w2.alloc (.cells #[.int .i64 0] 3) := ⟨_, rfl⟩
  rw [← hW0]
  have hs0 : W0.heap.size = w2.heap.size + 1 := by rw [hW0]; simp
  have hk0 : Keeps (fun _ => False) w2 W0 := by rw [hW0]; exact (Keeps.refl _ _).alloc _
  have hinv : LogsInv w W0.heap.size from' n c w2.heap.size ao many 0 W0 := by
    refine ⟨hk0.cell d0 (fun h => h), hk0.cell d1 (fun h => h), hk0.cell d2 (fun h => h), ?_, ?_, ?_, Nat.le_refl _⟩
    · exact hk0.rowIs hr3 (fun h => h)
    · rw [hW0]; exact World.rowIs_alloc w2 #[.int .i64 0] 3 (fun _ => .int .i64 (0 : Nat)) (fun i hi => by simp at hi; subst hi; rfl)
    · exact hb2'.trans (by rw [hW0]; exact (Below.refl _ _).alloc hb2'.size _)
  have hJ0 := hJ'.out.kept hk0 (fun h => h)
  have hgW0 : g < W0.heap.size := hJ0.choose_spec.1.lt
  have hst := Lib.hid (writes1_stops 8 (by omega) g L hL W0 hJ0)
  have hinv' := Lib.hid hinv
  have hs0' : w2.heap.size < W0.heap.size := by omega
  have hs1' : w.heap.size + 1 + 1 + 1 < w1.heap.size := by omega
  clear d0 d1 d2 hr3 hb2' hJ' hJ0 hinv hk0 hW0 hs0 hs1
  refine wp_range (gf := 30) (lb := #[.pointer (some ⟨g, 0, none⟩)]) rfl (enters_of Try.func30 (by kernel_rfl) rfl) hst.out
    (fun h k => Eq.trans k h) (fun W l o o' hl _ _ _ => World.putObj_heap_other (by omega)) (fun _ => rfl)
    (LogsI w W0.heap.size from' n c w2.heap.size ao many) (LogsX w W0.heap.size from' n c w2.heap.size ao many)
    (own_of fun s A B hs hq => ⟨hs.1, hs.2.1, hs.2.2.quiet hq (by omega)⟩)
    (fun cd => own_of fun s A B hs hq => hs.imp (fun h => h) (fun h => ⟨h.1, h.2.1, h.2.2.1, h.2.2.2.1, h.2.2.2.2.1, h.2.2.2.2.2.1, h.2.2.2.2.2.2.quiet hq (by omega)⟩))
    ⟨rfl, .inl rfl, hinv'.out⟩
    (fun j a' W => ∃ sb, W0.heap.size ≤ sb ∧ W.rowIs sb 35 3 (fun i => if i = 0 then .int .u64 (L.getD (from' + j) (0, 0)).1 else if i = 1 then .int .i64 (L.getD (from' + j) (0, 0)).2 else .bool false) ∧
      a' = { tmps := #[p, .int .i64 from', .slice ao n c, .int .i64 many, undef, .pointer (some ⟨w.heap.size, 0, none⟩), .pointer (some ⟨w.heap.size + 1, 0, none⟩), .pointer (some ⟨w.heap.size + 1 + 1, 0, none⟩), .pointer (some ⟨w.heap.size + 1 + 1 + 1, 0, none⟩),
          .func (.func 30) #[] #[.pointer (some ⟨g, 0, none⟩)], .pointer (some ⟨w2.heap.size, 0, none⟩), .int .i64 ((from' + j : Nat) : Int), .pointer (some ⟨sb, 0, none⟩), p,
          .func (.func 30) #[] #[.pointer (some ⟨g, 0, none⟩)], .func (.func 30) #[] #[.pointer (some ⟨g, 0, none⟩)], .bool false, .func (.func 30) #[] #[.pointer (some ⟨g, 0, none⟩)],
          .int .i64 ((from' + j : Nat) : Int), .agg #[.int .u64 (L.getD (from' + j) (0, 0)).1, .int .i64 (L.getD (from' + j) (0, 0)).2, .bool false],
          undef, undef, undef, undef, undef, undef, undef, undef, undef, undef, undef, undef, undef, undef, undef,
          undef, undef, undef, undef, undef, undef, undef, undef, undef, undef, undef, undef, undef, undef, undef, undef], defers := [] })
    (fun x a' => own_of fun s A B hs hq => by obtain ⟨sb, h1, h2, h3⟩ := hs; exact ⟨sb, h1, hq.rowIs h2, h3⟩) ?assign ?body ?done ?stop
  case assign =>
    intro l pre x W K hI hK
    have HI := Lib.hid hI
    have hbs := hI.2.2.size
    have e := Hfrom.out.symm
    simp only [encW, e]
    generalize L.getD (from' + x) (0, 0) = s at *
    have hK' := Lib.hid hK
    clear hI hK e
    gi_wp2
    refine hK'.out _ _ ((KeepsOthers.alloc _ _).from _) (Below.heap_alloc _ _ _ (by omega)) ?_ ⟨W.heap.size, hbs, ?_, rfl⟩
    · obtain ⟨h1, h2, h3⟩ := HI.out
      exact ⟨h1, h2, h3.quiet (Quiet.alloc (w.heap.size) W _) (Nat.le_refl _)⟩
    · exact World.rowIs_alloc W _ 35 _ (fun i hi => by
        match i, hi with
        | 0, _ => rfl
        | 1, _ => rfl
        | 2, _ => rfl)
  case body =>
    rintro l pre x a' W hl hrec ⟨hI1, hI2, hI3⟩ ⟨sb, hsb, hrs, rfl⟩ hlen
    have hln : pre.length < n := by have := Hfrom.out; have := Hn.out; unfold Go.Proofs.Ytobbnfdflogicaa.many at hlen; omega
    have HL := Lib.hid hrec
    obtain ⟨k, hk⟩ : ∃ k, k = pre.length := ⟨_, rfl⟩
    rw [← hk] at hI1 hI2 hI3 hln
    have e0 := hI3.c0
    have e1 := hI3.c1
    have e2 := hI3.c2
    have e3 := hI3.r3.cell (i := 0) (by omega)
    have e3f := hI3.r3.frozen 0
    have ek := hI3.rk.cell (i := 0) (by omega)
    have ekf := hI3.rk.frozen 0
    have s0 := hrs.cell (i := 0) (by omega)
    have s1 := hrs.cell (i := 1) (by omega)
    have s2 := hrs.cell (i := 2) (by omega)
    rw [if_pos rfl] at s0
    rw [if_neg (by omega), if_pos rfl] at s1
    rw [if_neg (by omega), if_neg (by omega)] at s2
    have HI1 := Lib.hid hI1
    have HI2 := Lib.hid hI2
    have HI3 := Lib.hid hI3
    have HK := Lib.hid hk
    obtain ⟨s, hs⟩ : ∃ s, s = L.getD (from' + x) (0, 0) := ⟨_, rfl⟩
    rw [← hs] at s0 s1 ⊢
    have HSv := Lib.hid hs
    clear hrec hI1 hI2 hI3 hk hrs hlen hs
    by_cases hxk : x = k
    · subst hxk
      have d1 : decide (n ≤ x) = false := by simp; omega
      have hLl : (L.drop from').length = n := by rw [List.length_drop]; exact Hn.out.symm
      obtain ⟨gw, ow, rfl, hw⟩ := HS.out (by omega)
      obtain ⟨w0, w1', w2'⟩ := hw x (by omega)
      have hgs : (L.drop from')[x]'(by omega) = s := by
        rw [HSv.out]; simp only [List.getElem_drop]
        have : from' + x < L.length := by have := Hn.out; omega
        simp [this]
      rw [hgs] at w0 w1'
      have v0 := (HI3.out.below.cell (World.block_lt_of_cell? _ _ w0)).trans w0
      have v1 := (HI3.out.below.cell (World.block_lt_of_cell? _ _ w1')).trans w1'
      have v2 := (HI3.out.below.cell (World.block_lt_of_cell? _ _ w2')).trans w2'
      clear hw w0 w1' w2' hgs hLl
      gi_wp2
      refine wpIn_quiet_round (by kernel_rfl) (by kernel_rfl) (by kernel_rfl) (by rintro ⟨_, _, h⟩; exact h) ?_
      repeat (go_big_quiet_step (fail))
      refine wpQuiet_nil ?_
      intro _ hw'
      obtain ⟨nq, hw''⟩ := hw'
      subst hw''
      by_cases hmx : many ≤ (x : Int) + 1
      · gi_wp2
        have hI := HI3.out.step nq (by omega)
        refine ⟨KeepsFrom.of_keeps (S := One w2.heap.size) (((Keeps.refl _ W).drewN nq).set1 _ _) (fun k e => by have e : k = w2.heap.size := e; omega), .inr ⟨rfl, ?_, ?_, ?_, ?_, ?_, ?_⟩⟩
        · rw [List.length_append, ← HK.out, HI1.out]; exact List.range_succ.symm
        · rw [List.length_append, ← HK.out]; simp; omega
        · rw [List.length_append, ← HK.out]; simp; omega
        · rw [List.length_append, ← HK.out]; simp
        · rw [List.length_append, ← HK.out]; simp; have := HI2.out; omega
        · rw [List.length_append, ← HK.out]; exact hI
      · gi_wp2
        have hI := HI3.out.step nq (by omega)
        refine ⟨KeepsFrom.of_keeps (S := One w2.heap.size) (((Keeps.refl _ W).drewN nq).set1 _ _) (fun k e => by have e : k = w2.heap.size := e; omega), ?_, ?_, ?_, ?_⟩
        · exact Below.heap_setCell _ _ _ _ (by show g ≠ w2.heap.size; omega)
        · rw [List.length_append, ← HK.out, HI1.out]; exact List.range_succ.symm
        · right; rw [List.length_append, ← HK.out]; simp; omega
        · rw [List.length_append, ← HK.out]; exact hI
    · have d1 : decide (n ≤ k) = false := by simp; omega
      have d2 : (((from' : Int) + (x : Int)) != (from' : Int) + (k : Int)) = true := by simp; omega
      gi_wp2
      refine wpIn_quiet_round (by kernel_rfl) (by kernel_rfl) (by kernel_rfl) (by rintro ⟨_, _, h⟩; exact h) ?_
      repeat (go_big_quiet_step (fail))
      refine wpQuiet_nil ?_
      intro _ hw'
      obtain ⟨nq, hw''⟩ := hw'
      subst hw''
      gi_wp2
      refine ⟨KeepsFrom.of_keeps (S := One (w.heap.size + 1 + 1 + 1)) (((Keeps.refl _ W).drewN nq).set1 _ _) (fun k e => by have e : k = w.heap.size + 1 + 1 + 1 := e; omega), .inl ⟨rfl, fun e => hxk ?_⟩⟩
      rw [List.length_append, ← HK.out, HI1.out, List.length_cons, List.length_nil, Nat.zero_add, List.range_succ] at e
      simpa using e
  case done =>
    rintro D xs W hD rfl hI hK
    obtain ⟨-, hI2, hI3⟩ := hI
    rw [List.length_range] at hI2 hI3
    have hmn : Go.Proofs.Ytobbnfdflogicaa.many L = n := by have := Hfrom.out; have := Hn.out; unfold Go.Proofs.Ytobbnfdflogicaa.many; omega
    rw [hmn] at hI2 hI3
    have e1 := hI3.c1
    have e2 := hI3.c2
    have e3 := hI3.r3.cell (i := 0) (by omega)
    have e3f := hI3.r3.frozen 0
    have ek := hI3.rk.cell (i := 0) (by omega)
    have HF := Lib.hid (logs_end hI3 hD (by omega) hK)
    have HI2 := Lib.hid hI2
    clear hI2 hI3 hK hmn
    have h2 := HI2.out
    by_cases h1 : 1 < many
    · have hA : (n : Int) ≤ many := by omega
      clear h2
      go_wp2
      obtain ⟨f1, f2, f3⟩ := HF.out
      refine ⟨by simp, .inl ⟨_, _, rfl, run_takeDeferred f1, ?_⟩⟩
      refine ⟨.bool true, ?_, rfl, f3⟩
      simp [results, Try.f14, go_sem, f2]
    · have hA : (n : Int) ≤ 1 := by omega
      clear h2
      go_wp2
      obtain ⟨f1, f2, f3⟩ := HF.out
      refine ⟨by simp, .inl ⟨_, _, rfl, run_takeDeferred f1, ?_⟩⟩
      refine ⟨.bool true, ?_, rfl, f3⟩
      simp [results, Try.f14, go_sem, f2]
  case stop =>
    rintro D cd pre W hD ⟨k, rfl⟩ hX hK
    rcases hX with ⟨-, hX⟩ | ⟨rfl, -, hX1, hX2, hX3, hX4, hI3⟩
    · rw [List.length_range] at hX; exact absurd rfl hX
    · rw [List.length_range] at hX1 hX2 hX3 hX4 hI3
      have e1 := hI3.c1
      have e2 := hI3.c2
      have e3 := hI3.r3.cell (i := 0) (by omega)
      have e3f := hI3.r3.frozen 0
      have ek := hI3.rk.cell (i := 0) (by omega)
      have HF := Lib.hid (logs_end hI3 hD (by omega) hK)
      clear hI3 hK
      have hX1' : (k : Int) ≤ n := by omega
      by_cases h1 : 1 < many
      · have hk : ((k : Int) == many) = true := by simp; omega
        have hk2 : ((k : Int) == n) = decide (k = n) := by
          by_cases e : k = n
          · subst e; simp
          · simp [e]; omega
        by_cases hkn : k = n
        · have hd := decide_eq_true hkn
          have hA : (n : Int) ≤ many := by omega
          clear hX1 hX4 hkn
          go_wp2
          obtain ⟨f1, f2, f3⟩ := HF.out
          refine ⟨by simp, .inl ⟨_, _, rfl, run_takeDeferred f1, ?_⟩⟩
          refine ⟨.bool true, ?_, rfl, f3⟩
          simp [results, Try.f14, go_sem, f2]
        · have hA : ¬ (n : Int) ≤ many := by omega
          have hA' : many < (n : Int) := by omega
          clear hX1 hX4 hkn
          go_wp2
          obtain ⟨f1, f2, f3⟩ := HF.out
          refine ⟨by simp, .inl ⟨_, _, rfl, run_takeDeferred f1, ?_⟩⟩
          refine ⟨.bool true, ?_, rfl, f3⟩
          simp [results, Try.f14, go_sem, f2]
      · have hk : ((k : Int) == 1) = true := by simp; omega
        have hk2 : ((k : Int) == n) = decide (k = n) := by
          by_cases e : k = n
          · subst e; simp
          · simp [e]; omega
        by_cases hkn : k = n
        · have hd := decide_eq_true hkn
          have hA : (n : Int) ≤ 1 := by omega
          clear hX1 hX4 hkn
          go_wp2
          obtain ⟨f1, f2, f3⟩ := HF.out
          refine ⟨by simp, .inl ⟨_, _, rfl, run_takeDeferred f1, ?_⟩⟩
          refine ⟨.bool true, ?_, rfl, f3⟩
          simp [results, Try.f14, go_sem, f2]
        · have hA : ¬ (n : Int) ≤ 1 := by omega
          have hA' : (1 : Int) < n := by omega
          clear hX1 hX4 hkn
          go_wp2
          obtain ⟨f1, f2, f3⟩ := HF.out
          refine ⟨by simp, .inl ⟨_, _, rfl, run_takeDeferred f1, ?_⟩⟩
          refine ⟨.bool true, ?_, rfl, f3⟩
          simp [results, Try.f14, go_sem, f2]
end Go.Proofs.Ytobbnfdflogicaa
