/- memory: the law MemoryLogs returns true and writes to nothing that was there. -/
import Derived.Test.YtobbnfdflogicaaK
import Derived.Test.YtobbnfdflogicaaR2
import Derived.Deep.CutRange
namespace Go.Proofs.Ytobbnfdflogicaa
open Go.RowKit Go.Shelf
attribute [local go_sem] Oper.semAt_some

/-- The cells of the spans S, in a row. -/
def spanCells (S : List (Nat × Nat)) : List Value := S.flatMap fun s => [.int .u64 s.1, .int .i64 s.2, .bool false]

theorem infoSpan : (Try.prog.info? 35).map (fun i => (i.zero, i.size, i.bytes)) = some (some (.agg #[.int .u64 0, .int .i64 0, .bool false]), 3, 24) := by kernel_rfl

theorem spanCells_append (S : List (Nat × Nat)) (s : Nat × Nat) : spanCells (S ++ [s]) = spanCells S ++ [.int .u64 s.1, .int .i64 s.2, .bool false] := by simp [spanCells]
theorem spanCells_length : ∀ S : List (Nat × Nat), (spanCells S).length = S.length * 3
  | [] => rfl
  | s :: S => by
    have := spanCells_length S
    simp only [spanCells, List.flatMap_cons, List.length_append, List.length_cons, List.length_nil] at this ⊢
    omega
theorem spanCells_get : ∀ (S : List (Nat × Nat)) (i : Nat) (h : i < S.length), (spanCells S)[i * 3]? = some (.int .u64 (S[i]'h).1) ∧ (spanCells S)[i * 3 + 1]? = some (.int .i64 (S[i]'h).2) ∧ (spanCells S)[i * 3 + 2]? = some (.bool false)
  | s :: S, 0, _ => ⟨rfl, rfl, rfl⟩
  | s :: S, i + 1, h => by
    have := spanCells_get S i (by simpa using h)
    have e : spanCells (s :: S) = .int .u64 s.1 :: .int .i64 s.2 :: .bool false :: spanCells S := rfl
    rw [e, show (i + 1) * 3 = i * 3 + 3 by omega, show i * 3 + 3 + 1 = (i * 3 + 1) + 3 by omega, show i * 3 + 3 + 2 = (i * 3 + 2) + 3 by omega]
    exact this

theorem ownsRow_keeps {w w' : World} {S : Nat → Prop} {base e size n : Nat} {v : Value} {xs : List Value} (h : w.ownsRow base e size v n xs) (k : Keeps S w w') (hS : ∀ j, base ≤ j → ¬ S j) : w'.ownsRow base e size v n xs := by
  refine ⟨h.1, h.2.imp (fun h => h) ?_⟩
  rintro ⟨g, cap, cur, rfl, hb, hg, rest⟩
  exact ⟨g, cap, cur, rfl, hb, (k.block g (lt_of_block hg) (hS g hb)).trans hg, rest⟩

theorem ownsRow_shape {w : World} {base e size n : Nat} {v : Value} {xs : List Value} (h : w.ownsRow base e size v n xs) : ∃ ao c, v = .slice ao n c ∧ n ≤ c ∧ c ≤ maxLen := by
  rcases h.2 with ⟨rfl, rfl⟩ | ⟨g, cap, cur, rfl, -, -, h1, h2, -⟩
  · exact ⟨_, _, rfl, Nat.le_refl _, Nat.zero_le _⟩
  · exact ⟨_, _, rfl, h1, h2⟩

theorem ownsRow_span {w : World} {base c : Nat} {ao : Option Addr} {S : List (Nat × Nat)} (h : w.ownsRow base 35 3 (.slice ao S.length c) S.length (spanCells S)) : SpanSrc w ao S := by
  intro h0
  rcases h.2 with ⟨-, h1⟩ | ⟨g, cap, cur, e, hb, hg, rest⟩
  · omega
  · cases e
    refine ⟨g, 0, rfl, fun i hi => ?_⟩
    have hc := h.cells (g := g) rfl
    obtain ⟨h1, h2, h3⟩ := spanCells_get S i hi
    have e1 := hc _ _ h1
    have e2 := hc _ _ h2
    have e3 := hc _ _ h3
    simp only [Addr.add_mid] at e1 e2 e3
    exact ⟨e1, e2, e3⟩

theorem SpanSrc.drop {w : World} {ao : Option Addr} {L : List (Nat × Nat)} {fr c : Nat} (h : SpanSrc w ao L) (hc : L.length ≤ c) : SpanSrc w (if c = fr then ao else Option.map (fun x => x.add (fr * 3)) ao) (L.drop fr) := by
  intro h0
  rw [List.length_drop] at h0
  obtain ⟨g, o, rfl, hx⟩ := h (by omega)
  rw [if_neg (by omega)]
  refine ⟨g, o + fr * 3, by simp [Addr.add_mid], fun i hi => ?_⟩
  rw [List.length_drop] at hi
  obtain ⟨h1, h2, h3⟩ := hx (fr + i) (by omega)
  rw [show o + (fr + i) * 3 = o + fr * 3 + i * 3 by omega] at h1 h2 h3
  simp only [List.getElem_drop]
  exact ⟨h1, h2, h3⟩

set_option maxRecDepth 100000 in
theorem logs_mem (b B size : Nat) (f : Nat → Int) (L : List (Nat × Nat)) (ao : Option Addr) (c fr n : Nat) (many : Int) (w : World) (h : MemAt w b B size f L) (hL : L.length < 4611686018427387904)
    (hm : -9223372036854775808 ≤ many) (hm' : many ≤ 9223372036854775807) (hfr : fr = L.length - 256) (hn : n = L.length - fr) (hS : SpanSrc w ao (L.drop fr)) :
   Calls Try.prog 14 #[.pointer (some ⟨b, 0, none⟩), .int .i64 fr, .slice ao n c, .int .i64 many] w fun e w' => e = .returned (.bool true) ∧ Below w.heap.size w w' := by
  subst hfr hn
  exact logs_true _ L ao c many w hL hm hm' hS (fun W hb => writes_ok b B size f L W (h.below hb))

/-- What the loop of MemoryLogs keeps. -/
structure WrInv (w : World) (A : Nat) (k : Nat) (W : World) (L : List (Nat × Nat)) (ao : Option Addr) (c : Nat) : Prop where
  len : L.length = k
  all : W.rowIs A 28 1 (fun _ => .slice ao k c)
  owns : W.ownsRow (A + 1) 35 3 (.slice ao k c) k (spanCells L)
  res : W.rowIs w.heap.size 4 1 (fun _ => .bool false)
  below : Below w.heap.size w W
  size : A < W.heap.size

theorem WrInv.keeps {w W W' : World} {A k c : Nat} {L : List (Nat × Nat)} {ao : Option Addr} {S : Nat → Prop} (h : WrInv w A k W L ao c) (k' : Keeps S W W') (hS : ∀ j, S j → w.heap.size < j ∧ j < A) : WrInv w A k W' L ao c :=
  ⟨h.len, k'.rowIs h.all (fun e => by have := hS _ e; omega), ownsRow_keeps h.owns k' (fun j hj e => by have := hS _ e; omega), k'.rowIs h.res (fun e => by have := hS _ e; omega),
    ⟨k'.os.trans h.below.os, k'.tape.trans h.below.tape, k'.output.trans h.below.output, Nat.le_trans h.below.size k'.size, fun j hj =>
      (k'.block j (by have := h.res.lt; omega) (fun e => by have := hS _ e; omega)).trans (h.below.block j hj)⟩, Nat.lt_of_lt_of_le h.size k'.size⟩

theorem WrInv.step {w W W' : World} {A k c : Nat} {L : List (Nat × Nat)} {ao : Option Addr} {o : Obj} {v : Value} {s : Nat × Nat} (h : WrInv w A k W L ao c) (hA : w.heap.size < A) (hg : (W.alloc o).grownBy W' (Value.slice ao k c).ownBlock)
    (ho : W'.ownsRow (A + 1) 35 3 v (k + 1) (spanCells L ++ [.int .u64 s.1, .int .i64 s.2, .bool false])) :
    W'.rowIs A 28 1 (fun _ => .slice ao k c) ∧ ∃ ao' c', v = .slice ao' (k + 1) c' ∧ WrInv w A (k + 1) (W'.setCell ⟨A, 0, none⟩ v) (L ++ [s]) ao' c' := by
  have hlt := h.owns.lt
  have hs := h.size
  have hne : ∀ j, j ≤ A → some j ≠ (Value.slice ao k c).ownBlock := fun j hj e => by have := hlt j e.symm; omega
  have hblk : ∀ j, j ≤ A → W'.heap[j]? = W.heap[j]? := fun j hj => (hg.block j (by simp; omega) (hne j hj)).trans (Below.heap_alloc _ _ _ (by omega))
  have hsz : W.heap.size < W'.heap.size := by have := hg.size; simp at this; omega
  have hall := h.all.of_block (hblk A (Nat.le_refl _))
  obtain ⟨ao', c', rfl, hc1, hc2⟩ := ownsRow_shape ho
  have hk : Keeps (One A) W' (W'.setCell ⟨A, 0, none⟩ (.slice ao' (k + 1) c')) := (Keeps.refl _ _).set1 _ _
  refine ⟨hall, ao', c', rfl, by simp [h.len], ?_, ?_, ?_, ?_, ?_⟩
  · exact (World.rowIs.set hall 0 _).congr fun i hi => by
      have : i = 0 := by omega
      subst this; rfl
  · rw [spanCells_append]; exact ownsRow_keeps ho hk (fun j hj e => by have e : j = A := e; omega)
  · exact hk.rowIs (h.res.of_block (hblk _ (by omega))) (fun e => by have e : w.heap.size = A := e; omega)
  · refine ⟨hk.os.trans (hg.os.trans h.below.os), hk.tape.trans (hg.tape.trans h.below.tape), hk.output.trans (hg.output.trans h.below.output), by have := h.below.size; have := hk.size; omega, fun j hj => ?_⟩
    exact (hk.block j (by omega) (fun e => by have e : j = A := e; omega)).trans ((hblk j (by omega)).trans (h.below.block j hj))
  · rw [World.size_setCell]; omega

theorem MemAt.quiet {N : Nat} {A B : World} {b b' size : Nat} {f : Nat → Int} {L : List (Nat × Nat)} (h : MemAt A b b' size f L) (q : Quiet N A B) : MemAt B b b' size f L := by
  obtain ⟨h1, h2, G, cap, F, h4, h5, h6, h7, h8, h9⟩ := h
  exact ⟨h1, h2, G, cap, F, q.rowIs h4, h5, h6, h7, q.rowIs h8, h9⟩

theorem WrInv.quiet {N : Nat} {w W W' : World} {A k c : Nat} {L : List (Nat × Nat)} {ao : Option Addr} (h : WrInv w A k W L ao c) (q : Quiet N W W') (hN : w.heap.size ≤ N) : WrInv w A k W' L ao c :=
  ⟨h.len, q.rowIs h.all, ⟨h.owns.1, h.owns.2.imp (fun h => h) (by
    rintro ⟨g, cap, cur, e, hb, hg, rest⟩
    exact ⟨g, cap, cur, e, hb, q.cells _ _ _ _ hg, rest⟩)⟩, q.rowIs h.res, q.below h.below hN, Nat.lt_of_lt_of_le h.size q.size⟩

/-- What lies in memory between two rounds of the second loop of MemoryLogs. -/
structure LawInv (w : World) (s0 A k fr xb ib b B : Nat) (f : Nat → Int) (L : List (Nat × Nat)) (ao : Option Addr) (c : Nat) (j : Nat) (W : World) : Prop where
  wr : WrInv w A k W L ao c
  mem : MemAt W b B 4096 f []
  c10 : W.cell? ⟨xb, 0, none⟩ = some (.int .i64 (fr : Nat))
  rk : W.rowIs ib 3 1 (fun _ => .int .i64 (j : Nat))
  size : s0 ≤ W.heap.size

theorem LawInv.quiet {N : Nat} {w X Y : World} {s0 A k fr xb ib b B : Nat} {f : Nat → Int} {L : List (Nat × Nat)} {ao : Option Addr} {c j : Nat} (h : LawInv w s0 A k fr xb ib b B f L ao c j X) (q : Quiet N X Y) (hN : w.heap.size ≤ N) : LawInv w s0 A k fr xb ib b B f L ao c j Y :=
  ⟨h.wr.quiet q hN, h.mem.quiet q, q.cell h.c10, q.rowIs h.rk, Nat.le_trans h.size q.size⟩

def LawI (w : World) (s0 A k fr xb ib b B : Nat) (f : Nat → Int) (L : List (Nat × Nat)) (ao : Option Addr) (c : Nat) (pre : List Nat) (W : World) : Prop :=
  pre = List.range pre.length ∧ LawInv w s0 A k fr xb ib b B f L ao c pre.length W
def LawX (cd : Code) (pre : List Nat) (_ : World) : Prop := cd = .ret ∧ pre ≠ List.range pre.length

theorem LawInv.step {w W : World} {s0 A k fr xb ib b B : Nat} {f : Nat → Int} {L : List (Nat × Nat)} {ao : Option Addr} {c j : Nat} (nq : Nat) (h : LawInv w s0 A k fr xb ib b B f L ao c j W) (hA : w.heap.size < A) (hAx : A < xb) (hx : xb < ib) (hb : b < A) (hB : B < A)
    (hbl : ∀ g' o', ao = some ⟨g', o', none⟩ → g' ≠ ib) :
    LawInv w s0 A k fr xb ib b B f L ao c (j + 1) ((W.drewN nq).setCell ⟨ib, 0, none⟩ (.int .i64 ((j : Int) + 1))) := by
  have hd : Keeps (One ib) W (W.drewN nq) := ⟨rfl, rfl, rfl, Nat.le_refl _, fun _ _ _ => rfl⟩
  have hk := hd.trans ((Keeps.refl (One ib) (W.drewN nq)).set1 0 (.int .i64 ((j : Int) + 1)))
  have hw := h.wr
  refine ⟨⟨hw.len, hk.rowIs hw.all (fun e => by have e : A = ib := e; omega), ⟨hw.owns.1, hw.owns.2.imp (fun h => h) ?_⟩, hk.rowIs hw.res (fun e => by have e : w.heap.size = ib := e; omega), ?_, Nat.lt_of_lt_of_le hw.size hk.size⟩, h.mem.kept hk (fun e => by have e : b = ib := e; omega) (fun e => by have e : B = ib := e; omega), hk.cell h.c10 (fun e => by have e : xb = ib := e; omega), ?_, Nat.le_trans h.size hk.size⟩
  · rintro ⟨g, cap, cur, e, hb, hg, rest⟩
    refine ⟨g, cap, cur, e, hb, (hk.block g (lt_of_block hg) (fun e' => ?_)).trans hg, rest⟩
    simp only [Value.slice.injEq] at e
    exact hbl _ _ e.1 e'
  · exact hw.below.trans (hk.below (B := w.heap.size) hw.below.size (fun j hj e => by have e : j = ib := e; omega))
  · exact (World.rowIs.set (w := W.drewN nq) h.rk 0 _).congr fun i hi => by
      have : i = 0 := by omega
      subst this; rfl

theorem logs_empty (b B size : Nat) (f : Nat → Int) (w : World) (h : MemAt w b B size f []) :
   Calls Try.prog 14 #[.pointer (some ⟨b, 0, none⟩), .int .i64 0, .slice none 0 0, .int .i64 9] w fun e w' => e = .returned (.bool true) ∧ Below w.heap.size w w' :=
  logs_mem b B size f [] none 0 0 0 9 w h (by simp) (by omega) (by omega) rfl rfl (fun h => by simp at h)

theorem law_end {w W W8 : World} {s0 A k c D : Nat} {L : List (Nat × Nat)} {ao : Option Addr} (h : WrInv w A k W L ao c) (hD : s0 ≤ D) (hw : w.heap.size < s0) (hK : W.heap[D]? = some (.deferred (some []))) (h8 : Below W.heap.size W W8) :
    (W8.setCell ⟨w.heap.size, 0, none⟩ (.bool true)).heap[D]? = some (.deferred (some [])) ∧
    (((W8.setCell ⟨w.heap.size, 0, none⟩ (.bool true)).putObj D (.deferred none)).cell? ⟨w.heap.size, 0, none⟩ = some (.bool true)) ∧
    Below w.heap.size w ((W8.setCell ⟨w.heap.size, 0, none⟩ (.bool true)).putObj D (.deferred none)) := by
  have hK8 := (h8.block D (lt_of_block hK)).trans hK
  have e3 := (h.res.of_block (h8.block _ h.res.lt)).cell (i := 0) (by omega)
  have hK' := (KeepsOthers.setCell W8 ⟨w.heap.size, 0, none⟩ (.bool true)).same D _ hK8 rfl
  refine ⟨hK', cell_kept (World.cell?_setCell_same' W8 ⟨w.heap.size, 0, none⟩ (.bool true) (by rw [e3]; rfl)) (grownBy_putObj' _ D (.deferred none)) (fun r e => by cases e; exact ⟨_, hK', rfl⟩), ?_⟩
  exact ((h.below.trans (h8.mono h.below.size)).setCell (p := ⟨w.heap.size, 0, none⟩) (Nat.le_refl _) _).trans (belowK_b (w := w) (Nat.le_refl _) _ D _ _ (by omega) hK' rfl rfl)

set_option maxRecDepth 100000 in
set_option maxHeartbeats 4000000 in
theorem logsLaw_walk (a0 : Option Addr) (len0 cap0 : Nat) (z : Nat → Int) (stop : Int) (w : World) (hl : len0 ≤ 600) (hs0 : -9223372036854775808 ≤ stop) (hs1 : stop ≤ 9223372036854775807)
    (hz : ∀ i, i < len0 → ∃ x, a0 = some x ∧ w.cell? (x.add i) = some (.int .u16 (z i)) ∧ 0 ≤ z i ∧ z i ≤ 65535) :
    Calls Try.prog 3 #[.slice a0 len0 cap0, .int .i64 stop] w fun e w' => e = .returned (.bool true) ∧ Below w.heap.size w w' := by
  have HZ := Lib.hid hz
  clear hz
  refine calls_marks Try.func3 rfl ?_
  simp only [Try.ntmps3, List.size_toArray, List.length_cons, List.length_nil, Nat.reduceAdd, Nat.reduceSub, Array.replicate_succ, Array.replicate_zero, List.push_toArray, List.append_toArray, List.nil_append, List.cons_append]
  have d1 : decide ((600 : Int) < (len0 : Int)) = false := by simp; omega
  go_wp2_with fail
  obtain ⟨w1, hw1⟩ : ∃ w1, w1 = w.alloc (.cells #[.bool false] 4) := ⟨_, rfl⟩
  rw [← hw1]
  have hb1 : Below w.heap.size w w1 := by rw [hw1]; exact (Below.refl _ w).alloc (Nat.le_refl _) _
  have hr1 : w1.rowIs w.heap.size 4 1 (fun _ => .bool false) := by rw [hw1]; exact World.rowIs_alloc w #[.bool false] 4 (fun _ => .bool false) (fun i hi => by simp at hi; subst hi; rfl)
  have hs1' : w1.heap.size = w.heap.size + 1 := by rw [hw1]; simp
  clear hw1
  refine (new_ok 1 _ (by omega) (by omega)).mono ?_
  rintro e w2 ⟨b, B, rfl, hb, hB, hb2, hm2⟩
  have hM2 := Lib.hid hm2
  have hlb := hm2.lt
  have hlB := hm2.lt'
  have hs2 := hb2.size
  have hr2 : w2.rowIs w.heap.size 4 1 (fun _ => .bool false) := hr1.of_block (hb2.block _ (by omega))
  have hb2' : Below w.heap.size w w2 := hb1.trans (hb2.mono (by omega))
  have HR2 := Lib.hid hr2
  clear hm2 hr1 hr2 hb1 hb2
  go_wp2_with fail
  go_loopw [8] (fun i wr => ∃ k f L ao c, k ≤ len0 ∧ i = .int .i64 (k : Nat) ∧ MemAt wr b B 4096 f L ∧ WrInv w w2.heap.size k wr L ao c) (fun i _ => len0 - (intOf i).toNat)
  case atStart =>
    refine ⟨0, _, [], none, 0, Nat.zero_le _, rfl, hM2.out.kept ((Keeps.refl (fun _ => False) _).alloc _) (fun h => h) (fun h => h), rfl, ?_, World.ownsRow_nil _ _ _ _, ?_, ?_, ?_⟩
    · exact World.rowIs_alloc w2 #[.slice none 0 0] 28 (fun _ => .slice none 0 0) (fun i hi => by simp at hi; subst hi; rfl)
    · exact HR2.out.alloc _
    · exact hb2'.alloc (by omega) _
    · simp
  case round =>
    obtain ⟨k, f, L, ao, c, hk, rfl, hM, hI⟩ := hrel
    have HI := Lib.hid hI
    have HM := Lib.hid hM
    clear hI hM
    by_cases hlt : k < len0
    · obtain ⟨x, rfl, hzc, hz0, hz1⟩ := HZ.out k hlt
      have hzr : wr.cell? (x.add k) = some (.int .u16 (z k)) := (HI.out.below.cell (by have := World.block_lt_of_cell? _ _ hzc; omega)).trans hzc
      generalize hzk : z k = zk at *
      clear hzc hzk
      obtain ⟨ad, had⟩ : ∃ ad : Nat, zk % 4096 = ad := ⟨(zk % 4096).toNat, by omega⟩
      have had' : ad < 4096 := by omega
      have HAD := Lib.hid had
      clear had
      go_wp2_with fail
      obtain ⟨wa, hwa⟩ : ∃ wa, wa = wr.alloc (.cells #[.int .u8 1] 5) := ⟨_, rfl⟩
      rw [← hwa]
      have hka : Keeps (fun _ => False) wr wa := by rw [hwa]; exact (Keeps.refl _ _).alloc _
      have hsa : wa.heap.size = wr.heap.size + 1 := by rw [hwa]; simp
      have hsrc : Src (Two b B) wa (some ⟨wr.heap.size, 0, none⟩) 1 (fun _ => 1) := by
        have h1 := HM.out.lt
        have h2 := HM.out.lt'
        rw [hwa]
        exact src_new _ wr 1 _ _ (by rintro (e | e) <;> omega) (by omega) (fun i hi => by
          have : i = 0 := by omega
          subst this; rfl)
      have HKa := Lib.hid hka
      have HS := Lib.hid hsrc
      clear hwa hka hsrc
      refine (write_ok' b B 4096 f L ad 1 1 _ (fun _ => 1) _ wa (HM.out.kept HKa.out (fun h => h) (fun h => h)) (by have := HI.out.len; omega) (by omega) HS.out HAD.out).mono ?_
      rintro e w3 ⟨rfl, hk3, hm3⟩
      have hI3 : WrInv w w2.heap.size k w3 L ao c := (HI.out.keeps HKa.out (fun j h => h.elim)).keeps hk3 (by rintro j (e | e) <;> omega)
      have HM3 := Lib.hid hm3
      have HI3 := Lib.hid hI3
      clear hk3 hm3 hI3
      go_wp2_with fail
      refine (num_any _ _).mono ?_
      rintro e w4 ⟨rfl, rfl⟩
      have ec := HI3.out.all.cell (i := 0) (by omega)
      have ef := HI3.out.all.frozen 0
      have hown := Lib.hid (HI3.out.owns.alloc (.cells #[.int .u64 ad, .int .i64 1, .bool false] 35))
      obtain ⟨i0, hi, hz0, hz1, hz2⟩ := info_parts infoSpan
      have hadi := HAD.out
      go_wp2_with ((at_builtin; refine wpList_append_own _ rfl _ _ 28 rfl (w2.heap.size + 1) 35 i0 (.agg #[.int .u64 0, .int .i64 0, .bool false]) 3 24 Try.underlying28 hi hz0 hz1 hz2 rfl (by decide) _ _ _ rfl hown.out ⟨w3.heap.size, 0, none⟩ 1 1 [.int .u64 ad, .int .i64 1, .bool false] rfl (by simp) ?c1 ?c2 ?c3 ?c4 ?c5 ?_))
      case c1 =>
        intro j u hu
        match j, hu with
        | 0, hu => simp at hu; subst hu; simp [Addr.add]
        | 1, hu => simp at hu; subst hu; simp [Addr.add]
        | 2, hu => simp at hu; subst hu; simp [Addr.add]
      case c2 => intro u hu; simp at hu; rcases hu with rfl | rfl | rfl <;> rfl
      case c3 => unfold maxLen; omega
      case c4 => omega
      case c5 => have := HI3.out.size; simp; omega
      intro v' w5 hown' hgr _
      obtain ⟨hall, ao', c', rfl, hI5⟩ := HI3.out.step (s := (ad, 1)) (by omega) hgr hown'
      have hm5 : MemAt w5 b B 4096 (upd f ad 1 fun _ => 1) (L ++ [(ad, 1)]) := by
        have hl3 := HI3.out.owns.lt
        have h := HM3.out
        have hlt1 := HM3.out.lt
        have hlt2 := HM3.out.lt'
        rw [show logged L ad 1 = L ++ [(ad, 1)] from if_neg (by omega)] at h
        obtain ⟨h1, h2, G, cap, F, h4, h5⟩ := h
        have hb' : w5.heap[b]? = w3.heap[b]? := (hgr.block b (by simp; omega) (fun e => by have := hl3 b e.symm; omega)).trans (Below.heap_alloc _ _ _ (by omega))
        have hB' : w5.heap[B]? = w3.heap[B]? := (hgr.block B (by simp; omega) (fun e => by have := hl3 B e.symm; omega)).trans (Below.heap_alloc _ _ _ (by omega))
        exact ⟨h1, h2, G, cap, F, h4.of_block hb', h5.1, h5.2.1, h5.2.2.1, h5.2.2.2.1.of_block hB', h5.2.2.2.2⟩
      have hm6 : MemAt (w5.setCell ⟨w2.heap.size, 0, none⟩ (.slice ao' (k + 1) c')) b B 4096 (upd f ad 1 fun _ => 1) (L ++ [(ad, 1)]) :=
        hm5.kept ((Keeps.refl (One w2.heap.size) _).set1 _ _) (fun e => by have e : b = w2.heap.size := e; omega) (fun e => by have e : B = w2.heap.size := e; omega)
      have ec5 := hall.cell (i := 0) (by omega)
      have ef5 := hall.frozen 0
      have HI5 := Lib.hid hI5
      have HM6 := Lib.hid hm6
      clear hall hI5 hm5 hm6 hown' hgr ec ef hi hz0 hz1 hz2 hadi
      go_wp2_with fail
      go_roundw
      case rel => exact ⟨k + 1, _, _, _, _, by omega, by go_num, HM6.out, HI5.out⟩
      case measure => simp [intOf]; omega
    · have hkn : k = len0 := by omega
      subst hkn
      have ec := HI.out.all.cell (i := 0) (by omega)
      have ef := HI.out.all.frozen 0
      go_upto_region 12 with fail
      go_cut [10] from 46 to 49 (fun v wc => v = .pointer (some ⟨wr.heap.size, 0, none⟩) ∧ wc = wr.alloc (.cells #[.int .i64 ((k - 256 : Nat) : Int)] 3))
      case first =>
        go_wp2_with fail
        all_goals go_meet
        case rel =>
          rw [show ((k : Int) - 256) = ((k - 256 : Nat) : Int) by omega]
          exact ⟨rfl, rfl⟩
        case rel =>
          rw [show k - 256 = 0 by omega]
          exact ⟨rfl, rfl⟩
      case rest =>
        obtain ⟨rfl, rfl⟩ := hcut
        obtain ⟨fr, hfr⟩ : ∃ fr, fr = k - 256 := ⟨_, rfl⟩
        rw [← hfr]
        obtain ⟨w3, hw3⟩ : ∃ w3, w3 = wr.alloc (.cells #[.int .i64 (fr : Nat)] 3) := ⟨_, rfl⟩
        rw [← hw3]
        have hk3 : Keeps (fun _ => False) wr w3 := by rw [hw3]; exact (Keeps.refl _ _).alloc _
        have hs3 : w3.heap.size = wr.heap.size + 1 := by rw [hw3]; simp
        have hc3 : w3.cell? ⟨wr.heap.size, 0, none⟩ = some (.int .i64 (fr : Nat)) := by rw [hw3]; go_simp
        have hM3 := HM.out.kept hk3 (fun h => h) (fun h => h)
        have hI3 := HI.out.keeps hk3 (fun j h => h.elim)
        have hAw : w2.heap.size < wr.heap.size := HI.out.size
        have HAO := Lib.hid (fun g' (h : (Value.slice ao k c).ownBlock = some g') => (HI.out.owns.lt g' h).2)
        have hLk : L.length = k := HI.out.len
        have HFR := Lib.hid hfr
        have hfk : fr ≤ k := by omega
        clear hw3 hk3 ec ef HI HM hM2 HR2 hb2' hfr
        go_wp2_with fail
        refine (writes_ok b B _ f L w3 hM3).mono ?_
        rintro e w4 ⟨g, rfl, hJ, hg, hb4⟩
        have hkb4 : Keeps (fun _ => False) w3 w4 := Keeps.of_below hb4
        have HM4 := Lib.hid (hM3.kept hkb4 (fun h => h) (fun h => h))
        have hI4 := hI3.keeps hkb4 (fun j h => h.elim)
        have HI4 := Lib.hid hI4
        have hc4 := hkb4.cell hc3 (fun h => h)
        have ha4 := hI4.all.cell (i := 0) (by omega)
        have HJ := Lib.hid hJ
        have hs4 := hb4.size
        clear hJ hb4 hkb4 hM3 hI3 hI4 hc3
        have hQ1 : ∀ p : InC (Below w4.heap.size w4), p.w.cell? ⟨wr.heap.size, 0, none⟩ = some (.int .i64 (fr : Nat)) := fun p => (p.ok.cell (World.block_lt_of_cell? _ _ hc4)).trans hc4
        have hQ2 : ∀ p : InC (Below w4.heap.size w4), p.w.cell? ⟨w2.heap.size, 0, none⟩ = some (.slice ao k c) := fun p => (p.ok.cell (World.block_lt_of_cell? _ _ ha4)).trans ha4
        have HN : Hid (∀ p : InC (Below w4.heap.size w4), Calls Try.prog 11 #[.int .i64 0] p.w fun e w' => e = .returned (.int .i64 0) ∧ Below w4.heap.size w4 w') := by
          refine Lib.hid fun p => (num_any _ _).mono ?_
          rintro e w' ⟨rfl, rfl⟩
          exact ⟨rfl, p.ok⟩
        have hne : Nonempty (InC (Below w4.heap.size w4)) := ⟨⟨w4, Below.refl _ _⟩⟩
        have HL : Hid (∀ many : Int, -9223372036854775808 ≤ many → many ≤ 9223372036854775807 → ∀ p : InC (Below w4.heap.size w4), Calls Try.prog 14 #[.pointer (some ⟨b, 0, none⟩), .int .i64 fr, .slice (if c = fr then ao else Option.map (fun x => x.add (fr * 3)) ao) (k - fr) (c - fr), .int .i64 many] p.w fun e w' => e = .returned (.bool true) ∧ Below w4.heap.size w4 w') := by
          obtain ⟨ao', c', e', h1, -⟩ := ownsRow_shape HI4.out.owns
          cases e'
          have hsp : SpanSrc w4 ao L := ownsRow_span (by have := HI4.out.owns; rw [← hLk] at this; exact this)
          refine Lib.hid fun many h0 h2 p => (logs_mem b B 4096 f L _ _ fr _ many p.w (HM4.out.below p.ok) (by omega) h0 h2 (by rw [hLk]; exact HFR.out) (by rw [hLk]) ((hsp.of (fun q v hq => (p.ok.cell (World.block_lt_of_cell? _ _ hq)).trans hq)).drop (by omega))).mono ?_
          rintro e w' ⟨rfl, hb⟩
          exact ⟨rfl, p.ok.trans (hb.mono p.ok.size)⟩
        go_upto_region 14 with fail
        go_cut [11, 77] from 52 to 77 (fun v u wc => v = .func (.func 30) #[] #[.pointer (some ⟨g, 0, none⟩)] ∧ u = .bool false ∧ Below w4.heap.size w4 wc)
        case first =>
          refine wp_quiet_in (Below w4.heap.size w4) (Below.refl _ _).drew (by kernel_rfl) (by kernel_rfl) ?_
          repeat (go_big_quiet_step (first | (with_reducible exact calls_in (HN.out _)) | (with_reducible exact calls_in (HL.out stop hs0 hs1 _)) | (with_reducible exact calls_in (HL.out 999 (by omega) (by omega) _))))
          refine wpQuiet_nil ?_
          intro _ hw'
          obtain ⟨p, hw''⟩ := hw'
          subst hw''
          go_wp2_with fail
          all_goals (go_meet; exact ⟨rfl, rfl, p.ok⟩)
        case rest =>
          obtain ⟨rfl, rfl, hb5⟩ := hcut
          have HM5 := Lib.hid (HM4.out.below hb5)
          have hkb5 : Keeps (fun _ => False) w4 wc := Keeps.of_below hb5
          have HI5 := Lib.hid (HI4.out.keeps hkb5 (fun j h => h.elim))
          have hc5 := hkb5.cell hc4 (fun h => h)
          have HJ5 := Lib.hid (HJ.out.kept hkb5 (fun h => h))
          have hs5 := hb5.size
          clear hkb5 hb5 hQ1 hQ2 HN HL hne HM4 HI4 HJ hc4 ha4
          go_wp2_with fail
          refine (clear_ok b B _ f L wc HM5.out).mono ?_
          rintro e w6 ⟨rfl, hk6, hM6⟩
          have HI6 := Lib.hid (HI5.out.keeps hk6 (fun j e => by have e : j = b := e; omega))
          have HJ6 := Lib.hid (HJ5.out.kept hk6 (fun e => by have e : g = b := e; omega))
          have hc6 := hk6.cell hc5 (fun e => by have e : wr.heap.size = b := e; omega)
          have hs6 := hk6.size
          have HM6 := Lib.hid hM6
          have hg6 : g < w6.heap.size := HJ6.out.choose_spec.1.lt
          clear hk6 hM6 HM5 HI5 HJ5 hc5
          go_wp2_with fail
          obtain ⟨W0, hW0⟩ : ∃ W0, W0 = w6.alloc (.cells #[.int .i64 0] 3) := ⟨_, rfl⟩
          rw [← hW0]
          have hs0' : W0.heap.size = w6.heap.size + 1 := by rw [hW0]; simp
          have hk0 : Keeps (fun _ => False) w6 W0 := by rw [hW0]; exact (Keeps.refl _ _).alloc _
          have hrk : W0.rowIs w6.heap.size 3 1 (fun _ => .int .i64 (0 : Nat)) := by rw [hW0]; exact World.rowIs_alloc w6 #[.int .i64 0] 3 (fun _ => .int .i64 (0 : Nat)) (fun i hi => by simp at hi; subst hi; rfl)
          have HI0 := Lib.hid (HI6.out.keeps hk0 (fun j h => h.elim))
          have HM0 := Lib.hid (HM6.out.kept hk0 (fun h => h) (fun h => h))
          have hJ0 := HJ6.out.kept hk0 (fun h => h)
          have hc0 := hk0.cell hc6 (fun h => h)
          have hgW0 : g < W0.heap.size := hJ0.choose_spec.1.lt
          have hst := Lib.hid (writes1_stops 8 (by omega) g L (by omega) W0 hJ0)
          have HRK := Lib.hid hrk
          have HC0 := Lib.hid hc0
          clear hW0 hk0 hrk hJ0 hc0 HI6 HM6 HJ6 hc6
          have hgi : ∀ g' o', ao = some ⟨g', o', none⟩ → g' ≠ w6.heap.size := by
            intro g' o' e e'
            have := HAO.out g' (by rw [e]; rfl)
            omega
          have HGI := Lib.hid hgi
          clear hgi
          refine wp_range (gf := 30) (lb := #[.pointer (some ⟨g, 0, none⟩)]) rfl (enters_of Try.func30 (by kernel_rfl) rfl) hst.out
            (fun h k => Eq.trans k h) (fun W l o o' hl _ _ _ => World.putObj_heap_other (by omega)) (fun _ => rfl)
            (LawI w W0.heap.size w2.heap.size k fr wr.heap.size w6.heap.size b B f L ao c) LawX
            (own_of fun s A B hs hq => ⟨hs.1, hs.2.quiet hq (by omega)⟩)
            (fun cd => own_of fun s A B hs hq => hs)
            ⟨rfl, HI0.out, HM0.out, HC0.out, HRK.out, Nat.le_refl _⟩
            (fun j a' W => ∃ sb, W0.heap.size ≤ sb ∧ W.rowIs sb 35 3 (fun i => if i = 0 then .int .u64 (L.getD (fr + j) (0, 0)).1 else if i = 1 then .int .i64 (L.getD (fr + j) (0, 0)).2 else .bool false) ∧
              a' = { tmps := #[.slice a0 k cap0, .int .i64 stop, undef, undef, .pointer (some ⟨w.heap.size, 0, none⟩), .pointer (some ⟨b, 0, none⟩), .int .i64 0, .pointer (some ⟨w2.heap.size, 0, none⟩), .int .i64 k, u9, .pointer (some ⟨wr.heap.size, 0, none⟩), .func (.func 30) #[] #[.pointer (some ⟨g, 0, none⟩)], .pointer (some ⟨w6.heap.size, 0, none⟩), .int .i64 ((fr + j : Nat) : Int), .pointer (some ⟨sb, 0, none⟩), .slice a0 k cap0, .int .i64 k, .bool false, undef, .tuple #[.pointer (some ⟨b, 0, none⟩), .int .i64 0], .tuple #[.pointer (some ⟨b, 0, none⟩), .int .i64 0], .pointer (some ⟨b, 0, none⟩), .int .i64 0, .int .i64 k, .slice a0 k cap0, .int .i64 k, .bool false, u27, u28, u29, u30, u31, u32, u33, u34, u35, u36, u37, u38, u39, u40, u41, u42, u43, u44, u45, u46, u47, u48, u49, .pointer (some ⟨b, 0, none⟩), .func (.func 30) #[] #[.pointer (some ⟨g, 0, none⟩)], u52, u53, u54, u55, u56, u57, u58, u59, u60, u61, u62, u63, u64, u65, u66, u67, u68, u69, u70, u71, u72, u73, u74, u75, u76, .bool false, .pointer (some ⟨b, 0, none⟩), .int .i64 0, .func (.func 30) #[] #[.pointer (some ⟨g, 0, none⟩)], .int .i64 ((fr + j : Nat) : Int), .agg #[.int .u64 (L.getD (fr + j) (0, 0)).1, .int .i64 (L.getD (fr + j) (0, 0)).2, .bool false], undef, undef, undef, undef, undef, undef, undef, undef, undef, undef, undef, undef, undef, undef, undef, undef, undef, undef, undef, undef, undef, undef, undef, undef, undef, undef, undef, undef, undef, undef, undef, undef, undef, undef, undef, undef, undef, undef], defers := [] })
            (fun x a' => own_of fun s A B hs hq => by obtain ⟨sb, h1, h2, h3⟩ := hs; exact ⟨sb, h1, hq.rowIs h2, h3⟩) ?assign ?body ?done ?stop
          case assign =>
            intro l pre x W K hI hK
            have HI := Lib.hid hI
            have hbs := hI.2.size
            have e : L.length - 256 = fr := by have := HFR.out; omega
            simp only [encW, e]
            generalize L.getD (fr + x) (0, 0) = s at *
            have hK' := Lib.hid hK
            clear hI hK e
            gi_wp2
            refine hK'.out _ _ ((KeepsOthers.alloc _ _).from _) (Below.heap_alloc _ _ _ (by omega)) ?_ ⟨W.heap.size, hbs, ?_, rfl⟩
            · obtain ⟨h1, h3⟩ := HI.out
              exact ⟨h1, h3.quiet (Quiet.alloc (w.heap.size) W _) (Nat.le_refl _)⟩
            · exact World.rowIs_alloc W _ 35 _ (fun i hi => by
                match i, hi with
                | 0, _ => rfl
                | 1, _ => rfl
                | 2, _ => rfl)
          case body =>
            rintro l pre x a' W hl hrec ⟨hI1, hI2⟩ ⟨sb, hsb, hrs, rfl⟩ hlen
            have hln : pre.length < k - fr := by have := HFR.out; unfold Go.Proofs.Ytobbnfdflogicaa.many at hlen; omega
            have HL := Lib.hid hrec
            obtain ⟨j, hj⟩ : ∃ j, j = pre.length := ⟨_, rfl⟩
            rw [← hj] at hI1 hI2 hln
            have e0 := hI2.c10
            have e1 := hI2.wr.all.cell (i := 0) (by omega)
            have e3 := hI2.wr.res.cell (i := 0) (by omega)
            have e3f := hI2.wr.res.frozen 0
            have ek := hI2.rk.cell (i := 0) (by omega)
            have ekf := hI2.rk.frozen 0
            have s0 := hrs.cell (i := 0) (by omega)
            have s1 := hrs.cell (i := 1) (by omega)
            have s2 := hrs.cell (i := 2) (by omega)
            rw [if_pos rfl] at s0
            rw [if_neg (by omega), if_pos rfl] at s1
            rw [if_neg (by omega), if_neg (by omega)] at s2
            have HI1 := Lib.hid hI1
            have HI2 := Lib.hid hI2
            have HK := Lib.hid hj
            obtain ⟨s, hs⟩ : ∃ s, s = L.getD (fr + x) (0, 0) := ⟨_, rfl⟩
            rw [← hs] at s0 s1 ⊢
            have HSv := Lib.hid hs
            clear hrec hI1 hI2 hj hrs hlen hs
            by_cases hxk : x = j
            · subst hxk
              have d1 : decide ((k : Int) ≤ (fr : Int) + (x : Int)) = false := by simp; omega
              have hsp : SpanSrc W ao L := ownsRow_span (by have := HI2.out.wr.owns; rw [← hLk] at this; exact this)
              obtain ⟨gw, ow, rfl, hw⟩ := hsp (by omega)
              obtain ⟨v0, v1, v2⟩ := hw (fr + x) (by omega)
              have hgs : L[fr + x]'(by omega) = s := by
                rw [HSv.out]
                have : fr + x < L.length := by omega
                simp [this]
              rw [hgs] at v0 v1
              have hfx : fr + x < k := by omega
              clear hw hgs hsp
              gi_wp2
              refine wpIn_quiet_round (by kernel_rfl) (by kernel_rfl) (by kernel_rfl) (by rintro ⟨_, _, h⟩; exact h) ?_
              repeat (go_big_quiet_step (fail))
              refine wpQuiet_nil ?_
              intro _ hw'
              obtain ⟨nq, hw''⟩ := hw'
              subst hw''
              gi_wp2
              have hI := HI2.out.step nq (by omega) (by omega) (by omega) (by omega) (by omega) HGI.out
              refine ⟨KeepsFrom.of_keeps (S := One w6.heap.size) (((Keeps.refl _ W).drewN nq).set1 _ _) (fun k e => by have e : k = w6.heap.size := e; omega), ?_, ?_, ?_⟩
              · exact Below.heap_setCell _ _ _ _ (by show g ≠ w6.heap.size; omega)
              · rw [List.length_append, ← HK.out, HI1.out]; exact List.range_succ.symm
              · rw [List.length_append, ← HK.out]; exact hI
            · have d1 : decide ((k : Int) ≤ (fr : Int) + (j : Int)) = false := by simp; omega
              have d2 : (((fr : Int) + (x : Int)) != (fr : Int) + (j : Int)) = true := by simp; omega
              gi_wp2
              refine wpIn_quiet_round (by kernel_rfl) (by kernel_rfl) (by kernel_rfl) (by rintro ⟨_, _, h⟩; exact h) ?_
              repeat (go_big_quiet_step (fail))
              refine wpQuiet_nil ?_
              intro _ hw'
              obtain ⟨nq, hw''⟩ := hw'
              subst hw''
              gi_wp2
              refine ⟨KeepsFrom.of_keeps (S := One w.heap.size) (((Keeps.refl _ W).drewN nq).set1 _ _) (fun k e => by have e : k = w.heap.size := e; omega), rfl, fun e => hxk ?_⟩
              rw [List.length_append, ← HK.out, HI1.out, List.length_cons, List.length_nil, Nat.zero_add, List.range_succ] at e
              simpa using e
          case done =>
            rintro D xs W hD rfl ⟨-, hI2⟩ hK
            rw [List.length_range] at hI2
            have hmn : Go.Proofs.Ytobbnfdflogicaa.many L = k - fr := by have := HFR.out; unfold Go.Proofs.Ytobbnfdflogicaa.many; omega
            rw [hmn] at hI2
            obtain ⟨n, hn⟩ : ∃ n, n = k - fr := ⟨_, rfl⟩
            rw [← hn] at hI2
            have e0 := hI2.c10
            have e1 := hI2.wr.all.cell (i := 0) (by omega)
            have ek := hI2.rk.cell (i := 0) (by omega)
            have d1 : ((n : Int) == (k : Int) - (fr : Int)) = true := by simp; omega
            have HI2 := Lib.hid hI2
            have HKD := Lib.hid hK
            clear hI2 hK hmn hn
            go_wp2_with fail
            refine (logs_empty b B 4096 f W HI2.out.mem).mono ?_
            rintro e W7 ⟨rfl, hb7⟩
            go_wp2_with fail
            refine (works_any _).mono ?_
            rintro e W8 ⟨rfl, hb8⟩
            have hb8' : Below W.heap.size W W8 := hb7.trans (hb8.mono hb7.size)
            have hr8 := HI2.out.wr.res.of_block (hb8'.block _ HI2.out.wr.res.lt)
            have e3 := hr8.cell (i := 0) (by omega)
            have e3f := hr8.frozen 0
            have HF := Lib.hid (law_end HI2.out.wr hD (by omega) HKD.out hb8')
            clear hr8 hb8' hb8 hb7
            go_wp2_with fail
            obtain ⟨f1, f2, f3⟩ := HF.out
            refine ⟨by simp, .inl ⟨_, _, rfl, run_takeDeferred f1, ?_⟩⟩
            refine ⟨.bool true, ?_, rfl, f3⟩
            simp [results, Try.f3, go_sem, f2]
          case stop =>
            rintro D cd pre W hD ⟨k, rfl⟩ ⟨-, hX⟩ hK
            rw [List.length_range] at hX; exact absurd rfl hX
end Go.Proofs.Ytobbnfdflogicaa
