/- prp: the law PrpEach. -/
import Derived.Test.YtfploifafpifnaaLN
import Derived.Test.YtfploifafpifnaaRS
namespace Go.Proofs.Ytfploifafpifnaa
set_option linter.unusedVariables false
set_option linter.unusedSimpArgs false
open Go.RowKit Go.Shelf
attribute [local go_sem] Oper.semAt_some

/-- the results of Spans, with an error or without -/
theorem sp_form {W w' : World} {R : Except Int (List Spn)} {e : Ending} (h : SpPost W R e w') : Below W.heap.size W w' ∧ ∃ au cu no, e = .returned (.tuple #[.slice au (spL R).length cu, .int .i64 no]) ∧ SpAt w' au (spL R) ∧ (spL R).length ≤ 9223372036854775807 ∧ ∀ g o, au = some ⟨g, o, none⟩ → W.heap.size ≤ g ∧ g < w'.heap.size := by
  obtain ⟨hb, h⟩ := h
  refine ⟨hb, ?_⟩
  cases R with
  | error no => exact ⟨none, 0, no, h, SpAt.nil _ _, by show 0 ≤ _; omega, fun g o e => by cases e⟩
  | ok l =>
    obtain ⟨v, rfl, hown⟩ := h
    obtain ⟨au, cu, rfl, h1, h2⟩ := ownsRow_shape hown
    exact ⟨au, cu, 0, rfl, spAt_owns hown, by show l.length ≤ _; unfold maxLen at h2; omega, fun g o e => ⟨own_ge hown g o e, own_lt hown g o e⟩⟩
/-- What the law's own blocks hold. -/
structure ES (w : World) (many : Int) (W : World) : Prop where
  below : Below w.heap.size w W
  c9 : W.cell? ⟨w.heap.size, 0, none⟩ = some (.int .i64 many)
  r10 : W.rowIs (w.heap.size + 1) 4 1 (fun _ => .bool false)
theorem ES.kept {w : World} {many : Int} {W W' : World} {S : Nat → Prop} (h : ES w many W) (k : Keeps S W W') (hS : ∀ j, j ≤ w.heap.size + 1 → ¬ S j) : ES w many W' :=
  ⟨h.below.trans (k.below (B := w.heap.size) h.below.size (fun j hj e => by rcases Nat.lt_or_ge j (w.heap.size + 2) with h | h; exact absurd e (hS j (by omega)); omega)), k.cell h.c9 (hS _ (by show w.heap.size ≤ _; omega)), k.rowIs h.r10 (hS _ (by omega))⟩
theorem ES.go {w : World} {many : Int} {W W' : World} (h : ES w many W) (k : Below W.heap.size W W') : ES w many W' := h.kept (Keeps.of_below (S := fun _ => False) k) (fun _ _ e => e)
theorem each_end {w W : World} {D0 D1 : Nat} {many : Int} (h : ES w many W) (h0 : w.heap.size ≤ D0) (h1 : w.heap.size ≤ D1) (hne : D0 ≠ D1) (k0 : W.heap[D0]? = some (.deferred (some []))) (k1 : W.heap[D1]? = some (.deferred (some []))) :
    ∃ W1 W2, W1 = (W.setCell ⟨w.heap.size + 1, 0, none⟩ (.bool true)) ∧ W1.heap[D1]? = some (.deferred (some [])) ∧ (W1.putObj D1 (.deferred none)).heap[D0]? = some (.deferred (some [])) ∧ W2 = (W1.putObj D1 (.deferred none)).putObj D0 (.deferred none) ∧
      W2.cell? ⟨w.heap.size + 1, 0, none⟩ = some (.bool true) ∧ Below w.heap.size w W2 := by
  have e3 := h.r10.cell (i := 0) (by omega)
  have q1 := (KeepsOthers.setCell W ⟨w.heap.size + 1, 0, none⟩ (.bool true)).same D1 _ k1 rfl
  have q0 := (KeepsOthers.setCell W ⟨w.heap.size + 1, 0, none⟩ (.bool true)).same D0 _ k0 rfl
  have p0 : ((W.setCell ⟨w.heap.size + 1, 0, none⟩ (.bool true)).putObj D1 (.deferred none)).heap[D0]? = some (.deferred (some [])) := (World.putObj_heap_other hne).trans q0
  have hc := World.cell?_setCell_same' W ⟨w.heap.size + 1, 0, none⟩ (.bool true) (by rw [e3]; rfl)
  have hb := h.below.setCell (p := ⟨w.heap.size + 1, 0, none⟩) (by show w.heap.size ≤ w.heap.size + 1; omega) (.bool true)
  exact ⟨_, _, rfl, q1, p0, rfl, cell_kept (cell_kept hc (grownBy_putObj' _ D1 (.deferred none)) (fun r e => by cases e; exact ⟨_, q1, rfl⟩)) (grownBy_putObj' _ D0 (.deferred none)) (fun r e => by cases e; exact ⟨_, p0, rfl⟩),
    (hb.trans (belowK_b (w := w) (Nat.le_refl _) _ D1 _ _ h1 q1 rfl rfl)).trans (belowK_b (w := w) (Nat.le_refl _) _ D0 _ _ h0 p0 rfl rfl)⟩
/-- What lies in memory between two rounds of the range: what lay there when the loop began; the counters of the loop and of the range; the mark of the round before. -/
structure EachI (W8 : World) (g17 g18 : Nat) (t k : Nat) (dd : Option Nat) (W : World) : Prop where
  keep : Keeps (fun j => W8.heap.size ≤ j) W8 W
  r17 : W.rowIs g17 3 1 (fun _ => .int .i64 t)
  r18 : W.rowIs g18 3 1 (fun _ => .int .i64 k)
  mark : ∀ D, dd = some D → W.heap[D]? = some (.deferred (some []))
theorem EachI.quiet {W8 A B : World} {N g17 g18 t k : Nat} {dd : Option Nat} (h : EachI W8 g17 g18 t k dd A) (q : Quiet N A B) (hN : W8.heap.size ≤ N) (hd : ∀ D, dd = some D → D < N) : EachI W8 g17 g18 t k dd B :=
  ⟨q.keeps h.keep hN, q.rowIs h.r17, q.rowIs h.r18, fun D e => (q.old D (hd D e) (lt_of_block (h.mark D e))).trans (h.mark D e)⟩
theorem EachI.step {W8 W : World} {g17 g18 t k : Nat} {dd : Option Nat} (nq : Nat) (h : EachI W8 g17 g18 t k dd W) (h8 : W8.heap.size ≤ g18) (h7 : g17 ≠ g18) (hd : ∀ D, dd = some D → D ≠ g18) :
    EachI W8 g17 g18 t (k + 1) dd ((W.drewN nq).setCell ⟨g18, 0, none⟩ (.int .i64 ((k : Int) + 1))) := by
  have hk0 : Keeps (One g18) (W.drewN nq) ((W.drewN nq).setCell ⟨g18, 0, none⟩ (.int .i64 ((k : Int) + 1))) := (Keeps.refl _ _).set1 _ _
  have hk1 : Keeps (One g18) W (W.drewN nq) := ⟨rfl, rfl, rfl, Nat.le_refl _, fun _ _ _ => rfl⟩
  have hk := hk1.trans hk0
  refine ⟨h.keep.trans (hk.mono fun j _ e => by have e : j = g18 := e; show W8.heap.size ≤ j; omega), hk.rowIs h.r17 (fun e => h7 e), ?_, fun D e => ?_⟩
  · exact (World.rowIs.set (w := W.drewN nq) h.r18 0 _).congr fun i hi => by
      have : i = 0 := by omega
      subst this; rfl
  · exact (hk.block D (lt_of_block (h.mark D e)) (fun e' => hd D e e')).trans (h.mark D e)
/-- between two rounds: the first turn may be left when many were seen -/
def EachJ (W8 : World) (g17 g18 : Nat) (t : Nat) (dd : Option Nat) (many : Int) (pre : List Nat) (W : World) : Prop :=
  pre = List.range pre.length ∧ (t = 0 → pre.length = 0 ∨ (pre.length : Int) < many) ∧ EachI W8 g17 g18 t pre.length dd W
/-- behind a round that left -/
def EachX (W8 : World) (g17 g18 : Nat) (t : Nat) (dd : Option Nat) (many : Int) (n : Nat) (cd : Code) (pre : List Nat) (W : World) : Prop :=
  (cd = .ret ∧ pre ≠ List.range pre.length) ∨ (cd = .exit 2 ∧ t = 0 ∧ pre = List.range pre.length ∧ pre.length ≤ n ∧ many ≤ pre.length ∧ 1 ≤ pre.length ∧ (pre.length = 1 ∨ (pre.length : Int) - 1 < many) ∧ EachI W8 g17 g18 t pre.length dd W)
/-- what a round's body is told -/
def EachA (B : Nat) (l : List Spn) (a : Act) (j : Nat) (a' : Act) (W : World) : Prop := ∃ sb, B ≤ sb ∧ W.rowIs sb 49 3 (fun i => if i = 0 then .int .u64 (l.getD j zSp).a else if i = 1 then .int .i64 (l.getD j zSp).n else .bool (l.getD j zSp).bk) ∧
  a' = { tmps := (((a.tmps.setIfInBounds 61 (.int .i64 (j : Nat))).setIfInBounds 62 (.agg #[.int .u64 (l.getD j zSp).a, .int .i64 (l.getD j zSp).n, .bool (l.getD j zSp).bk])).setIfInBounds 21 (.int .i64 (j : Nat))).setIfInBounds 22 (.pointer (some ⟨sb, 0, none⟩)), defers := [] }

set_option maxRecDepth 100000 in
set_option maxHeartbeats 16000000 in
theorem eachLaw (pg : Int) (ao : Option Addr) (n c : Nat) (ca cv : Nat → Int) (x y m many : Int) (w : World) (hw0 : (Lit.int .u8 pg).wf = true) (hC : CAt w ao n ca cv ∧ U64 n ca ∧ U64 n cv ∧ n ≤ maxLen) (hx : (Lit.int .u64 x).wf = true) (hy : (Lit.int .u64 y).wf = true) (hm : (Lit.int .i64 m).wf = true) (hmy : (Lit.int .i64 many).wf = true) :
    Calls Try.prog 7 #[.int .u8 pg, .slice ao n c, .int .u64 x, .int .u64 y, .int .i64 m, .int .i64 many] w fun e w' => e = .returned (.bool true) ∧ Below w.heap.size w w' := by
  obtain ⟨p0, p1⟩ := wf_u8 hw0
  obtain ⟨x0, x1⟩ := wf_u64 hx
  obtain ⟨z0, z1⟩ := wf_u64 hy
  obtain ⟨m0, m1⟩ := wf_i64 hm
  obtain ⟨y0, y1⟩ := wf_i64 hmy
  obtain ⟨hC1, hok, hov, hn⟩ := hC
  obtain ⟨N, hN⟩ : ∃ N, N = 1 + pg.toNat % 8 := ⟨_, rfl⟩
  obtain ⟨sz, hsz⟩ : ∃ z : Nat, z = N * 4096 := ⟨_, rfl⟩
  have hsz4 : sz ≤ 32768 := by omega
  have hsz1 : 0 < sz := by omega
  have HMD := Lib.hid (show ∀ W, CAt W ao n ca cv → Calls Try.prog 8 #[.int .u8 pg, .slice ao n c] W (MadePost W n sz) from fun W hc => by rw [hsz]; exact made_any pg ao n c ca cv W p0 p1 hc hok hov hn N hN)
  have HEA := Lib.hid (show ∀ b B f L W, MemAt W b B sz f L → Bytes f → Calls Try.prog 19 #[.pointer (some ⟨b, 0, none⟩), .int .u64 x, .int .u64 y, .int .i64 m] W (EachPost W (spansP f sz x y m)) from fun b B f L W hM hb => each_of _ x y m _ W (spans_all x y m b B sz f L W hM hsz1 x0 x1 z0 z1 hb))
  have HRS := Lib.hid (show ∀ MC S f L W, MC.size = 2 → RefAt S W (.agg MC) sz f L → Bytes f → Calls Try.prog 21 #[.agg MC, .int .u64 x, .int .u64 y, .int .i64 m] W (SpPost W (spansP f sz x y m)) from fun MC S f L W h2 hM hb => rspans_any MC sz f L S x y m W hM (by omega) h2 x0 x1 z0 z1 hb m0 m1 _ rfl)
  have HC := Lib.hid hC1
  obtain ⟨SM, hSM⟩ : ∃ q : (Nat → Int) → Except Int (List Spn), q = fun f => spansP f sz x y m := ⟨_, rfl⟩
  have hsm : ∀ f, spansP f sz x y m = SM f := fun f => by rw [hSM]
  simp only [hsm] at HEA HRS
  clear hC1 hok hov hx hy hm hw0 p0 p1 hN hsz hSM hsm hmy x0 x1 z0 z1 m0 m1
  refine calls_marks Try.func7 rfl ?_
  simp only [Try.ntmps7, List.size_toArray, List.length_cons, List.length_nil, Nat.reduceAdd, Nat.reduceSub, Array.replicate_succ, Array.replicate_zero, List.push_toArray, List.append_toArray, List.nil_append, List.cons_append]
  go_upto_region 1 with (fail)
  obtain ⟨W0, hW⟩ : ∃ z, z = (w.alloc (.cells #[.int .i64 many] 3)).alloc (.cells #[.bool false] 4) := ⟨_, rfl⟩
  rw [← hW]
  have hes : ES w many W0 := by
    rw [hW]
    refine ⟨((Below.refl _ _).alloc (Nat.le_refl _) _).alloc (by simp) _, by go_simp, ?_⟩
    have h := World.rowIs_alloc (w.alloc (.cells #[.int .i64 many] 3)) #[.bool false] 4 (fun _ => .bool false) (fun i hi => by simp at hi; subst hi; rfl)
    simp only [World.size_alloc, List.size_toArray, List.length_cons, List.length_nil, Nat.zero_add] at h
    exact h
  have hs0 : W0.heap.size = w.heap.size + 2 := by rw [hW]; simp
  have E0 := Lib.hid hes
  clear hW hes
  go_upto_region 2 with (first
    | (go_at_call 8; refine (HMD.out _ (HC.out.below E0.out.below)).mono ?_; rintro e w1 ⟨b, B, g, f, rfl, hb, hB, hg, hgb, hgB, hbl, hm, hr, hby⟩; obtain ⟨MC, hMC⟩ : ∃ A : Array Value, A = #[.slice (some ⟨g, 0, none⟩) sz sz, .slice none 0 0] := ⟨_, rfl⟩; have SMC := Lib.hid (show MC.size = 2 by rw [hMC]; rfl); have OMC := Lib.hid (show MC.all (·.oneCell') = true by rw [hMC]; simp [Value.oneCell']); rw [← hMC] at hr ⊢; have E1 := Lib.hid (E0.out.go hbl); have M1 := Lib.hid hm; have U1 := Lib.hid hr; have HBY := Lib.hid hby; clear hMC hbl hm hr hby hg hgb hgB)
    | ((with_reducible show wpList _ _ _ (⟨some 14, _, _, _, _, _⟩ :: _) _ _); refine wpList_alloc rfl 27 rfl zeroRM ?_; rw [show (Value.agg zRM).cells = zRM from rfl])
    | ((with_reducible show wpList _ _ _ (⟨none, .store _ (.tmp 14) _, _, _, _, _⟩ :: _) _ _); refine wpList_storeA rfl (b := w1.heap.size) (A := zRM) (A' := MC) (ArrAt.fresh w1 zRM _ (by decide)) 27 (.tmp 14) (.tmp 28) rfl (by simp [Act.eval, Act.put]) (by simp [Act.eval, Act.put]) sizeRMz (by rw [SMC.out]; rfl) OMC.out ?_))
  obtain ⟨W2, hW⟩ : ∃ z, z = (w1.alloc (.cells zRM 27)).setCells w1.heap.size 0 MC.toList := ⟨_, rfl⟩
  obtain ⟨hb2, ha⟩ := stored_at (by decide) (by rw [SMC.out]; rfl) hW
  have E2 := Lib.hid (E1.out.go hb2)
  have M2 := Lib.hid (M1.out.below hb2)
  have U2 := Lib.hid (U1.out.below hb2)
  have R12 := Lib.hid ha
  have IMC := Lib.hid (show (Try.prog.info? 27).map (·.size) = some MC.size by rw [SMC.out]; exact sizeRM)
  rw [← hW]
  clear hW hb2 ha E0 E1 M1 U1 OMC
  by_cases hn3 : n ≤ 300
  case neg =>
    have q : decide (n ≤ 300) = false := decide_eq_false hn3
    have c10 := E2.out.r10.cell (i := 0) (by omega)
    have f10 := E2.out.r10.frozen 0
    go_wp2_with (go_at_call 9; refine (works_ok _).mono ?_; rintro e w3 ⟨rfl, hb⟩; have E3 := Lib.hid (E2.out.go hb); have d10 := E3.out.r10.cell (i := 0) (by omega); have e10 := E3.out.r10.frozen 0; clear hb)
    have hx := World.cell?_setCell_same' w3 ⟨w.heap.size + 1, 0, none⟩ (.bool true) (by rw [d10]; rfl)
    refine ⟨.bool true, ?_, rfl, E3.out.below.setCell (p := ⟨w.heap.size + 1, 0, none⟩) (by show w.heap.size ≤ w.heap.size + 1; omega) _⟩
    simp [results, Try.f7, go_sem, hx]
  case pos =>
    have q : decide (n ≤ 300) = true := decide_eq_true hn3
    obtain ⟨R, hR⟩ : ∃ z, z = SM f := ⟨_, rfl⟩
    have HEA2 := Lib.hid (show ∀ L W, MemAt W b B sz f L → Calls Try.prog 19 #[.pointer (some ⟨b, 0, none⟩), .int .u64 x, .int .u64 y, .int .i64 m] W (EachPost W R) from fun L W hM => by rw [hR]; exact HEA.out b B f L W hM HBY.out)
    have HRS2 := Lib.hid (show ∀ L S W, RefAt S W (.agg MC) sz f L → Calls Try.prog 21 #[.agg MC, .int .u64 x, .int .u64 y, .int .i64 m] W (SpPost W R) from fun L S W hM => by rw [hR]; exact HRS.out _ S f L W SMC.out hM HBY.out)
    obtain ⟨L, hL⟩ : ∃ z, z = spL R := ⟨_, rfl⟩
    have HL := Lib.hid hL
    clear hR hL HEA HRS
    go_upto_region 5 with (first
      | ((with_reducible show wpList _ _ _ (⟨some 34, _, _, _, _, _⟩ :: _) _ _); refine wpList_loadA rfl R12.out 27 (.tmp 14) rfl (by first | rfl | simp [Act.eval, Act.put]) Try.underlying27 rfl IMC.out ?_)
      | (go_at_call 21; refine (HRS2.out _ _ _ U2.out).mono ?_; rintro e w4 hpo; obtain ⟨hb, au, cu, no, rfl, hsp, hll, hau⟩ := sp_form hpo; rw [← HL.out] at hsp hll ⊢; have HSU := Lib.hid hsp; have HLL := Lib.hid hll; have HAU := Lib.hid hau; have E4 := Lib.hid (E2.out.go hb); have M4 := Lib.hid (M2.out.below hb); have hs4 := hb.size; clear hpo hb hsp hll hau))
    obtain ⟨W5, hW⟩ : ∃ z, z = w4.alloc (.cells #[.slice au L.length cu] 25) := ⟨_, rfl⟩
    have hb5 : Below w4.heap.size w4 W5 := by rw [hW]; exact (Below.refl _ _).alloc (Nat.le_refl _) _
    have c14 : W5.cell? ⟨w4.heap.size, 0, none⟩ = some (.slice au L.length cu) := by rw [hW]; go_simp
    rw [← hW]
    obtain ⟨g14, hg14⟩ : ∃ z, z = w4.heap.size := ⟨_, rfl⟩
    rw [← hg14] at c14 ⊢
    have E5 := Lib.hid (E4.out.go hb5)
    have M5 := Lib.hid (M4.out.below hb5)
    have HSU5 := Lib.hid (HSU.out.below hb5)
    have HAU5 := Lib.hid (show ∀ g o, au = some ⟨g, o, none⟩ → W2.heap.size ≤ g ∧ g < W5.heap.size from fun g o e => by have := HAU.out g o e; have := hb5.size; omega)
    have hg145 : g14 < W5.heap.size := World.block_lt_of_cell? _ _ c14
    have hg142 : W2.heap.size ≤ g14 := by omega
    have hbW2 : b < W2.heap.size := M2.out.lt
    have hBW2 : B < W2.heap.size := M2.out.lt'
    have C14 := Lib.hid c14
    have HFL := Lib.hid (show ∀ L W, L.length < 1000 → MemAt W b B sz f L → Calls Try.prog 22 #[.pointer (some ⟨b, 0, none⟩), .int .u64 0, .int .i64 (sz : Nat), .int .u8 1] W fun e w' => e = .returned (.int .i64 0) ∧ Keeps (Two b B) W w' from fun L W hL hM => (fill_ok b B sz f L 0 sz 1 W hM (by omega) (by omega)).mono fun e w' h => ⟨h.1, h.2.1⟩)
    clear hW hb5 c14 hg14 E4 M4 HSU HAU R12 U2 HRS2 IMC hs4
    go_upto_region 8 with (first
      | (go_at_call 19; refine (HEA2.out _ _ M5.out).mono ?_; rintro e W6 ⟨cE, av, cv, rfl, hcE, hb, hcell, hsp, hlx, hav⟩; rw [← HL.out] at hcell hsp; have E6 := Lib.hid (E5.out.go hb); have M6 := Lib.hid (M5.out.below hb); have HCE := Lib.hid hcell; have HSV := Lib.hid hsp; have HAV := Lib.hid hav; have HSU6 := Lib.hid (HSU5.out.below hb); have C146 := Lib.hid ((hb.cell (p := ⟨g14, 0, none⟩) hg145).trans C14.out); have hs6 := hb.size; clear hb hcell hsp hlx hav)
      | (go_at_call 13; refine (size_is b B sz f _ (sz : Nat) _ M6.out rfl).mono ?_; rintro e w' ⟨rfl, rfl⟩)
      | (go_at_call 22; refine (HFL.out _ _ (by simp) M6.out).mono ?_; rintro e W7 ⟨rfl, hk⟩; have K7 := Lib.hid hk; clear hk)
      | (go_at_call 14; refine (num_any _ _).mono ?_; rintro e w' ⟨rfl, rfl⟩))
    have hk7 := K7.out
    have htw : ∀ j, W2.heap.size ≤ j → ¬ Two b B j := fun j hj e => by rcases e with e | e <;> omega
    have hcE2 : W2.heap.size ≤ cE := by omega
    obtain ⟨W8, hW⟩ : ∃ z, z = W7.alloc (.cells #[.int .i64 0] 3) := ⟨_, rfl⟩
    have hb8 : Keeps (Two b B) W6 W8 := by rw [hW]; exact hk7.alloc _
    have hs8 : W8.heap.size = W7.heap.size + 1 := by rw [hW]; simp
    have hs7 := hk7.size
    have r17 : W8.rowIs W7.heap.size 3 1 (fun _ => .int .i64 (0 : Nat)) := by rw [hW]; exact World.rowIs_alloc W7 #[.int .i64 0] 3 _ (fun i hi => by simp at hi; subst hi; rfl)
    have E8 := Lib.hid (E6.out.kept hb8 (fun j hj e => by rcases e with e | e <;> omega))
    have C148 := Lib.hid (hb8.cell C146.out (htw _ (by show W2.heap.size ≤ g14; omega)))
    have HCE8 := Lib.hid (hb8.cell HCE.out (htw _ (by show W2.heap.size ≤ cE; omega)))
    have HSU8 := Lib.hid (HSU6.out.keeps hb8 (fun g o e => htw _ (by have := HAU5.out g o e; omega)))
    have HSV8 := Lib.hid (HSV.out.keeps hb8 (fun g o e => htw _ (by have := HAV.out g o e; omega)))
    have HAU8 := Lib.hid (show ∀ g o, au = some ⟨g, o, none⟩ → g < W8.heap.size from fun g o e => by have := HAU5.out g o e; omega)
    have HAV8 := Lib.hid (show ∀ g o, av = some ⟨g, o, none⟩ → g < W8.heap.size from fun g o e => by have := HAV.out g o e; omega)
    have hcE8 : cE < W8.heap.size := World.block_lt_of_cell? _ _ HCE8.out
    have hg148 : g14 < W8.heap.size := by omega
    have hw8 : w.heap.size + 1 < W8.heap.size := by have := E2.out.below.size; have := E8.out.r10.lt; omega
    obtain ⟨g17, hg17⟩ : ∃ z, z = W7.heap.size := ⟨_, rfl⟩
    have hg178 : g17 < W8.heap.size := by omega
    rw [← hg17] at r17
    go_wp2_with fail
    rw [← hW, ← hg17]
    have R17 := Lib.hid r17
    have f0 : EachI W8 g17 g17 0 0 none W8 := ⟨Keeps.refl _ _, r17, r17, fun D e => by cases e⟩
    have F0 := Lib.hid (show Keeps (fun j => W8.heap.size ≤ j) W8 W8 from Keeps.refl _ _)
    clear hW hb8 hs8 hs7 hk7 r17 f0 hg17 K7 E5 E6 M5 M6 HCE HSV HAV HSU5 HSU6 HAU5 C14 C146 HFL HEA2 hs6 htw
    refine wp_loop_rounds 3 ?_
    rw [rounds_succ]
    obtain ⟨M, hM⟩ : ∃ z, z = (if 1 < many then many else 1) := ⟨_, rfl⟩
    obtain ⟨K0, hK0⟩ : ∃ z : Nat, (z : Int) = (if M < (L.length : Int) then M else (L.length : Int)) := ⟨(if M < (L.length : Int) then M else (L.length : Int)).toNat, by split <;> (rw [Int.toNat_of_nonneg]; (have : 1 ≤ M := by (rw [hM]; split <;> omega)); omega)⟩
    have HK0 := Lib.hid (show ∀ k : Nat, k ≤ L.length → (k = L.length ∧ (k = 0 ∨ (k : Int) < many) ∨ 1 ≤ k ∧ many ≤ k ∧ (k = 1 ∨ (k : Int) - 1 < many)) → K0 = k from fun k h1 h2 => by
      split at hM <;> split at hK0 <;> omega)
    have HM1 := Lib.hid hM.symm
    have HM2 := Lib.hid hK0.symm
    clear hM hK0

    have c17 := R17.out.cell (i := 0) (by omega)
    have f17 := R17.out.frozen 0
    go_wp2_with fail
    obtain ⟨W90, hW⟩ : ∃ z, z = W8.alloc (.cells #[.int .i64 0] 3) := ⟨_, rfl⟩
    rw [← hW]
    clear c17 f17
    have hk9 : Keeps (fun _ => False) W8 W90 := by rw [hW]; exact (Keeps.refl _ _).alloc _
    have r18 : W90.rowIs W8.heap.size 3 1 (fun _ => .int .i64 (0 : Nat)) := by rw [hW]; exact World.rowIs_alloc W8 #[.int .i64 0] 3 _ (fun i hi => by simp at hi; subst hi; rfl)
    have hs9 : W90.heap.size = W8.heap.size + 1 := by rw [hW]; simp
    have hs98 : W8.heap.size ≤ W8.heap.size := F0.out.size
    obtain ⟨g180, hg18⟩ : ∃ z, z = W8.heap.size := ⟨_, rfl⟩
    have hge : W8.heap.size ≤ g180 := by omega
    rw [← hg18] at r18 hs9 ⊢
    have hne : g17 < g180 := by rw [hg18]; exact R17.out.lt
    have i9 : EachI W8 g17 g180 0 0 none W90 := ⟨F0.out.trans (hk9.mono fun j _ e => e.elim), hk9.rowIs R17.out (fun h => h), r18, (fun D e => by cases e)⟩
    have kk9 := i9.keep
    have HST := Lib.hid (each1_stops 8 (by omega) cE cv L av W90 (kk9.cell HCE8.out (by show ¬ W8.heap.size ≤ cE; omega)) (HSV8.out.keeps kk9 (fun g o e h => by have h : W8.heap.size ≤ g := h; have := HAV8.out g o e; omega)) HLL.out)
    have I9 := Lib.hid i9
    have hs9a : g180 < W90.heap.size := by omega
    have hs9b : W90.heap.size ≤ g180 + 1 := by omega
    clear hW hk9 r18 hg18 i9 kk9 hs98 hs9
    refine wp_rangeC 2 (fun W => EachI W8 g17 g180 0 K0 none W) (gf := 45) (lb := #[.pointer (some ⟨cE, 0, none⟩)]) rfl (enters_of Try.func45 (by kernel_rfl) rfl) HST.out
      (fun h k g o e => (k g o e).trans (h g o e)) (fun W l o o' hl _ _ _ g o2 e => World.putObj_heap_other (by have := HAV8.out g o2 e; omega)) (fun _ => rfl)
      (EachJ W8 g17 g180 0 none many) (EachX W8 g17 g180 0 none many L.length)
      (own_of fun s A B hs hq => ⟨hs.1, hs.2.1, hs.2.2.quiet hq (by omega) (fun D e => by cases e)⟩)
      (fun cd => own_of fun s A B hs hq => hs.imp (fun h => h) (fun ⟨h1, h2, h3, h4, h5, h6, h7, h8⟩ => ⟨h1, h2, h3, h4, h5, h6, h7, h8.quiet hq (by omega) (fun D e => by cases e)⟩))
      ⟨rfl, fun _ => .inl rfl, I9.out⟩ (EachA W90.heap.size L)
      (fun x a' => own_of fun s A B hs hq => by obtain ⟨sb, h1, h2, h3⟩ := hs; exact ⟨sb, h1, hq.rowIs h2, h3⟩) ?assign0 ?body0 ?done0 ?stop0 (fun _ _ h => h) ?rest0
    case assign0 =>
      intro lr pre x W K hI hK
      have HI := Lib.hid hI
      have hbs : W90.heap.size ≤ W.heap.size := by have := hI.2.2.r18.lt; omega
      unfold EachA at hK
      simp only [encS]
      generalize L.getD x zSp = s at *
      have hK' := Lib.hid hK
      clear hI hK
      gi_wp2
      refine hK'.out _ _ ((KeepsOthers.alloc _ _).from _) (fun g o e => Below.heap_alloc _ _ _ (by have := HAV8.out g o e; omega)) ?_ ⟨W.heap.size, hbs, ?_, rfl⟩
      · obtain ⟨h1, h2, h3⟩ := HI.out
        exact ⟨h1, h2, h3.quiet (Quiet.alloc W90.heap.size W _) (by omega) (fun D e => by cases e)⟩
      · exact World.rowIs_alloc W _ 49 _ (fun i hi => by
          match i, hi with
          | 0, _ => rfl
          | 1, _ => rfl
          | 2, _ => rfl)
    case body0 =>
      rintro lr pre x a' W hl hrec ⟨hI1, hI2, hI3⟩ ⟨sb, hsb, hrs, rfl⟩ hlen
      have HLR := Lib.hid hrec
      simp only [List.setIfInBounds_toArray, List.set_cons_succ, List.set_cons_zero]
      obtain ⟨k, hk⟩ : ∃ k, k = pre.length := ⟨_, rfl⟩
      rw [← hk] at hI1 hI2 hI3 hlen
      have hes := E8.out.kept hI3.keep (fun j hj h => by have h : W8.heap.size ≤ j := h; omega)
      have e9 := hes.c9
      have e10 := hes.r10.cell (i := 0) (by omega)
      have f10 := hes.r10.frozen 0
      have e14 := hI3.keep.cell C148.out (by show ¬ W8.heap.size ≤ g14; omega)
      have e17 := hI3.r17.cell (i := 0) (by omega)
      have e18 := hI3.r18.cell (i := 0) (by omega)
      have f18 := hI3.r18.frozen 0
      have s0 := hrs.cell (i := 0) (by omega)
      have s1 := hrs.cell (i := 1) (by omega)
      have s2 := hrs.cell (i := 2) (by omega)
      rw [if_pos rfl] at s0
      rw [if_neg (by omega), if_pos rfl] at s1
      rw [if_neg (by omega), if_neg (by omega)] at s2
      have HU := Lib.hid (HSU8.out.keeps hI3.keep (fun g o e h => by have h : W8.heap.size ≤ g := h; have := HAU8.out g o e; omega))
      have HI1 := Lib.hid hI1
      have HI2 := Lib.hid (hI2 rfl)
      have HI3 := Lib.hid hI3
      have HK := Lib.hid hk
      have d1 : decide (L.length ≤ k) = false := by simp; omega
      obtain ⟨s, hs⟩ : ∃ s, s = L.getD x zSp := ⟨_, rfl⟩
      rw [← hs] at s0 s1 s2 ⊢
      have HSv := Lib.hid hs
      clear hrec hI1 hI2 hI3 hk hrs hs hes
      by_cases hxk : x = k
      · subst hxk
        obtain ⟨gu, ou, hau, hr⟩ := HU.out x hlen
        subst hau
        have eg : L[x]'hlen = s := by rw [HSv.out]; simp [List.getD_eq_getElem?_getD, hlen]
        rw [eg] at hr
        have v0 : W.cell? ⟨gu, ou + x * 3, none⟩ = some (.int .u64 s.a) := hr 0 _ rfl
        have v1 : W.cell? ⟨gu, ou + x * 3 + 1, none⟩ = some (.int .i64 s.n) := hr 1 _ rfl
        have v2 : W.cell? ⟨gu, ou + x * 3 + 2, none⟩ = some (.bool s.bk) := hr 2 _ rfl
        have hb0 : (0 : Int) ≤ (x : Int) := by omega
        have hb1 : (x : Int) < (L.length : Int) := by omega
        have hb2 := HLL.out
        have hnq := fun w => neqSp s.a s.n s.bk w
        clear hr eg
        gi_wp2
        refine wpIn_quiet_round (by kernel_rfl) (by kernel_rfl) (by kernel_rfl) (by rintro ⟨_, _, h⟩; exact h) ?_
        repeat (go_big_quiet_step (fail))
        refine wpQuiet_nil ?_
        intro _ hw'
        obtain ⟨nq, hw''⟩ := hw'
        subst hw''
        have STP := Lib.hid (HI3.out.step nq (by omega) (by omega) (fun D e => by cases e))
        have hkf : KeepsFrom W90.heap.size W ((W.drewN nq).setCell ⟨g180, 0, none⟩ (.int .i64 ((x : Int) + 1))) := KeepsFrom.of_keeps (S := One g180) (((Keeps.refl _ W).drewN nq).set1 _ _) (fun k e => by have e : k = g180 := e; omega)
        have HKF := Lib.hid hkf
        have hr1 : List.range x ++ [x] = List.range (x + 1) := List.range_succ.symm
        have HR1 := Lib.hid hr1
        have hka : KeepA av W ((W.drewN nq).setCell ⟨g180, 0, none⟩ (.int .i64 ((x : Int) + 1))) := fun g o e => Below.heap_setCell _ _ _ _ (by have := HAV8.out g o e; show g ≠ g180; omega)
        have HKA := Lib.hid hka
        clear hkf hr1 hka
        by_cases hmx : many ≤ (x : Int) + 1
        · gi_wp2
          refine ⟨HKF.out, .inr ⟨rfl, rfl, ?_, ?_, ?_, ?_, ?_, ?_⟩⟩
          · rw [List.length_append, ← HK.out, HI1.out]; exact HR1.out
          · rw [List.length_append, ← HK.out]; simp; omega
          · rw [List.length_append, ← HK.out]; simp; omega
          · rw [List.length_append, ← HK.out]; simp
          · rw [List.length_append, ← HK.out]; simp; have := HI2.out; omega
          · rw [List.length_append, ← HK.out]; exact STP.out
        · gi_wp2
          refine ⟨HKF.out, HKA.out, ?_, ?_, ?_⟩
          · rw [List.length_append, ← HK.out, HI1.out]; exact HR1.out
          · intro _; right; rw [List.length_append, ← HK.out]; simp; omega
          · rw [List.length_append, ← HK.out]; exact STP.out
      · have d2 : ((x : Int) != (k : Int)) = true := by simp; omega
        gi_wp2
        refine wpIn_quiet_round (by kernel_rfl) (by kernel_rfl) (by kernel_rfl) (by rintro ⟨_, _, h⟩; exact h) ?_
        repeat (go_big_quiet_step (fail))
        refine wpQuiet_nil ?_
        intro _ hw'
        obtain ⟨nq, hw''⟩ := hw'
        subst hw''
        gi_wp2
        refine ⟨KeepsFrom.of_keeps (S := One (w.heap.size + 1)) (((Keeps.refl _ W).drewN nq).set1 _ _) (fun k e => by have e : k = w.heap.size + 1 := e; omega), .inl ⟨rfl, fun e => hxk ?_⟩⟩
        rw [List.length_append, ← HK.out, HI1.out, List.length_cons, List.length_nil, Nat.zero_add, List.range_succ] at e
        simpa using e
    case done0 =>
      rintro xs W rfl ⟨-, hI2, hI3⟩
      rw [List.length_range] at hI2 hI3
      rw [HK0.out L.length (Nat.le_refl _) (.inl ⟨rfl, hI2 rfl⟩)]
      exact hI3
    case stop0 =>
      rintro cd pre W ⟨k, rfl⟩ hX
      rcases hX with ⟨-, hX⟩ | ⟨rfl, -, -, hX1, hX2, hX3, hX4, hI3⟩
      · rw [List.length_range] at hX; exact absurd rfl hX
      · rw [List.length_range] at hX1 hX2 hX3 hX4 hI3
        exact ⟨rfl, by rw [HK0.out k hX1 (.inr ⟨hX3, hX2, hX4⟩)]; exact hI3⟩
    case rest0 =>
      intro D0 W hD hI3 hK
      have hes := E8.out.kept hI3.keep (fun j hj h => by have h : W8.heap.size ≤ j := h; omega)
      have e9 := hes.c9
      have e14 := hI3.keep.cell C148.out (by show ¬ W8.heap.size ≤ g14; omega)
      have e17 := hI3.r17.cell (i := 0) (by omega)
      have e18 := hI3.r18.cell (i := 0) (by omega)
      have HI3 := Lib.hid hI3
      have HKD := Lib.hid hK
      clear hes hI3 hK
      have hM1 := HM1.out
      have hM2 := HM2.out
      go_wp2_with fail
      obtain ⟨V0, hV⟩ : ∃ z, z = W.alloc (.cells #[.int .i64 1] 3) := ⟨_, rfl⟩
      rw [← hV]
      clear hM1 hM2
      have hF1 : Keeps (fun j => W8.heap.size ≤ j) W8 V0 := by rw [hV]; exact HI3.out.keep.alloc _
      have hR1 : V0.rowIs W.heap.size 3 1 (fun _ => .int .i64 (1 : Nat)) := by rw [hV]; exact World.rowIs_alloc W #[.int .i64 1] 3 _ (fun i hi => by simp at hi; subst hi; rfl)
      have hMK : V0.heap[D0]? = some (.deferred (some [])) := by rw [hV]; exact (Below.heap_alloc _ _ _ (lt_of_block HKD.out)).trans HKD.out
      have hDw : w.heap.size ≤ D0 := by omega
      obtain ⟨g171, hg171⟩ : ∃ z, z = W.heap.size := ⟨_, rfl⟩
      rw [← hg171] at hR1 ⊢
      have F1 := Lib.hid hF1
      have R171 := Lib.hid hR1
      have HMK := Lib.hid hMK
      clear hV hF1 hR1 hMK hg171 HI3 HKD e9 e14 e17 e18 I9 HST HK0 HM1 HM2 hD hs9a hs9b hge hne
      rw [rounds_succ]
      have c17 := R171.out.cell (i := 0) (by omega)
      have f17 := R171.out.frozen 0
      go_wp2_with fail
      obtain ⟨W91, hW⟩ : ∃ z, z = V0.alloc (.cells #[.int .i64 0] 3) := ⟨_, rfl⟩
      rw [← hW]
      clear c17 f17
      have hk9 : Keeps (fun _ => False) V0 W91 := by rw [hW]; exact (Keeps.refl _ _).alloc _
      have r18 : W91.rowIs V0.heap.size 3 1 (fun _ => .int .i64 (0 : Nat)) := by rw [hW]; exact World.rowIs_alloc V0 #[.int .i64 0] 3 _ (fun i hi => by simp at hi; subst hi; rfl)
      have hs9 : W91.heap.size = V0.heap.size + 1 := by rw [hW]; simp
      have hs98 : W8.heap.size ≤ V0.heap.size := F1.out.size
      obtain ⟨g181, hg18⟩ : ∃ z, z = V0.heap.size := ⟨_, rfl⟩
      have hge : W8.heap.size ≤ g181 := by omega
      rw [← hg18] at r18 hs9 ⊢
      have hne : g171 < g181 := by rw [hg18]; exact R171.out.lt
      have hD09 : D0 < W91.heap.size := by have := lt_of_block HMK.out; omega
      have hD08 : D0 < g181 := by have := lt_of_block HMK.out; omega
      have i9 : EachI W8 g171 g181 1 0 (some D0) W91 := ⟨F1.out.trans (hk9.mono fun j _ e => e.elim), hk9.rowIs R171.out (fun h => h), r18, (fun D e => by cases e; exact (hk9.block D0 (lt_of_block HMK.out) (fun h => h)).trans HMK.out)⟩
      have kk9 := i9.keep
      have HST := Lib.hid (each1_stops 8 (by omega) cE cv L av W91 (kk9.cell HCE8.out (by show ¬ W8.heap.size ≤ cE; omega)) (HSV8.out.keeps kk9 (fun g o e h => by have h : W8.heap.size ≤ g := h; have := HAV8.out g o e; omega)) HLL.out)
      have I9 := Lib.hid i9
      have hs9a : g181 < W91.heap.size := by omega
      have hs9b : W91.heap.size ≤ g181 + 1 := by omega
      clear hW hk9 r18 hg18 i9 kk9 hs98 hs9
      refine wp_rangeC 2 (fun W => EachI W8 g171 g181 1 L.length (some D0) W) (gf := 45) (lb := #[.pointer (some ⟨cE, 0, none⟩)]) rfl (enters_of Try.func45 (by kernel_rfl) rfl) HST.out
        (fun h k g o e => (k g o e).trans (h g o e)) (fun W l o o' hl _ _ _ g o2 e => World.putObj_heap_other (by have := HAV8.out g o2 e; omega)) (fun _ => rfl)
        (EachJ W8 g171 g181 1 (some D0) many) (EachX W8 g171 g181 1 (some D0) many L.length)
        (own_of fun s A B hs hq => ⟨hs.1, hs.2.1, hs.2.2.quiet hq (by omega) (fun D e => by cases e; exact hD09)⟩)
        (fun cd => own_of fun s A B hs hq => hs.imp (fun h => h) (fun ⟨h1, h2, h3, h4, h5, h6, h7, h8⟩ => ⟨h1, h2, h3, h4, h5, h6, h7, h8.quiet hq (by omega) (fun D e => by cases e; exact hD09)⟩))
        ⟨rfl, fun _ => .inl rfl, I9.out⟩ (EachA W91.heap.size L)
        (fun x a' => own_of fun s A B hs hq => by obtain ⟨sb, h1, h2, h3⟩ := hs; exact ⟨sb, h1, hq.rowIs h2, h3⟩) ?assign1 ?body1 ?done1 ?stop1 (fun _ _ h => h) ?rest1
      case assign1 =>
        intro lr pre x W K hI hK
        have HI := Lib.hid hI
        have hbs : W91.heap.size ≤ W.heap.size := by have := hI.2.2.r18.lt; omega
        unfold EachA at hK
        simp only [encS]
        generalize L.getD x zSp = s at *
        have hK' := Lib.hid hK
        clear hI hK
        gi_wp2
        refine hK'.out _ _ ((KeepsOthers.alloc _ _).from _) (fun g o e => Below.heap_alloc _ _ _ (by have := HAV8.out g o e; omega)) ?_ ⟨W.heap.size, hbs, ?_, rfl⟩
        · obtain ⟨h1, h2, h3⟩ := HI.out
          exact ⟨h1, h2, h3.quiet (Quiet.alloc W91.heap.size W _) (by omega) (fun D e => by cases e; exact hD09)⟩
        · exact World.rowIs_alloc W _ 49 _ (fun i hi => by
            match i, hi with
            | 0, _ => rfl
            | 1, _ => rfl
            | 2, _ => rfl)
      case body1 =>
        rintro lr pre x a' W hl hrec ⟨hI1, hI2, hI3⟩ ⟨sb, hsb, hrs, rfl⟩ hlen
        have HLR := Lib.hid hrec
        simp only [List.setIfInBounds_toArray, List.set_cons_succ, List.set_cons_zero]
        obtain ⟨k, hk⟩ : ∃ k, k = pre.length := ⟨_, rfl⟩
        rw [← hk] at hI1 hI2 hI3 hlen
        have hes := E8.out.kept hI3.keep (fun j hj h => by have h : W8.heap.size ≤ j := h; omega)
        have e9 := hes.c9
        have e10 := hes.r10.cell (i := 0) (by omega)
        have f10 := hes.r10.frozen 0
        have e14 := hI3.keep.cell C148.out (by show ¬ W8.heap.size ≤ g14; omega)
        have e17 := hI3.r17.cell (i := 0) (by omega)
        have e18 := hI3.r18.cell (i := 0) (by omega)
        have f18 := hI3.r18.frozen 0
        have s0 := hrs.cell (i := 0) (by omega)
        have s1 := hrs.cell (i := 1) (by omega)
        have s2 := hrs.cell (i := 2) (by omega)
        rw [if_pos rfl] at s0
        rw [if_neg (by omega), if_pos rfl] at s1
        rw [if_neg (by omega), if_neg (by omega)] at s2
        have HU := Lib.hid (HSU8.out.keeps hI3.keep (fun g o e h => by have h : W8.heap.size ≤ g := h; have := HAU8.out g o e; omega))
        have HI1 := Lib.hid hI1
        have HI2 := Lib.hid hI2
        have HI3 := Lib.hid hI3
        have HK := Lib.hid hk
        have d1 : decide (L.length ≤ k) = false := by simp; omega
        obtain ⟨s, hs⟩ : ∃ s, s = L.getD x zSp := ⟨_, rfl⟩
        rw [← hs] at s0 s1 s2 ⊢
        have HSv := Lib.hid hs
        clear hrec hI1 hI2 hI3 hk hrs hs hes
        by_cases hxk : x = k
        · subst hxk
          obtain ⟨gu, ou, hau, hr⟩ := HU.out x hlen
          subst hau
          have eg : L[x]'hlen = s := by rw [HSv.out]; simp [List.getD_eq_getElem?_getD, hlen]
          rw [eg] at hr
          have v0 : W.cell? ⟨gu, ou + x * 3, none⟩ = some (.int .u64 s.a) := hr 0 _ rfl
          have v1 : W.cell? ⟨gu, ou + x * 3 + 1, none⟩ = some (.int .i64 s.n) := hr 1 _ rfl
          have v2 : W.cell? ⟨gu, ou + x * 3 + 2, none⟩ = some (.bool s.bk) := hr 2 _ rfl
          have hb0 : (0 : Int) ≤ (x : Int) := by omega
          have hb1 : (x : Int) < (L.length : Int) := by omega
          have hb2 := HLL.out
          have hnq := fun w => neqSp s.a s.n s.bk w
          clear hr eg
          gi_wp2
          refine wpIn_quiet_round (by kernel_rfl) (by kernel_rfl) (by kernel_rfl) (by rintro ⟨_, _, h⟩; exact h) ?_
          repeat (go_big_quiet_step (fail))
          refine wpQuiet_nil ?_
          intro _ hw'
          obtain ⟨nq, hw''⟩ := hw'
          subst hw''
          have STP := Lib.hid (HI3.out.step nq (by omega) (by omega) (fun D e => by cases e; omega))
          have hkf : KeepsFrom W91.heap.size W ((W.drewN nq).setCell ⟨g181, 0, none⟩ (.int .i64 ((x : Int) + 1))) := KeepsFrom.of_keeps (S := One g181) (((Keeps.refl _ W).drewN nq).set1 _ _) (fun k e => by have e : k = g181 := e; omega)
          have HKF := Lib.hid hkf
          have hr1 : List.range x ++ [x] = List.range (x + 1) := List.range_succ.symm
          have HR1 := Lib.hid hr1
          have hka : KeepA av W ((W.drewN nq).setCell ⟨g181, 0, none⟩ (.int .i64 ((x : Int) + 1))) := fun g o e => Below.heap_setCell _ _ _ _ (by have := HAV8.out g o e; show g ≠ g181; omega)
          have HKA := Lib.hid hka
          clear hkf hr1 hka
          gi_wp2
          refine ⟨HKF.out, HKA.out, ?_, ?_, ?_⟩
          · rw [List.length_append, ← HK.out, HI1.out]; exact HR1.out
          · intro h; omega
          · rw [List.length_append, ← HK.out]; exact STP.out
        · have d2 : ((x : Int) != (k : Int)) = true := by simp; omega
          gi_wp2
          refine wpIn_quiet_round (by kernel_rfl) (by kernel_rfl) (by kernel_rfl) (by rintro ⟨_, _, h⟩; exact h) ?_
          repeat (go_big_quiet_step (fail))
          refine wpQuiet_nil ?_
          intro _ hw'
          obtain ⟨nq, hw''⟩ := hw'
          subst hw''
          gi_wp2
          refine ⟨KeepsFrom.of_keeps (S := One (w.heap.size + 1)) (((Keeps.refl _ W).drewN nq).set1 _ _) (fun k e => by have e : k = w.heap.size + 1 := e; omega), .inl ⟨rfl, fun e => hxk ?_⟩⟩
          rw [List.length_append, ← HK.out, HI1.out, List.length_cons, List.length_nil, Nat.zero_add, List.range_succ] at e
          simpa using e
      case done1 =>
        rintro xs W rfl ⟨-, hI2, hI3⟩
        rw [List.length_range] at hI3
        exact hI3
      case stop1 =>
        rintro cd pre W ⟨k, rfl⟩ hX
        rcases hX with ⟨-, hX⟩ | ⟨rfl, hX, -⟩
        · rw [List.length_range] at hX; exact absurd rfl hX
        · exact absurd hX (by omega)
      case rest1 =>
        intro D1 W hD hI3 hK
        have hes := E8.out.kept hI3.keep (fun j hj h => by have h : W8.heap.size ≤ j := h; omega)
        have e9 := hes.c9
        have e14 := hI3.keep.cell C148.out (by show ¬ W8.heap.size ≤ g14; omega)
        have e17 := hI3.r17.cell (i := 0) (by omega)
        have e18 := hI3.r18.cell (i := 0) (by omega)
        have HI3 := Lib.hid hI3
        have HKD := Lib.hid hK
        clear hes hI3 hK
        go_wp2_with fail
        obtain ⟨V1, hV⟩ : ∃ z, z = W.alloc (.cells #[.int .i64 2] 3) := ⟨_, rfl⟩
        rw [← hV]
        have hF2 : Keeps (fun j => W8.heap.size ≤ j) W8 V1 := by rw [hV]; exact HI3.out.keep.alloc _
        have hes := E8.out.kept hF2 (fun j hj h => by have h : W8.heap.size ≤ j := h; omega)
        have c17 : V1.cell? ⟨W.heap.size, 0, none⟩ = some (.int .i64 2) := by rw [hV]; go_simp
        have hm1 : V1.heap[D1]? = some (.deferred (some [])) := by rw [hV]; exact (Below.heap_alloc _ _ _ (lt_of_block HKD.out)).trans HKD.out
        have hm0 : V1.heap[D0]? = some (.deferred (some [])) := by rw [hV]; exact (Below.heap_alloc _ _ _ (lt_of_block (HI3.out.mark D0 rfl))).trans (HI3.out.mark D0 rfl)
        have c10 := hes.r10.cell (i := 0) (by omega)
        have f10 := hes.r10.frozen 0
        have ES := Lib.hid hes
        have HM0 := Lib.hid hm0
        have HM1 := Lib.hid hm1
        clear hV hF2 hes hm0 hm1 HI3 HKD e9 e14 e17 e18
        rw [rounds_succ]
        go_wp2_with (go_at_call 9; refine (works_ok _).mono ?_; rintro e w9 ⟨rfl, hb⟩; have E9 := Lib.hid (ES.out.go hb); have N0 := Lib.hid ((hb.block D0 (lt_of_block HM0.out)).trans HM0.out); have N1 := Lib.hid ((hb.block D1 (lt_of_block HM1.out)).trans HM1.out); have d10 := E9.out.r10.cell (i := 0) (by omega); have e10 := E9.out.r10.frozen 0; clear hb)
        obtain ⟨_, _, rfl, f1, f2, rfl, f3, f4⟩ := each_end E9.out (D0 := D0) (D1 := D1) (by omega) (by omega) (by omega) N0.out N1.out
        refine ⟨by simp, .inl ⟨_, _, rfl, run_takeDeferred f1, ?_⟩⟩
        refine ⟨by simp, .inl ⟨_, _, rfl, run_takeDeferred f2, ?_⟩⟩
        refine ⟨.bool true, ?_, rfl, f4⟩
        simp [results, Try.f7, go_sem, f3]
end Go.Proofs.Ytfploifafpifnaa
