/- command: the law CommandLists. -/
import Derived.Test.YtggdjadhenamiaaKn
import Derived.Test.YtggdjadhenamiaaRf
import Derived.Test.YtggdjadhenamiaaR2
namespace Go.Proofs.Ytggdjadhenamiaa
set_option linter.unusedVariables false
set_option linter.unusedSimpArgs false
open Go.RowKit Go.Shelf
attribute [local go_sem] Oper.semAt_some

/-- One walk in the order of the text, in a round, over any class of worlds. -/
theorem wpIn_quiet_round_in {P : Program} {r n id : Nat} {Q : Exit → Act → World → Prop} {a : Act} {w : World} {l : List Oper} (C : World → Prop) (hC : C { w with drawn := w.drawn + 1 }) (hm : P.follows .mixedOrders = true) (hnd : noDefer l.toArray = true) (hB : Region.lexB .any l.toArray = true) (hQ : ¬ LetsOut Q)
    (h : wpQuiet P l.toArray (fun w' => ∃ p : InC C, w' = p.w) (fun a' => ∀ w', (∃ p : InC C, w' = p.w) → Q .normal a' w') l a) : (Code.region id l.toArray true).wpIn (Fence.wide.inRound r) n P Q a w := by
  simp only [Region.lexB, Bool.and_eq_true] at hB
  refine wpIn_region_any_round hm hnd hQ (wpAny_of_quiet (C := fun w' => ∃ p : InC C, w' = p.w) (Q := fun a' => ∀ w', (∃ p : InC C, w' = p.w) → Q .normal a' w') (fun _ w' hw' h => h w' hw') _ _ _ _ ⟨⟨_, hC⟩, rfl⟩ ?_)
  have := wpAnyQ_lex (C := fun w' => ∃ p : InC C, w' = p.w) (md := .any) hB.1 l 0 (Array.replicate l.toArray.size false) a (by simp) (by simpa using hB.2) h
  simpa using this
/-- wp_range; what a round's body is told may name the frame ahead of the loop. -/
theorem wp_rangeA {P : Program} {α : Type} {g : Operand} {ps : Array Tmp} {assign body : Code} {Q : Exit → Act → World → Prop} {a : Act} {w : World}
    {gf : Nat} {lb : Array Value} (hg : a.eval g = .func (.func gf) #[] lb) (eg : ∀ args w, (callFunc gf args).run P w = .ok (.enter gf args) w)
    {encs : α → Array Value} {Kp : World → World → Prop} {S Sp : List α → Prop} {N : Nat} (hseq : SeqStopsK Fence.wide 8 P gf lb encs Kp S Sp N w)
    (hKt : ∀ {A B C : World}, Kp A B → Kp B C → Kp A C) (hKb : ∀ (W : World) (l : Nat) (o o' : Obj), w.heap.size ≤ l → W.heap[l]? = some o → o.isCells = false → o.isWalk = false → Kp W (W.putObj l o')) (hps : ∀ x, (encs x).size = ps.size)
    (I : List α → World → Prop) (Ix : Code → List α → World → Prop) (hI : OwnFrom w.heap.size I) (hIx : ∀ c, OwnFrom w.heap.size (Ix c)) (h0 : I [] w) (Ax : Act → α → Act → World → Prop) (hAx : ∀ x a', OwnFrom w.heap.size (fun (_ : Unit) W => Ax a x a' W))
    (hassign : ∀ (l : Nat) (pre : List α) (x : α) (W : World) (K : Act → World → Prop), I pre W → (∀ a' W', KeepsFrom w.heap.size W W' → Kp W W' → I pre W' → Ax a x a' W' → K a' W') →
      assign.wpIn (Fence.wide.inRound l) 7 P (Exit.then K (fun _ _ _ => False)) { tmps := (ps.zip (encs x)).foldl (fun t (p, v) => t.setIfInBounds p v) a.tmps, defers := [] } W)
    (hbody : ∀ (l : Nat) (pre : List α) (x : α) (a' : Act) (W : World), w.heap.size ≤ l → (∃ r, W.heap[l]? = some (.loop r)) → I pre W → Ax a x a' W → pre.length < N → body.wpIn (Fence.wide.inRound l) 7 P (ownPostG w.heap.size Kp I Ix (pre ++ [x]) W) a' W)
    (hdone : ∀ (D : Nat) (xs : List α) (W : World), w.heap.size ≤ D → S xs → I xs W → W.heap[D]? = some (.deferred (some [])) → Q .normal { a with defers := { target := .collected D, args := #[] } :: a.defers } W)
    (hstop : ∀ (D : Nat) (c : Code) (pre : List α) (W : World), w.heap.size ≤ D → Sp pre → Ix c pre W → W.heap[D]? = some (.deferred (some [])) → c.wp P Q { a with defers := { target := .collected D, args := #[] } :: a.defers } W) :
    (Code.rangeFunc g ps assign body).wp P Q a w :=
  wp_range hg eg hseq hKt hKb hps I Ix hI hIx h0 (Ax a) hAx hassign hbody hdone hstop
/-- The same; both ways out meet. -/
theorem wp_rangeC {P : Program} {α : Type} {g : Operand} {ps : Array Tmp} {assign body : Code} {Q : Exit → Act → World → Prop} {a : Act} {w : World} (id : Nat) (E : World → Prop)
    {gf : Nat} {lb : Array Value} (hg : a.eval g = .func (.func gf) #[] lb) (eg : ∀ args w, (callFunc gf args).run P w = .ok (.enter gf args) w)
    {encs : α → Array Value} {Kp : World → World → Prop} {S Sp : List α → Prop} {N : Nat} (hseq : SeqStopsK Fence.wide 8 P gf lb encs Kp S Sp N w)
    (hKt : ∀ {A B C : World}, Kp A B → Kp B C → Kp A C) (hKb : ∀ (W : World) (l : Nat) (o o' : Obj), w.heap.size ≤ l → W.heap[l]? = some o → o.isCells = false → o.isWalk = false → Kp W (W.putObj l o')) (hps : ∀ x, (encs x).size = ps.size)
    (I : List α → World → Prop) (Ix : Code → List α → World → Prop) (hI : OwnFrom w.heap.size I) (hIx : ∀ c, OwnFrom w.heap.size (Ix c)) (h0 : I [] w) (Ax : Act → α → Act → World → Prop) (hAx : ∀ x a', OwnFrom w.heap.size (fun (_ : Unit) W => Ax a x a' W))
    (hassign : ∀ (l : Nat) (pre : List α) (x : α) (W : World) (K : Act → World → Prop), I pre W → (∀ a' W', KeepsFrom w.heap.size W W' → Kp W W' → I pre W' → Ax a x a' W' → K a' W') →
      assign.wpIn (Fence.wide.inRound l) 7 P (Exit.then K (fun _ _ _ => False)) { tmps := (ps.zip (encs x)).foldl (fun t (p, v) => t.setIfInBounds p v) a.tmps, defers := [] } W)
    (hbody : ∀ (l : Nat) (pre : List α) (x : α) (a' : Act) (W : World), w.heap.size ≤ l → (∃ r, W.heap[l]? = some (.loop r)) → I pre W → Ax a x a' W → pre.length < N → body.wpIn (Fence.wide.inRound l) 7 P (ownPostG w.heap.size Kp I Ix (pre ++ [x]) W) a' W)
    (hdone : ∀ (xs : List α) (W : World), S xs → I xs W → E W) (hstop : ∀ (c : Code) (pre : List α) (W : World), Sp pre → Ix c pre W → c = .exit id ∧ E W) (hQ : ∀ a' W, Q .normal a' W → Q (.exit id) a' W)
    (hend : ∀ (D : Nat) (W : World), w.heap.size ≤ D → E W → W.heap[D]? = some (.deferred (some [])) → Q .normal { a with defers := { target := .collected D, args := #[] } :: a.defers } W) :
    (Code.rangeFunc g ps assign body).wp P Q a w :=
  wp_range hg eg hseq hKt hKb hps I Ix hI hIx h0 (Ax a) hAx hassign hbody (fun D xs W hD hS hI hK => hend D W hD (hdone xs W hS hI) hK) (fun D c pre W hD hS hX hK => by
    obtain ⟨rfl, hE⟩ := hstop c pre W hS hX
    exact wp_exit (hQ _ _ (hend D W hD hE hK)))
/-- What the law's own blocks hold. -/
structure LL (w : World) (adm : Bool) (many : Int) (W : World) : Prop where
  below : Below w.heap.size w W
  c2 : W.cell? ⟨w.heap.size, 0, none⟩ = some (.bool adm)
  c3 : W.cell? ⟨w.heap.size + 1, 0, none⟩ = some (.int .i64 many)
  r4 : W.rowIs (w.heap.size + 1 + 1) 4 1 (fun _ => .bool false)
theorem LL.kept {w : World} {adm : Bool} {many : Int} {W W' : World} {S : Nat → Prop} (h : LL w adm many W) (k : Keeps S W W') (hS : ∀ j, j ≤ w.heap.size + 2 → ¬ S j) : LL w adm many W' :=
  ⟨h.below.trans (k.below (B := w.heap.size) h.below.size (fun j hj e => by rcases Nat.lt_or_ge j (w.heap.size + 3) with h | h; exact absurd e (hS j (by omega)); omega)), k.cell h.c2 (hS _ (by show w.heap.size ≤ _; omega)), k.cell h.c3 (hS _ (by show w.heap.size + 1 ≤ _; omega)), k.rowIs h.r4 (hS _ (by omega))⟩
theorem LL.go {w : World} {adm : Bool} {many : Int} {W W' : World} (h : LL w adm many W) (k : Below W.heap.size W W') : LL w adm many W' := h.kept (Keeps.of_below (S := fun _ => False) k) (fun _ _ e => e)
theorem lists_end {w W : World} {D0 D1 : Nat} {adm : Bool} {many : Int} (h : LL w adm many W) (h0 : w.heap.size ≤ D0) (h1 : w.heap.size ≤ D1) (hne : D0 ≠ D1) (k0 : W.heap[D0]? = some (.deferred (some []))) (k1 : W.heap[D1]? = some (.deferred (some []))) :
    ∃ W1 W2, W1 = (W.setCell ⟨w.heap.size + 1 + 1, 0, none⟩ (.bool true)) ∧ W1.heap[D1]? = some (.deferred (some [])) ∧ (W1.putObj D1 (.deferred none)).heap[D0]? = some (.deferred (some [])) ∧ W2 = (W1.putObj D1 (.deferred none)).putObj D0 (.deferred none) ∧
      W2.cell? ⟨w.heap.size + 1 + 1, 0, none⟩ = some (.bool true) ∧ Below w.heap.size w W2 := by
  have e3 := h.r4.cell (i := 0) (by omega)
  have q1 := (KeepsOthers.setCell W ⟨w.heap.size + 1 + 1, 0, none⟩ (.bool true)).same D1 _ k1 rfl
  have q0 := (KeepsOthers.setCell W ⟨w.heap.size + 1 + 1, 0, none⟩ (.bool true)).same D0 _ k0 rfl
  have p0 : ((W.setCell ⟨w.heap.size + 1 + 1, 0, none⟩ (.bool true)).putObj D1 (.deferred none)).heap[D0]? = some (.deferred (some [])) := (World.putObj_heap_other hne).trans q0
  have hc := World.cell?_setCell_same' W ⟨w.heap.size + 1 + 1, 0, none⟩ (.bool true) (by rw [e3]; rfl)
  have hb := h.below.setCell (p := ⟨w.heap.size + 1 + 1, 0, none⟩) (by show w.heap.size ≤ w.heap.size + 1 + 1; omega) (.bool true)
  exact ⟨_, _, rfl, q1, p0, rfl, cell_kept (cell_kept hc (grownBy_putObj' _ D1 (.deferred none)) (fun r e => by cases e; exact ⟨_, q1, rfl⟩)) (grownBy_putObj' _ D0 (.deferred none)) (fun r e => by cases e; exact ⟨_, p0, rfl⟩),
    (hb.trans (belowK_b (w := w) (Nat.le_refl _) _ D1 _ _ h1 q1 rfl rfl)).trans (belowK_b (w := w) (Nat.le_refl _) _ D0 _ _ h0 p0 rfl rfl)⟩
/-- What lies in memory between two rounds of the range: what lay there when the loop began; the counters of the loop and of the range; the mark of the round before. -/
structure EachI (W8 : World) (g17 g18 : Nat) (t k : Nat) (dd : Option Nat) (W : World) : Prop where
  keep : Keeps (fun j => W8.heap.size ≤ j) W8 W
  r17 : W.rowIs g17 3 1 (fun _ => .int .i64 t)
  r18 : W.rowIs g18 3 1 (fun _ => .int .i64 k)
  mark : ∀ D, dd = some D → W.heap[D]? = some (.deferred (some []))
theorem EachI.quiet {W8 A B : World} {N g17 g18 t k : Nat} {dd : Option Nat} (h : EachI W8 g17 g18 t k dd A) (q : Quiet N A B) (hN : W8.heap.size ≤ N) (hd : ∀ D, dd = some D → D < N) : EachI W8 g17 g18 t k dd B :=
  ⟨q.keeps h.keep hN, q.rowIs h.r17, q.rowIs h.r18, fun D e => (q.old D (hd D e) (lt_of_block (h.mark D e))).trans (h.mark D e)⟩
theorem EachI.below {W8 A B : World} {g17 g18 t k : Nat} {dd : Option Nat} (h : EachI W8 g17 g18 t k dd A) (q : Below A.heap.size A B) : EachI W8 g17 g18 t k dd B := by
  have kk : Keeps (fun _ => False) A B := Keeps.of_below q
  exact ⟨h.keep.trans (kk.mono fun j _ e => e.elim), kk.rowIs h.r17 (fun e => e), kk.rowIs h.r18 (fun e => e), fun D e => (q.block D (lt_of_block (h.mark D e))).trans (h.mark D e)⟩
theorem EachI.step {W8 W : World} {g17 g18 t k : Nat} {dd : Option Nat} (h : EachI W8 g17 g18 t k dd W) (h8 : W8.heap.size ≤ g18) (h7 : g17 ≠ g18) (hd : ∀ D, dd = some D → D ≠ g18) :
    EachI W8 g17 g18 t (k + 1) dd (W.setCell ⟨g18, 0, none⟩ (.int .i64 ((k : Int) + 1))) := by
  have hk : Keeps (One g18) W (W.setCell ⟨g18, 0, none⟩ (.int .i64 ((k : Int) + 1))) := (Keeps.refl _ _).set1 _ _
  refine ⟨h.keep.trans (hk.mono fun j _ e => by have e : j = g18 := e; show W8.heap.size ≤ j; omega), hk.rowIs h.r17 (fun e => h7 e), ?_, fun D e => ?_⟩
  · exact (World.rowIs.set (w := W) h.r18 0 _).congr fun i hi => by
      have : i = 0 := by omega
      subst this; rfl
  · exact (hk.block D (lt_of_block (h.mark D e)) (fun e' => hd D e e')).trans (h.mark D e)
/-- between two rounds: the first turn may be left when many were seen -/
def EachJ (W8 : World) (g17 g18 : Nat) (t : Nat) (dd : Option Nat) (many : Int) (pre : List Nat) (W : World) : Prop :=
  (t = 0 → pre.length = 0 ∨ (pre.length : Int) < many) ∧ EachI W8 g17 g18 t pre.length dd W
/-- behind a round that left -/
def EachX (W8 : World) (g17 g18 : Nat) (t : Nat) (dd : Option Nat) (many : Int) (n : Nat) (cd : Code) (pre : List Nat) (W : World) : Prop :=
  (cd = .ret ∧ pre ≠ List.range pre.length) ∨ (cd = .exit 2 ∧ t = 0 ∧ pre.length ≤ n ∧ many ≤ pre.length ∧ 1 ≤ pre.length ∧ (pre.length = 1 ∨ (pre.length : Int) - 1 < many) ∧ EachI W8 g17 g18 t pre.length dd W)
/-- what a round's body is told -/
def EachA (adm : Bool) (a : Act) (j : Nat) (a' : Act) (_ : World) : Prop :=
  a' = { tmps := (((a.tmps.setIfInBounds 21 (.int .u8 (codeAt adm j))).setIfInBounds 22 (strV (nameOf adm (codeAt adm j)))).setIfInBounds 8 (.int .u8 (codeAt adm j))).setIfInBounds 9 (strV (nameOf adm (codeAt adm j))), defers := [] }

set_option maxRecDepth 100000 in
set_option maxHeartbeats 16000000 in
theorem listsLaw (adm : Bool) (many : Int) (w : World) (hmy : (Lit.int .i64 many).wf = true) :
    Calls Try.prog 7 #[.bool adm, .int .i64 many] w fun e w' => e = .returned (.bool true) ∧ Below w.heap.size w w' := by
  obtain ⟨y0, y1⟩ := wf_i64 hmy
  have HKN := Lib.hid known_any
  obtain ⟨N, hN⟩ : ∃ N, N = nCodes adm := ⟨_, rfl⟩
  have HCN := Lib.hid (show ∀ W, Calls Try.prog 23 #[.bool adm] W fun e w' => e = .returned (.int .i64 (N : Nat)) ∧ Below W.heap.size W w' from fun W => by rw [hN]; exact rcount_any adm W)
  have HAT := Lib.hid (show ∀ (i : Nat) W, i < N → Calls Try.prog 24 #[.bool adm, .int .i64 i] W fun e w' => e = .returned (.tuple #[.int .u8 (codeAt adm i), strV (nameOf adm (codeAt adm i))]) ∧ Below W.heap.size W w' from fun i W hi => rat_any adm i (by omega) W)
  have HSTP := Lib.hid (show ∀ (c : Nat) W, W.cell? ⟨c, 0, none⟩ = some (.bool adm) → SeqStopsK Fence.wide 8 Try.prog 37 #[.pointer (some ⟨c, 0, none⟩)] (encO adm) (KeepCW W.heap.size) (fun xs => xs = List.range N) (fun pre => ∃ k, pre = List.range k) N W from fun c W hc => by rw [hN]; exact opcodes1_stops 8 (by omega) c adm W hc)
  have hN1 : 1 ≤ N ∧ N ≤ 17 := by rw [hN]; exact nCodes_le adm
  have HNN := Lib.hid hN
  clear hmy hN
  refine calls_marks Try.func7 rfl ?_
  simp only [Try.ntmps7, List.size_toArray, List.length_cons, List.length_nil, Nat.reduceAdd, Nat.reduceSub, Array.replicate_succ, Array.replicate_zero, List.push_toArray, List.append_toArray, List.nil_append, List.cons_append]
  go_upto_region 1 with (fail)
  obtain ⟨W0, hW⟩ : ∃ z, z = ((w.alloc (.cells #[.bool adm] 4)).alloc (.cells #[.int .i64 many] 3)).alloc (.cells #[.bool false] 4) := ⟨_, rfl⟩
  rw [← hW]
  have hes : LL w adm many W0 := by
    rw [hW]
    refine ⟨(((Below.refl _ _).alloc (Nat.le_refl _) _).alloc (by simp) _).alloc (by simp; omega) _, by go_simp, by go_simp, ?_⟩
    have h := World.rowIs_alloc ((w.alloc (.cells #[.bool adm] 4)).alloc (.cells #[.int .i64 many] 3)) #[.bool false] 4 (fun _ => .bool false) (fun i hi => by simp at hi; subst hi; rfl)
    simp only [World.size_alloc, List.size_toArray, List.length_cons, List.length_nil, Nat.zero_add] at h
    exact h
  have HS0 := Lib.hid (show W0.heap.size = w.heap.size + 3 by rw [hW]; simp)
  have hfn : ∀ (v : Array Value) (w : World), (binOp .eql 56 (.func (.func 37) #[] v) .nilFunc).run Try.prog w = .ok (.bool false) w := fun _ _ => by first | rfl | kernel_rfl | simp [go_sem]
  have E0 := Lib.hid hes
  have c2 := hes.c2
  clear hW hes
  go_upto_region 4 with (go_at_call 22; refine (opcodes_any adm W0).mono ?_; rintro e w1 ⟨rfl, hw1⟩; have HW1 := Lib.hid hw1; clear hw1)
  obtain ⟨c, hc⟩ : ∃ c, c = W0.heap.size := ⟨_, rfl⟩
  rw [← hc]
  have hb1 : Below W0.heap.size W0 w1 := by rw [HW1.out]; exact (Below.refl _ _).alloc (Nat.le_refl _) _
  have hcc : w1.cell? ⟨c, 0, none⟩ = some (.bool adm) := by rw [HW1.out, hc]; go_simp
  have HS1 := Lib.hid (show w1.heap.size = c + 1 by rw [HW1.out, hc]; simp)
  have E1 := Lib.hid (E0.out.go hb1)
  obtain ⟨W8, hW⟩ : ∃ z, z = w1.alloc (.cells #[.int .i64 0] 3) := ⟨_, rfl⟩
  have hb8 : Below w1.heap.size w1 W8 := by rw [hW]; exact (Below.refl _ _).alloc (Nat.le_refl _) _
  have HS8 := Lib.hid (show W8.heap.size = w1.heap.size + 1 by rw [hW]; simp)
  have r17 : W8.rowIs w1.heap.size 3 1 (fun _ => .int .i64 (0 : Nat)) := by rw [hW]; exact World.rowIs_alloc w1 #[.int .i64 0] 3 _ (fun i hi => by simp at hi; subst hi; rfl)
  have HCC8 := Lib.hid ((hb8.cell (World.block_lt_of_cell? _ _ hcc)).trans hcc)
  have E8 := Lib.hid (E1.out.go hb8)
  have hcW8 : c < W8.heap.size := by have := HS1.out; have := HS8.out; omega
  have hw8 : w.heap.size + 2 < W8.heap.size := by have := HS0.out; have := HS1.out; have := HS8.out; omega
  obtain ⟨g17, hg17⟩ : ∃ z, z = w1.heap.size := ⟨_, rfl⟩
  have hg178 : g17 < W8.heap.size := by have := HS8.out; omega
  rw [← hg17] at r17
  clear c2
  have HC0 := Lib.hid hc
  clear hc
  go_wp2_with fail
  rw [← hW, ← hg17]
  have R17 := Lib.hid r17
  have F0 := Lib.hid (show Keeps (fun j => W8.heap.size ≤ j) W8 W8 from Keeps.refl _ _)
  clear hW hb8 r17 hg17 E0 E1 HW1 hb1 hcc hfn
  refine wp_loop_rounds 3 ?_
  rw [rounds_succ]
  obtain ⟨M, hM⟩ : ∃ z, z = (if 1 < many then many else 1) := ⟨_, rfl⟩
  obtain ⟨K0, hK0⟩ : ∃ z : Nat, (z : Int) = (if M < (N : Int) then M else (N : Int)) := ⟨(if M < (N : Int) then M else (N : Int)).toNat, by split <;> (rw [Int.toNat_of_nonneg]; (have : 1 ≤ M := by (rw [hM]; split <;> omega)); omega)⟩
  have HK0 := Lib.hid (show ∀ k : Nat, k ≤ N → (k = N ∧ (k = 0 ∨ (k : Int) < many) ∨ 1 ≤ k ∧ many ≤ k ∧ (k = 1 ∨ (k : Int) - 1 < many)) → K0 = k from fun k h1 h2 => by
    split at hM <;> split at hK0 <;> omega)
  have HM1 := Lib.hid hM.symm
  have HM2 := Lib.hid hK0.symm
  clear hM hK0
  have c17 := R17.out.cell (i := 0) (by omega)
  have f17 := R17.out.frozen 0
  go_wp2_with fail
  obtain ⟨W90, hW⟩ : ∃ z, z = W8.alloc (.cells #[.int .i64 0] 3) := ⟨_, rfl⟩
  rw [← hW]
  clear c17 f17
  have hk9 : Keeps (fun _ => False) W8 W90 := by rw [hW]; exact (Keeps.refl _ _).alloc _
  have r18 : W90.rowIs W8.heap.size 3 1 (fun _ => .int .i64 (0 : Nat)) := by rw [hW]; exact World.rowIs_alloc W8 #[.int .i64 0] 3 _ (fun i hi => by simp at hi; subst hi; rfl)
  have hs9 : W90.heap.size = W8.heap.size + 1 := by rw [hW]; simp
  have hs98 : W8.heap.size ≤ W8.heap.size := F0.out.size
  obtain ⟨g180, hg18⟩ : ∃ z, z = W8.heap.size := ⟨_, rfl⟩
  have hge : W8.heap.size ≤ g180 := by omega
  rw [← hg18] at r18 hs9 ⊢
  have hne : g17 < g180 := by rw [hg18]; exact R17.out.lt

  have i9 : EachI W8 g17 g180 0 0 none W90 := ⟨F0.out.trans (hk9.mono fun j _ e => e.elim), hk9.rowIs R17.out (fun h => h), r18, (fun D e => by cases e)⟩
  have kk9 := i9.keep
  have HST := Lib.hid (HSTP.out c W90 (kk9.cell HCC8.out (by show ¬ W8.heap.size ≤ c; omega)))
  have I9 := Lib.hid i9
  have hs9a : g180 < W90.heap.size := by omega
  have hs9b : W90.heap.size ≤ g180 + 1 := by omega
  clear hW hk9 r18 hg18 i9 kk9 hs98 hs9
  refine wp_rangeC 2 (fun W => EachI W8 g17 g180 0 K0 none W) (gf := 37) (lb := #[.pointer (some ⟨c, 0, none⟩)]) rfl (enters_of Try.func37 (by kernel_rfl) rfl) HST.out
    (fun h k => h.trans k) (fun W l o o' _ h1 h2 h3 => KeepCW.putObj _ h1 h2 h3) (fun _ => rfl)
    (EachJ W8 g17 g180 0 none many) (EachX W8 g17 g180 0 none many N)
    (own_of fun s A B hs hq => ⟨hs.1, hs.2.quiet hq (by omega) (fun D e => by cases e)⟩)
    (fun cd => own_of fun s A B hs hq => hs.imp (fun h => h) (fun ⟨h1, h2, h4, h5, h6, h7, h8⟩ => ⟨h1, h2, h4, h5, h6, h7, h8.quiet hq (by omega) (fun D e => by cases e)⟩))
    ⟨fun _ => .inl rfl, I9.out⟩ (EachA adm)
    (fun x a' => own_of fun s A B hs hq => hs) ?assign0 ?body0 ?done0 ?stop0 (fun _ _ h => h) ?rest0
  case assign0 =>
    intro lr pre x W K hI hK
    have HI := Lib.hid hI
    unfold EachA at hK
    simp only [encO] at hK ⊢
    have hK' := Lib.hid hK
    clear hI hK
    have e0 : (codesL adm).getD x 0 = codeAt adm x := rfl
    rw [e0]
    generalize strV (nameOf adm (codeAt adm x)) = sv at *
    generalize codeAt adm x = cv at *
    gi_wp2
    exact hK'.out _ _ (KeepsFrom.refl _ _) (KeepCW.refl _ _) HI.out rfl
  case body0 =>
    rintro lr pre x a' W hl hrec ⟨hI2, hI3⟩ rfl hlen
    have HLR := Lib.hid hrec
    simp only [List.setIfInBounds_toArray, List.set_cons_succ, List.set_cons_zero]
    obtain ⟨k, hk⟩ : ∃ k, k = pre.length := ⟨_, rfl⟩
    rw [← hk] at hI2 hI3 hlen
    have hes := E8.out.kept hI3.keep (fun j hj h => by have h : W8.heap.size ≤ j := h; omega)
    have e2 := hes.c2
    have e18 := hI3.r18.cell (i := 0) (by omega)
    have HES := Lib.hid hes
    have HI2 := Lib.hid (hI2 rfl)
    have HI3 := Lib.hid hI3
    have HK := Lib.hid hk
    have d1 : decide (N ≤ k) = false := by simp; omega
    have d1' : decide ((N : Int) ≤ (k : Int)) = false := by simp; omega
    have HX := Lib.hid (show x = k → codeAt adm x = codeAt adm k from fun e => by rw [e])
    have HCI := Lib.hid (show ∀ p : InC (Below W.heap.size W), Calls Try.prog 23 #[.bool adm] p.w fun e w' => e = .returned (.int .i64 (N : Nat)) ∧ Below W.heap.size W w' from fun p => (HCN.out p.w).mono fun e w' h => ⟨h.1, p.ok.trans (h.2.mono p.ok.size)⟩)
    have hnon : Nonempty (InC (Below W.heap.size W)) := ⟨⟨W, Below.refl _ _⟩⟩
    have hcell : ∀ p : InC (Below W.heap.size W), p.w.cell? ⟨w.heap.size, 0, none⟩ = some (.bool adm) := fun p => (p.ok.cell (World.block_lt_of_cell? _ _ e2)).trans e2
    have hcell2 : ∀ p : InC (Below W.heap.size W), p.w.cell? ⟨g180, 0, none⟩ = some (.int .i64 k) := fun p => (p.ok.cell (World.block_lt_of_cell? _ _ e18)).trans e18
    clear hrec hI2 hI3 hk hes e2 e18
    obtain ⟨cx, hcx⟩ : ∃ z, z = codeAt adm x := ⟨_, rfl⟩
    rw [← hcx] at HX ⊢
    have HCX := Lib.hid hcx
    clear hcx
    gi_wp2
    refine wpIn_quiet_round_in (Below W.heap.size W) (Below.refl _ _).drew (by kernel_rfl) (by kernel_rfl) (by kernel_rfl) (by rintro ⟨_, _, h⟩; exact h) ?_
    repeat (go_big_quiet_step (with_reducible exact calls_in (HCI.out _)))
    refine wpQuiet_nil ?_
    intro _ hw'
    obtain ⟨p, hw''⟩ := hw'
    subst hw''
    have cp2 := hcell p
    have cp18 := hcell2 p
    have ES1 := Lib.hid (HES.out.go p.ok)
    have I31 := Lib.hid (HI3.out.below p.ok)
    have hpo := Lib.hid p.ok
    clear hcell hcell2 hnon HCI HES HI3
    obtain ⟨W1, hW1⟩ : ∃ z, z = p.w := ⟨_, rfl⟩
    rw [← hW1] at cp2 cp18 ES1 I31 hpo ⊢
    clear hW1
    have HAK := Lib.hid (HAT.out k W1 hlen)
    clear p
    have HIL := Lib.hid hlen
    have hkb : (k : Int) ≤ 16 := by omega
    by_cases hxk : cx = codeAt adm k
    · rw [← hxk] at HAK
      have HXK := Lib.hid hxk
      obtain ⟨sx, hsx⟩ : ∃ z, z = nameOf adm cx := ⟨_, rfl⟩
      rw [← hsx] at HAK ⊢
      unfold strV at HAK ⊢
      clear hsx hxk hlen
      gi_wp2_with fail
      refine ⟨trivial, (CallsIn.inRound lr (callsIn_wide.2 HAK.out)).mono ?_⟩
      rintro e W2 ⟨rfl, hb⟩
      have ES2 := Lib.hid (ES1.out.go hb)
      have I32 := Lib.hid (I31.out.below hb)
      have HP2 := Lib.hid (hpo.out.trans (hb.mono hpo.out.size))
      have cq3 := ES2.out.c3
      have cq17 := I32.out.r17.cell (i := 0) (by omega)
      have cq18 := I32.out.r18.cell (i := 0) (by omega)
      have fq18 := I32.out.r18.frozen 0
      clear hb
      have STP := Lib.hid (I32.out.step (by omega) (by omega) (fun D e => by cases e))
      have HKF := Lib.hid (show KeepsFrom W90.heap.size W (W2.setCell ⟨g180, 0, none⟩ (.int .i64 ((k : Int) + 1))) from KeepsFrom.of_keeps (S := One g180) ((Keeps.of_below (S := One g180) HP2.out).trans ((Keeps.refl _ W2).set1 _ _)) (fun k e => by have e : k = g180 := e; omega))
      have HKC := Lib.hid (show KeepCW W90.heap.size W (W2.setCell ⟨g180, 0, none⟩ (.int .i64 ((k : Int) + 1))) from (KeepCW.below HP2.out).trans (KeepCW.setCell ⟨g180, 0, none⟩ hs9a _))
      by_cases hmx : many ≤ (k : Int) + 1
      · gi_wp2
        refine ⟨HKF.out, .inr ⟨rfl, rfl, ?_, ?_, ?_, ?_, ?_⟩⟩
        · rw [List.length_append, ← HK.out]; simp; have := HIL.out; omega
        · rw [List.length_append, ← HK.out]; simp; omega
        · rw [List.length_append, ← HK.out]; simp
        · rw [List.length_append, ← HK.out]; simp; have := HI2.out; omega
        · rw [List.length_append, ← HK.out]; exact STP.out
      · gi_wp2
        refine ⟨HKF.out, HKC.out, ?_, ?_⟩
        · intro _; right; rw [List.length_append, ← HK.out]; simp; omega
        · rw [List.length_append, ← HK.out]; exact STP.out
    · have q8 : (cx != codeAt adm k) = true := by simpa using hxk
      have HXK := Lib.hid hxk
      obtain ⟨ck, hck⟩ : ∃ z, z = codeAt adm k := ⟨_, rfl⟩
      rw [← hck] at HAK q8 HXK
      have HCK := Lib.hid hck
      generalize strV (nameOf adm cx) = s1 at *
      generalize strV (nameOf adm ck) = s2 at *
      clear hck hxk hlen
      gi_wp2_with fail
      refine ⟨trivial, (CallsIn.inRound lr (callsIn_wide.2 HAK.out)).mono ?_⟩
      rintro e W2 ⟨rfl, hb⟩
      have ES2 := Lib.hid (ES1.out.go hb)
      have HP2 := Lib.hid (hpo.out.trans (hb.mono hpo.out.size))
      have cq4 := ES2.out.r4.cell (i := 0) (by omega)
      have fq4 := ES2.out.r4.frozen 0
      clear hb
      gi_wp2
      refine ⟨KeepsFrom.of_keeps (S := One (w.heap.size + 1 + 1)) ((Keeps.of_below (S := One (w.heap.size + 1 + 1)) HP2.out).trans ((Keeps.refl _ W2).set1 _ _)) (fun k e => by have e : k = w.heap.size + 1 + 1 := e; omega), .inl ⟨rfl, fun e => HXK.out ?_⟩⟩
      rw [List.length_append, ← HK.out, List.length_cons, List.length_nil, Nat.zero_add, List.range_succ] at e
      have h1 := List.append_inj' e (by simp)
      have h2 : x = k := by simpa using h1.2
      rw [HCX.out, HCK.out, h2]
  case done0 =>
    rintro xs W rfl ⟨hI2, hI3⟩
    rw [List.length_range] at hI2 hI3
    rw [HK0.out N (Nat.le_refl _) (.inl ⟨rfl, hI2 rfl⟩)]
    exact hI3
  case stop0 =>
    rintro cd pre W ⟨k, rfl⟩ hX
    rcases hX with ⟨-, hX⟩ | ⟨rfl, -, hX1, hX2, hX3, hX4, hI3⟩
    · rw [List.length_range] at hX; exact absurd rfl hX
    · rw [List.length_range] at hX1 hX2 hX3 hX4 hI3
      exact ⟨rfl, by rw [HK0.out k hX1 (.inr ⟨hX3, hX2, hX4⟩)]; exact hI3⟩
  case rest0 =>
    intro D0 W hD hI3 hK
    have hes := E8.out.kept hI3.keep (fun j hj h => by have h : W8.heap.size ≤ j := h; omega)
    have e2 := hes.c2
    have e3 := hes.c3
    have e17 := hI3.r17.cell (i := 0) (by omega)
    have e18 := hI3.r18.cell (i := 0) (by omega)
    have HI3 := Lib.hid hI3
    have HKD := Lib.hid hK
    have HES := Lib.hid hes
    have hnon : Nonempty (InC (Below W.heap.size W)) := ⟨⟨W, Below.refl _ _⟩⟩
    have HCI := Lib.hid (show ∀ p : InC (Below W.heap.size W), Calls Try.prog 23 #[.bool adm] p.w fun e w' => e = .returned (.int .i64 (N : Nat)) ∧ Below W.heap.size W w' from fun p => (HCN.out p.w).mono fun e w' h => ⟨h.1, p.ok.trans (h.2.mono p.ok.size)⟩)
    have hc2 : ∀ p : InC (Below W.heap.size W), p.w.cell? ⟨w.heap.size, 0, none⟩ = some (.bool adm) := fun p => (p.ok.cell (World.block_lt_of_cell? _ _ e2)).trans e2
    have hc3 : ∀ p : InC (Below W.heap.size W), p.w.cell? ⟨w.heap.size + 1, 0, none⟩ = some (.int .i64 many) := fun p => (p.ok.cell (World.block_lt_of_cell? _ _ e3)).trans e3
    have hc17 : ∀ p : InC (Below W.heap.size W), p.w.cell? ⟨g17, 0, none⟩ = some (.int .i64 (0 : Nat)) := fun p => (p.ok.cell (World.block_lt_of_cell? _ _ e17)).trans e17
    have hc18 : ∀ p : InC (Below W.heap.size W), p.w.cell? ⟨g180, 0, none⟩ = some (.int .i64 K0) := fun p => (p.ok.cell (World.block_lt_of_cell? _ _ e18)).trans e18
    clear hes hI3 hK e2 e3 e17 e18
    have hM1 := HM1.out
    have hM2 := HM2.out
    go_wp2_with fail
    refine wp_quiet_in (Below W.heap.size W) (Below.refl _ _).drew (by kernel_rfl) (by kernel_rfl) ?_
    repeat (go_big_quiet_step (with_reducible exact calls_in (HCI.out _)))
    refine wpQuiet_nil ?_
    intro _ hw'
    obtain ⟨p, hw''⟩ := hw'
    subst hw''
    have ES1 := Lib.hid (HES.out.go p.ok)
    have I31 := Lib.hid (HI3.out.below p.ok)
    have KD1 := Lib.hid ((p.ok.block D0 (lt_of_block HKD.out)).trans HKD.out)
    have hsz := p.ok.size
    obtain ⟨W1, hW1⟩ : ∃ z, z = p.w := ⟨_, rfl⟩
    rw [← hW1] at ES1 I31 KD1 hsz ⊢
    have cp17 := I31.out.r17.cell (i := 0) (by omega)
    clear hW1 hc2 hc3 hc17 hc18 HCI hnon HES HI3 HKD
    clear p
    go_wp2_with fail
    obtain ⟨V0, hV⟩ : ∃ z, z = W1.alloc (.cells #[.int .i64 1] 3) := ⟨_, rfl⟩
    rw [← hV]
    have hF1 : Keeps (fun j => W8.heap.size ≤ j) W8 V0 := by rw [hV]; exact I31.out.keep.alloc _
    have hR1 : V0.rowIs W1.heap.size 3 1 (fun _ => .int .i64 (1 : Nat)) := by rw [hV]; exact World.rowIs_alloc W1 #[.int .i64 1] 3 _ (fun i hi => by simp at hi; subst hi; rfl)
    have hMK : V0.heap[D0]? = some (.deferred (some [])) := by rw [hV]; exact (Below.heap_alloc _ _ _ (lt_of_block KD1.out)).trans KD1.out
    have hDw : w.heap.size ≤ D0 := by omega
    obtain ⟨g171, hg171⟩ : ∃ z, z = W1.heap.size := ⟨_, rfl⟩
    rw [← hg171] at hR1 ⊢
    have F1 := Lib.hid hF1
    have R171 := Lib.hid hR1
    have HMK := Lib.hid hMK
    clear hV hF1 hR1 hMK hg171 I31 KD1 ES1 cp17 I9 HST HK0 HM1 HM2 hD hs9a hs9b hge hne hsz hM1 hM2
    rw [rounds_succ]
    have c17 := R171.out.cell (i := 0) (by omega)
    have f17 := R171.out.frozen 0
    go_wp2_with fail
    obtain ⟨W91, hW⟩ : ∃ z, z = V0.alloc (.cells #[.int .i64 0] 3) := ⟨_, rfl⟩
    rw [← hW]
    clear c17 f17
    have hk9 : Keeps (fun _ => False) V0 W91 := by rw [hW]; exact (Keeps.refl _ _).alloc _
    have r18 : W91.rowIs V0.heap.size 3 1 (fun _ => .int .i64 (0 : Nat)) := by rw [hW]; exact World.rowIs_alloc V0 #[.int .i64 0] 3 _ (fun i hi => by simp at hi; subst hi; rfl)
    have hs9 : W91.heap.size = V0.heap.size + 1 := by rw [hW]; simp
    have hs98 : W8.heap.size ≤ V0.heap.size := F1.out.size
    obtain ⟨g181, hg18⟩ : ∃ z, z = V0.heap.size := ⟨_, rfl⟩
    have hge : W8.heap.size ≤ g181 := by omega
    rw [← hg18] at r18 hs9 ⊢
    have hne : g171 < g181 := by rw [hg18]; exact R171.out.lt
    have hD09 : D0 < W91.heap.size := by have := lt_of_block HMK.out; omega
    have hD08 : D0 < g181 := by have := lt_of_block HMK.out; omega
    have i9 : EachI W8 g171 g181 1 0 (some D0) W91 := ⟨F1.out.trans (hk9.mono fun j _ e => e.elim), hk9.rowIs R171.out (fun h => h), r18, (fun D e => by cases e; exact (hk9.block D0 (lt_of_block HMK.out) (fun h => h)).trans HMK.out)⟩
    have kk9 := i9.keep
    have HST := Lib.hid (HSTP.out c W91 (kk9.cell HCC8.out (by show ¬ W8.heap.size ≤ c; omega)))
    have I9 := Lib.hid i9
    have hs9a : g181 < W91.heap.size := by omega
    have hs9b : W91.heap.size ≤ g181 + 1 := by omega
    clear hW hk9 r18 hg18 i9 kk9 hs98 hs9
    refine wp_rangeC 2 (fun W => EachI W8 g171 g181 1 (N : Nat) (some D0) W) (gf := 37) (lb := #[.pointer (some ⟨c, 0, none⟩)]) rfl (enters_of Try.func37 (by kernel_rfl) rfl) HST.out
      (fun h k => h.trans k) (fun W l o o' _ h1 h2 h3 => KeepCW.putObj _ h1 h2 h3) (fun _ => rfl)
      (EachJ W8 g171 g181 1 (some D0) many) (EachX W8 g171 g181 1 (some D0) many N)
      (own_of fun s A B hs hq => ⟨hs.1, hs.2.quiet hq (by omega) (fun D e => by cases e; exact hD09)⟩)
      (fun cd => own_of fun s A B hs hq => hs.imp (fun h => h) (fun ⟨h1, h2, h4, h5, h6, h7, h8⟩ => ⟨h1, h2, h4, h5, h6, h7, h8.quiet hq (by omega) (fun D e => by cases e; exact hD09)⟩))
      ⟨fun _ => .inl rfl, I9.out⟩ (EachA adm)
      (fun x a' => own_of fun s A B hs hq => hs) ?assign1 ?body1 ?done1 ?stop1 (fun _ _ h => h) ?rest1
    case assign1 =>
      intro lr pre x W K hI hK
      have HI := Lib.hid hI
      unfold EachA at hK
      simp only [encO] at hK ⊢
      have hK' := Lib.hid hK
      clear hI hK
      have e0 : (codesL adm).getD x 0 = codeAt adm x := rfl
      rw [e0]
      generalize strV (nameOf adm (codeAt adm x)) = sv at *
      generalize codeAt adm x = cv at *
      gi_wp2
      exact hK'.out _ _ (KeepsFrom.refl _ _) (KeepCW.refl _ _) HI.out rfl
    case body1 =>
      rintro lr pre x a' W hl hrec ⟨hI2, hI3⟩ rfl hlen
      have HLR := Lib.hid hrec
      simp only [List.setIfInBounds_toArray, List.set_cons_succ, List.set_cons_zero]
      obtain ⟨k, hk⟩ : ∃ k, k = pre.length := ⟨_, rfl⟩
      rw [← hk] at hI2 hI3 hlen
      have hes := E8.out.kept hI3.keep (fun j hj h => by have h : W8.heap.size ≤ j := h; omega)
      have e2 := hes.c2
      have e18 := hI3.r18.cell (i := 0) (by omega)
      have HES := Lib.hid hes
      have HI2 := Lib.hid hI2
      have HI3 := Lib.hid hI3
      have HK := Lib.hid hk
      have d1 : decide (N ≤ k) = false := by simp; omega
      have d1' : decide ((N : Int) ≤ (k : Int)) = false := by simp; omega
      have HX := Lib.hid (show x = k → codeAt adm x = codeAt adm k from fun e => by rw [e])
      have HCI := Lib.hid (show ∀ p : InC (Below W.heap.size W), Calls Try.prog 23 #[.bool adm] p.w fun e w' => e = .returned (.int .i64 (N : Nat)) ∧ Below W.heap.size W w' from fun p => (HCN.out p.w).mono fun e w' h => ⟨h.1, p.ok.trans (h.2.mono p.ok.size)⟩)
      have hnon : Nonempty (InC (Below W.heap.size W)) := ⟨⟨W, Below.refl _ _⟩⟩
      have hcell : ∀ p : InC (Below W.heap.size W), p.w.cell? ⟨w.heap.size, 0, none⟩ = some (.bool adm) := fun p => (p.ok.cell (World.block_lt_of_cell? _ _ e2)).trans e2
      have hcell2 : ∀ p : InC (Below W.heap.size W), p.w.cell? ⟨g181, 0, none⟩ = some (.int .i64 k) := fun p => (p.ok.cell (World.block_lt_of_cell? _ _ e18)).trans e18
      clear hrec hI2 hI3 hk hes e2 e18
      obtain ⟨cx, hcx⟩ : ∃ z, z = codeAt adm x := ⟨_, rfl⟩
      rw [← hcx] at HX ⊢
      have HCX := Lib.hid hcx
      clear hcx
      gi_wp2
      refine wpIn_quiet_round_in (Below W.heap.size W) (Below.refl _ _).drew (by kernel_rfl) (by kernel_rfl) (by kernel_rfl) (by rintro ⟨_, _, h⟩; exact h) ?_
      repeat (go_big_quiet_step (with_reducible exact calls_in (HCI.out _)))
      refine wpQuiet_nil ?_
      intro _ hw'
      obtain ⟨p, hw''⟩ := hw'
      subst hw''
      have cp2 := hcell p
      have cp18 := hcell2 p
      have ES1 := Lib.hid (HES.out.go p.ok)
      have I31 := Lib.hid (HI3.out.below p.ok)
      have hpo := Lib.hid p.ok
      clear hcell hcell2 hnon HCI HES HI3
      obtain ⟨W1, hW1⟩ : ∃ z, z = p.w := ⟨_, rfl⟩
      rw [← hW1] at cp2 cp18 ES1 I31 hpo ⊢
      clear hW1
      have HAK := Lib.hid (HAT.out k W1 hlen)
      clear p
      have HIL := Lib.hid hlen
      have hkb : (k : Int) ≤ 16 := by omega
      by_cases hxk : cx = codeAt adm k
      · rw [← hxk] at HAK
        have HXK := Lib.hid hxk
        obtain ⟨sx, hsx⟩ : ∃ z, z = nameOf adm cx := ⟨_, rfl⟩
        rw [← hsx] at HAK ⊢
        unfold strV at HAK ⊢
        clear hsx hxk hlen
        gi_wp2_with fail
        refine ⟨trivial, (CallsIn.inRound lr (callsIn_wide.2 HAK.out)).mono ?_⟩
        rintro e W2 ⟨rfl, hb⟩
        have ES2 := Lib.hid (ES1.out.go hb)
        have I32 := Lib.hid (I31.out.below hb)
        have HP2 := Lib.hid (hpo.out.trans (hb.mono hpo.out.size))
        have cq3 := ES2.out.c3
        have cq17 := I32.out.r17.cell (i := 0) (by omega)
        have cq18 := I32.out.r18.cell (i := 0) (by omega)
        have fq18 := I32.out.r18.frozen 0
        clear hb
        have STP := Lib.hid (I32.out.step (by omega) (by omega) (fun D e => by cases e; omega))
        have HKF := Lib.hid (show KeepsFrom W91.heap.size W (W2.setCell ⟨g181, 0, none⟩ (.int .i64 ((k : Int) + 1))) from KeepsFrom.of_keeps (S := One g181) ((Keeps.of_below (S := One g181) HP2.out).trans ((Keeps.refl _ W2).set1 _ _)) (fun k e => by have e : k = g181 := e; omega))
        have HKC := Lib.hid (show KeepCW W91.heap.size W (W2.setCell ⟨g181, 0, none⟩ (.int .i64 ((k : Int) + 1))) from (KeepCW.below HP2.out).trans (KeepCW.setCell ⟨g181, 0, none⟩ hs9a _))
        gi_wp2
        refine ⟨HKF.out, HKC.out, ?_, ?_⟩
        · intro h; omega
        · rw [List.length_append, ← HK.out]; exact STP.out
      · have q8 : (cx != codeAt adm k) = true := by simpa using hxk
        have HXK := Lib.hid hxk
        obtain ⟨ck, hck⟩ : ∃ z, z = codeAt adm k := ⟨_, rfl⟩
        rw [← hck] at HAK q8 HXK
        have HCK := Lib.hid hck
        generalize strV (nameOf adm cx) = s1 at *
        generalize strV (nameOf adm ck) = s2 at *
        clear hck hxk hlen
        gi_wp2_with fail
        refine ⟨trivial, (CallsIn.inRound lr (callsIn_wide.2 HAK.out)).mono ?_⟩
        rintro e W2 ⟨rfl, hb⟩
        have ES2 := Lib.hid (ES1.out.go hb)
        have HP2 := Lib.hid (hpo.out.trans (hb.mono hpo.out.size))
        have cq4 := ES2.out.r4.cell (i := 0) (by omega)
        have fq4 := ES2.out.r4.frozen 0
        clear hb
        gi_wp2
        refine ⟨KeepsFrom.of_keeps (S := One (w.heap.size + 1 + 1)) ((Keeps.of_below (S := One (w.heap.size + 1 + 1)) HP2.out).trans ((Keeps.refl _ W2).set1 _ _)) (fun k e => by have e : k = w.heap.size + 1 + 1 := e; omega), .inl ⟨rfl, fun e => HXK.out ?_⟩⟩
        rw [List.length_append, ← HK.out, List.length_cons, List.length_nil, Nat.zero_add, List.range_succ] at e
        have h1 := List.append_inj' e (by simp)
        have h2 : x = k := by simpa using h1.2
        rw [HCX.out, HCK.out, h2]
    case done1 =>
      rintro xs W rfl ⟨hI2, hI3⟩
      rw [List.length_range] at hI2 hI3
      exact hI3
    case stop1 =>
      rintro cd pre W ⟨k, rfl⟩ hX
      rcases hX with ⟨-, hX⟩ | ⟨rfl, hX, -⟩
      · rw [List.length_range] at hX; exact absurd rfl hX
      · exact absurd hX (by omega)
    case rest1 =>
      intro D1 W hD hI3 hK
      have hes := E8.out.kept hI3.keep (fun j hj h => by have h : W8.heap.size ≤ j := h; omega)
      have e2 := hes.c2
      have e3 := hes.c3
      have e17 := hI3.r17.cell (i := 0) (by omega)
      have e18 := hI3.r18.cell (i := 0) (by omega)
      have HI3 := Lib.hid hI3
      have HKD := Lib.hid hK
      have HES := Lib.hid hes
      have hnon : Nonempty (InC (Below W.heap.size W)) := ⟨⟨W, Below.refl _ _⟩⟩
      have HCI := Lib.hid (show ∀ p : InC (Below W.heap.size W), Calls Try.prog 23 #[.bool adm] p.w fun e w' => e = .returned (.int .i64 (N : Nat)) ∧ Below W.heap.size W w' from fun p => (HCN.out p.w).mono fun e w' h => ⟨h.1, p.ok.trans (h.2.mono p.ok.size)⟩)
      have hc2 : ∀ p : InC (Below W.heap.size W), p.w.cell? ⟨w.heap.size, 0, none⟩ = some (.bool adm) := fun p => (p.ok.cell (World.block_lt_of_cell? _ _ e2)).trans e2
      have hc3 : ∀ p : InC (Below W.heap.size W), p.w.cell? ⟨w.heap.size + 1, 0, none⟩ = some (.int .i64 many) := fun p => (p.ok.cell (World.block_lt_of_cell? _ _ e3)).trans e3
      have hc17 : ∀ p : InC (Below W.heap.size W), p.w.cell? ⟨g171, 0, none⟩ = some (.int .i64 (1 : Nat)) := fun p => (p.ok.cell (World.block_lt_of_cell? _ _ e17)).trans e17
      have hc18 : ∀ p : InC (Below W.heap.size W), p.w.cell? ⟨g181, 0, none⟩ = some (.int .i64 (N : Nat)) := fun p => (p.ok.cell (World.block_lt_of_cell? _ _ e18)).trans e18
      clear hes hI3 hK e2 e3 e17 e18
  
      go_wp2_with fail
      refine wp_quiet_in (Below W.heap.size W) (Below.refl _ _).drew (by kernel_rfl) (by kernel_rfl) ?_
      repeat (go_big_quiet_step (with_reducible exact calls_in (HCI.out _)))
      refine wpQuiet_nil ?_
      intro _ hw'
      obtain ⟨p, hw''⟩ := hw'
      subst hw''
      have ES1 := Lib.hid (HES.out.go p.ok)
      have I31 := Lib.hid (HI3.out.below p.ok)
      have KD1 := Lib.hid ((p.ok.block D1 (lt_of_block HKD.out)).trans HKD.out)
      have hsz := p.ok.size
      obtain ⟨W1, hW1⟩ : ∃ z, z = p.w := ⟨_, rfl⟩
      rw [← hW1] at ES1 I31 KD1 hsz ⊢
      have cp17 := I31.out.r17.cell (i := 0) (by omega)
      clear hW1 hc2 hc3 hc17 hc18 HCI hnon HES HI3 HKD
      clear p
      go_wp2_with fail
      obtain ⟨V1, hV⟩ : ∃ z, z = W1.alloc (.cells #[.int .i64 2] 3) := ⟨_, rfl⟩
      rw [← hV]
      have hF2 : Keeps (fun j => W8.heap.size ≤ j) W8 V1 := by rw [hV]; exact I31.out.keep.alloc _
      have hes := E8.out.kept hF2 (fun j hj h => by have h : W8.heap.size ≤ j := h; omega)
      have c17 : V1.cell? ⟨W1.heap.size, 0, none⟩ = some (.int .i64 2) := by rw [hV]; go_simp
      have hm1 : V1.heap[D1]? = some (.deferred (some [])) := by rw [hV]; exact (Below.heap_alloc _ _ _ (lt_of_block KD1.out)).trans KD1.out
      have hm0 : V1.heap[D0]? = some (.deferred (some [])) := by rw [hV]; exact (Below.heap_alloc _ _ _ (lt_of_block (I31.out.mark D0 rfl))).trans (I31.out.mark D0 rfl)
      have c4 := hes.r4.cell (i := 0) (by omega)
      have f4 := hes.r4.frozen 0
      have ES := Lib.hid hes
      have HM0 := Lib.hid hm0
      have HM1 := Lib.hid hm1
      clear hV hF2 hes hm0 hm1 I31 KD1 ES1 cp17
      rw [rounds_succ]
      go_wp2_with (go_at_call 12; refine (HKN.out _).mono ?_; rintro e w9 ⟨rfl, hb⟩; have E9 := Lib.hid (ES.out.go hb); have N0 := Lib.hid ((hb.block D0 (lt_of_block HM0.out)).trans HM0.out); have N1 := Lib.hid ((hb.block D1 (lt_of_block HM1.out)).trans HM1.out); have d10 := E9.out.r4.cell (i := 0) (by omega); have e10 := E9.out.r4.frozen 0; clear hb)
      obtain ⟨_, _, rfl, f1, f2, rfl, f3, f4⟩ := lists_end E9.out (D0 := D0) (D1 := D1) (by omega) (by omega) (by omega) N0.out N1.out
      refine ⟨by simp, .inl ⟨_, _, rfl, run_takeDeferred f1, ?_⟩⟩
      refine ⟨by simp, .inl ⟨_, _, rfl, run_takeDeferred f2, ?_⟩⟩
      refine ⟨.bool true, ?_, rfl, f4⟩
      simp [results, Try.f7, go_sem, f3]
end Go.Proofs.Ytggdjadhenamiaa
