/- queue: the law QueueCompletions. -/
import Derived.Test.YtpoeepdpoblfcaaSlots
namespace Go.Proofs.Ytpoeepdpoblfcaa
open Go.RowKit
attribute [local go_sem ↓] Go.wp_at_zero Go.wp_at_succ

/-- The completion of a number; the phase of the lap in which it is posted; what lies in a slot: what was posted a lap before, or nothing. -/
def pCpl (p : Nat) : Cpl := { zCpl with id := p }
def phs (n j : Nat) : Bool := decide (j / n % 2 = 0)
def entB (n i k : Nat) : Int := if i < n then 0 else cplB ((pCpl (i - n)).withPh (phs n (i - n))) k
theorem pCpl_ok (p : Nat) (h : p ≤ 200) : (pCpl p).Ok := by
  have z := zCpl_ok
  constructor
  all_goals first | exact z.r0 | exact z.r1 | exact z.head | exact z.queue | exact z.ty | exact z.code | (show (0 : Int) ≤ (p : Int) ∧ (p : Int) ≤ 65535; omega)
theorem build_pCpl (p : Nat) (w : World) : (Instr.build 43 #[(3, .int .u16 p)]).run Try.prog w = .ok (.agg (pCpl p).cells) w := by kernel_rfl
theorem cplB_bd2 (c : Cpl) (j : Nat) : 0 ≤ cplB c j ∧ cplB c j ≤ 255 := by
  unfold cplB byteOf
  repeat' split
  all_goals omega
theorem entB_bd (n i k : Nat) : 0 ≤ entB n i k ∧ entB n i k ≤ 255 := by
  unfold entB
  split
  · omega
  · exact cplB_bd2 _ _
theorem phs_zero {n j : Nat} (h : j < n) : phs n j = true := by unfold phs; rw [Nat.div_eq_of_lt h]; rfl
theorem phs_add (n j : Nat) (hn : 0 < n) : phs n (j + n) = !phs n j := by
  unfold phs
  rw [Nat.add_div_right j hn]
  by_cases h : j / n % 2 = 0
  · rw [decide_eq_true h, decide_eq_false (by omega)]; rfl
  · rw [decide_eq_false h, decide_eq_true (by omega)]; rfl
theorem phs_succ (n j : Nat) (hn : 2 ≤ n) : phs n (j + 1) = (phs n j != decide ((j + 1) % n = 0)) := by
  have ea := Nat.div_add_mod j n
  have eb := Nat.div_add_mod (j + 1) n
  have la := Nat.mod_lt j (show 0 < n by omega)
  have lb := Nat.mod_lt (j + 1) (show 0 < n by omega)
  unfold phs
  rcases div_near (n := n) (a := j) (b := j + 1) (by omega) (by omega) (by omega) with e | e
  · rw [e] at eb
    rw [e, decide_eq_false (p := (j + 1) % n = 0) (by omega)]
    cases decide (j / n % 2 = 0) <;> rfl
  · rw [e, Nat.mul_succ] at eb
    rw [e, decide_eq_true (p := (j + 1) % n = 0) (by omega)]
    by_cases h : j / n % 2 = 0
    · rw [decide_eq_true h, decide_eq_false (by omega)]; rfl
    · rw [decide_eq_false h, decide_eq_true (by omega)]; rfl
theorem ent_15 (f : Nat) (ph : Bool) : cplB ((pCpl f).withPh ph) 15 = 0 := by cases ph <;> rfl
theorem ent_14 (f : Nat) (ph : Bool) : cplB ((pCpl f).withPh ph) 14 = bv ph 1 := by cases ph <;> rfl
theorem ent_12 (f : Nat) (ph : Bool) : cplB ((pCpl f).withPh ph) 12 = (f : Int) % 256 := by
  show (f : Int) / 2 ^ (8 * 0) % 256 = _
  simp
theorem ent_13 (f : Nat) (ph : Bool) : cplB ((pCpl f).withPh ph) 13 = (f : Int) / 256 % 256 := by
  show (f : Int) / 2 ^ (8 * 1) % 256 = _
  simp
theorem ent_new {n f : Nat} (B : Nat → Int) (hB : B = entB n (f + n)) : isNew (phs n f) B = true ∧ B 15 / 16 % 4 = 0 ∧ (f ≤ 200 → (dCpl B).id = f) := by
  have e : ∀ k, B k = cplB ((pCpl f).withPh (phs n f)) k := fun k => by rw [hB]; unfold entB; rw [if_neg (by omega), Nat.add_sub_cancel]
  refine ⟨?_, by rw [e, ent_15]; rfl, fun h => ?_⟩
  · unfold isNew dCpl sw
    simp only [e, ent_15, ent_14]
    cases phs n f <;> rfl
  · show 0 + B 12 * 2 ^ (8 * 0) + B (12 + 1) * 2 ^ (8 * 1) = (f : Int)
    rw [e, e, ent_12, ent_13]
    omega
theorem ent_old {n f : Nat} (hn : 0 < n) (B : Nat → Int) (hB : B = entB n f) : isNew (phs n f) B = false ∧ B 15 / 16 % 4 = 0 := by
  by_cases h : f < n
  · have e : ∀ k, B k = 0 := fun k => by rw [hB]; unfold entB; rw [if_pos h]
    rw [phs_zero h]
    unfold isNew dCpl sw
    simp only [e]
    exact ⟨rfl, rfl⟩
  · obtain ⟨g, rfl⟩ : ∃ g, f = g + n := ⟨f - n, by omega⟩
    have e : ∀ k, B k = cplB ((pCpl g).withPh (phs n g)) k := fun k => by rw [hB]; unfold entB; rw [if_neg h, Nat.add_sub_cancel]
    refine ⟨?_, by rw [e, ent_15]; rfl⟩
    rw [phs_add n g hn]
    unfold isNew dCpl sw
    simp only [e, ent_15, ent_14]
    cases phs n g <;> rfl
/-- an entry as a value -/
def entA (n i : Nat) : Array Value := arr 16 fun k => .int .u8 (entB n i k)
theorem entA_bytes (n i : Nat) : BytesA 16 (entA n i) := ⟨_, rfl⟩
section
variable (w : World) (gp gl n : Nat)
theorem post_ok {hr p : Nat} (hn : 2 ≤ n) (hp : p ≤ 200) (h1 : hr ≤ p) (h2 : p + 1 < hr + n) (q : QAt 96 4 w gp n (hr % n) (p % n) (phs n p)) :
    Calls Try.prog 38 #[.pointer (some ⟨gp, 0, none⟩), .agg (pCpl p).cells] w fun e w' => e = .returned (.tuple #[.int .i64 (p % n : Nat), .agg (entA n (p + n)), .int .i64 0]) ∧ Keeps (One gp) w w' ∧ QAt 96 4 w' gp n (hr % n) ((p + 1) % n) (phs n (p + 1)) := by
  have hu : ¬ usd n (hr % n) (p % n) = n - 1 := by rw [usd_mod (by omega) h1 (by omega)]; omega
  have hf : ¬ 7 < (pCpl p).ty := by show ¬ (7 : Int) < 0; omega
  have := pPost_any 96 gp n (hr % n) (p % n) (phs n p) (pCpl p) w q (pCpl_ok p hp)
  unfold ptT ptAt ptEr ptA ptPh at this
  rw [if_neg hf, if_neg hf, if_neg hf, if_neg hf, if_neg hf, if_neg hu, if_neg hu, if_neg hu, if_neg hu, if_neg hu, nxt_mod, ← phs_succ n p hn] at this
  have e : cplE ((pCpl p).withPh (phs n p)) = entA n (p + n) := by
    unfold cplE entA
    congr 1
    funext k
    unfold entB
    rw [if_neg (by omega), Nat.add_sub_cancel]
  rw [e] at this
  exact this
theorem post_full {hr p : Nat} (hn : 2 ≤ n) (hp : p ≤ 200) (h1 : hr ≤ p) (h2 : p + 1 = hr + n) (q : QAt 96 4 w gp n (hr % n) (p % n) (phs n p)) :
    Calls Try.prog 38 #[.pointer (some ⟨gp, 0, none⟩), .agg (pCpl p).cells] w fun e w' => e = .returned (.tuple #[.int .i64 0, .agg (arr 16 z16), .int .i64 7]) ∧ Keeps (One gp) w w' ∧ QAt 96 4 w' gp n (hr % n) (p % n) (phs n p) := by
  have hu : usd n (hr % n) (p % n) = n - 1 := by rw [usd_mod (by omega) h1 (by omega)]; omega
  have hf : ¬ 7 < (pCpl p).ty := by show ¬ (7 : Int) < 0; omega
  have := pPost_any 96 gp n (hr % n) (p % n) (phs n p) (pCpl p) w q (pCpl_ok p hp)
  unfold ptT ptAt ptEr ptA ptPh at this
  rw [if_neg hf, if_neg hf, if_neg hf, if_neg hf, if_neg hf, if_pos hu, if_pos hu, if_pos hu, if_pos hu, if_pos hu] at this
  exact this
theorem poll_nw {f lt : Nat} (hn : 2 ≤ n) (hf : f ≤ 200) (q : QAt 98 4 w gl n (f % n) lt (phs n f)) :
    Calls Try.prog 24 #[.pointer (some ⟨gl, 0, none⟩), .agg (entA n (f + n))] w fun e w' => e = .returned (.tuple #[.agg (dCpl (entB n (f + n))).cells, .bool true, .int .i64 0]) ∧ Keeps (One gl) w w' ∧ QAt 98 4 w' gl n ((f + 1) % n) lt (phs n (f + 1)) := by
  obtain ⟨e1, e2, -⟩ := ent_new (entB n (f + n)) rfl
  have := lPoll_any 98 gl n (f % n) lt (phs n f) (entB n (f + n)) w q (fun j => entB_bd _ _ _)
  unfold plC plH plPh plEr at this
  rw [e1, if_pos rfl, if_pos rfl, if_pos rfl, if_pos e2, nxt_mod, ← phs_succ n f hn] at this
  exact this
theorem poll_od {f lt : Nat} (hn : 2 ≤ n) (q : QAt 98 4 w gl n (f % n) lt (phs n f)) :
    Calls Try.prog 24 #[.pointer (some ⟨gl, 0, none⟩), .agg (entA n f)] w fun e w' => e = .returned (.tuple #[.agg zCpl.cells, .bool false, .int .i64 0]) ∧ Keeps (One gl) w w' ∧ QAt 98 4 w' gl n (f % n) lt (phs n f) := by
  obtain ⟨e1, e2⟩ := ent_old (n := n) (f := f) (by omega) (entB n f) rfl
  have := lPoll_any 98 gl n (f % n) lt (phs n f) (entB n f) w q (fun j => entB_bd _ _ _)
  unfold plC plH plPh plEr at this
  simp only [e1, Bool.false_eq_true, if_false, if_pos e2] at this
  exact this
end

/-- The poster, the poller and the slots: p completions have been posted (c of them lie in their slots), f polled; the poster knows of hr. -/
structure PC (w W : World) (gp gl bs n lt p c f hr : Nat) : Prop where
  s : QAt 96 4 W gp n (hr % n) (p % n) (phs n p)
  l : QAt 98 4 W gl n (f % n) lt (phs n f)
  r : ∃ F, W.rowIs bs 44 (n * 16) F ∧ ∀ i, c ≤ i → i < c + n → ∀ k, k < 16 → F (i % n * 16 + k) = .int .u8 (entB n i k)
  b : Below w.heap.size w W
  h0 : w.heap.size ≤ gp
  h1 : gp < gl
  h2 : gl < bs
  o1 : hr ≤ f
  o3 : f ≤ c
  o4 : c ≤ p
  o5 : p < hr + n
  hn : 0 < n
namespace PC
variable {w W W' : World} {gp gl bs n lt p c f hr : Nat}
theorem lb (i : PC w W gp gl bs n lt p c f hr) : bs < W.heap.size := by obtain ⟨F, h, -⟩ := i.r; exact h.lt
theorem below (i : PC w W gp gl bs n lt p c f hr) (k : Below W.heap.size W W') : PC w W' gp gl bs n lt p c f hr := by
  obtain ⟨F, h, hF⟩ := i.r
  exact ⟨i.s.below k, i.l.below k, ⟨F, h.of_block (k.block _ h.lt), hF⟩, i.b.trans (k.mono i.b.size), i.h0, i.h1, i.h2, i.o1, i.o3, i.o4, i.o5, i.hn⟩
/-- the poster moved -/
theorem sk {p' hr' : Nat} (i : PC w W gp gl bs n lt p c f hr) (k : Keeps (One gp) W W') (q : QAt 96 4 W' gp n (hr' % n) (p' % n) (phs n p')) (a1 : hr' ≤ f) (a2 : c ≤ p') (a3 : p' < hr' + n) : PC w W' gp gl bs n lt p' c f hr' := by
  obtain ⟨F, h, hF⟩ := i.r
  have := i.h1; have := i.h2; have := i.h0
  exact ⟨q, i.l.kept k (fun e => by have e : gl = gp := e; omega), ⟨F, h.of_block (k.block _ h.lt (fun e => by have e : bs = gp := e; omega)), hF⟩, i.b.trans (k.below i.b.size (fun j hj e => by have e : j = gp := e; omega)),
    i.h0, i.h1, i.h2, a1, i.o3, a2, a3, i.hn⟩
/-- the poller moved -/
theorem fk {f' : Nat} (i : PC w W gp gl bs n lt p c f hr) (k : Keeps (One gl) W W') (q : QAt 98 4 W' gl n (f' % n) lt (phs n f')) (a1 : f ≤ f') (a2 : f' ≤ c) : PC w W' gp gl bs n lt p c f' hr := by
  obtain ⟨F, h, hF⟩ := i.r
  have := i.h1; have := i.h2; have := i.h0; have := i.o1
  exact ⟨i.s.kept k (fun e => by have e : gp = gl := e; omega), q, ⟨F, h.of_block (k.block _ h.lt (fun e => by have e : bs = gl := e; omega)), hF⟩, i.b.trans (k.below i.b.size (fun j hj e => by have e : j = gl := e; omega)),
    i.h0, i.h1, i.h2, by omega, a2, i.o4, i.o5, i.hn⟩
/-- an entry laid into its slot -/
theorem put (i : PC w W gp gl bs n lt (p + 1) p f hr) : PC w (W.setCells bs (p % n * 16) (entA n (p + n)).toList) gp gl bs n lt (p + 1) (p + 1) f hr := by
  obtain ⟨F, h, hF⟩ := i.r
  have hn := i.hn; have b1 := i.o1; have b3 := i.o3; have b5 := i.o5; have c1 := i.h1; have c2 := i.h2; have c0 := i.h0
  have k : Keeps (One bs) W (W.setCells bs (p % n * 16) (entA n (p + n)).toList) := Keeps.setCells _ (Keeps.refl _ _) _
  have hl : (entA n (p + n)).toList.length = 16 := by rw [Array.length_toList]; exact arr_size _ _
  refine ⟨i.s.kept k (fun e => by have e : gp = bs := e; omega), i.l.kept k (fun e => by have e : gl = bs := e; omega), ⟨fun j => if p % n * 16 ≤ j ∧ j < p % n * 16 + (entA n (p + n)).toList.length then (entA n (p + n)).toList.getD (j - p % n * 16) undef else F j, rowIs_setCells2 _ _ _ _ _ h (fun _ => rfl), fun j g1 g2 m hm => ?_⟩,
    i.b.trans (k.below i.b.size (fun j hj e => by have e : j = bs := e; omega)), i.h0, i.h1, i.h2, b1, by omega, by omega, by omega, hn⟩
  show (if _ then _ else _) = _
  rw [hl]
  by_cases e : j = p + n
  · subst e
    rw [Nat.add_mod_right, if_pos (by omega), show p % n * 16 + m - p % n * 16 = m by omega]
    have := arr_get 16 (fun k => Value.int .u8 (entB n (p + n) k)) m hm
    rw [List.getD_eq_getElem?_getD, Array.getElem?_toList]
    unfold entA
    rw [this]; rfl
  · have hne := mod_ne (n := n) hn (show p < j by omega) (by omega)
    rw [if_neg (by omega)]
    exact hF j (by omega) (by omega) m hm
theorem rng (i : PC w W gp gl bs n lt p c f hr) (j : Nat) (h1 : c ≤ j) (h2 : j < c + n) : W.rangeAt bs (j % n * 16) (entA n j).toList := by
  obtain ⟨F, h, hF⟩ := i.r
  have hm := Nat.mod_lt j i.hn
  refine rowIs_range2 h (by unfold entA; rw [arr_size]; omega) (fun m hm2 => ?_)
  have hm3 : m < 16 := by unfold entA at hm2; rwa [arr_size] at hm2
  rw [hF j h1 h2 m hm3]
  exact arr_get 16 _ m hm3
theorem there (i : PC w W gp gl bs n lt p c f hr) {x : Nat} (h : x < n) : W.there bs (x * 16) 16 := by
  obtain ⟨F, hr, hF⟩ := i.r
  exact rowIs_there2 hr (by omega)
end PC
theorem info16 : (Try.prog.info? 44).map (fun i => (i.zero, i.size, i.bytes)) = some (some (.agg (arr 16 z16)), 16, 16) := by kernel_rfl
theorem made16 (n i : Nat) (h : i < n * 16) : (madeCells (arr 16 z16) (n * 16)).getD i undef = .int .u8 0 := by
  have e : i % 16 < (arr 16 z16).size := by rw [arr_size]; omega
  rw [Array.getD_eq_getD_getElem?]
  unfold madeCells
  rw [Array.getElem?_map, Array.getElem?_range, if_pos h]
  simp only [Option.map_some, Option.getD_some, arr_size]
  rw [getElem!_pos (arr 16 z16) (i % 16) e]
  exact Option.some.inj ((Array.getElem?_eq_getElem e).symm.trans (arr_get 16 z16 (i % 16) (by omega)))

set_option maxRecDepth 100000 in
set_option maxHeartbeats 8000000 in
theorem k_bad (size : Int) (ao : Option Addr) (len cap : Nat) (w : World) (h : size < 2 ∨ 4096 < size) :
    Calls Try.prog 8 #[.int .i64 size, .slice ao len cap] w fun e w' => e = .returned (.bool true) ∧ Below w.heap.size w w' := by
  have H := Lib.hid h
  clear h
  go_enter Try.func8, Try.ntmps8
  go_wp2_with (first
    | (go_at_call 37; refine (pNew_err _ _ H.out).mono ?_; rintro e w1 ⟨rfl, rfl⟩)
    | (go_at_call 23; refine (lNew_err _ _ H.out).mono ?_; rintro e w1 ⟨rfl, rfl⟩)
    | (go_at_call 13; refine (known_any _).mono ?_; rintro e w1 ⟨rfl, hb⟩; have HB := Lib.hid hb; clear hb))
  go_ret
  exact ⟨rfl, HB.out⟩

set_option maxRecDepth 100000 in
set_option maxHeartbeats 8000000 in
theorem k_long (n : Nat) (ao : Option Addr) (len cap : Nat) (w : World) (hn : 2 ≤ n) (hn' : n ≤ 4096) (hl : 20 < n ∨ 200 < len) (hl2 : len ≤ 9223372036854775807) :
    Calls Try.prog 8 #[.int .i64 n, .slice ao len cap] w fun e w' => e = .returned (.bool true) ∧ Below w.heap.size w w' := by
  have HL := Lib.hid hl
  clear hl
  go_enter Try.func8, Try.ntmps8
  go_wp2_with fail
  refine (pNew_ok _ _ hn hn').mono ?_
  rintro e w1 ⟨v, rfl, gp, rfl, g0, hb1, hq1⟩
  have HQ1 := Lib.hid hq1
  have HB1 := Lib.hid hb1
  have hlt1 := hq1.lt
  have hs1 := hb1.size
  clear hq1 hb1
  go_wp2_with fail
  refine (lNew_ok _ _ hn hn').mono ?_
  rintro e w2 ⟨v, rfl, gl, rfl, g1, hb2, hq2⟩
  have HQ2 := Lib.hid hq2
  have HQ1' := Lib.hid (HQ1.out.below hb2)
  have HB2 := Lib.hid (HB1.out.trans (hb2.mono hs1))
  have hlt2 := hq2.lt
  have hs2 := HB2.out.size
  clear hq2 hb2
  by_cases h : 20 < n
  · have d1 : decide ((20 : Int) < (n : Int)) = true := by simp; omega
    clear h
    go_wp2_with (go_at_call 13; refine (known_any _).mono ?_; rintro e w3 ⟨rfl, hb⟩; have HB := Lib.hid (HB2.out.trans (hb.mono HB2.out.size)); clear hb)
    go_ret
    exact ⟨rfl, HB.out⟩
  · have d1 : decide ((20 : Int) < (n : Int)) = false := by simp; omega
    have d2 : decide ((200 : Int) < (len : Int)) = true := by have := HL.out; simp; omega
    clear h
    go_wp2_with (go_at_call 13; refine (known_any _).mono ?_; rintro e w3 ⟨rfl, hb⟩; have HB := Lib.hid (HB2.out.trans (hb.mono HB2.out.size)); clear hb)
    go_ret
    exact ⟨rfl, HB.out⟩

set_option maxRecDepth 100000 in
set_option maxHeartbeats 8000000 in
theorem k_seq (n : Nat) (ao : Option Addr) (len cap : Nat) (B : Nat → Int) (w : World) (hn : 2 ≤ n) (h20 : n ≤ 20) (hl : len ≤ 200) (hB : ∀ i, i < len → ∃ x, ao = some x ∧ w.cell? (x.add i) = some (.int .u8 (B i)) ∧ 0 ≤ B i ∧ B i ≤ 255) :
    Calls Try.prog 8 #[.int .i64 n, .slice ao len cap] w fun e w' => e = .returned (.bool true) ∧ Below w.heap.size w w' := by
  have hn' : n ≤ 4096 := by omega
  have HX := Lib.hid hB
  clear hB
  have d1 : decide ((20 : Int) < (n : Int)) = false := by simp; omega
  have d2 : decide ((200 : Int) < (len : Int)) = false := by simp; omega
  go_enter Try.func8, Try.ntmps8
  go_wp2_with fail
  refine (pNew_ok _ _ hn hn').mono ?_
  rintro e w1 ⟨v, rfl, gp, rfl, g0, hb1, hq1⟩
  have HQ1 := Lib.hid hq1
  have HB1 := Lib.hid hb1
  have hlt1 := hq1.lt
  have hs1 := hb1.size
  clear hq1 hb1
  go_wp2_with fail
  refine (lNew_ok _ _ hn hn').mono ?_
  rintro e w2 ⟨v, rfl, gl, rfl, g1, hb2, hq2⟩
  have HQ2 := Lib.hid hq2
  have HQ1' := Lib.hid (HQ1.out.below hb2)
  have HB2 := Lib.hid (HB1.out.trans (hb2.mono hs1))
  have hlt2 := hq2.lt
  have hs2 := HB2.out.size
  clear hq2 hb2
  go_upto_region 6 with (refine wpList_makeA rfl (.tmp 46) (.tmp 46) 82 rfl 44 (.agg (arr 16 z16)) 16 16 Try.underlying82 info16 n (by first | rfl | simp [Act.eval, Act.put]) (by first | rfl | simp [Act.eval, Act.put]) (by omega) (by omega) ?_)
  obtain ⟨W0, hW⟩ : ∃ x, x = w2.alloc (.cells (madeCells (arr 16 z16) (n * 16)) 44) := ⟨_, rfl⟩
  rw [← hW]
  obtain ⟨bs, hbs⟩ : ∃ x, x = w2.heap.size := ⟨_, rfl⟩
  have hb0 : Below w2.heap.size w2 W0 := by rw [hW]; exact (Below.refl _ _).alloc (Nat.le_refl _) _
  have I0 := Lib.hid (show PC w W0 gp gl bs n 0 0 0 0 0 from
    ⟨by rw [Nat.zero_mod, phs_zero (by omega)]; exact HQ1'.out.below hb0, by rw [Nat.zero_mod, phs_zero (by omega)]; exact HQ2.out.below hb0,
      ⟨_, by have := rowIs_any w2 (madeCells (arr 16 z16) (n * 16)) 44; rw [size_madeCells] at this; rw [hW, hbs]; exact this, fun i _ h k hk => by
        have := Nat.mod_lt i (show 0 < n by omega)
        show (madeCells (arr 16 z16) (n * 16)).getD _ undef = _
        rw [made16 n _ (by omega)]; unfold entB; rw [if_pos (by omega)]⟩,
      HB2.out.trans (hb0.mono hs2), g0, by omega, by omega, Nat.le_refl _, Nat.le_refl _, Nat.le_refl _, by omega, by omega⟩)
  rw [← hbs]
  clear hW hb0 hbs HB1 HB2 HQ1 HQ1' HQ2 hlt1 hlt2 hs1 hs2 g0 g1
  go_wp2_with fail
  go_loopw [10, 11, 12] (fun a b i wr => ∃ (k p f hr : Nat), k ≤ len ∧ p ≤ k ∧ a = .int .i64 p ∧ b = .int .i64 f ∧ i = .int .i64 k ∧ PC w wr gp gl bs n 0 p p f hr) (fun _ _ i _ => len - (intOf i).toNat)
  case atStart => exact ⟨0, 0, 0, 0, Nat.zero_le _, Nat.le_refl _, rfl, rfl, rfl, I0.out⟩
  case round =>
    clear I0
    obtain ⟨k, p, f, hr, hk, hpk, rfl, rfl, rfl, hI⟩ := hrel
    have I0 := Lib.hid hI
    have o1 := hI.o1
    have o3 := hI.o3
    have o5 := hI.o5
    have hn0 := hI.hn
    clear hI
    by_cases hlt : k < len
    · obtain ⟨x, rfl, hc, hb0, hb1⟩ := HX.out k hlt
      have c0 := (I0.out.b.cell (World.block_lt_of_cell? _ _ hc)).trans hc
      generalize B k = d at *
      clear hc
      have m1 : (k : Int) < (len : Int) := by omega
      have hp2 : p ≤ 200 := by omega
      have hf2 : f ≤ 200 := by omega
      obtain ⟨st, hst⟩ : ∃ z, z = p % n := ⟨_, rfl⟩
      obtain ⟨fh, hfh⟩ : ∃ z, z = f % n := ⟨_, rfl⟩
      have hstn : st < n := by rw [hst]; exact Nat.mod_lt _ hn0
      have hfhn : fh < n := by rw [hfh]; exact Nat.mod_lt _ hn0
      have HQS := Lib.hid hst
      have HQF := Lib.hid hfh
      clear hst hfh
      have q0 : (0 : Int) ≤ (st : Int) := by omega
      have q1 : (st : Int) < (n : Int) := by omega
      have q2 : (0 : Int) ≤ (fh : Int) := by omega
      have q3 : (fh : Int) < (n : Int) := by omega
      obtain ⟨r, hr6⟩ : ∃ r : Nat, d % 5 = (r : Int) := ⟨(d % 5).toNat, by omega⟩
      have hr5 : r = 0 ∨ r = 1 ∨ r = 2 ∨ r = 3 ∨ r = 4 := by omega
      rcases hr5 with rfl | rfl | rfl | rfl | rfl
      · have r6 : d % 5 = 0 := hr6
        clear hr6
        by_cases hf : p + 1 < hr + n
        · obtain ⟨A, hA⟩ : ∃ z, z = entA n (p + n) := ⟨_, rfl⟩
          have HPU := Lib.hid (show ∀ w, QAt 96 4 w gp n (hr % n) (p % n) (phs n p) → Calls Try.prog 38 #[.pointer (some ⟨gp, 0, none⟩), .agg (pCpl p).cells] w fun e w' => e = .returned (.tuple #[.int .i64 (st : Nat), .agg A, .int .i64 0]) ∧ Keeps (One gp) w w' ∧ QAt 96 4 w' gp n (hr % n) ((p + 1) % n) (phs n (p + 1)) from fun w q => by
            rw [HQS.out, hA]; exact post_ok w gp n hn hp2 (by omega) hf q)
          have HAB := Lib.hid (show BytesA 16 A by rw [hA]; exact entA_bytes _ _)
          have HAS := Lib.hid (show (Try.prog.info? 44).map (·.size) = some A.size by rw [HAB.out.size]; exact size16)
          have HA := Lib.hid hA
          clear hA
          go_upto_region 14 with (first
            | ((with_reducible show wpList _ _ _ (⟨some 66, _, _, _, _, _⟩ :: _) _ _); refine wpList_build1 rfl 43 3 (.tmp 65) rfl (.int .u16 p) (by first | rfl | simp [Act.eval, Act.put]) (build_pCpl _ _) ?_)
            | (go_at_call 38; refine (HPU.out _ I0.out.s).mono ?_; rintro e w5 ⟨rfl, hk2, hq2⟩; have I1' := Lib.hid (I0.out.sk hk2 hq2 o1 (by omega) hf); clear hk2 hq2)
            | ((with_reducible show wpList _ _ _ (⟨some 14, _, _, _, _, _⟩ :: _) _ _); refine wpList_alloc rfl 44 rfl zero16 ?_; rw [show (Value.agg (arr 16 z16)).cells = arr 16 z16 from rfl])
            | ((with_reducible show wpList _ _ _ (⟨none, .store _ (.tmp 14) _, _, _, _, _⟩ :: _) _ _); refine wpList_storeA rfl (b := w5.heap.size) (A := arr 16 z16) (A' := A) (fr16 w5) 44 (.tmp 14) (.tmp 69) rfl (by simp [Act.eval, Act.put]) (by simp [Act.eval, Act.put]) sz16 (by rw [arr_size, HAB.out.size]) HAB.out.one ?_))
          obtain ⟨w6, hw⟩ : ∃ z, z = (w5.alloc (.cells (arr 16 z16) 44)).setCells w5.heap.size 0 A.toList := ⟨_, rfl⟩
          rw [← hw]
          have A14 := Lib.hid (show ArrAt w6 w5.heap.size A by rw [hw]; exact (fr16 w5).store A (by rw [arr_size, HAB.out.size]))
          have I1 := Lib.hid (I1'.out.below (show Below w5.heap.size w5 w6 by rw [hw]; exact set16 _ _))
          clear hw I1'
          go_upto_region 18 with (first
            | ((with_reducible show wpList _ _ _ (⟨some 91, _, _, _, _, _⟩ :: _) _ _); refine wpList_loadA rfl A14.out 44 (.tmp 14) rfl (by first | rfl | simp [Act.eval, Act.put]) Try.underlying44 rfl HAS.out ?_)
            | ((with_reducible show wpList _ _ _ (⟨none, .store _ (.tmp 92) _, _, _, _, _⟩ :: _) _ _); refine wpList_store_mid rfl 44 (.tmp 92) (.tmp 91) rfl bs (st * 16) A (by first | rfl | simp [Act.eval, Act.put]) (by first | rfl | simp [Act.eval, Act.put]) (by rw [HAB.out.size]; exact I1.out.there hstn) (by rw [HAB.out.size]; exact size16) HAB.out.one ?_))
          obtain ⟨w7, hw⟩ : ∃ z, z = w6.setCells bs (st * 16) A.toList := ⟨_, rfl⟩
          rw [← hw]
          have I2 := Lib.hid (show PC w w7 gp gl bs n 0 (p + 1) (p + 1) f hr by rw [hw, HQS.out, HA.out]; exact I1.out.put)
          clear hw
          go_wp2_with fail
          go_roundw
          case rel => exact ⟨k + 1, p + 1, f, hr, by omega, by omega, by go_num, rfl, by go_num, I2.out⟩
          case measure => simp [intOf]; omega
        · have HPU := Lib.hid fun w q => post_full w gp n hn hp2 (show hr ≤ p by omega) (show p + 1 = hr + n by omega) q
          have HFR := Lib.hid (show ∀ w, QAt 96 4 w gp n (hr % n) (p % n) (phs n p) → Calls Try.prog 41 #[.pointer (some ⟨gp, 0, none⟩)] w fun e w' => e = .returned (.int .i64 0) ∧ Below w.heap.size w w' from fun w q => by
            have := pFree_ok 96 4 gp n (hr % n) (p % n) (phs n p) w q
            rw [usd_mod hn0 (show hr ≤ p by omega) o5, show (n : Int) - 1 - ((p - hr : Nat) : Int) = 0 by omega] at this
            exact this)
          go_upto_region 14 with (first
            | ((with_reducible show wpList _ _ _ (⟨some 66, _, _, _, _, _⟩ :: _) _ _); refine wpList_build1 rfl 43 3 (.tmp 65) rfl (.int .u16 p) (by first | rfl | simp [Act.eval, Act.put]) (build_pCpl _ _) ?_)
            | (go_at_call 38; refine (HPU.out _ I0.out.s).mono ?_; rintro e w5 ⟨rfl, hk2, hq2⟩; have I1' := Lib.hid (I0.out.sk hk2 hq2 o1 (Nat.le_refl _) o5); clear hk2 hq2)
            | ((with_reducible show wpList _ _ _ (⟨some 14, _, _, _, _, _⟩ :: _) _ _); refine wpList_alloc rfl 44 rfl zero16 ?_; rw [show (Value.agg (arr 16 z16)).cells = arr 16 z16 from rfl])
            | ((with_reducible show wpList _ _ _ (⟨none, .store _ (.tmp 14) _, _, _, _, _⟩ :: _) _ _); refine wpList_storeA rfl (b := w5.heap.size) (A := arr 16 z16) (A' := arr 16 z16) (fr16 w5) 44 (.tmp 14) (.tmp 69) rfl (by simp [Act.eval, Act.put]) (by simp [Act.eval, Act.put]) sz16 rfl z16_bytes.one ?_))
          obtain ⟨w6, hw⟩ : ∃ z, z = (w5.alloc (.cells (arr 16 z16) 44)).setCells w5.heap.size 0 (arr 16 z16).toList := ⟨_, rfl⟩
          rw [← hw]
          have I1 := Lib.hid (I1'.out.below (show Below w5.heap.size w5 w6 by rw [hw]; exact set16 _ _))
          clear hw I1'
          go_wp2_with (go_at_call 41; refine (HFR.out _ I1.out.s).mono ?_; rintro e w8 ⟨rfl, hb⟩; have I2 := Lib.hid (I1.out.below hb); clear hb)
          go_roundw
          case rel => exact ⟨k + 1, p, f, hr, by omega, by omega, rfl, rfl, by go_num, I2.out⟩
          case measure => simp [intOf]; omega
      · have r6 : d % 5 = 1 := hr6
        clear hr6
        by_cases hf : p + 1 < hr + n
        · obtain ⟨A, hA⟩ : ∃ z, z = entA n (p + n) := ⟨_, rfl⟩
          have HPU := Lib.hid (show ∀ w, QAt 96 4 w gp n (hr % n) (p % n) (phs n p) → Calls Try.prog 38 #[.pointer (some ⟨gp, 0, none⟩), .agg (pCpl p).cells] w fun e w' => e = .returned (.tuple #[.int .i64 (st : Nat), .agg A, .int .i64 0]) ∧ Keeps (One gp) w w' ∧ QAt 96 4 w' gp n (hr % n) ((p + 1) % n) (phs n (p + 1)) from fun w q => by
            rw [HQS.out, hA]; exact post_ok w gp n hn hp2 (by omega) hf q)
          have HAB := Lib.hid (show BytesA 16 A by rw [hA]; exact entA_bytes _ _)
          have HAS := Lib.hid (show (Try.prog.info? 44).map (·.size) = some A.size by rw [HAB.out.size]; exact size16)
          have HA := Lib.hid hA
          clear hA
          go_upto_region 14 with (first
            | ((with_reducible show wpList _ _ _ (⟨some 66, _, _, _, _, _⟩ :: _) _ _); refine wpList_build1 rfl 43 3 (.tmp 65) rfl (.int .u16 p) (by first | rfl | simp [Act.eval, Act.put]) (build_pCpl _ _) ?_)
            | (go_at_call 38; refine (HPU.out _ I0.out.s).mono ?_; rintro e w5 ⟨rfl, hk2, hq2⟩; have I1' := Lib.hid (I0.out.sk hk2 hq2 o1 (by omega) hf); clear hk2 hq2)
            | ((with_reducible show wpList _ _ _ (⟨some 14, _, _, _, _, _⟩ :: _) _ _); refine wpList_alloc rfl 44 rfl zero16 ?_; rw [show (Value.agg (arr 16 z16)).cells = arr 16 z16 from rfl])
            | ((with_reducible show wpList _ _ _ (⟨none, .store _ (.tmp 14) _, _, _, _, _⟩ :: _) _ _); refine wpList_storeA rfl (b := w5.heap.size) (A := arr 16 z16) (A' := A) (fr16 w5) 44 (.tmp 14) (.tmp 69) rfl (by simp [Act.eval, Act.put]) (by simp [Act.eval, Act.put]) sz16 (by rw [arr_size, HAB.out.size]) HAB.out.one ?_))
          obtain ⟨w6, hw⟩ : ∃ z, z = (w5.alloc (.cells (arr 16 z16) 44)).setCells w5.heap.size 0 A.toList := ⟨_, rfl⟩
          rw [← hw]
          have A14 := Lib.hid (show ArrAt w6 w5.heap.size A by rw [hw]; exact (fr16 w5).store A (by rw [arr_size, HAB.out.size]))
          have I1 := Lib.hid (I1'.out.below (show Below w5.heap.size w5 w6 by rw [hw]; exact set16 _ _))
          clear hw I1'
          go_upto_region 18 with (first
            | ((with_reducible show wpList _ _ _ (⟨some 91, _, _, _, _, _⟩ :: _) _ _); refine wpList_loadA rfl A14.out 44 (.tmp 14) rfl (by first | rfl | simp [Act.eval, Act.put]) Try.underlying44 rfl HAS.out ?_)
            | ((with_reducible show wpList _ _ _ (⟨none, .store _ (.tmp 92) _, _, _, _, _⟩ :: _) _ _); refine wpList_store_mid rfl 44 (.tmp 92) (.tmp 91) rfl bs (st * 16) A (by first | rfl | simp [Act.eval, Act.put]) (by first | rfl | simp [Act.eval, Act.put]) (by rw [HAB.out.size]; exact I1.out.there hstn) (by rw [HAB.out.size]; exact size16) HAB.out.one ?_))
          obtain ⟨w7, hw⟩ : ∃ z, z = w6.setCells bs (st * 16) A.toList := ⟨_, rfl⟩
          rw [← hw]
          have I2 := Lib.hid (show PC w w7 gp gl bs n 0 (p + 1) (p + 1) f hr by rw [hw, HQS.out, HA.out]; exact I1.out.put)
          clear hw
          go_wp2_with fail
          go_roundw
          case rel => exact ⟨k + 1, p + 1, f, hr, by omega, by omega, by go_num, rfl, by go_num, I2.out⟩
          case measure => simp [intOf]; omega
        · have HPU := Lib.hid fun w q => post_full w gp n hn hp2 (show hr ≤ p by omega) (show p + 1 = hr + n by omega) q
          have HFR := Lib.hid (show ∀ w, QAt 96 4 w gp n (hr % n) (p % n) (phs n p) → Calls Try.prog 41 #[.pointer (some ⟨gp, 0, none⟩)] w fun e w' => e = .returned (.int .i64 0) ∧ Below w.heap.size w w' from fun w q => by
            have := pFree_ok 96 4 gp n (hr % n) (p % n) (phs n p) w q
            rw [usd_mod hn0 (show hr ≤ p by omega) o5, show (n : Int) - 1 - ((p - hr : Nat) : Int) = 0 by omega] at this
            exact this)
          go_upto_region 14 with (first
            | ((with_reducible show wpList _ _ _ (⟨some 66, _, _, _, _, _⟩ :: _) _ _); refine wpList_build1 rfl 43 3 (.tmp 65) rfl (.int .u16 p) (by first | rfl | simp [Act.eval, Act.put]) (build_pCpl _ _) ?_)
            | (go_at_call 38; refine (HPU.out _ I0.out.s).mono ?_; rintro e w5 ⟨rfl, hk2, hq2⟩; have I1' := Lib.hid (I0.out.sk hk2 hq2 o1 (Nat.le_refl _) o5); clear hk2 hq2)
            | ((with_reducible show wpList _ _ _ (⟨some 14, _, _, _, _, _⟩ :: _) _ _); refine wpList_alloc rfl 44 rfl zero16 ?_; rw [show (Value.agg (arr 16 z16)).cells = arr 16 z16 from rfl])
            | ((with_reducible show wpList _ _ _ (⟨none, .store _ (.tmp 14) _, _, _, _, _⟩ :: _) _ _); refine wpList_storeA rfl (b := w5.heap.size) (A := arr 16 z16) (A' := arr 16 z16) (fr16 w5) 44 (.tmp 14) (.tmp 69) rfl (by simp [Act.eval, Act.put]) (by simp [Act.eval, Act.put]) sz16 rfl z16_bytes.one ?_))
          obtain ⟨w6, hw⟩ : ∃ z, z = (w5.alloc (.cells (arr 16 z16) 44)).setCells w5.heap.size 0 (arr 16 z16).toList := ⟨_, rfl⟩
          rw [← hw]
          have I1 := Lib.hid (I1'.out.below (show Below w5.heap.size w5 w6 by rw [hw]; exact set16 _ _))
          clear hw I1'
          go_wp2_with (go_at_call 41; refine (HFR.out _ I1.out.s).mono ?_; rintro e w8 ⟨rfl, hb⟩; have I2 := Lib.hid (I1.out.below hb); clear hb)
          go_roundw
          case rel => exact ⟨k + 1, p, f, hr, by omega, by omega, rfl, rfl, by go_num, I2.out⟩
          case measure => simp [intOf]; omega
      · have r6 : d % 5 = 2 := hr6
        clear hr6
        have HSL := Lib.hid (show ∀ w, QAt 98 4 w gl n (f % n) 0 (phs n f) → Calls Try.prog 26 #[.pointer (some ⟨gl, 0, none⟩)] w fun e w' => e = .returned (.int .i64 (fh : Nat)) ∧ Below w.heap.size w w' from fun w q => by rw [HQF.out]; exact lSlot_ok _ _ _ _ _ _ _ _ q)
        by_cases hf : f < p
        · obtain ⟨A, hA⟩ : ∃ z, z = entA n (f + n) := ⟨_, rfl⟩
          obtain ⟨CA, hCA⟩ : ∃ z, z = (dCpl (entB n (f + n))).cells := ⟨_, rfl⟩
          have HPL := Lib.hid (show ∀ w, QAt 98 4 w gl n (f % n) 0 (phs n f) → Calls Try.prog 24 #[.pointer (some ⟨gl, 0, none⟩), .agg A] w fun e w' => e = .returned (.tuple #[.agg CA, .bool true, .int .i64 0]) ∧ Keeps (One gl) w w' ∧ QAt 98 4 w' gl n ((f + 1) % n) 0 (phs n (f + 1)) from fun w q => by rw [hA, hCA]; exact poll_nw w gl n hn hf2 q)
          have HC4 := Lib.hid (show CA[4]? = some (.int .u16 f) by rw [hCA]; show some (Value.int .u16 (dCpl _).id) = _; rw [(ent_new (n := n) (f := f) _ rfl).2.2 hf2])
          have HC1 := Lib.hid (show CA.all (·.oneCell') = true by rw [hCA]; exact Cpl.cells_one _)
          have HCZ := Lib.hid (show CA.size = 10 by rw [hCA]; rfl)
          have HAS := Lib.hid (show (Try.prog.info? 44).map (·.size) = some A.size by rw [hA]; unfold entA; rw [arr_size]; exact size16)
          have HA := Lib.hid hA
          clear hA hCA
          go_upto_region 24 with (go_at_call 26; refine (HSL.out _ I0.out.l).mono ?_; rintro e w5 ⟨rfl, hb⟩; have I1 := Lib.hid (I0.out.below hb); clear hb)
          have HR := Lib.hid (show w5.rangeAt bs (fh * 16) A.toList by have := I1.out.rng (f + n) (by omega) (by omega); rw [Nat.add_mod_right] at this; rw [HA.out, HQF.out]; exact this)
          go_upto_region 25 with (first
            | ((with_reducible show wpList _ _ _ (⟨some 112, _, _, _, _, _⟩ :: _) _ _); refine wpList_loadR rfl HR.out 44 (.tmp 111) rfl (by first | rfl | simp [Act.eval, Act.put]) Try.underlying44 rfl HAS.out ?_)
            | (go_at_call 24; refine (HPL.out _ I1.out.l).mono ?_; rintro e w6 ⟨rfl, hk2, hq2⟩; have I2 := Lib.hid (I1.out.fk hk2 hq2 (by omega) (by omega)); clear hk2 hq2)
            | ((with_reducible show wpList _ _ _ (⟨some 17, _, _, _, _, _⟩ :: _) _ _); refine wpList_alloc rfl 43 rfl zeroCpl ?_; rw [show (Value.agg (cArr 0 0)).cells = cArr 0 0 from rfl])
            | ((with_reducible show wpList _ _ _ (⟨none, .store _ (.tmp 17) _, _, _, _, _⟩ :: _) _ _); refine wpList_storeA rfl (b := w6.heap.size) (A := cArr 0 0) (A' := CA) (frC w6) 43 (.tmp 17) (.tmp 114) rfl (by simp [Act.eval, Act.put]) (by simp [Act.eval, Act.put]) size10 (by rw [HCZ.out]; rfl) HC1.out ?_))
          obtain ⟨w7, hw⟩ : ∃ z, z = (w6.alloc (.cells (cArr 0 0) 43)).setCells w6.heap.size 0 CA.toList := ⟨_, rfl⟩
          rw [← hw]
          have A17 := Lib.hid (show ArrAt w7 w6.heap.size CA by rw [hw]; exact (frC w6).store CA (by rw [HCZ.out]; rfl))
          have I3 := Lib.hid (I2.out.below (show Below w6.heap.size w6 w7 by rw [hw]; exact setC _ _))
          clear hw
          have q4 : decide ((f : Int) < (p : Int)) = true := by simp; omega
          have c4 := A17.out.cell HC4.out
          go_wp2_with fail
          go_roundw
          case rel => exact ⟨k + 1, p, f + 1, hr, by omega, by omega, rfl, by go_num, by go_num, I3.out⟩
          case measure => simp [intOf]; omega
        · obtain ⟨A, hA⟩ : ∃ z, z = entA n f := ⟨_, rfl⟩
          obtain ⟨CA, hCA⟩ : ∃ z, z = zCpl.cells := ⟨_, rfl⟩
          have HPL := Lib.hid (show ∀ w, QAt 98 4 w gl n (f % n) 0 (phs n f) → Calls Try.prog 24 #[.pointer (some ⟨gl, 0, none⟩), .agg A] w fun e w' => e = .returned (.tuple #[.agg CA, .bool false, .int .i64 0]) ∧ Keeps (One gl) w w' ∧ QAt 98 4 w' gl n ((f) % n) 0 (phs n (f)) from fun w q => by rw [hA, hCA]; exact poll_od w gl n hn q)
          have HC1 := Lib.hid (show CA.all (·.oneCell') = true by rw [hCA]; exact Cpl.cells_one _)
          have HCZ := Lib.hid (show CA.size = 10 by rw [hCA]; rfl)
          have HAS := Lib.hid (show (Try.prog.info? 44).map (·.size) = some A.size by rw [hA]; unfold entA; rw [arr_size]; exact size16)
          have HA := Lib.hid hA
          clear hA hCA
          go_upto_region 24 with (go_at_call 26; refine (HSL.out _ I0.out.l).mono ?_; rintro e w5 ⟨rfl, hb⟩; have I1 := Lib.hid (I0.out.below hb); clear hb)
          have HR := Lib.hid (show w5.rangeAt bs (fh * 16) A.toList by have := I1.out.rng (f) (by omega) (by omega); rw [HA.out, HQF.out]; exact this)
          go_upto_region 25 with (first
            | ((with_reducible show wpList _ _ _ (⟨some 112, _, _, _, _, _⟩ :: _) _ _); refine wpList_loadR rfl HR.out 44 (.tmp 111) rfl (by first | rfl | simp [Act.eval, Act.put]) Try.underlying44 rfl HAS.out ?_)
            | (go_at_call 24; refine (HPL.out _ I1.out.l).mono ?_; rintro e w6 ⟨rfl, hk2, hq2⟩; have I2 := Lib.hid (I1.out.fk hk2 hq2 (by omega) (by omega)); clear hk2 hq2)
            | ((with_reducible show wpList _ _ _ (⟨some 17, _, _, _, _, _⟩ :: _) _ _); refine wpList_alloc rfl 43 rfl zeroCpl ?_; rw [show (Value.agg (cArr 0 0)).cells = cArr 0 0 from rfl])
            | ((with_reducible show wpList _ _ _ (⟨none, .store _ (.tmp 17) _, _, _, _, _⟩ :: _) _ _); refine wpList_storeA rfl (b := w6.heap.size) (A := cArr 0 0) (A' := CA) (frC w6) 43 (.tmp 17) (.tmp 114) rfl (by simp [Act.eval, Act.put]) (by simp [Act.eval, Act.put]) size10 (by rw [HCZ.out]; rfl) HC1.out ?_))
          obtain ⟨w7, hw⟩ : ∃ z, z = (w6.alloc (.cells (cArr 0 0) 43)).setCells w6.heap.size 0 CA.toList := ⟨_, rfl⟩
          rw [← hw]
          have A17 := Lib.hid (show ArrAt w7 w6.heap.size CA by rw [hw]; exact (frC w6).store CA (by rw [HCZ.out]; rfl))
          have I3 := Lib.hid (I2.out.below (show Below w6.heap.size w6 w7 by rw [hw]; exact setC _ _))
          clear hw
          have q4 : decide ((f : Int) < (p : Int)) = false := by simp; omega
          go_wp2_with fail
          go_roundw
          case rel => exact ⟨k + 1, p, f, hr, by omega, by omega, rfl, rfl, by go_num, I3.out⟩
          case measure => simp [intOf]; omega
      · have r6 : d % 5 = 3 := hr6
        clear hr6
        have HSL := Lib.hid (show ∀ w, QAt 98 4 w gl n (f % n) 0 (phs n f) → Calls Try.prog 26 #[.pointer (some ⟨gl, 0, none⟩)] w fun e w' => e = .returned (.int .i64 (fh : Nat)) ∧ Below w.heap.size w w' from fun w q => by rw [HQF.out]; exact lSlot_ok _ _ _ _ _ _ _ _ q)
        by_cases hf : f < p
        · obtain ⟨A, hA⟩ : ∃ z, z = entA n (f + n) := ⟨_, rfl⟩
          obtain ⟨CA, hCA⟩ : ∃ z, z = (dCpl (entB n (f + n))).cells := ⟨_, rfl⟩
          have HPL := Lib.hid (show ∀ w, QAt 98 4 w gl n (f % n) 0 (phs n f) → Calls Try.prog 24 #[.pointer (some ⟨gl, 0, none⟩), .agg A] w fun e w' => e = .returned (.tuple #[.agg CA, .bool true, .int .i64 0]) ∧ Keeps (One gl) w w' ∧ QAt 98 4 w' gl n ((f + 1) % n) 0 (phs n (f + 1)) from fun w q => by rw [hA, hCA]; exact poll_nw w gl n hn hf2 q)
          have HC4 := Lib.hid (show CA[4]? = some (.int .u16 f) by rw [hCA]; show some (Value.int .u16 (dCpl _).id) = _; rw [(ent_new (n := n) (f := f) _ rfl).2.2 hf2])
          have HC1 := Lib.hid (show CA.all (·.oneCell') = true by rw [hCA]; exact Cpl.cells_one _)
          have HCZ := Lib.hid (show CA.size = 10 by rw [hCA]; rfl)
          have HAS := Lib.hid (show (Try.prog.info? 44).map (·.size) = some A.size by rw [hA]; unfold entA; rw [arr_size]; exact size16)
          have HA := Lib.hid hA
          clear hA hCA
          go_upto_region 24 with (go_at_call 26; refine (HSL.out _ I0.out.l).mono ?_; rintro e w5 ⟨rfl, hb⟩; have I1 := Lib.hid (I0.out.below hb); clear hb)
          have HR := Lib.hid (show w5.rangeAt bs (fh * 16) A.toList by have := I1.out.rng (f + n) (by omega) (by omega); rw [Nat.add_mod_right] at this; rw [HA.out, HQF.out]; exact this)
          go_upto_region 25 with (first
            | ((with_reducible show wpList _ _ _ (⟨some 112, _, _, _, _, _⟩ :: _) _ _); refine wpList_loadR rfl HR.out 44 (.tmp 111) rfl (by first | rfl | simp [Act.eval, Act.put]) Try.underlying44 rfl HAS.out ?_)
            | (go_at_call 24; refine (HPL.out _ I1.out.l).mono ?_; rintro e w6 ⟨rfl, hk2, hq2⟩; have I2 := Lib.hid (I1.out.fk hk2 hq2 (by omega) (by omega)); clear hk2 hq2)
            | ((with_reducible show wpList _ _ _ (⟨some 17, _, _, _, _, _⟩ :: _) _ _); refine wpList_alloc rfl 43 rfl zeroCpl ?_; rw [show (Value.agg (cArr 0 0)).cells = cArr 0 0 from rfl])
            | ((with_reducible show wpList _ _ _ (⟨none, .store _ (.tmp 17) _, _, _, _, _⟩ :: _) _ _); refine wpList_storeA rfl (b := w6.heap.size) (A := cArr 0 0) (A' := CA) (frC w6) 43 (.tmp 17) (.tmp 114) rfl (by simp [Act.eval, Act.put]) (by simp [Act.eval, Act.put]) size10 (by rw [HCZ.out]; rfl) HC1.out ?_))
          obtain ⟨w7, hw⟩ : ∃ z, z = (w6.alloc (.cells (cArr 0 0) 43)).setCells w6.heap.size 0 CA.toList := ⟨_, rfl⟩
          rw [← hw]
          have A17 := Lib.hid (show ArrAt w7 w6.heap.size CA by rw [hw]; exact (frC w6).store CA (by rw [HCZ.out]; rfl))
          have I3 := Lib.hid (I2.out.below (show Below w6.heap.size w6 w7 by rw [hw]; exact setC _ _))
          clear hw
          have q4 : decide ((f : Int) < (p : Int)) = true := by simp; omega
          have c4 := A17.out.cell HC4.out
          go_wp2_with fail
          go_roundw
          case rel => exact ⟨k + 1, p, f + 1, hr, by omega, by omega, rfl, by go_num, by go_num, I3.out⟩
          case measure => simp [intOf]; omega
        · obtain ⟨A, hA⟩ : ∃ z, z = entA n f := ⟨_, rfl⟩
          obtain ⟨CA, hCA⟩ : ∃ z, z = zCpl.cells := ⟨_, rfl⟩
          have HPL := Lib.hid (show ∀ w, QAt 98 4 w gl n (f % n) 0 (phs n f) → Calls Try.prog 24 #[.pointer (some ⟨gl, 0, none⟩), .agg A] w fun e w' => e = .returned (.tuple #[.agg CA, .bool false, .int .i64 0]) ∧ Keeps (One gl) w w' ∧ QAt 98 4 w' gl n ((f) % n) 0 (phs n (f)) from fun w q => by rw [hA, hCA]; exact poll_od w gl n hn q)
          have HC1 := Lib.hid (show CA.all (·.oneCell') = true by rw [hCA]; exact Cpl.cells_one _)
          have HCZ := Lib.hid (show CA.size = 10 by rw [hCA]; rfl)
          have HAS := Lib.hid (show (Try.prog.info? 44).map (·.size) = some A.size by rw [hA]; unfold entA; rw [arr_size]; exact size16)
          have HA := Lib.hid hA
          clear hA hCA
          go_upto_region 24 with (go_at_call 26; refine (HSL.out _ I0.out.l).mono ?_; rintro e w5 ⟨rfl, hb⟩; have I1 := Lib.hid (I0.out.below hb); clear hb)
          have HR := Lib.hid (show w5.rangeAt bs (fh * 16) A.toList by have := I1.out.rng (f) (by omega) (by omega); rw [HA.out, HQF.out]; exact this)
          go_upto_region 25 with (first
            | ((with_reducible show wpList _ _ _ (⟨some 112, _, _, _, _, _⟩ :: _) _ _); refine wpList_loadR rfl HR.out 44 (.tmp 111) rfl (by first | rfl | simp [Act.eval, Act.put]) Try.underlying44 rfl HAS.out ?_)
            | (go_at_call 24; refine (HPL.out _ I1.out.l).mono ?_; rintro e w6 ⟨rfl, hk2, hq2⟩; have I2 := Lib.hid (I1.out.fk hk2 hq2 (by omega) (by omega)); clear hk2 hq2)
            | ((with_reducible show wpList _ _ _ (⟨some 17, _, _, _, _, _⟩ :: _) _ _); refine wpList_alloc rfl 43 rfl zeroCpl ?_; rw [show (Value.agg (cArr 0 0)).cells = cArr 0 0 from rfl])
            | ((with_reducible show wpList _ _ _ (⟨none, .store _ (.tmp 17) _, _, _, _, _⟩ :: _) _ _); refine wpList_storeA rfl (b := w6.heap.size) (A := cArr 0 0) (A' := CA) (frC w6) 43 (.tmp 17) (.tmp 114) rfl (by simp [Act.eval, Act.put]) (by simp [Act.eval, Act.put]) size10 (by rw [HCZ.out]; rfl) HC1.out ?_))
          obtain ⟨w7, hw⟩ : ∃ z, z = (w6.alloc (.cells (cArr 0 0) 43)).setCells w6.heap.size 0 CA.toList := ⟨_, rfl⟩
          rw [← hw]
          have A17 := Lib.hid (show ArrAt w7 w6.heap.size CA by rw [hw]; exact (frC w6).store CA (by rw [HCZ.out]; rfl))
          have I3 := Lib.hid (I2.out.below (show Below w6.heap.size w6 w7 by rw [hw]; exact setC _ _))
          clear hw
          have q4 : decide ((f : Int) < (p : Int)) = false := by simp; omega
          go_wp2_with fail
          go_roundw
          case rel => exact ⟨k + 1, p, f, hr, by omega, by omega, rfl, rfl, by go_num, I3.out⟩
          case measure => simp [intOf]; omega
      · have r6 : d % 5 = 4 := hr6
        clear hr6
        have HFH := Lib.hid (show ∀ w, QAt 98 4 w gl n (f % n) 0 (phs n f) → Calls Try.prog 27 #[.pointer (some ⟨gl, 0, none⟩)] w fun e w' => e = .returned (.int .i64 (fh : Nat)) ∧ Below w.heap.size w w' from fun w q => by rw [HQF.out]; exact lHead_ok _ _ _ _ _ _ _ _ q)
        have HHD := Lib.hid (show ∀ w, QAt 96 4 w gp n (hr % n) (p % n) (phs n p) → Calls Try.prog 40 #[.pointer (some ⟨gp, 0, none⟩), .int .i64 (fh : Nat)] w fun e w' => e = .returned (.int .i64 0) ∧ Keeps (One gp) w w' ∧ QAt 96 4 w' gp n (f % n) (p % n) (phs n p) from fun w q => by
          obtain ⟨e1, e2⟩ := head_mod (n := n) (hr := hr) (f := f) (p := p) hn0 o1 (by omega) o5
          have := pRing_any 96 4 gp n (hr % n) (p % n) (phs n p) ((f % n : Nat) : Int) w q
          rw [e1, e2] at this
          rw [HQF.out]; exact this)
        go_wp2_with (first
          | (go_at_call 27; refine (HFH.out _ I0.out.l).mono ?_; rintro e w5 ⟨rfl, hb⟩; have I1 := Lib.hid (I0.out.below hb); clear hb)
          | (go_at_call 40; refine (HHD.out _ I1.out.s).mono ?_; rintro e w6 ⟨rfl, hk2, hq2⟩; have I2 := Lib.hid (I1.out.sk hk2 hq2 (Nat.le_refl _) (Nat.le_refl _) (by omega)); clear hk2 hq2))
        go_roundw
        case rel => exact ⟨k + 1, p, f, f, by omega, by omega, rfl, rfl, by go_num, I2.out⟩
        case measure => simp [intOf]; omega
    · obtain rfl : k = len := by omega
      go_wp2_with (go_at_call 13; refine (known_any _).mono ?_; rintro e w8 ⟨rfl, hb⟩; have HB := Lib.hid (I0.out.b.trans (hb.mono I0.out.b.size)); clear hb)
      go_ret
      exact ⟨rfl, HB.out⟩
theorem k_any (size : Int) (ao : Option Addr) (len cap : Nat) (zs : List Int) (w : World) (_h1 : (Lit.int .i64 size).wf = true) (h2 : IsRow .u8 w ao len cap zs) :
    Calls Try.prog 8 #[.int .i64 size, .slice ao len cap] w fun e w' => e = .returned (.bool true) ∧ Below w.heap.size w w' := by
  have hlen : len ≤ 9223372036854775807 := by
    rcases h2 with ⟨-, h, -, -⟩ | ⟨x, -, h, h', -⟩
    · omega
    · unfold maxLen at h'; omega
  by_cases h : 2 ≤ size ∧ size ≤ 4096
  · obtain ⟨n, rfl⟩ := Int.eq_ofNat_of_zero_le (show 0 ≤ size by omega)
    by_cases hl : n ≤ 20 ∧ len ≤ 200
    · refine k_seq n ao len cap (fun i => zs.getD i 0) w (by omega) hl.1 hl.2 fun i hi => ?_
      rcases h2 with ⟨rfl, rfl, rfl, rfl⟩ | ⟨x, rfl, h1, h2, h3, h4, h5⟩
      · omega
      · have hm : zs.getD i 0 ∈ zs := by
          have : i < zs.length := by omega
          simp [this]
        have := h5 _ hm
        simp only [Lit.wf, Bool.and_eq_true, decide_eq_true_eq] at this
        exact ⟨x, rfl, h4 i (by omega), this⟩
    · exact k_long n ao len cap w (by omega) (by omega) (by omega) hlen
  · exact k_bad size ao len cap w (by omega)
end Go.Proofs.Ytpoeepdpoblfcaa
