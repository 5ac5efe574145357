/- memory: the law MemoryPlays returns true and writes to nothing that was there. -/
import Derived.Test.YtobbnfdflogicaaU4
import Derived.Test.YtobbnfdflogicaaActs
import Derived.Test.YtobbnfdflogicaaLNone2
import Derived.Deep.CutRange
namespace Go.Proofs.Ytobbnfdflogicaa
open Go.RowKit
attribute [local go_sem ↓] Go.wp_at_zero Go.wp_at_succ

theorem ActsAt.few {W : World} {ao : Option Addr} {len : Nat} {X : Nat → AV} (h : ActsAt W ao len X) : ∀ i, i < len → ∃ g o, ao = some ⟨g, o, none⟩ ∧ W.cell? ⟨g, o + i * 5 + 3, none⟩ = some (.slice (X i).ao (X i).len (X i).cap) := fun i hi => by
  obtain ⟨g, o, e, h1, -⟩ := h i hi
  exact ⟨g, o, e, h1 3 (by omega)⟩

theorem AV.ok.src {W : World} {x : AV} (h : x.ok W) (hl : x.len ≤ 5000) (S : Nat → Prop) (hS : ∀ j, j < W.heap.size → ¬ S j) : Src S W x.ao x.len (fun i => x.z.getD i 0) := by
  rcases h.row with ⟨e1, e2, e3, e4⟩ | ⟨a, e1, h1, h2, h3, h4, h5⟩
  · exact ⟨by omega, fun h0 => by omega⟩
  · refine ⟨by omega, fun h0 => ?_⟩
    have c0 := h4 0 (by omega)
    have ea : a = ⟨a.block, a.off, none⟩ := addr_of_cell (w := W) (by simpa [Addr.add] using c0)
    refine ⟨a.block, a.off, by rw [e1, ← ea], hS _ (World.block_lt_of_cell? _ _ (by simpa [Addr.add] using c0)), fun i hi => ?_⟩
    have c1 := h4 i (by omega)
    rw [ea, Addr.add_mid] at c1
    exact c1
theorem AV.ok.nil {W : World} {x : AV} (h : x.ok W) (e : x.ao = none) : x.len = 0 ∧ x.cap = 0 := by
  rcases h.row with ⟨e1, e2, e3, e4⟩ | ⟨a, e1, -⟩
  · exact ⟨e2, e3⟩
  · rw [e] at e1; cases e1

set_option maxRecDepth 100000 in
set_option maxHeartbeats 2000000 in
theorem plays_big (pages many : Int) (ao : Option Addr) (len cap : Nat) (w : World) (h1 : 4 < pages) (h2 : pages ≤ 1024) :
    Calls Try.prog 6 #[.int .i64 pages, .slice ao len cap, .int .i64 many] w fun e w' => e = .returned (.bool true) ∧ Below w.heap.size w w' := by
  have d1 : decide (4 < pages) = true := decide_eq_true h1
  have d2 : decide (pages ≤ 1024) = true := decide_eq_true h2
  go_enter Try.func6, Try.ntmps6
  go_wp2_with fail
  refine (works_any _).mono ?_
  rintro e w2 ⟨rfl, hb2⟩
  go_wp2_with fail
  go_ret
  exact ⟨rfl, hb2⟩

set_option maxRecDepth 100000 in
set_option maxHeartbeats 2000000 in
theorem plays_err (pages many : Int) (ao : Option Addr) (len cap : Nat) (X : Nat → AV) (w : World) (hX : ActsAt w ao len X) (h1 : pages < 1 ∨ 1024 < pages) :
    Calls Try.prog 6 #[.int .i64 pages, .slice ao len cap, .int .i64 many] w fun e w' => e = .returned (.bool true) ∧ Below w.heap.size w w' := by
  have HX := Lib.hid hX
  have H1 := Lib.hid h1
  clear hX
  by_cases hp : pages < 1
  · have d1 : decide (4 < pages) = false := by simp; omega
    clear h1
    go_enter Try.func6, Try.ntmps6
    go_wp2_with fail
    refine (few_any ao len cap 15 (by omega) (fun i => (X i).ao) (fun i => (X i).len) (fun i => (X i).cap) w HX.out.few).mono ?_
    rintro e w2 ⟨r, rfl, -, rfl⟩
    cases r
    · go_wp2_with fail
      refine (works_any _).mono ?_
      rintro e w2 ⟨rfl, hb2⟩
      go_wp2_with fail
      go_ret
      exact ⟨rfl, hb2⟩
    go_wp2_with fail
    refine (new_err pages _ H1.out).mono ?_
    rintro e w' ⟨rfl, rfl⟩
    go_wp2_with fail
    refine (rnew_err pages _ H1.out).mono ?_
    rintro e w2 ⟨rfl, hb2⟩
    have HB2 := Lib.hid hb2
    clear hb2
    by_cases hl : 0 < len
    · have d3 : decide (0 < len) = true := decide_eq_true hl
      go_wp2_with (first | (go_at_call 11; refine (num_any _ _).mono ?_; rintro e w' ⟨rfl, rfl⟩))
      refine wp_loop_rounds 1 ?_
      rw [rounds_succ]
      go_wp2_with fail
      refine (works_any _).mono ?_
      rintro e w3 ⟨rfl, hb3⟩
      go_wp2_with fail
      go_ret
      exact ⟨rfl, (HB2.out.alloc HB2.out.size _).trans (hb3.mono (by have := HB2.out.size; simp; omega))⟩
    · have d3 : decide (0 < len) = false := decide_eq_false hl
      go_wp2_with (first | (go_at_call 11; refine (num_any _ _).mono ?_; rintro e w' ⟨rfl, rfl⟩))
      refine wp_loop_rounds 1 ?_
      rw [rounds_succ]
      go_wp2_with fail
      refine (works_any _).mono ?_
      rintro e w3 ⟨rfl, hb3⟩
      go_wp2_with fail
      go_ret
      exact ⟨rfl, (HB2.out.alloc HB2.out.size _).trans (hb3.mono (by have := HB2.out.size; simp; omega))⟩
  · have d1 : decide (4 < pages) = true := by simp; omega
    have d2 : decide (pages ≤ 1024) = false := by simp; omega
    clear h1
    go_enter Try.func6, Try.ntmps6
    go_wp2_with fail
    refine (few_any ao len cap 15 (by omega) (fun i => (X i).ao) (fun i => (X i).len) (fun i => (X i).cap) w HX.out.few).mono ?_
    rintro e w2 ⟨r, rfl, -, rfl⟩
    cases r
    · go_wp2_with fail
      refine (works_any _).mono ?_
      rintro e w2 ⟨rfl, hb2⟩
      go_wp2_with fail
      go_ret
      exact ⟨rfl, hb2⟩
    go_wp2_with fail
    refine (new_err pages _ H1.out).mono ?_
    rintro e w' ⟨rfl, rfl⟩
    go_wp2_with fail
    refine (rnew_err pages _ H1.out).mono ?_
    rintro e w2 ⟨rfl, hb2⟩
    have HB2 := Lib.hid hb2
    clear hb2
    by_cases hl : 0 < len
    · have d3 : decide (0 < len) = true := decide_eq_true hl
      go_wp2_with (first | (go_at_call 11; refine (num_any _ _).mono ?_; rintro e w' ⟨rfl, rfl⟩))
      refine wp_loop_rounds 1 ?_
      rw [rounds_succ]
      go_wp2_with fail
      refine (works_any _).mono ?_
      rintro e w3 ⟨rfl, hb3⟩
      go_wp2_with fail
      go_ret
      exact ⟨rfl, (HB2.out.alloc HB2.out.size _).trans (hb3.mono (by have := HB2.out.size; simp; omega))⟩
    · have d3 : decide (0 < len) = false := decide_eq_false hl
      go_wp2_with (first | (go_at_call 11; refine (num_any _ _).mono ?_; rintro e w' ⟨rfl, rfl⟩))
      refine wp_loop_rounds 1 ?_
      rw [rounds_succ]
      go_wp2_with fail
      refine (works_any _).mono ?_
      rintro e w3 ⟨rfl, hb3⟩
      go_wp2_with fail
      go_ret
      exact ⟨rfl, (HB2.out.alloc HB2.out.size _).trans (hb3.mono (by have := HB2.out.size; simp; omega))⟩

/-- What the loop keeps: block C holds the specification's memory. -/
structure PlayInv (w : World) (C n k b B : Nat) (f : Nat → Int) (L : List (Nat × Nat)) (ao : Addr) (c : Nat) (al : Option Addr) (cl : Nat) (W : World) : Prop where
  mem : MemAt W b B n f L
  ref : RefAt (fun j => j = b ∨ j = B ∨ j = C) W (.agg #[.slice (some ao) n c, .slice al L.length cl]) n f L
  row : W.rowIs C 52 2 (fun i => if i = 0 then .slice (some ao) n c else .slice al L.length cl)
  len : L.length ≤ k
  below : Below w.heap.size w W
  old : w.heap.size ≤ b ∧ w.heap.size ≤ B ∧ w.heap.size ≤ C ∧ b ≠ C ∧ B ≠ C

theorem Keeps.setNew {S : Nat → Prop} {a w : World} {D : Nat} (h : Keeps S a w) (hD : a.heap.size ≤ D) (i : Nat) (u : Value) : Keeps S a (w.setCell ⟨D, i, none⟩ u) := h.setCell (p := ⟨D, i, none⟩) (fun h => absurd h (by simpa using hD)) u
/-- Behind a call: block D holds the specification's memory, the program's is in b' and B'. -/
structure PlayCut (wr : World) (C n k b B b' B' : Nat) (f : Nat → Int) (L : List (Nat × Nat)) (ao : Addr) (c : Nat) (al : Option Addr) (cl D : Nat) (W : World) : Prop where
  mem : MemAt W b' B' n f L
  ref : RefAt (fun j => j = b' ∨ j = B' ∨ j = C) W (.agg #[.slice (some ao) n c, .slice al L.length cl]) n f L
  row : W.rowIs D 52 2 (fun i => if i = 0 then .slice (some ao) n c else .slice al L.length cl)
  len : L.length ≤ k
  keeps : Keeps (Two b B) wr W
  lt : wr.heap.size ≤ D
  old : (b' = b ∧ B' = B) ∨ (wr.heap.size ≤ b' ∧ wr.heap.size ≤ B')

set_option maxRecDepth 100000 in
set_option maxHeartbeats 4000000 in
theorem plays_ok (pages : Nat) (many : Int) (ao : Option Addr) (len cap : Nat) (X : Nat → AV) (w : World) (hX : ActsAt w ao len X) (h1 : 1 ≤ pages) (h2 : pages ≤ 4) (hm : -9223372036854775808 ≤ many) (hm' : many ≤ 9223372036854775807) :
    Calls Try.prog 6 #[.int .i64 pages, .slice ao len cap, .int .i64 many] w fun e w' => e = .returned (.bool true) ∧ Below w.heap.size w w' := by
  have HX := Lib.hid hX
  clear hX
  have d1 : decide (4 < (pages : Int)) = false := by simp; omega
  go_enter Try.func6, Try.ntmps6
  go_wp2_with fail
  refine (few_any ao len cap 15 (by omega) (fun i => (X i).ao) (fun i => (X i).len) (fun i => (X i).cap) w HX.out.few).mono ?_
  rintro e w2 ⟨r, rfl, hr, rfl⟩
  cases r
  · go_wp2_with fail
    refine (works_any _).mono ?_
    rintro e w2 ⟨rfl, hb2⟩
    go_wp2_with fail
    go_ret
    exact ⟨rfl, hb2⟩
  have hlen : len ≤ 15 := by have := (hr rfl).1; omega
  have HS := Lib.hid (hr rfl).2
  clear hr
  go_wp2_with fail
  refine (new_ok pages _ h1 (by omega)).mono ?_
  rintro e w2 ⟨b, B, rfl, hb, hB, hb2, hm2⟩
  go_wp2_with fail
  have hbl := hm2.lt
  have hBl := hm2.lt'
  refine (rnew_ok (fun j => j = b ∨ j = B) pages _ h1 (by omega) (fun k hk e => by rcases e with e | e <;> omega)).mono ?_
  rintro e w3 ⟨v, rfl, hr3, hb3⟩
  have HR3 := Lib.hid hr3
  obtain ⟨ao3, c3, al3, cl3, rfl, -⟩ := hr3
  have hM3 := hm2.below hb3
  have hB3 := hb2.trans (hb3.mono hb2.size)
  go_wp2_with (first | (go_at_call 11; refine (num_any _ _).mono ?_; rintro e w' ⟨rfl, rfl⟩))
  have hB2 := hb2
  obtain ⟨W0, hW0⟩ : ∃ W0, W0 = w3.alloc (.cells #[.slice (some ao3) (pages * 4096) c3, .slice al3 0 cl3] 52) := ⟨_, rfl⟩
  have hle3 := hb3.size
  have hle2 := hb2.size
  have hI0 : PlayInv w w3.heap.size (pages * 4096) 0 b B (fun _ => 0) [] ao3 c3 al3 cl3 W0 := by
    rw [hW0]
    refine ⟨hM3.alloc _, ((HR3.out.more (T := fun j => j = b ∨ j = B ∨ j = w3.heap.size) (fun j hj e => by rcases e with e | e | e; exact .inl e; exact .inr e; omega)).below ((Below.refl _ _).alloc (Nat.le_refl _) _)), ?_, Nat.le_refl _, hB3.alloc hB3.size _, ⟨hb, hB, by omega, by omega, by omega⟩⟩
    exact World.rowIs_alloc w3 #[.slice (some ao3) (pages * 4096) c3, .slice al3 0 cl3] 52 (fun i => if i = 0 then .slice (some ao3) (pages * 4096) c3 else .slice al3 0 cl3) (fun i hi => by match i, hi with | 0, _ => rfl | 1, _ => rfl)
  have HI0 := Lib.hid hI0
  rw [← hW0]
  clear hW0 hI0 hm2 hM3 hB3 hB2 hb2 hb3 HR3
  go_loopw [7, 11] (fun m i wr => ∃ k b B f L ao c al cl, k ≤ len ∧ m = .pointer (some ⟨b, 0, none⟩) ∧ i = .int .i64 (k : Nat) ∧ PlayInv w w3.heap.size (pages * 4096) k b B f L ao c al cl wr) (fun _ i _ => len - (intOf i).toNat)
  case atStart => exact ⟨0, _, _, _, _, _, _, _, _, Nat.zero_le _, rfl, rfl, HI0.out⟩
  case round =>
    obtain ⟨k, b, B, f, L, ar, c, al, cl, hk, rfl, rfl, hI⟩ := hrel
    obtain ⟨o1, o2, o3, o4, o5⟩ := hI.old
    have HI := Lib.hid hI
    by_cases hlt : k < len
    · have dlt : decide (k < len) = true := decide_eq_true hlt
      have q0 : wr.cell? ⟨w3.heap.size, 0, none⟩ = some (.slice (some ar) (pages * 4096) c) := hI.row.cell (i := 0) (by omega)
      have q1 : wr.cell? ⟨w3.heap.size, 1, none⟩ = some (.slice al L.length cl) := hI.row.cell (i := 1) (by omega)
      obtain ⟨g, o, rfl, hc, hok⟩ := HX.out k hlt
      have hx : ∀ j, j < 5 → wr.cell? ⟨g, o + k * 5 + j, none⟩ = (X k).cells[j]? := fun j hj => by
        have h0 := hc j hj
        rw [← h0]
        have : (X k).cells[j]? ≠ none := by
          match j, hj with
          | 0, _ => exact (fun h => by cases h)
          | 1, _ => exact (fun h => by cases h)
          | 2, _ => exact (fun h => by cases h)
          | 3, _ => exact (fun h => by cases h)
          | 4, _ => exact (fun h => by cases h)
        cases hv : (X k).cells[j]? with
        | none => exact absurd hv this
        | some u => rw [hv] at h0; exact HI.out.below.cell (World.block_lt_of_cell? _ _ h0)
      have hgl : g < w.heap.size := World.block_lt_of_cell? _ _ (hc 0 (by omega))
      have a0 : wr.cell? ⟨g, o + k * 5, none⟩ = some (.int .i64 (X k).what) := hx 0 (by omega)
      have a1 : wr.cell? ⟨g, o + k * 5 + 1, none⟩ = some (.int .i64 (X k).n) := hx 1 (by omega)
      have a2 : wr.cell? ⟨g, o + k * 5 + 2, none⟩ = some (.int .u64 (X k).addr) := hx 2 (by omega)
      have a3 : wr.cell? ⟨g, o + k * 5 + 3, none⟩ = some (.slice (X k).ao (X k).len (X k).cap) := hx 3 (by omega)
      have a4 : wr.cell? ⟨g, o + k * 5 + 4, none⟩ = some (.int .u8 (X k).v) := hx 4 (by omega)
      have hls := HS.out k hlt
      have HOK := Lib.hid hok
      generalize X k = x at *
      have i0 : (0 : Int) ≤ (k : Int) := by omega
      have i1 : (k : Int) < (len : Int) := by omega
      clear hx hc hI HI0
      have hlt3 : w3.heap.size < wr.heap.size := HI.out.row.lt
      have hbl := HI.out.mem.lt
      have hBl := HI.out.mem.lt'
      have hL := HI.out.len
      have KD : Keeps (fun _ => False) wr wr.drew := (Keeps.refl _ wr).drew
      have HM := Lib.hid (HI.out.mem.kept KD (fun e => e) (fun e => e))
      have HR := Lib.hid (HI.out.ref.kept KD (fun _ e => e.elim))
      have HSrc := Lib.hid ((hok.src hls (fun j => j = b ∨ j = B ∨ j = w3.heap.size) (fun j hj e => by rcases e with e | e | e <;> omega)).kept (Keeps.of_below (S := fun j => j = b ∨ j = B ∨ j = w3.heap.size) (a := w) (HI.out.below.drew)) (fun _ e => e))
      clear hok
      go_wp2_with fail
      go_cut [12, 13, 14] from 58 to 79 (fun m12 m13 m14 wc => ∃ b' B' f' L' ao4 c4 al4 cl4 D, m12 = .pointer (some ⟨b', 0, none⟩) ∧ m13 = .pointer (some ⟨D, 0, none⟩) ∧ m14 = .bool true ∧ PlayCut wr w3.heap.size (pages * 4096) (k + 1) b B b' B' f' L' ao4 c4 al4 cl4 D wc)
      case first =>
        go_region_held3 (fun w' => w'.cell? ⟨w3.heap.size, 0, none⟩ = some (.slice (some ar) (pages * 4096) c) ∧ w'.cell? ⟨w3.heap.size, 1, none⟩ = some (.slice al L.length cl) ∧ w'.cell? ⟨g, o + k * 5, none⟩ = some (.int .i64 x.what) ∧ w'.cell? ⟨g, o + k * 5 + 1, none⟩ = some (.int .i64 x.n) ∧ w'.cell? ⟨g, o + k * 5 + 2, none⟩ = some (.int .u64 x.addr) ∧ w'.cell? ⟨g, o + k * 5 + 3, none⟩ = some (.slice x.ao x.len x.cap) ∧ w'.cell? ⟨g, o + k * 5 + 4, none⟩ = some (.int .u8 x.v)) ((refine ⟨Keeps.cell (S := Two b B) ?_ q0 ?_, Keeps.cell (S := Two b B) ?_ q1 ?_, Keeps.cell (S := Two b B) ?_ a0 ?_, Keeps.cell (S := Two b B) ?_ a1 ?_, Keeps.cell (S := Two b B) ?_ a2 ?_, Keeps.cell (S := Two b B) ?_ a3 ?_, Keeps.cell (S := Two b B) ?_ a4 ?_⟩; all_goals first | exact (fun e => by rcases e with e | e <;> simp only [] at e <;> omega) | (repeat (first | assumption | exact Keeps.refl _ _ | refine Keeps.drew ?_ | refine Keeps.alloc ?_ _ | refine Keeps.setNew ?_ (Nat.le_refl _) _ _)))) (first | (go_at_call 21; refine (act_any (fun j => j = b ∨ j = B ∨ j = w3.heap.size) b B _ (pages * 4096) f L x.what x.n x.addr x.ao x.len x.cap x.v wr.drew HM.out HR.out (.inl rfl) (.inr (.inl rfl)) (fun j e => by rcases e with e | e | e <;> (show j < wr.heap.size; omega)) (wf_u64 HOK.out.addr).1 (wf_u64 HOK.out.addr).2 (wf_i64 HOK.out.n).1 (wf_i64 HOK.out.n).2 (by omega) (fun i => x.z.getD i 0) HSrc.out hls HOK.out.nil).mono ?_; rintro e w4 ⟨b', B', f', L', v', rfl, hm4, hr4, hl4, hk4, ho4⟩; have HR4 := Lib.hid hr4; obtain ⟨ao4, c4, al4, cl4, rfl, -⟩ := hr4; have K4 : Keeps (Two b B) wr w4 := Keeps.trans ((Keeps.refl _ wr).drew) hk4; have tok1 : True := trivial) | (go_at_call 21; refine (act_any (fun j => (j = b ∨ j = B ∨ j = w3.heap.size) ∨ j = wr.heap.size) b B _ (pages * 4096) f L x.what x.n x.addr x.ao x.len x.cap x.v _ (HM.out.alloc _) ((HR.out.more (T := fun j => (j = b ∨ j = B ∨ j = w3.heap.size) ∨ j = wr.heap.size) (fun j hj e => e.elim id (fun e => absurd hj (by rw [e]; exact Nat.lt_irrefl _)))).below ((Below.refl _ _).alloc (Nat.le_refl _) _)) (.inl (.inl rfl)) (.inl (.inr (.inl rfl))) (fun j e => by rcases e with (e | e | e) | e <;> (simp; omega)) (wf_u64 HOK.out.addr).1 (wf_u64 HOK.out.addr).2 (wf_i64 HOK.out.n).1 (wf_i64 HOK.out.n).2 (by omega) (fun i => x.z.getD i 0) ((HSrc.out.more (T := fun j => (j = b ∨ j = B ∨ j = w3.heap.size) ∨ j = wr.heap.size) (fun j hj e => e.elim id (fun e => absurd hj (by rw [e]; exact Nat.lt_irrefl _)))).kept ((Keeps.refl (fun _ => False) _).alloc _) (fun _ e => e.elim)) hls HOK.out.nil).mono ?_; rintro e w4 ⟨b', B', f', L', v', rfl, hm4, hr4, hl4, hk4, ho4⟩; have HR4 := Lib.hid hr4; obtain ⟨ao4, c4, al4, cl4, rfl, -⟩ := hr4; have K4 : Keeps (Two b B) wr w4 := Keeps.trans (((Keeps.refl _ wr).drew).alloc _) hk4; have hND : ¬ Two b B wr.heap.size := (fun e => by rcases e with e | e <;> omega); have s0 : w4.cell? ⟨wr.heap.size, 0, none⟩ = some (.slice none 0 0) := hk4.cell (by go_simp) hND; have s1 : w4.cell? ⟨wr.heap.size, 1, none⟩ = some (.slice none 0 0) := hk4.cell (by go_simp) hND; have z0 : w4.frozen? ⟨wr.heap.size, 0, none⟩ = false := hk4.frozen' (by simp) hND (by go_simp); have z1 : w4.frozen? ⟨wr.heap.size, 1, none⟩ = false := hk4.frozen' (by simp) hND (by go_simp)))
        all_goals (go_wp2_with fail)
        · go_meet
          have hw4 := K4.size
          refine ⟨b', B', f', L', ao4, c4, al4, cl4, _, rfl, rfl, rfl, hm4.alloc _, ((HR4.out.more (T := fun j => j = b' ∨ j = B' ∨ j = w3.heap.size) (fun j _ e => by rcases e with e | e | e; exact .inr (.inl e); exact .inr (.inr e); exact .inl (.inr (.inr e)))).below ((Below.refl _ _).alloc (Nat.le_refl _) _)), ?_, by omega, K4.alloc _, hw4, ho4⟩
          exact World.rowIs_alloc w4 #[.slice (some ao4) (pages * 4096) c4, .slice al4 L'.length cl4] 52 (fun i => if i = 0 then .slice (some ao4) (pages * 4096) c4 else .slice al4 L'.length cl4) (fun i hi => by match i, hi with | 0, _ => rfl | 1, _ => rfl)
        · go_meet
          have hsz : (wr.drew.alloc (.cells #[.slice none 0 0, .slice none 0 0] 52)).heap.size = wr.heap.size + 1 := by simp
          rw [hsz] at ho4
          have hr0 := World.rowIs_alloc wr.drew #[.slice none 0 0, .slice none 0 0] 52 (fun _ => .slice none 0 0) (fun i hi => by match i, hi with | 0, _ => rfl | 1, _ => rfl)
          have hr1 : w4.rowIs wr.heap.size 52 2 (fun _ => .slice none 0 0) := hk4.rowIs hr0 hND
          have k5 : Keeps (One wr.heap.size) w4 ((w4.setCell ⟨wr.heap.size, 0, none⟩ (.slice (some ao4) (pages * 4096) c4)).setCell ⟨wr.heap.size, 1, none⟩ (.slice al4 L'.length cl4)) := ((Keeps.refl _ _).set1 _ _).set1 _ _
          refine ⟨b', B', f', L', ao4, c4, al4, cl4, wr.heap.size, rfl, rfl, rfl, hm4.kept k5 (fun e => by have e : b' = wr.heap.size := e; omega) (fun e => by have e : B' = wr.heap.size := e; omega), ((HR4.out.kept k5 (fun j e => .inl (.inr e))).more (T := fun j => j = b' ∨ j = B' ∨ j = w3.heap.size) (fun j _ e => by rcases e with e | e | e; exact .inr (.inl e); exact .inr (.inr e); exact .inl (.inl (.inr (.inr e))))), ?_, by omega, (K4.setNew (Nat.le_refl _) _ _).setNew (Nat.le_refl _) _ _, Nat.le_refl _, by omega⟩
          exact ((hr1.set 0 _).set 1 _).congr fun i hi => by
            match i, hi with
            | 0, _ => rfl
            | 1, _ => rfl
      case rest =>
        obtain ⟨b', B', f', L', ao4, c4, al4, cl4, D, rfl, rfl, rfl, hC⟩ := hcut
        have HC := Lib.hid hC
        have p0 : wc.cell? ⟨D, 0, none⟩ = some (.slice (some ao4) (pages * 4096) c4) := hC.row.cell (i := 0) (by omega)
        have p1 : wc.cell? ⟨D, 1, none⟩ = some (.slice al4 L'.length cl4) := hC.row.cell (i := 1) (by omega)
        have hN : ¬ Two b B w3.heap.size := fun e => by rcases e with e | e <;> omega
        have p2 := hC.keeps.cell q0 hN
        have p3 := hC.keeps.cell q1 hN
        have p4 : wc.frozen? ⟨w3.heap.size, 0, none⟩ = false := hC.keeps.frozen' hlt3 hN (HI.out.row.frozen 0)
        have p5 : wc.frozen? ⟨w3.heap.size, 1, none⟩ = false := hC.keeps.frozen' hlt3 hN (HI.out.row.frozen 1)
        have hD := hC.lt
        clear hC q0 q1 a0 a1 a2 a3 a4
        go_wp2_with fail
        go_region
        go_wp2_with fail
        obtain ⟨w5, hw5⟩ : ∃ w5, w5 = ((wc.setCell ⟨w3.heap.size, 0, none⟩ (.slice (some ao4) (pages * 4096) c4)).setCell ⟨w3.heap.size, 1, none⟩ (.slice al4 L'.length cl4)).drew := ⟨_, rfl⟩
        rw [← hw5]
        have hI5 : PlayInv w w3.heap.size (pages * 4096) (k + 1) b' B' f' L' ao4 c4 al4 cl4 w5 := by
          have k5 : Keeps (One w3.heap.size) wc w5 := by rw [hw5]; exact (((Keeps.refl _ _).set1 _ _).set1 _ _).drew
          have ho := HC.out.old
          have hb' : b' ≠ w3.heap.size ∧ B' ≠ w3.heap.size ∧ w.heap.size ≤ b' ∧ w.heap.size ≤ B' := by
            have := HI.out.below.size
            omega
          refine ⟨HC.out.mem.kept k5 (fun e => hb'.1 e) (fun e => hb'.2.1 e), HC.out.ref.kept k5 (fun j e => .inr (.inr e)), ?_, HC.out.len, ?_, ⟨hb'.2.2.1, hb'.2.2.2, o3, hb'.1, hb'.2.1⟩⟩
          · rw [hw5]
            exact (((((HC.out.keeps.rowIs HI.out.row hN).set 0 _).set 1 _).drew)).congr fun i hi => by
              match i, hi with
              | 0, _ => rfl
              | 1, _ => rfl
          · exact (HI.out.below.trans (HC.out.keeps.below HI.out.below.size (fun j hj e => by rcases e with e | e <;> omega))).trans (k5.below (Nat.le_trans HI.out.below.size HC.out.keeps.size) (fun j hj e => by have e : j = w3.heap.size := e; omega))
        have HI5 := Lib.hid hI5
        have hl5 := hI5.len
        clear hw5 hI5 p0 p1 p2 p3 p4 p5
        refine (is_any _ b' B' _ (pages * 4096) f' L' many w5 HI5.out.mem HI5.out.ref (by omega) hm hm').mono ?_
        rintro e w6 ⟨rfl, hb6⟩
        have hI6 : PlayInv w w3.heap.size (pages * 4096) (k + 1) b' B' f' L' ao4 c4 al4 cl4 w6 :=
          ⟨HI5.out.mem.below hb6, HI5.out.ref.below hb6, HI5.out.row.of_block (hb6.block _ HI5.out.row.lt), HI5.out.len, HI5.out.below.trans (hb6.mono HI5.out.below.size), HI5.out.old⟩
        have HI6 := Lib.hid hI6
        clear hb6 hI6
        go_wp2_with fail
        go_roundw
        case rel => exact ⟨k + 1, _, _, _, _, _, _, _, _, by omega, rfl, by go_num, HI6.out⟩
        case measure => simp [intOf]; omega
    · have hkl : len = k := by omega
      have dlt : decide (k < len) = false := decide_eq_false hlt
      clear hI HI0
      go_wp2_with fail
      refine (works_any _).mono ?_
      rintro e w6 ⟨rfl, hb6⟩
      go_wp2_with fail
      go_ret
      exact ⟨rfl, HI.out.below.trans (hb6.mono HI.out.below.size)⟩

theorem plays_law (pages : Int) (ao : Option Addr) (len cap : Nat) (X : Nat → AV) (many : Int) (w : World) (w0 : (Lit.int .i64 pages).wf = true) (w1 : ActsAt w ao len X) (w2 : (Lit.int .i64 many).wf = true) :
    Calls Try.prog 6 #[.int .i64 pages, .slice ao len cap, .int .i64 many] w fun e w' => e = .returned (.bool true) ∧ Below w.heap.size w w' := by
  by_cases h1 : pages < 1 ∨ 1024 < pages
  · exact plays_err pages many ao len cap X w w1 h1
  by_cases h2 : 4 < pages
  · exact plays_big pages many ao len cap w h2 (by omega)
  obtain ⟨p, rfl⟩ : ∃ p : Nat, pages = p := ⟨pages.toNat, by omega⟩
  exact plays_ok p many ao len cap X w w1 (by omega) (by omega) (wf_i64 w2).1 (wf_i64 w2).2
end Go.Proofs.Ytobbnfdflogicaa
