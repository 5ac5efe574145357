/- memory: the law MemoryCopies returns true and writes to nothing that was there. -/
import Derived.Test.YtobbnfdflogicaaLPlays
namespace Go.Proofs.Ytobbnfdflogicaa
open Go.RowKit
attribute [local go_sem ↓] Go.wp_at_zero Go.wp_at_succ

theorem AV.ok.below {w W : World} {x : AV} (h : x.ok w) (hb : Below w.heap.size w W) : x.ok W := by
  refine ⟨h.what, h.n, h.addr, ?_⟩
  rcases h.row with h | ⟨a, e1, h1, h2, h3, h4, h5⟩
  · exact .inl h
  · exact .inr ⟨a, e1, h1, h2, h3, fun i hi => (hb.cell (World.block_lt_of_cell? _ _ (h4 i hi))).trans (h4 i hi), h5⟩
theorem AV.get (x : AV) (j : Nat) (hj : j < 5) : ∃ u, x.cells[j]? = some u := by
  match j, hj with
  | 0, _ => exact ⟨_, rfl⟩
  | 1, _ => exact ⟨_, rfl⟩
  | 2, _ => exact ⟨_, rfl⟩
  | 3, _ => exact ⟨_, rfl⟩
  | 4, _ => exact ⟨_, rfl⟩
theorem ActsAt.below {w W : World} {ao : Option Addr} {len : Nat} {X : Nat → AV} (h : ActsAt w ao len X) (hb : Below w.heap.size w W) : ActsAt W ao len X := fun i hi => by
  obtain ⟨g, o, e, h1, h2⟩ := h i hi
  refine ⟨g, o, e, fun j hj => ?_, h2.below hb⟩
  obtain ⟨u, hu⟩ := (X i).get j hj
  have := h1 j hj
  rw [hu] at this ⊢
  exact (hb.cell (World.block_lt_of_cell? _ _ this)).trans this

theorem RefAt.conv {S : Nat → Prop} {w W : World} {ao : Addr} {c : Nat} {y : Value} {n : Nat} {f : Nat → Int} {L : List (Nat × Nat)} (h : RefAt S w (.agg #[.slice (some ao) n c, y]) n f L) (hb : Below w.heap.size w W) : (convert 33 9 (.slice (some ao) n c)).run Try.prog W = .ok (.string (strOf n f)) W := by
  obtain ⟨ao', c', al, cl, e, h2, h3, h4, h5, h6, h7, h8⟩ := h
  injection e with e
  injection e with e
  simp only [List.cons.injEq, and_true] at e
  obtain ⟨e1, -⟩ := e
  injection e1 with e1 _ e2
  injection e1 with e1
  subst e1 e2
  refine conv_str _ _ _ _ _ (fun j hj => ?_)
  obtain ⟨g, o, e, -, hx⟩ := h7.at' (by omega)
  simp only [Option.some.injEq] at e
  subst e
  rw [Addr.add_mid]
  exact (hb.cell (World.block_lt_of_cell? _ _ (hx j hj))).trans (hx j hj)

theorem loop_len (bs : ByteArray) : ∀ k i (r : List UInt8), bs.size - i = k → (ByteArray.toList.loop bs i r).length = k + r.length := by
  intro k
  induction k with
  | zero => intro i r h; unfold ByteArray.toList.loop; rw [if_neg (by omega)]; simp
  | succ k ih => intro i r h; unfold ByteArray.toList.loop; rw [if_pos (by omega), ih _ _ (by omega)]; simp; omega
theorem toList_len (bs : ByteArray) : bs.toList.length = bs.size := by
  unfold ByteArray.toList
  rw [loop_len bs bs.size 0 [] (by omega)]; simp
theorem strOf_size (n : Nat) (f : Nat → Int) : (strOf n f).size = n := by simp [strOf, ByteArray.size]
theorem strOf_ne {n m : Nat} (f g : Nat → Int) (h : n ≠ m) : ((strOf n f).toList == (strOf m g).toList) = false := by
  rw [beq_eq_false_iff_ne]
  intro e
  have := congrArg List.length e
  rw [toList_len, toList_len, strOf_size, strOf_size] at this
  exact h this

theorem new_ok' (k : Int) (pages : Nat) (w : World) (hk : k = pages) (h1 : 1 ≤ pages) (h2 : pages ≤ 1024) :
   Calls Try.prog 10 #[.int .i64 k] w fun e w' => ∃ b B, e = .returned (.tuple #[.pointer (some ⟨b, 0, none⟩), .int .i64 0]) ∧ w.heap.size ≤ b ∧ w.heap.size ≤ B ∧ Below w.heap.size w w' ∧
     MemAt w' b B (pages * 4096) (fun _ => 0) [] := by
  subst hk
  exact new_ok pages w h1 h2

theorem row2 (w : World) (x y : Value) : (w.alloc (.cells #[x, y] 52)).rowIs w.heap.size 52 2 (fun i => if i = 0 then x else y) :=
  World.rowIs_alloc w #[x, y] 52 (fun i => if i = 0 then x else y) (fun i hi => by match i, hi with | 0, _ => rfl | 1, _ => rfl)

set_option maxRecDepth 100000 in
set_option maxHeartbeats 2000000 in
theorem copies_short (pages : Int) (ao : Option Addr) (len cap : Nat) (X Y : AV) (w : World) (h : pages < 1 ∨ 2 < pages) :
    Calls Try.prog 7 #[.int .i64 pages, .slice ao len cap, .agg (X.cells ++ Y.cells).toArray] w fun e w' => e = .returned (.bool true) ∧ Below w.heap.size w w' := by
  show Calls Try.prog 7 #[_, _, .agg #[.int .i64 X.what, .int .i64 X.n, .int .u64 X.addr, .slice X.ao X.len X.cap, .int .u8 X.v, .int .i64 Y.what, .int .i64 Y.n, .int .u64 Y.addr, .slice Y.ao Y.len Y.cap, .int .u8 Y.v]] w _
  by_cases h1 : pages < 1
  · have d1 : decide (pages < 1) = true := decide_eq_true h1
    clear h h1
    go_enter Try.func7, Try.ntmps7
    go_wp2_with fail
    refine (works_any _).mono ?_
    rintro e w2 ⟨rfl, hb2⟩
    go_wp2_with fail
    go_ret
    exact ⟨rfl, ((Below.refl _ w).alloc (Nat.le_refl _) _).trans (hb2.mono (by simp))⟩
  · have d1 : decide (pages < 1) = false := decide_eq_false h1
    have d2 : decide (2 < pages) = true := by simp; omega
    clear h h1
    go_enter Try.func7, Try.ntmps7
    go_wp2_with fail
    refine (works_any _).mono ?_
    rintro e w2 ⟨rfl, hb2⟩
    go_wp2_with fail
    go_ret
    exact ⟨rfl, ((Below.refl _ w).alloc (Nat.le_refl _) _).trans (hb2.mono (by simp))⟩

set_option maxRecDepth 100000 in
set_option maxHeartbeats 4000000 in
theorem copies_ok (pages : Nat) (ao : Option Addr) (len cap : Nat) (XX : Nat → AV) (X Y : AV) (w : World) (hX : ActsAt w ao len XX) (hx : X.ok w) (hy : Y.ok w) (h1 : 1 ≤ pages) (h2 : pages ≤ 2) :
    Calls Try.prog 7 #[.int .i64 pages, .slice ao len cap, .agg (X.cells ++ Y.cells).toArray] w fun e w' => e = .returned (.bool true) ∧ Below w.heap.size w w' := by
  show Calls Try.prog 7 #[_, _, .agg #[.int .i64 X.what, .int .i64 X.n, .int .u64 X.addr, .slice X.ao X.len X.cap, .int .u8 X.v, .int .i64 Y.what, .int .i64 Y.n, .int .u64 Y.addr, .slice Y.ao Y.len Y.cap, .int .u8 Y.v]] w _
  have HX0 := Lib.hid hX
  have HXo := Lib.hid hx
  have HYo := Lib.hid hy
  clear hX hx hy
  have d1 : decide ((pages : Int) < 1) = false := by simp; omega
  have d2 : decide ((2 : Int) < (pages : Int)) = false := by simp; omega
  go_enter Try.func7, Try.ntmps7
  go_wp2_with fail
  obtain ⟨w1, hw1⟩ : ∃ w1, w1 = w.alloc (.cells #[.int .i64 X.what, .int .i64 X.n, .int .u64 X.addr, .slice X.ao X.len X.cap, .int .u8 X.v, .int .i64 Y.what, .int .i64 Y.n, .int .u64 Y.addr, .slice Y.ao Y.len Y.cap, .int .u8 Y.v] 61) := ⟨_, rfl⟩
  rw [← hw1]
  have hb1 : Below w.heap.size w w1 := by rw [hw1]; exact (Below.refl _ w).alloc (Nat.le_refl _) _
  have hbox : w1.rowIs w.heap.size 61 10 (fun i => (X.cells ++ Y.cells).getD i undef) := by
    rw [hw1]
    exact World.rowIs_alloc w #[.int .i64 X.what, .int .i64 X.n, .int .u64 X.addr, .slice X.ao X.len X.cap, .int .u8 X.v, .int .i64 Y.what, .int .i64 Y.n, .int .u64 Y.addr, .slice Y.ao Y.len Y.cap, .int .u8 Y.v] 61 (fun i => (X.cells ++ Y.cells).getD i undef) (fun i hi => by match i, hi with | 0, _ => rfl | 1, _ => rfl | 2, _ => rfl | 3, _ => rfl | 4, _ => rfl | 5, _ => rfl | 6, _ => rfl | 7, _ => rfl | 8, _ => rfl | 9, _ => rfl)
  have hlt1 : w.heap.size < w1.heap.size := hbox.lt
  clear hw1
  have HX := Lib.hid (HX0.out.below hb1)
  have HXk := Lib.hid (HXo.out.below hb1)
  have HYk := Lib.hid (HYo.out.below hb1)
  have HB1 := Lib.hid hb1
  have HBOX := Lib.hid hbox
  clear HX0 HXo HYo hb1 hbox
  refine (few_any ao len cap 8 (by omega) (fun i => (XX i).ao) (fun i => (XX i).len) (fun i => (XX i).cap) w1 HX.out.few).mono ?_
  rintro e w2 ⟨r, rfl, hr, rfl⟩
  cases r
  · go_wp2_with fail
    refine (works_any _).mono ?_
    rintro e w2 ⟨rfl, hb2⟩
    go_wp2_with fail
    go_ret
    exact ⟨rfl, HB1.out.trans (hb2.mono HB1.out.size)⟩
  have hlen : len ≤ 8 := by have := (hr rfl).1; omega
  have HS := Lib.hid (hr rfl).2
  clear hr
  have e3 : w1.cell? ⟨w.heap.size, 3, none⟩ = some (.slice X.ao X.len X.cap) := HBOX.out.cell (i := 3) (by omega)
  have e8 : w1.cell? ⟨w.heap.size, 8, none⟩ = some (.slice Y.ao Y.len Y.cap) := HBOX.out.cell (i := 8) (by omega)
  go_wp2_with fail
  refine (few_any (some ⟨w.heap.size, 0, none⟩) 2 2 2 (by omega) (fun i => if i = 0 then X.ao else Y.ao) (fun i => if i = 0 then X.len else Y.len) (fun i => if i = 0 then X.cap else Y.cap) w1 (fun i hi => ⟨_, _, rfl, by match i, hi with | 0, _ => exact e3 | 1, _ => exact e8⟩)).mono ?_
  rintro e w2 ⟨r, rfl, hr, rfl⟩
  cases r
  · go_wp2_with fail
    refine (works_any _).mono ?_
    rintro e w2 ⟨rfl, hb2⟩
    go_wp2_with fail
    go_ret
    exact ⟨rfl, HB1.out.trans (hb2.mono HB1.out.size)⟩
  have hxl : X.len ≤ 5000 := (hr rfl).2 0 (by omega)
  have hyl : Y.len ≤ 5000 := (hr rfl).2 1 (by omega)
  clear hr e3 e8
  go_wp2_with fail
  refine (new_ok pages _ h1 (by omega)).mono ?_
  rintro e w2 ⟨b, B, rfl, hb, hB, hb2, hm2⟩
  go_wp2_with fail
  have hbl := hm2.lt
  have hBl := hm2.lt'
  refine (rnew_ok (fun j => j = b ∨ j = B) pages _ h1 (by omega) (fun k hk e => by rcases e with e | e <;> omega)).mono ?_
  rintro e w3 ⟨v, rfl, hr3, hb3⟩
  have HR3 := Lib.hid hr3
  obtain ⟨ao3, c3, al3, cl3, rfl, -⟩ := hr3
  have hM3 := hm2.below hb3
  have hB3 := hb2.trans (hb3.mono hb2.size)
  go_wp2_with fail
  have hB2 := hb2
  obtain ⟨W0, hW0⟩ : ∃ W0, W0 = w3.alloc (.cells #[.slice (some ao3) (pages * 4096) c3, .slice al3 0 cl3] 52) := ⟨_, rfl⟩
  have hle3 := hb3.size
  have hle2 := hb2.size
  have hI0 : PlayInv w1 w3.heap.size (pages * 4096) 0 b B (fun _ => 0) [] ao3 c3 al3 cl3 W0 := by
    rw [hW0]
    refine ⟨hM3.alloc _, ((HR3.out.more (T := fun j => j = b ∨ j = B ∨ j = w3.heap.size) (fun j hj e => by rcases e with e | e | e; exact .inl e; exact .inr e; omega)).below ((Below.refl _ _).alloc (Nat.le_refl _) _)), ?_, Nat.le_refl _, hB3.alloc hB3.size _, ⟨hb, hB, by omega, by omega, by omega⟩⟩
    exact World.rowIs_alloc w3 #[.slice (some ao3) (pages * 4096) c3, .slice al3 0 cl3] 52 (fun i => if i = 0 then .slice (some ao3) (pages * 4096) c3 else .slice al3 0 cl3) (fun i hi => by match i, hi with | 0, _ => rfl | 1, _ => rfl)
  have HI0 := Lib.hid hI0
  rw [← hW0]
  clear hW0 hI0 hm2 hM3 hB3 hB2 hb2 hb3 HR3
  go_loopw [7, 11] (fun m i wr => ∃ k b B f L ao c al cl, k ≤ len ∧ m = .pointer (some ⟨b, 0, none⟩) ∧ i = .int .i64 (k : Nat) ∧ PlayInv w1 w3.heap.size (pages * 4096) k b B f L ao c al cl wr) (fun _ i _ => len - (intOf i).toNat)
  case atStart => exact ⟨0, _, _, _, _, _, _, _, _, Nat.zero_le _, rfl, rfl, HI0.out⟩
  case round =>
    obtain ⟨k, b, B, f, L, ar, c, al, cl, hk, rfl, rfl, hI⟩ := hrel
    obtain ⟨o1, o2, o3, o4, o5⟩ := hI.old
    have HI := Lib.hid hI
    by_cases hlt : k < len
    · have dlt : decide (k < len) = true := decide_eq_true hlt
      have q0 : wr.cell? ⟨w3.heap.size, 0, none⟩ = some (.slice (some ar) (pages * 4096) c) := hI.row.cell (i := 0) (by omega)
      have q1 : wr.cell? ⟨w3.heap.size, 1, none⟩ = some (.slice al L.length cl) := hI.row.cell (i := 1) (by omega)
      obtain ⟨g, o, rfl, hc, hok⟩ := HX.out k hlt
      have hx : ∀ j, j < 5 → wr.cell? ⟨g, o + k * 5 + j, none⟩ = (XX k).cells[j]? := fun j hj => by
        have h0 := hc j hj
        obtain ⟨u, hu⟩ := (XX k).get j hj
        rw [hu] at h0 ⊢
        exact (HI.out.below.cell (World.block_lt_of_cell? _ _ h0)).trans h0
      have hgl : g < w1.heap.size := by
        obtain ⟨u, hu⟩ := (XX k).get 0 (by omega)
        have h0 := hc 0 (by omega)
        rw [hu] at h0
        exact World.block_lt_of_cell? _ _ h0
      have a0 : wr.cell? ⟨g, o + k * 5, none⟩ = some (.int .i64 (XX k).what) := hx 0 (by omega)
      have a1 : wr.cell? ⟨g, o + k * 5 + 1, none⟩ = some (.int .i64 (XX k).n) := hx 1 (by omega)
      have a2 : wr.cell? ⟨g, o + k * 5 + 2, none⟩ = some (.int .u64 (XX k).addr) := hx 2 (by omega)
      have a3 : wr.cell? ⟨g, o + k * 5 + 3, none⟩ = some (.slice (XX k).ao (XX k).len (XX k).cap) := hx 3 (by omega)
      have a4 : wr.cell? ⟨g, o + k * 5 + 4, none⟩ = some (.int .u8 (XX k).v) := hx 4 (by omega)
      have hls := HS.out k hlt
      have HOK := Lib.hid hok
      generalize XX k = x at *
      have i0 : (0 : Int) ≤ (k : Int) := by omega
      have i1 : (k : Int) < (len : Int) := by omega
      clear hx hc hI HI0
      have hlt3 : w3.heap.size < wr.heap.size := HI.out.row.lt
      have hbl := HI.out.mem.lt
      have hBl := HI.out.mem.lt'
      have hL := HI.out.len
      have KD : Keeps (fun _ => False) wr wr.drew := (Keeps.refl _ wr).drew
      have HM := Lib.hid (HI.out.mem.kept KD (fun e => e) (fun e => e))
      have HR := Lib.hid (HI.out.ref.kept KD (fun _ e => e.elim))
      have HSrc := Lib.hid ((hok.src hls (fun j => j = b ∨ j = B ∨ j = w3.heap.size) (fun j hj e => by rcases e with e | e | e <;> omega)).kept (Keeps.of_below (S := fun j => j = b ∨ j = B ∨ j = w3.heap.size) (a := w1) (HI.out.below.drew)) (fun _ e => e))
      have z0 := HI.out.row.frozen 0
      have z1 := HI.out.row.frozen 1
      clear hok
      go_wp2_with fail
      go_region_with ((go_at_call 21; refine (act_any (fun j => j = b ∨ j = B ∨ j = w3.heap.size) b B _ (pages * 4096) f L x.what x.n x.addr x.ao x.len x.cap x.v wr.drew HM.out HR.out (.inl rfl) (.inr (.inl rfl)) (fun j e => by rcases e with e | e | e <;> (show j < wr.heap.size; omega)) (wf_u64 HOK.out.addr).1 (wf_u64 HOK.out.addr).2 (wf_i64 HOK.out.n).1 (wf_i64 HOK.out.n).2 (by omega) (fun i => x.z.getD i 0) HSrc.out hls HOK.out.nil).mono ?_; rintro e w4 ⟨b', B', f', L', v', rfl, hm4, hr4, hl4, hk4, ho4⟩; have HR4 := Lib.hid hr4; obtain ⟨ao4, c4, al4, cl4, rfl, -⟩ := hr4; have hN : ¬ Two b B w3.heap.size := (fun e => by rcases e with e | e <;> omega); have s0 : w4.cell? ⟨w3.heap.size, 0, none⟩ = some (.slice (some ar) (pages * 4096) c) := hk4.cell (by go_simp) hN; have s1 : w4.cell? ⟨w3.heap.size, 1, none⟩ = some (.slice al L.length cl) := hk4.cell (by go_simp) hN; have z0 : w4.frozen? ⟨w3.heap.size, 0, none⟩ = false := hk4.frozen' hlt3 hN (by go_simp); have z1 : w4.frozen? ⟨w3.heap.size, 1, none⟩ = false := hk4.frozen' hlt3 hN (by go_simp)))
      all_goals
        obtain ⟨w5, hw5⟩ : ∃ w5, w5 = ((w4.setCell ⟨w3.heap.size, 0, none⟩ (.slice (some ao4) (pages * 4096) c4)).setCell ⟨w3.heap.size, 1, none⟩ (.slice al4 L'.length cl4)) := ⟨_, rfl⟩
        rw [← hw5]
        have hI5 : PlayInv w1 w3.heap.size (pages * 4096) (k + 1) b' B' f' L' ao4 c4 al4 cl4 w5 := by
          have k5 : Keeps (One w3.heap.size) w4 w5 := by rw [hw5]; exact ((Keeps.refl _ _).set1 _ _).set1 _ _
          have hbs := HI.out.below.size
          have ho : (b' = b ∧ B' = B) ∨ (wr.heap.size ≤ b' ∧ wr.heap.size ≤ B') := ho4
          have hb' : b' ≠ w3.heap.size ∧ B' ≠ w3.heap.size ∧ w1.heap.size ≤ b' ∧ w1.heap.size ≤ B' := by omega
          have hk4' : Keeps (Two b B) wr w4 := Keeps.trans ((Keeps.refl _ wr).drew) hk4
          refine ⟨hm4.kept k5 (fun e => hb'.1 e) (fun e => hb'.2.1 e), (HR4.out.kept k5 (fun j e => .inl (.inr (.inr e)))).more (fun j _ e => by rcases e with e | e | e; exact .inr (.inl e); exact .inr (.inr e); exact .inl (.inr (.inr e))), ?_, by omega, ?_, ⟨hb'.2.2.1, hb'.2.2.2, o3, hb'.1, hb'.2.1⟩⟩
          · rw [hw5]
            exact ((((hk4'.rowIs HI.out.row hN).set 0 _).set 1 _)).congr fun i hi => by
              match i, hi with
              | 0, _ => rfl
              | 1, _ => rfl
          · exact (HI.out.below.trans (hk4'.below HI.out.below.size (fun j hj e => by rcases e with e | e <;> omega))).trans (k5.below (Nat.le_trans HI.out.below.size hk4'.size) (fun j hj e => by have e : j = w3.heap.size := e; omega))
        have HI5 := Lib.hid hI5
        clear hw5 hI5 s0 s1 z0 z1 hm4 ho4 hk4 hl4
        go_wp2_with fail
        go_roundw
        case rel => exact ⟨k + 1, _, _, _, _, _, _, _, _, by omega, rfl, by go_num, HI5.out⟩
        case measure => simp [intOf]; omega
    · have hkl : len = k := by omega
      have dlt : decide (k < len) = false := decide_eq_false hlt
      clear hI HI0
      have hLk := HI.out.len
      have hCl : w3.heap.size < wr.heap.size := HI.out.row.lt
      have hblr := HI.out.mem.lt
      have hBlr := HI.out.mem.lt'
      have hbs := HI.out.below.size
      go_wp2_with fail
      refine (copy_ok b B (pages * 4096) f L wr HI.out.mem).mono ?_
      rintro e w4 ⟨b2, B2, rfl, hb2, hB2, hb4, hm4⟩
      have hM4 := HI.out.mem.below hb4
      have HM4 := Lib.hid hM4
      have HO4 := Lib.hid hm4
      have HB4 := Lib.hid (HI.out.below.trans (hb4.mono HI.out.below.size))
      have HR4 := Lib.hid ((HI.out.ref.more (T := fun j => (j = b ∨ j = B ∨ j = b2 ∨ j = B2) ∨ j = w3.heap.size) (fun j hj e => by rcases e with (e | e | e | e) | e; exact .inl e; exact .inr (.inl e); omega; omega; exact .inr (.inr e))).below hb4)
      have HROW4 := Lib.hid (HI.out.row.of_block (hb4.block _ hCl))
      have hw4s := hb4.size
      have hob := hm4.lt
      have hoB := hm4.lt'
      clear hb4 hM4 hm4
      go_wp2_with (first | (go_at_call 11; refine (num_any _ _).mono ?_; rintro e w' ⟨rfl, rfl⟩))
      refine (same_ok_ok b B _ b2 B2 _ f f L L w4 HM4.out HO4.out).mono ?_
      rw [beq_self_eq_true]
      rintro e w5 ⟨rfl, hb5⟩
      have HM5 := Lib.hid (HM4.out.below hb5)
      have HO5 := Lib.hid (HO4.out.below hb5)
      have HR5 := Lib.hid (HR4.out.below hb5)
      have hrow5 := HROW4.out.of_block (hb5.block _ HROW4.out.lt)
      have q0 : w5.cell? ⟨w3.heap.size, 0, none⟩ = some (.slice (some ar) (pages * 4096) c) := hrow5.cell (i := 0) (by omega)
      have q1 : w5.cell? ⟨w3.heap.size, 1, none⟩ = some (.slice al L.length cl) := hrow5.cell (i := 1) (by omega)
      have HB5 := Lib.hid (HB4.out.trans (hb5.mono HB4.out.size))
      have hbox5 := HBOX.out.of_block (HB5.out.block _ hlt1)
      have a0 : w5.cell? ⟨w.heap.size, 0, none⟩ = some (.int .i64 X.what) := hbox5.cell (i := 0) (by omega)
      have a1 : w5.cell? ⟨w.heap.size, 1, none⟩ = some (.int .i64 X.n) := hbox5.cell (i := 1) (by omega)
      have a2 : w5.cell? ⟨w.heap.size, 2, none⟩ = some (.int .u64 X.addr) := hbox5.cell (i := 2) (by omega)
      have a3 : w5.cell? ⟨w.heap.size, 3, none⟩ = some (.slice X.ao X.len X.cap) := hbox5.cell (i := 3) (by omega)
      have a4 : w5.cell? ⟨w.heap.size, 4, none⟩ = some (.int .u8 X.v) := hbox5.cell (i := 4) (by omega)
      have HROW5 := Lib.hid hrow5
      have hw5s := hb5.size
      clear hb5 hrow5 hbox5
      go_wp2_with fail
      refine (act_any (fun j => (j = b ∨ j = B ∨ j = b2 ∨ j = B2) ∨ j = w3.heap.size) b B _ (pages * 4096) f L X.what X.n X.addr X.ao X.len X.cap X.v w5 HM5.out HR5.out (.inl (.inl rfl)) (.inl (.inr (.inl rfl))) (fun j e => by rcases e with (e | e | e | e) | e <;> omega) (wf_u64 HXk.out.addr).1 (wf_u64 HXk.out.addr).2 (wf_i64 HXk.out.n).1 (wf_i64 HXk.out.n).2 (by omega) (fun i => X.z.getD i 0)
        ((HXk.out.src hxl (fun j => (j = b ∨ j = B ∨ j = b2 ∨ j = B2) ∨ j = w3.heap.size) (fun j hj e => by rcases e with (e | e | e | e) | e <;> omega)).kept (Keeps.of_below (S := fun _ => False) HB5.out) (fun _ e => e.elim)) hxl HXk.out.nil).mono ?_
      rintro e w6 ⟨b', B', f1, L1, v1, rfl, hm6, hr6, hl6, hk6, ho6⟩
      have HM6 := Lib.hid hm6
      have HR6 := Lib.hid hr6
      have HK6 := Lib.hid hk6
      obtain ⟨ao1, c1, al1, cl1, rfl, -⟩ := hr6
      have hNC : ¬ Two b B w3.heap.size := fun e => by rcases e with e | e <;> omega
      have hNw : ¬ Two b B w.heap.size := fun e => by rcases e with e | e <;> omega
      have q0 := hk6.cell q0 hNC
      have q1 := hk6.cell q1 hNC
      have hbox6 : w6.rowIs w.heap.size 61 10 (fun i => (X.cells ++ Y.cells).getD i undef) := hk6.rowIs (HBOX.out.of_block (HB5.out.block _ hlt1)) hNw
      have y0 : w6.cell? ⟨w.heap.size, 5, none⟩ = some (.int .i64 Y.what) := hbox6.cell (i := 5) (by omega)
      have y1 : w6.cell? ⟨w.heap.size, 6, none⟩ = some (.int .i64 Y.n) := hbox6.cell (i := 6) (by omega)
      have y2 : w6.cell? ⟨w.heap.size, 7, none⟩ = some (.int .u64 Y.addr) := hbox6.cell (i := 7) (by omega)
      have y3 : w6.cell? ⟨w.heap.size, 8, none⟩ = some (.slice Y.ao Y.len Y.cap) := hbox6.cell (i := 8) (by omega)
      have y4 : w6.cell? ⟨w.heap.size, 9, none⟩ = some (.int .u8 Y.v) := hbox6.cell (i := 9) (by omega)
      have hw6s := hk6.size
      have hml6 := hm6.lt
      have hml6' := hm6.lt'
      have hC6 : w3.heap.size < w6.heap.size := by omega
      have hw6l : w.heap.size < w6.heap.size := by omega
      clear hm6 hk6 hbox6 a0 a1 a2 a3 a4
      go_wp2_with fail
      obtain ⟨w7, hw7⟩ : ∃ w7, w7 = w6.alloc (.cells #[.slice (some ao1) (pages * 4096) c1, .slice al1 L1.length cl1] 52) := ⟨_, rfl⟩
      rw [← hw7]
      have hb67 : Below w6.heap.size w6 w7 := by rw [hw7]; exact (Below.refl _ _).alloc (Nat.le_refl _) _
      have hD1 : w7.rowIs w6.heap.size 52 2 (fun i => if i = 0 then .slice (some ao1) (pages * 4096) c1 else .slice al1 L1.length cl1) := by rw [hw7]; exact row2 _ _ _
      have hs7 : w7.heap.size = w6.heap.size + 1 := by rw [hw7]; simp
      clear hw7
      have HB17 : Hid (Below w1.heap.size w1 w7) := Lib.hid ((HB5.out.trans (HK6.out.below HB5.out.size (fun j hj e => by rcases e with e | e <;> omega))).trans (hb67.mono (Nat.le_trans HB5.out.size hw6s)))
      have HM7 := Lib.hid (HM6.out.below hb67)
      have HRx7 := Lib.hid (HR6.out.below hb67)
      have HO7 := Lib.hid ((HO5.out.kept HK6.out (fun e => by rcases e with e | e <;> omega) (fun e => by rcases e with e | e <;> omega)).below hb67)
      have HRw7 := Lib.hid (((HR5.out.more (T := fun j => ((j = b ∨ j = B ∨ j = b2 ∨ j = B2) ∨ j = w3.heap.size) ∨ j = b' ∨ j = B' ∨ j = w6.heap.size) (fun j hj e => by
        rcases e with e | e | e | e
        · exact e
        · rcases ho6 with ⟨h, -⟩ | ⟨h, -⟩
          · exact .inl (.inl (by omega))
          · omega
        · rcases ho6 with ⟨-, h⟩ | ⟨-, h⟩
          · exact .inl (.inr (.inl (by omega)))
          · omega
        · omega)).kept HK6.out (fun j e => by
        rcases e with e | e
        · exact .inl (.inl (.inl e))
        · exact .inl (.inl (.inr (.inl e))))).below hb67)
      have HD1 := Lib.hid hD1
      clear hb67 hD1 q0 q1 y0 y1 y2 y3 y4
      refine (act_any (fun j => ((j = b ∨ j = B ∨ j = b2 ∨ j = B2) ∨ j = w3.heap.size) ∨ j = b' ∨ j = B' ∨ j = w6.heap.size) b2 B2 _ (pages * 4096) f L Y.what Y.n Y.addr Y.ao Y.len Y.cap Y.v w7 HO7.out HRw7.out (.inl (.inl (.inr (.inr (.inl rfl))))) (.inl (.inl (.inr (.inr (.inr rfl))))) (fun j e => by rcases e with ((e | e | e | e) | e) | e | e | e <;> omega) (wf_u64 HYk.out.addr).1 (wf_u64 HYk.out.addr).2 (wf_i64 HYk.out.n).1 (wf_i64 HYk.out.n).2 (by omega) (fun i => Y.z.getD i 0)
        ((HYk.out.src hyl (fun j => ((j = b ∨ j = B ∨ j = b2 ∨ j = B2) ∨ j = w3.heap.size) ∨ j = b' ∨ j = B' ∨ j = w6.heap.size) (fun j hj e => by rcases e with ((e | e | e | e) | e) | e | e | e <;> omega)).kept (Keeps.of_below (S := fun _ => False) HB17.out) (fun _ e => e.elim)) hyl HYk.out.nil).mono ?_
      rintro e w8 ⟨b3, B3, f2, L2, v2, rfl, hm8, hr8, hl8, hk8, ho8⟩
      have HO8 := Lib.hid hm8
      have HRy8 := Lib.hid hr8
      obtain ⟨ao2, c2, al2, cl2, rfl, -⟩ := hr8
      have HM8 := Lib.hid (HM7.out.kept hk8 (fun e => by rcases e with e | e <;> omega) (fun e => by rcases e with e | e <;> omega))
      have HRx8 := Lib.hid (HRx7.out.kept hk8 (fun j e => by
        rcases e with e | e
        · exact .inl (.inl (.inr (.inr (.inl e))))
        · exact .inl (.inl (.inr (.inr (.inr e))))))
      have HD18 := Lib.hid (hk8.rowIs HD1.out (fun e => by rcases e with e | e <;> omega))
      have HB18 := Lib.hid (HB17.out.trans (hk8.below HB17.out.size (fun j hj e => by rcases e with e | e <;> omega)))
      clear hm8 hk8
      go_wp2_with fail
      obtain ⟨w9, hw9⟩ : ∃ w9, w9 = w8.alloc (.cells #[.slice (some ao2) (pages * 4096) c2, .slice al2 L2.length cl2] 52) := ⟨_, rfl⟩
      rw [← hw9]
      have hb89 : Below w8.heap.size w8 w9 := by rw [hw9]; exact (Below.refl _ _).alloc (Nat.le_refl _) _
      have hD2 : w9.rowIs w8.heap.size 52 2 (fun i => if i = 0 then .slice (some ao2) (pages * 4096) c2 else .slice al2 L2.length cl2) := by rw [hw9]; exact row2 _ _ _
      clear hw9
      refine (new_ok pages w9 h1 (by omega)).mono ?_
      rintro e w10 ⟨bf, Bf, rfl, -, -, hb910, hmf⟩
      go_wp2_with fail
      refine (new_ok' _ (3 - pages) w10 (by omega) (by omega) (by omega)).mono ?_
      rintro e w11 ⟨bo, Bo, rfl, -, -, hb1011, hmo⟩
      go_wp2_with fail
      refine (rnew_ok (fun _ => False) pages w11 h1 (by omega) (fun _ _ e => e)).mono ?_
      rintro e w12 ⟨vz, rfl, hrz, hb1112⟩
      have HRz := Lib.hid hrz
      obtain ⟨aoz, cz, alz, clz, rfl, -⟩ := hrz
      go_wp2_with fail
      obtain ⟨W, hW⟩ : ∃ W, W = w12.alloc (.cells #[.slice (some aoz) (pages * 4096) cz, .slice alz 0 clz] 52) := ⟨_, rfl⟩
      rw [← hW]
      have hbW : Below w12.heap.size w12 W := by rw [hW]; exact (Below.refl _ _).alloc (Nat.le_refl _) _
      have hDz : W.rowIs w12.heap.size 52 2 (fun i => if i = 0 then .slice (some aoz) (pages * 4096) cz else .slice alz 0 clz) := by rw [hW]; exact row2 _ _ _
      clear hW
      have h11W : Below w11.heap.size w11 W := hb1112.trans (hbW.mono hb1112.size)
      have h10W : Below w10.heap.size w10 W := hb1011.trans (h11W.mono hb1011.size)
      have h9W : Below w9.heap.size w9 W := hb910.trans (h10W.mono hb910.size)
      have h8W : Below w8.heap.size w8 W := hb89.trans (h9W.mono hb89.size)
      have HBW : Hid (Below w.heap.size w W) := Lib.hid (HB1.out.trans ((HB18.out.trans (h8W.mono HB18.out.size)).mono HB1.out.size))
      have HMW := Lib.hid (HM8.out.below h8W)
      have HOW := Lib.hid (HO8.out.below h8W)
      have HRxW := Lib.hid (HRx8.out.below h8W)
      have HRyW := Lib.hid (HRy8.out.below h8W)
      have HRzW := Lib.hid (HRz.out.below hbW)
      have HfW := Lib.hid (hmf.below h10W)
      have HoW := Lib.hid (hmo.below h11W)
      have hD1W := HD18.out.of_block (h8W.block _ HD18.out.lt)
      have hD2W := hD2.of_block (h9W.block _ hD2.lt)
      have t0 : W.cell? ⟨w6.heap.size, 0, none⟩ = some (.slice (some ao1) (pages * 4096) c1) := hD1W.cell (i := 0) (by omega)
      have t1 : W.cell? ⟨w6.heap.size, 1, none⟩ = some (.slice al1 L1.length cl1) := hD1W.cell (i := 1) (by omega)
      have t2 : W.cell? ⟨w8.heap.size, 0, none⟩ = some (.slice (some ao2) (pages * 4096) c2) := hD2W.cell (i := 0) (by omega)
      have t3 : W.cell? ⟨w8.heap.size, 1, none⟩ = some (.slice al2 L2.length cl2) := hD2W.cell (i := 1) (by omega)
      have t4 : W.cell? ⟨w12.heap.size, 0, none⟩ = some (.slice (some aoz) (pages * 4096) cz) := hDz.cell (i := 0) (by omega)
      clear hb89 hD2 hb910 hmf hb1011 hmo hb1112 hbW hDz h11W h10W h9W h8W hD1W hD2W
      obtain ⟨n, hn⟩ : ∃ n, n = pages * 4096 := ⟨_, rfl⟩
      have hn3 : n ≠ (3 - pages) * 4096 := by omega
      rw [← hn] at HMW HOW HRxW HRyW HRzW HfW t0 t2 t4
      have hQ0 : ∀ p : InC (Below W.heap.size W), p.w.cell? ⟨w6.heap.size, 0, none⟩ = some (.slice (some ao1) n c1) := fun p => (p.ok.cell (World.block_lt_of_cell? _ _ t0)).trans t0
      have hQ1 : ∀ p : InC (Below W.heap.size W), p.w.cell? ⟨w6.heap.size, 1, none⟩ = some (.slice al1 L1.length cl1) := fun p => (p.ok.cell (World.block_lt_of_cell? _ _ t1)).trans t1
      have hQ2 : ∀ p : InC (Below W.heap.size W), p.w.cell? ⟨w8.heap.size, 0, none⟩ = some (.slice (some ao2) n c2) := fun p => (p.ok.cell (World.block_lt_of_cell? _ _ t2)).trans t2
      have hQ3 : ∀ p : InC (Below W.heap.size W), p.w.cell? ⟨w8.heap.size, 1, none⟩ = some (.slice al2 L2.length cl2) := fun p => (p.ok.cell (World.block_lt_of_cell? _ _ t3)).trans t3
      have hQ4 : ∀ p : InC (Below W.heap.size W), p.w.cell? ⟨w12.heap.size, 0, none⟩ = some (.slice (some aoz) n cz) := fun p => (p.ok.cell (World.block_lt_of_cell? _ _ t4)).trans t4
      obtain ⟨s1, hs1⟩ : ∃ s, s = strOf n f1 := ⟨_, rfl⟩
      obtain ⟨s2, hs2⟩ : ∃ s, s = strOf n f2 := ⟨_, rfl⟩
      obtain ⟨s3, hs3⟩ : ∃ s, s = strOf n (fun _ => 0) := ⟨_, rfl⟩
      have hC1 : ∀ p : InC (Below W.heap.size W), (convert 33 9 (.slice (some ao1) n c1)).run Try.prog p.w = .ok (.string s1) p.w := fun p => by rw [hs1]; exact HRxW.out.conv p.ok
      have hC2 : ∀ p : InC (Below W.heap.size W), (convert 33 9 (.slice (some ao2) n c2)).run Try.prog p.w = .ok (.string s2) p.w := fun p => by rw [hs2]; exact HRyW.out.conv p.ok
      have hC3 : ∀ p : InC (Below W.heap.size W), (convert 33 9 (.slice (some aoz) n cz)).run Try.prog p.w = .ok (.string s3) p.w := fun p => by rw [hs3]; exact HRzW.out.conv p.ok
      have lift : ∀ {f : FuncId} {args : Array Value} {v : Value} (p : InC (Below W.heap.size W)), Calls Try.prog f args p.w (fun e w' => e = .returned v ∧ Below p.w.heap.size p.w w') → Calls Try.prog f args p.w (fun e w' => e = .returned v ∧ Below W.heap.size W w') := fun p h => h.mono fun e w' ⟨h1, h2⟩ => ⟨h1, p.ok.trans (h2.mono p.ok.size)⟩
      have HIx : Hid (∀ p : InC (Below W.heap.size W), Calls Try.prog 22 #[.pointer (some ⟨b', 0, none⟩), .agg #[.slice (some ao1) n c1, .slice al1 L1.length cl1], .int .i64 999] p.w fun e w' => e = .returned (.bool true) ∧ Below W.heap.size W w') :=
        Lib.hid fun p => lift p (is_any _ b' B' _ n f1 L1 999 p.w (HMW.out.below p.ok) (HRxW.out.below p.ok) (by omega) (by omega) (by omega))
      have HIy : Hid (∀ p : InC (Below W.heap.size W), Calls Try.prog 22 #[.pointer (some ⟨b3, 0, none⟩), .agg #[.slice (some ao2) n c2, .slice al2 L2.length cl2], .int .i64 999] p.w fun e w' => e = .returned (.bool true) ∧ Below W.heap.size W w') :=
        Lib.hid fun p => lift p (is_any _ b3 B3 _ n f2 L2 999 p.w (HOW.out.below p.ok) (HRyW.out.below p.ok) (by omega) (by omega) (by omega))
      have HS1 : Hid (∀ p : InC (Below W.heap.size W), Calls Try.prog 24 #[.pointer (some ⟨b', 0, none⟩), .pointer (some ⟨b3, 0, none⟩)] p.w fun e w' => e = .returned (.bool (s1.toList == s2.toList)) ∧ Below W.heap.size W w') :=
        Lib.hid fun p => lift p (by rw [hs1, hs2]; exact same_ok_ok b' B' n b3 B3 n f1 f2 L1 L2 p.w (HMW.out.below p.ok) (HOW.out.below p.ok))
      have HS2 : Hid (∀ p : InC (Below W.heap.size W), Calls Try.prog 24 #[.pointer (some ⟨b', 0, none⟩), .pointer (some ⟨bf, 0, none⟩)] p.w fun e w' => e = .returned (.bool (s1.toList == s3.toList)) ∧ Below W.heap.size W w') :=
        Lib.hid fun p => lift p (by rw [hs1, hs3]; exact same_ok_ok b' B' n bf Bf n f1 _ L1 [] p.w (HMW.out.below p.ok) (HfW.out.below p.ok))
      have HS3 : Hid (∀ p : InC (Below W.heap.size W), Calls Try.prog 24 #[.pointer (some ⟨b', 0, none⟩), .pointer (some ⟨bo, 0, none⟩)] p.w fun e w' => e = .returned (.bool false) ∧ Below W.heap.size W w') :=
        Lib.hid fun p => lift p (by have := same_ok_ok b' B' n bo Bo _ f1 _ L1 [] p.w (HMW.out.below p.ok) (HoW.out.below p.ok); rwa [strOf_ne _ _ hn3] at this)
      have HWk : Hid (∀ p : InC (Below W.heap.size W), Calls Try.prog 9 #[] p.w fun e w' => e = .returned (.bool true) ∧ Below W.heap.size W w') :=
        Lib.hid fun p => lift p (works_any p.w)
      have hne : Nonempty (InC (Below W.heap.size W)) := ⟨⟨W, Below.refl _ _⟩⟩
      clear hs1 hs2 hs3 lift hn hn3
      refine wp_quiet_in (Below W.heap.size W) (Below.refl _ _).drew (by kernel_rfl) (by kernel_rfl) ?_
      repeat (go_big_quiet_step (first | (with_reducible exact calls_in (HIx.out _)) | (with_reducible exact calls_in (HIy.out _)) | (with_reducible exact calls_in (HS1.out _)) | (with_reducible exact calls_in (HS2.out _)) | (with_reducible exact calls_in (HS3.out _)) | (with_reducible exact calls_in (HWk.out _))))
      refine wpQuiet_nil ?_
      intro _ hw'
      obtain ⟨p, hw''⟩ := hw'
      subst hw''
      go_wp2_with fail
      go_ret
      exact ⟨rfl, HBW.out.trans (p.ok.mono HBW.out.size)⟩

theorem copies_law (pages : Int) (ao : Option Addr) (len cap : Nat) (XX : Nat → AV) (X Y : AV) (w : World) (w0 : (Lit.int .i64 pages).wf = true) (w1 : ActsAt w ao len XX) (w2 : X.ok w ∧ Y.ok w) :
    Calls Try.prog 7 #[.int .i64 pages, .slice ao len cap, .agg (X.cells ++ Y.cells).toArray] w fun e w' => e = .returned (.bool true) ∧ Below w.heap.size w w' := by
  by_cases h1 : pages < 1 ∨ 2 < pages
  · exact copies_short pages ao len cap X Y w h1
  obtain ⟨p, rfl⟩ : ∃ p : Nat, pages = p := ⟨pages.toNat, by omega⟩
  exact copies_ok p ao len cap XX X Y w w1 w2.1 w2.2 (by omega) (by omega)
end Go.Proofs.Ytobbnfdflogicaa
