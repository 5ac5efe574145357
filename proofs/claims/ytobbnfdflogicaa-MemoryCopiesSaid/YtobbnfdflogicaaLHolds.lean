/- memory: the law MemoryHolds returns true and writes to nothing that was there. -/
import Derived.Test.YtobbnfdflogicaaM2
import Derived.Test.YtobbnfdflogicaaViews
import Derived.Deep.CutRange
namespace Go.Proofs.Ytobbnfdflogicaa
open Go.RowKit Go.Shelf
attribute [local go_sem] Oper.semAt_some

/-- Does the span s hold the address x? -/
def covers (x : Nat) (s : Nat × Nat) : Bool := decide (s.1 ≤ x ∧ x < s.1 + s.2)

/-- What the first loop of MemoryHolds keeps: after k writes. -/
structure HoldInv (w : World) (b B X x k : Nat) (W : World) (f : Nat → Int) (L : List (Nat × Nat)) : Prop where
  mem : MemAt W b B 4096 f L
  len : L.length ≤ k
  at' : W.rowIs X 29 1 (fun _ => .int .u64 (x : Nat))
  spans : ∀ s ∈ L, s.1 + s.2 ≤ 4096
  touched : f x = 0 ∨ L.any (covers x) = true
  byte : 0 ≤ f x ∧ f x ≤ 255
  below : Below w.heap.size w W
  size : X < W.heap.size

theorem HoldInv.below' {w W W' : World} {b B X x k : Nat} {f : Nat → Int} {L : List (Nat × Nat)} (h : HoldInv w b B X x k W f L) (hb : Below W.heap.size W W') : HoldInv w b B X x k W' f L :=
  ⟨h.mem.below hb, h.len, h.at'.of_block (hb.block _ h.at'.lt), h.spans, h.touched, h.byte, h.below.trans (hb.mono h.below.size), Nat.lt_of_lt_of_le h.size hb.size⟩

theorem HoldInv.skip {w W : World} {b B X x k : Nat} {f : Nat → Int} {L : List (Nat × Nat)} (h : HoldInv w b B X x k W f L) : HoldInv w b B X x (k + 1) W f L :=
  ⟨h.mem, by have := h.len; omega, h.at', h.spans, h.touched, h.byte, h.below, h.size⟩

theorem HoldInv.wrote {w W W' : World} {b B X x k a n : Nat} {f s : Nat → Int} {L : List (Nat × Nat)} (h : HoldInv w b B X x k W f L) (hx : x < 4096) (hX : w.heap.size ≤ b ∧ w.heap.size ≤ B ∧ b < X ∧ B < X) (hk : Keeps (Two b B) W W') (hm : MemAt W' b B 4096 (upd f a n s) (logged L a n))
    (hf : a + n ≤ 4096) (hs : ∀ i, i < n → 0 ≤ s i ∧ s i ≤ 255) : HoldInv w b B X x (k + 1) W' (upd f a n s) (logged L a n) := by
  have hl := h.len
  refine ⟨hm, ?_, hk.rowIs h.at' (fun e => by rcases e with e | e <;> omega), ?_, ?_, ?_, h.below.trans (hk.below h.below.size (fun j hj e => by rcases e with e | e <;> omega)), Nat.lt_of_lt_of_le h.size hk.size⟩
  · unfold logged
    by_cases hn : n = 0
    · rw [if_pos hn]; omega
    · rw [if_neg hn, List.length_append, List.length_cons, List.length_nil]; omega
  · unfold logged
    split
    · exact h.spans
    · intro s' hs'
      rcases List.mem_append.1 hs' with h1 | h1
      · exact h.spans _ h1
      · rw [List.mem_singleton] at h1; subst h1; exact hf
  · unfold upd logged
    by_cases hc : a ≤ x ∧ x < a + n
    · right
      rw [if_neg (by omega), List.any_append]
      have : covers x (a, n) = true := by unfold covers; exact decide_eq_true hc
      simp [this]
    · rw [if_neg hc]
      rcases h.touched with h1 | h1
      · exact .inl h1
      · right
        split
        · exact h1
        · rw [List.any_append, h1]; rfl
  · unfold upd
    by_cases hc : a ≤ x ∧ x < a + n
    · rw [if_pos hc]; exact hs _ (by omega)
    · rw [if_neg hc]; exact h.byte

theorem addr_of_cell {w : World} {a : Addr} {v : Value} (h : w.cell? a = some v) : a = ⟨a.block, a.off, none⟩ := by
  obtain ⟨b, o, s⟩ := a
  cases s with
  | none => rfl
  | some s =>
    unfold World.cell? at h
    simp only at h
    split at h <;> simp at h

theorem src_in {S : Nat → Prop} {w W : World} {ak : Option Addr} {n : Nat} {s : Nat → Int} (hn : n ≤ 4611686018427387904) (h : ∀ j, j < n → ∃ y, ak = some y ∧ w.cell? (y.add j) = some (.int .u8 (s j))) (hb : Below w.heap.size w W) (hS : ∀ g, g < w.heap.size → ¬ S g) : Src S W ak n s := by
  refine ⟨hn, fun h0 => ?_⟩
  obtain ⟨y, rfl, h1⟩ := h 0 h0
  have e : y = ⟨y.block, y.off, none⟩ := addr_of_cell (w := w) (by simpa [Addr.add] using h1)
  refine ⟨y.block, y.off, by rw [← e], hS _ (World.block_lt_of_cell? _ _ (by simpa [Addr.add] using h1)), fun i hi => ?_⟩
  obtain ⟨y', e', h2⟩ := h i hi
  cases e'
  rw [e, Addr.add_mid] at h2
  exact (hb.cell (World.block_lt_of_cell? _ _ h2)).trans h2

/-- What lies in memory between two rounds of the second loop of MemoryHolds. -/
structure TouchInv (w : World) (s0 b B X x k : Nat) (f : Nat → Int) (L : List (Nat × Nat)) (tb fr : Nat) (pre : List Nat) (W : World) : Prop where
  hold : HoldInv w b B X x k W f L
  row : W.rowIs tb 4 1 (fun _ => .bool (pre.any fun j => covers x (L.getD (fr + j) (0, 0))))
  size : s0 ≤ W.heap.size

theorem MemAt.quiet' {N : Nat} {A B : World} {b b' size : Nat} {f : Nat → Int} {L : List (Nat × Nat)} (h : MemAt A b b' size f L) (q : Quiet N A B) : MemAt B b b' size f L := by
  obtain ⟨h1, h2, G, cap, F, h4, h5, h6, h7, h8, h9⟩ := h
  exact ⟨h1, h2, G, cap, F, q.rowIs h4, h5, h6, h7, q.rowIs h8, h9⟩

theorem HoldInv.quiet {N : Nat} {w W W' : World} {b B X x k : Nat} {f : Nat → Int} {L : List (Nat × Nat)} (h : HoldInv w b B X x k W f L) (q : Quiet N W W') (hN : w.heap.size ≤ N) : HoldInv w b B X x k W' f L :=
  ⟨h.mem.quiet' q, h.len, q.rowIs h.at', h.spans, h.touched, h.byte, q.below h.below hN, Nat.lt_of_lt_of_le h.size q.size⟩

theorem TouchInv.quiet {N : Nat} {w W W' : World} {s0 b B X x k : Nat} {f : Nat → Int} {L : List (Nat × Nat)} {tb fr : Nat} {pre : List Nat} (h : TouchInv w s0 b B X x k f L tb fr pre W) (q : Quiet N W W') (hN : w.heap.size ≤ N) : TouchInv w s0 b B X x k f L tb fr pre W' :=
  ⟨h.hold.quiet q hN, q.rowIs h.row, Nat.le_trans h.size q.size⟩

set_option maxRecDepth 100000 in
set_option maxHeartbeats 4000000 in
theorem holds_walk (a0 : Option Addr) (len0 cap0 : Nat) (z : Nat → Int) (a1 : Option Addr) (len1 cap1 : Nat) (A : Nat → Option Addr) (Ln Cp : Nat → Nat) (Z : Nat → Nat → Int) (one : Int) (w : World) (hl : len1 ≤ 30) (hl0 : len1 ≤ len0)
    (h1 : 0 ≤ one) (h2 : one ≤ 65535)
    (hz : ∀ i, i < len0 → ∃ x, a0 = some x ∧ w.cell? (x.add i) = some (.int .u16 (z i)) ∧ 0 ≤ z i ∧ z i ≤ 65535)
    (hr : ∀ i, i < len1 → ∃ x, a1 = some x ∧ w.cell? (x.add i) = some (.slice (A i) (Ln i) (Cp i)) ∧ Ln i ≤ 9223372036854775807 ∧ ∀ j, j < Ln i → 0 ≤ Z i j ∧ Z i j ≤ 255 ∧ ∃ y, A i = some y ∧ w.cell? (y.add j) = some (.int .u8 (Z i j))) :
    Calls Try.prog 5 #[.slice a0 len0 cap0, .slice a1 len1 cap1, .int .u16 one] w fun e w' => e = .returned (.bool true) ∧ Below w.heap.size w w' := by
  have HZ := Lib.hid hz
  have HR := Lib.hid hr
  clear hz hr
  obtain ⟨x, hx⟩ : ∃ x : Nat, one % 4096 = x := ⟨(one % 4096).toNat, by omega⟩
  have hx4 : x < 4096 := by omega
  have d1 : decide ((30 : Int) < (len1 : Int)) = false := by simp; omega
  have d2 : decide (len0 < len1) = false := by simp; omega
  refine calls_marks Try.func5 rfl ?_
  simp only [Try.ntmps5, List.size_toArray, List.length_cons, List.length_nil, Nat.reduceAdd, Nat.reduceSub, Array.replicate_succ, Array.replicate_zero, List.push_toArray, List.append_toArray, List.nil_append, List.cons_append]
  go_wp2_with fail
  refine (new_ok 1 _ (by omega) (by omega)).mono ?_
  rintro e w2 ⟨b, B, rfl, hb, hB, hb2, hm2⟩
  go_wp2_with fail
  obtain ⟨w3, hw3⟩ : ∃ w3, w3 = w2.alloc (.cells #[.int .u64 x] 29) := ⟨_, rfl⟩
  rw [← hw3]
  have hI3 : HoldInv w b B w2.heap.size x 0 w3 (fun _ => 0) [] := by
    rw [hw3]
    refine ⟨hm2.kept ((Keeps.refl (fun _ => False) _).alloc _) (fun h => h) (fun h => h), Nat.le_refl _, ?_, fun s hs => by simp at hs, .inl rfl, ⟨Int.le_refl _, by omega⟩, hb2.alloc hb2.size _, by simp⟩
    exact World.rowIs_alloc w2 #[.int .u64 x] 29 (fun _ => .int .u64 (x : Nat)) (fun i hi => by simp at hi; subst hi; rfl)
  have hlb := hm2.lt
  have hlB := hm2.lt'
  have HI3 := Lib.hid hI3
  clear hm2 hb2 hw3 hI3 hx
  go_loopw [10, 11] (fun v i wr => ∃ k f L, k ≤ len1 ∧ i = .int .i64 (k : Nat) ∧ v = .int .u8 (f x) ∧ HoldInv w b B w2.heap.size x k wr f L) (fun _ i _ => len1 - (intOf i).toNat)
  case atStart => exact ⟨0, _, _, Nat.zero_le _, rfl, rfl, HI3.out⟩
  case round =>
    obtain ⟨k, f, L, hk, rfl, rfl, hI⟩ := hrel
    have HI := Lib.hid hI
    clear hI
    by_cases hlt : k < len1
    · obtain ⟨y0, rfl, hzc, hz0, hz1⟩ := HZ.out k (by omega)
      obtain ⟨y1, rfl, hrc, hln, hbytes⟩ := HR.out k hlt
      have hlt0 : k < len0 := by omega
      have c0 := (HI.out.below.cell (World.block_lt_of_cell? _ _ hzc)).trans hzc
      have cx := HI.out.at'.cell (i := 0) (by omega)
      obtain ⟨ad, had⟩ : ∃ ad : Nat, z k % 4096 = ad := ⟨(z k % 4096).toNat, by omega⟩
      have had' : ad < 4096 := by omega
      obtain ⟨ak, hA⟩ : ∃ ak, A k = ak := ⟨_, rfl⟩
      obtain ⟨ck, hC⟩ : ∃ ck, Cp k = ck := ⟨_, rfl⟩
      obtain ⟨n, hn⟩ : ∃ n, Ln k = n := ⟨_, rfl⟩
      rw [hn] at hln
      rw [hn, hA, hC] at hrc
      rw [hA] at hbytes
      have c1 := (HI.out.below.cell (World.block_lt_of_cell? _ _ hrc)).trans hrc
      have HRC := Lib.hid hrc
      have HB := Lib.hid hbytes
      have HN := Lib.hid hn
      have HA := Lib.hid hA
      generalize z k = zk at *
      generalize hfx : f x = fx at *
      have HF := Lib.hid hfx
      clear hzc hrc hbytes hn hA hC hfx
      by_cases h200 : 200 < n
      · go_wp2_with fail
        refine (works_any _).mono ?_
        rintro e w' ⟨rfl, hb'⟩
        go_wp2_with fail
        refine ⟨.bool true, ?_, rfl, HI.out.below.trans (hb'.mono HI.out.below.size)⟩
        simp [results, Try.f5, go_sem]
      have hd200 : decide ((200 : Int) < (n : Int)) = false := by simp; omega
      have hn200 : n ≤ 200 := by omega
      clear h200
      have hxb := HI.out.size
      by_cases hfit : ad + n ≤ 4096
      · have d3 : decide ((ad : Int) + (n : Int) ≤ 4096) = true := by simp; omega
        go_wp2_with fail
        have hsrc : Src (Two b B) wr ak n (Z k) := src_in (by omega) (fun j hj => (HB.out j (by rw [HN.out]; exact hj)).2.2) HI.out.below (by rintro g hg (e | e) <;> omega)
        refine (write_ok b B 4096 f L ad n _ _ (Z k) wr HI.out.mem (by have := HI.out.len; omega) hfit hsrc).mono ?_
        rintro e w4 ⟨rfl, hk4, hm4⟩
        have hI4 := HI.out.wrote (s := Z k) hx4 ⟨by omega, by omega, by omega, by omega⟩ hk4 hm4 hfit (fun j hj => by have := HB.out j (by rw [HN.out]; exact hj); exact ⟨this.1, this.2.1⟩)
        have HI4 := Lib.hid hI4
        have c1' := (hI4.below.cell (World.block_lt_of_cell? _ _ HRC.out)).trans HRC.out
        have cx' := hI4.at'.cell (i := 0) (by omega)
        have HSRC := Lib.hid hsrc
        clear hk4 hm4 hI4 hsrc
        by_cases hcov : ad ≤ x ∧ x < ad + n
        · obtain ⟨hc1, hc2⟩ := hcov
          obtain ⟨q, hq⟩ : ∃ q : Nat, (x : Int) - (ad : Int) = q := ⟨x - ad, by omega⟩
          have hqn : q < n := by omega
          have d4 : decide (ad ≤ x) = true := decide_eq_true hc1
          have d5 : decide (q < n) = true := decide_eq_true hqn
          obtain ⟨y, hy, hcy⟩ := (HB.out q (by rw [HN.out]; exact hqn)).2.2
          have ey : y = ⟨y.block, y.off + 0, none⟩ := by
            obtain ⟨y', hy', h0⟩ := (HB.out 0 (by rw [HN.out]; omega)).2.2
            rw [hy] at hy'
            cases hy'
            exact addr_of_cell (w := w) (by simpa [Addr.add] using h0)
          obtain ⟨g, o, hgo⟩ : ∃ g o, y = ⟨g, o, none⟩ := ⟨_, _, ey⟩
          subst hgo
          subst hy
          rw [Addr.add_mid] at hcy
          have hcy4 := (HI4.out.below.cell (World.block_lt_of_cell? _ _ hcy)).trans hcy
          clear hcy ey
          go_wp2_with fail
          refine (num_any _ _).mono ?_
          rintro e w5 ⟨rfl, rfl⟩
          go_wp2_with fail
          go_quiet (fail)
          go_wp2_with fail
          go_quiet (fail)
          go_wp2_with fail
          go_roundw
          case rel =>
            refine ⟨k + 1, _, _, by omega, by go_num, ?_, HI4.out.below' (W' := w4.drewN _) ⟨rfl, rfl, rfl, Nat.le_refl _, fun _ _ => rfl⟩⟩
            unfold upd
            rw [if_pos ⟨hc1, hc2⟩, show x - ad = q by omega]
          case measure => simp [intOf]; omega
        · have hup : upd f ad n (Z k) x = fx := by
            unfold upd
            rw [if_neg hcov, HF.out]
          have HUP := Lib.hid hup
          clear hup
          by_cases hax : ad ≤ x
          · obtain ⟨q, hq⟩ : ∃ q : Nat, (x : Int) - (ad : Int) = q := ⟨x - ad, by omega⟩
            have hqn : ¬ q < n := by omega
            have d4 : decide (ad ≤ x) = true := decide_eq_true hax
            have d5 : decide (q < n) = false := decide_eq_false hqn
            clear hcov
            go_wp2_with fail
            refine (num_any _ _).mono ?_
            rintro e w5 ⟨rfl, rfl⟩
            go_wp2_with fail
            go_quiet (fail)
            go_wp2_with fail
            go_roundw
            case rel => exact ⟨k + 1, _, _, by omega, by go_num, by rw [HUP.out], HI4.out.below' (W' := w4.drewN _) ⟨rfl, rfl, rfl, Nat.le_refl _, fun _ _ => rfl⟩⟩
            case measure => simp [intOf]; omega
          · have d4 : decide (ad ≤ x) = false := decide_eq_false hax
            clear hcov
            go_wp2_with fail
            refine (num_any _ _).mono ?_
            rintro e w5 ⟨rfl, rfl⟩
            go_wp2_with fail
            go_quiet (fail)
            go_wp2_with fail
            go_roundw
            case rel => exact ⟨k + 1, _, _, by omega, by go_num, by rw [HUP.out], HI4.out.below' (W' := w4.drewN _) ⟨rfl, rfl, rfl, Nat.le_refl _, fun _ _ => rfl⟩⟩
            case measure => simp [intOf]; omega
      · have d3 : decide ((ad : Int) + (n : Int) ≤ 4096) = false := by simp; omega
        go_wp2_with fail
        refine (write_err b B 4096 f L ad n _ _ wr HI.out.mem (by omega) (by omega) (by omega)).mono ?_
        rintro e w4 ⟨rfl, hb4⟩
        have hI4 := HI.out.below' hb4
        have HI4 := Lib.hid hI4.skip
        have c1' := (hI4.below.cell (World.block_lt_of_cell? _ _ HRC.out)).trans HRC.out
        have cx' := hI4.at'.cell (i := 0) (by omega)
        clear hb4 hI4
        go_wp2_with fail
        refine (num_any _ _).mono ?_
        rintro e w5 ⟨rfl, rfl⟩
        go_wp2_with fail
        go_quiet (fail)
        go_wp2_with fail
        go_roundw
        case rel => exact ⟨k + 1, _, _, by omega, by go_num, by rw [HF.out], HI4.out.below' (W' := w4.drewN _) ⟨rfl, rfl, rfl, Nat.le_refl _, fun _ _ => rfl⟩⟩
        case measure => simp [intOf]; omega
    · have hkn : k = len1 := by omega
      subst hkn
      obtain ⟨fx, hfx⟩ : ∃ fx, f x = fx := ⟨_, rfl⟩
      rw [hfx]
      have HF := Lib.hid hfx
      have hxb := HI.out.size
      clear hfx HI3
      go_wp2_with fail
      obtain ⟨w4, hw4⟩ : ∃ w4, w4 = wr.alloc (.cells #[.bool false] 4) := ⟨_, rfl⟩
      rw [← hw4]
      have hs4 : w4.heap.size = wr.heap.size + 1 := by rw [hw4]; simp
      have hI4 := HI.out.below' (W' := w4) (by rw [hw4]; exact (Below.refl _ _).alloc (Nat.le_refl _) _)
      have ht4 : w4.rowIs wr.heap.size 4 1 (fun _ => .bool false) := by rw [hw4]; exact World.rowIs_alloc wr #[.bool false] 4 (fun _ => .bool false) (fun i hi => by simp at hi; subst hi; rfl)
      clear hw4
      refine (writes_ok b B 4096 f L w4 hI4.mem).mono ?_
      rintro e w5 ⟨g, rfl, hJ, hg, hb5⟩
      have HI5 := Lib.hid (hI4.below' hb5)
      have HT5 := Lib.hid (ht4.of_block (hb5.block _ ht4.lt))
      have HJ5 := Lib.hid hJ
      have hs5 := hb5.size
      clear hI4 ht4 hb5 hJ HI HR HZ
      go_wp2_with fail
      obtain ⟨fr, hfr⟩ : ∃ fr, fr = L.length - 256 := ⟨_, rfl⟩
      have HFR := Lib.hid hfr
      have hLk := HI5.out.len
      have hgw : g < w5.heap.size := HJ5.out.choose_spec.1.lt
      have hst := Lib.hid (writes1_stops 8 (by omega) g L (by omega) w5 HJ5.out)
      clear hfr HJ5
      refine wp_range (gf := 30) (lb := #[.pointer (some ⟨g, 0, none⟩)]) rfl (enters_of Try.func30 (by kernel_rfl) rfl) hst.out
        (fun h k => Eq.trans k h) (fun W l o o' hl _ _ _ => World.putObj_heap_other (by omega)) (fun _ => rfl)
        (TouchInv w w5.heap.size b B w2.heap.size x k f L wr.heap.size fr) (fun _ _ _ => False)
        (own_of fun s A B hs hq => hs.quiet hq (by omega))
        (fun cd => own_of fun s A B hs hq => hs)
        ⟨HI5.out, HT5.out, Nat.le_refl _⟩
        (fun j a' W => ∃ sb, w5.heap.size ≤ sb ∧ W.rowIs sb 35 3 (fun i => if i = 0 then .int .u64 (L.getD (fr + j) (0, 0)).1 else if i = 1 then .int .i64 (L.getD (fr + j) (0, 0)).2 else .bool false) ∧
          a' = { tmps := #[.slice a0 len0 cap0, .slice a1 k cap1, .int .u16 one, undef, undef, undef, u6, .pointer (some ⟨b, 0, none⟩), .int .i64 0, .pointer (some ⟨w2.heap.size, 0, none⟩), .int .u8 fx, .int .i64 k, u12, u13, u14, .pointer (some ⟨wr.heap.size, 0, none⟩), .func (.func 30) #[] #[.pointer (some ⟨g, 0, none⟩)], undef, .pointer (some ⟨sb, 0, none⟩), undef, undef, .slice a1 k cap1, .int .i64 k, .bool false, .bool false, .slice a0 len0 cap0, .int .i64 len0, .slice a1 k cap1, .int .i64 k, .bool false, .bool false, undef, .tuple #[.pointer (some ⟨b, 0, none⟩), .int .i64 0], .tuple #[.pointer (some ⟨b, 0, none⟩), .int .i64 0], .pointer (some ⟨b, 0, none⟩), .int .i64 0, .int .u16 one, .int .u64 one, .int .u64 (one % 4096), .int .i64 k, .slice a1 k cap1, .int .i64 k, .bool false, u43, u44, u45, u46, u47, u48, u49, u50, u51, u52, u53, u54, u55, u56, u57, u58, u59, u60, u61, u62, u63, u64, u65, u66, u67, u68, u69, u70, u71, u72, u73, u74, u75, u76, u77, u78, u79, u80, u81, u82, u83, u84, u85, u86, u87, u88, u89, u90, u91, u92, u93, u94, u95, u96, u97, u98, u99, u100, u101, u102, u103, u104, u105, u106, .pointer (some ⟨b, 0, none⟩), .func (.func 30) #[] #[.pointer (some ⟨g, 0, none⟩)], .func (.func 30) #[] #[.pointer (some ⟨g, 0, none⟩)], .bool false, .func (.func 30) #[] #[.pointer (some ⟨g, 0, none⟩)], .int .i64 ((fr + j : Nat) : Int), .agg #[.int .u64 (L.getD (fr + j) (0, 0)).1, .int .i64 (L.getD (fr + j) (0, 0)).2, .bool false], undef, undef, undef, undef, undef, undef, undef, undef, undef, undef, undef, undef, undef, undef, undef, undef, undef, undef, undef, undef, undef, undef, undef, undef, undef, undef, undef, undef, undef, undef, undef, undef, undef, undef, undef, undef, undef, undef, undef, undef, undef, undef, undef, undef, undef, undef, undef, undef, undef, undef, undef], defers := [] })
        (fun x a' => own_of fun s A B hs hq => by obtain ⟨sb, h1, h2, h3⟩ := hs; exact ⟨sb, h1, hq.rowIs h2, h3⟩) ?assign ?body ?done ?stop
      case assign =>
        intro l pre j W K hI hK
        have HI := Lib.hid hI
        have hbs := hI.size
        have e : L.length - 256 = fr := HFR.out.symm
        simp only [encW, e]
        generalize L.getD (fr + j) (0, 0) = s at *
        have hK' := Lib.hid hK
        clear hI hK e
        gi_wp2
        refine hK'.out _ _ ((KeepsOthers.alloc _ _).from _) (Below.heap_alloc _ _ _ (by omega)) ?_ ⟨W.heap.size, hbs, ?_, rfl⟩
        · exact HI.out.quiet (Quiet.alloc (w.heap.size) W _) (Nat.le_refl _)
        · exact World.rowIs_alloc W _ 35 _ (fun i hi => by
            match i, hi with
            | 0, _ => rfl
            | 1, _ => rfl
            | 2, _ => rfl)
      case body =>
        rintro l pre j a' W hl hrec hI ⟨sb, hsb, hrs, rfl⟩ hlen
        have HL := Lib.hid hrec
        have ht := hI.row.cell (i := 0) (by omega)
        have htf := hI.row.frozen 0
        have cx := hI.hold.at'.cell (i := 0) (by omega)
        have s0 := hrs.cell (i := 0) (by omega)
        have s1 := hrs.cell (i := 1) (by omega)
        rw [if_pos rfl] at s0
        rw [if_neg (by omega), if_pos rfl] at s1
        obtain ⟨s, hs⟩ : ∃ s, s = L.getD (fr + j) (0, 0) := ⟨_, rfl⟩
        have hsm : s.1 + s.2 ≤ 4096 := by
          rw [hs]
          by_cases hj : fr + j < L.length
          · have : L.getD (fr + j) (0, 0) ∈ L := by simp [hj]
            exact hI.hold.spans _ this
          · simp [List.getD, List.getElem?_eq_none (Nat.le_of_not_lt hj)]
        rw [← hs] at s0 s1 ⊢
        have HS := Lib.hid hs
        obtain ⟨u, v⟩ := s
        obtain ⟨tv, htv⟩ : ∃ tv, (pre.any fun j => covers x (L.getD (fr + j) (0, 0))) = tv := ⟨_, rfl⟩
        rw [htv] at ht
        have HTV := Lib.hid htv
        have HI := Lib.hid hI
        simp only at s0 s1 hsm
        have fin : ∀ nv : Bool, (tv || covers x (u, v)) = nv → ∀ W', W' = W.setCell ⟨wr.heap.size, 0, none⟩ (.bool nv) → TouchInv w w5.heap.size b B w2.heap.size x k f L wr.heap.size fr (pre ++ [j]) W' := by
          rintro nv hnv W' rfl
          have hk : Keeps (One wr.heap.size) W (W.setCell ⟨wr.heap.size, 0, none⟩ (.bool nv)) := (Keeps.refl _ _).set1 _ _
          have hH := HI.out.hold
          refine ⟨⟨hH.mem.kept hk (fun e => by have e : b = wr.heap.size := e; omega) (fun e => by have e : B = wr.heap.size := e; omega), hH.len, hk.rowIs hH.at' (fun e => by have e : w2.heap.size = wr.heap.size := e; omega), hH.spans, hH.touched, hH.byte,
            hH.below.trans (hk.below hH.below.size (fun j hj e => by have e : j = wr.heap.size := e; omega)), Nat.lt_of_lt_of_le hH.size hk.size⟩, ?_, Nat.le_trans HI.out.size hk.size⟩
          refine (World.rowIs.set HI.out.row 0 _).congr fun i hi => ?_
          have : i = 0 := by omega
          subst this
          rw [List.any_append, HTV.out, ← hnv, List.any_cons, List.any_nil, ← HS.out, Bool.or_false]; rfl
        have FIN := Lib.hid fin
        clear fin hI hrec hs htv hrs
        have hgs : g ≠ wr.heap.size := by omega
        cases tv
        · by_cases hux : u ≤ x
          · obtain ⟨q, hq⟩ : ∃ q : Nat, (x : Int) - (u : Int) = q := ⟨x - u, by omega⟩
            have d4 : decide (u ≤ x) = true := decide_eq_true hux
            by_cases hqv : q < v
            · have d5 : decide (q < v) = true := decide_eq_true hqv
              gi_wp2
              exact ⟨KeepsFrom.of_keeps (S := One wr.heap.size) ((Keeps.refl _ W).set1 _ _) (fun k e => by have e : k = wr.heap.size := e; omega), Below.heap_setCell _ _ _ _ hgs, FIN.out true (by unfold covers; rw [decide_eq_true (by omega)]; rfl) _ rfl⟩
            · have d5 : decide (q < v) = false := decide_eq_false hqv
              gi_wp2
              exact ⟨KeepsFrom.of_keeps (S := One wr.heap.size) ((Keeps.refl _ W).set1 _ _) (fun k e => by have e : k = wr.heap.size := e; omega), Below.heap_setCell _ _ _ _ hgs, FIN.out false (by unfold covers; rw [decide_eq_false (by omega)]; rfl) _ rfl⟩
          · have d4 : decide (u ≤ x) = false := decide_eq_false hux
            gi_wp2
            exact ⟨KeepsFrom.of_keeps (S := One wr.heap.size) ((Keeps.refl _ W).set1 _ _) (fun k e => by have e : k = wr.heap.size := e; omega), Below.heap_setCell _ _ _ _ hgs, FIN.out false (by unfold covers; rw [decide_eq_false (by omega)]; rfl) _ rfl⟩
        · gi_wp2
          exact ⟨KeepsFrom.of_keeps (S := One wr.heap.size) ((Keeps.refl _ W).set1 _ _) (fun k e => by have e : k = wr.heap.size := e; omega), Below.heap_setCell _ _ _ _ hgs, FIN.out true rfl _ rfl⟩
      case done =>
        rintro D xs W hD rfl hI hK
        have hmn : Go.Proofs.Ytobbnfdflogicaa.many L = L.length := by unfold Go.Proofs.Ytobbnfdflogicaa.many; omega
        have hf0 : fr = 0 := by have := HFR.out; omega
        have hany : ((List.range (Go.Proofs.Ytobbnfdflogicaa.many L)).any fun j => covers x (L.getD (fr + j) (0, 0))) = L.any (covers x) := by
          rw [hmn, hf0, Bool.eq_iff_iff, List.any_eq_true, List.any_eq_true]
          constructor
          · rintro ⟨j, hj, hc⟩
            rw [List.mem_range] at hj
            exact ⟨L[j], List.getElem_mem hj, by simpa [hj] using hc⟩
          · rintro ⟨s, hs, hc⟩
            obtain ⟨j, hj, rfl⟩ := List.mem_iff_getElem.1 hs
            exact ⟨j, List.mem_range.2 hj, by simpa [hj] using hc⟩
        have hrow := hI.row
        rw [hany] at hrow
        have htch := hI.hold.touched
        obtain ⟨tv, htv⟩ : ∃ tv, L.any (covers x) = tv := ⟨_, rfl⟩
        rw [htv] at hrow htch
        rw [HF.out] at htch
        have cx := hI.hold.at'.cell (i := 0) (by omega)
        have HI := Lib.hid hI.hold
        have HT := Lib.hid hrow
        have HKD := Lib.hid hK
        clear hI hK hmn hany hrow htv
        go_wp2_with fail
        refine (read_ok b B 4096 f L x 1 W HI.out.mem (by omega)).mono ?_
        rintro e W7 ⟨v, rfl, ⟨gv, cv, Fv, rfl, hv1, hv2, hv3, hv4, hv5⟩, hb7⟩
        have cv0 : W7.cell? ⟨gv, 0, none⟩ = some (.int .u8 fx) := by
          have h0 := hv2.cell (i := 0) (by omega)
          rw [hv5 0 (by omega)] at h0
          rw [h0, ← HF.out]; rfl
        have ct7 := (HT.out.of_block (hb7.block _ HT.out.lt)).cell (i := 0) (by omega)
        have HB7 := Lib.hid hb7
        clear hv2 hv5
        have HEnd := Lib.hid (fun W8 (h8 : Below W7.heap.size W7 W8) => (hb7.trans (h8.mono hb7.size)))
        clear hb7
        have fin : ∀ W8, Below W7.heap.size W7 W8 → W8.heap[D]? = some (.deferred (some [])) ∧ Below w.heap.size w (W8.putObj D (.deferred none)) := by
          intro W8 h8
          have hb8 := HEnd.out W8 h8
          have hD8 := (hb8.block D (lt_of_block HKD.out)).trans HKD.out
          exact ⟨hD8, (HI.out.below.trans (hb8.mono HI.out.below.size)).trans (belowK_b (w := w) (Nat.le_refl _) _ D _ _ (by omega) hD8 rfl rfl)⟩
        have FIN := Lib.hid fin
        clear fin
        cases tv
        · obtain rfl : fx = 0 := by simpa using htch
          clear htch
          go_wp2_with (go_at_call 11; refine (num_any _ _).mono ?_; rintro e w' ⟨rfl, rfl⟩)
          refine (works_any _).mono ?_
          rintro e W8 ⟨rfl, hb8⟩
          go_wp2_with fail
          obtain ⟨f1, f2⟩ := FIN.out W8 hb8
          refine ⟨by simp, .inl ⟨_, _, rfl, run_takeDeferred f1, ?_⟩⟩
          refine ⟨.bool true, ?_, rfl, f2⟩
          simp [results, Try.f5, go_sem]
        · clear htch
          go_wp2_with (go_at_call 11; refine (num_any _ _).mono ?_; rintro e w' ⟨rfl, rfl⟩)
          refine (works_any _).mono ?_
          rintro e W8 ⟨rfl, hb8⟩
          go_wp2_with fail
          obtain ⟨f1, f2⟩ := FIN.out W8 hb8
          refine ⟨by simp, .inl ⟨_, _, rfl, run_takeDeferred f1, ?_⟩⟩
          refine ⟨.bool true, ?_, rfl, f2⟩
          simp [results, Try.f5, go_sem]
      case stop =>
        rintro D cd pre W hD - hX hK
        exact hX.elim
end Go.Proofs.Ytobbnfdflogicaa
