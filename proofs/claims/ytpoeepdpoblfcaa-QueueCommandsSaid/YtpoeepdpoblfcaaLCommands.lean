/- queue: the law QueueCommands. -/
import Derived.Test.YtpoeepdpoblfcaaSlots
namespace Go.Proofs.Ytpoeepdpoblfcaa
open Go.RowKit
attribute [local go_sem ↓] Go.wp_at_zero Go.wp_at_succ

/-- The command of a number. -/
def pCmd (p : Nat) : Cmd := { zCmd with op := 1, id := p }
theorem pCmd_ok (p : Nat) (h : p ≤ 200) : (pCmd p).Ok := by
  have z := zCmd_ok
  constructor
  all_goals first | exact z.op | exact z.fused | exact z.nsid | exact z.c2 | exact z.c3 | exact z.mt | exact z.d0 | exact z.d1 | exact z.w0 | exact z.w1 | exact z.w2 | exact z.w3 | exact z.w4 | exact z.w5 | (show (0 : Int) ≤ 1 ∧ (1 : Int) ≤ 255; omega) | (show (0 : Int) ≤ (p : Int) ∧ (p : Int) ≤ 65535; omega)
theorem build_pCmd (p : Nat) (w : World) : (Instr.build 38 #[(0, .int .u8 1), (3, .int .u16 p)]).run Try.prog w = .ok (.agg (pCmd p).cells) w := by kernel_rfl
theorem ps_ok {n hr p : Nat} (hn : 0 < n) (h1 : hr ≤ p) (h2 : p + 1 < hr + n) : psT n (hr % n) (p % n) (pCmd p) = (p + 1) % n ∧ psAt n (hr % n) (p % n) (pCmd p) = p % n ∧ psEr n (hr % n) (p % n) (pCmd p) = 0 ∧ psA n (hr % n) (p % n) (pCmd p) = cmdE (pCmd p) := by
  have hu : ¬ usd n (hr % n) (p % n) = n - 1 := by rw [usd_mod hn h1 (by omega)]; omega
  have hf : ¬ 2 < (pCmd p).fused := by show ¬ (2 : Int) < 0; omega
  unfold psT psAt psEr psA
  rw [if_neg hf, if_neg hf, if_neg hf, if_neg hf, if_neg hu, if_neg hu, if_neg hu, if_neg hu]
  exact ⟨nxt_mod _ _, rfl, rfl, rfl⟩
theorem ps_full {n hr p : Nat} (hn : 0 < n) (h1 : hr ≤ p) (h2 : p + 1 = hr + n) : psT n (hr % n) (p % n) (pCmd p) = p % n ∧ psAt n (hr % n) (p % n) (pCmd p) = 0 ∧ psEr n (hr % n) (p % n) (pCmd p) = 7 ∧ psA n (hr % n) (p % n) (pCmd p) = arr 64 z8 := by
  have hu : usd n (hr % n) (p % n) = n - 1 := by rw [usd_mod hn h1 (by omega)]; omega
  have hf : ¬ 2 < (pCmd p).fused := by show ¬ (2 : Int) < 0; omega
  unfold psT psAt psEr psA
  rw [if_neg hf, if_neg hf, if_neg hf, if_neg hf, if_pos hu, if_pos hu, if_pos hu, if_pos hu]
  exact ⟨rfl, rfl, rfl, rfl⟩

/-- The sender, the fetcher and the slots: p commands have been pushed (c of them lie in their slots), f fetched; the fetcher knows of tr, the sender that hr were fetched. -/
structure SC (w W : World) (gs gf bs n p c f tr hr : Nat) : Prop where
  s : QAt 91 3 W gs n (hr % n) (p % n) true
  q : QAt 93 3 W gf n (f % n) (tr % n) true
  r : ∃ F, W.rowIs bs 69 (n * 64) F ∧ ∀ j, f ≤ j → j < c → F (j % n * 64) = .int .u8 1 ∧ F (j % n * 64 + 2) = .int .u8 ((j : Int) % 256)
  b : Below w.heap.size w W
  h0 : w.heap.size ≤ gs
  h1 : gs < gf
  h2 : gf < bs
  o1 : hr ≤ f
  o2 : f ≤ tr
  o3 : tr ≤ c
  o4 : c ≤ p
  o5 : p < hr + n
  hn : 0 < n
namespace SC
variable {w W W' : World} {gs gf bs n p c f tr hr : Nat}
theorem lt (i : SC w W gs gf bs n p c f tr hr) : bs < W.heap.size := by obtain ⟨F, h, -⟩ := i.r; exact h.lt
theorem below (i : SC w W gs gf bs n p c f tr hr) (k : Below W.heap.size W W') : SC w W' gs gf bs n p c f tr hr := by
  obtain ⟨F, h, hF⟩ := i.r
  exact ⟨i.s.below k, i.q.below k, ⟨F, h.of_block (k.block _ h.lt), hF⟩, i.b.trans (k.mono i.b.size), i.h0, i.h1, i.h2, i.o1, i.o2, i.o3, i.o4, i.o5, i.hn⟩
/-- the sender moved -/
theorem sk {p' hr' : Nat} (i : SC w W gs gf bs n p c f tr hr) (k : Keeps (One gs) W W') (q : QAt 91 3 W' gs n (hr' % n) (p' % n) true) (a1 : hr' ≤ f) (a2 : c ≤ p') (a3 : p' < hr' + n) : SC w W' gs gf bs n p' c f tr hr' := by
  obtain ⟨F, h, hF⟩ := i.r
  have := i.h1; have := i.h2; have := i.h0
  exact ⟨q, i.q.kept k (fun e => by have e : gf = gs := e; omega), ⟨F, h.of_block (k.block _ h.lt (fun e => by have e : bs = gs := e; omega)), hF⟩, i.b.trans (k.below i.b.size (fun j hj e => by have e : j = gs := e; omega)),
    i.h0, i.h1, i.h2, a1, i.o2, i.o3, a2, a3, i.hn⟩
/-- the fetcher moved -/
theorem fk {f' tr' : Nat} (i : SC w W gs gf bs n p c f tr hr) (k : Keeps (One gf) W W') (q : QAt 93 3 W' gf n (f' % n) (tr' % n) true) (a1 : f ≤ f') (a2 : f' ≤ tr') (a3 : tr' ≤ c) : SC w W' gs gf bs n p c f' tr' hr := by
  obtain ⟨F, h, hF⟩ := i.r
  have := i.h1; have := i.h2; have := i.h0; have := i.o1
  exact ⟨i.s.kept k (fun e => by have e : gs = gf := e; omega), q, ⟨F, h.of_block (k.block _ h.lt (fun e => by have e : bs = gf := e; omega)), fun j h1 h2 => hF j (by omega) h2⟩, i.b.trans (k.below i.b.size (fun j hj e => by have e : j = gf := e; omega)),
    i.h0, i.h1, i.h2, by omega, a2, a3, i.o4, i.o5, i.hn⟩
/-- a command laid into its slot -/
theorem put (i : SC w W gs gf bs n (p + 1) p f tr hr) (A : Array Value) (hA : A.size = 64) (h0 : A.getD 0 undef = .int .u8 1) (h2 : A.getD 2 undef = .int .u8 ((p : Int) % 256)) :
    SC w (W.setCells bs (p % n * 64) A.toList) gs gf bs n (p + 1) (p + 1) f tr hr := by
  obtain ⟨F, h, hF⟩ := i.r
  have hn := i.hn; have b1 := i.o1; have b2 := i.o2; have b3 := i.o3; have b5 := i.o5; have c1 := i.h1; have c2 := i.h2; have c0 := i.h0
  have k : Keeps (One bs) W (W.setCells bs (p % n * 64) A.toList) := Keeps.setCells _ (Keeps.refl _ _) _
  refine ⟨i.s.kept k (fun e => by have e : gs = bs := e; omega), i.q.kept k (fun e => by have e : gf = bs := e; omega), ⟨fun j => if p % n * 64 ≤ j ∧ j < p % n * 64 + A.toList.length then A.toList.getD (j - p % n * 64) undef else F j, rowIs_setCells2 _ _ _ _ _ h (fun _ => rfl), fun j g1 g2 => ?_⟩,
    i.b.trans (k.below i.b.size (fun j hj e => by have e : j = bs := e; omega)), i.h0, i.h1, i.h2, b1, b2, by omega, by omega, by omega, hn⟩
  have hl : A.toList.length = 64 := by simpa using hA
  rw [hl]
  by_cases e : j = p
  · subst e
    constructor
    · show (if _ then _ else _) = _
      rw [if_pos (by omega), Nat.sub_self]
      simpa using h0
    · show (if _ then _ else _) = _
      rw [if_pos (by omega), show j % n * 64 + 2 - j % n * 64 = 2 by omega]
      simpa using h2
  · have hne := mod_ne (n := n) hn (show j < p by omega) (by omega)
    obtain ⟨f1, f2⟩ := hF j g1 (by omega)
    constructor
    · show (if _ then _ else _) = _
      rw [if_neg (by omega)]; exact f1
    · show (if _ then _ else _) = _
      rw [if_neg (by omega)]; exact f2
theorem cells (i : SC w W gs gf bs n p c f tr hr) (h : f < c) : W.cell? ⟨bs, f % n * 64, none⟩ = some (.int .u8 1) ∧ W.cell? ⟨bs, f % n * 64 + 2, none⟩ = some (.int .u8 ((f : Int) % 256)) := by
  obtain ⟨F, hr, hF⟩ := i.r
  obtain ⟨f1, f2⟩ := hF f (Nat.le_refl _) h
  have := Nat.mod_lt f i.hn
  rw [hr.cell (by omega), hr.cell (by omega), f1, f2]
  exact ⟨rfl, rfl⟩
theorem there (i : SC w W gs gf bs n p c f tr hr) {x : Nat} (h : x < n) : W.there bs (x * 64) 64 := by
  obtain ⟨F, hr, hF⟩ := i.r
  exact rowIs_there2 hr (by omega)
end SC
theorem cmdE_get (c : Cmd) (j : Nat) (h : j < 64) : (cmdE c).getD j undef = .int .u8 (cmdB c j) := by
  rw [Array.getD_eq_getD_getElem?]
  unfold cmdE
  rw [arr_get 64 _ j h]; rfl
theorem info64 : (Try.prog.info? 69).map (fun i => (i.zero, i.size, i.bytes)) = some (some (.agg (arr 64 z8)), 64, 64) := by kernel_rfl

set_option maxRecDepth 100000 in
set_option maxHeartbeats 8000000 in
theorem q_bad (size : Int) (ao : Option Addr) (len cap : Nat) (w : World) (h : size < 2 ∨ 4096 < size) :
    Calls Try.prog 5 #[.int .i64 size, .slice ao len cap] w fun e w' => e = .returned (.bool true) ∧ Below w.heap.size w w' := by
  have H := Lib.hid h
  clear h
  go_enter Try.func5, Try.ntmps5
  go_wp2_with (first
    | (go_at_call 29; refine (sNew_err _ _ H.out).mono ?_; rintro e w1 ⟨rfl, rfl⟩)
    | (go_at_call 11; refine (fNew_err _ _ H.out).mono ?_; rintro e w1 ⟨rfl, rfl⟩)
    | (go_at_call 13; refine (known_any _).mono ?_; rintro e w1 ⟨rfl, hb⟩; have HB := Lib.hid hb; clear hb))
  go_ret
  exact ⟨rfl, HB.out⟩

set_option maxRecDepth 100000 in
set_option maxHeartbeats 8000000 in
theorem q_long (n : Nat) (ao : Option Addr) (len cap : Nat) (w : World) (hn : 2 ≤ n) (hn' : n ≤ 4096) (hl : 20 < n ∨ 200 < len) (hl2 : len ≤ 9223372036854775807) :
    Calls Try.prog 5 #[.int .i64 n, .slice ao len cap] w fun e w' => e = .returned (.bool true) ∧ Below w.heap.size w w' := by
  have HL := Lib.hid hl
  clear hl
  go_enter Try.func5, Try.ntmps5
  go_wp2_with fail
  refine (sNew_ok _ _ hn hn').mono ?_
  rintro e w1 ⟨v, rfl, gs, rfl, g0, hb1, hq1⟩
  have HQ1 := Lib.hid hq1
  have HB1 := Lib.hid hb1
  have hlt1 := hq1.lt
  have hs1 := hb1.size
  clear hq1 hb1
  go_wp2_with fail
  refine (fNew_ok _ _ hn hn').mono ?_
  rintro e w2 ⟨v, rfl, gf, rfl, g1, hb2, hq2⟩
  have HQ2 := Lib.hid hq2
  have HQ1' := Lib.hid (HQ1.out.below hb2)
  have HB2 := Lib.hid (HB1.out.trans (hb2.mono hs1))
  have hlt2 := hq2.lt
  have hs2 := HB2.out.size
  clear hq2 hb2
  by_cases h : 20 < n
  · have d1 : decide ((20 : Int) < (n : Int)) = true := by simp; omega
    clear h
    go_wp2_with (go_at_call 13; refine (known_any _).mono ?_; rintro e w3 ⟨rfl, hb⟩; have HB := Lib.hid (HB2.out.trans (hb.mono HB2.out.size)); clear hb)
    go_ret
    exact ⟨rfl, HB.out⟩
  · have d1 : decide ((20 : Int) < (n : Int)) = false := by simp; omega
    have d2 : decide ((200 : Int) < (len : Int)) = true := by have := HL.out; simp; omega
    clear h
    go_wp2_with (go_at_call 13; refine (known_any _).mono ?_; rintro e w3 ⟨rfl, hb⟩; have HB := Lib.hid (HB2.out.trans (hb.mono HB2.out.size)); clear hb)
    go_ret
    exact ⟨rfl, HB.out⟩

set_option maxRecDepth 100000 in
set_option maxHeartbeats 8000000 in
theorem q_seq (n : Nat) (ao : Option Addr) (len cap : Nat) (B : Nat → Int) (w : World) (hn : 2 ≤ n) (h20 : n ≤ 20) (hl : len ≤ 200) (hB : ∀ i, i < len → ∃ x, ao = some x ∧ w.cell? (x.add i) = some (.int .u8 (B i)) ∧ 0 ≤ B i ∧ B i ≤ 255) :
    Calls Try.prog 5 #[.int .i64 n, .slice ao len cap] w fun e w' => e = .returned (.bool true) ∧ Below w.heap.size w w' := by
  have hn' : n ≤ 4096 := by omega
  have HX := Lib.hid hB
  clear hB
  have d1 : decide ((20 : Int) < (n : Int)) = false := by simp; omega
  have d2 : decide ((200 : Int) < (len : Int)) = false := by simp; omega
  go_enter Try.func5, Try.ntmps5
  go_wp2_with fail
  refine (sNew_ok _ _ hn hn').mono ?_
  rintro e w1 ⟨v, rfl, gs, rfl, g0, hb1, hq1⟩
  have HQ1 := Lib.hid hq1
  have HB1 := Lib.hid hb1
  have hlt1 := hq1.lt
  have hs1 := hb1.size
  clear hq1 hb1
  go_wp2_with fail
  refine (fNew_ok _ _ hn hn').mono ?_
  rintro e w2 ⟨v, rfl, gf, rfl, g1, hb2, hq2⟩
  have HQ2 := Lib.hid hq2
  have HQ1' := Lib.hid (HQ1.out.below hb2)
  have HB2 := Lib.hid (HB1.out.trans (hb2.mono hs1))
  have hlt2 := hq2.lt
  have hs2 := HB2.out.size
  clear hq2 hb2
  go_upto_region 6 with (refine wpList_makeA rfl (.tmp 44) (.tmp 44) 68 rfl 69 (.agg (arr 64 z8)) 64 64 Try.underlying68 info64 n (by first | rfl | simp [Act.eval, Act.put]) (by first | rfl | simp [Act.eval, Act.put]) (by omega) (by omega) ?_)
  obtain ⟨W0, hW⟩ : ∃ x, x = w2.alloc (.cells (madeCells (arr 64 z8) (n * 64)) 69) := ⟨_, rfl⟩
  rw [← hW]
  obtain ⟨bs, hbs⟩ : ∃ x, x = w2.heap.size := ⟨_, rfl⟩
  have hb0 : Below w2.heap.size w2 W0 := by rw [hW]; exact (Below.refl _ _).alloc (Nat.le_refl _) _
  have I0 := Lib.hid (show SC w W0 gs gf bs n 0 0 0 0 0 from
    ⟨by rw [Nat.zero_mod]; exact HQ1'.out.below hb0, by rw [Nat.zero_mod]; exact HQ2.out.below hb0, ⟨_, by have := rowIs_any w2 (madeCells (arr 64 z8) (n * 64)) 69; rw [size_madeCells] at this; rw [hW, hbs]; exact this, fun j _ h => by omega⟩,
      HB2.out.trans (hb0.mono hs2), g0, by omega, by omega, Nat.le_refl _, Nat.le_refl _, Nat.le_refl _, Nat.le_refl _, by omega, by omega⟩)
  rw [← hbs]
  clear hW hb0 hbs HB1 HB2 HQ1 HQ1' HQ2 hlt1 hlt2 hs1 hs2 g0 g1
  go_wp2_with fail
  go_loopw [10, 11, 12] (fun a b i wr => ∃ (k p f tr hr : Nat), k ≤ len ∧ p ≤ k ∧ a = .int .i64 p ∧ b = .int .i64 f ∧ i = .int .i64 k ∧ SC w wr gs gf bs n p p f tr hr) (fun _ _ i _ => len - (intOf i).toNat)
  case atStart => exact ⟨0, 0, 0, 0, 0, Nat.zero_le _, Nat.le_refl _, rfl, rfl, rfl, I0.out⟩
  case round =>
    clear I0
    obtain ⟨k, p, f, tr, hr, hk, hpk, rfl, rfl, rfl, hI⟩ := hrel
    have I0 := Lib.hid hI
    have o1 := hI.o1
    have o2 := hI.o2
    have o3 := hI.o3
    have o5 := hI.o5
    have hn0 := hI.hn
    clear hI
    by_cases hlt : k < len
    · obtain ⟨x, rfl, hc, hb0, hb1⟩ := HX.out k hlt
      have c0 := (I0.out.b.cell (World.block_lt_of_cell? _ _ hc)).trans hc
      generalize B k = d at *
      clear hc
      have m1 : (k : Int) < (len : Int) := by omega

      obtain ⟨st, hst⟩ : ∃ z, z = p % n := ⟨_, rfl⟩
      obtain ⟨fh, hfh⟩ : ∃ z, z = f % n := ⟨_, rfl⟩
      have hstn : st < n := by rw [hst]; exact Nat.mod_lt _ hn0
      have hfhn : fh < n := by rw [hfh]; exact Nat.mod_lt _ hn0
      have HQS := Lib.hid hst
      have HQF := Lib.hid hfh
      clear hst hfh
      have q0 : (0 : Int) ≤ (st : Int) := by omega
      have q1 : (st : Int) < (n : Int) := by omega
      have q2 : (0 : Int) ≤ (fh : Int) := by omega
      have q3 : (fh : Int) < (n : Int) := by omega
      have HT := Lib.hid (show ∀ w, QAt 91 3 w gs n (hr % n) (p % n) true → Calls Try.prog 32 #[.pointer (some ⟨gs, 0, none⟩)] w fun e w' => e = .returned (.int .i64 (st : Nat)) ∧ Below w.heap.size w w' from fun w q => by rw [HQS.out]; exact sTail_ok _ _ _ _ _ _ _ _ q)
      have HRG := Lib.hid (show ∀ w, QAt 93 3 w gf n (f % n) (tr % n) true → Calls Try.prog 18 #[.pointer (some ⟨gf, 0, none⟩), .int .i64 (st : Nat)] w fun e w' => e = .returned (.int .i64 0) ∧ Keeps (One gf) w w' ∧ QAt 93 3 w' gf n (f % n) (p % n) true from fun w q => by
        obtain ⟨e1, e2⟩ := ring_mod (n := n) (f := f) (tr := tr) (p := p) hn0 o2 o3 (by omega)
        have := fRing_any 93 3 gf n (f % n) (tr % n) true ((p % n : Nat) : Int) w q
        rw [e1, e2] at this
        rw [HQS.out]; exact this)
      have hp2 : p ≤ 200 := by omega
      have hf2 : f ≤ 200 := by omega
      obtain ⟨r, hr6⟩ : ∃ r : Nat, d % 6 = (r : Int) := ⟨(d % 6).toNat, by omega⟩
      have hr5 : r = 0 ∨ r = 1 ∨ r = 2 ∨ r = 3 ∨ r = 4 ∨ r = 5 := by omega
      rcases hr5 with rfl | rfl | rfl | rfl | rfl | rfl
      · have r6 : d % 6 = 0 := hr6
        clear hr6
        by_cases hf : p + 1 < hr + n
        · obtain ⟨A, hA⟩ : ∃ z, z = cmdE (pCmd p) := ⟨_, rfl⟩
          have HPU := Lib.hid (show ∀ w, QAt 91 3 w gs n (hr % n) (p % n) true → Calls Try.prog 30 #[.pointer (some ⟨gs, 0, none⟩), .agg (pCmd p).cells] w fun e w' => e = .returned (.tuple #[.int .i64 (st : Nat), .agg A, .int .i64 0]) ∧ Keeps (One gs) w w' ∧ QAt 91 3 w' gs n (hr % n) ((p + 1) % n) true from fun w q => by
            obtain ⟨e1, e2, e3, e4⟩ := ps_ok hn0 (show hr ≤ p by omega) hf
            have := sPush_any 91 gs n (hr % n) (p % n) true (pCmd p) w q (pCmd_ok p hp2)
            rw [e1, e2, e3, e4] at this
            rw [HQS.out, hA]; exact this)
          have HAB := Lib.hid (show BytesA 64 A by rw [hA]; exact cmdE_bytes _)
          have HAS := Lib.hid (show (Try.prog.info? 69).map (·.size) = some A.size by rw [HAB.out.size]; exact size64)
          have HA0 := Lib.hid (show A.getD 0 undef = .int .u8 1 by rw [hA, cmdE_get _ 0 (by omega)]; rfl)
          have HA2 := Lib.hid (show A.getD 2 undef = .int .u8 ((p : Int) % 256) by rw [hA, cmdE_get _ 2 (by omega)]; rfl)
          clear hA
          go_upto_region 14 with (first
            | ((with_reducible show wpList _ _ _ (⟨some 64, _, _, _, _, _⟩ :: _) _ _); refine wpList_build2 rfl 38 0 3 _ (.tmp 63) rfl (.int .u8 1) (.int .u16 p) rfl (by first | rfl | simp [Act.eval, Act.put]) (build_pCmd _ _) ?_)
            | (go_at_call 30; refine (HPU.out _ I0.out.s).mono ?_; rintro e w5 ⟨rfl, hk2, hq2⟩; have I1' := Lib.hid (I0.out.sk hk2 hq2 o1 (by omega) hf); clear hk2 hq2)
            | ((with_reducible show wpList _ _ _ (⟨some 14, _, _, _, _, _⟩ :: _) _ _); refine wpList_alloc rfl 69 rfl zero64 ?_; rw [show (Value.agg (arr 64 z8)).cells = arr 64 z8 from rfl])
            | ((with_reducible show wpList _ _ _ (⟨none, .store _ (.tmp 14) _, _, _, _, _⟩ :: _) _ _); refine wpList_storeA rfl (b := w5.heap.size) (A := arr 64 z8) (A' := A) (fr64 w5) 69 (.tmp 14) (.tmp 67) rfl (by simp [Act.eval, Act.put]) (by simp [Act.eval, Act.put]) sz64 (by rw [arr_size, HAB.out.size]) HAB.out.one ?_))
          obtain ⟨w6, hw⟩ : ∃ z, z = (w5.alloc (.cells (arr 64 z8) 69)).setCells w5.heap.size 0 A.toList := ⟨_, rfl⟩
          rw [← hw]
          have A14 := Lib.hid (show ArrAt w6 w5.heap.size A by rw [hw]; exact (fr64 w5).store A (by rw [arr_size, HAB.out.size]))
          have I1 := Lib.hid (I1'.out.below (show Below w5.heap.size w5 w6 by rw [hw]; exact set64 _ _))
          clear hw I1'
          go_upto_region 18 with (first
            | ((with_reducible show wpList _ _ _ (⟨some 89, _, _, _, _, _⟩ :: _) _ _); refine wpList_loadA rfl A14.out 69 (.tmp 14) rfl (by first | rfl | simp [Act.eval, Act.put]) Try.underlying69 rfl HAS.out ?_)
            | ((with_reducible show wpList _ _ _ (⟨none, .store _ (.tmp 90) _, _, _, _, _⟩ :: _) _ _); refine wpList_store_mid rfl 69 (.tmp 90) (.tmp 89) rfl bs (st * 64) A (by first | rfl | simp [Act.eval, Act.put]) (by first | rfl | simp [Act.eval, Act.put]) (by rw [HAB.out.size]; exact I1.out.there hstn) (by rw [HAB.out.size]; exact size64) HAB.out.one ?_))
          obtain ⟨w7, hw⟩ : ∃ z, z = w6.setCells bs (st * 64) A.toList := ⟨_, rfl⟩
          rw [← hw]
          have I2 := Lib.hid (show SC w w7 gs gf bs n (p + 1) (p + 1) f tr hr by rw [hw, HQS.out]; exact I1.out.put A HAB.out.size HA0.out HA2.out)
          clear hw
          go_wp2_with fail
          go_roundw
          case rel => exact ⟨k + 1, p + 1, f, tr, hr, by omega, by omega, by go_num, rfl, by go_num, I2.out⟩
          case measure => simp [intOf]; omega
        · have HPU := Lib.hid (show ∀ w, QAt 91 3 w gs n (hr % n) (p % n) true → Calls Try.prog 30 #[.pointer (some ⟨gs, 0, none⟩), .agg (pCmd p).cells] w fun e w' => e = .returned (.tuple #[.int .i64 0, .agg (arr 64 z8), .int .i64 7]) ∧ Keeps (One gs) w w' ∧ QAt 91 3 w' gs n (hr % n) (p % n) true from fun w q => by
            obtain ⟨e1, e2, e3, e4⟩ := ps_full hn0 (show hr ≤ p by omega) (show p + 1 = hr + n by omega)
            have := sPush_any 91 gs n (hr % n) (p % n) true (pCmd p) w q (pCmd_ok p hp2)
            rw [e1, e2, e3, e4] at this
            exact this)
          have HFR := Lib.hid (show ∀ w, QAt 91 3 w gs n (hr % n) (p % n) true → Calls Try.prog 31 #[.pointer (some ⟨gs, 0, none⟩)] w fun e w' => e = .returned (.int .i64 0) ∧ Below w.heap.size w w' from fun w q => by
            have := sFree_ok 91 3 gs n (hr % n) (p % n) true w q
            rw [usd_mod hn0 (show hr ≤ p by omega) o5, show (n : Int) - 1 - ((p - hr : Nat) : Int) = 0 by omega] at this
            exact this)
          go_upto_region 14 with (first
            | ((with_reducible show wpList _ _ _ (⟨some 64, _, _, _, _, _⟩ :: _) _ _); refine wpList_build2 rfl 38 0 3 _ (.tmp 63) rfl (.int .u8 1) (.int .u16 p) rfl (by first | rfl | simp [Act.eval, Act.put]) (build_pCmd _ _) ?_)
            | (go_at_call 30; refine (HPU.out _ I0.out.s).mono ?_; rintro e w5 ⟨rfl, hk2, hq2⟩; have I1' := Lib.hid (I0.out.sk hk2 hq2 o1 (Nat.le_refl _) o5); clear hk2 hq2)
            | ((with_reducible show wpList _ _ _ (⟨some 14, _, _, _, _, _⟩ :: _) _ _); refine wpList_alloc rfl 69 rfl zero64 ?_; rw [show (Value.agg (arr 64 z8)).cells = arr 64 z8 from rfl])
            | ((with_reducible show wpList _ _ _ (⟨none, .store _ (.tmp 14) _, _, _, _, _⟩ :: _) _ _); refine wpList_storeA rfl (b := w5.heap.size) (A := arr 64 z8) (A' := arr 64 z8) (fr64 w5) 69 (.tmp 14) (.tmp 67) rfl (by simp [Act.eval, Act.put]) (by simp [Act.eval, Act.put]) sz64 rfl z8_bytes.one ?_))
          obtain ⟨w6, hw⟩ : ∃ z, z = (w5.alloc (.cells (arr 64 z8) 69)).setCells w5.heap.size 0 (arr 64 z8).toList := ⟨_, rfl⟩
          rw [← hw]
          have I1 := Lib.hid (I1'.out.below (show Below w5.heap.size w5 w6 by rw [hw]; exact set64 _ _))
          clear hw I1'
          go_wp2_with (go_at_call 31; refine (HFR.out _ I1.out.s).mono ?_; rintro e w8 ⟨rfl, hb⟩; have I2 := Lib.hid (I1.out.below hb); clear hb)
          go_roundw
          case rel => exact ⟨k + 1, p, f, tr, hr, by omega, by omega, rfl, rfl, by go_num, I2.out⟩
          case measure => simp [intOf]; omega
      · have r6 : d % 6 = 1 := hr6
        clear hr6
        by_cases hf : p + 1 < hr + n
        · obtain ⟨A, hA⟩ : ∃ z, z = cmdE (pCmd p) := ⟨_, rfl⟩
          have HPU := Lib.hid (show ∀ w, QAt 91 3 w gs n (hr % n) (p % n) true → Calls Try.prog 30 #[.pointer (some ⟨gs, 0, none⟩), .agg (pCmd p).cells] w fun e w' => e = .returned (.tuple #[.int .i64 (st : Nat), .agg A, .int .i64 0]) ∧ Keeps (One gs) w w' ∧ QAt 91 3 w' gs n (hr % n) ((p + 1) % n) true from fun w q => by
            obtain ⟨e1, e2, e3, e4⟩ := ps_ok hn0 (show hr ≤ p by omega) hf
            have := sPush_any 91 gs n (hr % n) (p % n) true (pCmd p) w q (pCmd_ok p hp2)
            rw [e1, e2, e3, e4] at this
            rw [HQS.out, hA]; exact this)
          have HAB := Lib.hid (show BytesA 64 A by rw [hA]; exact cmdE_bytes _)
          have HAS := Lib.hid (show (Try.prog.info? 69).map (·.size) = some A.size by rw [HAB.out.size]; exact size64)
          have HA0 := Lib.hid (show A.getD 0 undef = .int .u8 1 by rw [hA, cmdE_get _ 0 (by omega)]; rfl)
          have HA2 := Lib.hid (show A.getD 2 undef = .int .u8 ((p : Int) % 256) by rw [hA, cmdE_get _ 2 (by omega)]; rfl)
          clear hA
          go_upto_region 14 with (first
            | ((with_reducible show wpList _ _ _ (⟨some 64, _, _, _, _, _⟩ :: _) _ _); refine wpList_build2 rfl 38 0 3 _ (.tmp 63) rfl (.int .u8 1) (.int .u16 p) rfl (by first | rfl | simp [Act.eval, Act.put]) (build_pCmd _ _) ?_)
            | (go_at_call 30; refine (HPU.out _ I0.out.s).mono ?_; rintro e w5 ⟨rfl, hk2, hq2⟩; have I1' := Lib.hid (I0.out.sk hk2 hq2 o1 (by omega) hf); clear hk2 hq2)
            | ((with_reducible show wpList _ _ _ (⟨some 14, _, _, _, _, _⟩ :: _) _ _); refine wpList_alloc rfl 69 rfl zero64 ?_; rw [show (Value.agg (arr 64 z8)).cells = arr 64 z8 from rfl])
            | ((with_reducible show wpList _ _ _ (⟨none, .store _ (.tmp 14) _, _, _, _, _⟩ :: _) _ _); refine wpList_storeA rfl (b := w5.heap.size) (A := arr 64 z8) (A' := A) (fr64 w5) 69 (.tmp 14) (.tmp 67) rfl (by simp [Act.eval, Act.put]) (by simp [Act.eval, Act.put]) sz64 (by rw [arr_size, HAB.out.size]) HAB.out.one ?_))
          obtain ⟨w6, hw⟩ : ∃ z, z = (w5.alloc (.cells (arr 64 z8) 69)).setCells w5.heap.size 0 A.toList := ⟨_, rfl⟩
          rw [← hw]
          have A14 := Lib.hid (show ArrAt w6 w5.heap.size A by rw [hw]; exact (fr64 w5).store A (by rw [arr_size, HAB.out.size]))
          have I1 := Lib.hid (I1'.out.below (show Below w5.heap.size w5 w6 by rw [hw]; exact set64 _ _))
          clear hw I1'
          go_upto_region 18 with (first
            | ((with_reducible show wpList _ _ _ (⟨some 89, _, _, _, _, _⟩ :: _) _ _); refine wpList_loadA rfl A14.out 69 (.tmp 14) rfl (by first | rfl | simp [Act.eval, Act.put]) Try.underlying69 rfl HAS.out ?_)
            | ((with_reducible show wpList _ _ _ (⟨none, .store _ (.tmp 90) _, _, _, _, _⟩ :: _) _ _); refine wpList_store_mid rfl 69 (.tmp 90) (.tmp 89) rfl bs (st * 64) A (by first | rfl | simp [Act.eval, Act.put]) (by first | rfl | simp [Act.eval, Act.put]) (by rw [HAB.out.size]; exact I1.out.there hstn) (by rw [HAB.out.size]; exact size64) HAB.out.one ?_))
          obtain ⟨w7, hw⟩ : ∃ z, z = w6.setCells bs (st * 64) A.toList := ⟨_, rfl⟩
          rw [← hw]
          have I2 := Lib.hid (show SC w w7 gs gf bs n (p + 1) (p + 1) f tr hr by rw [hw, HQS.out]; exact I1.out.put A HAB.out.size HA0.out HA2.out)
          clear hw
          go_wp2_with fail
          go_roundw
          case rel => exact ⟨k + 1, p + 1, f, tr, hr, by omega, by omega, by go_num, rfl, by go_num, I2.out⟩
          case measure => simp [intOf]; omega
        · have HPU := Lib.hid (show ∀ w, QAt 91 3 w gs n (hr % n) (p % n) true → Calls Try.prog 30 #[.pointer (some ⟨gs, 0, none⟩), .agg (pCmd p).cells] w fun e w' => e = .returned (.tuple #[.int .i64 0, .agg (arr 64 z8), .int .i64 7]) ∧ Keeps (One gs) w w' ∧ QAt 91 3 w' gs n (hr % n) (p % n) true from fun w q => by
            obtain ⟨e1, e2, e3, e4⟩ := ps_full hn0 (show hr ≤ p by omega) (show p + 1 = hr + n by omega)
            have := sPush_any 91 gs n (hr % n) (p % n) true (pCmd p) w q (pCmd_ok p hp2)
            rw [e1, e2, e3, e4] at this
            exact this)
          have HFR := Lib.hid (show ∀ w, QAt 91 3 w gs n (hr % n) (p % n) true → Calls Try.prog 31 #[.pointer (some ⟨gs, 0, none⟩)] w fun e w' => e = .returned (.int .i64 0) ∧ Below w.heap.size w w' from fun w q => by
            have := sFree_ok 91 3 gs n (hr % n) (p % n) true w q
            rw [usd_mod hn0 (show hr ≤ p by omega) o5, show (n : Int) - 1 - ((p - hr : Nat) : Int) = 0 by omega] at this
            exact this)
          go_upto_region 14 with (first
            | ((with_reducible show wpList _ _ _ (⟨some 64, _, _, _, _, _⟩ :: _) _ _); refine wpList_build2 rfl 38 0 3 _ (.tmp 63) rfl (.int .u8 1) (.int .u16 p) rfl (by first | rfl | simp [Act.eval, Act.put]) (build_pCmd _ _) ?_)
            | (go_at_call 30; refine (HPU.out _ I0.out.s).mono ?_; rintro e w5 ⟨rfl, hk2, hq2⟩; have I1' := Lib.hid (I0.out.sk hk2 hq2 o1 (Nat.le_refl _) o5); clear hk2 hq2)
            | ((with_reducible show wpList _ _ _ (⟨some 14, _, _, _, _, _⟩ :: _) _ _); refine wpList_alloc rfl 69 rfl zero64 ?_; rw [show (Value.agg (arr 64 z8)).cells = arr 64 z8 from rfl])
            | ((with_reducible show wpList _ _ _ (⟨none, .store _ (.tmp 14) _, _, _, _, _⟩ :: _) _ _); refine wpList_storeA rfl (b := w5.heap.size) (A := arr 64 z8) (A' := arr 64 z8) (fr64 w5) 69 (.tmp 14) (.tmp 67) rfl (by simp [Act.eval, Act.put]) (by simp [Act.eval, Act.put]) sz64 rfl z8_bytes.one ?_))
          obtain ⟨w6, hw⟩ : ∃ z, z = (w5.alloc (.cells (arr 64 z8) 69)).setCells w5.heap.size 0 (arr 64 z8).toList := ⟨_, rfl⟩
          rw [← hw]
          have I1 := Lib.hid (I1'.out.below (show Below w5.heap.size w5 w6 by rw [hw]; exact set64 _ _))
          clear hw I1'
          go_wp2_with (go_at_call 31; refine (HFR.out _ I1.out.s).mono ?_; rintro e w8 ⟨rfl, hb⟩; have I2 := Lib.hid (I1.out.below hb); clear hb)
          go_roundw
          case rel => exact ⟨k + 1, p, f, tr, hr, by omega, by omega, rfl, rfl, by go_num, I2.out⟩
          case measure => simp [intOf]; omega
      · have r6 : d % 6 = 2 := hr6
        clear hr6
        go_wp2_with (first
          | (go_at_call 32; refine (HT.out _ I0.out.s).mono ?_; rintro e w5 ⟨rfl, hb⟩; have I1 := Lib.hid (I0.out.below hb); clear hb)
          | (go_at_call 18; refine (HRG.out _ I1.out.q).mono ?_; rintro e w6 ⟨rfl, hk2, hq2⟩; have I2 := Lib.hid (I1.out.fk hk2 hq2 (Nat.le_refl _) (by omega) (Nat.le_refl _)); clear hk2 hq2))
        go_roundw
        case rel => exact ⟨k + 1, p, f, p, hr, by omega, by omega, rfl, rfl, by go_num, I2.out⟩
        case measure => simp [intOf]; omega
      · have r6 : d % 6 = 3 := hr6
        clear hr6
        by_cases hf : f = tr
        · have HNX := Lib.hid (show ∀ w, QAt 93 3 w gf n (f % n) (tr % n) true → Calls Try.prog 15 #[.pointer (some ⟨gf, 0, none⟩)] w fun e w' => e = .returned (.tuple #[.int .i64 0, .int .i64 9]) ∧ Keeps (One gf) w w' ∧ QAt 93 3 w' gf n (f % n) (tr % n) true from fun w q => by
            obtain ⟨e1, e2, e3⟩ := next_none n tr
            have := fNext_any 93 3 gf n (f % n) (tr % n) true w q
            rw [hf] at this
            rw [e1, e2, e3] at this
            rw [hf]; exact this)
          clear hf
          go_wp2_with (go_at_call 15; refine (HNX.out _ I0.out.q).mono ?_; rintro e w5 ⟨rfl, hk2, hq2⟩; have I1 := Lib.hid (I0.out.fk hk2 hq2 (Nat.le_refl _) o2 o3); clear hk2 hq2)
          go_roundw
          case rel => exact ⟨k + 1, p, f, tr, hr, by omega, by omega, rfl, rfl, by go_num, I1.out⟩
          case measure => simp [intOf]; omega
        · have hftr : f < tr := by omega
          have HNX := Lib.hid (show ∀ w, QAt 93 3 w gf n (f % n) (tr % n) true → Calls Try.prog 15 #[.pointer (some ⟨gf, 0, none⟩)] w fun e w' => e = .returned (.tuple #[.int .i64 (fh : Nat), .int .i64 0]) ∧ Keeps (One gf) w w' ∧ QAt 93 3 w' gf n ((f + 1) % n) (tr % n) true from fun w q => by
            obtain ⟨e1, e2, e3⟩ := next_mod (n := n) (f := f) (tr := tr) hn0 hftr (by omega)
            have := fNext_any 93 3 gf n (f % n) (tr % n) true w q
            rw [e1, e2, e3] at this
            rw [HQF.out]; exact this)
          have HCL := Lib.hid (I0.out.cells (by omega))
          rw [← HQF.out] at HCL
          have hbs := I0.out.lt
          have hbf := I0.out.h2
          go_upto_region 25 with (go_at_call 15; refine (HNX.out _ I0.out.q).mono ?_; rintro e w5 ⟨rfl, hk2, hq2⟩; have I1 := Lib.hid (I0.out.fk hk2 hq2 (Nat.le_succ _) (by omega) o3); have HK2 := Lib.hid (hk2.block bs hbs (fun e => by have e : bs = gf := e; omega)); clear hk2 hq2)
          have e1 : w5.cell? ⟨bs, fh * 64, none⟩ = some (.int .u8 1) := (World.cell?_of_block (w := wr) (a := ⟨bs, fh * 64, none⟩) HK2.out).trans HCL.out.1
          have e2 : w5.cell? ⟨bs, fh * 64 + 2, none⟩ = some (.int .u8 ((f : Int) % 256)) := (World.cell?_of_block (w := wr) (a := ⟨bs, fh * 64 + 2, none⟩) HK2.out).trans HCL.out.2
          rw [show (f : Int) % 256 = (f : Int) by omega] at e2
          go_wp2_with fail
          go_roundw
          case rel => exact ⟨k + 1, p, f + 1, tr, hr, by omega, by omega, rfl, by go_num, by go_num, I1.out⟩
          case measure => simp [intOf]; omega
      · have r6 : d % 6 = 4 := hr6
        clear hr6
        by_cases hf : f = tr
        · have HNX := Lib.hid (show ∀ w, QAt 93 3 w gf n (f % n) (tr % n) true → Calls Try.prog 15 #[.pointer (some ⟨gf, 0, none⟩)] w fun e w' => e = .returned (.tuple #[.int .i64 0, .int .i64 9]) ∧ Keeps (One gf) w w' ∧ QAt 93 3 w' gf n (f % n) (tr % n) true from fun w q => by
            obtain ⟨e1, e2, e3⟩ := next_none n tr
            have := fNext_any 93 3 gf n (f % n) (tr % n) true w q
            rw [hf] at this
            rw [e1, e2, e3] at this
            rw [hf]; exact this)
          clear hf
          go_wp2_with (go_at_call 15; refine (HNX.out _ I0.out.q).mono ?_; rintro e w5 ⟨rfl, hk2, hq2⟩; have I1 := Lib.hid (I0.out.fk hk2 hq2 (Nat.le_refl _) o2 o3); clear hk2 hq2)
          go_roundw
          case rel => exact ⟨k + 1, p, f, tr, hr, by omega, by omega, rfl, rfl, by go_num, I1.out⟩
          case measure => simp [intOf]; omega
        · have hftr : f < tr := by omega
          have HNX := Lib.hid (show ∀ w, QAt 93 3 w gf n (f % n) (tr % n) true → Calls Try.prog 15 #[.pointer (some ⟨gf, 0, none⟩)] w fun e w' => e = .returned (.tuple #[.int .i64 (fh : Nat), .int .i64 0]) ∧ Keeps (One gf) w w' ∧ QAt 93 3 w' gf n ((f + 1) % n) (tr % n) true from fun w q => by
            obtain ⟨e1, e2, e3⟩ := next_mod (n := n) (f := f) (tr := tr) hn0 hftr (by omega)
            have := fNext_any 93 3 gf n (f % n) (tr % n) true w q
            rw [e1, e2, e3] at this
            rw [HQF.out]; exact this)
          have HCL := Lib.hid (I0.out.cells (by omega))
          rw [← HQF.out] at HCL
          have hbs := I0.out.lt
          have hbf := I0.out.h2
          go_upto_region 25 with (go_at_call 15; refine (HNX.out _ I0.out.q).mono ?_; rintro e w5 ⟨rfl, hk2, hq2⟩; have I1 := Lib.hid (I0.out.fk hk2 hq2 (Nat.le_succ _) (by omega) o3); have HK2 := Lib.hid (hk2.block bs hbs (fun e => by have e : bs = gf := e; omega)); clear hk2 hq2)
          have e1 : w5.cell? ⟨bs, fh * 64, none⟩ = some (.int .u8 1) := (World.cell?_of_block (w := wr) (a := ⟨bs, fh * 64, none⟩) HK2.out).trans HCL.out.1
          have e2 : w5.cell? ⟨bs, fh * 64 + 2, none⟩ = some (.int .u8 ((f : Int) % 256)) := (World.cell?_of_block (w := wr) (a := ⟨bs, fh * 64 + 2, none⟩) HK2.out).trans HCL.out.2
          rw [show (f : Int) % 256 = (f : Int) by omega] at e2
          go_wp2_with fail
          go_roundw
          case rel => exact ⟨k + 1, p, f + 1, tr, hr, by omega, by omega, rfl, by go_num, by go_num, I1.out⟩
          case measure => simp [intOf]; omega
      · have r6 : d % 6 = 5 := hr6
        clear hr6
        have HFH := Lib.hid (show ∀ w, QAt 93 3 w gf n (f % n) (tr % n) true → Calls Try.prog 19 #[.pointer (some ⟨gf, 0, none⟩)] w fun e w' => e = .returned (.int .i64 (fh : Nat)) ∧ Below w.heap.size w w' from fun w q => by rw [HQF.out]; exact fHead_ok _ _ _ _ _ _ _ _ q)
        have HHD := Lib.hid (show ∀ w, QAt 91 3 w gs n (hr % n) (p % n) true → Calls Try.prog 33 #[.pointer (some ⟨gs, 0, none⟩), .int .i64 (fh : Nat)] w fun e w' => e = .returned (.int .i64 0) ∧ Keeps (One gs) w w' ∧ QAt 91 3 w' gs n (f % n) (p % n) true from fun w q => by
          obtain ⟨e1, e2⟩ := head_mod (n := n) (hr := hr) (f := f) (p := p) hn0 o1 (by omega) o5
          have := sHead_any 91 3 gs n (hr % n) (p % n) true ((f % n : Nat) : Int) w q
          rw [e1, e2] at this
          rw [HQF.out]; exact this)
        go_wp2_with (first
          | (go_at_call 19; refine (HFH.out _ I0.out.q).mono ?_; rintro e w5 ⟨rfl, hb⟩; have I1 := Lib.hid (I0.out.below hb); clear hb)
          | (go_at_call 33; refine (HHD.out _ I1.out.s).mono ?_; rintro e w6 ⟨rfl, hk2, hq2⟩; have I2 := Lib.hid (I1.out.sk hk2 hq2 (Nat.le_refl _) (Nat.le_refl _) (by omega)); clear hk2 hq2))
        go_roundw
        case rel => exact ⟨k + 1, p, f, tr, f, by omega, by omega, rfl, rfl, by go_num, I2.out⟩
        case measure => simp [intOf]; omega
    · obtain rfl : k = len := by omega
      obtain ⟨st, hst⟩ : ∃ z, z = p % n := ⟨_, rfl⟩
      obtain ⟨fh, hfh⟩ : ∃ z, z = f % n := ⟨_, rfl⟩
      have hstn : st < n := by rw [hst]; exact Nat.mod_lt _ hn0
      have hfhn : fh < n := by rw [hfh]; exact Nat.mod_lt _ hn0
      have HQS := Lib.hid hst
      have HQF := Lib.hid hfh
      clear hst hfh
      have q0 : (0 : Int) ≤ (st : Int) := by omega
      have q1 : (st : Int) < (n : Int) := by omega
      have q2 : (0 : Int) ≤ (fh : Int) := by omega
      have q3 : (fh : Int) < (n : Int) := by omega
      have HT := Lib.hid (show ∀ w, QAt 91 3 w gs n (hr % n) (p % n) true → Calls Try.prog 32 #[.pointer (some ⟨gs, 0, none⟩)] w fun e w' => e = .returned (.int .i64 (st : Nat)) ∧ Below w.heap.size w w' from fun w q => by rw [HQS.out]; exact sTail_ok _ _ _ _ _ _ _ _ q)
      have HRG := Lib.hid (show ∀ w, QAt 93 3 w gf n (f % n) (tr % n) true → Calls Try.prog 18 #[.pointer (some ⟨gf, 0, none⟩), .int .i64 (st : Nat)] w fun e w' => e = .returned (.int .i64 0) ∧ Keeps (One gf) w w' ∧ QAt 93 3 w' gf n (f % n) (p % n) true from fun w q => by
        obtain ⟨e1, e2⟩ := ring_mod (n := n) (f := f) (tr := tr) (p := p) hn0 o2 o3 (by omega)
        have := fRing_any 93 3 gf n (f % n) (tr % n) true ((p % n : Nat) : Int) w q
        rw [e1, e2] at this
        rw [HQS.out]; exact this)
      have HW := Lib.hid (show ∀ w, QAt 93 3 w gf n (f % n) (p % n) true → Calls Try.prog 20 #[.pointer (some ⟨gf, 0, none⟩)] w fun e w' => e = .returned (.int .i64 ((p : Int) - (f : Int))) ∧ Below w.heap.size w w' from fun w q => by
        have := fWaiting_ok 93 3 gf n (f % n) (p % n) true w q
        rw [usd_mod hn0 (show f ≤ p by omega) (by omega), show ((p - f : Nat) : Int) = (p : Int) - (f : Int) by omega] at this
        exact this)
      go_wp2_with (first
        | (go_at_call 32; refine (HT.out _ I0.out.s).mono ?_; rintro e w5 ⟨rfl, hb⟩; have I1 := Lib.hid (I0.out.below hb); clear hb)
        | (go_at_call 18; refine (HRG.out _ I1.out.q).mono ?_; rintro e w6 ⟨rfl, hk2, hq2⟩; have I2 := Lib.hid (I1.out.fk hk2 hq2 (Nat.le_refl _) (by omega) (Nat.le_refl _)); clear hk2 hq2)
        | (go_at_call 20; refine (HW.out _ I2.out.q).mono ?_; rintro e w7 ⟨rfl, hb⟩; have I3 := Lib.hid (I2.out.below hb); clear hb)
        | (go_at_call 13; refine (known_any _).mono ?_; rintro e w8 ⟨rfl, hb⟩; have HB := Lib.hid (I3.out.b.trans (hb.mono I3.out.b.size)); clear hb))
      go_ret
      exact ⟨rfl, HB.out⟩
theorem q_any (size : Int) (ao : Option Addr) (len cap : Nat) (zs : List Int) (w : World) (_h1 : (Lit.int .i64 size).wf = true) (h2 : IsRow .u8 w ao len cap zs) :
    Calls Try.prog 5 #[.int .i64 size, .slice ao len cap] w fun e w' => e = .returned (.bool true) ∧ Below w.heap.size w w' := by
  have hlen : len ≤ 9223372036854775807 := by
    rcases h2 with ⟨-, h, -, -⟩ | ⟨x, -, h, h', -⟩
    · omega
    · unfold maxLen at h'; omega
  by_cases h : 2 ≤ size ∧ size ≤ 4096
  · obtain ⟨n, rfl⟩ := Int.eq_ofNat_of_zero_le (show 0 ≤ size by omega)
    by_cases hl : n ≤ 20 ∧ len ≤ 200
    · refine q_seq n ao len cap (fun i => zs.getD i 0) w (by omega) hl.1 hl.2 fun i hi => ?_
      rcases h2 with ⟨rfl, rfl, rfl, rfl⟩ | ⟨x, rfl, h1, h2, h3, h4, h5⟩
      · omega
      · have hm : zs.getD i 0 ∈ zs := by
          have : i < zs.length := by omega
          simp [this]
        have := h5 _ hm
        simp only [Lit.wf, Bool.and_eq_true, decide_eq_true_eq] at this
        exact ⟨x, rfl, h4 i (by omega), this⟩
    · exact q_long n ao len cap w (by omega) (by omega) (by omega) hlen
  · exact q_bad size ao len cap w (by omega)
end Go.Proofs.Ytpoeepdpoblfcaa
