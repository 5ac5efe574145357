/- memory: act: a write. -/
import Derived.Test.YtobbnfdflogicaaU
namespace Go.Proofs.Ytobbnfdflogicaa
open Go.RowKit
attribute [local go_sem ↓] Go.wp_at_zero Go.wp_at_succ

set_option maxRecDepth 100000 in
set_option maxHeartbeats 4000000 in
theorem act_write0_some (S : Nat → Prop) (b B : Nat) (v : Value) (n : Nat) (f : Nat → Int) (L : List (Nat × Nat)) (k addr : Int) (xo : Option Addr) (xl xc : Nat) (val : Int) (w : World) (hM : MemAt w b B n f L) (hR : RefAt S w v n f L) (hSb : S b) (hSB : S B) (hS : ∀ j, S j → j < w.heap.size) (ha : 0 ≤ addr) (ha' : addr ≤ 18446744073709551615) (hL : L.length ≤ 999) (s : Nat → Int) (hs : Src S w xo xl s) (hxl : xl ≤ 5000) (hxs : ∃ xad, xo = some xad) :
   Calls Try.prog 21 #[.pointer (some ⟨b, 0, none⟩), v, .agg (actCells 0 k addr xo xl xc val).toArray] w (ActPost S b B n L w) := by
  have HR := Lib.hid hR
  obtain ⟨ao, c, al, cl, rfl, h2, h3, h4, h5, h6, h7, h8⟩ := hR
  have HM := Lib.hid hM
  have hn4 := hM.small
  clear h6 h7 h8 hM
  obtain ⟨xad, rfl⟩ := hxs
  obtain ⟨i0, hi, hz0, hz1, hz2⟩ := info_parts infoU8
  have HSX := Lib.hid hs
  clear hs
  have hws : ∀ W : World, (W.alloc (.cells #[] 5)).ownsRow W.heap.size 5 1 (.slice (some ⟨W.heap.size, 0, none⟩) 0 0) 0 [] := fun W =>
    ⟨rfl, .inr ⟨W.heap.size, 0, #[], rfl, Nat.le_refl _, heap_alloc_new _ _, Nat.le_refl _, by simp [maxLen], rfl, rfl⟩⟩
  have HWS := Lib.hid hws
  clear hws
  show Calls Try.prog 21 #[_, _, .agg #[.int .i64 0, .int .i64 k, .int .u64 addr, .slice (some xad) xl xc, .int .u8 val]] w _
  go_enter Try.func21, Try.ntmps21
  go_upto_region 4 with (fail)
  obtain ⟨w3, hw3⟩ : ∃ w3, w3 = ((w.alloc (.cells #[.slice (some ao) n c, .slice al L.length cl] 52)).alloc (.cells #[.int .i64 0, .int .i64 k, .int .u64 addr, .slice (some xad) xl xc, .int .u8 val] 58)).alloc (.cells #[.slice none 0 0, .slice none 0 0] 52) := ⟨_, rfl⟩
  rw [← hw3]
  have hI := act_start HM.out hw3
  clear hw3
  have hb0 := HM.out.lt
  have hB0 := HM.out.lt'
  have hH := hI.res.lt
  have hH1 : w.heap.size + 1 < w3.heap.size := by omega
  have hH0 : w.heap.size < w3.heap.size := by omega
  have q0 : w3.cell? ⟨w.heap.size, 0, none⟩ = some (.slice (some ao) n c) := hI.box4.cell (i := 0) (by omega)
  have q1 : w3.cell? ⟨w.heap.size, 1, none⟩ = some (.slice al L.length cl) := hI.box4.cell (i := 1) (by omega)
  have s0 := hI.res.cell (i := 0) (by omega)
  have s1 := hI.res.cell (i := 1) (by omega)
  have z0 := hI.res.frozen 0
  have z1 := hI.res.frozen 1
  have x1 : w3.cell? ⟨w.heap.size + 1, 1, none⟩ = some (.int .i64 k) := hI.box5.cell (i := 1) (by omega)
  have x2 : w3.cell? ⟨w.heap.size + 1, 2, none⟩ = some (.int .u64 addr) := hI.box5.cell (i := 2) (by omega)
  have x3 : w3.cell? ⟨w.heap.size + 1, 3, none⟩ = some (.slice (some xad) xl xc) := hI.box5.cell (i := 3) (by omega)
  have x4 : w3.cell? ⟨w.heap.size + 1, 4, none⟩ = some (.int .u8 val) := hI.box5.cell (i := 4) (by omega)
  have HI := Lib.hid hI
  clear hI
  go_wp2_with (at_builtin; go_loud (refine wpList_append_own _ rfl _ _ 33 rfl w3.heap.size 5 i0 (.int .u8 0) 1 1 Try.underlying33 hi hz0 hz1 hz2 rfl (by decide) _ _ _ rfl (HWS.out w3) xad xl xc ((List.range xl).map fun i => .int .u8 (s i)) rfl (by simp) ?c1 ?c2 ?c3 ?c4 ?c5 ?_))
  case c1 =>
    intro j u hu
    simp only [List.getElem?_map, Option.map_eq_some_iff] at hu
    obtain ⟨q, hq, rfl⟩ := hu
    simp only [List.range_eq_range'] at hq
    by_cases hj : j < xl
    · simp [hj] at hq; subst hq
      obtain ⟨g, o, e, hgS, hc⟩ := HSX.out.at' (by omega)
      simp only [Option.some.injEq] at e
      subst e
      rw [Addr.add_mid]
      exact (HI.out.keeps.alloc _).cell (hc j hj) (fun e => by rcases e with e | e; exact hgS (by rw [show g = b from e]; exact hSb); exact hgS (by rw [show g = B from e]; exact hSB))
    · simp [hj] at hq
  case c2 => intro u hu; simp at hu; obtain ⟨q, -, rfl⟩ := hu; rfl
  case c3 => unfold maxLen; omega
  case c4 => omega
  case c5 => simp
  intro v' w4 hown hgr hnil
  have hb34 : Below w3.heap.size w3 w4 := ((Below.refl _ w3).alloc (Nat.le_refl _) _).grown hgr (by simp) (fun q e => by cases e; exact Nat.le_refl _)
  have hnew : NewBytes w3.heap.size w4 v' xl s := newBytes_of_owns (by simpa using hown) hnil
  clear hown hgr hnil
  have q0 : w4.cell? ⟨w.heap.size, 0, none⟩ = some (.slice (some ao) n c) := (hb34.cell (p := ⟨w.heap.size, 0, none⟩) hH0).trans q0
  have q1 : w4.cell? ⟨w.heap.size, 1, none⟩ = some (.slice al L.length cl) := (hb34.cell (p := ⟨w.heap.size, 1, none⟩) hH0).trans q1
  have s0 : w4.cell? ⟨w.heap.size + 1 + 1, 0, none⟩ = some (.slice none 0 0) := (hb34.cell (p := ⟨w.heap.size + 1 + 1, 0, none⟩) hH).trans s0
  have s1 : w4.cell? ⟨w.heap.size + 1 + 1, 1, none⟩ = some (.slice none 0 0) := (hb34.cell (p := ⟨w.heap.size + 1 + 1, 1, none⟩) hH).trans s1
  have x2 : w4.cell? ⟨w.heap.size + 1, 2, none⟩ = some (.int .u64 addr) := (hb34.cell (p := ⟨w.heap.size + 1, 2, none⟩) hH1).trans x2
  have x3 : w4.cell? ⟨w.heap.size + 1, 3, none⟩ = some (.slice (some xad) xl xc) := (hb34.cell (p := ⟨w.heap.size + 1, 3, none⟩) hH1).trans x3
  have z0 : w4.frozen? ⟨w.heap.size + 1 + 1, 0, none⟩ = false := (hb34.frozen (p := ⟨w.heap.size + 1 + 1, 0, none⟩) hH).trans z0
  have z1 : w4.frozen? ⟨w.heap.size + 1 + 1, 1, none⟩ = false := (hb34.frozen (p := ⟨w.heap.size + 1 + 1, 1, none⟩) hH).trans z1
  have hH4 : w.heap.size + 1 + 1 < w4.heap.size := Nat.lt_of_lt_of_le hH hb34.size
  obtain ⟨g, cap, F, rfl, hg, hrow, hcap1, hcap2, hF⟩ := hnew
  have hgl := hrow.lt
  have HROW := Lib.hid hrow
  have HF := Lib.hid hF
  have HB34 := Lib.hid hb34
  have hS4 : ∀ j, (fun j => S j ∨ j = w.heap.size + 1 + 1 ∨ j = g) j → j < w4.heap.size := fun j e => by
    rcases e with e | e | e
    · exact Nat.lt_trans (hS j e) (by omega)
    · omega
    · omega
  have HS4 := Lib.hid hS4
  have HR4 : Hid (RefAt (fun j => S j ∨ j = w.heap.size + 1 + 1 ∨ j = g) w4 (.agg #[.slice (some ao) n c, .slice al L.length cl]) n f L) := Lib.hid (((HR.out.more (T := (fun j => S j ∨ j = w.heap.size + 1 + 1 ∨ j = g)) (fun j hj e => by rcases e with e | e | e; exact e; omega; omega)).kept (HI.out.keeps.mono (T := fun j => j = b ∨ j = B) (fun _ _ e => e)) (fun j e => by rcases e with rfl | rfl; exact .inl hSb; exact .inl hSB)).below hb34)
  have HX4 : Hid (Src (fun j => S j ∨ j = w.heap.size + 1 + 1 ∨ j = g) w4 (some xad) xl s) := Lib.hid (((HSX.out.more (T := (fun j => S j ∨ j = w.heap.size + 1 + 1 ∨ j = g)) (fun j hj e => by rcases e with e | e | e; exact e; omega; omega)).kept (HI.out.keeps.mono (T := fun j => j = b ∨ j = B) (fun _ _ e => e)) (fun j e => by rcases e with rfl | rfl; exact .inl hSb; exact .inl hSB)).kept (Keeps.of_below (S := fun _ => False) hb34) (fun _ e => e.elim))
  clear hrow hF hb34 hS4 x1 x4
  go_wp2_with fail
  refine (rwrite_any (fun j => S j ∨ j = w.heap.size + 1 + 1 ∨ j = g) _ n f L addr xl xc (some xad) s w4 HR4.out hn4 ha ha' HX4.out (by omega) HS4.out).mono ?_
  rintro e w5 ⟨v5, rfl, hr5, hb5⟩
  have HR5 := Lib.hid hr5
  have HB5 := Lib.hid hb5
  obtain ⟨ao5, c5, al5, cl5, rfl, -⟩ := hr5
  have s0 : w5.cell? ⟨w.heap.size + 1 + 1, 0, none⟩ = some (.slice none 0 0) := (hb5.cell (p := ⟨w.heap.size + 1 + 1, 0, none⟩) hH4).trans s0
  have s1 : w5.cell? ⟨w.heap.size + 1 + 1, 1, none⟩ = some (.slice none 0 0) := (hb5.cell (p := ⟨w.heap.size + 1 + 1, 1, none⟩) hH4).trans s1
  have x2 : w5.cell? ⟨w.heap.size + 1, 2, none⟩ = some (.int .u64 addr) := (hb5.cell (p := ⟨w.heap.size + 1, 2, none⟩) (Nat.lt_of_succ_lt hH4)).trans x2
  have x3 : w5.cell? ⟨w.heap.size + 1, 3, none⟩ = some (.slice (some xad) xl xc) := (hb5.cell (p := ⟨w.heap.size + 1, 3, none⟩) (Nat.lt_of_succ_lt hH4)).trans x3
  have z0 : w5.frozen? ⟨w.heap.size + 1 + 1, 0, none⟩ = false := (hb5.frozen (p := ⟨w.heap.size + 1 + 1, 0, none⟩) hH4).trans z0
  have z1 : w5.frozen? ⟨w.heap.size + 1 + 1, 1, none⟩ = false := (hb5.frozen (p := ⟨w.heap.size + 1 + 1, 1, none⟩) hH4).trans z1
  have hH5 : w.heap.size + 1 + 1 < w5.heap.size := Nat.lt_of_lt_of_le hH4 hb5.size
  have hH51 : w.heap.size + 1 < w5.heap.size := Nat.lt_of_succ_lt hH5
  have hg5 : g < w5.heap.size := Nat.lt_of_lt_of_le hgl hb5.size
  clear hb5 q0 q1
  go_wp2_with fail
  obtain ⟨w6, hw6⟩ : ∃ w6, w6 = w5.alloc (.cells #[.slice (some ao5) n c5, .slice al5 (wl' n L addr xl).length cl5] 52) := ⟨_, rfl⟩
  rw [← hw6]
  have hb56 : Below w5.heap.size w5 w6 := by rw [hw6]; exact (Below.refl _ _).alloc (Nat.le_refl _) _
  have hr6 : w6.rowIs w5.heap.size 52 2 (fun i => if i = 0 then .slice (some ao5) n c5 else .slice al5 (wl' n L addr xl).length cl5) := by
    rw [hw6]; exact World.rowIs_alloc w5 #[.slice (some ao5) n c5, .slice al5 (wl' n L addr xl).length cl5] 52 (fun i => if i = 0 then .slice (some ao5) n c5 else .slice al5 (wl' n L addr xl).length cl5) (fun i hi => by match i, hi with | 0, _ => rfl | 1, _ => rfl)
  have hs6 : w5.heap.size < w6.heap.size := hr6.lt
  clear hw6
  have HR6 := Lib.hid (HR5.out.below hb56)
  have hb36 : Below w3.heap.size w3 w6 := (HB34.out.trans (HB5.out.mono HB34.out.size)).trans (hb56.mono (Nat.le_trans HB34.out.size HB5.out.size))
  have HM6 := Lib.hid (HI.out.mem.below hb36)
  have HG6 := Lib.hid ((HROW.out.of_block (HB5.out.block _ hgl)).of_block (hb56.block _ hg5))
  have HX6 : Hid (Src (fun j => S j ∨ j = w.heap.size + 1 + 1 ∨ j = g) w6 (some xad) xl s) := Lib.hid ((HX4.out.kept (Keeps.of_below (S := fun _ => False) HB5.out) (fun _ e => e.elim)).kept (Keeps.of_below (S := fun _ => False) hb56) (fun _ e => e.elim))
  have HB36 := Lib.hid hb36
  have HROW6 := Lib.hid hr6
  have s0 : w6.cell? ⟨w.heap.size + 1 + 1, 0, none⟩ = some (.slice none 0 0) := (hb56.cell (p := ⟨w.heap.size + 1 + 1, 0, none⟩) hH5).trans s0
  have s1 : w6.cell? ⟨w.heap.size + 1 + 1, 1, none⟩ = some (.slice none 0 0) := (hb56.cell (p := ⟨w.heap.size + 1 + 1, 1, none⟩) hH5).trans s1
  have x2 : w6.cell? ⟨w.heap.size + 1, 2, none⟩ = some (.int .u64 addr) := (hb56.cell (p := ⟨w.heap.size + 1, 2, none⟩) hH51).trans x2
  have x3 : w6.cell? ⟨w.heap.size + 1, 3, none⟩ = some (.slice (some xad) xl xc) := (hb56.cell (p := ⟨w.heap.size + 1, 3, none⟩) hH51).trans x3
  have z0 : w6.frozen? ⟨w.heap.size + 1 + 1, 0, none⟩ = false := (hb56.frozen (p := ⟨w.heap.size + 1 + 1, 0, none⟩) hH5).trans z0
  have z1 : w6.frozen? ⟨w.heap.size + 1 + 1, 1, none⟩ = false := (hb56.frozen (p := ⟨w.heap.size + 1 + 1, 1, none⟩) hH5).trans z1
  clear hb56 hr6 hb36
  refine (pwrite_any b B n f L addr xl cap (some ⟨g, 0, none⟩) s w6 HM6.out ha ha' ⟨by omega, fun _ => ⟨g, 0, rfl, fun e => by rcases e with e | e <;> omega, fun i hi => by rw [Nat.zero_add, HG6.out.cell (by omega), HF.out i hi]⟩⟩ (by omega)).mono ?_
  rintro e w7 ⟨rfl, hM7, hk7⟩
  have HM7 := Lib.hid hM7
  have HK7 := Lib.hid hk7
  have HG7 := Lib.hid (hk7.rowIs HG6.out (fun e => by rcases e with e | e <;> omega))
  have HX7 := Lib.hid (HX6.out.kept hk7 (fun j e => by rcases e with rfl | rfl; exact .inl hSb; exact .inl hSB))
  have HROW7 := Lib.hid (hk7.rowIs HROW6.out (fun e => by rcases e with e | e <;> omega))
  have x3 : w7.cell? ⟨w.heap.size + 1, 3, none⟩ = some (.slice (some xad) xl xc) := hk7.cell x3 (fun e => by rcases e with e | e <;> simp only [] at e <;> omega)
  have hN2 : ¬ Two b B (w.heap.size + 1 + 1) := fun e => by rcases e with e | e <;> omega
  have s0 : w7.cell? ⟨w.heap.size + 1 + 1, 0, none⟩ = some (.slice none 0 0) := hk7.cell s0 hN2
  have s1 : w7.cell? ⟨w.heap.size + 1 + 1, 1, none⟩ = some (.slice none 0 0) := hk7.cell s1 hN2
  have z0 : w7.frozen? ⟨w.heap.size + 1 + 1, 0, none⟩ = false := hk7.frozen' (by show w.heap.size + 1 + 1 < _; omega) hN2 z0
  have z1 : w7.frozen? ⟨w.heap.size + 1 + 1, 1, none⟩ = false := hk7.frozen' (by show w.heap.size + 1 + 1 < _; omega) hN2 z1
  have HSX7 := HX7
  have hcv1 : (convert 33 9 (.slice (some ⟨g, 0, none⟩) xl cap)).run Try.prog w7 = .ok (.string (strOf xl s)) w7 := conv_str _ _ _ _ _ (fun j hj => by rw [Addr.add_mid, Nat.zero_add, HG7.out.cell (by omega), HF.out j hj])
  have hcv2 : (convert 33 9 (.slice (some xad) xl xc)).run Try.prog w7 = .ok (.string (strOf xl s)) w7 := conv_str _ _ _ _ _ (fun j hj => by obtain ⟨g, o, e, -, hx⟩ := HSX7.out.at' (by omega); simp only [Option.some.injEq] at e; subst e; rw [Addr.add_mid]; exact hx j hj)
  clear hM7 hk7 x2
  go_upto_region 8 with fail
  clear hcv1 hcv2 x3
  go_wp2_with fail
  go_loopw [14] (fun i wr => ∃ j : Nat, j ≤ xl ∧ i = .int .i64 j ∧ Keeps (One g) w7 wr ∧ ∃ F : Nat → Value, wr.rowIs g 5 cap F ∧ ∀ i : Nat, i < xl → ∃ y : Int, F i = .int .u8 y) (fun i _ => xl - (intOf i).toNat)
  case atStart => exact ⟨0, Nat.zero_le _, rfl, Keeps.refl _ _, _, HG7.out, fun i hi => ⟨_, HF.out i hi⟩⟩
  case round =>
    obtain ⟨j, hj, rfl, hkr, G, hrr, hG⟩ := hrel
    have HKR := Lib.hid hkr
    have HRR := Lib.hid hrr
    have HGG := Lib.hid hG
    clear hkr hrr hG
    by_cases hlt : j < xl
    · obtain ⟨y, hy⟩ := HGG.out j hlt
      have c0 := HRR.out.cell (i := j) (by omega)
      rw [hy] at c0
      have f0 := HRR.out.frozen j
      clear hy
      go_wp2_with fail
      go_roundw
      case rel =>
        refine ⟨j + 1, by omega, by go_num, HKR.out.set1 _ _, _, HRR.out.set j _, fun i hi => ?_⟩
        by_cases e : i = j
        · exact ⟨_, if_pos e⟩
        · obtain ⟨z, hz⟩ := HGG.out i hi
          exact ⟨z, (if_neg e).trans hz⟩
      case measure => simp [intOf]; omega
    obtain rfl : xl = j := by omega
    have r6 := HKR.out.rowIs HROW7.out (fun e => by have e : w5.heap.size = g := e; omega)
    have r0 : wr.cell? ⟨w5.heap.size, 0, none⟩ = some (.slice (some ao5) n c5) := r6.cell (i := 0) (by omega)
    have r1 : wr.cell? ⟨w5.heap.size, 1, none⟩ = some (.slice al5 (wl' n L addr xl).length cl5) := r6.cell (i := 1) (by omega)
    have hN3 : ¬ One g (w.heap.size + 1 + 1) := fun e => by have e : w.heap.size + 1 + 1 = g := e; omega
    have hH7 : w.heap.size + 1 + 1 < w7.heap.size := World.block_lt_of_cell? _ _ s0
    have s0 : wr.cell? ⟨w.heap.size + 1 + 1, 0, none⟩ = some (.slice none 0 0) := HKR.out.cell s0 hN3
    have s1 : wr.cell? ⟨w.heap.size + 1 + 1, 1, none⟩ = some (.slice none 0 0) := HKR.out.cell s1 hN3
    have z0 : wr.frozen? ⟨w.heap.size + 1 + 1, 0, none⟩ = false := HKR.out.frozen' hH7 hN3 z0
    have z1 : wr.frozen? ⟨w.heap.size + 1 + 1, 1, none⟩ = false := HKR.out.frozen' hH7 hN3 z1
    clear r6
    have KA : Keeps (Act3 b B w.heap.size) w wr := (Keeps.trans (S := fun j => Act3 b B w.heap.size j ∨ j = g) (HI.out.keeps3.mono (fun _ _ e => .inl e)) (Keeps.trans (Keeps.of_below HB36.out) (Keeps.trans (HK7.out.mono (fun _ _ e => .inl (e.elim .inl (fun e => .inr (.inl e))))) (HKR.out.mono (fun _ _ e => .inr e))))).mono (fun j hj e => e.elim id (fun e => by omega))
    have HMR := HM7.out.kept HKR.out (fun e => by have e : b = g := e; omega) (fun e => by have e : B = g := e; omega)
    have HRR6 := ((HR6.out.kept (T := fun j => Two b B j ∨ j = g) (Keeps.trans (HK7.out.mono (fun _ _ e => .inl e)) (HKR.out.mono (fun _ _ e => .inr e))) (fun j e => by
      rcases e with e | e
      · rcases e with rfl | rfl
        · exact .inl hSb
        · exact .inl hSB
      · exact .inr (.inr e))).more (T := fun j => S j ∨ j = w.heap.size + 1 + 1) (fun j _ e => e.elim .inl (fun e => .inr (.inl e))))
    have KAH := Lib.hid KA
    have HMRH := Lib.hid HMR
    have HRRH := Lib.hid HRR6
    clear KA HMR HRR6
    go_wp2_with fail
    go_region_held3 (fun w' => w'.cell? ⟨w5.heap.size, 0, none⟩ = some (.slice (some ao5) n c5) ∧ w'.cell? ⟨w5.heap.size, 1, none⟩ = some (.slice al5 (wl' n L addr xl).length cl5)) (exact ⟨Keeps.cell (S := Act3 b B w.heap.size) (by repeat (first | assumption | exact Keeps.refl _ _ | refine Keeps.drew ?_ | refine Keeps.setR ?_ _ _)) r0 (fun e => by rcases e with e | e | e <;> simp only [] at e <;> omega), Keeps.cell (S := Act3 b B w.heap.size) (by repeat (first | assumption | exact Keeps.refl _ _ | refine Keeps.drew ?_ | refine Keeps.setR ?_ _ _)) r1 (fun e => by rcases e with e | e | e <;> simp only [] at e <;> omega)⟩) ((go_at_call 11; refine (num_any _ _).mono ?_; rintro e w' ⟨rfl, rfl⟩))
    go_wp2_with fail
    obtain ⟨W, hW⟩ : ∃ W, W = ((wr.setCell ⟨w.heap.size + 1 + 1, 0, none⟩ (.slice (some ao5) n c5)).setCell ⟨w.heap.size + 1 + 1, 1, none⟩ (.slice al5 (wl' n L addr xl).length cl5)).drew := ⟨_, rfl⟩
    have KW4 : Keeps (Act3 b B w.heap.size) wr W := by rw [hW]; exact (((Keeps.refl _ _).setR _ _).setR _ _).drew
    have KW : Keeps (Act3 b B w.heap.size) w W := Keeps.trans KAH.out KW4
    have KW1 : Keeps (One (w.heap.size + 1 + 1)) wr W := by rw [hW]; exact (((Keeps.refl _ _).set1 _ _).set1 _ _).drew
    have hM := (HMRH.out).kept KW1 (fun e => by have e : b = w.heap.size + 1 + 1 := e; omega) (fun e => by have e : B = w.heap.size + 1 + 1 := e; omega)
    have u0 : W.cell? ⟨w.heap.size + 1 + 1, 0, none⟩ = some (.slice (some ao5) n c5) := by rw [hW]; go_simp
    have u1 : W.cell? ⟨w.heap.size + 1 + 1, 1, none⟩ = some (.slice al5 (wl' n L addr xl).length cl5) := by rw [hW]; go_simp
    rw [← hW]
    exact bodyPost_ret (v := .tuple #[.pointer (some ⟨b, 0, none⟩), .agg #[.slice (some ao5) n c5, .slice al5 (wl' n L addr xl).length cl5], .bool true]) (by simp [results, Try.results21, go_sem, u0, u1]) rfl (ActPost.of hSb hSB hM (HRRH.out.kept KW4 (fun j e => by rcases e with rfl | rfl | e; exact .inl hSb; exact .inl hSB; exact .inr e)) (wl_len n L addr xl) KW)

set_option maxRecDepth 100000 in
set_option maxHeartbeats 4000000 in
theorem act_write0_none (S : Nat → Prop) (b B : Nat) (v : Value) (n : Nat) (f : Nat → Int) (L : List (Nat × Nat)) (k addr : Int) (xo : Option Addr) (xl xc : Nat) (val : Int) (w : World) (hM : MemAt w b B n f L) (hR : RefAt S w v n f L) (hSb : S b) (hSB : S B) (hS : ∀ j, S j → j < w.heap.size) (ha : 0 ≤ addr) (ha' : addr ≤ 18446744073709551615) (hL : L.length ≤ 999) (s : Nat → Int) (hs : Src S w xo xl s) (hxl : xl ≤ 5000) (hxs : xo = none ∧ xl = 0 ∧ xc = 0) :
   Calls Try.prog 21 #[.pointer (some ⟨b, 0, none⟩), v, .agg (actCells 0 k addr xo xl xc val).toArray] w (ActPost S b B n L w) := by
  have HR := Lib.hid hR
  obtain ⟨ao, c, al, cl, rfl, h2, h3, h4, h5, h6, h7, h8⟩ := hR
  have HM := Lib.hid hM
  have hn4 := hM.small
  clear h6 h7 h8 hM
  obtain ⟨rfl, rfl, rfl⟩ := hxs
  obtain ⟨i0, hi, hz0, hz1, hz2⟩ := info_parts infoU8
  have HSX := Lib.hid hs
  clear hs
  have hws : ∀ W : World, (W.alloc (.cells #[] 5)).ownsRow W.heap.size 5 1 (.slice (some ⟨W.heap.size, 0, none⟩) 0 0) 0 [] := fun W =>
    ⟨rfl, .inr ⟨W.heap.size, 0, #[], rfl, Nat.le_refl _, heap_alloc_new _ _, Nat.le_refl _, by simp [maxLen], rfl, rfl⟩⟩
  have HWS := Lib.hid hws
  clear hws
  show Calls Try.prog 21 #[_, _, .agg #[.int .i64 0, .int .i64 k, .int .u64 addr, .slice none 0 0, .int .u8 val]] w _
  go_enter Try.func21, Try.ntmps21
  go_upto_region 4 with (fail)
  obtain ⟨w3, hw3⟩ : ∃ w3, w3 = ((w.alloc (.cells #[.slice (some ao) n c, .slice al L.length cl] 52)).alloc (.cells #[.int .i64 0, .int .i64 k, .int .u64 addr, .slice none 0 0, .int .u8 val] 58)).alloc (.cells #[.slice none 0 0, .slice none 0 0] 52) := ⟨_, rfl⟩
  rw [← hw3]
  have hI := act_start HM.out hw3
  clear hw3
  have hb0 := HM.out.lt
  have hB0 := HM.out.lt'
  have hH := hI.res.lt
  have hH1 : w.heap.size + 1 < w3.heap.size := by omega
  have hH0 : w.heap.size < w3.heap.size := by omega
  have q0 : w3.cell? ⟨w.heap.size, 0, none⟩ = some (.slice (some ao) n c) := hI.box4.cell (i := 0) (by omega)
  have q1 : w3.cell? ⟨w.heap.size, 1, none⟩ = some (.slice al L.length cl) := hI.box4.cell (i := 1) (by omega)
  have s0 := hI.res.cell (i := 0) (by omega)
  have s1 := hI.res.cell (i := 1) (by omega)
  have z0 := hI.res.frozen 0
  have z1 := hI.res.frozen 1
  have x1 : w3.cell? ⟨w.heap.size + 1, 1, none⟩ = some (.int .i64 k) := hI.box5.cell (i := 1) (by omega)
  have x2 : w3.cell? ⟨w.heap.size + 1, 2, none⟩ = some (.int .u64 addr) := hI.box5.cell (i := 2) (by omega)
  have x3 : w3.cell? ⟨w.heap.size + 1, 3, none⟩ = some (.slice none 0 0) := hI.box5.cell (i := 3) (by omega)
  have x4 : w3.cell? ⟨w.heap.size + 1, 4, none⟩ = some (.int .u8 val) := hI.box5.cell (i := 4) (by omega)
  have HI := Lib.hid hI
  clear hI
  go_wp2_with fail
  obtain ⟨w4, hw4⟩ : ∃ w4, w4 = w3.alloc (.cells #[] 5) := ⟨_, rfl⟩
  rw [← hw4]
  have hb34 : Below w3.heap.size w3 w4 := by rw [hw4]; exact (Below.refl _ w3).alloc (Nat.le_refl _) _
  obtain ⟨g, hgE⟩ : ∃ g, g = w3.heap.size := ⟨_, rfl⟩
  rw [← hgE]
  have hnew : w3.heap.size ≤ g ∧ ∃ F : Nat → Value, w4.rowIs g 5 0 F ∧ ∀ i : Nat, i < 0 → F i = .int .u8 (s i) := ⟨by omega, fun _ => undef, by rw [hw4, hgE]; exact World.rowIs_alloc w3 #[] 5 (fun _ => undef) (fun i hi => absurd hi (Nat.not_lt_zero _)), fun i hi => by omega⟩
  clear hgE
  clear hw4
  have q0 : w4.cell? ⟨w.heap.size, 0, none⟩ = some (.slice (some ao) n c) := (hb34.cell (p := ⟨w.heap.size, 0, none⟩) hH0).trans q0
  have q1 : w4.cell? ⟨w.heap.size, 1, none⟩ = some (.slice al L.length cl) := (hb34.cell (p := ⟨w.heap.size, 1, none⟩) hH0).trans q1
  have s0 : w4.cell? ⟨w.heap.size + 1 + 1, 0, none⟩ = some (.slice none 0 0) := (hb34.cell (p := ⟨w.heap.size + 1 + 1, 0, none⟩) hH).trans s0
  have s1 : w4.cell? ⟨w.heap.size + 1 + 1, 1, none⟩ = some (.slice none 0 0) := (hb34.cell (p := ⟨w.heap.size + 1 + 1, 1, none⟩) hH).trans s1
  have x2 : w4.cell? ⟨w.heap.size + 1, 2, none⟩ = some (.int .u64 addr) := (hb34.cell (p := ⟨w.heap.size + 1, 2, none⟩) hH1).trans x2
  have x3 : w4.cell? ⟨w.heap.size + 1, 3, none⟩ = some (.slice none 0 0) := (hb34.cell (p := ⟨w.heap.size + 1, 3, none⟩) hH1).trans x3
  have z0 : w4.frozen? ⟨w.heap.size + 1 + 1, 0, none⟩ = false := (hb34.frozen (p := ⟨w.heap.size + 1 + 1, 0, none⟩) hH).trans z0
  have z1 : w4.frozen? ⟨w.heap.size + 1 + 1, 1, none⟩ = false := (hb34.frozen (p := ⟨w.heap.size + 1 + 1, 1, none⟩) hH).trans z1
  have hH4 : w.heap.size + 1 + 1 < w4.heap.size := Nat.lt_of_lt_of_le hH hb34.size
  obtain ⟨hg, F, hrow, hF⟩ := hnew
  have hgl := hrow.lt
  have HROW := Lib.hid hrow
  have HF := Lib.hid hF
  have HB34 := Lib.hid hb34
  have hS4 : ∀ j, (fun j => S j ∨ j = w.heap.size + 1 + 1 ∨ j = g) j → j < w4.heap.size := fun j e => by
    rcases e with e | e | e
    · exact Nat.lt_trans (hS j e) (by omega)
    · omega
    · omega
  have HS4 := Lib.hid hS4
  have HR4 : Hid (RefAt (fun j => S j ∨ j = w.heap.size + 1 + 1 ∨ j = g) w4 (.agg #[.slice (some ao) n c, .slice al L.length cl]) n f L) := Lib.hid (((HR.out.more (T := (fun j => S j ∨ j = w.heap.size + 1 + 1 ∨ j = g)) (fun j hj e => by rcases e with e | e | e; exact e; omega; omega)).kept (HI.out.keeps.mono (T := fun j => j = b ∨ j = B) (fun _ _ e => e)) (fun j e => by rcases e with rfl | rfl; exact .inl hSb; exact .inl hSB)).below hb34)
  have HX4 : Hid (Src (fun j => S j ∨ j = w.heap.size + 1 + 1 ∨ j = g) w4 none 0 s) := Lib.hid (((HSX.out.more (T := (fun j => S j ∨ j = w.heap.size + 1 + 1 ∨ j = g)) (fun j hj e => by rcases e with e | e | e; exact e; omega; omega)).kept (HI.out.keeps.mono (T := fun j => j = b ∨ j = B) (fun _ _ e => e)) (fun j e => by rcases e with rfl | rfl; exact .inl hSb; exact .inl hSB)).kept (Keeps.of_below (S := fun _ => False) hb34) (fun _ e => e.elim))
  clear hrow hF hb34 hS4 x1 x4
  go_wp2_with fail
  refine (rwrite_any (fun j => S j ∨ j = w.heap.size + 1 + 1 ∨ j = g) _ n f L addr 0 0 none s w4 HR4.out hn4 ha ha' HX4.out (by omega) HS4.out).mono ?_
  rintro e w5 ⟨v5, rfl, hr5, hb5⟩
  have HR5 := Lib.hid hr5
  have HB5 := Lib.hid hb5
  obtain ⟨ao5, c5, al5, cl5, rfl, -⟩ := hr5
  have s0 : w5.cell? ⟨w.heap.size + 1 + 1, 0, none⟩ = some (.slice none 0 0) := (hb5.cell (p := ⟨w.heap.size + 1 + 1, 0, none⟩) hH4).trans s0
  have s1 : w5.cell? ⟨w.heap.size + 1 + 1, 1, none⟩ = some (.slice none 0 0) := (hb5.cell (p := ⟨w.heap.size + 1 + 1, 1, none⟩) hH4).trans s1
  have x2 : w5.cell? ⟨w.heap.size + 1, 2, none⟩ = some (.int .u64 addr) := (hb5.cell (p := ⟨w.heap.size + 1, 2, none⟩) (Nat.lt_of_succ_lt hH4)).trans x2
  have x3 : w5.cell? ⟨w.heap.size + 1, 3, none⟩ = some (.slice none 0 0) := (hb5.cell (p := ⟨w.heap.size + 1, 3, none⟩) (Nat.lt_of_succ_lt hH4)).trans x3
  have z0 : w5.frozen? ⟨w.heap.size + 1 + 1, 0, none⟩ = false := (hb5.frozen (p := ⟨w.heap.size + 1 + 1, 0, none⟩) hH4).trans z0
  have z1 : w5.frozen? ⟨w.heap.size + 1 + 1, 1, none⟩ = false := (hb5.frozen (p := ⟨w.heap.size + 1 + 1, 1, none⟩) hH4).trans z1
  have hH5 : w.heap.size + 1 + 1 < w5.heap.size := Nat.lt_of_lt_of_le hH4 hb5.size
  have hH51 : w.heap.size + 1 < w5.heap.size := Nat.lt_of_succ_lt hH5
  have hg5 : g < w5.heap.size := Nat.lt_of_lt_of_le hgl hb5.size
  clear hb5 q0 q1
  go_wp2_with fail
  obtain ⟨w6, hw6⟩ : ∃ w6, w6 = w5.alloc (.cells #[.slice (some ao5) n c5, .slice al5 (wl' n L addr 0).length cl5] 52) := ⟨_, rfl⟩
  rw [← hw6]
  have hb56 : Below w5.heap.size w5 w6 := by rw [hw6]; exact (Below.refl _ _).alloc (Nat.le_refl _) _
  have hr6 : w6.rowIs w5.heap.size 52 2 (fun i => if i = 0 then .slice (some ao5) n c5 else .slice al5 (wl' n L addr 0).length cl5) := by
    rw [hw6]; exact World.rowIs_alloc w5 #[.slice (some ao5) n c5, .slice al5 (wl' n L addr 0).length cl5] 52 (fun i => if i = 0 then .slice (some ao5) n c5 else .slice al5 (wl' n L addr 0).length cl5) (fun i hi => by match i, hi with | 0, _ => rfl | 1, _ => rfl)
  have hs6 : w5.heap.size < w6.heap.size := hr6.lt
  clear hw6
  have HR6 := Lib.hid (HR5.out.below hb56)
  have hb36 : Below w3.heap.size w3 w6 := (HB34.out.trans (HB5.out.mono HB34.out.size)).trans (hb56.mono (Nat.le_trans HB34.out.size HB5.out.size))
  have HM6 := Lib.hid (HI.out.mem.below hb36)
  have HG6 := Lib.hid ((HROW.out.of_block (HB5.out.block _ hgl)).of_block (hb56.block _ hg5))
  have HX6 : Hid (Src (fun j => S j ∨ j = w.heap.size + 1 + 1 ∨ j = g) w6 none 0 s) := Lib.hid ((HX4.out.kept (Keeps.of_below (S := fun _ => False) HB5.out) (fun _ e => e.elim)).kept (Keeps.of_below (S := fun _ => False) hb56) (fun _ e => e.elim))
  have HB36 := Lib.hid hb36
  have HROW6 := Lib.hid hr6
  have s0 : w6.cell? ⟨w.heap.size + 1 + 1, 0, none⟩ = some (.slice none 0 0) := (hb56.cell (p := ⟨w.heap.size + 1 + 1, 0, none⟩) hH5).trans s0
  have s1 : w6.cell? ⟨w.heap.size + 1 + 1, 1, none⟩ = some (.slice none 0 0) := (hb56.cell (p := ⟨w.heap.size + 1 + 1, 1, none⟩) hH5).trans s1
  have x2 : w6.cell? ⟨w.heap.size + 1, 2, none⟩ = some (.int .u64 addr) := (hb56.cell (p := ⟨w.heap.size + 1, 2, none⟩) hH51).trans x2
  have x3 : w6.cell? ⟨w.heap.size + 1, 3, none⟩ = some (.slice none 0 0) := (hb56.cell (p := ⟨w.heap.size + 1, 3, none⟩) hH51).trans x3
  have z0 : w6.frozen? ⟨w.heap.size + 1 + 1, 0, none⟩ = false := (hb56.frozen (p := ⟨w.heap.size + 1 + 1, 0, none⟩) hH5).trans z0
  have z1 : w6.frozen? ⟨w.heap.size + 1 + 1, 1, none⟩ = false := (hb56.frozen (p := ⟨w.heap.size + 1 + 1, 1, none⟩) hH5).trans z1
  clear hb56 hr6 hb36
  refine (pwrite_any b B n f L addr 0 0 (some ⟨g, 0, none⟩) s w6 HM6.out ha ha' ⟨by omega, fun _ => ⟨g, 0, rfl, fun e => by rcases e with e | e <;> omega, fun i hi => by rw [Nat.zero_add, HG6.out.cell (by omega), HF.out i hi]⟩⟩ (by omega)).mono ?_
  rintro e w7 ⟨rfl, hM7, hk7⟩
  have HM7 := Lib.hid hM7
  have HK7 := Lib.hid hk7
  have HG7 := Lib.hid (hk7.rowIs HG6.out (fun e => by rcases e with e | e <;> omega))
  have HX7 := Lib.hid (HX6.out.kept hk7 (fun j e => by rcases e with rfl | rfl; exact .inl hSb; exact .inl hSB))
  have HROW7 := Lib.hid (hk7.rowIs HROW6.out (fun e => by rcases e with e | e <;> omega))
  have x3 : w7.cell? ⟨w.heap.size + 1, 3, none⟩ = some (.slice none 0 0) := hk7.cell x3 (fun e => by rcases e with e | e <;> simp only [] at e <;> omega)
  have hN2 : ¬ Two b B (w.heap.size + 1 + 1) := fun e => by rcases e with e | e <;> omega
  have s0 : w7.cell? ⟨w.heap.size + 1 + 1, 0, none⟩ = some (.slice none 0 0) := hk7.cell s0 hN2
  have s1 : w7.cell? ⟨w.heap.size + 1 + 1, 1, none⟩ = some (.slice none 0 0) := hk7.cell s1 hN2
  have z0 : w7.frozen? ⟨w.heap.size + 1 + 1, 0, none⟩ = false := hk7.frozen' (by show w.heap.size + 1 + 1 < _; omega) hN2 z0
  have z1 : w7.frozen? ⟨w.heap.size + 1 + 1, 1, none⟩ = false := hk7.frozen' (by show w.heap.size + 1 + 1 < _; omega) hN2 z1
  have HSX7 := HX7
  have hcv1 : (convert 33 9 (.slice (some ⟨g, 0, none⟩) 0 0)).run Try.prog w7 = .ok (.string (strOf 0 s)) w7 := conv_str _ _ _ _ _ (fun j hj => by rw [Addr.add_mid, Nat.zero_add, HG7.out.cell (by omega), HF.out j hj])
  have hcv2 : (convert 33 9 (.slice none 0 0)).run Try.prog w7 = .ok (.string (strOf 0 s)) w7 := run_convert_bytes_string (P := Try.prog) w7 33 9 5 none 0 0 Try.underlying33 Try.underlying5 Try.underlying9
  clear hM7 hk7 x2
  go_upto_region 8 with fail
  clear hcv1 hcv2 x3
  go_wp2_with fail
  go_loopw [14] (fun i wr => ∃ j : Nat, j ≤ 0 ∧ i = .int .i64 j ∧ Keeps (One g) w7 wr ∧ ∃ F : Nat → Value, wr.rowIs g 5 0 F ∧ ∀ i : Nat, i < 0 → ∃ y : Int, F i = .int .u8 y) (fun i _ => 0 - (intOf i).toNat)
  case atStart => exact ⟨0, Nat.zero_le _, rfl, Keeps.refl _ _, _, HG7.out, fun i hi => ⟨_, HF.out i hi⟩⟩
  case round =>
    obtain ⟨j, hj, rfl, hkr, G, hrr, hG⟩ := hrel
    have HKR := Lib.hid hkr
    have HRR := Lib.hid hrr
    have HGG := Lib.hid hG
    clear hkr hrr hG
    obtain rfl : j = 0 := by omega
    have r6 := HKR.out.rowIs HROW7.out (fun e => by have e : w5.heap.size = g := e; omega)
    have r0 : wr.cell? ⟨w5.heap.size, 0, none⟩ = some (.slice (some ao5) n c5) := r6.cell (i := 0) (by omega)
    have r1 : wr.cell? ⟨w5.heap.size, 1, none⟩ = some (.slice al5 (wl' n L addr 0).length cl5) := r6.cell (i := 1) (by omega)
    have hN3 : ¬ One g (w.heap.size + 1 + 1) := fun e => by have e : w.heap.size + 1 + 1 = g := e; omega
    have hH7 : w.heap.size + 1 + 1 < w7.heap.size := World.block_lt_of_cell? _ _ s0
    have s0 : wr.cell? ⟨w.heap.size + 1 + 1, 0, none⟩ = some (.slice none 0 0) := HKR.out.cell s0 hN3
    have s1 : wr.cell? ⟨w.heap.size + 1 + 1, 1, none⟩ = some (.slice none 0 0) := HKR.out.cell s1 hN3
    have z0 : wr.frozen? ⟨w.heap.size + 1 + 1, 0, none⟩ = false := HKR.out.frozen' hH7 hN3 z0
    have z1 : wr.frozen? ⟨w.heap.size + 1 + 1, 1, none⟩ = false := HKR.out.frozen' hH7 hN3 z1
    clear r6
    have KA : Keeps (Act3 b B w.heap.size) w wr := (Keeps.trans (S := fun j => Act3 b B w.heap.size j ∨ j = g) (HI.out.keeps3.mono (fun _ _ e => .inl e)) (Keeps.trans (Keeps.of_below HB36.out) (Keeps.trans (HK7.out.mono (fun _ _ e => .inl (e.elim .inl (fun e => .inr (.inl e))))) (HKR.out.mono (fun _ _ e => .inr e))))).mono (fun j hj e => e.elim id (fun e => by omega))
    have HMR := HM7.out.kept HKR.out (fun e => by have e : b = g := e; omega) (fun e => by have e : B = g := e; omega)
    have HRR6 := ((HR6.out.kept (T := fun j => Two b B j ∨ j = g) (Keeps.trans (HK7.out.mono (fun _ _ e => .inl e)) (HKR.out.mono (fun _ _ e => .inr e))) (fun j e => by
      rcases e with e | e
      · rcases e with rfl | rfl
        · exact .inl hSb
        · exact .inl hSB
      · exact .inr (.inr e))).more (T := fun j => S j ∨ j = w.heap.size + 1 + 1) (fun j _ e => e.elim .inl (fun e => .inr (.inl e))))
    have KAH := Lib.hid KA
    have HMRH := Lib.hid HMR
    have HRRH := Lib.hid HRR6
    clear KA HMR HRR6
    go_wp2_with fail
    go_region_held3 (fun w' => w'.cell? ⟨w5.heap.size, 0, none⟩ = some (.slice (some ao5) n c5) ∧ w'.cell? ⟨w5.heap.size, 1, none⟩ = some (.slice al5 (wl' n L addr 0).length cl5)) (exact ⟨Keeps.cell (S := Act3 b B w.heap.size) (by repeat (first | assumption | exact Keeps.refl _ _ | refine Keeps.drew ?_ | refine Keeps.setR ?_ _ _)) r0 (fun e => by rcases e with e | e | e <;> simp only [] at e <;> omega), Keeps.cell (S := Act3 b B w.heap.size) (by repeat (first | assumption | exact Keeps.refl _ _ | refine Keeps.drew ?_ | refine Keeps.setR ?_ _ _)) r1 (fun e => by rcases e with e | e | e <;> simp only [] at e <;> omega)⟩) ((go_at_call 11; refine (num_any _ _).mono ?_; rintro e w' ⟨rfl, rfl⟩))
    go_wp2_with fail
    obtain ⟨W, hW⟩ : ∃ W, W = ((wr.setCell ⟨w.heap.size + 1 + 1, 0, none⟩ (.slice (some ao5) n c5)).setCell ⟨w.heap.size + 1 + 1, 1, none⟩ (.slice al5 (wl' n L addr 0).length cl5)).drew := ⟨_, rfl⟩
    have KW4 : Keeps (Act3 b B w.heap.size) wr W := by rw [hW]; exact (((Keeps.refl _ _).setR _ _).setR _ _).drew
    have KW : Keeps (Act3 b B w.heap.size) w W := Keeps.trans KAH.out KW4
    have KW1 : Keeps (One (w.heap.size + 1 + 1)) wr W := by rw [hW]; exact (((Keeps.refl _ _).set1 _ _).set1 _ _).drew
    have hM := (HMRH.out).kept KW1 (fun e => by have e : b = w.heap.size + 1 + 1 := e; omega) (fun e => by have e : B = w.heap.size + 1 + 1 := e; omega)
    have u0 : W.cell? ⟨w.heap.size + 1 + 1, 0, none⟩ = some (.slice (some ao5) n c5) := by rw [hW]; go_simp
    have u1 : W.cell? ⟨w.heap.size + 1 + 1, 1, none⟩ = some (.slice al5 (wl' n L addr 0).length cl5) := by rw [hW]; go_simp
    rw [← hW]
    exact bodyPost_ret (v := .tuple #[.pointer (some ⟨b, 0, none⟩), .agg #[.slice (some ao5) n c5, .slice al5 (wl' n L addr 0).length cl5], .bool true]) (by simp [results, Try.results21, go_sem, u0, u1]) rfl (ActPost.of hSb hSB hM (HRRH.out.kept KW4 (fun j e => by rcases e with rfl | rfl | e; exact .inl hSb; exact .inl hSB; exact .inr e)) (wl_len n L addr 0) KW)

set_option maxRecDepth 100000 in
set_option maxHeartbeats 4000000 in
theorem act_write1_some (S : Nat → Prop) (b B : Nat) (v : Value) (n : Nat) (f : Nat → Int) (L : List (Nat × Nat)) (k addr : Int) (xo : Option Addr) (xl xc : Nat) (val : Int) (w : World) (hM : MemAt w b B n f L) (hR : RefAt S w v n f L) (hSb : S b) (hSB : S B) (hS : ∀ j, S j → j < w.heap.size) (ha : 0 ≤ addr) (ha' : addr ≤ 18446744073709551615) (hL : L.length ≤ 999) (s : Nat → Int) (hs : Src S w xo xl s) (hxl : xl ≤ 5000) (hxs : ∃ xad, xo = some xad) :
   Calls Try.prog 21 #[.pointer (some ⟨b, 0, none⟩), v, .agg (actCells 1 k addr xo xl xc val).toArray] w (ActPost S b B n L w) := by
  have HR := Lib.hid hR
  obtain ⟨ao, c, al, cl, rfl, h2, h3, h4, h5, h6, h7, h8⟩ := hR
  have HM := Lib.hid hM
  have hn4 := hM.small
  clear h6 h7 h8 hM
  obtain ⟨xad, rfl⟩ := hxs
  obtain ⟨i0, hi, hz0, hz1, hz2⟩ := info_parts infoU8
  have HSX := Lib.hid hs
  clear hs
  have hws : ∀ W : World, (W.alloc (.cells #[] 5)).ownsRow W.heap.size 5 1 (.slice (some ⟨W.heap.size, 0, none⟩) 0 0) 0 [] := fun W =>
    ⟨rfl, .inr ⟨W.heap.size, 0, #[], rfl, Nat.le_refl _, heap_alloc_new _ _, Nat.le_refl _, by simp [maxLen], rfl, rfl⟩⟩
  have HWS := Lib.hid hws
  clear hws
  show Calls Try.prog 21 #[_, _, .agg #[.int .i64 1, .int .i64 k, .int .u64 addr, .slice (some xad) xl xc, .int .u8 val]] w _
  go_enter Try.func21, Try.ntmps21
  go_upto_region 4 with (fail)
  obtain ⟨w3, hw3⟩ : ∃ w3, w3 = ((w.alloc (.cells #[.slice (some ao) n c, .slice al L.length cl] 52)).alloc (.cells #[.int .i64 1, .int .i64 k, .int .u64 addr, .slice (some xad) xl xc, .int .u8 val] 58)).alloc (.cells #[.slice none 0 0, .slice none 0 0] 52) := ⟨_, rfl⟩
  rw [← hw3]
  have hI := act_start HM.out hw3
  clear hw3
  have hb0 := HM.out.lt
  have hB0 := HM.out.lt'
  have hH := hI.res.lt
  have hH1 : w.heap.size + 1 < w3.heap.size := by omega
  have hH0 : w.heap.size < w3.heap.size := by omega
  have q0 : w3.cell? ⟨w.heap.size, 0, none⟩ = some (.slice (some ao) n c) := hI.box4.cell (i := 0) (by omega)
  have q1 : w3.cell? ⟨w.heap.size, 1, none⟩ = some (.slice al L.length cl) := hI.box4.cell (i := 1) (by omega)
  have s0 := hI.res.cell (i := 0) (by omega)
  have s1 := hI.res.cell (i := 1) (by omega)
  have z0 := hI.res.frozen 0
  have z1 := hI.res.frozen 1
  have x1 : w3.cell? ⟨w.heap.size + 1, 1, none⟩ = some (.int .i64 k) := hI.box5.cell (i := 1) (by omega)
  have x2 : w3.cell? ⟨w.heap.size + 1, 2, none⟩ = some (.int .u64 addr) := hI.box5.cell (i := 2) (by omega)
  have x3 : w3.cell? ⟨w.heap.size + 1, 3, none⟩ = some (.slice (some xad) xl xc) := hI.box5.cell (i := 3) (by omega)
  have x4 : w3.cell? ⟨w.heap.size + 1, 4, none⟩ = some (.int .u8 val) := hI.box5.cell (i := 4) (by omega)
  have HI := Lib.hid hI
  clear hI
  go_wp2_with (at_builtin; go_loud (refine wpList_append_own _ rfl _ _ 33 rfl w3.heap.size 5 i0 (.int .u8 0) 1 1 Try.underlying33 hi hz0 hz1 hz2 rfl (by decide) _ _ _ rfl (HWS.out w3) xad xl xc ((List.range xl).map fun i => .int .u8 (s i)) rfl (by simp) ?c1 ?c2 ?c3 ?c4 ?c5 ?_))
  case c1 =>
    intro j u hu
    simp only [List.getElem?_map, Option.map_eq_some_iff] at hu
    obtain ⟨q, hq, rfl⟩ := hu
    simp only [List.range_eq_range'] at hq
    by_cases hj : j < xl
    · simp [hj] at hq; subst hq
      obtain ⟨g, o, e, hgS, hc⟩ := HSX.out.at' (by omega)
      simp only [Option.some.injEq] at e
      subst e
      rw [Addr.add_mid]
      exact (HI.out.keeps.alloc _).cell (hc j hj) (fun e => by rcases e with e | e; exact hgS (by rw [show g = b from e]; exact hSb); exact hgS (by rw [show g = B from e]; exact hSB))
    · simp [hj] at hq
  case c2 => intro u hu; simp at hu; obtain ⟨q, -, rfl⟩ := hu; rfl
  case c3 => unfold maxLen; omega
  case c4 => omega
  case c5 => simp
  intro v' w4 hown hgr hnil
  have hb34 : Below w3.heap.size w3 w4 := ((Below.refl _ w3).alloc (Nat.le_refl _) _).grown hgr (by simp) (fun q e => by cases e; exact Nat.le_refl _)
  have hnew : NewBytes w3.heap.size w4 v' xl s := newBytes_of_owns (by simpa using hown) hnil
  clear hown hgr hnil
  have q0 : w4.cell? ⟨w.heap.size, 0, none⟩ = some (.slice (some ao) n c) := (hb34.cell (p := ⟨w.heap.size, 0, none⟩) hH0).trans q0
  have q1 : w4.cell? ⟨w.heap.size, 1, none⟩ = some (.slice al L.length cl) := (hb34.cell (p := ⟨w.heap.size, 1, none⟩) hH0).trans q1
  have s0 : w4.cell? ⟨w.heap.size + 1 + 1, 0, none⟩ = some (.slice none 0 0) := (hb34.cell (p := ⟨w.heap.size + 1 + 1, 0, none⟩) hH).trans s0
  have s1 : w4.cell? ⟨w.heap.size + 1 + 1, 1, none⟩ = some (.slice none 0 0) := (hb34.cell (p := ⟨w.heap.size + 1 + 1, 1, none⟩) hH).trans s1
  have x2 : w4.cell? ⟨w.heap.size + 1, 2, none⟩ = some (.int .u64 addr) := (hb34.cell (p := ⟨w.heap.size + 1, 2, none⟩) hH1).trans x2
  have x3 : w4.cell? ⟨w.heap.size + 1, 3, none⟩ = some (.slice (some xad) xl xc) := (hb34.cell (p := ⟨w.heap.size + 1, 3, none⟩) hH1).trans x3
  have z0 : w4.frozen? ⟨w.heap.size + 1 + 1, 0, none⟩ = false := (hb34.frozen (p := ⟨w.heap.size + 1 + 1, 0, none⟩) hH).trans z0
  have z1 : w4.frozen? ⟨w.heap.size + 1 + 1, 1, none⟩ = false := (hb34.frozen (p := ⟨w.heap.size + 1 + 1, 1, none⟩) hH).trans z1
  have hH4 : w.heap.size + 1 + 1 < w4.heap.size := Nat.lt_of_lt_of_le hH hb34.size
  obtain ⟨g, cap, F, rfl, hg, hrow, hcap1, hcap2, hF⟩ := hnew
  have hgl := hrow.lt
  have HROW := Lib.hid hrow
  have HF := Lib.hid hF
  have HB34 := Lib.hid hb34
  have hS4 : ∀ j, (fun j => S j ∨ j = w.heap.size + 1 + 1 ∨ j = g) j → j < w4.heap.size := fun j e => by
    rcases e with e | e | e
    · exact Nat.lt_trans (hS j e) (by omega)
    · omega
    · omega
  have HS4 := Lib.hid hS4
  have HR4 : Hid (RefAt (fun j => S j ∨ j = w.heap.size + 1 + 1 ∨ j = g) w4 (.agg #[.slice (some ao) n c, .slice al L.length cl]) n f L) := Lib.hid (((HR.out.more (T := (fun j => S j ∨ j = w.heap.size + 1 + 1 ∨ j = g)) (fun j hj e => by rcases e with e | e | e; exact e; omega; omega)).kept (HI.out.keeps.mono (T := fun j => j = b ∨ j = B) (fun _ _ e => e)) (fun j e => by rcases e with rfl | rfl; exact .inl hSb; exact .inl hSB)).below hb34)
  have HX4 : Hid (Src (fun j => S j ∨ j = w.heap.size + 1 + 1 ∨ j = g) w4 (some xad) xl s) := Lib.hid (((HSX.out.more (T := (fun j => S j ∨ j = w.heap.size + 1 + 1 ∨ j = g)) (fun j hj e => by rcases e with e | e | e; exact e; omega; omega)).kept (HI.out.keeps.mono (T := fun j => j = b ∨ j = B) (fun _ _ e => e)) (fun j e => by rcases e with rfl | rfl; exact .inl hSb; exact .inl hSB)).kept (Keeps.of_below (S := fun _ => False) hb34) (fun _ e => e.elim))
  clear hrow hF hb34 hS4 x1 x4
  go_wp2_with fail
  refine (rwrite_any (fun j => S j ∨ j = w.heap.size + 1 + 1 ∨ j = g) _ n f L addr xl xc (some xad) s w4 HR4.out hn4 ha ha' HX4.out (by omega) HS4.out).mono ?_
  rintro e w5 ⟨v5, rfl, hr5, hb5⟩
  have HR5 := Lib.hid hr5
  have HB5 := Lib.hid hb5
  obtain ⟨ao5, c5, al5, cl5, rfl, -⟩ := hr5
  have s0 : w5.cell? ⟨w.heap.size + 1 + 1, 0, none⟩ = some (.slice none 0 0) := (hb5.cell (p := ⟨w.heap.size + 1 + 1, 0, none⟩) hH4).trans s0
  have s1 : w5.cell? ⟨w.heap.size + 1 + 1, 1, none⟩ = some (.slice none 0 0) := (hb5.cell (p := ⟨w.heap.size + 1 + 1, 1, none⟩) hH4).trans s1
  have x2 : w5.cell? ⟨w.heap.size + 1, 2, none⟩ = some (.int .u64 addr) := (hb5.cell (p := ⟨w.heap.size + 1, 2, none⟩) (Nat.lt_of_succ_lt hH4)).trans x2
  have x3 : w5.cell? ⟨w.heap.size + 1, 3, none⟩ = some (.slice (some xad) xl xc) := (hb5.cell (p := ⟨w.heap.size + 1, 3, none⟩) (Nat.lt_of_succ_lt hH4)).trans x3
  have z0 : w5.frozen? ⟨w.heap.size + 1 + 1, 0, none⟩ = false := (hb5.frozen (p := ⟨w.heap.size + 1 + 1, 0, none⟩) hH4).trans z0
  have z1 : w5.frozen? ⟨w.heap.size + 1 + 1, 1, none⟩ = false := (hb5.frozen (p := ⟨w.heap.size + 1 + 1, 1, none⟩) hH4).trans z1
  have hH5 : w.heap.size + 1 + 1 < w5.heap.size := Nat.lt_of_lt_of_le hH4 hb5.size
  have hH51 : w.heap.size + 1 < w5.heap.size := Nat.lt_of_succ_lt hH5
  have hg5 : g < w5.heap.size := Nat.lt_of_lt_of_le hgl hb5.size
  clear hb5 q0 q1
  go_wp2_with fail
  obtain ⟨w6, hw6⟩ : ∃ w6, w6 = w5.alloc (.cells #[.slice (some ao5) n c5, .slice al5 (wl' n L addr xl).length cl5] 52) := ⟨_, rfl⟩
  rw [← hw6]
  have hb56 : Below w5.heap.size w5 w6 := by rw [hw6]; exact (Below.refl _ _).alloc (Nat.le_refl _) _
  have hr6 : w6.rowIs w5.heap.size 52 2 (fun i => if i = 0 then .slice (some ao5) n c5 else .slice al5 (wl' n L addr xl).length cl5) := by
    rw [hw6]; exact World.rowIs_alloc w5 #[.slice (some ao5) n c5, .slice al5 (wl' n L addr xl).length cl5] 52 (fun i => if i = 0 then .slice (some ao5) n c5 else .slice al5 (wl' n L addr xl).length cl5) (fun i hi => by match i, hi with | 0, _ => rfl | 1, _ => rfl)
  have hs6 : w5.heap.size < w6.heap.size := hr6.lt
  clear hw6
  have HR6 := Lib.hid (HR5.out.below hb56)
  have hb36 : Below w3.heap.size w3 w6 := (HB34.out.trans (HB5.out.mono HB34.out.size)).trans (hb56.mono (Nat.le_trans HB34.out.size HB5.out.size))
  have HM6 := Lib.hid (HI.out.mem.below hb36)
  have HG6 := Lib.hid ((HROW.out.of_block (HB5.out.block _ hgl)).of_block (hb56.block _ hg5))
  have HX6 : Hid (Src (fun j => S j ∨ j = w.heap.size + 1 + 1 ∨ j = g) w6 (some xad) xl s) := Lib.hid ((HX4.out.kept (Keeps.of_below (S := fun _ => False) HB5.out) (fun _ e => e.elim)).kept (Keeps.of_below (S := fun _ => False) hb56) (fun _ e => e.elim))
  have HB36 := Lib.hid hb36
  have HROW6 := Lib.hid hr6
  have s0 : w6.cell? ⟨w.heap.size + 1 + 1, 0, none⟩ = some (.slice none 0 0) := (hb56.cell (p := ⟨w.heap.size + 1 + 1, 0, none⟩) hH5).trans s0
  have s1 : w6.cell? ⟨w.heap.size + 1 + 1, 1, none⟩ = some (.slice none 0 0) := (hb56.cell (p := ⟨w.heap.size + 1 + 1, 1, none⟩) hH5).trans s1
  have x2 : w6.cell? ⟨w.heap.size + 1, 2, none⟩ = some (.int .u64 addr) := (hb56.cell (p := ⟨w.heap.size + 1, 2, none⟩) hH51).trans x2
  have x3 : w6.cell? ⟨w.heap.size + 1, 3, none⟩ = some (.slice (some xad) xl xc) := (hb56.cell (p := ⟨w.heap.size + 1, 3, none⟩) hH51).trans x3
  have z0 : w6.frozen? ⟨w.heap.size + 1 + 1, 0, none⟩ = false := (hb56.frozen (p := ⟨w.heap.size + 1 + 1, 0, none⟩) hH5).trans z0
  have z1 : w6.frozen? ⟨w.heap.size + 1 + 1, 1, none⟩ = false := (hb56.frozen (p := ⟨w.heap.size + 1 + 1, 1, none⟩) hH5).trans z1
  clear hb56 hr6 hb36
  refine (pwrite_any b B n f L addr xl cap (some ⟨g, 0, none⟩) s w6 HM6.out ha ha' ⟨by omega, fun _ => ⟨g, 0, rfl, fun e => by rcases e with e | e <;> omega, fun i hi => by rw [Nat.zero_add, HG6.out.cell (by omega), HF.out i hi]⟩⟩ (by omega)).mono ?_
  rintro e w7 ⟨rfl, hM7, hk7⟩
  have HM7 := Lib.hid hM7
  have HK7 := Lib.hid hk7
  have HG7 := Lib.hid (hk7.rowIs HG6.out (fun e => by rcases e with e | e <;> omega))
  have HX7 := Lib.hid (HX6.out.kept hk7 (fun j e => by rcases e with rfl | rfl; exact .inl hSb; exact .inl hSB))
  have HROW7 := Lib.hid (hk7.rowIs HROW6.out (fun e => by rcases e with e | e <;> omega))
  have x3 : w7.cell? ⟨w.heap.size + 1, 3, none⟩ = some (.slice (some xad) xl xc) := hk7.cell x3 (fun e => by rcases e with e | e <;> simp only [] at e <;> omega)
  have hN2 : ¬ Two b B (w.heap.size + 1 + 1) := fun e => by rcases e with e | e <;> omega
  have s0 : w7.cell? ⟨w.heap.size + 1 + 1, 0, none⟩ = some (.slice none 0 0) := hk7.cell s0 hN2
  have s1 : w7.cell? ⟨w.heap.size + 1 + 1, 1, none⟩ = some (.slice none 0 0) := hk7.cell s1 hN2
  have z0 : w7.frozen? ⟨w.heap.size + 1 + 1, 0, none⟩ = false := hk7.frozen' (by show w.heap.size + 1 + 1 < _; omega) hN2 z0
  have z1 : w7.frozen? ⟨w.heap.size + 1 + 1, 1, none⟩ = false := hk7.frozen' (by show w.heap.size + 1 + 1 < _; omega) hN2 z1
  have HSX7 := HX7
  have hcv1 : (convert 33 9 (.slice (some ⟨g, 0, none⟩) xl cap)).run Try.prog w7 = .ok (.string (strOf xl s)) w7 := conv_str _ _ _ _ _ (fun j hj => by rw [Addr.add_mid, Nat.zero_add, HG7.out.cell (by omega), HF.out j hj])
  have hcv2 : (convert 33 9 (.slice (some xad) xl xc)).run Try.prog w7 = .ok (.string (strOf xl s)) w7 := conv_str _ _ _ _ _ (fun j hj => by obtain ⟨g, o, e, -, hx⟩ := HSX7.out.at' (by omega); simp only [Option.some.injEq] at e; subst e; rw [Addr.add_mid]; exact hx j hj)
  clear hM7 hk7 x2
  go_upto_region 8 with fail
  clear hcv1 hcv2 x3
  go_wp2_with fail
  go_loopw [14] (fun i wr => ∃ j : Nat, j ≤ xl ∧ i = .int .i64 j ∧ Keeps (One g) w7 wr ∧ ∃ F : Nat → Value, wr.rowIs g 5 cap F ∧ ∀ i : Nat, i < xl → ∃ y : Int, F i = .int .u8 y) (fun i _ => xl - (intOf i).toNat)
  case atStart => exact ⟨0, Nat.zero_le _, rfl, Keeps.refl _ _, _, HG7.out, fun i hi => ⟨_, HF.out i hi⟩⟩
  case round =>
    obtain ⟨j, hj, rfl, hkr, G, hrr, hG⟩ := hrel
    have HKR := Lib.hid hkr
    have HRR := Lib.hid hrr
    have HGG := Lib.hid hG
    clear hkr hrr hG
    by_cases hlt : j < xl
    · obtain ⟨y, hy⟩ := HGG.out j hlt
      have c0 := HRR.out.cell (i := j) (by omega)
      rw [hy] at c0
      have f0 := HRR.out.frozen j
      clear hy
      go_wp2_with fail
      go_roundw
      case rel =>
        refine ⟨j + 1, by omega, by go_num, HKR.out.set1 _ _, _, HRR.out.set j _, fun i hi => ?_⟩
        by_cases e : i = j
        · exact ⟨_, if_pos e⟩
        · obtain ⟨z, hz⟩ := HGG.out i hi
          exact ⟨z, (if_neg e).trans hz⟩
      case measure => simp [intOf]; omega
    obtain rfl : xl = j := by omega
    have r6 := HKR.out.rowIs HROW7.out (fun e => by have e : w5.heap.size = g := e; omega)
    have r0 : wr.cell? ⟨w5.heap.size, 0, none⟩ = some (.slice (some ao5) n c5) := r6.cell (i := 0) (by omega)
    have r1 : wr.cell? ⟨w5.heap.size, 1, none⟩ = some (.slice al5 (wl' n L addr xl).length cl5) := r6.cell (i := 1) (by omega)
    have hN3 : ¬ One g (w.heap.size + 1 + 1) := fun e => by have e : w.heap.size + 1 + 1 = g := e; omega
    have hH7 : w.heap.size + 1 + 1 < w7.heap.size := World.block_lt_of_cell? _ _ s0
    have s0 : wr.cell? ⟨w.heap.size + 1 + 1, 0, none⟩ = some (.slice none 0 0) := HKR.out.cell s0 hN3
    have s1 : wr.cell? ⟨w.heap.size + 1 + 1, 1, none⟩ = some (.slice none 0 0) := HKR.out.cell s1 hN3
    have z0 : wr.frozen? ⟨w.heap.size + 1 + 1, 0, none⟩ = false := HKR.out.frozen' hH7 hN3 z0
    have z1 : wr.frozen? ⟨w.heap.size + 1 + 1, 1, none⟩ = false := HKR.out.frozen' hH7 hN3 z1
    clear r6
    have KA : Keeps (Act3 b B w.heap.size) w wr := (Keeps.trans (S := fun j => Act3 b B w.heap.size j ∨ j = g) (HI.out.keeps3.mono (fun _ _ e => .inl e)) (Keeps.trans (Keeps.of_below HB36.out) (Keeps.trans (HK7.out.mono (fun _ _ e => .inl (e.elim .inl (fun e => .inr (.inl e))))) (HKR.out.mono (fun _ _ e => .inr e))))).mono (fun j hj e => e.elim id (fun e => by omega))
    have HMR := HM7.out.kept HKR.out (fun e => by have e : b = g := e; omega) (fun e => by have e : B = g := e; omega)
    have HRR6 := ((HR6.out.kept (T := fun j => Two b B j ∨ j = g) (Keeps.trans (HK7.out.mono (fun _ _ e => .inl e)) (HKR.out.mono (fun _ _ e => .inr e))) (fun j e => by
      rcases e with e | e
      · rcases e with rfl | rfl
        · exact .inl hSb
        · exact .inl hSB
      · exact .inr (.inr e))).more (T := fun j => S j ∨ j = w.heap.size + 1 + 1) (fun j _ e => e.elim .inl (fun e => .inr (.inl e))))
    have KAH := Lib.hid KA
    have HMRH := Lib.hid HMR
    have HRRH := Lib.hid HRR6
    clear KA HMR HRR6
    go_wp2_with fail
    go_region_held3 (fun w' => w'.cell? ⟨w5.heap.size, 0, none⟩ = some (.slice (some ao5) n c5) ∧ w'.cell? ⟨w5.heap.size, 1, none⟩ = some (.slice al5 (wl' n L addr xl).length cl5)) (exact ⟨Keeps.cell (S := Act3 b B w.heap.size) (by repeat (first | assumption | exact Keeps.refl _ _ | refine Keeps.drew ?_ | refine Keeps.setR ?_ _ _)) r0 (fun e => by rcases e with e | e | e <;> simp only [] at e <;> omega), Keeps.cell (S := Act3 b B w.heap.size) (by repeat (first | assumption | exact Keeps.refl _ _ | refine Keeps.drew ?_ | refine Keeps.setR ?_ _ _)) r1 (fun e => by rcases e with e | e | e <;> simp only [] at e <;> omega)⟩) ((go_at_call 11; refine (num_any _ _).mono ?_; rintro e w' ⟨rfl, rfl⟩))
    go_wp2_with fail
    obtain ⟨W, hW⟩ : ∃ W, W = ((wr.setCell ⟨w.heap.size + 1 + 1, 0, none⟩ (.slice (some ao5) n c5)).setCell ⟨w.heap.size + 1 + 1, 1, none⟩ (.slice al5 (wl' n L addr xl).length cl5)).drew := ⟨_, rfl⟩
    have KW4 : Keeps (Act3 b B w.heap.size) wr W := by rw [hW]; exact (((Keeps.refl _ _).setR _ _).setR _ _).drew
    have KW : Keeps (Act3 b B w.heap.size) w W := Keeps.trans KAH.out KW4
    have KW1 : Keeps (One (w.heap.size + 1 + 1)) wr W := by rw [hW]; exact (((Keeps.refl _ _).set1 _ _).set1 _ _).drew
    have hM := (HMRH.out).kept KW1 (fun e => by have e : b = w.heap.size + 1 + 1 := e; omega) (fun e => by have e : B = w.heap.size + 1 + 1 := e; omega)
    have u0 : W.cell? ⟨w.heap.size + 1 + 1, 0, none⟩ = some (.slice (some ao5) n c5) := by rw [hW]; go_simp
    have u1 : W.cell? ⟨w.heap.size + 1 + 1, 1, none⟩ = some (.slice al5 (wl' n L addr xl).length cl5) := by rw [hW]; go_simp
    rw [← hW]
    exact bodyPost_ret (v := .tuple #[.pointer (some ⟨b, 0, none⟩), .agg #[.slice (some ao5) n c5, .slice al5 (wl' n L addr xl).length cl5], .bool true]) (by simp [results, Try.results21, go_sem, u0, u1]) rfl (ActPost.of hSb hSB hM (HRRH.out.kept KW4 (fun j e => by rcases e with rfl | rfl | e; exact .inl hSb; exact .inl hSB; exact .inr e)) (wl_len n L addr xl) KW)

set_option maxRecDepth 100000 in
set_option maxHeartbeats 4000000 in
theorem act_write1_none (S : Nat → Prop) (b B : Nat) (v : Value) (n : Nat) (f : Nat → Int) (L : List (Nat × Nat)) (k addr : Int) (xo : Option Addr) (xl xc : Nat) (val : Int) (w : World) (hM : MemAt w b B n f L) (hR : RefAt S w v n f L) (hSb : S b) (hSB : S B) (hS : ∀ j, S j → j < w.heap.size) (ha : 0 ≤ addr) (ha' : addr ≤ 18446744073709551615) (hL : L.length ≤ 999) (s : Nat → Int) (hs : Src S w xo xl s) (hxl : xl ≤ 5000) (hxs : xo = none ∧ xl = 0 ∧ xc = 0) :
   Calls Try.prog 21 #[.pointer (some ⟨b, 0, none⟩), v, .agg (actCells 1 k addr xo xl xc val).toArray] w (ActPost S b B n L w) := by
  have HR := Lib.hid hR
  obtain ⟨ao, c, al, cl, rfl, h2, h3, h4, h5, h6, h7, h8⟩ := hR
  have HM := Lib.hid hM
  have hn4 := hM.small
  clear h6 h7 h8 hM
  obtain ⟨rfl, rfl, rfl⟩ := hxs
  obtain ⟨i0, hi, hz0, hz1, hz2⟩ := info_parts infoU8
  have HSX := Lib.hid hs
  clear hs
  have hws : ∀ W : World, (W.alloc (.cells #[] 5)).ownsRow W.heap.size 5 1 (.slice (some ⟨W.heap.size, 0, none⟩) 0 0) 0 [] := fun W =>
    ⟨rfl, .inr ⟨W.heap.size, 0, #[], rfl, Nat.le_refl _, heap_alloc_new _ _, Nat.le_refl _, by simp [maxLen], rfl, rfl⟩⟩
  have HWS := Lib.hid hws
  clear hws
  show Calls Try.prog 21 #[_, _, .agg #[.int .i64 1, .int .i64 k, .int .u64 addr, .slice none 0 0, .int .u8 val]] w _
  go_enter Try.func21, Try.ntmps21
  go_upto_region 4 with (fail)
  obtain ⟨w3, hw3⟩ : ∃ w3, w3 = ((w.alloc (.cells #[.slice (some ao) n c, .slice al L.length cl] 52)).alloc (.cells #[.int .i64 1, .int .i64 k, .int .u64 addr, .slice none 0 0, .int .u8 val] 58)).alloc (.cells #[.slice none 0 0, .slice none 0 0] 52) := ⟨_, rfl⟩
  rw [← hw3]
  have hI := act_start HM.out hw3
  clear hw3
  have hb0 := HM.out.lt
  have hB0 := HM.out.lt'
  have hH := hI.res.lt
  have hH1 : w.heap.size + 1 < w3.heap.size := by omega
  have hH0 : w.heap.size < w3.heap.size := by omega
  have q0 : w3.cell? ⟨w.heap.size, 0, none⟩ = some (.slice (some ao) n c) := hI.box4.cell (i := 0) (by omega)
  have q1 : w3.cell? ⟨w.heap.size, 1, none⟩ = some (.slice al L.length cl) := hI.box4.cell (i := 1) (by omega)
  have s0 := hI.res.cell (i := 0) (by omega)
  have s1 := hI.res.cell (i := 1) (by omega)
  have z0 := hI.res.frozen 0
  have z1 := hI.res.frozen 1
  have x1 : w3.cell? ⟨w.heap.size + 1, 1, none⟩ = some (.int .i64 k) := hI.box5.cell (i := 1) (by omega)
  have x2 : w3.cell? ⟨w.heap.size + 1, 2, none⟩ = some (.int .u64 addr) := hI.box5.cell (i := 2) (by omega)
  have x3 : w3.cell? ⟨w.heap.size + 1, 3, none⟩ = some (.slice none 0 0) := hI.box5.cell (i := 3) (by omega)
  have x4 : w3.cell? ⟨w.heap.size + 1, 4, none⟩ = some (.int .u8 val) := hI.box5.cell (i := 4) (by omega)
  have HI := Lib.hid hI
  clear hI
  go_wp2_with fail
  obtain ⟨w4, hw4⟩ : ∃ w4, w4 = w3.alloc (.cells #[] 5) := ⟨_, rfl⟩
  rw [← hw4]
  have hb34 : Below w3.heap.size w3 w4 := by rw [hw4]; exact (Below.refl _ w3).alloc (Nat.le_refl _) _
  obtain ⟨g, hgE⟩ : ∃ g, g = w3.heap.size := ⟨_, rfl⟩
  rw [← hgE]
  have hnew : w3.heap.size ≤ g ∧ ∃ F : Nat → Value, w4.rowIs g 5 0 F ∧ ∀ i : Nat, i < 0 → F i = .int .u8 (s i) := ⟨by omega, fun _ => undef, by rw [hw4, hgE]; exact World.rowIs_alloc w3 #[] 5 (fun _ => undef) (fun i hi => absurd hi (Nat.not_lt_zero _)), fun i hi => by omega⟩
  clear hgE
  clear hw4
  have q0 : w4.cell? ⟨w.heap.size, 0, none⟩ = some (.slice (some ao) n c) := (hb34.cell (p := ⟨w.heap.size, 0, none⟩) hH0).trans q0
  have q1 : w4.cell? ⟨w.heap.size, 1, none⟩ = some (.slice al L.length cl) := (hb34.cell (p := ⟨w.heap.size, 1, none⟩) hH0).trans q1
  have s0 : w4.cell? ⟨w.heap.size + 1 + 1, 0, none⟩ = some (.slice none 0 0) := (hb34.cell (p := ⟨w.heap.size + 1 + 1, 0, none⟩) hH).trans s0
  have s1 : w4.cell? ⟨w.heap.size + 1 + 1, 1, none⟩ = some (.slice none 0 0) := (hb34.cell (p := ⟨w.heap.size + 1 + 1, 1, none⟩) hH).trans s1
  have x2 : w4.cell? ⟨w.heap.size + 1, 2, none⟩ = some (.int .u64 addr) := (hb34.cell (p := ⟨w.heap.size + 1, 2, none⟩) hH1).trans x2
  have x3 : w4.cell? ⟨w.heap.size + 1, 3, none⟩ = some (.slice none 0 0) := (hb34.cell (p := ⟨w.heap.size + 1, 3, none⟩) hH1).trans x3
  have z0 : w4.frozen? ⟨w.heap.size + 1 + 1, 0, none⟩ = false := (hb34.frozen (p := ⟨w.heap.size + 1 + 1, 0, none⟩) hH).trans z0
  have z1 : w4.frozen? ⟨w.heap.size + 1 + 1, 1, none⟩ = false := (hb34.frozen (p := ⟨w.heap.size + 1 + 1, 1, none⟩) hH).trans z1
  have hH4 : w.heap.size + 1 + 1 < w4.heap.size := Nat.lt_of_lt_of_le hH hb34.size
  obtain ⟨hg, F, hrow, hF⟩ := hnew
  have hgl := hrow.lt
  have HROW := Lib.hid hrow
  have HF := Lib.hid hF
  have HB34 := Lib.hid hb34
  have hS4 : ∀ j, (fun j => S j ∨ j = w.heap.size + 1 + 1 ∨ j = g) j → j < w4.heap.size := fun j e => by
    rcases e with e | e | e
    · exact Nat.lt_trans (hS j e) (by omega)
    · omega
    · omega
  have HS4 := Lib.hid hS4
  have HR4 : Hid (RefAt (fun j => S j ∨ j = w.heap.size + 1 + 1 ∨ j = g) w4 (.agg #[.slice (some ao) n c, .slice al L.length cl]) n f L) := Lib.hid (((HR.out.more (T := (fun j => S j ∨ j = w.heap.size + 1 + 1 ∨ j = g)) (fun j hj e => by rcases e with e | e | e; exact e; omega; omega)).kept (HI.out.keeps.mono (T := fun j => j = b ∨ j = B) (fun _ _ e => e)) (fun j e => by rcases e with rfl | rfl; exact .inl hSb; exact .inl hSB)).below hb34)
  have HX4 : Hid (Src (fun j => S j ∨ j = w.heap.size + 1 + 1 ∨ j = g) w4 none 0 s) := Lib.hid (((HSX.out.more (T := (fun j => S j ∨ j = w.heap.size + 1 + 1 ∨ j = g)) (fun j hj e => by rcases e with e | e | e; exact e; omega; omega)).kept (HI.out.keeps.mono (T := fun j => j = b ∨ j = B) (fun _ _ e => e)) (fun j e => by rcases e with rfl | rfl; exact .inl hSb; exact .inl hSB)).kept (Keeps.of_below (S := fun _ => False) hb34) (fun _ e => e.elim))
  clear hrow hF hb34 hS4 x1 x4
  go_wp2_with fail
  refine (rwrite_any (fun j => S j ∨ j = w.heap.size + 1 + 1 ∨ j = g) _ n f L addr 0 0 none s w4 HR4.out hn4 ha ha' HX4.out (by omega) HS4.out).mono ?_
  rintro e w5 ⟨v5, rfl, hr5, hb5⟩
  have HR5 := Lib.hid hr5
  have HB5 := Lib.hid hb5
  obtain ⟨ao5, c5, al5, cl5, rfl, -⟩ := hr5
  have s0 : w5.cell? ⟨w.heap.size + 1 + 1, 0, none⟩ = some (.slice none 0 0) := (hb5.cell (p := ⟨w.heap.size + 1 + 1, 0, none⟩) hH4).trans s0
  have s1 : w5.cell? ⟨w.heap.size + 1 + 1, 1, none⟩ = some (.slice none 0 0) := (hb5.cell (p := ⟨w.heap.size + 1 + 1, 1, none⟩) hH4).trans s1
  have x2 : w5.cell? ⟨w.heap.size + 1, 2, none⟩ = some (.int .u64 addr) := (hb5.cell (p := ⟨w.heap.size + 1, 2, none⟩) (Nat.lt_of_succ_lt hH4)).trans x2
  have x3 : w5.cell? ⟨w.heap.size + 1, 3, none⟩ = some (.slice none 0 0) := (hb5.cell (p := ⟨w.heap.size + 1, 3, none⟩) (Nat.lt_of_succ_lt hH4)).trans x3
  have z0 : w5.frozen? ⟨w.heap.size + 1 + 1, 0, none⟩ = false := (hb5.frozen (p := ⟨w.heap.size + 1 + 1, 0, none⟩) hH4).trans z0
  have z1 : w5.frozen? ⟨w.heap.size + 1 + 1, 1, none⟩ = false := (hb5.frozen (p := ⟨w.heap.size + 1 + 1, 1, none⟩) hH4).trans z1
  have hH5 : w.heap.size + 1 + 1 < w5.heap.size := Nat.lt_of_lt_of_le hH4 hb5.size
  have hH51 : w.heap.size + 1 < w5.heap.size := Nat.lt_of_succ_lt hH5
  have hg5 : g < w5.heap.size := Nat.lt_of_lt_of_le hgl hb5.size
  clear hb5 q0 q1
  go_wp2_with fail
  obtain ⟨w6, hw6⟩ : ∃ w6, w6 = w5.alloc (.cells #[.slice (some ao5) n c5, .slice al5 (wl' n L addr 0).length cl5] 52) := ⟨_, rfl⟩
  rw [← hw6]
  have hb56 : Below w5.heap.size w5 w6 := by rw [hw6]; exact (Below.refl _ _).alloc (Nat.le_refl _) _
  have hr6 : w6.rowIs w5.heap.size 52 2 (fun i => if i = 0 then .slice (some ao5) n c5 else .slice al5 (wl' n L addr 0).length cl5) := by
    rw [hw6]; exact World.rowIs_alloc w5 #[.slice (some ao5) n c5, .slice al5 (wl' n L addr 0).length cl5] 52 (fun i => if i = 0 then .slice (some ao5) n c5 else .slice al5 (wl' n L addr 0).length cl5) (fun i hi => by match i, hi with | 0, _ => rfl | 1, _ => rfl)
  have hs6 : w5.heap.size < w6.heap.size := hr6.lt
  clear hw6
  have HR6 := Lib.hid (HR5.out.below hb56)
  have hb36 : Below w3.heap.size w3 w6 := (HB34.out.trans (HB5.out.mono HB34.out.size)).trans (hb56.mono (Nat.le_trans HB34.out.size HB5.out.size))
  have HM6 := Lib.hid (HI.out.mem.below hb36)
  have HG6 := Lib.hid ((HROW.out.of_block (HB5.out.block _ hgl)).of_block (hb56.block _ hg5))
  have HX6 : Hid (Src (fun j => S j ∨ j = w.heap.size + 1 + 1 ∨ j = g) w6 none 0 s) := Lib.hid ((HX4.out.kept (Keeps.of_below (S := fun _ => False) HB5.out) (fun _ e => e.elim)).kept (Keeps.of_below (S := fun _ => False) hb56) (fun _ e => e.elim))
  have HB36 := Lib.hid hb36
  have HROW6 := Lib.hid hr6
  have s0 : w6.cell? ⟨w.heap.size + 1 + 1, 0, none⟩ = some (.slice none 0 0) := (hb56.cell (p := ⟨w.heap.size + 1 + 1, 0, none⟩) hH5).trans s0
  have s1 : w6.cell? ⟨w.heap.size + 1 + 1, 1, none⟩ = some (.slice none 0 0) := (hb56.cell (p := ⟨w.heap.size + 1 + 1, 1, none⟩) hH5).trans s1
  have x2 : w6.cell? ⟨w.heap.size + 1, 2, none⟩ = some (.int .u64 addr) := (hb56.cell (p := ⟨w.heap.size + 1, 2, none⟩) hH51).trans x2
  have x3 : w6.cell? ⟨w.heap.size + 1, 3, none⟩ = some (.slice none 0 0) := (hb56.cell (p := ⟨w.heap.size + 1, 3, none⟩) hH51).trans x3
  have z0 : w6.frozen? ⟨w.heap.size + 1 + 1, 0, none⟩ = false := (hb56.frozen (p := ⟨w.heap.size + 1 + 1, 0, none⟩) hH5).trans z0
  have z1 : w6.frozen? ⟨w.heap.size + 1 + 1, 1, none⟩ = false := (hb56.frozen (p := ⟨w.heap.size + 1 + 1, 1, none⟩) hH5).trans z1
  clear hb56 hr6 hb36
  refine (pwrite_any b B n f L addr 0 0 (some ⟨g, 0, none⟩) s w6 HM6.out ha ha' ⟨by omega, fun _ => ⟨g, 0, rfl, fun e => by rcases e with e | e <;> omega, fun i hi => by rw [Nat.zero_add, HG6.out.cell (by omega), HF.out i hi]⟩⟩ (by omega)).mono ?_
  rintro e w7 ⟨rfl, hM7, hk7⟩
  have HM7 := Lib.hid hM7
  have HK7 := Lib.hid hk7
  have HG7 := Lib.hid (hk7.rowIs HG6.out (fun e => by rcases e with e | e <;> omega))
  have HX7 := Lib.hid (HX6.out.kept hk7 (fun j e => by rcases e with rfl | rfl; exact .inl hSb; exact .inl hSB))
  have HROW7 := Lib.hid (hk7.rowIs HROW6.out (fun e => by rcases e with e | e <;> omega))
  have x3 : w7.cell? ⟨w.heap.size + 1, 3, none⟩ = some (.slice none 0 0) := hk7.cell x3 (fun e => by rcases e with e | e <;> simp only [] at e <;> omega)
  have hN2 : ¬ Two b B (w.heap.size + 1 + 1) := fun e => by rcases e with e | e <;> omega
  have s0 : w7.cell? ⟨w.heap.size + 1 + 1, 0, none⟩ = some (.slice none 0 0) := hk7.cell s0 hN2
  have s1 : w7.cell? ⟨w.heap.size + 1 + 1, 1, none⟩ = some (.slice none 0 0) := hk7.cell s1 hN2
  have z0 : w7.frozen? ⟨w.heap.size + 1 + 1, 0, none⟩ = false := hk7.frozen' (by show w.heap.size + 1 + 1 < _; omega) hN2 z0
  have z1 : w7.frozen? ⟨w.heap.size + 1 + 1, 1, none⟩ = false := hk7.frozen' (by show w.heap.size + 1 + 1 < _; omega) hN2 z1
  have HSX7 := HX7
  have hcv1 : (convert 33 9 (.slice (some ⟨g, 0, none⟩) 0 0)).run Try.prog w7 = .ok (.string (strOf 0 s)) w7 := conv_str _ _ _ _ _ (fun j hj => by rw [Addr.add_mid, Nat.zero_add, HG7.out.cell (by omega), HF.out j hj])
  have hcv2 : (convert 33 9 (.slice none 0 0)).run Try.prog w7 = .ok (.string (strOf 0 s)) w7 := run_convert_bytes_string (P := Try.prog) w7 33 9 5 none 0 0 Try.underlying33 Try.underlying5 Try.underlying9
  clear hM7 hk7 x2
  go_upto_region 8 with fail
  clear hcv1 hcv2 x3
  go_wp2_with fail
  go_loopw [14] (fun i wr => ∃ j : Nat, j ≤ 0 ∧ i = .int .i64 j ∧ Keeps (One g) w7 wr ∧ ∃ F : Nat → Value, wr.rowIs g 5 0 F ∧ ∀ i : Nat, i < 0 → ∃ y : Int, F i = .int .u8 y) (fun i _ => 0 - (intOf i).toNat)
  case atStart => exact ⟨0, Nat.zero_le _, rfl, Keeps.refl _ _, _, HG7.out, fun i hi => ⟨_, HF.out i hi⟩⟩
  case round =>
    obtain ⟨j, hj, rfl, hkr, G, hrr, hG⟩ := hrel
    have HKR := Lib.hid hkr
    have HRR := Lib.hid hrr
    have HGG := Lib.hid hG
    clear hkr hrr hG
    obtain rfl : j = 0 := by omega
    have r6 := HKR.out.rowIs HROW7.out (fun e => by have e : w5.heap.size = g := e; omega)
    have r0 : wr.cell? ⟨w5.heap.size, 0, none⟩ = some (.slice (some ao5) n c5) := r6.cell (i := 0) (by omega)
    have r1 : wr.cell? ⟨w5.heap.size, 1, none⟩ = some (.slice al5 (wl' n L addr 0).length cl5) := r6.cell (i := 1) (by omega)
    have hN3 : ¬ One g (w.heap.size + 1 + 1) := fun e => by have e : w.heap.size + 1 + 1 = g := e; omega
    have hH7 : w.heap.size + 1 + 1 < w7.heap.size := World.block_lt_of_cell? _ _ s0
    have s0 : wr.cell? ⟨w.heap.size + 1 + 1, 0, none⟩ = some (.slice none 0 0) := HKR.out.cell s0 hN3
    have s1 : wr.cell? ⟨w.heap.size + 1 + 1, 1, none⟩ = some (.slice none 0 0) := HKR.out.cell s1 hN3
    have z0 : wr.frozen? ⟨w.heap.size + 1 + 1, 0, none⟩ = false := HKR.out.frozen' hH7 hN3 z0
    have z1 : wr.frozen? ⟨w.heap.size + 1 + 1, 1, none⟩ = false := HKR.out.frozen' hH7 hN3 z1
    clear r6
    have KA : Keeps (Act3 b B w.heap.size) w wr := (Keeps.trans (S := fun j => Act3 b B w.heap.size j ∨ j = g) (HI.out.keeps3.mono (fun _ _ e => .inl e)) (Keeps.trans (Keeps.of_below HB36.out) (Keeps.trans (HK7.out.mono (fun _ _ e => .inl (e.elim .inl (fun e => .inr (.inl e))))) (HKR.out.mono (fun _ _ e => .inr e))))).mono (fun j hj e => e.elim id (fun e => by omega))
    have HMR := HM7.out.kept HKR.out (fun e => by have e : b = g := e; omega) (fun e => by have e : B = g := e; omega)
    have HRR6 := ((HR6.out.kept (T := fun j => Two b B j ∨ j = g) (Keeps.trans (HK7.out.mono (fun _ _ e => .inl e)) (HKR.out.mono (fun _ _ e => .inr e))) (fun j e => by
      rcases e with e | e
      · rcases e with rfl | rfl
        · exact .inl hSb
        · exact .inl hSB
      · exact .inr (.inr e))).more (T := fun j => S j ∨ j = w.heap.size + 1 + 1) (fun j _ e => e.elim .inl (fun e => .inr (.inl e))))
    have KAH := Lib.hid KA
    have HMRH := Lib.hid HMR
    have HRRH := Lib.hid HRR6
    clear KA HMR HRR6
    go_wp2_with fail
    go_region_held3 (fun w' => w'.cell? ⟨w5.heap.size, 0, none⟩ = some (.slice (some ao5) n c5) ∧ w'.cell? ⟨w5.heap.size, 1, none⟩ = some (.slice al5 (wl' n L addr 0).length cl5)) (exact ⟨Keeps.cell (S := Act3 b B w.heap.size) (by repeat (first | assumption | exact Keeps.refl _ _ | refine Keeps.drew ?_ | refine Keeps.setR ?_ _ _)) r0 (fun e => by rcases e with e | e | e <;> simp only [] at e <;> omega), Keeps.cell (S := Act3 b B w.heap.size) (by repeat (first | assumption | exact Keeps.refl _ _ | refine Keeps.drew ?_ | refine Keeps.setR ?_ _ _)) r1 (fun e => by rcases e with e | e | e <;> simp only [] at e <;> omega)⟩) ((go_at_call 11; refine (num_any _ _).mono ?_; rintro e w' ⟨rfl, rfl⟩))
    go_wp2_with fail
    obtain ⟨W, hW⟩ : ∃ W, W = ((wr.setCell ⟨w.heap.size + 1 + 1, 0, none⟩ (.slice (some ao5) n c5)).setCell ⟨w.heap.size + 1 + 1, 1, none⟩ (.slice al5 (wl' n L addr 0).length cl5)).drew := ⟨_, rfl⟩
    have KW4 : Keeps (Act3 b B w.heap.size) wr W := by rw [hW]; exact (((Keeps.refl _ _).setR _ _).setR _ _).drew
    have KW : Keeps (Act3 b B w.heap.size) w W := Keeps.trans KAH.out KW4
    have KW1 : Keeps (One (w.heap.size + 1 + 1)) wr W := by rw [hW]; exact (((Keeps.refl _ _).set1 _ _).set1 _ _).drew
    have hM := (HMRH.out).kept KW1 (fun e => by have e : b = w.heap.size + 1 + 1 := e; omega) (fun e => by have e : B = w.heap.size + 1 + 1 := e; omega)
    have u0 : W.cell? ⟨w.heap.size + 1 + 1, 0, none⟩ = some (.slice (some ao5) n c5) := by rw [hW]; go_simp
    have u1 : W.cell? ⟨w.heap.size + 1 + 1, 1, none⟩ = some (.slice al5 (wl' n L addr 0).length cl5) := by rw [hW]; go_simp
    rw [← hW]
    exact bodyPost_ret (v := .tuple #[.pointer (some ⟨b, 0, none⟩), .agg #[.slice (some ao5) n c5, .slice al5 (wl' n L addr 0).length cl5], .bool true]) (by simp [results, Try.results21, go_sem, u0, u1]) rfl (ActPost.of hSb hSB hM (HRRH.out.kept KW4 (fun j e => by rcases e with rfl | rfl | e; exact .inl hSb; exact .inl hSB; exact .inr e)) (wl_len n L addr 0) KW)
end Go.Proofs.Ytobbnfdflogicaa
