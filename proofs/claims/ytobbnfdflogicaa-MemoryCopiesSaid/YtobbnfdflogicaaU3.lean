/- memory: act: a read, a copy. -/
import Derived.Test.YtobbnfdflogicaaU
namespace Go.Proofs.Ytobbnfdflogicaa
open Go.RowKit
attribute [local go_sem ↓] Go.wp_at_zero Go.wp_at_succ

set_option maxRecDepth 100000 in
set_option maxHeartbeats 4000000 in
theorem act_read3_ok (S : Nat → Prop) (b B : Nat) (v : Value) (n : Nat) (f : Nat → Int) (L : List (Nat × Nat)) (k addr : Int) (xo : Option Addr) (xl xc : Nat) (val : Int) (w : World) (hM : MemAt w b B n f L) (hR : RefAt S w v n f L) (hSb : S b) (hSB : S B) (hS : ∀ j, S j → j < w.heap.size) (ha : 0 ≤ addr) (ha' : addr ≤ 18446744073709551615) (hk : -9223372036854775808 ≤ k) (hk' : k ≤ 9223372036854775807) (hL : L.length ≤ 999) (hc : chk n addr k = 0) :
   Calls Try.prog 21 #[.pointer (some ⟨b, 0, none⟩), v, .agg (actCells 3 k addr xo xl xc val).toArray] w (ActPost S b B n L w) := by
  have HR := Lib.hid hR
  obtain ⟨ao, c, al, cl, rfl, h2, h3, h4, h5, h6, h7, h8⟩ := hR
  have HM := Lib.hid hM
  have hn4 := hM.small
  clear h6 h7 h8 hM
  show Calls Try.prog 21 #[_, _, .agg #[.int .i64 3, .int .i64 k, .int .u64 addr, .slice xo xl xc, .int .u8 val]] w _
  obtain ⟨ad, m, rfl, rfl, hfit⟩ := chk_ok ha hc
  go_enter Try.func21, Try.ntmps21
  go_wp2_with fail
  obtain ⟨w3, hw3⟩ : ∃ w3, w3 = ((w.alloc (.cells #[.slice (some ao) n c, .slice al L.length cl] 52)).alloc (.cells #[.int .i64 3, .int .i64 m, .int .u64 ad, .slice xo xl xc, .int .u8 val] 58)).alloc (.cells #[.slice none 0 0, .slice none 0 0] 52) := ⟨_, rfl⟩
  rw [← hw3]
  have hI := act_start HM.out hw3
  clear hw3
  have hb0 := HM.out.lt
  have hB0 := HM.out.lt'
  have hH := hI.res.lt
  have hH1 : w.heap.size + 1 < w3.heap.size := by omega
  have hH0 : w.heap.size < w3.heap.size := by omega
  have q0 : w3.cell? ⟨w.heap.size, 0, none⟩ = some (.slice (some ao) n c) := hI.box4.cell (i := 0) (by omega)
  have q1 : w3.cell? ⟨w.heap.size, 1, none⟩ = some (.slice al L.length cl) := hI.box4.cell (i := 1) (by omega)
  have s0 := hI.res.cell (i := 0) (by omega)
  have s1 := hI.res.cell (i := 1) (by omega)
  have z0 := hI.res.frozen 0
  have z1 := hI.res.frozen 1
  have x1 : w3.cell? ⟨w.heap.size + 1, 1, none⟩ = some (.int .i64 m) := hI.box5.cell (i := 1) (by omega)
  have x2 : w3.cell? ⟨w.heap.size + 1, 2, none⟩ = some (.int .u64 ad) := hI.box5.cell (i := 2) (by omega)
  have x3 : w3.cell? ⟨w.heap.size + 1, 3, none⟩ = some (.slice xo xl xc) := hI.box5.cell (i := 3) (by omega)
  have x4 : w3.cell? ⟨w.heap.size + 1, 4, none⟩ = some (.int .u8 val) := hI.box5.cell (i := 4) (by omega)
  have HI := Lib.hid hI
  clear hI
  refine (rread_ok (fun j => S j ∨ j = w.heap.size + 1 + 1) _ n f L ad m w3 (HR.out.act hSb hSB HI.out.keeps3) hn4 hfit).mono ?_
  rintro e w4 ⟨sv, rfl, hn4', hb4⟩
  have hH4 : w.heap.size + 1 + 1 < w4.heap.size := Nat.lt_of_lt_of_le hH hb4.size
  have x1 : w4.cell? ⟨w.heap.size + 1, 1, none⟩ = some (.int .i64 m) := (hb4.cell (p := ⟨w.heap.size + 1, 1, none⟩) hH1).trans x1
  have x2 : w4.cell? ⟨w.heap.size + 1, 2, none⟩ = some (.int .u64 ad) := (hb4.cell (p := ⟨w.heap.size + 1, 2, none⟩) hH1).trans x2
  have HN4 := Lib.hid hn4'
  have HB4 := Lib.hid hb4
  have HM4 := Lib.hid (HI.out.mem.below hb4)
  obtain ⟨g4, cap4, F4, rfl, hg4, -⟩ := hn4'
  clear hb4
  go_wp2_with fail
  refine (read_ok b B n f L ad m w4 HM4.out hfit).mono ?_
  rintro e w5 ⟨v5, rfl, hn5, hb5⟩
  have hcv1 := newBytes_str (HN4.out.kept (Keeps.of_below (S := fun _ => False) hb5) (fun _ _ e => e))
  have hcv2 := newBytes_str hn5
  have HN5 := Lib.hid hn5
  have HB5 := Lib.hid (HB4.out.trans (hb5.mono HB4.out.size))
  have hh5 := hb5.size
  obtain ⟨g5, cap5, F5, rfl, hg5, h51, h52, h53, h54⟩ := hn5
  have HF5 := Lib.hid h54
  have HG5 := Lib.hid h51
  clear h51 h54 hb5 x1 x2
  go_upto_region 21 with (first | (go_at_call 11; refine (num_any _ _).mono ?_; rintro e w' ⟨rfl, rfl⟩))
  clear hcv1 hcv2
  go_wp2_with fail
  go_loopw [22] (fun i wr => ∃ j : Nat, j ≤ m ∧ i = .int .i64 j ∧ Keeps (One g5) w5 wr ∧ ∃ F : Nat → Value, wr.rowIs g5 5 cap5 F ∧ ∀ i : Nat, i < m → ∃ y : Int, F i = .int .u8 y) (fun i _ => m - (intOf i).toNat)
  case atStart => exact ⟨0, Nat.zero_le _, rfl, Keeps.refl _ _, _, HG5.out, fun i hi => ⟨_, HF5.out i hi⟩⟩
  case round =>
    obtain ⟨j, hj, rfl, hkr, G, hrr, hG⟩ := hrel
    have HKR := Lib.hid hkr
    have HRR := Lib.hid hrr
    have HGG := Lib.hid hG
    clear hkr hrr hG
    by_cases hlt : j < m
    · obtain ⟨y, hy⟩ := HGG.out j hlt
      have c0 := HRR.out.cell (i := j) (by omega)
      rw [hy] at c0
      have f0 := HRR.out.frozen j
      clear hy
      go_wp2_with fail
      go_roundw
      case rel =>
        refine ⟨j + 1, by omega, by go_num, HKR.out.set1 _ _, _, HRR.out.set j _, fun i hi => ?_⟩
        by_cases e : i = j
        · exact ⟨_, if_pos e⟩
        · obtain ⟨z, hz⟩ := HGG.out i hi
          exact ⟨z, (if_neg e).trans hz⟩
      case measure => simp [intOf]; omega
    obtain rfl : m = j := by omega
    have K3r : Keeps (One g5) w3 wr := (Keeps.of_below HB5.out).trans HKR.out
    have hg35 : w3.heap.size ≤ g5 := Nat.le_trans HB4.out.size hg5
    have hN3 : ¬ One g5 (w.heap.size + 1 + 1) := fun e => by have e : w.heap.size + 1 + 1 = g5 := e; omega
    have hN0 : ¬ One g5 w.heap.size := fun e => by have e : w.heap.size = g5 := e; omega
    have q0 : wr.cell? ⟨w.heap.size, 0, none⟩ = some (.slice (some ao) n c) := K3r.cell q0 hN0
    have q1 : wr.cell? ⟨w.heap.size, 1, none⟩ = some (.slice al L.length cl) := K3r.cell q1 hN0
    have s0 : wr.cell? ⟨w.heap.size + 1 + 1, 0, none⟩ = some (.slice none 0 0) := K3r.cell s0 hN3
    have s1 : wr.cell? ⟨w.heap.size + 1 + 1, 1, none⟩ = some (.slice none 0 0) := K3r.cell s1 hN3
    have z0 : wr.frozen? ⟨w.heap.size + 1 + 1, 0, none⟩ = false := K3r.frozen' hH hN3 z0
    have z1 : wr.frozen? ⟨w.heap.size + 1 + 1, 1, none⟩ = false := K3r.frozen' hH hN3 z1
    have KA : Keeps (Act3 b B w.heap.size) w wr := (Keeps.trans (S := fun j => Act3 b B w.heap.size j ∨ j = g5) (HI.out.keeps3.mono (fun _ _ e => .inl e)) (K3r.mono (fun _ _ e => .inr e))).mono (fun j hj e => e.elim id (fun e => by omega))
    have HMR := HI.out.mem.kept K3r (fun e => by have e : b = g5 := e; omega) (fun e => by have e : B = g5 := e; omega)
    have HRR6 := HR.out.act hSb hSB KA
    have KAH := Lib.hid KA
    have HMRH := Lib.hid HMR
    have HRRH := Lib.hid HRR6
    have KRH := Lib.hid K3r
    clear KA HMR HRR6 K3r
    go_wp2_with fail
    go_region_held3 (fun w' => w'.cell? ⟨w.heap.size, 0, none⟩ = some (.slice (some ao) n c) ∧ w'.cell? ⟨w.heap.size, 1, none⟩ = some (.slice al L.length cl)) (exact ⟨Keeps.cell (S := Act3 b B w.heap.size) (by repeat (first | assumption | exact Keeps.refl _ _ | refine Keeps.drew ?_ | refine Keeps.setR ?_ _ _)) q0 (fun e => by rcases e with e | e | e <;> simp only [] at e <;> omega), Keeps.cell (S := Act3 b B w.heap.size) (by repeat (first | assumption | exact Keeps.refl _ _ | refine Keeps.drew ?_ | refine Keeps.setR ?_ _ _)) q1 (fun e => by rcases e with e | e | e <;> simp only [] at e <;> omega)⟩) (fail)
    go_wp2_with fail
    obtain ⟨W, hW⟩ : ∃ W, W = ((wr.setCell ⟨w.heap.size + 1 + 1, 0, none⟩ (.slice (some ao) n c)).setCell ⟨w.heap.size + 1 + 1, 1, none⟩ (.slice al L.length cl)).drew := ⟨_, rfl⟩
    have KW4 : Keeps (Act3 b B w.heap.size) wr W := by rw [hW]; exact (((Keeps.refl _ _).setR _ _).setR _ _).drew
    have KW : Keeps (Act3 b B w.heap.size) w W := Keeps.trans KAH.out KW4
    have KW1 : Keeps (One (w.heap.size + 1 + 1)) wr W := by rw [hW]; exact (((Keeps.refl _ _).set1 _ _).set1 _ _).drew
    have hM := (HMRH.out).kept KW1 (fun e => by have e : b = w.heap.size + 1 + 1 := e; omega) (fun e => by have e : B = w.heap.size + 1 + 1 := e; omega)
    have u0 : W.cell? ⟨w.heap.size + 1 + 1, 0, none⟩ = some (.slice (some ao) n c) := by rw [hW]; go_simp
    have u1 : W.cell? ⟨w.heap.size + 1 + 1, 1, none⟩ = some (.slice al L.length cl) := by rw [hW]; go_simp
    rw [← hW]
    exact bodyPost_ret (v := .tuple #[.pointer (some ⟨b, 0, none⟩), .agg #[.slice (some ao) n c, .slice al L.length cl], .bool true]) (by simp [results, Try.results21, go_sem, u0, u1]) rfl (ActPost.of hSb hSB hM (HRRH.out.kept KW4 (fun j e => by rcases e with rfl | rfl | e; exact .inl hSb; exact .inl hSB; exact .inr e)) (by omega) KW)


set_option maxRecDepth 100000 in
set_option maxHeartbeats 4000000 in
theorem act_read3_err (S : Nat → Prop) (b B : Nat) (v : Value) (n : Nat) (f : Nat → Int) (L : List (Nat × Nat)) (k addr : Int) (xo : Option Addr) (xl xc : Nat) (val : Int) (w : World) (hM : MemAt w b B n f L) (hR : RefAt S w v n f L) (hSb : S b) (hSB : S B) (hS : ∀ j, S j → j < w.heap.size) (ha : 0 ≤ addr) (ha' : addr ≤ 18446744073709551615) (hk : -9223372036854775808 ≤ k) (hk' : k ≤ 9223372036854775807) (hL : L.length ≤ 999) (hc : (chk n addr k != 0) = true) :
   Calls Try.prog 21 #[.pointer (some ⟨b, 0, none⟩), v, .agg (actCells 3 k addr xo xl xc val).toArray] w (ActPost S b B n L w) := by
  have HR := Lib.hid hR
  obtain ⟨ao, c, al, cl, rfl, h2, h3, h4, h5, h6, h7, h8⟩ := hR
  have HM := Lib.hid hM
  have hn4 := hM.small
  clear h6 h7 h8 hM
  show Calls Try.prog 21 #[_, _, .agg #[.int .i64 3, .int .i64 k, .int .u64 addr, .slice xo xl xc, .int .u8 val]] w _
  go_enter Try.func21, Try.ntmps21
  go_wp2_with fail
  obtain ⟨w3, hw3⟩ : ∃ w3, w3 = ((w.alloc (.cells #[.slice (some ao) n c, .slice al L.length cl] 52)).alloc (.cells #[.int .i64 3, .int .i64 k, .int .u64 addr, .slice xo xl xc, .int .u8 val] 58)).alloc (.cells #[.slice none 0 0, .slice none 0 0] 52) := ⟨_, rfl⟩
  rw [← hw3]
  have hI := act_start HM.out hw3
  clear hw3
  have hb0 := HM.out.lt
  have hB0 := HM.out.lt'
  have hH := hI.res.lt
  have hH1 : w.heap.size + 1 < w3.heap.size := by omega
  have hH0 : w.heap.size < w3.heap.size := by omega
  have q0 : w3.cell? ⟨w.heap.size, 0, none⟩ = some (.slice (some ao) n c) := hI.box4.cell (i := 0) (by omega)
  have q1 : w3.cell? ⟨w.heap.size, 1, none⟩ = some (.slice al L.length cl) := hI.box4.cell (i := 1) (by omega)
  have s0 := hI.res.cell (i := 0) (by omega)
  have s1 := hI.res.cell (i := 1) (by omega)
  have z0 := hI.res.frozen 0
  have z1 := hI.res.frozen 1
  have x1 : w3.cell? ⟨w.heap.size + 1, 1, none⟩ = some (.int .i64 k) := hI.box5.cell (i := 1) (by omega)
  have x2 : w3.cell? ⟨w.heap.size + 1, 2, none⟩ = some (.int .u64 addr) := hI.box5.cell (i := 2) (by omega)
  have x3 : w3.cell? ⟨w.heap.size + 1, 3, none⟩ = some (.slice xo xl xc) := hI.box5.cell (i := 3) (by omega)
  have x4 : w3.cell? ⟨w.heap.size + 1, 4, none⟩ = some (.int .u8 val) := hI.box5.cell (i := 4) (by omega)
  have HI := Lib.hid hI
  clear hI
  have hcv : ∀ w, (convert 33 9 (.slice none 0 0)).run Try.prog w = .ok (.string ByteArray.empty) w := fun w => run_convert_bytes_string (P := Try.prog) w 33 9 5 none 0 0 Try.underlying33 Try.underlying5 Try.underlying9
  refine (rread_err (fun j => S j ∨ j = w.heap.size + 1 + 1) _ n f L addr k w3 (HR.out.act hSb hSB HI.out.keeps3) hn4 ha ha' hk hk' hc).mono ?_
  rintro e w4 ⟨rfl, hb4⟩
  have hH4 : w.heap.size + 1 + 1 < w4.heap.size := Nat.lt_of_lt_of_le hH hb4.size
  have x1 : w4.cell? ⟨w.heap.size + 1, 1, none⟩ = some (.int .i64 k) := (hb4.cell (p := ⟨w.heap.size + 1, 1, none⟩) hH1).trans x1
  have x2 : w4.cell? ⟨w.heap.size + 1, 2, none⟩ = some (.int .u64 addr) := (hb4.cell (p := ⟨w.heap.size + 1, 2, none⟩) hH1).trans x2
  have HB4 := Lib.hid hb4
  have HM4 := Lib.hid (HI.out.mem.below hb4)
  clear hb4
  go_wp2_with fail
  refine (read_err b B n f L addr k w4 HM4.out ha ha' hk hk' hc).mono ?_
  rintro e w5 ⟨rfl, hb5⟩
  have HB5 := Lib.hid (HB4.out.trans (hb5.mono HB4.out.size))
  obtain ⟨g5, hg5⟩ : ∃ g5, g5 = w5.heap.size := ⟨_, rfl⟩
  have hh5 := hb5.size
  have HKR : Hid (Keeps (One g5) w5 w5) := Lib.hid (Keeps.refl _ _)
  have K3r : Keeps (One g5) w3 w5 := Keeps.of_below HB5.out
  have hg5 : w4.heap.size ≤ g5 := by omega
  clear hb5 x1 x2
  go_upto_region 21 with (first | (go_at_call 11; refine (num_any _ _).mono ?_; rintro e w' ⟨rfl, rfl⟩))
  clear hcv
  go_wp2_with fail
  refine wp_loop_rounds 1 ?_
  rw [rounds_succ]
  have hg35 : w3.heap.size ≤ g5 := Nat.le_trans HB4.out.size hg5
  have hN3 : ¬ One g5 (w.heap.size + 1 + 1) := fun e => by have e : w.heap.size + 1 + 1 = g5 := e; omega
  have hN0 : ¬ One g5 w.heap.size := fun e => by have e : w.heap.size = g5 := e; omega
  have q0 : w5.cell? ⟨w.heap.size, 0, none⟩ = some (.slice (some ao) n c) := K3r.cell q0 hN0
  have q1 : w5.cell? ⟨w.heap.size, 1, none⟩ = some (.slice al L.length cl) := K3r.cell q1 hN0
  have s0 : w5.cell? ⟨w.heap.size + 1 + 1, 0, none⟩ = some (.slice none 0 0) := K3r.cell s0 hN3
  have s1 : w5.cell? ⟨w.heap.size + 1 + 1, 1, none⟩ = some (.slice none 0 0) := K3r.cell s1 hN3
  have z0 : w5.frozen? ⟨w.heap.size + 1 + 1, 0, none⟩ = false := K3r.frozen' hH hN3 z0
  have z1 : w5.frozen? ⟨w.heap.size + 1 + 1, 1, none⟩ = false := K3r.frozen' hH hN3 z1
  have KA : Keeps (Act3 b B w.heap.size) w w5 := (Keeps.trans (S := fun j => Act3 b B w.heap.size j ∨ j = g5) (HI.out.keeps3.mono (fun _ _ e => .inl e)) (K3r.mono (fun _ _ e => .inr e))).mono (fun j hj e => e.elim id (fun e => by omega))
  have HMR := HI.out.mem.kept K3r (fun e => by have e : b = g5 := e; omega) (fun e => by have e : B = g5 := e; omega)
  have HRR6 := HR.out.act hSb hSB KA
  have KAH := Lib.hid KA
  have HMRH := Lib.hid HMR
  have HRRH := Lib.hid HRR6
  have KRH := Lib.hid K3r
  clear KA HMR HRR6 K3r
  go_wp2_with fail
  go_region_held3 (fun w' => w'.cell? ⟨w.heap.size, 0, none⟩ = some (.slice (some ao) n c) ∧ w'.cell? ⟨w.heap.size, 1, none⟩ = some (.slice al L.length cl)) (exact ⟨Keeps.cell (S := Act3 b B w.heap.size) (by repeat (first | assumption | exact Keeps.refl _ _ | refine Keeps.drew ?_ | refine Keeps.setR ?_ _ _)) q0 (fun e => by rcases e with e | e | e <;> simp only [] at e <;> omega), Keeps.cell (S := Act3 b B w.heap.size) (by repeat (first | assumption | exact Keeps.refl _ _ | refine Keeps.drew ?_ | refine Keeps.setR ?_ _ _)) q1 (fun e => by rcases e with e | e | e <;> simp only [] at e <;> omega)⟩) (fail)
  go_wp2_with fail
  obtain ⟨W, hW⟩ : ∃ W, W = ((w5.setCell ⟨w.heap.size + 1 + 1, 0, none⟩ (.slice (some ao) n c)).setCell ⟨w.heap.size + 1 + 1, 1, none⟩ (.slice al L.length cl)).drew := ⟨_, rfl⟩
  have KW4 : Keeps (Act3 b B w.heap.size) w5 W := by rw [hW]; exact (((Keeps.refl _ _).setR _ _).setR _ _).drew
  have KW : Keeps (Act3 b B w.heap.size) w W := Keeps.trans KAH.out KW4
  have KW1 : Keeps (One (w.heap.size + 1 + 1)) w5 W := by rw [hW]; exact (((Keeps.refl _ _).set1 _ _).set1 _ _).drew
  have hM := (HMRH.out).kept KW1 (fun e => by have e : b = w.heap.size + 1 + 1 := e; omega) (fun e => by have e : B = w.heap.size + 1 + 1 := e; omega)
  have u0 : W.cell? ⟨w.heap.size + 1 + 1, 0, none⟩ = some (.slice (some ao) n c) := by rw [hW]; go_simp
  have u1 : W.cell? ⟨w.heap.size + 1 + 1, 1, none⟩ = some (.slice al L.length cl) := by rw [hW]; go_simp
  rw [← hW]
  exact bodyPost_ret (v := .tuple #[.pointer (some ⟨b, 0, none⟩), .agg #[.slice (some ao) n c, .slice al L.length cl], .bool true]) (by simp [results, Try.results21, go_sem, u0, u1]) rfl (ActPost.of hSb hSB hM (HRRH.out.kept KW4 (fun j e => by rcases e with rfl | rfl | e; exact .inl hSb; exact .inl hSB; exact .inr e)) (by omega) KW)


set_option maxRecDepth 100000 in
set_option maxHeartbeats 4000000 in
theorem act_read4_ok (S : Nat → Prop) (b B : Nat) (v : Value) (n : Nat) (f : Nat → Int) (L : List (Nat × Nat)) (k addr : Int) (xo : Option Addr) (xl xc : Nat) (val : Int) (w : World) (hM : MemAt w b B n f L) (hR : RefAt S w v n f L) (hSb : S b) (hSB : S B) (hS : ∀ j, S j → j < w.heap.size) (ha : 0 ≤ addr) (ha' : addr ≤ 18446744073709551615) (hk : -9223372036854775808 ≤ k) (hk' : k ≤ 9223372036854775807) (hL : L.length ≤ 999) (hc : chk n addr k = 0) :
   Calls Try.prog 21 #[.pointer (some ⟨b, 0, none⟩), v, .agg (actCells 4 k addr xo xl xc val).toArray] w (ActPost S b B n L w) := by
  have HR := Lib.hid hR
  obtain ⟨ao, c, al, cl, rfl, h2, h3, h4, h5, h6, h7, h8⟩ := hR
  have HM := Lib.hid hM
  have hn4 := hM.small
  clear h6 h7 h8 hM
  show Calls Try.prog 21 #[_, _, .agg #[.int .i64 4, .int .i64 k, .int .u64 addr, .slice xo xl xc, .int .u8 val]] w _
  obtain ⟨ad, m, rfl, rfl, hfit⟩ := chk_ok ha hc
  go_enter Try.func21, Try.ntmps21
  go_wp2_with fail
  obtain ⟨w3, hw3⟩ : ∃ w3, w3 = ((w.alloc (.cells #[.slice (some ao) n c, .slice al L.length cl] 52)).alloc (.cells #[.int .i64 4, .int .i64 m, .int .u64 ad, .slice xo xl xc, .int .u8 val] 58)).alloc (.cells #[.slice none 0 0, .slice none 0 0] 52) := ⟨_, rfl⟩
  rw [← hw3]
  have hI := act_start HM.out hw3
  clear hw3
  have hb0 := HM.out.lt
  have hB0 := HM.out.lt'
  have hH := hI.res.lt
  have hH1 : w.heap.size + 1 < w3.heap.size := by omega
  have hH0 : w.heap.size < w3.heap.size := by omega
  have q0 : w3.cell? ⟨w.heap.size, 0, none⟩ = some (.slice (some ao) n c) := hI.box4.cell (i := 0) (by omega)
  have q1 : w3.cell? ⟨w.heap.size, 1, none⟩ = some (.slice al L.length cl) := hI.box4.cell (i := 1) (by omega)
  have s0 := hI.res.cell (i := 0) (by omega)
  have s1 := hI.res.cell (i := 1) (by omega)
  have z0 := hI.res.frozen 0
  have z1 := hI.res.frozen 1
  have x1 : w3.cell? ⟨w.heap.size + 1, 1, none⟩ = some (.int .i64 m) := hI.box5.cell (i := 1) (by omega)
  have x2 : w3.cell? ⟨w.heap.size + 1, 2, none⟩ = some (.int .u64 ad) := hI.box5.cell (i := 2) (by omega)
  have x3 : w3.cell? ⟨w.heap.size + 1, 3, none⟩ = some (.slice xo xl xc) := hI.box5.cell (i := 3) (by omega)
  have x4 : w3.cell? ⟨w.heap.size + 1, 4, none⟩ = some (.int .u8 val) := hI.box5.cell (i := 4) (by omega)
  have HI := Lib.hid hI
  clear hI
  refine (rread_ok (fun j => S j ∨ j = w.heap.size + 1 + 1) _ n f L ad m w3 (HR.out.act hSb hSB HI.out.keeps3) hn4 hfit).mono ?_
  rintro e w4 ⟨sv, rfl, hn4', hb4⟩
  have hH4 : w.heap.size + 1 + 1 < w4.heap.size := Nat.lt_of_lt_of_le hH hb4.size
  have x1 : w4.cell? ⟨w.heap.size + 1, 1, none⟩ = some (.int .i64 m) := (hb4.cell (p := ⟨w.heap.size + 1, 1, none⟩) hH1).trans x1
  have x2 : w4.cell? ⟨w.heap.size + 1, 2, none⟩ = some (.int .u64 ad) := (hb4.cell (p := ⟨w.heap.size + 1, 2, none⟩) hH1).trans x2
  have HN4 := Lib.hid hn4'
  have HB4 := Lib.hid hb4
  have HM4 := Lib.hid (HI.out.mem.below hb4)
  obtain ⟨g4, cap4, F4, rfl, hg4, -⟩ := hn4'
  clear hb4
  go_wp2_with fail
  refine (read_ok b B n f L ad m w4 HM4.out hfit).mono ?_
  rintro e w5 ⟨v5, rfl, hn5, hb5⟩
  have hcv1 := newBytes_str (HN4.out.kept (Keeps.of_below (S := fun _ => False) hb5) (fun _ _ e => e))
  have hcv2 := newBytes_str hn5
  have HN5 := Lib.hid hn5
  have HB5 := Lib.hid (HB4.out.trans (hb5.mono HB4.out.size))
  have hh5 := hb5.size
  obtain ⟨g5, cap5, F5, rfl, hg5, h51, h52, h53, h54⟩ := hn5
  have HF5 := Lib.hid h54
  have HG5 := Lib.hid h51
  clear h51 h54 hb5 x1 x2
  go_upto_region 21 with (first | (go_at_call 11; refine (num_any _ _).mono ?_; rintro e w' ⟨rfl, rfl⟩))
  clear hcv1 hcv2
  go_wp2_with fail
  go_loopw [22] (fun i wr => ∃ j : Nat, j ≤ m ∧ i = .int .i64 j ∧ Keeps (One g5) w5 wr ∧ ∃ F : Nat → Value, wr.rowIs g5 5 cap5 F ∧ ∀ i : Nat, i < m → ∃ y : Int, F i = .int .u8 y) (fun i _ => m - (intOf i).toNat)
  case atStart => exact ⟨0, Nat.zero_le _, rfl, Keeps.refl _ _, _, HG5.out, fun i hi => ⟨_, HF5.out i hi⟩⟩
  case round =>
    obtain ⟨j, hj, rfl, hkr, G, hrr, hG⟩ := hrel
    have HKR := Lib.hid hkr
    have HRR := Lib.hid hrr
    have HGG := Lib.hid hG
    clear hkr hrr hG
    by_cases hlt : j < m
    · obtain ⟨y, hy⟩ := HGG.out j hlt
      have c0 := HRR.out.cell (i := j) (by omega)
      rw [hy] at c0
      have f0 := HRR.out.frozen j
      clear hy
      go_wp2_with fail
      go_roundw
      case rel =>
        refine ⟨j + 1, by omega, by go_num, HKR.out.set1 _ _, _, HRR.out.set j _, fun i hi => ?_⟩
        by_cases e : i = j
        · exact ⟨_, if_pos e⟩
        · obtain ⟨z, hz⟩ := HGG.out i hi
          exact ⟨z, (if_neg e).trans hz⟩
      case measure => simp [intOf]; omega
    obtain rfl : m = j := by omega
    have K3r : Keeps (One g5) w3 wr := (Keeps.of_below HB5.out).trans HKR.out
    have hg35 : w3.heap.size ≤ g5 := Nat.le_trans HB4.out.size hg5
    have hN3 : ¬ One g5 (w.heap.size + 1 + 1) := fun e => by have e : w.heap.size + 1 + 1 = g5 := e; omega
    have hN0 : ¬ One g5 w.heap.size := fun e => by have e : w.heap.size = g5 := e; omega
    have q0 : wr.cell? ⟨w.heap.size, 0, none⟩ = some (.slice (some ao) n c) := K3r.cell q0 hN0
    have q1 : wr.cell? ⟨w.heap.size, 1, none⟩ = some (.slice al L.length cl) := K3r.cell q1 hN0
    have s0 : wr.cell? ⟨w.heap.size + 1 + 1, 0, none⟩ = some (.slice none 0 0) := K3r.cell s0 hN3
    have s1 : wr.cell? ⟨w.heap.size + 1 + 1, 1, none⟩ = some (.slice none 0 0) := K3r.cell s1 hN3
    have z0 : wr.frozen? ⟨w.heap.size + 1 + 1, 0, none⟩ = false := K3r.frozen' hH hN3 z0
    have z1 : wr.frozen? ⟨w.heap.size + 1 + 1, 1, none⟩ = false := K3r.frozen' hH hN3 z1
    have KA : Keeps (Act3 b B w.heap.size) w wr := (Keeps.trans (S := fun j => Act3 b B w.heap.size j ∨ j = g5) (HI.out.keeps3.mono (fun _ _ e => .inl e)) (K3r.mono (fun _ _ e => .inr e))).mono (fun j hj e => e.elim id (fun e => by omega))
    have HMR := HI.out.mem.kept K3r (fun e => by have e : b = g5 := e; omega) (fun e => by have e : B = g5 := e; omega)
    have HRR6 := HR.out.act hSb hSB KA
    have KAH := Lib.hid KA
    have HMRH := Lib.hid HMR
    have HRRH := Lib.hid HRR6
    have KRH := Lib.hid K3r
    clear KA HMR HRR6 K3r
    go_wp2_with fail
    go_region_held3 (fun w' => w'.cell? ⟨w.heap.size, 0, none⟩ = some (.slice (some ao) n c) ∧ w'.cell? ⟨w.heap.size, 1, none⟩ = some (.slice al L.length cl)) (exact ⟨Keeps.cell (S := Act3 b B w.heap.size) (by repeat (first | assumption | exact Keeps.refl _ _ | refine Keeps.drew ?_ | refine Keeps.setR ?_ _ _)) q0 (fun e => by rcases e with e | e | e <;> simp only [] at e <;> omega), Keeps.cell (S := Act3 b B w.heap.size) (by repeat (first | assumption | exact Keeps.refl _ _ | refine Keeps.drew ?_ | refine Keeps.setR ?_ _ _)) q1 (fun e => by rcases e with e | e | e <;> simp only [] at e <;> omega)⟩) (fail)
    go_wp2_with fail
    obtain ⟨W, hW⟩ : ∃ W, W = ((wr.setCell ⟨w.heap.size + 1 + 1, 0, none⟩ (.slice (some ao) n c)).setCell ⟨w.heap.size + 1 + 1, 1, none⟩ (.slice al L.length cl)).drew := ⟨_, rfl⟩
    have KW4 : Keeps (Act3 b B w.heap.size) wr W := by rw [hW]; exact (((Keeps.refl _ _).setR _ _).setR _ _).drew
    have KW : Keeps (Act3 b B w.heap.size) w W := Keeps.trans KAH.out KW4
    have KW1 : Keeps (One (w.heap.size + 1 + 1)) wr W := by rw [hW]; exact (((Keeps.refl _ _).set1 _ _).set1 _ _).drew
    have hM := (HMRH.out).kept KW1 (fun e => by have e : b = w.heap.size + 1 + 1 := e; omega) (fun e => by have e : B = w.heap.size + 1 + 1 := e; omega)
    have u0 : W.cell? ⟨w.heap.size + 1 + 1, 0, none⟩ = some (.slice (some ao) n c) := by rw [hW]; go_simp
    have u1 : W.cell? ⟨w.heap.size + 1 + 1, 1, none⟩ = some (.slice al L.length cl) := by rw [hW]; go_simp
    rw [← hW]
    exact bodyPost_ret (v := .tuple #[.pointer (some ⟨b, 0, none⟩), .agg #[.slice (some ao) n c, .slice al L.length cl], .bool true]) (by simp [results, Try.results21, go_sem, u0, u1]) rfl (ActPost.of hSb hSB hM (HRRH.out.kept KW4 (fun j e => by rcases e with rfl | rfl | e; exact .inl hSb; exact .inl hSB; exact .inr e)) (by omega) KW)


set_option maxRecDepth 100000 in
set_option maxHeartbeats 4000000 in
theorem act_read4_err (S : Nat → Prop) (b B : Nat) (v : Value) (n : Nat) (f : Nat → Int) (L : List (Nat × Nat)) (k addr : Int) (xo : Option Addr) (xl xc : Nat) (val : Int) (w : World) (hM : MemAt w b B n f L) (hR : RefAt S w v n f L) (hSb : S b) (hSB : S B) (hS : ∀ j, S j → j < w.heap.size) (ha : 0 ≤ addr) (ha' : addr ≤ 18446744073709551615) (hk : -9223372036854775808 ≤ k) (hk' : k ≤ 9223372036854775807) (hL : L.length ≤ 999) (hc : (chk n addr k != 0) = true) :
   Calls Try.prog 21 #[.pointer (some ⟨b, 0, none⟩), v, .agg (actCells 4 k addr xo xl xc val).toArray] w (ActPost S b B n L w) := by
  have HR := Lib.hid hR
  obtain ⟨ao, c, al, cl, rfl, h2, h3, h4, h5, h6, h7, h8⟩ := hR
  have HM := Lib.hid hM
  have hn4 := hM.small
  clear h6 h7 h8 hM
  show Calls Try.prog 21 #[_, _, .agg #[.int .i64 4, .int .i64 k, .int .u64 addr, .slice xo xl xc, .int .u8 val]] w _
  go_enter Try.func21, Try.ntmps21
  go_wp2_with fail
  obtain ⟨w3, hw3⟩ : ∃ w3, w3 = ((w.alloc (.cells #[.slice (some ao) n c, .slice al L.length cl] 52)).alloc (.cells #[.int .i64 4, .int .i64 k, .int .u64 addr, .slice xo xl xc, .int .u8 val] 58)).alloc (.cells #[.slice none 0 0, .slice none 0 0] 52) := ⟨_, rfl⟩
  rw [← hw3]
  have hI := act_start HM.out hw3
  clear hw3
  have hb0 := HM.out.lt
  have hB0 := HM.out.lt'
  have hH := hI.res.lt
  have hH1 : w.heap.size + 1 < w3.heap.size := by omega
  have hH0 : w.heap.size < w3.heap.size := by omega
  have q0 : w3.cell? ⟨w.heap.size, 0, none⟩ = some (.slice (some ao) n c) := hI.box4.cell (i := 0) (by omega)
  have q1 : w3.cell? ⟨w.heap.size, 1, none⟩ = some (.slice al L.length cl) := hI.box4.cell (i := 1) (by omega)
  have s0 := hI.res.cell (i := 0) (by omega)
  have s1 := hI.res.cell (i := 1) (by omega)
  have z0 := hI.res.frozen 0
  have z1 := hI.res.frozen 1
  have x1 : w3.cell? ⟨w.heap.size + 1, 1, none⟩ = some (.int .i64 k) := hI.box5.cell (i := 1) (by omega)
  have x2 : w3.cell? ⟨w.heap.size + 1, 2, none⟩ = some (.int .u64 addr) := hI.box5.cell (i := 2) (by omega)
  have x3 : w3.cell? ⟨w.heap.size + 1, 3, none⟩ = some (.slice xo xl xc) := hI.box5.cell (i := 3) (by omega)
  have x4 : w3.cell? ⟨w.heap.size + 1, 4, none⟩ = some (.int .u8 val) := hI.box5.cell (i := 4) (by omega)
  have HI := Lib.hid hI
  clear hI
  have hcv : ∀ w, (convert 33 9 (.slice none 0 0)).run Try.prog w = .ok (.string ByteArray.empty) w := fun w => run_convert_bytes_string (P := Try.prog) w 33 9 5 none 0 0 Try.underlying33 Try.underlying5 Try.underlying9
  refine (rread_err (fun j => S j ∨ j = w.heap.size + 1 + 1) _ n f L addr k w3 (HR.out.act hSb hSB HI.out.keeps3) hn4 ha ha' hk hk' hc).mono ?_
  rintro e w4 ⟨rfl, hb4⟩
  have hH4 : w.heap.size + 1 + 1 < w4.heap.size := Nat.lt_of_lt_of_le hH hb4.size
  have x1 : w4.cell? ⟨w.heap.size + 1, 1, none⟩ = some (.int .i64 k) := (hb4.cell (p := ⟨w.heap.size + 1, 1, none⟩) hH1).trans x1
  have x2 : w4.cell? ⟨w.heap.size + 1, 2, none⟩ = some (.int .u64 addr) := (hb4.cell (p := ⟨w.heap.size + 1, 2, none⟩) hH1).trans x2
  have HB4 := Lib.hid hb4
  have HM4 := Lib.hid (HI.out.mem.below hb4)
  clear hb4
  go_wp2_with fail
  refine (read_err b B n f L addr k w4 HM4.out ha ha' hk hk' hc).mono ?_
  rintro e w5 ⟨rfl, hb5⟩
  have HB5 := Lib.hid (HB4.out.trans (hb5.mono HB4.out.size))
  obtain ⟨g5, hg5⟩ : ∃ g5, g5 = w5.heap.size := ⟨_, rfl⟩
  have hh5 := hb5.size
  have HKR : Hid (Keeps (One g5) w5 w5) := Lib.hid (Keeps.refl _ _)
  have K3r : Keeps (One g5) w3 w5 := Keeps.of_below HB5.out
  have hg5 : w4.heap.size ≤ g5 := by omega
  clear hb5 x1 x2
  go_upto_region 21 with (first | (go_at_call 11; refine (num_any _ _).mono ?_; rintro e w' ⟨rfl, rfl⟩))
  clear hcv
  go_wp2_with fail
  refine wp_loop_rounds 1 ?_
  rw [rounds_succ]
  have hg35 : w3.heap.size ≤ g5 := Nat.le_trans HB4.out.size hg5
  have hN3 : ¬ One g5 (w.heap.size + 1 + 1) := fun e => by have e : w.heap.size + 1 + 1 = g5 := e; omega
  have hN0 : ¬ One g5 w.heap.size := fun e => by have e : w.heap.size = g5 := e; omega
  have q0 : w5.cell? ⟨w.heap.size, 0, none⟩ = some (.slice (some ao) n c) := K3r.cell q0 hN0
  have q1 : w5.cell? ⟨w.heap.size, 1, none⟩ = some (.slice al L.length cl) := K3r.cell q1 hN0
  have s0 : w5.cell? ⟨w.heap.size + 1 + 1, 0, none⟩ = some (.slice none 0 0) := K3r.cell s0 hN3
  have s1 : w5.cell? ⟨w.heap.size + 1 + 1, 1, none⟩ = some (.slice none 0 0) := K3r.cell s1 hN3
  have z0 : w5.frozen? ⟨w.heap.size + 1 + 1, 0, none⟩ = false := K3r.frozen' hH hN3 z0
  have z1 : w5.frozen? ⟨w.heap.size + 1 + 1, 1, none⟩ = false := K3r.frozen' hH hN3 z1
  have KA : Keeps (Act3 b B w.heap.size) w w5 := (Keeps.trans (S := fun j => Act3 b B w.heap.size j ∨ j = g5) (HI.out.keeps3.mono (fun _ _ e => .inl e)) (K3r.mono (fun _ _ e => .inr e))).mono (fun j hj e => e.elim id (fun e => by omega))
  have HMR := HI.out.mem.kept K3r (fun e => by have e : b = g5 := e; omega) (fun e => by have e : B = g5 := e; omega)
  have HRR6 := HR.out.act hSb hSB KA
  have KAH := Lib.hid KA
  have HMRH := Lib.hid HMR
  have HRRH := Lib.hid HRR6
  have KRH := Lib.hid K3r
  clear KA HMR HRR6 K3r
  go_wp2_with fail
  go_region_held3 (fun w' => w'.cell? ⟨w.heap.size, 0, none⟩ = some (.slice (some ao) n c) ∧ w'.cell? ⟨w.heap.size, 1, none⟩ = some (.slice al L.length cl)) (exact ⟨Keeps.cell (S := Act3 b B w.heap.size) (by repeat (first | assumption | exact Keeps.refl _ _ | refine Keeps.drew ?_ | refine Keeps.setR ?_ _ _)) q0 (fun e => by rcases e with e | e | e <;> simp only [] at e <;> omega), Keeps.cell (S := Act3 b B w.heap.size) (by repeat (first | assumption | exact Keeps.refl _ _ | refine Keeps.drew ?_ | refine Keeps.setR ?_ _ _)) q1 (fun e => by rcases e with e | e | e <;> simp only [] at e <;> omega)⟩) (fail)
  go_wp2_with fail
  obtain ⟨W, hW⟩ : ∃ W, W = ((w5.setCell ⟨w.heap.size + 1 + 1, 0, none⟩ (.slice (some ao) n c)).setCell ⟨w.heap.size + 1 + 1, 1, none⟩ (.slice al L.length cl)).drew := ⟨_, rfl⟩
  have KW4 : Keeps (Act3 b B w.heap.size) w5 W := by rw [hW]; exact (((Keeps.refl _ _).setR _ _).setR _ _).drew
  have KW : Keeps (Act3 b B w.heap.size) w W := Keeps.trans KAH.out KW4
  have KW1 : Keeps (One (w.heap.size + 1 + 1)) w5 W := by rw [hW]; exact (((Keeps.refl _ _).set1 _ _).set1 _ _).drew
  have hM := (HMRH.out).kept KW1 (fun e => by have e : b = w.heap.size + 1 + 1 := e; omega) (fun e => by have e : B = w.heap.size + 1 + 1 := e; omega)
  have u0 : W.cell? ⟨w.heap.size + 1 + 1, 0, none⟩ = some (.slice (some ao) n c) := by rw [hW]; go_simp
  have u1 : W.cell? ⟨w.heap.size + 1 + 1, 1, none⟩ = some (.slice al L.length cl) := by rw [hW]; go_simp
  rw [← hW]
  exact bodyPost_ret (v := .tuple #[.pointer (some ⟨b, 0, none⟩), .agg #[.slice (some ao) n c, .slice al L.length cl], .bool true]) (by simp [results, Try.results21, go_sem, u0, u1]) rfl (ActPost.of hSb hSB hM (HRRH.out.kept KW4 (fun j e => by rcases e with rfl | rfl | e; exact .inl hSb; exact .inl hSB; exact .inr e)) (by omega) KW)


set_option maxRecDepth 100000 in
set_option maxHeartbeats 4000000 in
theorem act_copy (S : Nat → Prop) (b B : Nat) (v : Value) (n : Nat) (f : Nat → Int) (L : List (Nat × Nat)) (k addr : Int) (xo : Option Addr) (xl xc : Nat) (val : Int) (w : World) (hM : MemAt w b B n f L) (hR : RefAt S w v n f L) (hSb : S b) (hSB : S B) (hS : ∀ j, S j → j < w.heap.size) (what : Int) (n0 : (what == 0) = false) (n1 : (what == 1) = false) (n2 : (what == 2) = false) (n3 : (what == 3) = false) (n4 : (what == 4) = false) (n5 : (what == 5) = false) (n6 : (what == 6) = false) :
   Calls Try.prog 21 #[.pointer (some ⟨b, 0, none⟩), v, .agg (actCells what k addr xo xl xc val).toArray] w (ActPost S b B n L w) := by
  have HR := Lib.hid hR
  obtain ⟨ao, c, al, cl, rfl, h2, h3, h4, h5, h6, h7, h8⟩ := hR
  have HM := Lib.hid hM
  have hn4 := hM.small
  clear h6 h7 h8 hM
  show Calls Try.prog 21 #[_, _, .agg #[.int .i64 what, .int .i64 k, .int .u64 addr, .slice xo xl xc, .int .u8 val]] w _
  go_enter Try.func21, Try.ntmps21
  go_wp2_with fail
  obtain ⟨w3, hw3⟩ : ∃ w3, w3 = ((w.alloc (.cells #[.slice (some ao) n c, .slice al L.length cl] 52)).alloc (.cells #[.int .i64 what, .int .i64 k, .int .u64 addr, .slice xo xl xc, .int .u8 val] 58)).alloc (.cells #[.slice none 0 0, .slice none 0 0] 52) := ⟨_, rfl⟩
  rw [← hw3]
  have hI := act_start HM.out hw3
  clear hw3
  have hb0 := HM.out.lt
  have hB0 := HM.out.lt'
  have hH := hI.res.lt
  have hH1 : w.heap.size + 1 < w3.heap.size := by omega
  have hH0 : w.heap.size < w3.heap.size := by omega
  have q0 : w3.cell? ⟨w.heap.size, 0, none⟩ = some (.slice (some ao) n c) := hI.box4.cell (i := 0) (by omega)
  have q1 : w3.cell? ⟨w.heap.size, 1, none⟩ = some (.slice al L.length cl) := hI.box4.cell (i := 1) (by omega)
  have s0 := hI.res.cell (i := 0) (by omega)
  have s1 := hI.res.cell (i := 1) (by omega)
  have z0 := hI.res.frozen 0
  have z1 := hI.res.frozen 1
  have x1 : w3.cell? ⟨w.heap.size + 1, 1, none⟩ = some (.int .i64 k) := hI.box5.cell (i := 1) (by omega)
  have x2 : w3.cell? ⟨w.heap.size + 1, 2, none⟩ = some (.int .u64 addr) := hI.box5.cell (i := 2) (by omega)
  have x3 : w3.cell? ⟨w.heap.size + 1, 3, none⟩ = some (.slice xo xl xc) := hI.box5.cell (i := 3) (by omega)
  have x4 : w3.cell? ⟨w.heap.size + 1, 4, none⟩ = some (.int .u8 val) := hI.box5.cell (i := 4) (by omega)
  have HI := Lib.hid hI
  clear hI
  clear x1 x2 x3 x4
  go_region_held3 (fun w' => w'.cell? ⟨w.heap.size, 0, none⟩ = some (.slice (some ao) n c) ∧ w'.cell? ⟨w.heap.size, 1, none⟩ = some (.slice al L.length cl)) (exact ⟨Keeps.cell (S := One (w.heap.size + 1 + 1)) (by repeat (first | assumption | exact Keeps.refl _ _ | refine Keeps.drew ?_ | refine Keeps.set1 ?_ _ _)) q0 (fun e => by have e := (show _ = w.heap.size + 1 + 1 from e); simp only [] at e; omega), Keeps.cell (S := One (w.heap.size + 1 + 1)) (by repeat (first | assumption | exact Keeps.refl _ _ | refine Keeps.drew ?_ | refine Keeps.set1 ?_ _ _)) q1 (fun e => by have e := (show _ = w.heap.size + 1 + 1 from e); simp only [] at e; omega)⟩) ((go_at_call 23; refine (copy_ok b B n f L _ (HI.out.mem.kept (S := One (w.heap.size + 1 + 1)) (by repeat (first | assumption | exact Keeps.refl _ _ | refine Keeps.drew ?_ | refine Keeps.set1 ?_ _ _)) (fun e => by have e : b = w.heap.size + 1 + 1 := e; omega) (fun e => by have e : B = w.heap.size + 1 + 1 := e; omega))).mono ?_; rintro e w4 ⟨b', B', rfl, hb'0, hB'0, hb4, hM4⟩; have hb' : w3.heap.size ≤ b' := Nat.le_trans (by first | exact Nat.le_refl _ | (simp; omega)) hb'0; have hB' : w3.heap.size ≤ B' := Nat.le_trans (by first | exact Nat.le_refl _ | (simp; omega)) hB'0; have hk4 := Keeps.of_below (S := fun _ => False) hb4; clear hb4 hb'0 hB'0; have K4 : Keeps (One (w.heap.size + 1 + 1)) w3 w4 := Keeps.trans (by repeat (first | assumption | exact Keeps.refl _ _ | refine Keeps.drew ?_ | refine Keeps.set1 ?_ _ _)) (Keeps.mono hk4 (fun _ _ e => False.elim e)); (first | (have s0 : w4.cell? ⟨w.heap.size + 1 + 1, 0, none⟩ = some (.slice none 0 0) := hk4.cell (by go_simp) (fun e => e); have s1 : w4.cell? ⟨w.heap.size + 1 + 1, 1, none⟩ = some (.slice none 0 0) := hk4.cell (by go_simp) (fun e => e)) | (have s0 : w4.cell? ⟨w.heap.size + 1 + 1, 0, none⟩ = some (.slice (some ao) n c) := hk4.cell (by go_simp) (fun e => e); have s1 : w4.cell? ⟨w.heap.size + 1 + 1, 1, none⟩ = some (.slice al L.length cl) := hk4.cell (by go_simp) (fun e => e))); have hH4 : w.heap.size + 1 + 1 < w4.heap.size := Nat.lt_of_lt_of_le (by first | omega | (simp; done) | (simp; omega)) hk4.size; have z0 : w4.frozen? ⟨w.heap.size + 1 + 1, 0, none⟩ = false := (hk4.frozen' (by first | omega | (simp; done) | (simp; omega)) (fun e => e) (by go_simp)); have z1 : w4.frozen? ⟨w.heap.size + 1 + 1, 1, none⟩ = false := (hk4.frozen' (by first | omega | (simp; done) | (simp; omega)) (fun e => e) (by go_simp))))
  go_wp2_with fail
  obtain ⟨W, hW⟩ : ∃ W, W = (w4.setCell ⟨w.heap.size + 1 + 1, 0, none⟩ (.slice (some ao) n c)).setCell ⟨w.heap.size + 1 + 1, 1, none⟩ (.slice al L.length cl) := ⟨_, rfl⟩
  have KW1 : Keeps (One (w.heap.size + 1 + 1)) w4 W := by rw [hW]; exact (((Keeps.refl _ _).set1 _ _).set1 _ _)
  have KW : Keeps (Act3 b B w.heap.size) w W := HI.out.keeps3.trans ((K4.trans KW1).mono (fun _ _ e => .inr (.inr e)))
  have hM := hM4.kept KW1 (fun e => by have e : b' = w.heap.size + 1 + 1 := e; omega) (fun e => by have e : B' = w.heap.size + 1 + 1 := e; omega)
  have u0 : W.cell? ⟨w.heap.size + 1 + 1, 0, none⟩ = some (.slice (some ao) n c) := by rw [hW]; go_simp
  have u1 : W.cell? ⟨w.heap.size + 1 + 1, 1, none⟩ = some (.slice al L.length cl) := by rw [hW]; go_simp
  rw [← hW]
  have hR' : RefAt (fun j => S j ∨ j = b' ∨ j = B') W (.agg #[.slice (some ao) n c, .slice al L.length cl]) n f L :=
    (((HR.out.more (T := fun j => S j ∨ j = w.heap.size + 1 + 1 ∨ j = b' ∨ j = B') (fun j hj e => by rcases e with e | e | e | e; exact e; omega; omega; omega)).kept KW (fun j e => by
      rcases e with rfl | rfl | e
      · exact .inl hSb
      · exact .inl hSB
      · exact .inr (.inl e))).more (fun j _ e => by
      rcases e with e | e | e
      · exact .inl e
      · exact .inr (.inr (.inl e))
      · exact .inr (.inr (.inr e))))
  exact bodyPost_ret (v := .tuple #[.pointer (some ⟨b', 0, none⟩), .agg #[.slice (some ao) n c, .slice al L.length cl], .bool true]) (by simp [results, Try.results21, go_sem, u0, u1]) rfl ⟨b', B', f, L, _, rfl, hM, hR', by omega, KW.mono (fun j hj e => by rcases e with e | e | e; exact .inl e; exact .inr e; omega), .inr ⟨by omega, by omega⟩⟩
end Go.Proofs.Ytobbnfdflogicaa
