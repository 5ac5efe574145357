/- prp: the law PrpHolds. -/
import Derived.Test.YtfploifafpifnaaLB
namespace Go.Proofs.Ytfploifafpifnaa
set_option linter.unusedVariables false
set_option linter.unusedSimpArgs false
open Go.RowKit

theorem new20 (w : World) : Calls Try.prog 15 #[.int .i64 20] w fun e w' => ∃ b B, e = .returned (.tuple #[.pointer (some ⟨b, 0, none⟩), .int .i64 0]) ∧ w.heap.size ≤ b ∧ w.heap.size ≤ B ∧ Below w.heap.size w w' ∧ MemAt w' b B 81920 (fun _ => 0) [] := by
  have h := new_ok 20 w (by omega) (by omega)
  rw [show 20 * 4096 = 81920 by omega] at h
  exact h
/-- bytes that came in -/
def BAt (w : World) (ao : Option Addr) (n : Nat) (z : Nat → Int) : Prop := ∀ i, i < n → ∃ g o, ao = some ⟨g, o, none⟩ ∧ w.cell? ⟨g, o + i, none⟩ = some (.int .u8 (z i))
theorem BAt.below {w w' : World} {ao : Option Addr} {n : Nat} {z : Nat → Int} (h : BAt w ao n z) (hb : Below w.heap.size w w') : BAt w' ao n z := fun i hi => by
  obtain ⟨g, o, e, hc⟩ := h i hi
  exact ⟨g, o, e, (hb.cell (p := ⟨g, o + i, none⟩) (World.block_lt_of_cell? _ _ hc)).trans hc⟩
theorem bAt_of {w : World} {ao : Option Addr} {len cap : Nat} {zs : List Int} (h : IsRow .u8 w ao len cap zs) : BAt w ao len (fun i => zs.getD i 0) ∧ (∀ i, 0 ≤ zs.getD i 0 ∧ zs.getD i 0 ≤ 255) ∧ len ≤ 9223372036854775807 := by
  rcases h with ⟨rfl, rfl, rfl, rfl⟩ | ⟨x, rfl, h1, h2, h3, h4, h5⟩
  · exact ⟨fun i hi => by omega, fun i => by simp, by omega⟩
  · refine ⟨fun i hi => ?_, fun i => ?_, by unfold maxLen at h2; omega⟩
    · have hc := h4 i (by omega)
      have e0 := addr_of_cell (h4 0 (by omega))
      rw [Addr.add_zero'] at e0
      refine ⟨x.block, x.off, congrArg some e0, ?_⟩
      rw [e0, Addr.add_mid] at hc
      exact hc
    · rcases Nat.lt_or_ge i zs.length with c | c
      · have := h5 (zs.getD i 0) (by simp [List.getD_eq_getElem?_getD, c])
        exact wf_u8 this
      · simp [List.getD_eq_getElem?_getD, List.getElem?_eq_none c]
/-- the pages of the law -/
def ph (z : Nat → Int) (i : Nat) : Int := z i % 16 * 4096
theorem bt_holds (z : Nat → Int) (hz : ∀ i, 0 ≤ z i ∧ z i ≤ 255) (o at' : Nat) (ho : o < 4096) (h4 : o % 4 = 0) (ha : at' < 4096) (h8 : at' % 8 = 0) (N : Int) (hn : 1 ≤ N) (hn2 : N ≤ 200000) (K : Nat) (hK : pgs o N = K) : Bt 81920 (69632 + at') 73728 ((4096 - (69632 + at') % 4096) / 8) K (ph z) o N := by
  refine ⟨hn, by omega, by omega, by omega, by omega, hK, fun i hi => ?_, by omega, by omega, rfl, by omega, by omega, by omega, by omega⟩
  have := hz i
  unfold ph
  omega
/-- What Build and Spans leave. -/
def HoldsPost (b B K : Nat) (p : Nat → Int) (o N : Int) (W : World) (e : Ending) (w' : World) : Prop :=
  ∃ (first second : Int) (F : Nat → Int) (L : List (Nat × Nat)), e = .returned (.tuple #[.int .u64 first, .int .u64 second, .int .i64 0]) ∧ Keeps (Two b B) W w' ∧ MemAt w' b B 81920 F L ∧
    ∀ w2, MemAt w2 b B 81920 F L → Calls Try.prog 16 #[.pointer (some ⟨b, 0, none⟩), .int .u64 first, .int .u64 second, .int .i64 N] w2 (SpPost w2 (.ok (outP p o N K)))
theorem holds_any (z : Nat → Int) (hz : ∀ i, 0 ≤ z i ∧ z i ≤ 255) (o at' : Nat) (ho : o < 4096) (h4 : o % 4 = 0) (ha : at' < 4096) (h8 : at' % 8 = 0) (N : Int) (hn : 0 ≤ N) (hn2 : N ≤ 200000) (K : Nat) (hK : pgs o N = K) (hK30 : K ≤ 30) (b B : Nat) (pa : Option Addr) (pc : Nat) (W : World) (hM : MemAt W b B 81920 (fun _ => 0) []) (hu : UAt W pa K (ph z)) (hpc : K ≤ pc) (hpc2 : pc ≤ 9223372036854775807) :
    Calls Try.prog 10 #[.pointer (some ⟨b, 0, none⟩), .slice (some ⟨W.heap.size, 0, none⟩) 2 2, .slice pa K pc, .int .i64 o, .int .i64 N] (W.alloc (.cells #[.int .u64 (69632 + (at' : Int)), .int .u64 73728] 31)) (HoldsPost b B K (ph z) o N W) := by
  by_cases h0 : N = 0
  · subst h0
    have hK0 : K = 0 := by
      unfold pgs at hK
      rw [if_pos (.inl (by omega))] at hK
      omega
    subst hK0
    obtain ⟨Wa, hWa⟩ : ∃ z, z = W.alloc (.cells #[.int .u64 (69632 + (at' : Int)), .int .u64 73728] 31) := ⟨_, rfl⟩
    have u2 : UAt Wa (some ⟨W.heap.size, 0, none⟩) 2 (ls2 (69632 + at') 73728) := by
      rw [hWa]
      refine uAt_fresh W _ 2 _ _ (fun i hi => by
        match i, hi with
        | 0, _ => simp [ls2]
        | 1, _ => rfl)
    have ba : Below W.heap.size W Wa := by rw [hWa]; exact (Below.refl _ _).alloc (Nat.le_refl _) _
    rw [← hWa]
    refine (bld_0 _ pa 2 0 2 pc (ls2 (69632 + at') 73728) (ph z) o 0 b B 81920 _ [] Wa (hM.below ba) (by omega) u2 (hu.below ba) (fun i hi => by unfold ls2; split <;> omega) (fun i hi => by omega) (by omega) (by omega) (by omega) (by omega) (by omega) (by omega) ⟨by omega, by omega, by omega, by omega, by omega, hK.symm, fun i hi => by omega, fun i hi => ?_⟩ rfl).mono ?_
    · unfold ls2
      split
      · exact ⟨by omega, .inl ‹_›⟩
      · exact ⟨by omega, .inr (by omega)⟩
    · rintro e w' ⟨rfl, hb⟩
      exact ⟨0, 0, _, _, rfl, Keeps.of_below (ba.trans (hb.mono ba.size)), hM.below (ba.trans (hb.mono ba.size)), fun w2 h2 => spans_zero 0 0 0 b B 81920 _ _ w2 h2 (by omega) rfl⟩
  · have hbt := bt_holds z hz o at' ho h4 ha h8 N (by omega) hn2 K hK
    have h := built_any hbt b B _ bytes0 [] (by simp) pa pc W hM hu hpc hpc2
    simp only [Int.natCast_add, Int.cast_ofNat_Int] at h
    refine h.mono ?_
    rintro e w' ⟨second, F, L, rfl, hk, hm, hF, h1, h2, h3, hsp⟩
    have := hz 0
    refine ⟨_, second, F, L, rfl, hk, hm, fun w2 hw => ?_⟩
    rw [← hsp]
    exact spans_all _ _ N b B 81920 F L w2 hw (by omega) (by unfold ph; omega) (by unfold ph; omega) h1 h2 hF
theorem holds_facts (z : Nat → Int) (hz : ∀ i, 0 ≤ z i ∧ z i ≤ 255) (o : Nat) (ho : o < 4096) (h4 : o % 4 = 0) (N : Int) (hn : 0 ≤ N) (hn2 : N ≤ 200000) (K : Nat) (hK : pgs o N = K) :
    (∀ i, i < K → 0 ≤ adP (ph z) o i ∧ 1 ≤ lenP o N i ∧ lenP o N i ≤ 4096 ∧ adP (ph z) o i + lenP o N i ≤ 81920 ∧ adP (ph z) o i / 4096 = (adP (ph z) o i + lenP o N i - 1) / 4096) ∧ sumP o N K = N := by
  by_cases h0 : N = 0
  · subst h0
    have hK0 : K = 0 := by
      unfold pgs at hK
      rw [if_pos (.inl (by omega))] at hK
      omega
    subst hK0
    exact ⟨fun i hi => by omega, rfl⟩
  · have hbt := bt_holds z hz o 0 ho h4 (by omega) rfl N (by omega) hn2 K hK
    exact ⟨fun i hi => bt_span hbt i hi, bt_sum hbt⟩
theorem sumP_bd {o N : Int} {K : Nat} (h : ∀ i, i < K → 1 ≤ lenP o N i ∧ lenP o N i ≤ 4096) : ∀ k, k ≤ K → 0 ≤ sumP o N k ∧ sumP o N k ≤ 4096 * k
  | 0, _ => ⟨Int.le_refl _, by show (0 : Int) ≤ _; omega⟩
  | k + 1, hk => by
    have h1 := h k (by omega)
    have h2 := sumP_bd h k (by omega)
    show 0 ≤ sumP o N k + lenP o N k ∧ sumP o N k + lenP o N k ≤ _
    omega
section
variable (ao : Option Addr) (n c : Nat) (z : Nat → Int) (ofs st N : Int) (w : World) (hB : BAt w ao n z) (hz : ∀ i, 0 ≤ z i ∧ z i ≤ 255) (hn : n ≤ 9223372036854775807) (h0 : 0 ≤ ofs ∧ ofs ≤ 65535) (h1 : 0 ≤ st ∧ st ≤ 65535)
include hB hz hn h0 h1
omit hB hz in
set_option maxRecDepth 100000 in
set_option maxHeartbeats 8000000 in
theorem holds_not (hg : 30 < n ∨ N < 0 ∨ 200000 < N ∨ (n : Int) ≠ pgs (ofs % 1024 * 4) N) : Calls Try.prog 5 #[.slice ao n c, .int .u16 ofs, .int .u16 st, .int .i64 N] w fun e w' => e = .returned (.bool true) ∧ Below w.heap.size w w' := by
  obtain ⟨g0, g1⟩ := h0
  obtain ⟨g2, g3⟩ := h1
  obtain ⟨P, hP⟩ : ∃ z, z = pgs (ofs % 1024 * 4) N := ⟨_, rfl⟩
  rw [← hP] at hg
  have HP := Lib.hid hP.symm
  clear hP
  by_cases q1 : 30 < n
  · have d1 : decide ((30 : Int) < (n : Int)) = true := decide_eq_true (by omega)
    clear hg
    go_enter Try.func5, Try.ntmps5
    go_wp2_with (first
      | (go_at_call 15; refine (new20 _).mono ?_; rintro e W1 ⟨b, B, rfl, hb1, hB1, hbl1, -⟩; have B1 := Lib.hid hbl1; clear hbl1 hb1 hB1)
      | (go_at_call 9; refine (works_ok _).mono ?_; rintro e w5 ⟨rfl, hb5⟩; have B5 := Lib.hid (B1.out.trans (hb5.mono B1.out.size)); clear hb5))
    go_ret
    exact ⟨rfl, B5.out⟩
  · have d1 : decide ((30 : Int) < (n : Int)) = false := decide_eq_false (by omega)
    by_cases q2 : N < 0
    · have d2 : decide (N < 0) = true := decide_eq_true q2
      clear hg
      go_enter Try.func5, Try.ntmps5
      go_wp2_with (first
        | (go_at_call 15; refine (new20 _).mono ?_; rintro e W1 ⟨b, B, rfl, hb1, hB1, hbl1, -⟩; have B1 := Lib.hid hbl1; clear hbl1 hb1 hB1)
        | (go_at_call 9; refine (works_ok _).mono ?_; rintro e w5 ⟨rfl, hb5⟩; have B5 := Lib.hid (B1.out.trans (hb5.mono B1.out.size)); clear hb5))
      go_ret
      exact ⟨rfl, B5.out⟩
    · have d2 : decide (N < 0) = false := decide_eq_false q2
      by_cases q3 : 200000 < N
      · have d3 : decide (200000 < N) = true := decide_eq_true q3
        clear hg
        go_enter Try.func5, Try.ntmps5
        go_wp2_with (first
          | (go_at_call 15; refine (new20 _).mono ?_; rintro e W1 ⟨b, B, rfl, hb1, hB1, hbl1, -⟩; have B1 := Lib.hid hbl1; clear hbl1 hb1 hB1)
          | (go_at_call 9; refine (works_ok _).mono ?_; rintro e w5 ⟨rfl, hb5⟩; have B5 := Lib.hid (B1.out.trans (hb5.mono B1.out.size)); clear hb5))
        go_ret
        exact ⟨rfl, B5.out⟩
      · have d3 : decide (200000 < N) = false := decide_eq_false q3
        have d4 : ((n : Int) != P) = true := by
          rw [bne_iff_ne]
          rcases hg with h | h | h | h
          · omega
          · omega
          · omega
          · exact h
        clear hg
        go_enter Try.func5, Try.ntmps5
        go_wp2_with (first
          | (go_at_call 15; refine (new20 _).mono ?_; rintro e W1 ⟨b, B, rfl, hb1, hB1, hbl1, -⟩; have B1 := Lib.hid hbl1; clear hbl1 hb1 hB1)
          | (go_at_call 17; refine (count_any (ofs % 1024 * 4) N P _ (by omega) (by omega) HP.out).mono ?_; rintro e w' ⟨rfl, rfl⟩)
          | (go_at_call 9; refine (works_ok _).mono ?_; rintro e w5 ⟨rfl, hb5⟩; have B5 := Lib.hid (B1.out.trans (hb5.mono B1.out.size)); clear hb5))
        go_ret
        exact ⟨rfl, B5.out⟩
set_option maxRecDepth 100000 in
set_option maxHeartbeats 8000000 in
theorem holds_in (hn30 : n ≤ 30) (hN0 : 0 ≤ N) (hN1 : N ≤ 200000) (hK : pgs (ofs % 1024 * 4) N = n) : Calls Try.prog 5 #[.slice ao n c, .int .u16 ofs, .int .u16 st, .int .i64 N] w fun e w' => e = .returned (.bool true) ∧ Below w.heap.size w w' := by
  obtain ⟨o, ho⟩ : ∃ z : Nat, (z : Int) = ofs % 1024 * 4 := ⟨(ofs % 1024 * 4).toNat, by omega⟩
  obtain ⟨at', hat⟩ : ∃ z : Nat, (z : Int) = st % 512 * 8 := ⟨(st % 512 * 8).toNat, by omega⟩
  rw [← ho] at hK
  have HHA := Lib.hid fun b B pa pc W => holds_any z hz o at' (by omega) (by omega) (by omega) (by omega) N hN0 hN1 n hK hn30 b B pa pc W
  obtain ⟨hf1, hf2⟩ := holds_facts z hz o (by omega) (by omega) N hN0 hN1 n hK
  have HSB := Lib.hid (sumP_bd (fun i hi => ⟨(hf1 i hi).2.1, (hf1 i hi).2.2.1⟩))
  have HF1 := Lib.hid hf1
  have HF2 := Lib.hid hf2
  have HKK := Lib.hid hK
  have ho4 : o < 4096 := by omega
  have ha4 : at' < 4096 := by omega
  have HO := Lib.hid ho
  have HA := Lib.hid hat
  have HBA := Lib.hid hB
  have HZ := Lib.hid hz
  obtain ⟨g0, g1⟩ := h0
  obtain ⟨g2, g3⟩ := h1
  have d1 : decide ((30 : Int) < (n : Int)) = false := decide_eq_false (by omega)
  have d2 : decide (N < 0) = false := decide_eq_false (by omega)
  have d3 : decide (200000 < N) = false := decide_eq_false (by omega)
  have d4 : ((n : Int) != (n : Int)) = false := by simp
  clear ho hat hK hf1 hf2 hB hz
  go_enter Try.func5, Try.ntmps5
  go_upto_region 3 with (go_at_call 15; refine (new20 _).mono ?_; rintro e W1 ⟨b, B, rfl, hb1, hB1, hbl1, hM1⟩; have B1 := Lib.hid hbl1; have M1 := Lib.hid hM1; clear hbl1 hM1)
  rw [← HO.out, ← HA.out]
  go_upto_region 7 with (go_at_call 17; refine (count_any o N n _ (by omega) (by omega) HKK.out).mono ?_; rintro e w' ⟨rfl, rfl⟩)
  obtain ⟨bs, hbs⟩ : ∃ z, z = W1.heap.size := ⟨_, rfl⟩
  have hbb : b < bs := by rw [hbs]; exact M1.out.lt
  have hBB : B < bs := by rw [hbs]; exact M1.out.lt'
  have hbw : w.heap.size ≤ bs := by rw [hbs]; exact B1.out.size
  have HBS := Lib.hid hbs
  clear hbs
  go_loopw [13, 14] (fun v13 v14 wr => ∃ k : Nat, k ≤ n ∧ v14 = .int .i64 (k : Nat) ∧ wr.ownsRow bs 31 1 v13 k (pgL (ph z) k) ∧ Keeps (fun j => bs ≤ j) W1 wr) (fun _ v14 _ => n - (intOf v14).toNat)
  case atStart => exact ⟨0, by omega, rfl, World.ownsRow_nil _ _ _ _, Keeps.refl _ _⟩
  case round =>
    obtain ⟨k, hk, rfl, hown, hkp⟩ := hrel
    have HOW := Lib.hid hown
    have HKP := Lib.hid hkp
    have hwr : bs ≤ wr.heap.size := by rw [HBS.out]; exact hkp.size
    have Br := Lib.hid (B1.out.trans (hkp.below (B := w.heap.size) B1.out.size (fun j hj e => by have e : bs ≤ j := e; omega)))
    clear hown hkp
    by_cases hkK : k < n
    · have q1 : decide ((k : Int) < (n : Int)) = true := decide_eq_true (by omega)
      obtain ⟨i0, hi0, hz0, hz1, hz2⟩ := info_parts infoU64
      obtain ⟨ag, oa, rfl, hcz⟩ := HBA.out k hkK
      have c0 := (Br.out.cell (p := ⟨ag, oa + k, none⟩) (World.block_lt_of_cell? _ _ hcz)).trans hcz
      obtain ⟨b0, b1⟩ := HZ.out k
      have HS := Lib.hid (show pgL (ph z) k ++ [.int .u64 (z k % 16 * 4096)] = pgL (ph z) (k + 1) from pgL_succ (ph z) k)
      obtain ⟨v, hv⟩ : ∃ u, u = z k := ⟨_, rfl⟩
      rw [← hv] at HS c0 b0 b1
      clear hv hcz
      go_wp2_with (at_builtin; refine wpList_append_lies _ rfl _ _ 22 rfl bs 31 i0 _ 1 8 Try.underlying22 hi0 hz0 hz1 hz2 rfl (by decide) u13 k (pgL (ph z) k) rfl (HOW.out.alloc _) ⟨wr.heap.size, 0, none⟩ 1 1 [.int .u64 (v % 16 * 4096)] rfl rfl (World.news_of_block (cs := #[.int .u64 (v % 16 * 4096)]) (t := 31) (fr := (0, 0)) (heap_alloc_new wr _)) (by simp [Value.oneCell']) (by decide) (by unfold maxLen; omega) (by omega) (by simp; omega) (wr.heap.size + 1) (by simp) ?_; intro gg cap w6 hown6 hgr6 hat6 hlt6; rw [HS.out] at hown6; have O6 := Lib.hid hown6; have K6 := Lib.hid (grown_keeps ((Below.refl _ wr).alloc (Nat.le_refl _) _) HOW.out hwr hgr6); clear hown6 hgr6 hat6)
      exact ⟨⟨k + 1, by omega, by go_num, O6.out, HKP.out.trans K6.out⟩, by simp [intOf]; omega⟩
    · obtain rfl : k = n := by omega
      have q1 : decide ((k : Int) < (k : Int)) = false := decide_eq_false (by omega)
      obtain ⟨pa, pc, rfl, hc1, hc2, hua, hag⟩ := uAt_pgL HOW.out
      have M2 := Lib.hid (M1.out.kept HKP.out (fun e => by have e : bs ≤ b := e; omega) (fun e => by have e : bs ≤ B := e; omega))
      have HBU := Lib.hid (HHA.out b B pa pc wr M2.out hua hc1 hc2)
      have HUA := Lib.hid hua
      have HAG := Lib.hid hag
      clear hua hag
      go_upto_region 11 with (go_at_call 10; refine HBU.out.mono ?_; rintro e w2 ⟨first, second, F, L, rfl, hk2, hm2, hsp2⟩; have K2 := Lib.hid hk2; have M3 := Lib.hid hm2; have HSS := Lib.hid (hsp2 w2 hm2); clear hk2 hm2 hsp2)
      go_upto_region 12 with (go_at_call 16; refine HSS.out.mono ?_; rintro e w3 ⟨hb3, v3, rfl, hown3⟩; have B3 := Lib.hid hb3; have O3 := Lib.hid hown3; clear hb3 hown3)
      have hsa := O3.out
      rw [outP_length] at hsa
      obtain ⟨sa, cs, rfl, hl1, hl2⟩ := ownsRow_shape hsa
      have HSA := Lib.hid (spAt_owns (show w3.ownsRow w2.heap.size 49 3 (.slice sa (outP (ph z) o N k).length cs) (outP (ph z) o N k).length (spC (outP (ph z) o N k)) by rw [outP_length]; exact hsa))
      clear hsa hl1 hl2
      have B2 := Lib.hid (Br.out.trans (K2.out.below (B := w.heap.size) Br.out.size (fun j hj e => by rcases e with e | e <;> omega)))
      have M4 := Lib.hid (M3.out.below B3.out)
      have B4 := Lib.hid (B2.out.trans (B3.out.mono B2.out.size))
      go_upto_region 16 with (go_at_call 14; refine (num_any _ _).mono ?_; rintro e w' ⟨rfl, rfl⟩)
      have HUA3 := Lib.hid (show ∀ i, i < k → ∃ g o, pa = some ⟨g, o, none⟩ ∧ w3.cell? ⟨g, o + i, none⟩ = some (.int .u64 (ph z i)) from fun i hi => by
        obtain ⟨gd, od, e, hc⟩ := HUA.out (by omega)
        have hg := HAG.out gd od e
        have x2 := K2.out.cell (hc i hi) (fun e => by rcases e with e | e <;> (have e : gd = _ := e; omega))
        exact ⟨gd, od, e, (B3.out.cell (p := ⟨gd, od + i, none⟩) (World.block_lt_of_cell? _ _ x2)).trans x2⟩)
      have HSA3 := Lib.hid (show ∀ i, i < k → ∃ g q, sa = some ⟨g, q, none⟩ ∧ w3.rangeAt g (q + i * 3) (⟨adP (ph z) o i, lenP o N i, false⟩ : Spn).l from fun i hi => by
        obtain ⟨gs, os, e, hr⟩ := HSA.out i (by rw [outP_length]; exact hi)
        refine ⟨gs, os, e, ?_⟩
        have e : (outP (ph z) (o : Int) N k)[i]'(by rw [outP_length]; omega) = ⟨adP (ph z) o i, lenP o N i, false⟩ := by simp [outP]
        rw [e] at hr
        exact hr)
      obtain ⟨n, hnn⟩ : ∃ n, n = k := ⟨_, rfl⟩
      subst hnn
      clear HUA HAG HSA HSS HBU HHA HKK K2 M3 B3 O3 M2 HOW HKP
      go_loopw [20, 21, 22, 23] (fun v20 v21 _ _ wr => ∃ j : Nat, j ≤ n ∧ v21 = .int .i64 (j : Nat) ∧ v20 = .int .i64 (sumP o N j) ∧ Below w3.heap.size w3 wr) (fun _ v21 _ _ _ => n - (intOf v21).toNat)
      case atStart => exact ⟨0, by omega, rfl, rfl, Below.refl _ _⟩
      case round =>
        obtain ⟨j, hj, rfl, rfl, hbr⟩ := hrel
        have Br2 := Lib.hid hbr
        clear hbr
        by_cases hjn : j < n
        · have q2 : decide ((j : Int) < (n : Int)) = true := decide_eq_true (by omega)
          obtain ⟨gs, os, rfl, hr⟩ := HSA3.out j hjn
          obtain ⟨gd, od, rfl, hd⟩ := HUA3.out j hjn
          have hd2 := (Br2.out.cell (p := ⟨gd, od + j, none⟩) (World.block_lt_of_cell? _ _ hd)).trans hd
          have r0 : w3.cell? ⟨gs, os + j * 3, none⟩ = some (.int .u64 (adP (ph z) o j)) := hr 0 _ rfl
          have hr2 := rangeAt_below hr Br2.out (World.block_lt_of_cell? _ _ r0)
          have c0 : wr.cell? ⟨gs, os + j * 3, none⟩ = some (.int .u64 (adP (ph z) o j)) := hr2 0 _ rfl
          have c1 : wr.cell? ⟨gs, os + j * 3 + 1, none⟩ = some (.int .i64 (lenP o N j)) := hr2 1 _ rfl
          have c2 : wr.cell? ⟨gs, os + j * 3 + 2, none⟩ = some (.bool false) := hr2 2 _ rfl
          obtain ⟨f1, f2, f3, f4, f5⟩ := HF1.out j hjn
          obtain ⟨s0, s1⟩ := HSB.out j (by omega)
          have HSS2 := Lib.hid (show sumP o N (j + 1) = sumP o N j + lenP o N j from rfl)
          obtain ⟨sm, hsm⟩ : ∃ u, u = sumP o N j := ⟨_, rfl⟩
          obtain ⟨m, hm⟩ : ∃ u, u = lenP o N j := ⟨_, rfl⟩
          obtain ⟨p0, hp0⟩ : ∃ u, u = ph z j := ⟨_, rfl⟩
          have hpb : 0 ≤ p0 ∧ p0 ≤ 61440 := by rw [hp0]; have := HZ.out j; unfold ph; omega
          have HAD := Lib.hid (show adP (ph z) o j = if j = 0 then p0 + o else p0 by rw [hp0]; unfold adP; split; (subst j; rfl); rfl)
          have HM4 := Lib.hid (M4.out.below Br2.out)
          have hgs : gs < wr.heap.size := World.block_lt_of_cell? _ _ c0
          have hgd : gd < wr.heap.size := World.block_lt_of_cell? _ _ hd2
          rw [← hsm] at HSS2 s0 s1 ⊢
          rw [← hm] at HSS2 f2 f3 f4 f5 c1
          rw [← hp0] at hd2
          obtain ⟨p1, p2⟩ := hpb
          clear hr hd r0 hr2 hsm hm hp0
          have l1 : decide (m < 1) = false := decide_eq_false (by omega)
          by_cases hj0 : j = 0
          · rw [show adP (ph z) o j = p0 + o by rw [HAD.out, if_pos hj0]] at c0 f1 f4 f5
            have l2 : ((p0 + (o : Int)) != (p0 + (o : Int))) = false := by simp
            have l3 : (((p0 + (o : Int)) / 4096) != ((p0 + (o : Int) + m - 1) / 4096)) = false := by rw [← f5]; simp
            have l4 : ((j : Int) == 0) = true := beq_iff_eq.2 (by omega)
            have HCK := Lib.hid (fun W (hM : MemAt W b B 81920 F L) => check_is b B 81920 F L (p0 + o) m 0 W hM (by omega) (by omega) (by omega) (by omega) (by unfold chk; rw [if_neg (by omega), if_pos (by omega)]))
            clear f5 HAD hj0
            go_wp2_with (first
              | (go_at_call 18; refine (HCK.out _ (HM4.out.below ((Below.refl _ _).alloc (Nat.le_refl _) (.cells #[.int .u64 (p0 + (o : Int)), .int .i64 m, .bool false] 49)))).mono ?_; rintro e w7 ⟨rfl, hb7⟩; have B7 := Lib.hid (((Below.refl _ wr).alloc (Nat.le_refl _) (.cells #[.int .u64 (p0 + (o : Int)), .int .i64 m, .bool false] 49)).trans (hb7.mono (by simp))); obtain ⟨y1, -⟩ := bcell hb7; have y2 := y1 wr.heap.size 1 (by simp); clear hb7 y1)
              | (go_at_call 14; refine (num_any _ _).mono ?_; rintro e w' ⟨rfl, rfl⟩))
            exact ⟨⟨j + 1, by omega, by go_num, by rw [HSS2.out], Br2.out.trans (B7.out.mono Br2.out.size)⟩, by simp [intOf]; omega⟩
          · rw [show adP (ph z) o j = p0 by rw [HAD.out, if_neg hj0]] at c0 f1 f4 f5
            have l2 : (p0 != p0) = false := by simp
            have l3 : ((p0 / 4096) != ((p0 + m - 1) / 4096)) = false := by rw [← f5]; simp
            have l4 : ((j : Int) == 0) = false := beq_eq_false_iff_ne.2 (by omega)
            have HCK := Lib.hid (fun W (hM : MemAt W b B 81920 F L) => check_is b B 81920 F L p0 m 0 W hM (by omega) (by omega) (by omega) (by omega) (by unfold chk; rw [if_neg (by omega), if_pos (by omega)]))
            clear f5 HAD
            go_wp2_with (first
              | (go_at_call 18; refine (HCK.out _ (HM4.out.below ((Below.refl _ _).alloc (Nat.le_refl _) (.cells #[.int .u64 p0, .int .i64 m, .bool false] 49)))).mono ?_; rintro e w7 ⟨rfl, hb7⟩; have B7 := Lib.hid (((Below.refl _ wr).alloc (Nat.le_refl _) (.cells #[.int .u64 p0, .int .i64 m, .bool false] 49)).trans (hb7.mono (by simp))); obtain ⟨y1, -⟩ := bcell hb7; have y2 := y1 wr.heap.size 1 (by simp); clear hb7 y1)
              | (go_at_call 14; refine (num_any _ _).mono ?_; rintro e w' ⟨rfl, rfl⟩))
            exact ⟨⟨j + 1, by omega, by go_num, by rw [HSS2.out], Br2.out.trans (B7.out.mono Br2.out.size)⟩, by simp [intOf]; omega⟩
        · obtain rfl : j = n := by omega
          have q2 : decide ((j : Int) < (j : Int)) = false := decide_eq_false (by omega)
          rw [HF2.out]
          go_wp2_with (go_at_call 9; refine (works_ok _).mono ?_; rintro e w9 ⟨rfl, hb9⟩; have B9 := Lib.hid ((B4.out.trans (Br2.out.mono B4.out.size)).trans (hb9.mono (by have := B4.out.size; have := Br2.out.size; omega))); clear hb9)
          go_ret
          exact ⟨by simp, B9.out⟩
end
theorem holdsLaw (ao : Option Addr) (len cap : Nat) (zs : List Int) (ofs st N : Int) (w : World) (hr : IsRow .u8 w ao len cap zs) (h0 : (Lit.int .u16 ofs).wf = true) (h1 : (Lit.int .u16 st).wf = true) (_ : (Lit.int .i64 N).wf = true) :
    Calls Try.prog 5 #[.slice ao len cap, .int .u16 ofs, .int .u16 st, .int .i64 N] w fun e w' => e = .returned (.bool true) ∧ Below w.heap.size w w' := by
  obtain ⟨hB, hz, hn⟩ := bAt_of hr
  by_cases hg : 30 < len ∨ N < 0 ∨ 200000 < N ∨ (len : Int) ≠ pgs (ofs % 1024 * 4) N
  · exact holds_not ao len cap ofs st N w hn (wf_u16 h0) (wf_u16 h1) hg
  · have hg2 : (len : Int) = pgs (ofs % 1024 * 4) N := Classical.byContradiction fun h => hg (.inr (.inr (.inr h)))
    exact holds_in ao len cap _ ofs st N w hB hz hn (wf_u16 h0) (wf_u16 h1) (by omega) (by omega) (by omega) hg2.symm
end Go.Proofs.Ytfploifafpifnaa
