/- prp: made: a memory with some words, and its specification; the cells that came in. -/
import Derived.Test.YtfploifafpifnaaWK
import Derived.Test.YtfploifafpifnaaFlat
import Derived.Laws.CopyOwn
namespace Go.Proofs.Ytfploifafpifnaa
set_option linter.unusedVariables false
set_option linter.unusedSimpArgs false
open Go.ChangeShapes Go.WideShapes Go.ChangeAt Go.RowKit Go.Deep

def lU64 : Leaf := some (some .u64)
theorem flU64 : FlatT Try.prog 31 [lU64] := FlatT.int Try.underlying31 (by kernel_rfl)
def lsCel : List Leaf := [lU64, lU64]
theorem flCel : FlatT Try.prog 69 lsCel :=
  FlatT.struct [(0, [lU64]), (1, [lU64])] Try.underlying69 (by kernel_rfl)
    (fun i s hs => by
      match i, hs with
      | 0, hs => cases hs; exact ⟨_, rfl, rfl, flU64⟩
      | 1, hs => cases hs; exact ⟨_, rfl, rfl, flU64⟩
      | n + 2, hs => simp at hs) (by decide)
def vN (v : Value) : Int := match v with | .int _ n => n | _ => 0
theorem leaf_int {k : IntKind} {v : Value} (h : leafOk (some (some k)) v) : v = .int k (vN v) ∧ (Lit.int k (vN v)).wf = true := by
  obtain ⟨n, rfl, hw⟩ := h
  exact ⟨rfl, hw⟩
/-- A list of cells lies at ao: their addresses, their values. -/
def CAt (w : World) (ao : Option Addr) (n : Nat) (a v : Nat → Int) : Prop := ∀ i, i < n → ∃ g o, ao = some ⟨g, o, none⟩ ∧ w.cell? ⟨g, o + i * 2, none⟩ = some (.int .u64 (a i)) ∧ w.cell? ⟨g, o + i * 2 + 1, none⟩ = some (.int .u64 (v i))
theorem CAt.below {w w' : World} {ao : Option Addr} {n : Nat} {a v : Nat → Int} (h : CAt w ao n a v) (hb : Below w.heap.size w w') : CAt w' ao n a v := fun i hi => by
  obtain ⟨g, o, e, h1, h2⟩ := h i hi
  exact ⟨g, o, e, (hb.cell (p := ⟨g, o + i * 2, none⟩) (World.block_lt_of_cell? _ _ h1)).trans h1, (hb.cell (p := ⟨g, o + i * 2 + 1, none⟩) (World.block_lt_of_cell? _ _ h2)).trans h2⟩
set_option maxRecDepth 100000 in
theorem cels_view {H : Type} {enc : TypeId × Value → H} {base : Nat} (W : World) (u : Value) (d : DataW H) (p : List MemPlace) (hok : Value.okWide Try.prog W .any base 63 u)
    (h : DataW.Trod enc Try.prog W 0 (fun _ => true) true 63 u d p) : ∃ ao n c x v, u = .slice ao n c ∧ (CAt W ao n x v ∧ U64 n x ∧ U64 n v ∧ n ≤ maxLen) := by
  obtain ⟨ao, n, c, X, rfl, hX, hn⟩ := flCel.slice (by decide) Try.underlying63 W u d p hok h
  refine ⟨ao, n, c, fun i => vN (X i 0), fun i => vN (X i 1), rfl, fun i hi => ?_, fun i hi => ?_, fun i hi => ?_, hn⟩
  · obtain ⟨g, o, e, hc, hki⟩ := hX i hi
    have h4 := leaf_int (hki 0 lU64 rfl)
    have h5 := leaf_int (hki 1 lU64 rfl)
    exact ⟨g, o, e, by rw [← h4.1]; exact hc 0 (by decide), by rw [← h5.1]; exact hc 1 (by decide)⟩
  · obtain ⟨g, o, e, hc, hki⟩ := hX i hi
    exact wf_u64 (leaf_int (hki 0 lU64 rfl)).2
  · obtain ⟨g, o, e, hc, hki⟩ := hX i hi
    exact wf_u64 (leaf_int (hki 1 lU64 rfl)).2
theorem byteOf_bd8 (v : Int) (j : Nat) : 0 ≤ byteOf v j ∧ byteOf v j ≤ 255 := by unfold byteOf; omega
/-- The bytes of a block. -/
def RowB (W : World) (g n : Nat) (F : Nat → Int) : Prop := W.rowIs g 5 n (fun j => .int .u8 (F j)) ∧ Bytes F
theorem rowB_set {W : World} {g n : Nat} {F : Nat → Int} (h : RowB W g n F) (i : Nat) (v : Int) (hv : 0 ≤ v ∧ v ≤ 255) : RowB (W.setCell ⟨g, i, none⟩ (.int .u8 v)) g n (fun j => if j = i then v else F j) := by
  refine ⟨?_, fun j => ?_⟩
  · have := h.1.set i (.int .u8 v)
    refine this.congr fun j hj => ?_
    by_cases e : j = i
    · simp [e]
    · simp [e]
  · show 0 ≤ (if j = i then v else F j) ∧ (if j = i then v else F j) ≤ 255
    split
    · exact hv
    · exact h.2 j

/-- What made leaves. -/
def MadePost (w : World) (n size : Nat) (e : Ending) (w' : World) : Prop := ∃ b B g f,
  e = .returned (.tuple #[.pointer (some ⟨b, 0, none⟩), .agg #[.slice (some ⟨g, 0, none⟩) size size, .slice none 0 0], .bool (decide (n ≤ 300))]) ∧
  w.heap.size ≤ b ∧ w.heap.size ≤ B ∧ w.heap.size ≤ g ∧ g ≠ b ∧ g ≠ B ∧ Below w.heap.size w w' ∧ MemAt w' b B size f [(0, size)] ∧ RefAt (fun j => j ≠ g) w' (.agg #[.slice (some ⟨g, 0, none⟩) size size, .slice none 0 0]) size f [] ∧ Bytes f

section
variable (pg : Int) (ao : Option Addr) (n c : Nat) (ca cv : Nat → Int) (w : World) (hp0 : 0 ≤ pg) (hp1 : pg ≤ 255) (hC : CAt w ao n ca cv) (hok : U64 n ca) (hov : U64 n cv) (hn : n ≤ maxLen)
include hp0 hp1 hC hok hov hn
set_option maxRecDepth 100000 in
set_option maxHeartbeats 8000000 in
theorem made_any (N : Nat) (hN : N = 1 + pg.toNat % 8) : Calls Try.prog 8 #[.int .u8 pg, .slice ao n c] w (MadePost w n (N * 4096)) := by
  have hl : ∀ g o, ao = some ⟨g, o, none⟩ → 0 < n → g < w.heap.size := fun g o e h => by
    obtain ⟨g', o', e', hi⟩ := hC 0 h
    rw [e] at e'
    cases e'
    exact World.block_lt_of_cell? _ _ hi.1
  have HCC := Lib.hid hC
  have HOK := Lib.hid hok
  have HOV := Lib.hid hov
  have HLT := Lib.hid hl
  have hnm : n ≤ 9223372036854775807 := by unfold maxLen at hn; omega
  obtain ⟨q, hq⟩ : ∃ q : Nat, q = pg.toNat % 8 := ⟨_, rfl⟩
  have htm : pg.tmod 8 = (q : Int) := by rw [Int.tmod_eq_emod_of_nonneg hp0]; omega
  have hq3 : q ≤ 7 := by omega
  have hN1 : 1 ≤ N := by omega
  have hN4 : N ≤ 8 := by omega
  have hNI : (1 : Int) + (q : Int) = (N : Int) := by omega
  have HNI := Lib.hid hNI
  obtain ⟨sz, hsz⟩ : ∃ z : Nat, z = N * 4096 := ⟨_, rfl⟩
  have hmk : ∀ w, (Instr.makeSlice 24 (.int .i64 (4096 * (N : Int))) (.int .i64 (4096 * (N : Int)))).run Try.prog w = .ok (.slice (some ⟨w.heap.size, 0, none⟩) sz sz) (w.alloc (.cells (madeCells #[.int .u8 0] sz) 5)) := fun w => by
    have h := run_make_row' (P := Try.prog) 24 5 (.int .u8 0) 1 Try.underlying24 infoU8 rfl .i64 .i64 sz (by omega) (by omega) w
    rw [show ((sz : Nat) : Int) = 4096 * (N : Int) by omega] at h
    exact h
  rw [← hsz]
  have HSZ := Lib.hid hsz
  have HNN := Lib.hid hN
  clear hC hok hov hl hn hq hNI hsz hN
  go_enter Try.func8, Try.ntmps8
  go_upto_region 2 with ((with_reducible show wpList _ _ _ (⟨some 5, _, _, _, _, _⟩ :: _) _ _); refine wpList_alloc rfl 27 rfl zeroRM ?_; rw [show (Value.agg zRM).cells = zRM from rfl])
  rw [HNI.out]
  obtain ⟨W0, hW⟩ : ∃ z, z = w.alloc (.cells zRM 27) := ⟨_, rfl⟩
  have B0 := Lib.hid (show Below w.heap.size w W0 by rw [hW]; exact (Below.refl _ _).alloc (Nat.le_refl _) _)
  have A5 := Lib.hid (show ArrAt W0 w.heap.size zRM by rw [hW]; exact ArrAt.fresh w zRM _ (by decide))
  rw [← hW]
  have HNW := Lib.hid (show ∀ W, Calls Try.prog 15 #[.int .i64 (N : Nat)] W fun e w' => ∃ b B, e = .returned (.tuple #[.pointer (some ⟨b, 0, none⟩), .int .i64 0]) ∧ W.heap.size ≤ b ∧ W.heap.size ≤ B ∧ Below W.heap.size W w' ∧ MemAt w' b B sz (fun _ => 0) [] from fun W => by rw [HSZ.out]; exact new_ok N W hN1 (by omega))
  have hw0 : w.heap.size < W0.heap.size := A5.out.lt
  clear hW
  go_upto_region 3 with (go_at_call 15; refine (HNW.out _).mono ?_; rintro e w1 ⟨b, B, rfl, hb, hB, hbl, hm⟩; have B1 := Lib.hid (B0.out.trans (hbl.mono B0.out.size)); have A51 := Lib.hid (A5.out.below hbl); have HM1 := Lib.hid hm; have hbs := hbl.size; clear hbl hm)
  go_upto_region 4 with fail
  obtain ⟨gb, hgb⟩ : ∃ z, z = w1.heap.size := ⟨_, rfl⟩
  obtain ⟨Wa, hW⟩ : ∃ z, z = w1.alloc (.cells (madeCells #[.int .u8 0] sz) 5) := ⟨_, rfl⟩
  have hba : Below gb w1 Wa := by rw [hW, hgb]; exact (Below.refl _ _).alloc (Nat.le_refl _) _
  have ROW0 := Lib.hid (show RowB Wa gb sz (fun _ => 0) from ⟨by rw [hW, hgb]; exact World.rowIs_made w1 (.int .u8 0) sz 5, bytes0⟩)
  have hgw : w.heap.size < gb := by omega
  have hbg : b < gb := by rw [hgb]; exact HM1.out.lt
  have hBg : B < gb := by rw [hgb]; exact HM1.out.lt'
  have hb1 : w.heap.size ≤ b := by omega
  have hB1 : w.heap.size ≤ B := by omega
  rw [hgb] at hba
  have Ba := Lib.hid (B1.out.trans (hba.mono B1.out.size))
  have Ma := Lib.hid (HM1.out.below hba)
  have A5a := Lib.hid (A51.out.below hba)
  rw [← hW, ← hgb]
  clear hW hba hgb B1 HM1 A51 HNW hmk hbs
  go_wp2_with fail
  go_loopw [11, 12, 13] (fun v11 _ _ wr => ∃ (k : Nat) (F : Nat → Int), v11 = .int .i64 (k : Nat) ∧ k ≤ n ∧ k ≤ 300 ∧ RowB wr gb sz F ∧ Below gb Wa wr) (fun v11 _ _ _ => n - (intOf v11).toNat)
  case atStart => exact ⟨0, _, rfl, by omega, by omega, ROW0.out, Below.refl _ _⟩
  case round =>
    obtain ⟨k, F, rfl, hk, hk3, hrow, hbr⟩ := hrel
    have ROW := Lib.hid hrow
    have BR := Lib.hid hbr
    clear hrow hbr
    by_cases hkn : k < n ∧ k < 300
    case pos =>
      obtain ⟨h1, h2⟩ := hkn
      have q1 : decide ((k : Int) < (n : Int)) = true := decide_eq_true (by omega)
      have q2 : decide ((k : Int) < 300) = true := decide_eq_true (by omega)
      obtain ⟨ag, oa, rfl, hci⟩ := HCC.out k h1
      have hag : ag < w.heap.size := HLT.out ag oa rfl (by omega)
      have hagw : ag < gb := by omega
      have hwr : w.heap.size < wr.heap.size := by have := BR.out.size; have := ROW.out.1.lt; omega
      have BW := Lib.hid (show Below w.heap.size w wr from Ba.out.trans (BR.out.mono (by omega)))
      have x4 : wr.cell? ⟨ag, oa + k * 2, none⟩ = some (.int .u64 (ca k)) := (BW.out.cell (p := ⟨ag, oa + k * 2, none⟩) hag).trans hci.1
      have x5 : wr.cell? ⟨ag, oa + k * 2 + 1, none⟩ = some (.int .u64 (cv k)) := (BW.out.cell (p := ⟨ag, oa + k * 2 + 1, none⟩) hag).trans hci.2
      have HK := Lib.hid (HOK.out k h1)
      obtain ⟨At, hAt⟩ : ∃ z, z = ca k := ⟨_, rfl⟩
      obtain ⟨sp, hsp⟩ : ∃ z, z = cv k := ⟨_, rfl⟩
      have hAt0 : 0 ≤ At ∧ At ≤ 18446744073709551615 := by rw [hAt]; exact HK.out
      have hsp0 : 0 ≤ sp ∧ sp ≤ 18446744073709551615 := by rw [hsp]; exact HOV.out k h1
      rw [← hAt] at x4
      rw [← hsp] at x5
      have hszN := HSZ.out
      obtain ⟨r, hr⟩ : ∃ r : Nat, (r : Int) = At % (sz : Int) := ⟨(At % (sz : Int)).toNat, by have := Int.emod_nonneg At (show (sz : Int) ≠ 0 by omega); omega⟩
      have hrs : r < sz := by have := Int.emod_lt_of_pos At (show (0 : Int) < sz by omega); omega
      have t1 : At.tmod (sz : Int) = (r : Int) := by rw [Int.tmod_eq_emod_of_nonneg hAt0.1, hr]
      obtain ⟨a8, ha8⟩ : ∃ z : Nat, z = r / 8 * 8 := ⟨_, rfl⟩
      have t2 : (r : Int) / 8 * 8 = (a8 : Int) := by omega
      have hfit : a8 + 8 ≤ sz := by omega
      have T2 := Lib.hid t2
      have hz0 : ¬ sz = 0 := by omega
      have hz1 : ((sz : Int) == 0) = false := beq_eq_false_iff_ne.2 (by omega)
      have hz2 : sz ≤ 32768 := by omega
      clear hAt hsp hci hszN ha8 hr t2
      go_upto_region 9 with fail
      rw [T2.out]
      have hgr : gb < wr.heap.size := ROW.out.1.lt
      obtain ⟨wo, rfl⟩ : ∃ wo : World, wo = wr := ⟨_, rfl⟩
      clear T2 HK t1 hz0 hz1
      go_loopw [13] (fun v13 w2 => ∃ (j : Nat) (F2 : Nat → Int), v13 = .int .i64 (j : Nat) ∧ j ≤ 8 ∧ RowB w2 gb sz F2 ∧ Below gb wo w2) (fun v13 _ => 8 - (intOf v13).toNat)
      case atStart => exact ⟨0, F, rfl, by omega, ROW.out, Below.refl _ _⟩
      case round =>
        obtain ⟨j, F2, rfl, hj, hrow2, hb2⟩ := hrel
        have ROW2 := Lib.hid hrow2
        have BR2 := Lib.hid hb2
        clear hrow2 hb2
        by_cases hj8 : j < 8
        · have q3 : decide ((j : Int) < 8) = true := decide_eq_true (by omega)
          have y5 : wr.cell? ⟨ag, oa + k * 2 + 1, none⟩ = some (.int .u64 sp) := (BR2.out.cell (p := ⟨ag, oa + k * 2 + 1, none⟩) hagw).trans x5
          have y9 : wr.cell? ⟨gb, a8 + j, none⟩ = some (.int .u8 (F2 (a8 + j))) := ROW2.out.1.cell (by omega)
          have yf : wr.frozen? ⟨gb, a8 + j, none⟩ = false := ROW2.out.1.frozen _
          have e1 : IntKind.i64.wrap (8 * (j : Int)) = 8 * (j : Int) := IntWalk.i64_in _ (by omega)
          obtain ⟨hs0, hs1⟩ := hsp0
          go_wp2_with fail
          go_roundw
          case rel => exact ⟨j + 1, _, by go_num, by omega, rowB_set ROW2.out (a8 + j) (byteOf sp j) (byteOf_bd8 _ _), BR2.out.setCell (p := ⟨gb, a8 + j, none⟩) (Nat.le_refl gb) _⟩
          case measure => simp [intOf]; omega
        · have q3 : decide ((j : Int) < 8) = false := decide_eq_false (by omega)
          go_wp2_with fail
          refine ⟨⟨k + 1, F2, by go_num, by omega, by omega, ROW2.out, BR.out.trans BR2.out⟩, by simp [intOf]; omega⟩
    case neg =>
      have hbs := BR.out.size
      have hgs := ROW.out.1.lt
      have BW := Lib.hid (Ba.out.trans (BR.out.mono (by omega)))
      have A5r := Lib.hid (A5a.out.kept (S := fun j => gb ≤ j) (keeps_from BR.out) (fun e => by have e : gb ≤ w.heap.size := e; omega))
      have Mr := Lib.hid (Ma.out.kept (S := fun j => gb ≤ j) (keeps_from BR.out) (fun e => by have e : gb ≤ b := e; omega) (fun e => by have e : gb ≤ B := e; omega))
      have HF := Lib.hid ROW.out.2
      have hsrc : Src (Two b B) wr (some ⟨gb, 0, none⟩) sz F := ⟨by have := HSZ.out; omega, fun _ => ⟨gb, 0, rfl, fun e => by rcases e with e | e <;> omega, fun i hi => by rw [Nat.zero_add]; exact ROW.out.1.cell hi⟩⟩
      have HWR := Lib.hid (write_ok' b B sz (fun _ => 0) [] 0 sz sz (some ⟨gb, 0, none⟩) F 0 wr Mr.out (by simp) (by omega) hsrc rfl)
      have hb3 : (b : Nat) < wr.heap.size := by omega
      have hz3 : w.heap.size < wr.heap.size := by omega
      clear hsrc
      obtain ⟨c3, hc3, hc4⟩ : ∃ c3 : Bool, decide ((n : Int) ≤ 300) = c3 ∧ decide (n ≤ 300) = c3 := ⟨_, rfl, by rw [decide_eq_decide]; omega⟩
      obtain ⟨MC, hMC⟩ : ∃ A : Array Value, A = #[.slice (some ⟨gb, 0, none⟩) sz sz, .slice none 0 0] := ⟨_, rfl⟩
      have HBLD := Lib.hid (show ∀ w, (Instr.build 27 #[(0, .slice (some ⟨gb, 0, none⟩) sz sz)]).run Try.prog w = .ok (.agg MC) w from fun w => by rw [hMC]; kernel_rfl)
      have SMC := Lib.hid (show MC.size = 2 by rw [hMC]; rfl)
      have OMC := Lib.hid (show MC.all (·.oneCell') = true by rw [hMC]; simp [Value.oneCell'])
      have HMC := Lib.hid hMC
      have HC4 := Lib.hid hc4
      clear hMC hc4
      by_cases h1 : k < n
      · have q1 : decide ((k : Int) < (n : Int)) = true := decide_eq_true (by omega)
        have q2 : decide ((k : Int) < 300) = false := decide_eq_false (by omega)
        go_wp2_with (first
          | (go_at_call 23; refine HWR.out.mono ?_; rintro e w5 ⟨rfl, hk5, hm5⟩; have A55 := Lib.hid (A5r.out.kept hk5 (fun e => by rcases e with e | e <;> omega)); have K5 := Lib.hid hk5; have M5 := Lib.hid hm5; clear hk5 hm5)
          | (go_at_call 14; refine (num_any _ _).mono ?_; rintro e w' ⟨rfl, rfl⟩)
          | ((with_reducible show wpList _ _ _ (⟨some 72, _, _, _, _, _⟩ :: _) _ _); refine wpList_build1 rfl 27 0 (.tmp 71) rfl (.slice (some ⟨gb, 0, none⟩) sz sz) (by first | rfl | simp [Act.eval, Act.put]) (HBLD.out _) ?_)
          | ((with_reducible show wpList _ _ _ (⟨none, .store _ (.tmp 5) _, _, _, _, _⟩ :: _) _ _); refine wpList_storeA rfl (b := w.heap.size) (A := zRM) (A' := MC) A55.out 27 (.tmp 5) (.tmp 72) rfl (by simp [Act.eval, Act.put]) (by simp [Act.eval, Act.put]) sizeRMz (by rw [SMC.out]; rfl) OMC.out ?_))
        have aE := A55.out.store MC (by rw [SMC.out]; rfl)
        have kE : Keeps (One w.heap.size) w5 (w5.setCells w.heap.size 0 MC.toList) := Keeps.store (S := One w.heap.size) (Keeps.refl _ _) (fun _ => rfl) _ _
        have row5 := K5.out.rowIs ROW.out.1 (fun e => by rcases e with e | e <;> omega)
        have rowE := kE.rowIs row5 (fun e => by have e : gb = w.heap.size := e; omega)
        refine bodyPost_ret (results_tct rfl _ _ _ aE rfl Try.underlying27 rfl (by rw [SMC.out]; exact sizeRM)) rfl ?_
        refine ⟨b, B, gb, upd (fun _ => 0) 0 sz F, ?_, by omega, by omega, by omega, by omega, by omega, ?_, ?_, ?_, bytes_upd bytes0 HF.out⟩
        · rw [← HMC.out, HC4.out]; rfl
        · exact bstore (BW.out.trans (K5.out.below (B := w.heap.size) (by omega) (fun j hj e => by rcases e with e | e <;> omega))) _ (Nat.le_refl _) _ _
        · have hlog : logged [] 0 sz = [(0, sz)] := by unfold logged; rw [if_neg (by have := HSZ.out; omega)]; rfl
          rw [← hlog]
          exact M5.out.kept kE (fun e => by have e : b = w.heap.size := e; omega) (fun e => by have e : B = w.heap.size := e; omega)
        · refine ⟨⟨gb, 0, none⟩, sz, none, 0, rfl, Nat.le_refl _, by have := HSZ.out; omega, Nat.le_refl _, by omega, fun _ => ⟨rfl, rfl⟩, ⟨by have := HSZ.out; omega, fun _ => ⟨gb, 0, rfl, fun e => e rfl, fun i hi => ?_⟩⟩, fun h => absurd h (by simp)⟩
          rw [Nat.zero_add, rowE.cell hi]
          unfold upd
          rw [if_pos (by omega)]
          rfl
      · have q1 : decide ((k : Int) < (n : Int)) = false := decide_eq_false (by omega)
        go_wp2_with (first
          | (go_at_call 23; refine HWR.out.mono ?_; rintro e w5 ⟨rfl, hk5, hm5⟩; have A55 := Lib.hid (A5r.out.kept hk5 (fun e => by rcases e with e | e <;> omega)); have K5 := Lib.hid hk5; have M5 := Lib.hid hm5; clear hk5 hm5)
          | (go_at_call 14; refine (num_any _ _).mono ?_; rintro e w' ⟨rfl, rfl⟩)
          | ((with_reducible show wpList _ _ _ (⟨some 72, _, _, _, _, _⟩ :: _) _ _); refine wpList_build1 rfl 27 0 (.tmp 71) rfl (.slice (some ⟨gb, 0, none⟩) sz sz) (by first | rfl | simp [Act.eval, Act.put]) (HBLD.out _) ?_)
          | ((with_reducible show wpList _ _ _ (⟨none, .store _ (.tmp 5) _, _, _, _, _⟩ :: _) _ _); refine wpList_storeA rfl (b := w.heap.size) (A := zRM) (A' := MC) A55.out 27 (.tmp 5) (.tmp 72) rfl (by simp [Act.eval, Act.put]) (by simp [Act.eval, Act.put]) sizeRMz (by rw [SMC.out]; rfl) OMC.out ?_))
        have aE := A55.out.store MC (by rw [SMC.out]; rfl)
        have kE : Keeps (One w.heap.size) w5 (w5.setCells w.heap.size 0 MC.toList) := Keeps.store (S := One w.heap.size) (Keeps.refl _ _) (fun _ => rfl) _ _
        have row5 := K5.out.rowIs ROW.out.1 (fun e => by rcases e with e | e <;> omega)
        have rowE := kE.rowIs row5 (fun e => by have e : gb = w.heap.size := e; omega)
        refine bodyPost_ret (results_tct rfl _ _ _ aE rfl Try.underlying27 rfl (by rw [SMC.out]; exact sizeRM)) rfl ?_
        refine ⟨b, B, gb, upd (fun _ => 0) 0 sz F, ?_, by omega, by omega, by omega, by omega, by omega, ?_, ?_, ?_, bytes_upd bytes0 HF.out⟩
        · rw [← HMC.out, HC4.out]; rfl
        · exact bstore (BW.out.trans (K5.out.below (B := w.heap.size) (by omega) (fun j hj e => by rcases e with e | e <;> omega))) _ (Nat.le_refl _) _ _
        · have hlog : logged [] 0 sz = [(0, sz)] := by unfold logged; rw [if_neg (by have := HSZ.out; omega)]; rfl
          rw [← hlog]
          exact M5.out.kept kE (fun e => by have e : b = w.heap.size := e; omega) (fun e => by have e : B = w.heap.size := e; omega)
        · refine ⟨⟨gb, 0, none⟩, sz, none, 0, rfl, Nat.le_refl _, by have := HSZ.out; omega, Nat.le_refl _, by omega, fun _ => ⟨rfl, rfl⟩, ⟨by have := HSZ.out; omega, fun _ => ⟨gb, 0, rfl, fun e => e rfl, fun i hi => ?_⟩⟩, fun h => absurd h (by simp)⟩
          rw [Nat.zero_add, rowE.cell hi]
          unfold upd
          rw [if_pos (by omega)]
          rfl
end
end Go.Proofs.Ytfploifafpifnaa
