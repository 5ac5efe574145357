/- connect: the reference's EncodeData. -/
import Derived.Test.YtchkipafjnehfaaTD
import Derived.IntWalk
import Derived.Test.YtchkipafjnehfaaDH
import Derived.Test.YtchkipafjnehfaaR2
namespace Go.Proofs.Ytchkipafjnehfaa
set_option linter.unusedVariables false
set_option linter.unusedSimpArgs false
open Go.RowKit

/-- the first k bytes of the host's number -/
def hP (d : Dat) (k j : Nat) : Int := if j < k then d.host j else 0
theorem hStep {W : World} {g : Nat} {d : Dat} {k : Nat} (h : W.rowIs g 5 1024 (rowB (hP d k))) : (W.setCell ⟨g, k, none⟩ (.int .u8 (d.host k))).rowIs g 5 1024 (rowB (hP d (k + 1))) := by
  refine (h.set k _).congr fun j hj => ?_
  unfold rowB hP
  by_cases e : j = k
  · subst e; rw [if_pos rfl, if_pos (by omega)]
  · rw [if_neg e]
    by_cases h1 : j < k
    · rw [if_pos h1, if_pos (by omega)]
    · rw [if_neg h1, if_neg (by omega)]
theorem hEnd {W : World} {g : Nat} {d : Dat} (hok : d.Ok) (h : W.rowIs g 5 1024 (rowB (hP d 16))) :
    ((W.setCell ⟨g, 16, none⟩ (.int .u8 (d.ctl % 256))).setCell ⟨g, 17, none⟩ (.int .u8 (d.ctl / 256))).rowIs g 5 1024 (rowB (dP d 0 0)) := by
  refine ((h.set 16 _).set 17 _).congr fun j hj => ?_
  unfold rowB hP dP
  by_cases h17 : j = 17
  · rw [if_pos h17, if_neg (by omega), if_neg (by omega), if_pos h17]
  · rw [if_neg h17]
    by_cases h16 : j = 16
    · rw [if_pos h16, if_neg (by omega), if_pos h16]
    · rw [if_neg h16]
      by_cases h15 : j < 16
      · rw [if_pos h15, if_pos h15]
      · rw [if_neg h15, if_neg h15, if_neg h16, if_neg h17, if_neg (by omega), if_neg (by omega)]
theorem sStep {W : World} {g : Nat} {d : Dat} {k : Nat} (hk : k < d.sub.size) (hs : d.sub.size ≤ 223) (h : W.rowIs g 5 1024 (rowB (dP d k 0))) :
    (W.setCell ⟨g, 256 + k, none⟩ (.int .u8 ((d.sub[k]'hk).toNat : Int))).rowIs g 5 1024 (rowB (dP d (k + 1) 0)) := by
  refine (h.set (256 + k) _).congr fun j hj => ?_
  unfold rowB dP
  by_cases e : j = 256 + k
  · subst e
    rw [if_pos rfl, if_neg (by omega), if_neg (by omega), if_neg (by omega), if_pos (by omega), Nat.add_sub_cancel_left, sb_get _ _ hk]
  · rw [if_neg e]
    by_cases h1 : 256 ≤ j ∧ j < 256 + k
    · rw [if_pos h1, if_pos (show 256 ≤ j ∧ j < 256 + (k + 1) by omega)]
    · rw [if_neg h1, if_neg (show ¬ (256 ≤ j ∧ j < 256 + (k + 1)) by omega)]
theorem tStep {W : World} {g : Nat} {d : Dat} {k : Nat} (hk : k < d.hst.size) (hs : d.sub.size ≤ 223) (h : W.rowIs g 5 1024 (rowB (dP d d.sub.size k))) :
    (W.setCell ⟨g, 512 + k, none⟩ (.int .u8 ((d.hst[k]'hk).toNat : Int))).rowIs g 5 1024 (rowB (dP d d.sub.size (k + 1))) := by
  refine (h.set (512 + k) _).congr fun j hj => ?_
  unfold rowB dP
  by_cases e : j = 512 + k
  · subst e
    rw [if_pos rfl, if_neg (by omega), if_neg (by omega), if_neg (by omega), if_neg (by omega), if_pos (by omega), Nat.add_sub_cancel_left, sb_get _ _ hk]
  · rw [if_neg e]
    by_cases h1 : 512 ≤ j ∧ j < 512 + k
    · rw [if_pos h1, if_pos (show 512 ≤ j ∧ j < 512 + (k + 1) by omega)]
    · rw [if_neg h1, if_neg (show ¬ (512 ≤ j ∧ j < 512 + (k + 1)) by omega)]

set_option maxRecDepth 100000 in
set_option maxHeartbeats 4000000 in
theorem refEncodeData (d : Dat) (w : World) (hok : d.Ok) (hv : vDat d = true) :
    Calls Try.prog 34 #[d.v] w fun e w' => ∃ g, e = .returned (.slice (some ⟨g, 0, none⟩) 1024 1024) ∧ w.heap.size ≤ g ∧ Below w.heap.size w w' ∧ w'.rowIs g 5 1024 (rowB (dB d)) := by
  have HOK := Lib.hid hok
  have HSZ := Lib.hid (vDat_sizes hv)
  obtain ⟨W0, hW⟩ : ∃ W0, W0 = w.alloc (.cells (arr 19 (dcell d)) 69) := ⟨_, rfl⟩
  obtain ⟨h1, h2, h3⟩ := dstart d w W0 hW
  have HW := Lib.hid hW
  have HD := Lib.hid h1
  have HB := Lib.hid h2
  clear hW h1 h2 hok hv
  unfold Dat.v at *
  go_enter Try.func34, Try.ntmps34
  go_upto_region 1 with fail
  rw [← HW.out]
  obtain ⟨b, hbE⟩ : ∃ b, b = w.heap.size := ⟨_, rfl⟩
  obtain ⟨g, hg⟩ : ∃ g, g = W0.heap.size := ⟨_, rfl⟩
  have hg1 : b < g := by omega
  have hwg : w.heap.size ≤ g := by omega
  obtain ⟨W2, hW2⟩ : ∃ W2, W2 = W0.alloc (.cells (madeCells #[.int .u8 0] 1024) 5) := ⟨_, rfl⟩
  have HW2 := Lib.hid hW2
  have HD2 := Lib.hid (show DatAt W2 b d by rw [hW2, hbE]; exact World.rowIs.alloc HD.out _)
  have HR2 := Lib.hid (show W2.rowIs g 5 1024 (rowB (hP d 0)) by
    rw [hW2, hg]
    refine (World.rowIs_made W0 (.int .u8 0) 1024 5).congr fun j hj => ?_
    unfold rowB hP
    rw [if_neg (by omega)])
  have HB2 := Lib.hid (show Below w.heap.size w W2 by rw [hW2]; exact HB.out.alloc HB.out.size _)
  have hmk := make1024
  rw [← hbE]
  clear h3
  go_upto_region 2 with fail
  rw [← HW2.out, ← hg]
  have HG := Lib.hid hg
  have HBE := Lib.hid hbE
  clear hmk hW2 hg hbE
  go_wp2_with fail
  go_loopw [4] (fun i wr => ∃ k : Nat, k ≤ 16 ∧ i = .int .i64 k ∧ Keeps (One g) W2 wr ∧ wr.rowIs g 5 1024 (rowB (hP d k))) (fun i _ => 16 - (intOf i).toNat)
  case atStart => exact ⟨0, by omega, rfl, Keeps.refl _ _, HR2.out⟩
  case round =>
    obtain ⟨k, hk, rfl, hkp, hrow⟩ := hrel
    have HK := Lib.hid hkp
    have HRr := Lib.hid hrow
    clear hkp hrow
    have HDr := Lib.hid (show DatAt wr b d from HK.out.rowIs HD2.out (fun e => by have e : b = g := e; omega))
    by_cases hlt : k < 16
    · have c1 : wr.cell? ⟨b, k, none⟩ = some (.int .u8 (d.host k)) := by
        have := World.rowIs.cell HDr.out (i := k) (by omega)
        unfold dcell at this
        rw [if_pos hlt] at this
        exact this
      have c2 := HRr.out.cell (i := k) (by omega)
      have f2 := HRr.out.frozen k
      go_wp2_with fail
      go_roundw
      case rel => exact ⟨k + 1, by omega, by go_num, HK.out.set1 _ _, hStep HRr.out⟩
      case measure => simp [intOf]; omega
    · obtain rfl : k = 16 := by omega
      have c16 : wr.cell? ⟨b, 16, none⟩ = some (.int .u16 d.ctl) := World.rowIs.cell HDr.out (by omega)
      have g16 := HRr.out.cell (i := 16) (by omega)
      have g17 := HRr.out.cell (i := 17) (by omega)
      have f16 := HRr.out.frozen 16
      have f17 := HRr.out.frozen 17
      have cb := HOK.out.c
      have cb1 := cb.1
      have cb2 := cb.2
      have e5 : d.ctl / 256 % 256 = d.ctl / 256 := by omega
      go_upto_region 6 with fail
      go_cut [5] from 19 to 31 (fun v wc => v = undef ∧ Keeps (One g) W2 wc ∧ wc.rowIs g 5 1024 (rowB (dP d 0 0)))
      case first =>
        have et : IntKind.u8.wrap (d.ctl.tmod 256) = d.ctl % 256 := by rw [Int.tmod_eq_emod_of_nonneg cb1]; exact IntWalk.u8_in _ (by omega)
        have ed : IntKind.u8.wrap (IntKind.u16.wrap (d.ctl.tdiv 256)) = d.ctl / 256 := by
          rw [Int.tdiv_eq_ediv_of_nonneg cb1, IntWalk.u16_in _ (by omega)]; exact IntWalk.u8_in _ (by omega)
        have HET := Lib.hid et
        have HED := Lib.hid ed
        clear et ed e5
        refine wp_normal ?_
        go_region_with fail
        all_goals
          refine NormalOnly.intro ?_
          rw [HET.out, HED.out]
          go_wp2_with fail
          go_meet
          refine ⟨rfl, ?_, ?_⟩
          · exact ((HK.out.set1 _ _).set1 _ _).drew
          · first | exact World.rowIs.drew (hEnd HOK.out HRr.out) | (rw [World.setCell_comm]; exact World.rowIs.drew (hEnd HOK.out HRr.out)) | trace_state
      case rest =>
        obtain ⟨rfl, hkp, hrow⟩ := hcut
        clear c16 g16 g17 f16 f17 cb cb1 cb2 e5
        have HK2 := Lib.hid hkp
        have HR3 := Lib.hid hrow
        clear hkp hrow HK HRr
        go_wp2_with fail
        go_loopw [5] (fun i wr => ∃ k : Nat, k ≤ d.sub.size ∧ i = .int .i64 k ∧ Keeps (One g) W2 wr ∧ wr.rowIs g 5 1024 (rowB (dP d k 0))) (fun i _ => d.sub.size - (intOf i).toNat)
        case atStart => exact ⟨0, by omega, rfl, HK2.out, HR3.out⟩
        case round =>
          clear HK2 HR3 HDr
          obtain ⟨k, hk, rfl, hkp, hrow⟩ := hrel
          have HK := Lib.hid hkp
          have HRr := Lib.hid hrow
          clear hkp hrow
          have HDr := Lib.hid (show DatAt wr b d from HK.out.rowIs HD2.out (fun e => by have e : b = g := e; omega))
          have hz1 := HSZ.out.1
          have hz2 := HSZ.out.2
          have c17 : wr.cell? ⟨b, 17, none⟩ = some (.string d.sub) := World.rowIs.cell HDr.out (by omega)
          by_cases hlt : k < d.sub.size
          · have g2 := HRr.out.cell (i := 256 + k) (by omega)
            have f2 := HRr.out.frozen (256 + k)
            have e1 : IntKind.i64.wrap (256 + (k : Int)) = 256 + (k : Int) := IntWalk.i64_in _ (by omega)
            have e2 : (256 + (k : Int)).toNat = 256 + k := by omega
            go_wp2_with fail
            go_roundw
            case rel => exact ⟨k + 1, by omega, by go_num, HK.out.set1 _ _, sStep hlt hz1 HRr.out⟩
            case measure => simp [intOf]; omega
          · obtain rfl : k = d.sub.size := by omega
            go_wp2_with fail
            go_loopw [6] (fun i wr => ∃ k : Nat, k ≤ d.hst.size ∧ i = .int .i64 k ∧ Keeps (One g) W2 wr ∧ wr.rowIs g 5 1024 (rowB (dP d d.sub.size k))) (fun i _ => d.hst.size - (intOf i).toNat)
            case atStart => exact ⟨0, by omega, rfl, HK.out, HRr.out⟩
            case round =>
              clear HK HRr HDr c17
              obtain ⟨k, hk, rfl, hkp, hrow⟩ := hrel
              have HK := Lib.hid hkp
              have HRr := Lib.hid hrow
              clear hkp hrow
              have HDr := Lib.hid (show DatAt wr b d from HK.out.rowIs HD2.out (fun e => by have e : b = g := e; omega))
              have c18 : wr.cell? ⟨b, 18, none⟩ = some (.string d.hst) := World.rowIs.cell HDr.out (by omega)
              by_cases hlt : k < d.hst.size
              · have g2 := HRr.out.cell (i := 512 + k) (by omega)
                have f2 := HRr.out.frozen (512 + k)
                have e1 : IntKind.i64.wrap (512 + (k : Int)) = 512 + (k : Int) := IntWalk.i64_in _ (by omega)
                have e2 : (512 + (k : Int)).toNat = 512 + k := by omega
                go_wp2_with fail
                go_roundw
                case rel => exact ⟨k + 1, by omega, by go_num, HK.out.set1 _ _, tStep hlt hz1 HRr.out⟩
                case measure => simp [intOf]; omega
              · obtain rfl : k = d.hst.size := by omega
                go_wp2_with fail
                go_ret
                exact ⟨g, rfl, hwg, HB2.out.trans (HK.out.below HB2.out.size (fun j hj e => by have e : j = g := e; omega)), HRr.out⟩
end Go.Proofs.Ytchkipafjnehfaa
