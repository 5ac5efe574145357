/- sgl: Spans: the loop. -/
import Derived.Test.YtfmabknhfehdcaaGreatZP16
namespace Go.Proofs.YtfmabknhfehdcaaGreat
set_option linter.unusedSimpArgs false
set_option linter.unusedVariables false
open Go.RowKit
section
variable (d : Dsc) (n : Int) (th : Bool) (b B size : Nat) (f : Nat → Int) (L : List (Nat × Nat)) (w : World) (hM : MemAt w b B size f L) (hs : 0 < size) (hd : d.Ok)
include hM hs hd
set_option maxRecDepth 100000 in
set_option maxHeartbeats 4000000 in
theorem spans_neg (hv : vldD d = true) (q0 : decide (0 ≤ n) = false) :
  Calls Tryz.prog 89 #[.pointer (some ⟨b, 0, none⟩), .agg d.cells, .int .i64 n, .bool th] w (SpPost w (.error 2)) := by
 have HM := Lib.hid hM
 have HV := Lib.hid fun w => svalid_any d true hv w hd
 obtain ⟨A, hA⟩ : ∃ A, A = d.cells := ⟨_, rfl⟩
 have HA4 := Lib.hid (show 0 < A.size by rw [hA]; exact Nat.succ_pos 3)
 have HA44 := Lib.hid (show A.size = 4 by rw [hA]; rfl)
 have HA1 := Lib.hid (show A.all (·.oneCell') = true by rw [hA]; exact d.one)
 have HSZ := Lib.hid (show (Tryz.prog.info? 72).map (·.size) = some A.size by rw [hA]; exact sizeD)
 have HFR := Lib.hid (fun w => show ArrAt (w.alloc (.cells A 72)) w.heap.size A from ArrAt.fresh w A _ HA4.out)
 rw [← hA] at HV ⊢
 have HA := Lib.hid hA
 obtain ⟨sz, hsz⟩ : ∃ z : Int, z = size := ⟨_, rfl⟩
 have dz : decide (0 < sz) = true := decide_eq_true (by omega)
 have HZ := Lib.hid hsz
 have HSP := Lib.hid hs
 have HD := Lib.hid hd
 have HVL := Lib.hid hv
 clear hM hA hs hsz hv hd
 have hmf : ∀ (fn : Fn) (first cap : Array Value) (w : World), (Instr.makeFunc fn first cap).run Tryz.prog w = .ok (.func fn first cap) w := fun _ _ _ _ => rfl
 go_enter_defers Tryz.func89, Tryz.ntmps89
 go_upto_region 2 with (fail)
 obtain ⟨W0, hW0⟩ : ∃ W0, W0 = (((w.alloc (.cells A 72)).alloc (.cells #[.slice none 0 0] 32)).alloc (.cells #[.int .i64 0] 38)) := ⟨_, rfl⟩
 rw [← hW0]
 have S0 := Lib.hid (show sSSt w W0 by rw [hW0]; exact ssst_start w A HA4.out)
 have AD := Lib.hid (show ArrAt W0 w.heap.size A by rw [hW0]; exact ((HFR.out w).alloc _).alloc _)
 clear hW0
 go_wp2_with (first
  | (go_at_call 19; refine (size_is b B size f L sz _ (HM.out.below S0.out.below) HZ.out).mono ?_; rintro e w' ⟨rfl, rfl⟩)
  | ((with_reducible show wpList _ _ _ (⟨some 18, _, _, _, _, _⟩ :: _) _ _); refine wpList_loadA rfl AD.out 72 (.tmp 5) rfl (by first | rfl | simp [Act.eval, Act.put]) Tryz.underlying72 rfl HSZ.out ?_)
  | (go_at_call 63; refine (HV.out _).mono ?_; rintro e w1 ⟨rfl, hb⟩; have S1 := Lib.hid (S0.out.beyond hb); have AD1 := Lib.hid (AD.out.below hb); clear hb)
  | (go_at_call_of 58 (Value.bool true); refine (must_ok _ _).mono ?_; rintro e w' ⟨rfl, rfl⟩))
 refine (must_bad _ _).mono ?_
 rintro e w' ⟨rfl, rfl⟩
 exact ssp_bad S1.out rfl rfl
set_option maxRecDepth 100000 in
set_option maxHeartbeats 4000000 in
theorem spans_big (hv : vldD d = true) (q0 : decide (0 ≤ n) = true) (q1 : decide (n ≤ 1048576) = false) :
  Calls Tryz.prog 89 #[.pointer (some ⟨b, 0, none⟩), .agg d.cells, .int .i64 n, .bool th] w (SpPost w (.error 2)) := by
 have HM := Lib.hid hM
 have HV := Lib.hid fun w => svalid_any d true hv w hd
 obtain ⟨A, hA⟩ : ∃ A, A = d.cells := ⟨_, rfl⟩
 have HA4 := Lib.hid (show 0 < A.size by rw [hA]; exact Nat.succ_pos 3)
 have HA44 := Lib.hid (show A.size = 4 by rw [hA]; rfl)
 have HA1 := Lib.hid (show A.all (·.oneCell') = true by rw [hA]; exact d.one)
 have HSZ := Lib.hid (show (Tryz.prog.info? 72).map (·.size) = some A.size by rw [hA]; exact sizeD)
 have HFR := Lib.hid (fun w => show ArrAt (w.alloc (.cells A 72)) w.heap.size A from ArrAt.fresh w A _ HA4.out)
 rw [← hA] at HV ⊢
 have HA := Lib.hid hA
 obtain ⟨sz, hsz⟩ : ∃ z : Int, z = size := ⟨_, rfl⟩
 have dz : decide (0 < sz) = true := decide_eq_true (by omega)
 have HZ := Lib.hid hsz
 have HSP := Lib.hid hs
 have HD := Lib.hid hd
 have HVL := Lib.hid hv
 clear hM hA hs hsz hv hd
 have hmf : ∀ (fn : Fn) (first cap : Array Value) (w : World), (Instr.makeFunc fn first cap).run Tryz.prog w = .ok (.func fn first cap) w := fun _ _ _ _ => rfl
 go_enter_defers Tryz.func89, Tryz.ntmps89
 go_upto_region 2 with (fail)
 obtain ⟨W0, hW0⟩ : ∃ W0, W0 = (((w.alloc (.cells A 72)).alloc (.cells #[.slice none 0 0] 32)).alloc (.cells #[.int .i64 0] 38)) := ⟨_, rfl⟩
 rw [← hW0]
 have S0 := Lib.hid (show sSSt w W0 by rw [hW0]; exact ssst_start w A HA4.out)
 have AD := Lib.hid (show ArrAt W0 w.heap.size A by rw [hW0]; exact ((HFR.out w).alloc _).alloc _)
 clear hW0
 go_wp2_with (first
  | (go_at_call 19; refine (size_is b B size f L sz _ (HM.out.below S0.out.below) HZ.out).mono ?_; rintro e w' ⟨rfl, rfl⟩)
  | ((with_reducible show wpList _ _ _ (⟨some 18, _, _, _, _, _⟩ :: _) _ _); refine wpList_loadA rfl AD.out 72 (.tmp 5) rfl (by first | rfl | simp [Act.eval, Act.put]) Tryz.underlying72 rfl HSZ.out ?_)
  | (go_at_call 63; refine (HV.out _).mono ?_; rintro e w1 ⟨rfl, hb⟩; have S1 := Lib.hid (S0.out.beyond hb); have AD1 := Lib.hid (AD.out.below hb); clear hb)
  | (go_at_call_of 58 (Value.bool true); refine (must_ok _ _).mono ?_; rintro e w' ⟨rfl, rfl⟩))
 refine (must_bad _ _).mono ?_
 rintro e w' ⟨rfl, rfl⟩
 exact ssp_bad S1.out rfl rfl
end
section
variable (d : Dsc) (n : Int) (th : Bool) (b B size : Nat) (f : Nat → Int) (L : List (Nat × Nat)) (w : World) (hM : MemAt w b B size f L) (hs : 0 < size) (hd : d.Ok)
include hM hs hd
set_option maxRecDepth 100000 in
set_option maxHeartbeats 8000000 in
theorem spans_loop (hv : vldD d = true) (hby : Bytes f) (q0 : decide (0 ≤ n) = true) (q1 : decide (n ≤ 1048576) = true) (R : Except Int (List Spn)) (hR : nxtS f size th 0 d ⟨false, false, 0, 0, n, []⟩ = R) :
  Calls Tryz.prog 89 #[.pointer (some ⟨b, 0, none⟩), .agg d.cells, .int .i64 n, .bool th] w (SpPost w R) := by
 have hn0 : 0 ≤ n := of_decide_eq_true q0
 have hn1 : n ≤ 1048576 := of_decide_eq_true q1
 have HB := Lib.hid hby
 have HR := Lib.hid hR
 have hmm := @run_makeMap Tryz.prog
 have hbw := sbuild_walk
 have HSM := Lib.hid hM.small
 have HBL := Lib.hid hM.lt
 have HBL' := Lib.hid hM.lt'
 clear hby hR
 have HM := Lib.hid hM
 have HV := Lib.hid fun w => svalid_any d true hv w hd
 obtain ⟨A, hA⟩ : ∃ A, A = d.cells := ⟨_, rfl⟩
 have HA4 := Lib.hid (show 0 < A.size by rw [hA]; exact Nat.succ_pos 3)
 have HA44 := Lib.hid (show A.size = 4 by rw [hA]; rfl)
 have HA1 := Lib.hid (show A.all (·.oneCell') = true by rw [hA]; exact d.one)
 have HSZ := Lib.hid (show (Tryz.prog.info? 72).map (·.size) = some A.size by rw [hA]; exact sizeD)
 have HFR := Lib.hid (fun w => show ArrAt (w.alloc (.cells A 72)) w.heap.size A from ArrAt.fresh w A _ HA4.out)
 rw [← hA] at HV ⊢
 have HA := Lib.hid hA
 obtain ⟨sz, hsz⟩ : ∃ z : Int, z = size := ⟨_, rfl⟩
 have dz : decide (0 < sz) = true := decide_eq_true (by omega)
 have HZ := Lib.hid hsz
 have HSP := Lib.hid hs
 have HD := Lib.hid hd
 have HVL := Lib.hid hv
 clear hM hA hs hsz hv hd
 have hmf : ∀ (fn : Fn) (first cap : Array Value) (w : World), (Instr.makeFunc fn first cap).run Tryz.prog w = .ok (.func fn first cap) w := fun _ _ _ _ => rfl
 go_enter_defers Tryz.func89, Tryz.ntmps89
 go_upto_region 2 with (fail)
 obtain ⟨W0, hW0⟩ : ∃ W0, W0 = (((w.alloc (.cells A 72)).alloc (.cells #[.slice none 0 0] 32)).alloc (.cells #[.int .i64 0] 38)) := ⟨_, rfl⟩
 rw [← hW0]
 have S0 := Lib.hid (show sSSt w W0 by rw [hW0]; exact ssst_start w A HA4.out)
 have AD := Lib.hid (show ArrAt W0 w.heap.size A by rw [hW0]; exact ((HFR.out w).alloc _).alloc _)
 clear hW0
 go_upto_region 4 with (first
  | (go_at_call 19; refine (size_is b B size f L sz _ (HM.out.below S0.out.below) HZ.out).mono ?_; rintro e w' ⟨rfl, rfl⟩)
  | ((with_reducible show wpList _ _ _ (⟨some 18, _, _, _, _, _⟩ :: _) _ _); refine wpList_loadA rfl AD.out 72 (.tmp 5) rfl (by first | rfl | simp [Act.eval, Act.put]) Tryz.underlying72 rfl HSZ.out ?_)
  | (go_at_call 63; refine (HV.out _).mono ?_; rintro e w1 ⟨rfl, hb⟩; have S1 := Lib.hid (S0.out.beyond hb); have AD1 := Lib.hid (AD.out.below hb); clear hb)
  | (go_at_call_of 58 (Value.bool true); refine (must_ok _ _).mono ?_; rintro e w' ⟨rfl, rfl⟩))
 have HM1 := Lib.hid (HM.out.below S1.out.below)
 obtain ⟨kb, hkb⟩ : ∃ z, z = w1.heap.size := ⟨_, rfl⟩
 have hkl : w.heap.size + 2 < kb := by rw [hkb]; exact S1.out.lt
 have hm : (w1.alloc (.map #[] 0)).heap[kb]? = some (.map #[] 0) := by rw [hkb]; exact heap_alloc_new w1 (.map #[] 0)
 have HMP := Lib.hid hm
 have HK := Lib.hid (show Keeps (One kb) w1 (w1.alloc (.map #[] 0)) from (Keeps.refl _ _).alloc _)
 clear hm
 go_upto_region 5 with ((with_reducible show wpList _ _ _ (⟨none, .insert _ _ _ _, _, _, _, _⟩ :: _) _ _); refine wpList_insert_new rfl _ _ _ rfl Tryz.underlying158 Tryz.underlying70 HMP.out _ _ (by first | rfl | (rw [hkb]; rfl)) rfl rfl rfl ?_; intro w' hm' hk'; replace HK := Lib.hid (HK.out.trans hk'); replace HMP := Lib.hid hm'; clear hm' hk')
 clear hmm
 have hmap : w'.heap[kb]? = some (.map kindEs 5) := HMP.out
 have HMAP := Lib.hid hmap
 have hkb2 : kb < w'.heap.size := (Array.getElem?_eq_some_iff.1 hmap).1
 have S2 := Lib.hid (S1.out.kept HK.out (fun j hj e => by have e : j = kb := e; omega))
 have M2 := Lib.hid (HM1.out.kept HK.out (fun e => by have e : b = kb := e; have := HBL.out; omega) (fun e => by have e : B = kb := e; have := HBL'.out; omega))
 have AD2 := Lib.hid (AD1.out.kept HK.out (fun e => by have e : w.heap.size = kb := e; omega))
 clear hmap HMP HK
 rw [← hkb]
 clear hkb
 try simp only [Act.put]
 go_upto_region 6 with fail
 obtain ⟨W4, hW4⟩ : ∃ z, z = w'.alloc (.cells (wArr (.pointer (some ⟨b, 0, none⟩)) th n) 160) := ⟨_, rfl⟩
 have e4 : w'.alloc (.cells #[.pointer (some ⟨b, 0, none⟩), .bool th, .int .i64 n, .slice none 0 0, .int .i64 0, .int .u64 0, .int .u64 0, .bool false, .bool false] 160) = W4 := hW4.symm
 rw [e4]
 clear e4
 have b4 : Below w'.heap.size w' W4 := by rw [hW4]; exact (Below.refl _ _).alloc (Nat.le_refl _) _
 have hwl : W4.heap.size = w'.heap.size + 1 := by rw [hW4]; simp
 have HWK := Lib.hid (show sWlk (fun j => j ≤ kb) w'.heap.size W4 (.pointer (some ⟨b, 0, none⟩)) th 0 ⟨false, false, 0, 0, n, []⟩ by rw [hW4]; exact sWlk.fresh _ _ _ _ _ (fun k hk => by omega))
 have S4 := Lib.hid (S2.out.beyond b4)
 have M4 := Lib.hid (M2.out.below b4)
 have AD4 := Lib.hid (AD2.out.below b4)
 have MP4 := Lib.hid (show W4.heap[kb]? = some (.map kindEs 5) by rw [b4.block kb hkb2]; exact HMAP.out)
 obtain ⟨wb, hwb⟩ : ∃ z, z = w'.heap.size := ⟨_, rfl⟩
 rw [← hwb] at HWK hwl ⊢
 have hkw : kb < wb := by omega
 clear hW4 b4 S2 M2 AD2 HMAP hkb2 S1 AD1 HM1 hwb
 have A5 := Lib.hid (show ArrAt (W4.alloc (.cells zDsc.cells 72)) W4.heap.size zDsc.cells from ArrAt.fresh W4 zDsc.cells _ (by decide))
 have hlb : W4.heap.size ≠ 0 := by omega
 go_upto_region 7 with (first
  | ((with_reducible show wpList _ _ _ (⟨some 36, _, _, _, _, _⟩ :: _) _ _); refine wpList_loadA rfl AD4.out 72 (.tmp 5) rfl (by first | rfl | simp [Act.eval, Act.put]) Tryz.underlying72 rfl HSZ.out ?_)
  | ((with_reducible show wpList _ _ _ (⟨some 12, _, _, _, _, _⟩ :: _) _ _); refine wpList_alloc rfl 72 rfl zeroD ?_; rw [show (Value.agg zDsc.cells).cells = zDsc.cells from rfl])
  | ((with_reducible show wpList _ _ _ (⟨none, .store _ (.tmp 12) _, _, _, _, _⟩ :: _) _ _); refine wpList_storeA rfl (b := W4.heap.size) (A := zDsc.cells) (A' := A) A5.out 72 (.tmp 12) (.tmp 36) rfl (by simp [Act.eval, Act.put]) (by simp [Act.eval, Act.put]) (sizeDs _) (by rw [HA44.out]; rfl) HA1.out ?_))
 obtain ⟨W5, hW5⟩ : ∃ z, z = (W4.alloc (.cells zDsc.cells 72)).setCells W4.heap.size 0 A.toList := ⟨_, rfl⟩
 rw [← hW5]
 have b5 : Below W4.heap.size W4 W5 := by rw [hW5]; exact bstore ((Below.refl _ _).alloc (Nat.le_refl _) _) _ (Nat.le_refl _) _ _
 have L5 := Lib.hid (show sLSt w b B size f L kb wb W4.heap.size th 0 ⟨false, false, 0, 0, n, []⟩ d W5 from ⟨S4.out.beyond b5, M4.out.below b5, by rw [b5.block kb (by omega)]; exact MP4.out, by rw [hW5, ← HA.out]; exact A5.out.store A (by rw [HA44.out]; rfl), (HWK.out.more b5).less (fun j hj => hj.elim .inl (fun e => .inr ⟨by omega, by rw [e, hW5]; exact (A5.out.store A (by rw [HA44.out]; rfl)).lt⟩)), hkl, HBL.out, HBL'.out, by omega⟩)
 clear hW5 b5 S4 M4 AD4 MP4 HWK A5 HV HFR HSZ HA1 HA44 HA4
 have hso0 : WSt.Ok ⟨false, false, 0, 0, n, []⟩ size := ⟨by show (0:Int) ≤ 0; omega, by show (0:Int) ≤ 0; omega, by show (0:Int) ≤ size; omega, rfl, hn0, by show ((0:Nat) : Int) + n ≤ _; omega⟩
 try simp only [Act.put, List.setIfInBounds_toArray, List.set_cons_succ, List.set_cons_zero]
 go_loopw [12] (fun lp wr => ∃ (k : Nat) (lb : Nat) (s : WSt) (d : Dsc), lp = .pointer (some ⟨lb, 0, none⟩) ∧ k ≤ 1023 ∧ sLSt w b B size f L kb wb lb th (k : Int) s d wr ∧ s.Ok size ∧ s.left ≤ 1048576 ∧ d.Ok ∧ Vld d ∧ nxtS f size th k d s = R) (fun _ wr => exLeft wb wr)
 case atStart => exact ⟨0, _, _, _, rfl, by omega, L5.out, hso0, hn1, HD.out, by have := HVL.out; unfold vldD at this; exact of_decide_eq_true this, HR.out⟩
 case round =>
  clear hso0 L5 HD HVL HR HA hlb hwl hn0 hn1 q0 q1 hbw dz HZ hmf
  obtain ⟨k, lb, s, d, rfl, hk, hL, hso, hle, hdo, hvd, hR⟩ := hrel
  have HL := Lib.hid hL
  have HM0 := Lib.hid (exLeft_of hL)
  have HSO := Lib.hid hso
  have HDO := Lib.hid hdo
  have HVD := Lib.hid hvd
  have HR := Lib.hid hR
  obtain ⟨v, c2, c3, c4, c5, c6, f4, f5, hown, hn1, hn2⟩ := hL.cells
  obtain ⟨lf, hlf⟩ : ∃ z, z = s.left := ⟨_, rfl⟩
  rw [← hlf] at c2
  have l0 : 0 ≤ lf := by rw [hlf]; exact hso.l0
  have HLF := Lib.hid hlf
  clear hL hso hdo hvd hR hlf hle
  by_cases hlz : lf = 0
  ·have hq : decide (0 < lf) = false := decide_eq_false (by omega)
   have hRR : R = .ok s.out := by have := HR.out; unfold nxtS at this; rw [if_pos (by rw [← HLF.out]; exact hlz)] at this; exact this.symm
   subst hRR
   obtain ⟨va, vm, vc, hvs⟩ := owns_slice hown
   subst hvs
   have o1 := HL.out.sst.out
   have o2 := HL.out.sst.ofz
   have o3 : World.cell? _ ⟨w.heap.size + 1 + 1, 0, none⟩ = _ := HL.out.sst.err
   have o4 : World.frozen? _ ⟨w.heap.size + 1 + 1, 0, none⟩ = _ := HL.out.sst.efz
   have hkb := HL.out.kbl
   have hwb := HL.out.wbk
   go_wp2_with fail
   refine sspans_good _ _ _ _ (.slice va vm vc) 0 _ rfl rfl ?_ ?_ ?_
   ·go_simp
   ·go_simp
   ·have hl := HL.out.sst.below
    refine ⟨(hl.setCell (p := ⟨w.heap.size + 1, 0, none⟩) (by simp) _).setCell (p := ⟨w.heap.size + 2, 0, none⟩) (by simp) _, _, rfl, ?_⟩
    exact owns_less (owns_put (owns_put hown hn1 _) hn2 _) (by omega)
  ·have hq : decide (0 < lf) = true := decide_eq_true (by omega)
   go_upto_region 9 with fail
   rw [show (k : Int) + 1 = ((k + 1 : Nat) : Int) by omega]
   obtain ⟨W1, hW1⟩ : ∃ z, z = wr.setCell ⟨wb, 4, none⟩ (.int .i64 ((k + 1 : Nat) : Int)) := ⟨_, rfl⟩
   rw [← hW1]
   have L1 := Lib.hid (show sLSt w b B size f L kb wb lb th ((k + 1 : Nat) : Int) s d W1 by rw [hW1]; exact HL.out.set4 _)
   clear hW1 c2 c3 c4 c5 c6 f4 f5 hown hn1 hn2 HL
   obtain ⟨i, fk, hfind, hen, hex⟩ := exam_fn size f b B L th d HVD.out HDO.out
   have hcall := Lib.hid (hex (fun j => j ≤ kb ∨ j = lb) wb _ s W1 L1.out.mem L1.out.wlk HSO.out (by have := HSO.out.l1; omega))
   have hlk : (Instr.lookup 158 (.map (some kb)) (.int .i64 d.k) false).run Tryz.prog W1 = .ok (fnV fk) W1 := run_lookup_hit Tryz.underlying158 Tryz.underlying70 L1.out.map _ i _ false hfind
   unfold fnV at hlk
   have ck : W1.cell? ⟨lb, 0, none⟩ = some (.int .i64 d.k) := L1.out.arr.cell rfl
   have HSZ := Lib.hid (show (Tryz.prog.info? 72).map (·.size) = some d.cells.size from sizeDs d)
   have HARR := Lib.hid L1.out.arr
   obtain ⟨D, hD⟩ : ∃ z, z = d.cells := ⟨_, rfl⟩
   rw [← hD] at hcall HSZ HARR
   obtain ⟨dk, hdk⟩ : ∃ z, z = d.k := ⟨_, rfl⟩
   rw [← hdk] at hlk ck
   clear hfind hex hD hdk
   have hx : (∃ no, exam size th d s = .error no) ∨ ∃ s', exam size th d s = .ok s' := by cases exam size th d s with | error no => exact .inl ⟨no, rfl⟩ | ok s' => exact .inr ⟨s', rfl⟩
   rcases hx with ⟨no, hx⟩ | ⟨s', hx⟩
   ·have hRR := nxt_exam HR.out (by rw [← HLF.out]; exact hlz) hx
    subst hRR
    rw [hx] at hcall
    go_wp2_with (first
     | ((with_reducible show wpList _ _ _ (⟨some 54, _, _, _, _, _⟩ :: _) _ _); refine wpList_loadA rfl HARR.out 72 (.tmp 12) rfl (by first | rfl | simp [Act.eval, Act.put]) Tryz.underlying72 rfl HSZ.out ?_))
    refine hcall.out.mono ?_
    rintro e w' ⟨rfl, hk'⟩
    exact ssp_bad (L1.out.sst.kept hk' (fun j hj e => e (.inl (by omega)))) rfl rfl
   ·rw [hx] at hcall
    go_wp2_with (first
     | ((with_reducible show wpList _ _ _ (⟨some 54, _, _, _, _, _⟩ :: _) _ _); refine wpList_loadA rfl HARR.out 72 (.tmp 12) rfl (by first | rfl | simp [Act.eval, Act.put]) Tryz.underlying72 rfl HSZ.out ?_))
    refine hcall.out.mono ?_
    rintro e W2 ⟨rfl, hk', hw'⟩
    have L2 := Lib.hid (L1.out.step hk' hw')
    have HX := Lib.hid hx
    have HSO2 := Lib.hid (exam_ok hx HDO.out.a.1 HSO.out)
    clear hk' hw' hx hcall hlk ck HARR HSZ L1 hen
    obtain ⟨v, c2, c3, c4, c5, c6, f4, f5, hown, hn1, hn2⟩ := L2.out.cells
    have hae := HSO2.out.ae
    have hes := HSO2.out.es
    have ha0 := HSO2.out.a0
    have hmd := HSO2.out.m
    obtain ⟨l2, hl2⟩ : ∃ z, z = s'.left := ⟨_, rfl⟩
    obtain ⟨a0, ha⟩ : ∃ z, z = s'.at' := ⟨_, rfl⟩
    obtain ⟨e0, he⟩ : ∃ z, z = s'.en := ⟨_, rfl⟩
    rw [← hl2] at c2
    rw [← ha] at c5 hae ha0 hmd
    rw [← he] at c6 hae hes hmd
    have m0 : 0 ≤ l2 := by rw [hl2]; exact HSO2.out.l0
    have HL2 := Lib.hid hl2
    have HAT := Lib.hid ha
    have HEN := Lib.hid he
    clear hl2 ha he
    obtain ⟨aN, haN⟩ : ∃ aN : Nat, a0 = (aN : Int) := ⟨a0.toNat, by omega⟩
    have HAN := Lib.hid haN
    clear haN
    by_cases hz2 : l2 = 0
    ·have hq2 : (l2 == 0) = true := beq_iff_eq.2 hz2
     have hRR := nxt_done HR.out (by rw [← HLF.out]; exact hlz) HX.out (by rw [← HL2.out]; exact hz2)
     subst hRR
     clear HR HX
     obtain ⟨va, vm, vc, hvs⟩ := owns_slice hown
     subst hvs
     have o1 := L2.out.sst.out
     have o2 := L2.out.sst.ofz
     have o3 : World.cell? _ ⟨w.heap.size + 1 + 1, 0, none⟩ = _ := L2.out.sst.err
     have o4 : World.frozen? _ ⟨w.heap.size + 1 + 1, 0, none⟩ = _ := L2.out.sst.efz
     have hkb := L2.out.kbl
     have hwb := L2.out.wbk
     go_wp2_with fail
     refine sspans_good _ _ _ _ (.slice va vm vc) 0 _ rfl rfl ?_ ?_ ?_
     ·go_simp
     ·go_simp
     ·have hl := L2.out.sst.below
      refine ⟨(hl.setCell (p := ⟨w.heap.size + 1, 0, none⟩) (by simp) _).setCell (p := ⟨w.heap.size + 2, 0, none⟩) (by simp) _, _, rfl, ?_⟩
      exact owns_less (owns_put (owns_put hown hn1 _) hn2 _) (by omega)
    ·have hq2 : (l2 == 0) = false := beq_eq_false_iff_ne.2 hz2
     by_cases hlt : a0 < e0
     case neg =>
      have hRR := nxt_short HR.out (by rw [← HLF.out]; exact hlz) HX.out (by rw [← HL2.out]; exact hz2) (by rw [← HAT.out, ← HEN.out]; exact hlt)
      subst hRR
      have hq3 : decide (a0 < e0) = false := decide_eq_false hlt
      go_upto_region 11 with fail
      refine wp_pan (w9 := W2.drew) (x8 := .pointer (some ⟨w.heap.size + 1, 0, none⟩)) (x9 := .pointer (some ⟨w.heap.size + 2, 0, none⟩)) (D := [sdfrS (w.heap.size + 1) (w.heap.size + 2)]) (no := 162) ?_ ?_
      ·refine wp_region_held_drew (S := fun w' => w' = W2.drew) (by kernel_rfl) rfl (fun hS0 => ?_)
       refine takeD 61 (i := 0) (v := .pointer (some ⟨wb, 0, none⟩)) rfl rfl (by kernel_rfl) (by kernel_rfl) (by kernel_rfl) (fun _ _ _ h => h.put (by decide) (by decide)) (Or.inl ⟨by rfl, by (intro w' hw'; subst hw'; go_simp)⟩) (by assumption) ?_
       try simp only [Act.put, List.setIfInBounds_toArray, List.set_cons_zero, List.set_cons_succ]
       refine takeD 62 (i := 1) (v := .pointer (some ⟨wb, 0, none⟩)) rfl rfl (by kernel_rfl) (by kernel_rfl) (by kernel_rfl) (fun _ _ _ h => h.put (by decide) (by decide)) (Or.inl ⟨by rfl, by (intro w' hw'; subst hw'; go_simp)⟩) (by assumption) ?_
       try simp only [Act.put, List.setIfInBounds_toArray, List.set_cons_zero, List.set_cons_succ]
       refine takeD 63 (i := 2) (v := .pointer (some ⟨wb, 5, none⟩)) rfl rfl (by kernel_rfl) (by kernel_rfl) (by kernel_rfl) (fun _ _ _ h => h.put (by decide) (by decide)) (Or.inl ⟨by rfl, by (intro w' hw'; subst hw'; go_simp)⟩) (by assumption) ?_
       try simp only [Act.put, List.setIfInBounds_toArray, List.set_cons_zero, List.set_cons_succ]
       refine takeD 64 (i := 3) (v := .int .u64 a0) rfl rfl (by kernel_rfl) (by kernel_rfl) (by kernel_rfl) (fun _ _ _ h => h.put (by decide) (by decide)) (Or.inl ⟨by rfl, by (intro w' hw'; subst hw'; go_simp)⟩) (by assumption) ?_
       try simp only [Act.put, List.setIfInBounds_toArray, List.set_cons_zero, List.set_cons_succ]
       refine takeD 65 (i := 4) (v := .pointer (some ⟨wb, 0, none⟩)) rfl rfl (by kernel_rfl) (by kernel_rfl) (by kernel_rfl) (fun _ _ _ h => h.put (by decide) (by decide)) (Or.inl ⟨by rfl, by (intro w' hw'; subst hw'; go_simp)⟩) (by assumption) ?_
       try simp only [Act.put, List.setIfInBounds_toArray, List.set_cons_zero, List.set_cons_succ]
       refine takeD 66 (i := 5) (v := .pointer (some ⟨wb, 0, none⟩)) rfl rfl (by kernel_rfl) (by kernel_rfl) (by kernel_rfl) (fun _ _ _ h => h.put (by decide) (by decide)) (Or.inl ⟨by rfl, by (intro w' hw'; subst hw'; go_simp)⟩) (by assumption) ?_
       try simp only [Act.put, List.setIfInBounds_toArray, List.set_cons_zero, List.set_cons_succ]
       refine takeD 67 (i := 6) (v := .pointer (some ⟨wb, 6, none⟩)) rfl rfl (by kernel_rfl) (by kernel_rfl) (by kernel_rfl) (fun _ _ _ h => h.put (by decide) (by decide)) (Or.inl ⟨by rfl, by (intro w' hw'; subst hw'; go_simp)⟩) (by assumption) ?_
       try simp only [Act.put, List.setIfInBounds_toArray, List.set_cons_zero, List.set_cons_succ]
       refine takeD 68 (i := 7) (v := .int .u64 e0) rfl rfl (by kernel_rfl) (by kernel_rfl) (by kernel_rfl) (fun _ _ _ h => h.put (by decide) (by decide)) (Or.inl ⟨by rfl, by (intro w' hw'; subst hw'; go_simp)⟩) (by assumption) ?_
       try simp only [Act.put, List.setIfInBounds_toArray, List.set_cons_zero, List.set_cons_succ]
       refine takeD 69 (i := 8) (v := .bool false) rfl rfl (by kernel_rfl) (by kernel_rfl) (by kernel_rfl) (fun _ _ _ h => h.put (by decide) (by decide)) (Or.inl ⟨by rfl, by (intro w' hw'; subst hw'; go_simp)⟩) (by assumption) ?_
       try simp only [Act.put, List.setIfInBounds_toArray, List.set_cons_zero, List.set_cons_succ]
       refine wpAnyH_ready (rs := [9]) (by kernel_rfl) (by simp) (AllReadyH.cons rfl (fun K hK => ?_) AllReadyH.nil)
       rw [if_pos (by rfl)]
       go_simp
       refine (must_bad _ _).mono ?_
       rintro e w' ⟨rfl, rfl⟩
       exact ⟨rfl, rfl, rfl, rfl, rfl⟩
      ·intro tmps h8 h9
       exact ssp_bad (L2.out.sst.kept ((Keeps.refl (fun _ => False) _).drew) (fun _ _ e => e)) h8 h9
     case pos =>
      have hq3 : decide (a0 < e0) = true := decide_eq_true hlt
      go_upto_region 11 with fail
      refine wp_normal ?_
      go_region_with (go_at_call 58; refine (must_ok _ _).mono ?_; rintro e w' ⟨rfl, rfl⟩)
      all_goals
       refine NormalOnly.intro ?_
       obtain ⟨W3, hW3⟩ : ∃ z, z = W2.drew := ⟨_, rfl⟩
       have L3 := Lib.hid (show sLSt w b B size f L kb wb lb th ((k + 1 : Nat) : Int) s' d W3 by rw [hW3]; exact L2.out.beyond ((Below.refl _ W2).drew))
       rw [← hW3]
       clear hW3 L2 c2 c3 c4 c5 c6 f4 f5 hown hn1 hn2 hq2 hq3
       obtain ⟨v3, c2, c3, c4, c5, c6, f4, f5, hown, hn1, hn2⟩ := L3.out.cells
       clear c2 c3 hown hn1 hn2 c6
       obtain ⟨x2, hx2⟩ : ∃ z : Int, z = ((k + 1 : Nat) : Int) := ⟨_, rfl⟩
       rw [← hx2] at c4
       have HX2 := Lib.hid hx2
       rw [← HAT.out] at c5
       clear hx2
       by_cases hk3 : k = 1023
       ·have hq4 : decide (x2 < 1024) = false := decide_eq_false (by have := HX2.out; omega)
        have hRR := nxt_long HR.out (by rw [← HLF.out]; exact hlz) HX.out (by rw [← HL2.out]; exact hz2) (by rw [← HAT.out, ← HEN.out]; exact hlt) hk3
        subst hRR
        go_wp2_with fail
        refine (must_bad _ _).mono ?_
        rintro e w' ⟨rfl, rfl⟩
        exact ssp_bad L3.out.sst rfl rfl
       ·have hq4 : decide (x2 < 1024) = true := decide_eq_true (by have := HX2.out; omega)
        obtain ⟨r1, r2, r3⟩ := nxt_more HR.out (by rw [← HLF.out]; exact hlz) HX.out (by rw [← HL2.out]; exact hz2) (by rw [← HAT.out, ← HEN.out]; exact hlt) (by omega)
        have eA : s'.at'.toNat = aN := by rw [← HAT.out, HAN.out]; rfl
        have eE : errAt f s'.at' = decE (hiW fun i => f (aN + i)) := by unfold errAt; rw [eA]
        have eD : dscAt f s'.at' = decD (hz (fun i => f (aN + i)) 7 8) (hiW fun i => f (aN + i)) := by unfold dscAt; rw [eA]
        rw [eE] at r1 r2 r3
        rw [eD] at r2 r3
        have hsz : aN + 16 ≤ size := by have := HAN.out; omega
        have hbf : Bytes fun i => f (aN + i) := fun i => HB.out _
        have c0 := L3.out.wlk.c0
        obtain ⟨no, hno⟩ : ∃ z, z = decE (hiW fun i => f (aN + i)) := ⟨_, rfl⟩
        obtain ⟨d', hd'⟩ : ∃ z, z = decD (hz (fun i => f (aN + i)) 7 8) (hiW fun i => f (aN + i)) := ⟨_, rfl⟩
        have hok' : d'.Ok := by rw [hd']; exact decD_ok _ _ (loW_bd hbf) (hiW_bd hbf)
        rw [← hno] at r1 r2 r3
        rw [← hd'] at r2 r3
        rw [HAN.out] at c5
        by_cases hn : no = 0
        case neg =>
         have hRR := r1 hn
         subst hRR
         have HC := Lib.hid (rd_err wb b B size f L aN W3 L3.out.mem c0 hbf hsz d' no d'.cells hd'.symm rfl hno.symm (beq_eq_false_iff_ne.2 hn))
         clear hd' hno hbf
         go_wp2_with (go_at_call 58; refine (must_ok _ _).mono ?_; rintro e w' ⟨rfl, rfl⟩)
         refine HC.out.mono ?_
         rintro e w' ⟨rfl, hb'⟩
         exact ssp_bad (L3.out.sst.beyond hb') rfl rfl
        case pos =>
         by_cases hv' : Vld d'
         case neg =>
          have hRR := r2 hn hv'
          subst hRR
          have HC := Lib.hid (rd_inv wb b B size f L aN W3 L3.out.mem c0 hbf hsz d' no d'.cells hd'.symm rfl hno.symm hn (decide_eq_false hv'))
          clear hd' hno hbf
          go_wp2_with (go_at_call 58; refine (must_ok _ _).mono ?_; rintro e w' ⟨rfl, rfl⟩)
          refine HC.out.mono ?_
          rintro e w' ⟨rfl, hb'⟩
          exact ssp_bad (L3.out.sst.beyond hb') rfl rfl
         case pos =>
          have HRR := Lib.hid (r3 hn hv')
          have HVD' := Lib.hid hv'
          have HOK' := Lib.hid hok'
          have HC0 := Lib.hid (rd_ok wb b B size f L aN W3 L3.out.mem c0 hbf hsz d' no d'.cells hd'.symm rfl hno.symm hn (decide_eq_true hv'))
          obtain ⟨D', hD'⟩ : ∃ z, z = d'.cells := ⟨_, rfl⟩
          rw [← hD'] at HC0
          have HD' := Lib.hid hD'
          have hs1 : D'.size = 4 := by rw [hD']; rfl
          have HS1 := Lib.hid hs1
          have HO1 := Lib.hid (show D'.all (·.oneCell') = true by rw [hD']; exact d'.one)
          have HSZ' := Lib.hid (show (Tryz.prog.info? 72).map (·.size) = some D'.size by rw [hD']; exact sizeD)
          have hA3 := L3.out.arr
          obtain ⟨D3, hD3⟩ : ∃ z, z = d.cells := ⟨_, rfl⟩
          rw [← hD3] at hA3
          have HD3 := Lib.hid (show D3.size = 4 by rw [hD3]; rfl)
          have HSZ3 := Lib.hid (show (Tryz.prog.info? 72).map (·.size) = some D3.size by rw [hD3]; exact sizeD)
          have HA3 := Lib.hid hA3
          clear hD3 hA3 hs1 hD' hok' hv' hd' hno hbf r1 r2 r3 c0 hn
          go_upto_region 14 with (first
           | (go_at_call 58; refine (must_ok _ _).mono ?_; rintro e w' ⟨rfl, rfl⟩)
           | (go_at_call 100; refine HC0.out.mono ?_; rintro e W4 ⟨rfl, hb4⟩; have L4 := Lib.hid (L3.out.beyond hb4); have HA4 := Lib.hid (HA3.out.below hb4); clear hb4)
           | ((with_reducible show wpList _ _ _ (⟨none, .store _ (.tmp 12) _, _, _, _, _⟩ :: _) _ _); refine wpList_storeA rfl (b := lb) (A := D3) (A' := D') HA4.out 72 (.tmp 12) (.tmp 82) rfl (by simp [Act.eval, Act.put]) (by simp [Act.eval, Act.put]) HSZ3.out (by rw [HS1.out, HD3.out]) HO1.out ?_))
          obtain ⟨W5, hW5⟩ : ∃ z, z = W4.setCells lb 0 D'.toList := ⟨_, rfl⟩
          rw [← hW5]
          have L5 := Lib.hid (show sLSt w b B size f L kb wb lb th ((k + 1 : Nat) : Int) s' d' W5 by rw [hW5, HD'.out]; exact L4.out.put d')
          clear hW5 c4 c5 f4 f5 L3 L4 HA3 HA4
          obtain ⟨v3, c2, c3, c4, c5, c6, f4, f5, hown, hn1, hn2⟩ := L5.out.cells
          clear c2 c3 hown hn1 hn2 c6 c4 f4
          rw [← HAT.out, HAN.out] at c5
          have hsm := HSM.out
          go_upto_region 15 with fail
          obtain ⟨W6, hW6⟩ : ∃ z, z = W5.setCell ⟨wb, 5, none⟩ (.int .u64 ((aN : Int) + 16)) := ⟨_, rfl⟩
          rw [← hW6]
          have L6 := Lib.hid (show sLSt w b B size f L kb wb lb th ((k + 1 : Nat) : Int) { s' with at' := s'.at' + 16 } d' W6 by rw [hW6, ← HAT.out, HAN.out]; exact L5.out.set5 _)
          clear hW6 c5 f5 L5
          have HA6 := Lib.hid (show ArrAt W6 lb D' by rw [HD'.out]; exact L6.out.arr)
          have A7 := Lib.hid (show ArrAt (W6.alloc (.cells zDsc.cells 72)) W6.heap.size zDsc.cells from ArrAt.fresh W6 zDsc.cells _ (by decide))
          go_wp2_with (first
           | ((with_reducible show wpList _ _ _ (⟨some 90, _, _, _, _, _⟩ :: _) _ _); refine wpList_loadA rfl HA6.out 72 (.tmp 12) rfl (by first | rfl | simp [Act.eval, Act.put]) Tryz.underlying72 rfl HSZ'.out ?_)
           | ((with_reducible show wpList _ _ _ (⟨some 12, _, _, _, _, _⟩ :: _) _ _); refine wpList_alloc rfl 72 rfl zeroD ?_; rw [show (Value.agg zDsc.cells).cells = zDsc.cells from rfl])
           | ((with_reducible show wpList _ _ _ (⟨none, .store _ (.tmp 12) _, _, _, _, _⟩ :: _) _ _); refine wpList_storeA rfl (b := W6.heap.size) (A := zDsc.cells) (A' := D') A7.out 72 (.tmp 12) (.tmp 90) rfl (by simp [Act.eval, Act.put]) (by simp [Act.eval, Act.put]) (sizeDs _) (by rw [HS1.out]; rfl) HO1.out ?_))
          obtain ⟨W7, hW7⟩ : ∃ z, z = (W6.alloc (.cells zDsc.cells 72)).setCells W6.heap.size 0 D'.toList := ⟨_, rfl⟩
          have b7 : Below W6.heap.size W6 W7 := by rw [hW7]; exact bstore ((Below.refl _ _).alloc (Nat.le_refl _) _) _ (Nat.le_refl _) _ _
          have a7 : ArrAt W7 W6.heap.size d'.cells := by rw [hW7, ← HD'.out]; exact A7.out.store D' (by rw [HS1.out]; rfl)
          have L7 := Lib.hid (L6.out.var d' b7 W6.heap.size (Nat.le_refl _) a7.lt a7)
          rw [← hW7]
          clear hW7 b7 a7
          have hso3 : WSt.Ok { s' with at' := s'.at' + 16 } size := ⟨by have := HAT.out; show 0 ≤ s'.at' + 16; omega, by have := HAT.out; have := HEN.out; show s'.at' + 16 ≤ s'.en; omega, HSO2.out.es, by have := HAT.out; have := HEN.out; show (s'.en - (s'.at' + 16)) % 16 = 0; omega, HSO2.out.l0, HSO2.out.l1⟩
          go_roundw
          case rel =>
           have hl3 : ({ s' with at' := s'.at' + 16 } : WSt).left ≤ 1048576 := by have := HSO2.out.l1; show s'.left ≤ _; omega
           first
            | exact ⟨k + 1, _, _, _, rfl, by omega, L7.out, hso3, hl3, HOK'.out, HVD'.out, HRR.out⟩
            | ((repeat apply Exists.intro); exact ⟨⟨k + 1, _, _, _, rfl, by omega, L7.out, hso3, hl3, HOK'.out, HVD'.out, HRR.out⟩, rfl⟩)
          case measure =>
           rw [exLeft_of L7.out, HM0.out]
           omega
end
end Go.Proofs.YtfmabknhfehdcaaGreat
