/- connect: the law ConnectBack returns true and writes to nothing that was there. -/
import Derived.Test.YtchkipafjnehfaaLData
import Derived.Test.YtchkipafjnehfaaBA
import Derived.Test.YtchkipafjnehfaaLResults
namespace Go.Proofs.Ytchkipafjnehfaa
set_option linter.unusedVariables false
set_option linter.unusedSimpArgs false
open Go.RowKit

theorem fab_arr (f : Fab) : f.v = .agg (arr 9 (fcell f)) := rfl
theorem size42 : (Try.prog.info? 42).map (·.size) = some 9 := by kernel_rfl
theorem zero42 (w : World) : (zeroValue 42).run Try.prog w = .ok F0.v w := by kernel_rfl
theorem fcell_one (f : Fab) (j : Nat) : (fcell f j).oneCell' = true := by
  unfold fcell
  (repeat' split) <;> rfl
theorem feq_self (f : Fab) : feq f f = true := by unfold feq; simp
theorem equalF (f : Fab) (w : World) : (Op.equalIn 10000 42 (.agg (arr 9 (fcell f))) (.agg (arr 9 (fcell f)))).run Try.prog w = .ok true w := by
  have h := eql_fab f f w
  rw [fab_arr, run_eql_struct, feq_self] at h
  generalize (Op.equalIn 10000 42 (.agg (arr 9 (fcell f))) (.agg (arr 9 (fcell f)))).run Try.prog w = r at h ⊢
  cases r with
  | ok b w' =>
    simp only [Result.andThen_ok] at h
    injection h with h1 h2
    injection h1 with h1
    rw [h1, h2]
  | halt x w' => simp [Result.andThen] at h

/-- What lies in memory while the law runs. -/
structure LB (w W : World) (b5 b6 b7 : Nat) (f : Fab) (B : Nat → Int) (d : Dat) (ao : Option Addr) (n : Nat) (S : Nat → Int) : Prop where
  fab : W.rowIs b5 42 9 (fcell f)
  ent : W.rowIs b6 43 64 (bB B)
  dat : DatAt W b7 d
  src : SrcB W ao n S
  below : Below w.heap.size w W
theorem LB.after {w W W' : World} {b5 b6 b7 : Nat} {f : Fab} {B : Nat → Int} {d : Dat} {ao : Option Addr} {n : Nat} {S : Nat → Int} (h : LB w W b5 b6 b7 f B d ao n S) (k : Below W.heap.size W W') : LB w W' b5 b6 b7 f B d ao n S :=
  ⟨h.fab.of_block (k.block _ h.fab.lt), h.ent.of_block (k.block _ h.ent.lt), World.rowIs.of_block h.dat (k.block _ (World.rowIs.lt h.dat)), h.src.below k, h.below.trans (k.mono h.below.size)⟩

theorem lstart (w W : World) (f : Fab) (B : Nat → Int) (d : Dat) (ao : Option Addr) (n : Nat) (S : Nat → Int) (hs : SrcB w ao n S)
    (hW : W = ((w.alloc (.cells (arr 9 (fcell f)) 42)).alloc (.cells (arr 64 (bB B)) 43)).alloc (.cells (arr 19 (dcell d)) 69)) :
    LB w W w.heap.size (w.heap.size + 1) (w.heap.size + 1 + 1) f B d ao n S := by
  have h1 := rowIs_arr w 42 9 (fcell f)
  have h2 := rowIs_arr (w.alloc (.cells (arr 9 (fcell f)) 42)) 43 64 (bB B)
  have h3 := rowIs_arr ((w.alloc (.cells (arr 9 (fcell f)) 42)).alloc (.cells (arr 64 (bB B)) 43)) 69 19 (dcell d)
  have e1 : (w.alloc (.cells (arr 9 (fcell f)) 42)).heap.size = w.heap.size + 1 := by simp
  have e2 : ((w.alloc (.cells (arr 9 (fcell f)) 42)).alloc (.cells (arr 64 (bB B)) 43)).heap.size = w.heap.size + 1 + 1 := by simp
  have hb : Below w.heap.size w W := by rw [hW]; exact (((Below.refl _ w).alloc (Nat.le_refl _) _).alloc (by simp) _).alloc (by simp; omega) _
  rw [e1] at h2
  rw [e2] at h3
  rw [hW] at hb ⊢
  exact ⟨World.rowIs.alloc (World.rowIs.alloc h1 _) _, World.rowIs.alloc h2 _, h3, hs.below hb, hb⟩

/-- Encode, whatever the command. -/
theorem encode_either (f : Fab) (w : World) (hok : f.Ok) : Calls Try.prog 19 #[.agg (arr 9 (fcell f))] w fun e w' =>
    (∃ G k, e = .returned (.tuple #[.agg (arr 64 G), .int .i64 k]) ∧ ((vld f = true ∧ G = bB (nbE f) ∧ k = 0) ∨ (vld f = false ∧ G = z8 ∧ k = 2))) ∧ Below w.heap.size w w' := by
  cases hv : vld f
  · have hva : ∀ w, Calls Try.prog 21 #[f.v] w fun e w' => e = .returned (.bool false) ∧ Below w.heap.size w w' := fun w => by
      have := valid_any f w hok
      rwa [hv] at this
    exact (encode_bad f w hva).mono fun e w' ⟨h, hb⟩ => ⟨⟨z8, 2, h, .inr ⟨rfl, rfl, rfl⟩⟩, hb⟩
  · have e : encF f = bB (nbE f) := funext fun j => encF_bytes f j
    exact (encode_any f w hok hv).mono fun e' w' ⟨h, hb⟩ => ⟨⟨encF f, 0, h, .inl ⟨rfl, e, rfl⟩⟩, hb⟩

/-- Decode, whatever the entry. -/
theorem decode_either (B : Nat → Int) (w : World) (hB : ∀ j, 0 ≤ B j ∧ B j ≤ 255) : Calls Try.prog 30 #[.agg (arr 64 (bB B))] w fun e w' =>
    (∃ f k, e = .returned (.tuple #[.agg (arr 9 (fcell f)), .int .i64 k]) ∧ ((vld f = true ∧ (∀ j, j < 64 → encF f j = bB B j) ∧ f.Ok ∧ k = 0) ∨ k = 6)) ∧ Below w.heap.size w w' :=
  (decode_any B w hB).mono fun e w' h => by
    obtain ⟨h, hb⟩ := h
    rcases h with ⟨h1, h2⟩ | ⟨h1, h2⟩
    · exact ⟨⟨dF B, 0, h2, .inl ⟨h1.1, h1.2, dF_ok hB, rfl⟩⟩, hb⟩
    · exact ⟨⟨F0, 6, h2, .inr rfl⟩, hb⟩
/-- EncodeData, whatever the data. -/
theorem encodeData_either (d : Dat) (w : World) (hok : d.Ok) : Calls Try.prog 32 #[.agg (arr 19 (dcell d))] w fun e w' =>
    (∃ u k, e = .returned (.tuple #[u, .int .i64 k]) ∧ ((vDat d = true ∧ ∃ g, u = .slice (some ⟨g, 0, none⟩) 1024 1024 ∧ k = 0 ∧ w'.rowIs g 5 1024 (rowB (dB d))) ∨ (u = .slice none 0 0 ∧ k = 2))) ∧ Below w.heap.size w w' := by
  cases hv : vDat d
  · exact (encodeData_bad d w hok hv).mono fun e w' ⟨h, hb⟩ => ⟨⟨_, _, h, .inr ⟨rfl, rfl⟩⟩, hb⟩
  · exact (encodeData_ok d w hok hv).mono fun e w' ⟨g, h, _, hb, hr⟩ => ⟨⟨_, _, h, .inl ⟨rfl, g, rfl, rfl, hr⟩⟩, hb⟩

/-- A new variable, and what is stored in it. -/
theorem fresh_row (w V W : World) (b : Nat) (t : TypeId) (m : Nat) (z g : Nat → Value) (hb : b = w.heap.size) (hV : V = w.alloc (.cells (arr m z) t)) (hW : W = V.setCells b 0 (arr m g).toList) :
    V.there b 0 m ∧ W.rowIs b t m g ∧ Below w.heap.size w W := by
  subst hb
  have h1 : V.rowIs w.heap.size t m z := by rw [hV]; exact rowIs_arr w t m z
  have h2 : Below w.heap.size w V := by rw [hV]; exact (Below.refl _ w).alloc (Nat.le_refl _) _
  refine ⟨rowIs_there h1 0 m (by omega), by rw [hW]; exact rowIs_store h1, ?_⟩
  rw [hW]
  exact h2.trans ((Keeps.setCells _ (Keeps.refl (One w.heap.size) V) 0).below (B := w.heap.size) h2.size (fun j hj e => by have e : j = w.heap.size := e; omega))

set_option maxRecDepth 100000 in
set_option maxHeartbeats 4000000 in
theorem back_in (f : Fab) (B : Nat → Int) (d : Dat) (ao : Option Addr) (n c : Nat) (S : Nat → Int) (v : Int) (w : World) (hok : f.Ok) (hB : ∀ j, 0 ≤ B j ∧ B j ≤ 255) (hd : d.Ok)
    (hS : ∀ j, 0 ≤ S j ∧ S j ≤ 255) (hn : n ≤ c) (hc : c ≤ 9223372036854775807) (hsrc : SrcB w ao n S) (hs : d.sub.size ≤ 300) (ht : d.hst.size ≤ 300) (hn2 : n ≤ 1100) (hv0 : 0 ≤ v) (hv1 : v ≤ 4294967295) :
    Calls Try.prog 11 #[.agg (arr 9 (fcell f)), .agg (arr 64 (bB B)), .agg (arr 19 (dcell d)), .slice ao n c, .int .u32 v] w fun e w' => e = .returned (.bool true) ∧ Below w.heap.size w w' := by
  obtain ⟨W0, hW⟩ : ∃ W0, W0 = ((w.alloc (.cells (arr 9 (fcell f)) 42)).alloc (.cells (arr 64 (bB B)) 43)).alloc (.cells (arr 19 (dcell d)) 69) := ⟨_, rfl⟩
  have h0 := lstart w W0 f B d ao n S hsrc hW
  have HW := Lib.hid hW
  obtain ⟨b5, hb5⟩ : ∃ b, b = w.heap.size := ⟨_, rfl⟩
  obtain ⟨b6, hb6⟩ : ∃ b, b = w.heap.size + 1 := ⟨_, rfl⟩
  obtain ⟨b7, hb7⟩ : ∃ b, b = w.heap.size + 1 + 1 := ⟨_, rfl⟩
  rw [← hb7, ← hb6, ← hb5] at h0
  have E := Lib.hid h0
  have HB5 := Lib.hid hb5
  have HB6 := Lib.hid hb6
  have HB7 := Lib.hid hb7
  have c17 : W0.cell? ⟨b7, 17, none⟩ = some (.string d.sub) := World.rowIs.cell h0.dat (by omega)
  have c18 : W0.cell? ⟨b7, 18, none⟩ = some (.string d.hst) := World.rowIs.cell h0.dat (by omega)
  have d1 : decide ((300 : Int) < (d.sub.size : Int)) = false := by simp; omega
  have d2' : decide ((300 : Int) < (d.hst.size : Int)) = false := by simp; omega
  have d3 : decide ((1100 : Int) < (n : Int)) = false := by simp; omega
  have HOK := Lib.hid hok
  have HBB := Lib.hid hB
  have HDO := Lib.hid hd
  have HSS := Lib.hid hS
  have HEN := Lib.hid encode_either
  have HDN := Lib.hid decode_either
  have HED := Lib.hid encodeData_either
  clear hok hB hd hS
  clear hW h0 hb5 hb6 hb7 hsrc
  go_enter Try.func11, Try.ntmps11
  go_upto_region 1 with fail
  rw [← HW.out, ← HB7.out, ← HB6.out, ← HB5.out]
  go_upto_region 3 with fail
  have RF := Lib.hid (rowIs_range0 E.out.fab)
  go_wp2_with ((with_reducible show wpList _ _ _ (⟨some 47, .load _ _, _, _, _, _⟩ :: _) _ _); refine wpList_load_mid rfl 42 (.tmp 5) rfl b5 0 rfl (arr 9 (fcell f)).toList _ RF.out Try.underlying42 rfl (by rw [size42]; simp [arr]) ?_)
  refine (HEN.out f _ HOK.out).mono ?_
  rintro e w1 ⟨⟨G, k, rfl, hcase⟩, hb⟩
  have E1 := Lib.hid (E.out.after hb)
  have HG1 := Lib.hid (show ∀ j, (G j).oneCell' = true from by rcases hcase with ⟨-, rfl, -⟩ | ⟨-, rfl, -⟩ <;> exact fun j => rfl)
  have HCA := Lib.hid hcase
  clear hb hcase c17 c18
  obtain ⟨b11, hb11⟩ : ∃ x, x = w1.heap.size := ⟨_, rfl⟩
  obtain ⟨V11, hV11⟩ : ∃ x, x = w1.alloc (.cells (arr 64 z8) 43) := ⟨_, rfl⟩
  obtain ⟨W11, hW11⟩ : ∃ x, x = V11.setCells b11 0 (arr 64 G).toList := ⟨_, rfl⟩
  obtain ⟨hT11, hR11, hL11⟩ := fresh_row w1 V11 W11 b11 43 64 z8 G hb11 hV11 hW11
  have T11 := Lib.hid hT11
  have R11 := Lib.hid (rowIs_range0 hR11)
  have Q11 := Lib.hid hR11
  have HW11 := Lib.hid hW11
  have HV11 := Lib.hid hV11
  have HB11 := Lib.hid hb11
  have O11 := Lib.hid (show (arr 64 G).all (·.oneCell') = true from arr_one (n := 64) (fun j _ => HG1.out j))
  clear hT11 hR11 hW11 hV11 hb11
  have E11 := Lib.hid (E1.out.after hL11)
  clear hL11
  go_upto_region 4 with (first
      | ((with_reducible show wpList _ _ _ (⟨some 11, .alloc _, _, _, _, _⟩ :: _) _ _); refine wpList_alloc rfl 43 rfl zero64 ?_; rw [show (Value.agg (arr 64 z8)).cells = arr 64 z8 from rfl, ← HV11.out, ← HB11.out])
      | ((with_reducible show wpList _ _ _ (⟨none, .store _ (.tmp 11) (.tmp 49), _, _, _, _⟩ :: _) _ _); refine wpList_store_mid rfl 43 (.tmp 11) (.tmp 49) rfl b11 0 (arr 64 G) (by simp [Act.eval, Act.put]) (by simp [Act.eval, Act.put]) (by rw [arr_size]; exact T11.out) (by rw [arr64, arr_size]) O11.out ?_))
  rw [← HW11.out]
  go_upto_if 52 with fail
  go_cut [10, 13, 14] from 53 to 64 (fun v10 v13 v14 wc => v10 = .bool false ∧ LB w wc b5 b6 b7 f B d ao n S)
  case first =>
    rcases HCA.out with ⟨hv, rfl, rfl⟩ | ⟨hv, rfl, rfl⟩
    · have HDE := Lib.hid (show ∀ W, Calls Try.prog 30 #[.agg (arr 64 (bB (nbE f)))] W fun e w' => e = .returned (.tuple #[.agg (arr 9 (fcell f)), .int .i64 0]) ∧ Below W.heap.size W w' from fun W =>
        (decode_any (nbE f) W (nbE_bd HOK.out)).mono fun e w' h => by
          have h2 := h
          unfold AnyPost at h2
          rw [back_fab HOK.out hv] at h2
          exact ⟨h2.1.elim (fun h => h.2) (fun h => absurd ⟨hv, same_nbE f⟩ h.1), h2.2⟩)
      have hEQ0 := Lib.hid (equalF f)
      clear HCA hv
      go_wp2_with ((with_reducible show wpList _ _ _ (⟨some 54, .load _ _, _, _, _, _⟩ :: _) _ _); refine wpList_load_mid rfl 43 (.tmp 11) rfl b11 0 rfl (arr 64 (bB (nbE f))).toList _ R11.out Try.underlying43 rfl (by rw [arr64]; simp [arr]) ?_)
      refine (HDE.out _).mono ?_
      rintro e w2 ⟨rfl, hb⟩
      have E2 := Lib.hid (E11.out.after hb)
      clear hb
      obtain ⟨b13, hb13⟩ : ∃ x, x = w2.heap.size := ⟨_, rfl⟩
      obtain ⟨V13, hV13⟩ : ∃ x, x = w2.alloc (.cells (arr 9 (fcell F0)) 42) := ⟨_, rfl⟩
      obtain ⟨W13, hW13⟩ : ∃ x, x = V13.setCells b13 0 (arr 9 (fcell f)).toList := ⟨_, rfl⟩
      obtain ⟨hT13, hR13, hL13⟩ := fresh_row w2 V13 W13 b13 42 9 (fcell F0) (fcell f) hb13 hV13 hW13
      have T13 := Lib.hid hT13
      have R13 := Lib.hid (rowIs_range0 hR13)
      have Q13 := Lib.hid hR13
      have HW13 := Lib.hid hW13
      have HV13 := Lib.hid hV13
      have HB13 := Lib.hid hb13
      have O13 := Lib.hid (show (arr 9 (fcell f)).all (·.oneCell') = true from arr_one (n := 9) (fun j _ => fcell_one f j))
      clear hT13 hR13 hW13 hV13 hb13
      have E13 := Lib.hid (E2.out.after hL13)
      clear hL13
      have RF3 := Lib.hid (rowIs_range0 E13.out.fab)
      go_upto_region 6 with (first
          | ((with_reducible show wpList _ _ _ (⟨some 13, .alloc _, _, _, _, _⟩ :: _) _ _); refine wpList_alloc rfl 42 rfl zero42 ?_; rw [show F0.v.cells = arr 9 (fcell F0) from rfl, ← HV13.out, ← HB13.out])
          | ((with_reducible show wpList _ _ _ (⟨none, .store _ (.tmp 13) (.tmp 56), _, _, _, _⟩ :: _) _ _); refine wpList_store_mid rfl 42 (.tmp 13) (.tmp 56) rfl b13 0 (arr 9 (fcell f)) (by simp [Act.eval, Act.put]) (by simp [Act.eval, Act.put]) (by rw [arr_size]; exact T13.out) (by rw [size42, arr_size]) O13.out ?_))
      rw [← HW13.out]
      have hEQ := hEQ0.out
      go_wp2_with (first
          | ((with_reducible show wpList _ _ _ (⟨some 61, .load _ _, _, _, _, _⟩ :: _) _ _); refine wpList_load_midG rfl 42 (.tmp 13) rfl b13 0 rfl (arr 9 (fcell f)).toList _ R13.out Try.underlying42 rfl (by rw [size42]; simp [arr]) ?_)
          | ((with_reducible show wpList _ _ _ (⟨some 62, .load _ _, _, _, _, _⟩ :: _) _ _); refine wpList_load_midG rfl 42 (.tmp 5) rfl b5 0 rfl (arr 9 (fcell f)).toList _ RF3.out Try.underlying42 rfl (by rw [size42]; simp [arr]) ?_))
      go_meet
      exact ⟨rfl, E13.out⟩
    · go_wp2_with fail
      go_meet
      exact ⟨rfl, E11.out⟩
  case rest =>
    obtain ⟨rfl, hE⟩ := hcut
    have E0 := Lib.hid hE
    clear hE
    clear E E1 E11 HG1 HCA T11 R11 Q11 HW11 HV11 HB11 O11 RF
    have RA := Lib.hid (rowIs_range0 E0.out.ent)
    go_wp2_with ((with_reducible show wpList _ _ _ (⟨some 66, .load _ _, _, _, _, _⟩ :: _) _ _); refine wpList_load_mid rfl 43 (.tmp 6) rfl b6 0 rfl (arr 64 (bB B)).toList _ RA.out Try.underlying43 rfl (by rw [arr64]; simp [arr]) ?_)
    refine (HDN.out B _ HBB.out).mono ?_
    rintro e w3 ⟨⟨f2, k2, rfl, hcase⟩, hb⟩
    have E3 := Lib.hid (E0.out.after hb)
    have HCA := Lib.hid hcase
    clear hb hcase
    obtain ⟨b15, hb15⟩ : ∃ x, x = w3.heap.size := ⟨_, rfl⟩
    obtain ⟨V15, hV15⟩ : ∃ x, x = w3.alloc (.cells (arr 9 (fcell F0)) 42) := ⟨_, rfl⟩
    obtain ⟨W15, hW15⟩ : ∃ x, x = V15.setCells b15 0 (arr 9 (fcell f2)).toList := ⟨_, rfl⟩
    obtain ⟨hT15, hR15, hL15⟩ := fresh_row w3 V15 W15 b15 42 9 (fcell F0) (fcell f2) hb15 hV15 hW15
    have T15 := Lib.hid hT15
    have R15 := Lib.hid (rowIs_range0 hR15)
    have Q15 := Lib.hid hR15
    have HW15 := Lib.hid hW15
    have HV15 := Lib.hid hV15
    have HB15 := Lib.hid hb15
    have O15 := Lib.hid (show (arr 9 (fcell f2)).all (·.oneCell') = true from arr_one (n := 9) (fun j _ => fcell_one f2 j))
    clear hT15 hR15 hW15 hV15 hb15
    have E15 := Lib.hid (E3.out.after hL15)
    clear hL15
    go_upto_region 9 with (first
        | ((with_reducible show wpList _ _ _ (⟨some 15, .alloc _, _, _, _, _⟩ :: _) _ _); refine wpList_alloc rfl 42 rfl zero42 ?_; rw [show F0.v.cells = arr 9 (fcell F0) from rfl, ← HV15.out, ← HB15.out])
        | ((with_reducible show wpList _ _ _ (⟨none, .store _ (.tmp 15) (.tmp 68), _, _, _, _⟩ :: _) _ _); refine wpList_store_mid rfl 42 (.tmp 15) (.tmp 68) rfl b15 0 (arr 9 (fcell f2)) (by simp [Act.eval, Act.put]) (by simp [Act.eval, Act.put]) (by rw [arr_size]; exact T15.out) (by rw [size42, arr_size]) O15.out ?_))
    rw [← HW15.out]
    go_upto_if 71 with fail
    go_cut [10, 17, 18] from 72 to 83 (fun v10 v17 v18 wc => v10 = .bool false ∧ LB w wc b5 b6 b7 f B d ao n S)
    case first =>
      rcases HCA.out with ⟨hv, hs2, hok2, rfl⟩ | rfl
      · have HDE := Lib.hid (show ∀ W, Calls Try.prog 19 #[.agg (arr 9 (fcell f2))] W fun e w' => e = .returned (.tuple #[.agg (arr 64 (bB B)), .int .i64 0]) ∧ Below W.heap.size W w' from fun W =>
          (encode_any f2 W hok2 hv).mono fun e w' h => by
            have h2 := h
            rw [arr_congr hs2] at h2
            exact h2)
        have hEQ0 := Lib.hid fun W => equal64_same (F := bB B) (fun _ => rfl) W
        clear HCA hv hs2 hok2
        go_wp2_with ((with_reducible show wpList _ _ _ (⟨some 73, .load _ _, _, _, _, _⟩ :: _) _ _); refine wpList_load_mid rfl 42 (.tmp 15) rfl b15 0 rfl (arr 9 (fcell f2)).toList _ R15.out Try.underlying42 rfl (by rw [size42]; simp [arr]) ?_)
        refine (HDE.out _).mono ?_
        rintro e w4 ⟨rfl, hb⟩
        have E4 := Lib.hid (E15.out.after hb)
        clear hb
        obtain ⟨b17, hb17⟩ : ∃ x, x = w4.heap.size := ⟨_, rfl⟩
        obtain ⟨V17, hV17⟩ : ∃ x, x = w4.alloc (.cells (arr 64 z8) 43) := ⟨_, rfl⟩
        obtain ⟨W17, hW17⟩ : ∃ x, x = V17.setCells b17 0 (arr 64 (bB B)).toList := ⟨_, rfl⟩
        obtain ⟨hT17, hR17, hL17⟩ := fresh_row w4 V17 W17 b17 43 64 z8 (bB B) hb17 hV17 hW17
        have T17 := Lib.hid hT17
        have R17 := Lib.hid (rowIs_range0 hR17)
        have Q17 := Lib.hid hR17
        have HW17 := Lib.hid hW17
        have HV17 := Lib.hid hV17
        have HB17 := Lib.hid hb17
        have O17 := Lib.hid (show (arr 64 (bB B)).all (·.oneCell') = true from arr_one (n := 64) (fun j _ => rfl))
        clear hT17 hR17 hW17 hV17 hb17
        have E17 := Lib.hid (E4.out.after hL17)
        clear hL17
        have RA3 := Lib.hid (rowIs_range0 E17.out.ent)
        go_upto_region 11 with (first
            | ((with_reducible show wpList _ _ _ (⟨some 17, .alloc _, _, _, _, _⟩ :: _) _ _); refine wpList_alloc rfl 43 rfl zero64 ?_; rw [show (Value.agg (arr 64 z8)).cells = arr 64 z8 from rfl, ← HV17.out, ← HB17.out])
            | ((with_reducible show wpList _ _ _ (⟨none, .store _ (.tmp 17) (.tmp 75), _, _, _, _⟩ :: _) _ _); refine wpList_store_mid rfl 43 (.tmp 17) (.tmp 75) rfl b17 0 (arr 64 (bB B)) (by simp [Act.eval, Act.put]) (by simp [Act.eval, Act.put]) (by rw [arr_size]; exact T17.out) (by rw [arr64, arr_size]) O17.out ?_))
        rw [← HW17.out]
        have hEQ := hEQ0.out
        go_wp2_with (first
            | ((with_reducible show wpList _ _ _ (⟨some 80, .load _ _, _, _, _, _⟩ :: _) _ _); refine wpList_load_midG rfl 43 (.tmp 17) rfl b17 0 rfl (arr 64 (bB B)).toList _ R17.out Try.underlying43 rfl (by rw [arr64]; simp [arr]) ?_)
            | ((with_reducible show wpList _ _ _ (⟨some 81, .load _ _, _, _, _, _⟩ :: _) _ _); refine wpList_load_midG rfl 43 (.tmp 6) rfl b6 0 rfl (arr 64 (bB B)).toList _ RA3.out Try.underlying43 rfl (by rw [arr64]; simp [arr]) ?_))
        go_meet
        exact ⟨rfl, E17.out⟩
      · go_wp2_with fail
        go_meet
        exact ⟨rfl, E15.out⟩
    case rest =>
      obtain ⟨rfl, hE⟩ := hcut
      have E0 := Lib.hid hE
      clear hE
      clear E3 E15 HCA T15 R15 Q15 HW15 HV15 HB15 O15 RA
      have RD := Lib.hid (rowIs_range0 E0.out.dat)
      go_wp2_with ((with_reducible show wpList _ _ _ (⟨some 85, .load _ _, _, _, _, _⟩ :: _) _ _); refine wpList_load_mid rfl 69 (.tmp 7) rfl b7 0 rfl (arr 19 (dcell d)).toList _ RD.out Try.underlying69 rfl (by rw [size69]; simp [arr]) ?_)
      refine (HED.out d _ HDO.out).mono ?_
      rintro e w5 ⟨⟨u, k3, rfl, hcase⟩, hb⟩
      have E5 := Lib.hid (E0.out.after hb)
      have HCA := Lib.hid hcase
      clear hb hcase
      go_upto_if 90 with fail
      go_cut [10, 21, 22] from 91 to 107 (fun v10 v21 v22 wc => v10 = .bool false ∧ LB w wc b5 b6 b7 f B d ao n S)
      case first =>
        rcases HCA.out with ⟨hv, g, rfl, rfl, hrow⟩ | ⟨rfl, rfl⟩
        · have HDE := Lib.hid (show ∀ W, BytesAt W g 0 1024 (dB d) → Calls Try.prog 35 #[.slice (some ⟨g, 0, none⟩) 1024 1024] W fun e w' => e = .returned (.tuple #[.agg (arr 19 (dcell d)), .int .i64 0]) ∧ Below W.heap.size W w' from fun W h =>
            (decodeData_any g 0 1024 (dB d) W (dB_bd HDO.out) h (Nat.le_refl _) (by omega)).mono fun e w' h => by
              have h2 := h
              unfold DecD at h2
              obtain ⟨q1, -, q3⟩ := dDec_dB HDO.out hv
              rw [q1] at h2
              exact ⟨h2.1.elim (fun h => h.2) (fun h => absurd q3 h.1), h2.2⟩)
          have HG5 := Lib.hid (show BytesAt w5 g 0 1024 (dB d) from fun j hj => by rw [Nat.zero_add]; exact hrow.cell hj)
          have hEQ0 := Lib.hid (show ∀ W, (Op.equalIn 10000 69 (.agg (arr 19 (dcell d))) (.agg (arr 19 (dcell d)))).run Try.prog W = .ok true W from fun W => eq69 d W)
          clear HCA hv hrow
          go_wp2_with fail
          refine (HDE.out _ HG5.out).mono ?_
          rintro e w6 ⟨rfl, hb⟩
          have E6 := Lib.hid (E5.out.after hb)
          clear hb
          obtain ⟨b21, hb21⟩ : ∃ x, x = w6.heap.size := ⟨_, rfl⟩
          obtain ⟨V21, hV21⟩ : ∃ x, x = w6.alloc (.cells (arr 19 (dcell D0)) 69) := ⟨_, rfl⟩
          obtain ⟨W21, hW21⟩ : ∃ x, x = V21.setCells b21 0 (arr 19 (dcell d)).toList := ⟨_, rfl⟩
          obtain ⟨hT21, hR21, hL21⟩ := fresh_row w6 V21 W21 b21 69 19 (dcell D0) (dcell d) hb21 hV21 hW21
          have T21 := Lib.hid hT21
          have R21 := Lib.hid (rowIs_range0 hR21)
          have Q21 := Lib.hid hR21
          have HW21 := Lib.hid hW21
          have HV21 := Lib.hid hV21
          have HB21 := Lib.hid hb21
          have O21 := Lib.hid (show (arr 19 (dcell d)).all (·.oneCell') = true from arr_one (n := 19) (fun j _ => dcell_one d j))
          clear hT21 hR21 hW21 hV21 hb21
          have E21 := Lib.hid (E6.out.after hL21)
          clear hL21
          have RD3 := Lib.hid (rowIs_range0 E21.out.dat)
          go_upto_region 16 with (first
              | ((with_reducible show wpList _ _ _ (⟨some 21, .alloc _, _, _, _, _⟩ :: _) _ _); refine wpList_alloc rfl 69 rfl zero69 ?_; rw [show D0.v.cells = arr 19 (dcell D0) from rfl, ← HV21.out, ← HB21.out])
              | ((with_reducible show wpList _ _ _ (⟨none, .store _ (.tmp 21) (.tmp 94), _, _, _, _⟩ :: _) _ _); refine wpList_store_mid rfl 69 (.tmp 21) (.tmp 94) rfl b21 0 (arr 19 (dcell d)) (by simp [Act.eval, Act.put]) (by simp [Act.eval, Act.put]) (by rw [arr_size]; exact T21.out) (by rw [size69, arr_size]) O21.out ?_))
          rw [← HW21.out]
          have hEQ := hEQ0.out
          go_wp2_with (first
              | ((with_reducible show wpList _ _ _ (⟨some 99, .load _ _, _, _, _, _⟩ :: _) _ _); refine wpList_load_midG rfl 69 (.tmp 21) rfl b21 0 rfl (arr 19 (dcell d)).toList _ R21.out Try.underlying69 rfl (by rw [size69]; simp [arr]) ?_)
              | ((with_reducible show wpList _ _ _ (⟨some 100, .load _ _, _, _, _, _⟩ :: _) _ _); refine wpList_load_midG rfl 69 (.tmp 7) rfl b7 0 rfl (arr 19 (dcell d)).toList _ RD3.out Try.underlying69 rfl (by rw [size69]; simp [arr]) ?_))
          go_meet
          exact ⟨rfl, E21.out⟩
        · go_wp2_with fail
          go_meet
          exact ⟨rfl, E5.out⟩
      case rest =>
        obtain ⟨rfl, hE⟩ := hcut
        have E0 := Lib.hid hE
        clear hE
        clear E5 HCA RD
        obtain ⟨d3, k4, hok3, hk4, hDB, -⟩ := decode_both ao n c S HSS.out hn hc
        have HDB := Lib.hid hDB
        have HK4 := Lib.hid hk4
        have HO3 := Lib.hid hok3
        clear hDB hk4 hok3
        go_wp2_with fail
        refine (HDB.out _ E0.out.src).mono ?_
        rintro e w7 ⟨rfl, hb⟩
        have E7 := Lib.hid (E0.out.after hb)
        rw [show d3.v = .agg (arr 19 (dcell d3)) from rfl]
        clear hb
        obtain ⟨b23, hb23⟩ : ∃ x, x = w7.heap.size := ⟨_, rfl⟩
        obtain ⟨V23, hV23⟩ : ∃ x, x = w7.alloc (.cells (arr 19 (dcell D0)) 69) := ⟨_, rfl⟩
        obtain ⟨W23, hW23⟩ : ∃ x, x = V23.setCells b23 0 (arr 19 (dcell d3)).toList := ⟨_, rfl⟩
        obtain ⟨hT23, hR23, hL23⟩ := fresh_row w7 V23 W23 b23 69 19 (dcell D0) (dcell d3) hb23 hV23 hW23
        have T23 := Lib.hid hT23
        have R23 := Lib.hid (rowIs_range0 hR23)
        have Q23 := Lib.hid hR23
        have HW23 := Lib.hid hW23
        have HV23 := Lib.hid hV23
        have HB23 := Lib.hid hb23
        have O23 := Lib.hid (show (arr 19 (dcell d3)).all (·.oneCell') = true from arr_one (n := 19) (fun j _ => dcell_one d3 j))
        clear hT23 hR23 hW23 hV23 hb23
        have E23 := Lib.hid (E7.out.after hL23)
        clear hL23
        go_upto_region 19 with (first
            | ((with_reducible show wpList _ _ _ (⟨some 23, .alloc _, _, _, _, _⟩ :: _) _ _); refine wpList_alloc rfl 69 rfl zero69 ?_; rw [show D0.v.cells = arr 19 (dcell D0) from rfl, ← HV23.out, ← HB23.out])
            | ((with_reducible show wpList _ _ _ (⟨none, .store _ (.tmp 23) (.tmp 111), _, _, _, _⟩ :: _) _ _); refine wpList_store_mid rfl 69 (.tmp 23) (.tmp 111) rfl b23 0 (arr 19 (dcell d3)) (by simp [Act.eval, Act.put]) (by simp [Act.eval, Act.put]) (by rw [arr_size]; exact T23.out) (by rw [size69, arr_size]) O23.out ?_))
        rw [← HW23.out]
        go_upto_if 114 with fail
        go_cut [10, 25, 26] from 115 to 128 (fun v10 v25 v26 wc => v10 = .bool false ∧ LB w wc b5 b6 b7 f B d ao n S)
        case first =>
          by_cases hk : k4 = 0
          · obtain ⟨hn3, hacc, hd3⟩ := HK4.out hk
            have HDE := Lib.hid fun W => encodeData_ok d3 W HO3.out (by rw [hd3]; exact hacc.1)
            have hds : strOf 1024 (dB d3) = strOf 1024 S := strOf_congr (by rw [hd3]; exact hacc.2)
            obtain ⟨sg, so, hao, -⟩ := E23.out.src hn3
            obtain ⟨X, hX⟩ : ∃ X, X = strOf 1024 S := ⟨_, rfl⟩
            rw [← hX] at hds
            have HX := Lib.hid hX
            have HDS := Lib.hid hds
            have hq : (X.toList == X.toList) = true := by rw [← beq_toListBytes]; exact baeq_self _
            unfold Dat.v at HDE
            have HN3 := Lib.hid hn3
            have HAO := Lib.hid hao
            clear hacc hd3 hds hX HK4 hn3 hao
            subst hk
            go_wp2_with ((with_reducible show wpList _ _ _ (⟨some 116, .load _ _, _, _, _, _⟩ :: _) _ _); refine wpList_load_mid rfl 69 (.tmp 23) rfl b23 0 rfl (arr 19 (dcell d3)).toList _ R23.out Try.underlying69 rfl (by rw [size69]; simp [arr]) ?_)
            refine (HDE.out _).mono ?_
            rintro e w8 ⟨g, rfl, hg, hb, hrow⟩
            have E8 := Lib.hid (E23.out.after hb)
            have hcv : (convert 70 9 (.slice (some ⟨g, 0, none⟩) 1024 1024)).run Try.prog w8 = .ok (.string X) w8 := by
              rw [← HDS.out]; exact (show BytesAt w8 g 0 1024 (dB d3) from fun j hj => by rw [Nat.zero_add]; exact hrow.cell hj).conv 1024
            have hcv2 : (convert 70 9 (.slice ao n c)).run Try.prog w8 = .ok (.string X) w8 := by
              obtain ⟨sg', so', e2, hs3⟩ := E8.out.src HN3.out
              rw [HX.out, e2, HN3.out]
              exact hs3.conv c
            clear hb hrow hg
            go_wp2_with fail
            go_meet
            exact ⟨rfl, E8.out⟩
          · have hk' : (k4 == 0) = false := by simpa using hk
            clear hk
            go_wp2_with fail
            go_meet
            exact ⟨rfl, E23.out⟩
        case rest =>
          obtain ⟨rfl, hE⟩ := hcut
          have E0 := Lib.hid hE
          clear hE
          clear E7 E23 T23 R23 Q23 HW23 HV23 HB23 O23 HDB HK4
          by_cases hbad : 262144 ≤ v ∨ v / 65536 % 2 = 1
          · have HR := Lib.hid fun W => decres_bad v W hv0 hv1 hbad
            clear hbad
            go_wp2_with fail
            refine (HR.out _).mono ?_
            rintro e w' ⟨rfl, rfl⟩
            go_wp2_with fail
            refine (known_any _).mono ?_
            rintro e w9 ⟨rfl, hb⟩
            go_wp2_with fail
            go_ret
            exact ⟨rfl, E0.out.below.trans (hb.mono E0.out.below.size)⟩
          · have HR := Lib.hid fun W => decres_ok v W hv0 hv1 (by omega) (by omega)
            have HR2 := Lib.hid fun W => encres_is (v % 65536) v (decide (131072 ≤ v)) W (by omega) (by omega) (by
              by_cases h : 131072 ≤ v
              · simp [h]; omega
              · simp [h]; omega)
            generalize v % 65536 = c1 at HR HR2
            generalize decide (131072 ≤ v) = a1 at HR HR2
            clear hbad
            go_wp2_with fail
            refine (HR.out _).mono ?_
            rintro e w' ⟨rfl, rfl⟩
            go_wp2_with fail
            refine (HR2.out _).mono ?_
            rintro e w' ⟨rfl, rfl⟩
            go_wp2_with fail
            refine (known_any _).mono ?_
            rintro e w9 ⟨rfl, hb⟩
            go_wp2_with fail
            go_ret
            exact ⟨rfl, E0.out.below.trans (hb.mono E0.out.below.size)⟩
end Go.Proofs.Ytchkipafjnehfaa
