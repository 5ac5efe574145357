/- queue: the law QueueNil. -/
import Derived.Test.YtpoeepdpoblfcaaNil
import Derived.Test.YtpoeepdpoblfcaaSeq
import Derived.Test.YtpoeepdpoblfcaaTypes
namespace Go.Proofs.Ytpoeepdpoblfcaa
open Go.ChangeShapes Go.WideShapes Go.ChangeAt Go.RowKit Go.Deep
attribute [local go_sem ↓] Go.wp_at_zero Go.wp_at_succ

section
variable {P : Program} {ops : Array Oper} {Q : Exit → Act → World → Prop} {a : Act} {w : World} {rest : List Oper} {o : Oper}
/-- The zero value of a struct or an array, under a guard that holds. -/
theorem wpList_build0G (hw : Region.wanted o (yielded ops a.tmps) = true) (t : Nat) (ho : o.op = .build t #[])
    {v : Value} (hb : (Instr.build t #[]).run P w = .ok v w) (h : wpList P ops Q rest (a.put o.dst v) w) : wpList P ops Q (o :: rest) a w :=
  wpList_step fun K hK => by
    rw [if_pos hw]
    unfold Oper.wp execOp
    simp only [ho, List.map_toArray, List.map_nil]
    simp only [Sem.run_bind, hb, Result.andThen_ok, Sem.run_pure]
    exact hK _ _ h
end

/-- The act that came in lies in block ab; since w nothing old has changed. -/
structure NJ (w W : World) (ab : Nat) (x : ActV) : Prop where
  a : ActIn W ab 0 x
  b : Below w.heap.size w W
theorem NJ.below {w W W' : World} {ab : Nat} {x : ActV} (h : NJ w W ab x) (k : Below W.heap.size W W') : NJ w W' ab x := ⟨h.a.below k, h.b.trans (k.mono h.b.size)⟩
/-- A slice of two ends: a nil one and a zero one. -/
structure Pair (W : World) (sl : Nat) : Prop where
  ex : ∀ k, k < 2 → ∃ v, W.cell? ⟨sl, k, none⟩ = some v ∧ ZQ W v
  lt : sl < W.heap.size
theorem Pair.below {W W' : World} {sl : Nat} (h : Pair W sl) (k : Below W.heap.size W W') : Pair W' sl :=
  ⟨fun i hi => by obtain ⟨v, hc, hz⟩ := h.ex i hi; exact ⟨v, (k.cell (p := ⟨sl, i, none⟩) h.lt).trans hc, hz.below k⟩, Nat.lt_of_lt_of_le h.lt k.size⟩

set_option maxRecDepth 100000 in
set_option maxHeartbeats 16000000 in
theorem n_any (V : Nat → Value) (w : World) (hk : Kinds lsAct V) :
    Calls Try.prog 10 #[.agg (arr lsAct.length V)] w fun e w' => e = .returned (.bool true) ∧ Below w.heap.size w w' := by
  obtain ⟨x, hx⟩ : ∃ z, z = actOf V := ⟨_, rfl⟩
  have hr := rowIs_arr w 46 lsAct.length V
  obtain ⟨h1, h2⟩ := act_in (W := w.alloc (.cells (arr lsAct.length V) 46)) (g := w.heap.size) (o := 0) (V := V) (fun j hj => by rw [Nat.zero_add]; exact hr.cell (by rw [show lsAct.length = 44 from rfl]; exact hj)) hk
  rw [← hx] at h1 h2
  have HA := Lib.hid h1
  have HOK := Lib.hid h2
  obtain ⟨A, hA⟩ : ∃ z, z = arr lsAct.length V := ⟨_, rfl⟩
  rw [← hA] at HA ⊢
  have hE1 := fun w => z8_bytes.eq64 w
  have hE2 := fun w => z16_bytes.eq16 w
  obtain ⟨CA, hCA⟩ : ∃ z, z = zCpl.cells := ⟨_, rfl⟩
  have hE3 : ∀ w, (Op.equalIn 10000 43 (.agg CA) (.agg CA)).run Try.prog w = .ok true w := fun w => by rw [hCA]; exact eqCpl zCpl w
  have hE4 : ∀ w, (binOp .neq 43 (.agg CA) (.agg CA)).run Try.prog w = .ok (.bool false) w := fun w => by rw [hCA]; exact neqCpl zCpl w
  have HBC := Lib.hid (show ∀ w, (Instr.build 43 #[]).run Try.prog w = .ok (.agg CA) w from fun w => by rw [hCA]; exact buildCpl' w)
  have HC1 := Lib.hid (show CA.all (·.oneCell') = true by rw [hCA]; exact Cpl.cells_one _)
  have HCS := Lib.hid (show CA.size = 10 by rw [hCA]; rfl)
  have HPL := Lib.hid (show ∀ (v : Value) (bs : Array Value) (w : World) (h : ZQ w v) (hbs : bs.size = 16), Calls Try.prog 24 #[v, .agg bs] w fun e w' => e = .returned (.tuple #[.agg CA, .bool false, .int .i64 1]) ∧ Below w.heap.size w w' from fun v bs w h hbs => by rw [hCA]; exact lPoll_zq v bs w h hbs)
  have HSC := Lib.hid (show (Try.prog.info? 43).map (·.size) = some CA.size by rw [hCA]; exact size10)
  clear hCA
  clear h1 h2 hx hr hk hA
  go_enter Try.func10, Try.ntmps10

  go_wp2_with fail
  obtain ⟨W0, hW0⟩ : ∃ z, z = w.alloc (.cells A 46) := ⟨_, rfl⟩
  rw [← hW0]
  rw [← hW0] at HA
  have hs0 : w.heap.size + 1 = W0.heap.size := by rw [hW0]; simp
  try rw [hs0]
  have J0 := Lib.hid (show NJ w W0 w.heap.size x from ⟨HA.out, by rw [hW0]; exact (Below.refl _ _).alloc (Nat.le_refl _) _⟩)
  obtain ⟨ab, hab⟩ : ∃ z, z = w.heap.size := ⟨_, rfl⟩
  rw [← hab] at J0 ⊢
  clear HA hW0 hs0 hab
  obtain ⟨X0, hX⟩ : ∃ z, z = (W0.alloc (.cells #[.int .i64 0, .int .i64 0, .int .i64 0] 91)).alloc (.cells #[.pointer none, .pointer (some ⟨W0.heap.size, 0, none⟩)] 65) := ⟨_, rfl⟩
  rw [← hX]
  have hXb : Below W0.heap.size W0 X0 := by rw [hX]; exact ((Below.refl _ _).alloc (Nat.le_refl _) _).alloc (by simp) _
  have P0 := Lib.hid (show Pair X0 (W0.heap.size + 1) from ⟨fun k hk => by
      obtain rfl | rfl : k = 0 ∨ k = 1 := by omega
      · exact ⟨.pointer none, by rw [hX]; go_simp, .inl rfl⟩
      · exact ⟨.pointer (some ⟨W0.heap.size, 0, none⟩), by rw [hX]; go_simp, .inr ⟨_, rfl, by rw [hX]; go_simp, by rw [hX]; go_simp, by rw [hX]; go_simp⟩⟩, by rw [hX]; simp⟩)
  have K0 := Lib.hid (J0.out.below hXb)
  obtain ⟨sl0, hsl⟩ : ∃ z, z = W0.heap.size + 1 := ⟨_, rfl⟩
  rw [← hsl] at P0 ⊢
  clear hX hXb hsl J0
  go_loopw [31] (fun i wr => ∃ k : Nat, k ≤ 2 ∧ i = .int .i64 k ∧ NJ w wr ab x ∧ Pair wr sl0) (fun i _ => 2 - (intOf i).toNat)
  case atStart => exact ⟨0, by omega, rfl, K0.out, P0.out⟩
  case round =>
    obtain ⟨k, hk, rfl, hJ, hP⟩ := hrel
    clear P0 K0
    have J := Lib.hid hJ
    have PP := Lib.hid hP
    clear hJ hP
    by_cases hlt : k < 2
    · have m1 : (k : Int) < 2 := by omega
      obtain ⟨v, hc, hz⟩ := PP.out.ex k hlt
      have Z0 := Lib.hid hz
      clear hz
      have HC0 := Lib.hid (sPush_zq v x.c.cells wr Z0.out rfl)
      go_upto_region 9 with (first
        | ((with_reducible show wpList _ _ _ (⟨some 38, _, _, _, _, _⟩ :: _) _ _); refine wpList_loadR (A := x.c.cells) rfl J.out.a.c 38 (.tmp 37) rfl (by first | rfl | simp [Act.eval, Act.put]) Try.underlying38 rfl size_cmd ?_)
        | (go_at_call 30; refine HC0.out.mono ?_; rintro e w5 ⟨rfl, hb⟩; have J1 := Lib.hid (J.out.below hb); have P1 := Lib.hid (PP.out.below hb); have Z1 := Lib.hid (Z0.out.below hb); clear hb)
        | ((with_reducible show wpList _ _ _ (⟨some 10, _, _, _, _, _⟩ :: _) _ _); refine wpList_alloc rfl 69 rfl zero64 ?_; rw [show (Value.agg (arr 64 z8)).cells = (arr 64 z8) from rfl])
        | ((with_reducible show wpList _ _ _ (⟨none, .store _ (.tmp 10) _, _, _, _, _⟩ :: _) _ _); refine wpList_storeA rfl (b := w5.heap.size) (A := (arr 64 z8)) (A' := (arr 64 z8)) (fr64 w5) 69 (.tmp 10) (.tmp 41) rfl (by first | rfl | simp [Act.eval]) (by first | rfl | simp [Act.eval]) sz64 rfl z8_bytes.one ?_))
      obtain ⟨w6, hw⟩ : ∃ z, z = (w5.alloc (.cells (arr 64 z8) 69)).setCells w5.heap.size 0 (arr 64 z8).toList := ⟨_, rfl⟩
      rw [← hw]
      have hb : Below w5.heap.size w5 w6 := by rw [hw]; exact set64 _ _
      have J2 := Lib.hid (J1.out.below hb)
      have P2 := Lib.hid (P1.out.below hb)
      have Z2 := Lib.hid (Z1.out.below hb)
      have R2 := Lib.hid (show ArrAt w6 w5.heap.size (arr 64 z8) by rw [hw]; exact (fr64 w5).store (arr 64 z8) rfl)
      obtain ⟨rb, hrb⟩ : ∃ z, z = w5.heap.size := ⟨_, rfl⟩
      rw [← hrb] at R2 ⊢
      clear hw hb hrb J J1 PP P1 Z0 Z1 hc HC0
      have hn := J2.out.a.n
      rw [Nat.zero_add] at hn
      have HC := Lib.hid (sHead_zq v x.n w6 Z2.out)
      go_wp2_with (first
        | ((with_reducible show wpList _ _ _ (⟨some 46, _, _, _, _, _⟩ :: _) _ _); refine wpList_loadGA (by rfl) R2.out 69 (.tmp 10) rfl (by first | rfl | simp [Act.eval, Act.put]) Try.underlying69 rfl sz64 ?_)
        | ((with_reducible show wpList _ _ _ (⟨some 47, _, _, _, _, _⟩ :: _) _ _); refine wpList_build0G (by rfl) 69 rfl (build64 _) ?_))
      refine HC.out.mono ?_
      rintro e w7 ⟨rfl, hb⟩
      have J3 := Lib.hid (J2.out.below hb)
      have P3 := Lib.hid (P2.out.below hb)
      have Z3 := Lib.hid (Z2.out.below hb)
      clear hb HC J2 P2 Z2 hn
      have HC := Lib.hid (sTail_zq v w7 Z3.out)
      go_wp2_with fail
      refine HC.out.mono ?_
      rintro e w8 ⟨rfl, hb⟩
      have J4 := Lib.hid (J3.out.below hb)
      have P4 := Lib.hid (P3.out.below hb)
      have Z4 := Lib.hid (Z3.out.below hb)
      clear hb HC J3 P3 Z3
      have HC := Lib.hid (sFree_zq v w8 Z4.out)
      go_wp2_with fail
      refine HC.out.mono ?_
      rintro e w9 ⟨rfl, hb⟩
      have J5 := Lib.hid (J4.out.below hb)
      have P5 := Lib.hid (P4.out.below hb)
      have Z5 := Lib.hid (Z4.out.below hb)
      clear hb HC J4 P4 Z4
      have HC := Lib.hid (sSize_zq v w9 Z5.out)
      go_wp2_with fail
      refine HC.out.mono ?_
      rintro e w10 ⟨rfl, hb⟩
      have J6 := Lib.hid (J5.out.below hb)
      have P6 := Lib.hid (P5.out.below hb)
      have Z6 := Lib.hid (Z5.out.below hb)
      clear hb HC J5 P5 Z5
      have HC := Lib.hid (sCopy_zq v w10 Z6.out)
      go_wp2_with fail
      refine HC.out.mono ?_
      rintro e w11 ⟨rfl, hb⟩
      have J7 := Lib.hid (J6.out.below hb)
      have P7 := Lib.hid (P6.out.below hb)
      have Z7 := Lib.hid (Z6.out.below hb)
      clear hb HC J6 P6 Z6
      go_wp2_with fail
      go_roundw
      case rel => first | exact ⟨k + 1, by omega, by go_num, J7.out, P7.out⟩ | ((repeat apply Exists.intro); exact ⟨⟨k + 1, by omega, by go_num, J7.out, P7.out⟩, rfl⟩)
      case measure => simp [intOf]; omega
    · obtain rfl : k = 2 := by omega
      obtain ⟨W1, hWn⟩ : ∃ z, z = wr := ⟨_, rfl⟩
      rw [← hWn] at J ⊢
      have J1 := Lib.hid J.out
      clear hWn J PP
      go_wp2_with fail
      obtain ⟨X1, hX⟩ : ∃ z, z = (W1.alloc (.cells #[.int .i64 0, .int .i64 0, .int .i64 0] 93)).alloc (.cells #[.pointer none, .pointer (some ⟨W1.heap.size, 0, none⟩)] 23) := ⟨_, rfl⟩
      rw [← hX]
      have hXb : Below W1.heap.size W1 X1 := by rw [hX]; exact ((Below.refl _ _).alloc (Nat.le_refl _) _).alloc (by simp) _
      have P1 := Lib.hid (show Pair X1 (W1.heap.size + 1) from ⟨fun k hk => by
          obtain rfl | rfl : k = 0 ∨ k = 1 := by omega
          · exact ⟨.pointer none, by rw [hX]; go_simp, .inl rfl⟩
          · exact ⟨.pointer (some ⟨W1.heap.size, 0, none⟩), by rw [hX]; go_simp, .inr ⟨_, rfl, by rw [hX]; go_simp, by rw [hX]; go_simp, by rw [hX]; go_simp⟩⟩, by rw [hX]; simp⟩)
      have K1 := Lib.hid (J1.out.below hXb)
      obtain ⟨sl1, hsl⟩ : ∃ z, z = W1.heap.size + 1 := ⟨_, rfl⟩
      rw [← hsl] at P1 ⊢
      clear hX hXb hsl J1
      go_loopw [87] (fun i wr => ∃ k : Nat, k ≤ 2 ∧ i = .int .i64 k ∧ NJ w wr ab x ∧ Pair wr sl1) (fun i _ => 2 - (intOf i).toNat)
      case atStart => exact ⟨0, by omega, rfl, K1.out, P1.out⟩
      case round =>
        obtain ⟨k, hk, rfl, hJ, hP⟩ := hrel
        clear P1 K1
        have J := Lib.hid hJ
        have PP := Lib.hid hP
        clear hJ hP
        by_cases hlt : k < 2
        · have m1 : (k : Int) < 2 := by omega
          obtain ⟨v, hc, hz⟩ := PP.out.ex k hlt
          have Z0 := Lib.hid hz
          clear hz
          have HC0 := Lib.hid (fNext_zq v wr Z0.out)
          go_upto_region 16 with (go_at_call 15; refine HC0.out.mono ?_; rintro e w6 ⟨rfl, hb⟩; have J2 := Lib.hid (J.out.below hb); have P2 := Lib.hid (PP.out.below hb); have Z2 := Lib.hid (Z0.out.below hb); clear hb)
          clear J PP Z0 hc HC0
          have hn := J2.out.a.n
          rw [Nat.zero_add] at hn
          have HC := Lib.hid (fRing_zq v x.n w6 Z2.out)
          go_wp2_with fail
          refine HC.out.mono ?_
          rintro e w7 ⟨rfl, hb⟩
          have J3 := Lib.hid (J2.out.below hb)
          have P3 := Lib.hid (P2.out.below hb)
          have Z3 := Lib.hid (Z2.out.below hb)
          clear hb HC J2 P2 Z2 hn
          have HC := Lib.hid (fHead_zq v w7 Z3.out)
          go_wp2_with fail
          refine HC.out.mono ?_
          rintro e w8 ⟨rfl, hb⟩
          have J4 := Lib.hid (J3.out.below hb)
          have P4 := Lib.hid (P3.out.below hb)
          have Z4 := Lib.hid (Z3.out.below hb)
          clear hb HC J3 P3 Z3
          have HC := Lib.hid (fWaiting_zq v w8 Z4.out)
          go_wp2_with fail
          refine HC.out.mono ?_
          rintro e w9 ⟨rfl, hb⟩
          have J5 := Lib.hid (J4.out.below hb)
          have P5 := Lib.hid (P4.out.below hb)
          have Z5 := Lib.hid (Z4.out.below hb)
          clear hb HC J4 P4 Z4
          have HC := Lib.hid (fSize_zq v w9 Z5.out)
          go_wp2_with fail
          refine HC.out.mono ?_
          rintro e w10 ⟨rfl, hb⟩
          have J6 := Lib.hid (J5.out.below hb)
          have P6 := Lib.hid (P5.out.below hb)
          have Z6 := Lib.hid (Z5.out.below hb)
          clear hb HC J5 P5 Z5
          have HC := Lib.hid (fCopy_zq v w10 Z6.out)
          go_wp2_with fail
          refine HC.out.mono ?_
          rintro e w11 ⟨rfl, hb⟩
          have J7 := Lib.hid (J6.out.below hb)
          have P7 := Lib.hid (P6.out.below hb)
          have Z7 := Lib.hid (Z6.out.below hb)
          clear hb HC J6 P6 Z6
          go_wp2_with fail
          go_roundw
          case rel => first | exact ⟨k + 1, by omega, by go_num, J7.out, P7.out⟩ | ((repeat apply Exists.intro); exact ⟨⟨k + 1, by omega, by go_num, J7.out, P7.out⟩, rfl⟩)
          case measure => simp [intOf]; omega
        · obtain rfl : k = 2 := by omega
          obtain ⟨W2, hWn⟩ : ∃ z, z = wr := ⟨_, rfl⟩
          rw [← hWn] at J ⊢
          have J2 := Lib.hid J.out
          clear hWn J PP
          go_wp2_with fail
          obtain ⟨X2, hX⟩ : ∃ z, z = (W2.alloc (.cells #[.int .i64 0, .int .i64 0, .int .i64 0, .bool false] 96)).alloc (.cells #[.pointer none, .pointer (some ⟨W2.heap.size, 0, none⟩)] 75) := ⟨_, rfl⟩
          rw [← hX]
          have hXb : Below W2.heap.size W2 X2 := by rw [hX]; exact ((Below.refl _ _).alloc (Nat.le_refl _) _).alloc (by simp) _
          have P2 := Lib.hid (show Pair X2 (W2.heap.size + 1) from ⟨fun k hk => by
              obtain rfl | rfl : k = 0 ∨ k = 1 := by omega
              · exact ⟨.pointer none, by rw [hX]; go_simp, .inl rfl⟩
              · exact ⟨.pointer (some ⟨W2.heap.size, 0, none⟩), by rw [hX]; go_simp, .inr ⟨_, rfl, by rw [hX]; go_simp, by rw [hX]; go_simp, by rw [hX]; go_simp⟩⟩, by rw [hX]; simp⟩)
          have K2 := Lib.hid (J2.out.below hXb)
          obtain ⟨sl2, hsl⟩ : ∃ z, z = W2.heap.size + 1 := ⟨_, rfl⟩
          rw [← hsl] at P2 ⊢
          clear hX hXb hsl J2
          go_loopw [135] (fun i wr => ∃ k : Nat, k ≤ 2 ∧ i = .int .i64 k ∧ NJ w wr ab x ∧ Pair wr sl2) (fun i _ => 2 - (intOf i).toNat)
          case atStart => exact ⟨0, by omega, rfl, K2.out, P2.out⟩
          case round =>
            obtain ⟨k, hk, rfl, hJ, hP⟩ := hrel
            clear P2 K2
            have J := Lib.hid hJ
            have PP := Lib.hid hP
            clear hJ hP
            by_cases hlt : k < 2
            · have m1 : (k : Int) < 2 := by omega
              obtain ⟨v, hc, hz⟩ := PP.out.ex k hlt
              have Z0 := Lib.hid hz
              clear hz
              have HC0 := Lib.hid (pPost_zq v x.p.cells wr Z0.out rfl)
              go_upto_region 23 with (first
                | ((with_reducible show wpList _ _ _ (⟨some 142, _, _, _, _, _⟩ :: _) _ _); refine wpList_loadR (A := x.p.cells) rfl J.out.a.p 43 (.tmp 141) rfl (by first | rfl | simp [Act.eval, Act.put]) Try.underlying43 rfl size10 ?_)
                | (go_at_call 38; refine HC0.out.mono ?_; rintro e w5 ⟨rfl, hb⟩; have J1 := Lib.hid (J.out.below hb); have P1 := Lib.hid (PP.out.below hb); have Z1 := Lib.hid (Z0.out.below hb); clear hb)
                | ((with_reducible show wpList _ _ _ (⟨some 19, _, _, _, _, _⟩ :: _) _ _); refine wpList_alloc rfl 44 rfl zero16 ?_; rw [show (Value.agg (arr 16 z16)).cells = (arr 16 z16) from rfl])
                | ((with_reducible show wpList _ _ _ (⟨none, .store _ (.tmp 19) _, _, _, _, _⟩ :: _) _ _); refine wpList_storeA rfl (b := w5.heap.size) (A := (arr 16 z16)) (A' := (arr 16 z16)) (fr16 w5) 44 (.tmp 19) (.tmp 145) rfl (by first | rfl | simp [Act.eval]) (by first | rfl | simp [Act.eval]) sz16 rfl z16_bytes.one ?_))
              obtain ⟨w6, hw⟩ : ∃ z, z = (w5.alloc (.cells (arr 16 z16) 44)).setCells w5.heap.size 0 (arr 16 z16).toList := ⟨_, rfl⟩
              rw [← hw]
              have hb : Below w5.heap.size w5 w6 := by rw [hw]; exact set16 _ _
              have J2 := Lib.hid (J1.out.below hb)
              have P2 := Lib.hid (P1.out.below hb)
              have Z2 := Lib.hid (Z1.out.below hb)
              have R2 := Lib.hid (show ArrAt w6 w5.heap.size (arr 16 z16) by rw [hw]; exact (fr16 w5).store (arr 16 z16) rfl)
              obtain ⟨rb, hrb⟩ : ∃ z, z = w5.heap.size := ⟨_, rfl⟩
              rw [← hrb] at R2 ⊢
              clear hw hb hrb J J1 PP P1 Z0 Z1 hc HC0
              have hn := J2.out.a.n
              rw [Nat.zero_add] at hn
              have HC := Lib.hid (pRing_zq v x.n w6 Z2.out)
              go_wp2_with (first
                | ((with_reducible show wpList _ _ _ (⟨some 150, _, _, _, _, _⟩ :: _) _ _); refine wpList_loadGA (by rfl) R2.out 44 (.tmp 19) rfl (by first | rfl | simp [Act.eval, Act.put]) Try.underlying44 rfl sz16 ?_)
                | ((with_reducible show wpList _ _ _ (⟨some 151, _, _, _, _, _⟩ :: _) _ _); refine wpList_build0G (by rfl) 44 rfl (build16 _) ?_))
              refine HC.out.mono ?_
              rintro e w7 ⟨rfl, hb⟩
              have J3 := Lib.hid (J2.out.below hb)
              have P3 := Lib.hid (P2.out.below hb)
              have Z3 := Lib.hid (Z2.out.below hb)
              clear hb HC J2 P2 Z2 hn
              have HC := Lib.hid (pFree_zq v w7 Z3.out)
              go_wp2_with fail
              refine HC.out.mono ?_
              rintro e w8 ⟨rfl, hb⟩
              have J4 := Lib.hid (J3.out.below hb)
              have P4 := Lib.hid (P3.out.below hb)
              have Z4 := Lib.hid (Z3.out.below hb)
              clear hb HC J3 P3 Z3
              have HC := Lib.hid (pSize_zq v w8 Z4.out)
              go_wp2_with fail
              refine HC.out.mono ?_
              rintro e w9 ⟨rfl, hb⟩
              have J5 := Lib.hid (J4.out.below hb)
              have P5 := Lib.hid (P4.out.below hb)
              have Z5 := Lib.hid (Z4.out.below hb)
              clear hb HC J4 P4 Z4
              have HC := Lib.hid (pCopy_zq v w9 Z5.out)
              go_wp2_with fail
              refine HC.out.mono ?_
              rintro e w10 ⟨rfl, hb⟩
              have J6 := Lib.hid (J5.out.below hb)
              have P6 := Lib.hid (P5.out.below hb)
              have Z6 := Lib.hid (Z5.out.below hb)
              clear hb HC J5 P5 Z5
              go_wp2_with fail
              go_roundw
              case rel => first | exact ⟨k + 1, by omega, by go_num, J6.out, P6.out⟩ | ((repeat apply Exists.intro); exact ⟨⟨k + 1, by omega, by go_num, J6.out, P6.out⟩, rfl⟩)
              case measure => simp [intOf]; omega
            · obtain rfl : k = 2 := by omega
              obtain ⟨W3, hWn⟩ : ∃ z, z = wr := ⟨_, rfl⟩
              rw [← hWn] at J ⊢
              have J3 := Lib.hid J.out
              clear hWn J PP
              go_wp2_with fail
              obtain ⟨X3, hX⟩ : ∃ z, z = (W3.alloc (.cells #[.int .i64 0, .int .i64 0, .int .i64 0, .bool false] 98)).alloc (.cells #[.pointer none, .pointer (some ⟨W3.heap.size, 0, none⟩)] 57) := ⟨_, rfl⟩
              rw [← hX]
              have hXb : Below W3.heap.size W3 X3 := by rw [hX]; exact ((Below.refl _ _).alloc (Nat.le_refl _) _).alloc (by simp) _
              have P3 := Lib.hid (show Pair X3 (W3.heap.size + 1) from ⟨fun k hk => by
                  obtain rfl | rfl : k = 0 ∨ k = 1 := by omega
                  · exact ⟨.pointer none, by rw [hX]; go_simp, .inl rfl⟩
                  · exact ⟨.pointer (some ⟨W3.heap.size, 0, none⟩), by rw [hX]; go_simp, .inr ⟨_, rfl, by rw [hX]; go_simp, by rw [hX]; go_simp, by rw [hX]; go_simp⟩⟩, by rw [hX]; simp⟩)
              have K3 := Lib.hid (J3.out.below hXb)
              obtain ⟨sl3, hsl⟩ : ∃ z, z = W3.heap.size + 1 := ⟨_, rfl⟩
              rw [← hsl] at P3 ⊢
              clear hX hXb hsl J3
              go_loopw [186] (fun i wr => ∃ k : Nat, k ≤ 2 ∧ i = .int .i64 k ∧ NJ w wr ab x ∧ Pair wr sl3) (fun i _ => 2 - (intOf i).toNat)
              case atStart => exact ⟨0, by omega, rfl, K3.out, P3.out⟩
              case round =>
                obtain ⟨k, hk, rfl, hJ, hP⟩ := hrel
                clear P3 K3
                have J := Lib.hid hJ
                have PP := Lib.hid hP
                clear hJ hP
                by_cases hlt : k < 2
                · have m1 : (k : Int) < 2 := by omega
                  obtain ⟨v, hc, hz⟩ := PP.out.ex k hlt
                  have Z0 := Lib.hid hz
                  clear hz
                  have HC0 := Lib.hid (HPL.out v (arr 16 fun j => .int .u8 (x.b j)) wr Z0.out (arr_size _ _))
                  go_upto_region 30 with (first
                    | ((with_reducible show wpList _ _ _ (⟨some 193, _, _, _, _, _⟩ :: _) _ _); refine wpList_loadR (A := (arr 16 fun j => .int .u8 (x.b j))) rfl J.out.a.b 44 (.tmp 192) rfl (by first | rfl | simp [Act.eval, Act.put]) Try.underlying44 rfl (by rw [arr_size]; exact size16) ?_)
                    | (go_at_call 24; refine HC0.out.mono ?_; rintro e w5 ⟨rfl, hb⟩; have J1 := Lib.hid (J.out.below hb); have P1 := Lib.hid (PP.out.below hb); have Z1 := Lib.hid (Z0.out.below hb); clear hb)
                    | ((with_reducible show wpList _ _ _ (⟨some 23, _, _, _, _, _⟩ :: _) _ _); refine wpList_alloc rfl 43 rfl zeroCpl ?_; rw [show (Value.agg (cArr 0 0)).cells = (cArr 0 0) from rfl])
                    | ((with_reducible show wpList _ _ _ (⟨none, .store _ (.tmp 23) _, _, _, _, _⟩ :: _) _ _); refine wpList_storeA rfl (b := w5.heap.size) (A := (cArr 0 0)) (A' := CA) (frC w5) 43 (.tmp 23) (.tmp 195) rfl (by first | rfl | simp [Act.eval]) (by first | rfl | simp [Act.eval]) size10 (by rw [HCS.out]; rfl) HC1.out ?_))
                  obtain ⟨w6, hw⟩ : ∃ z, z = (w5.alloc (.cells (cArr 0 0) 43)).setCells w5.heap.size 0 CA.toList := ⟨_, rfl⟩
                  rw [← hw]
                  have hb : Below w5.heap.size w5 w6 := by rw [hw]; exact setC _ _
                  have J2 := Lib.hid (J1.out.below hb)
                  have P2 := Lib.hid (P1.out.below hb)
                  have Z2 := Lib.hid (Z1.out.below hb)
                  have R2 := Lib.hid (show ArrAt w6 w5.heap.size CA by rw [hw]; exact (frC w5).store CA (by rw [HCS.out]; rfl))
                  obtain ⟨rb, hrb⟩ : ∃ z, z = w5.heap.size := ⟨_, rfl⟩
                  rw [← hrb] at R2 ⊢
                  clear hw hb hrb J J1 PP P1 Z0 Z1 hc HC0
                  have HC := Lib.hid (lSlot_zq v w6 Z2.out)
                  go_wp2_with (first
                    | ((with_reducible show wpList _ _ _ (⟨some 198, _, _, _, _, _⟩ :: _) _ _); refine wpList_loadA rfl R2.out 43 (.tmp 23) rfl (by first | rfl | simp [Act.eval, Act.put]) Try.underlying43 rfl HSC.out ?_)
                    | ((with_reducible show wpList _ _ _ (⟨some 199, _, _, _, _, _⟩ :: _) _ _); refine wpList_build0 rfl 43 rfl (HBC.out _) ?_))
                  refine HC.out.mono ?_
                  rintro e w7 ⟨rfl, hb⟩
                  have J3 := Lib.hid (J2.out.below hb)
                  have P3 := Lib.hid (P2.out.below hb)
                  have Z3 := Lib.hid (Z2.out.below hb)
                  clear hb HC J2 P2 Z2
                  have HC := Lib.hid (lHead_zq v w7 Z3.out)
                  go_wp2_with fail
                  refine HC.out.mono ?_
                  rintro e w8 ⟨rfl, hb⟩
                  have J4 := Lib.hid (J3.out.below hb)
                  have P4 := Lib.hid (P3.out.below hb)
                  have Z4 := Lib.hid (Z3.out.below hb)
                  clear hb HC J3 P3 Z3
                  have HC := Lib.hid (lSize_zq v w8 Z4.out)
                  go_wp2_with fail
                  refine HC.out.mono ?_
                  rintro e w9 ⟨rfl, hb⟩
                  have J5 := Lib.hid (J4.out.below hb)
                  have P5 := Lib.hid (P4.out.below hb)
                  have Z5 := Lib.hid (Z4.out.below hb)
                  clear hb HC J4 P4 Z4
                  have HC := Lib.hid (lCopy_zq v w9 Z5.out)
                  go_wp2_with fail
                  refine HC.out.mono ?_
                  rintro e w10 ⟨rfl, hb⟩
                  have J6 := Lib.hid (J5.out.below hb)
                  have P6 := Lib.hid (P5.out.below hb)
                  have Z6 := Lib.hid (Z5.out.below hb)
                  clear hb HC J5 P5 Z5
                  go_wp2_with fail
                  go_roundw
                  case rel => first | exact ⟨k + 1, by omega, by go_num, J6.out, P6.out⟩ | ((repeat apply Exists.intro); exact ⟨⟨k + 1, by omega, by go_num, J6.out, P6.out⟩, rfl⟩)
                  case measure => simp [intOf]; omega
                · obtain rfl : k = 2 := by omega
                  go_wp2_with (go_at_call 13; refine (known_any _).mono ?_; rintro e w99 ⟨rfl, hb⟩; have HB := Lib.hid (J.out.b.trans (hb.mono J.out.b.size)); clear hb)
                  go_ret
                  exact ⟨rfl, HB.out⟩

set_option maxRecDepth 100000 in
theorem act_view {H : Type} {enc : TypeId × Value → H} {base : Nat} (W : World) (u : Value) (d : DataW H) (p : List MemPlace) (hok : Value.okWide Try.prog W .any base 46 u)
    (h : DataW.Trod enc Try.prog W 0 (fun _ => true) true 46 u d p) : ∃ V, u = .agg (arr lsAct.length V) ∧ Kinds lsAct V := by
  obtain ⟨cs, rfl, -⟩ := okWide_struct Try.underlying46 hok
  exact flAct.view W _ d p ⟨_, rfl⟩ h
end Go.Proofs.Ytpoeepdpoblfcaa
