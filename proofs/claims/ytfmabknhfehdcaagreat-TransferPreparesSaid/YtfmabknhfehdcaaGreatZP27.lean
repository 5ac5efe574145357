/- transfer: GatherMeta. -/
import Derived.Test.YtfmabknhfehdcaaGreatZP26
namespace Go.Proofs.YtfmabknhfehdcaaGreat
set_option linter.unusedSimpArgs false
set_option linter.unusedVariables false
open Go.RowKit
theorem tclears_gm (cb : Nat) : Clears 40 #[.pointer (some ⟨cb, 0, none⟩)] (One cb) (SlCell cb) (fun w => w.cell? ⟨cb, 0, none⟩ = some (.slice none 0 0)) := by
 refine ⟨fun args w => by simp [go_sem], fun w h => ?_⟩
 obtain ⟨⟨v, hc⟩, hf⟩ := h
 go_enter Tryz.func40, Tryz.ntmps40
 go_wp2_with fail
 go_end0
 exact ⟨rfl, (Keeps.refl _ _).set1 _ _, World.cell?_setCell_same _ _ _ hc⟩
/-- What GatherMeta leaves: the code c; otherwise n bytes g. -/
def TgmPost (w : World) (c n : Int) (g : Nat → Int) (e : Ending) (w' : World) : Prop :=
 Below w.heap.size w w' ∧ if c ≠ 0 then e = .returned (.tuple #[.slice none 0 0, .agg (stA c)]) else if n = 0 then e = .returned (.tuple #[.slice none 0 0, .agg st0])
  else ∃ v, e = .returned (.tuple #[v, .agg st0]) ∧ NewBytes w.heap.size w' v n.toNat g
def zMv : Array Value := #[.pointer none] ++ zCm
theorem tgm_bad {w W : World} {C : Array Value} {u : Value} {c n : Int} {g : Nat → Int} {tmps : Array Value} (S : TSt w C u W) (hc0 : c ≠ 0) (h6 : tmps.getD 6 undef = .pointer (some ⟨w.heap.size + 1, 0, none⟩)) (h7 : tmps.getD 7 undef = .pointer (some ⟨w.heap.size + 2, 0, none⟩)) :
  bodyPostD Tryz.prog Tryz.f17 (TgmPost w c n g) (Exit.panic [panT c]) { tmps := tmps, defers := [dfrT (w.heap.size + 2) 40 #[.pointer (some ⟨w.heap.size + 1, 0, none⟩)]] } W := by
 refine tl_bad (S := One (w.heap.size + 1)) (tclears_gm (w.heap.size + 1)) (fun b hb => (S.go hb).out.sl) S.st (fun e => by have e : w.heap.size + 2 = w.heap.size + 1 := e; omega) (fun j hj => by have hj : j = w.heap.size + 1 := hj; have := S.out.lt; omega) (fun a b ha hk => hk.cell ha (fun e => by have e : w.heap.size + 1 = w.heap.size + 2 := e; omega)) ?_
 intro w2 hk hc hst
 refine ⟨_, results_vs Tryz.results17 (load_bytes hc) hst rfl h6 h7, S.below.trans (hk.below (B := w.heap.size) S.below.size (fun j hj e => two_hi hj e)), ?_⟩
 rw [if_pos hc0]
set_option maxRecDepth 100000 in
set_option maxHeartbeats 8000000 in
theorem tgm_of (m : Option Addr) (C : Array Value) (a n c : Int) (g : Nat → Int) (w : World) (h16 : C.size = 16) (hone : C.all (·.oneCell') = true) (g7 : C[7]? = some (.int .u64 a))
  (hsp : ∀ W, Below w.heap.size w W → Calls Tryz.prog 41 #[.agg (#[.pointer m] ++ C), .int .i64 n] W (MePost W c)) (hn : c = 0 → 0 ≤ n)
  (hrd : ∀ W, Below w.heap.size w W → c = 0 → n ≠ 0 → Calls Tryz.prog 15 #[.pointer m, .int .u64 a, .int .i64 n] W fun e w' => ∃ v, e = .returned (.tuple #[v, .int .i64 0]) ∧ NewBytes W.heap.size w' v n.toNat g ∧ Below W.heap.size W w') :
  Calls Tryz.prog 17 #[.pointer m, .agg C, .int .i64 n] w (TgmPost w c n g) := by
 have HSP := Lib.hid hsp
 have HRD := Lib.hid hrd
 have HN := Lib.hid hn
 have H16 := Lib.hid h16
 have HV : Mv (#[.pointer m] ++ C) m C := ⟨h16, rfl, hone⟩
 have HG0 := Lib.hid HV.g0
 have HG7 := Lib.hid g7
 have HMO := Lib.hid HV.one
 have HMS := Lib.hid HV.size
 have HCZ := Lib.hid (show (Tryz.prog.info? 28).map (·.size) = some C.size by rw [h16]; exact sizeCm)
 have HMZ := Lib.hid (show (Tryz.prog.info? 96).map (·.size) = some (#[Value.pointer m] ++ C).size by rw [HV.size]; exact sizeMv)
 have HBM := Lib.hid (fun w => buildMv m C h16 w)
 clear hsp h16 hone hrd hn g7 HV
 have hmf : ∀ (fn : Fn) (first cap : Array Value) (w : World), (Instr.makeFunc fn first cap).run Tryz.prog w = .ok (.func fn first cap) w := fun _ _ _ _ => rfl
 go_enter_defers Tryz.func17, Tryz.ntmps17
 go_upto_region 2 with ((with_reducible show wpList _ _ _ (⟨some 7, _, _, _, _, _⟩ :: _) _ _); refine wpList_alloc rfl 54 rfl zeroSt ?_; rw [show (Value.agg st0).cells = st0 from rfl])
 obtain ⟨W0, hW0⟩ : ∃ W0, W0 = (((w.alloc (.cells C 28)).alloc (.cells #[.slice none 0 0] 31)).alloc (.cells st0 54)) := ⟨_, rfl⟩
 rw [← hW0]
 have S0 := Lib.hid (show TSt w C (.slice none 0 0) W0 by rw [hW0]; exact TSt.start w C _ _ (by rw [H16.out]; decide))
 have HZ0 := Lib.hid (show W0.heap.size = w.heap.size + 3 by rw [hW0]; simp)
 have HF0 := Lib.hid (show ArrAt (W0.alloc (.cells zMv 96)) W0.heap.size zMv from ArrAt.fresh W0 zMv _ (by decide))
 clear hW0
 obtain ⟨M, hM⟩ : ∃ M, M = #[Value.pointer m] ++ C := ⟨_, rfl⟩
 rw [← hM] at HSP HG0 HMO HMS HMZ HBM
 clear hM
 go_upto_region 3 with (first
  | ((with_reducible show wpList _ _ _ (⟨some 11, _, _, _, _, _⟩ :: _) _ _); refine wpList_loadA rfl S0.out.c 28 (.tmp 4) rfl (by first | rfl | simp [Act.eval, Act.put]) Tryz.underlying28 rfl HCZ.out ?_)
  | ((with_reducible show wpList _ _ _ (⟨some 12, _, _, _, _, _⟩ :: _) _ _); refine wpList_build2 rfl 96 0 1 (.tmp 10) (.tmp 11) rfl _ _ rfl rfl (HBM.out _) ?_)
  | ((with_reducible show wpList _ _ _ (⟨some 8, _, _, _, _, _⟩ :: _) _ _); refine wpList_alloc rfl 96 rfl zeroMv ?_; rw [show (Value.agg (#[.pointer none] ++ zCm)).cells = zMv from rfl])
  | ((with_reducible show wpList _ _ _ (⟨none, .store _ _ _, _, _, _, _⟩ :: _) _ _); refine wpList_storeA rfl (b := W0.heap.size) (A := zMv) (A' := M) HF0.out 96 (.tmp 8) (.tmp 12) rfl (by simp [Act.eval, Act.put]) (by simp [Act.eval, Act.put]) sizeMv (by rw [HMS.out]; rfl) HMO.out ?_))
 obtain ⟨W1, hW1⟩ : ∃ z, z = (W0.alloc (.cells zMv 96)).setCells W0.heap.size 0 M.toList := ⟨_, rfl⟩
 rw [← hW1]
 obtain ⟨hb1, ha1⟩ := stored_at (y := W0) (T := 96) (Z := zMv) (A := M) (by decide) (by rw [HMS.out]; rfl) hW1
 have S1 := Lib.hid (S0.out.go hb1)
 rw [HZ0.out] at ha1 ⊢
 have AM1 := Lib.hid ha1
 clear hW1 hb1 ha1 HF0 S0 HZ0
 by_cases hc : c = 0
 case neg =>
  have hsp := HSP.out W1 S1.out.below
  have HSP1 := Lib.hid hsp
  have HC := Lib.hid hc
  clear hsp hc
  go_wp2_with ((with_reducible show wpList _ _ _ (⟨some 13, _, _, _, _, _⟩ :: _) _ _); refine wpList_loadA rfl AM1.out 96 (.tmp 8) rfl (by first | rfl | simp [Act.eval, Act.put]) Tryz.underlying96 rfl HMZ.out ?_)
  refine HSP1.out.mono ?_
  rintro e w2 ⟨hb, he⟩
  rw [if_neg HC.out] at he
  subst he
  exact tgm_bad (S1.out.go hb) HC.out rfl rfl
 case pos =>
  have hsp := HSP.out W1 S1.out.below
  rw [hc] at hsp
  have HSP1 := Lib.hid hsp
  have HC := Lib.hid hc
  clear hsp hc
  go_upto_region 4 with (first
   | ((with_reducible show wpList _ _ _ (⟨some 13, _, _, _, _, _⟩ :: _) _ _); refine wpList_loadA rfl AM1.out 96 (.tmp 8) rfl (by first | rfl | simp [Act.eval, Act.put]) Tryz.underlying96 rfl HMZ.out ?_)
   | (go_at_call 41; refine HSP1.out.mono ?_; rintro e w2 ⟨hb, he⟩; rw [if_pos rfl] at he; subst he; have S2 := Lib.hid (S1.out.go hb); have AM2 := Lib.hid (AM1.out.below hb); clear hb))
  by_cases hz : n = 0
  case pos =>
   have qz : (n == 0) = true := beq_iff_eq.2 hz
   have HZ := Lib.hid hz
   clear hz
   go_upto_region 5 with fail
   refine wp_normal ?_
   refine wp_region_held_drew (S := fun w' => ArrAt w' (w.heap.size + 2) st0) (by kernel_rfl) S2.out.st.drew (fun hS0 => ?_)
   refine takeD 18 (i := 0) (v := .agg st0) rfl rfl (by kernel_rfl) (by kernel_rfl) (by kernel_rfl) (fun _ _ _ h => h) (yieldsA (by rfl) 54 (.tmp 7) rfl (w.heap.size + 2) (by first | rfl | simp [Act.eval, Act.put]) st0 (fun w h => h.rng) Tryz.underlying54 rfl sizeSt) (by assumption) ?_
   try simp only [Act.put, List.setIfInBounds_toArray, List.set_cons_zero, List.set_cons_succ]
   refine wpAnyH_ready (rs := [1]) (by kernel_rfl) (by simp) (AllReadyH.cons rfl (fun K hK => ?_) AllReadyH.nil)
   rw [if_pos (by rfl)]
   obtain ⟨⟨u, hu⟩, hfu⟩ := S2.out.out.sl
   go_simp
   have S3 := Lib.hid ((S2.out.go (Below.refl _ _).drew).setOut (.slice none 0 0))
   refine hK.out _ _ S3.out.st (fun hS0 => ?_)
   clear hK K hu hfu
   try simp only [Act.put, List.setIfInBounds_toArray, List.set_cons_zero, List.set_cons_succ]
   refine wpAnyH_ready (rs := [2]) (by kernel_rfl) (by simp) (AllReadyH.cons rfl (fun K hK => ?_) AllReadyH.nil)
   rw [if_pos (by rfl)]
   refine wp_storeN 54 (.tmp 7) (.tmp 18) rfl rfl (w.heap.size + 2) 0 st0 (by first | rfl | simp [Act.eval, Act.put]) (by first | rfl | simp [Act.eval, Act.put]) S3.out.st.th sizeSt st0_one ?_
   have S4 := Lib.hid S3.out.setSt
   refine hK.out _ _ S4.out.st (fun hS0 => ?_)
   clear hK K
   try simp only [Act.put, List.setIfInBounds_toArray, List.set_cons_zero, List.set_cons_succ]
   refine wpAnyH_done (by kernel_rfl) ?_ _
   refine NormalOnly.intro ?_
   go_wp2_with fail
   refine tl_good (results_vs Tryz.results17 (load_bytes (S4.out.out.cell (i := 0) rfl)) S4.out.st rfl rfl rfl) ⟨S4.out.below, ?_⟩
   rw [if_neg (fun e => e HC.out), if_pos HZ.out]
   rfl
  case neg =>
   have qz : (n == 0) = false := beq_eq_false_iff_ne.2 hz
   have HZ := Lib.hid hz
   have hrd := HRD.out w2.drew S2.out.below.drew HC.out hz
   have HRD2 := Lib.hid hrd
   clear hz hrd
   go_upto_region 6 with fail
   refine wp_normal ?_
   refine wp_region_held_drew (S := fun w' => ArrAt w' (w.heap.size + 3) M ∧ ArrAt w' w.heap.size C ∧ ArrAt w' (w.heap.size + 2) st0) (by kernel_rfl) ⟨AM2.out.drew, S2.out.c.drew, S2.out.st.drew⟩ (fun hS0 => ?_)
   refine takeD 19 (i := 0) (v := .pointer (some ⟨w.heap.size + 3, 0, none⟩)) rfl rfl (by kernel_rfl) (by kernel_rfl) (by kernel_rfl) (fun _ _ _ h => h) (Or.inl ⟨by rfl, by (intro w' _; go_simp)⟩) (by assumption) ?_
   try simp only [Act.put, List.setIfInBounds_toArray, List.set_cons_zero, List.set_cons_succ]
   refine takeD 20 (i := 1) (v := .pointer m) rfl rfl (by kernel_rfl) (by kernel_rfl) (by kernel_rfl) (fun _ _ _ h => h) (Or.inl ⟨by rfl, by (intro w' h; have h2 := h.1.cell HG0.out; clear h; go_simp)⟩) (by assumption) ?_
   try simp only [Act.put, List.setIfInBounds_toArray, List.set_cons_zero, List.set_cons_succ]
   refine takeD 21 (i := 2) (v := .pointer (some ⟨w.heap.size, 7, none⟩)) rfl rfl (by kernel_rfl) (by kernel_rfl) (by kernel_rfl) (fun _ _ _ h => h) (Or.inl ⟨by rfl, by (intro w' _; go_simp)⟩) (by assumption) ?_
   try simp only [Act.put, List.setIfInBounds_toArray, List.set_cons_zero, List.set_cons_succ]
   refine takeD 22 (i := 3) (v := .int .u64 a) rfl rfl (by kernel_rfl) (by kernel_rfl) (by kernel_rfl) (fun _ _ _ h => h) (Or.inl ⟨by rfl, by (intro w' h; have h2 := h.2.1.cell HG7.out; clear h; go_simp)⟩) (by assumption) ?_
   try simp only [Act.put, List.setIfInBounds_toArray, List.set_cons_zero, List.set_cons_succ]
   refine takeD 23 (i := 4) (v := .int .i64 n) rfl rfl (by kernel_rfl) (by kernel_rfl) (by kernel_rfl) (fun _ _ _ h => h) (Or.inl ⟨by rfl, by (intro w' _; go_simp)⟩) (by assumption) ?_
   try simp only [Act.put, List.setIfInBounds_toArray, List.set_cons_zero, List.set_cons_succ]
   refine takeD 28 (i := 9) (v := .agg st0) rfl rfl (by kernel_rfl) (by kernel_rfl) (by kernel_rfl) (fun _ _ _ h => h) (yieldsA (by rfl) 54 (.tmp 7) rfl (w.heap.size + 2) (by first | rfl | simp [Act.eval, Act.put]) st0 (fun w h => h.2.2.rng) Tryz.underlying54 rfl sizeSt) (by assumption) ?_
   try simp only [Act.put, List.setIfInBounds_toArray, List.set_cons_zero, List.set_cons_succ]
   refine wpAnyH_ready (rs := [5]) (by kernel_rfl) (by simp) (AllReadyH.cons rfl (fun K hK => ?_) AllReadyH.nil)
   rw [if_pos (by rfl)]
   go_simp
   refine HRD2.out.mono ?_
   rintro e w3 ⟨v, rfl, hv, hb⟩
   have S3 := Lib.hid ((S2.out.go (Below.refl _ _).drew).go hb)
   have AM3 := Lib.hid (AM2.out.drew.below hb)
   have HNB := Lib.hid hv
   refine hK.out _ _ ⟨AM3.out, S3.out.c, S3.out.st⟩ (fun hS0 => ?_)
   clear hK K hb hv
   try simp only [Act.put, List.setIfInBounds_toArray, List.set_cons_zero, List.set_cons_succ]
   refine takeD 25 (i := 6) (v := v) rfl rfl (by kernel_rfl) (by kernel_rfl) (by kernel_rfl) (fun _ _ _ h => h) (Or.inl ⟨by rfl, by (intro w' _; go_simp)⟩) (by assumption) ?_
   try simp only [Act.put, List.setIfInBounds_toArray, List.set_cons_zero, List.set_cons_succ]
   refine takeD 26 (i := 7) (v := .int .i64 0) rfl rfl (by kernel_rfl) (by kernel_rfl) (by kernel_rfl) (fun _ _ _ h => h) (Or.inl ⟨by rfl, by (intro w' _; go_simp)⟩) (by assumption) ?_
   try simp only [Act.put, List.setIfInBounds_toArray, List.set_cons_zero, List.set_cons_succ]
   refine wpAnyH_ready (rs := [8]) (by kernel_rfl) (by simp) (AllReadyH.cons rfl (fun K hK => ?_) AllReadyH.nil)
   rw [if_pos (by rfl)]
   go_simp
   refine (tgotB_ok w3 v).mono ?_
   rintro e w4 ⟨rfl, hb⟩
   have S4 := Lib.hid (S3.out.go hb)
   have AM4 := Lib.hid (AM3.out.below hb)
   have HNB4 := Lib.hid (HNB.out.kept (Keeps.of_below (S := fun _ => False) hb) (fun _ _ e => e))
   refine hK.out _ _ ⟨AM4.out, S4.out.c, S4.out.st⟩ (fun hS0 => ?_)
   clear hK K hb
   try simp only [Act.put, List.setIfInBounds_toArray, List.set_cons_zero, List.set_cons_succ]
   obtain ⟨ng, ncap, nF, rfl, -⟩ := HNB4.out
   refine wpAnyH_ready (rs := [10]) (by kernel_rfl) (by simp) (AllReadyH.cons rfl (fun K hK => ?_) AllReadyH.nil)
   rw [if_pos (by rfl)]
   obtain ⟨⟨u, hu⟩, hfu⟩ := S4.out.out.sl
   go_simp
   have S5 := Lib.hid (S4.out.setOut (.slice (some ⟨ng, 0, none⟩) n.toNat ncap))
   have hwz := S2.out.st.lt
   have k1 : Keeps (One (w.heap.size + 1)) w4 (w4.setCell ⟨w.heap.size + 1, 0, none⟩ (.slice (some ⟨ng, 0, none⟩) n.toNat ncap)) := (Keeps.refl _ _).set1 _ _
   have HNB5 := Lib.hid (HNB4.out.kept k1 (fun j hj e => by have e : j = w.heap.size + 1 := e; have hj : w2.heap.size ≤ j := hj; omega))
   have AM5 := Lib.hid (AM4.out.kept k1 (fun e => by have e : w.heap.size + 3 = w.heap.size + 1 := e; omega))
   refine hK.out _ _ ⟨AM5.out, S5.out.c, S5.out.st⟩ (fun hS0 => ?_)
   clear hK K hu hfu
   try simp only [Act.put, List.setIfInBounds_toArray, List.set_cons_zero, List.set_cons_succ]
   refine wpAnyH_ready (rs := [11]) (by kernel_rfl) (by simp) (AllReadyH.cons rfl (fun K hK => ?_) AllReadyH.nil)
   rw [if_pos (by rfl)]
   refine wp_storeN 54 (.tmp 7) (.tmp 28) rfl rfl (w.heap.size + 2) 0 st0 (by first | rfl | simp [Act.eval, Act.put]) (by first | rfl | simp [Act.eval, Act.put]) S5.out.st.th sizeSt st0_one ?_
   have S6 := Lib.hid S5.out.setSt
   have k2 : ∀ W : World, Keeps (One (w.heap.size + 2)) W (W.setCells (w.heap.size + 2) 0 st0.toList) := fun W => Keeps.store (S := One (w.heap.size + 2)) (Keeps.refl _ _) (fun _ => rfl) _ _
   have HNB6 := Lib.hid (HNB5.out.kept (k2 _) (fun j hj e => by have e : j = w.heap.size + 2 := e; have hj : w2.heap.size ≤ j := hj; omega))
   have AM6 := Lib.hid (AM5.out.kept (k2 _) (fun e => by have e : w.heap.size + 3 = w.heap.size + 2 := e; omega))
   refine hK.out _ _ ⟨AM6.out, S6.out.c, S6.out.st⟩ (fun hS0 => ?_)
   clear hK K
   try simp only [Act.put, List.setIfInBounds_toArray, List.set_cons_zero, List.set_cons_succ]
   refine wpAnyH_done (by kernel_rfl) ?_ _
   refine NormalOnly.intro ?_
   go_wp2_with fail
   refine tl_good (results_vs Tryz.results17 (load_bytes (S6.out.out.cell (i := 0) rfl)) S6.out.st rfl rfl rfl) ⟨S6.out.below, ?_⟩
   rw [if_neg (fun e => e HC.out), if_neg HZ.out]
   obtain ⟨g', c', F', e, h1, h2⟩ := HNB6.out
   exact ⟨_, rfl, g', c', F', e, by have h1 : w2.heap.size ≤ g' := h1; omega, h2⟩
end Go.Proofs.YtfmabknhfehdcaaGreat
namespace Go.Proofs.YtfmabknhfehdcaaGreat
set_option linter.unusedSimpArgs false
set_option linter.unusedVariables false
open Go.RowKit
/-- What lies in memory while Scatter, ScatterMeta run: the command, the status (at sb). -/
structure CSt (w : World) (C : Array Value) (sb : Nat) (T : Nat → Prop) (W : World) : Prop where
 keep : Keeps T w W
 c : ArrAt W w.heap.size C
 st : ArrAt W sb st0
namespace CSt
set_option linter.unusedSimpArgs false
set_option linter.unusedVariables false
variable {w W W' : World} {C : Array Value} {sb : Nat} {T : Nat → Prop}
theorem go (h : CSt w C sb T W) (hb : Below W.heap.size W W') : CSt w C sb T W' :=
 ⟨h.keep.trans (Keeps.of_below hb), h.c.below hb, h.st.below hb⟩
theorem old {S : Nat → Prop} (h : CSt w C sb T W) (k : Keeps S W W') (hS : ∀ j, S j → T j ∧ j < w.heap.size) (hsb : w.heap.size ≤ sb) : CSt w C sb T W' :=
 ⟨h.keep.trans (k.mono fun j _ e => (hS j e).1), h.c.kept k (fun e => by have := (hS _ e).2; omega), h.st.kept k (fun e => by have := (hS _ e).2; omega)⟩
end CSt
/-- What ScatterMeta leaves: the code c; otherwise Z. -/
def TsmPost (w : World) (c : Int) (n : Nat) (T : Nat → Prop) (Z : World → Prop) (e : Ending) (w' : World) : Prop :=
 if c ≠ 0 then e = .returned (.agg (stA c)) ∧ Below w.heap.size w w' else if n = 0 then e = .returned (.agg st0) ∧ Below w.heap.size w w'
  else e = .returned (.agg st0) ∧ Keeps T w w' ∧ Z w'
end Go.Proofs.YtfmabknhfehdcaaGreat
