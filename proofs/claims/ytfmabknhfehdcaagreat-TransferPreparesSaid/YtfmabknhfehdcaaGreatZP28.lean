/- transfer: Gather. -/
import Derived.Test.YtfmabknhfehdcaaGreatZP27
namespace Go.Proofs.YtfmabknhfehdcaaGreat
set_option linter.unusedSimpArgs false
set_option linter.unusedVariables false
open Go.RowKit
theorem tclears_g (cb : Nat) : Clears 78 #[.pointer (some ⟨cb, 0, none⟩)] (One cb) (SlCell cb) (fun w => w.cell? ⟨cb, 0, none⟩ = some (.slice none 0 0)) := by
 refine ⟨fun args w => by simp [go_sem], fun w h => ?_⟩
 obtain ⟨⟨v, hc⟩, hf⟩ := h
 go_enter Tryz.func78, Tryz.ntmps78
 go_wp2_with fail
 go_end0
 exact ⟨rfl, (Keeps.refl _ _).set1 _ _, World.cell?_setCell_same _ _ _ hc⟩
/-- bytes as values -/
def byV (L : List Int) : List Value := L.map fun z => .int .u8 z
/-- What Gather leaves. -/
def TgPost (w : World) (f : Nat → Int) (R : Except Int (List Spn)) (e : Ending) (w' : World) : Prop :=
 Below w.heap.size w w' ∧ match R with
 | .error c => e = .returned (.tuple #[.slice none 0 0, .agg (stA c)])
 | .ok l => ∃ v, e = .returned (.tuple #[v, .agg st0]) ∧ w'.ownsRow w.heap.size 5 1 v (gatF f l).length (byV (gatF f l))
theorem tg_bad {w W : World} {C : Array Value} {u : Value} {c : Int} {f : Nat → Int} {tmps : Array Value} (S : TSt w C u W) (h6 : tmps.getD 6 undef = .pointer (some ⟨w.heap.size + 1, 0, none⟩)) (h7 : tmps.getD 7 undef = .pointer (some ⟨w.heap.size + 2, 0, none⟩)) :
  bodyPostD Tryz.prog Tryz.f36 (TgPost w f (.error c)) (Exit.panic [panT c]) { tmps := tmps, defers := [dfrT (w.heap.size + 2) 78 #[.pointer (some ⟨w.heap.size + 1, 0, none⟩)]] } W := by
 refine tl_bad (S := One (w.heap.size + 1)) (tclears_g (w.heap.size + 1)) (fun b hb => (S.go hb).out.sl) S.st (fun e => by have e : w.heap.size + 2 = w.heap.size + 1 := e; omega) (fun j hj => by have hj : j = w.heap.size + 1 := hj; have := S.out.lt; omega) (fun a b ha hk => hk.cell ha (fun e => by have e : w.heap.size + 1 = w.heap.size + 2 := e; omega)) ?_
 intro w2 hk hc hst
 exact ⟨_, results_vs Tryz.results36 (load_bytes hc) hst rfl h6 h7, S.below.trans (hk.below (B := w.heap.size) S.below.size (fun j hj e => two_hi hj e)), rfl⟩
theorem gatF_app (f : Nat → Int) : ∀ (a b : List Spn), gatF f (a ++ b) = gatF f a ++ gatF f b
 | [], _ => rfl
 | x :: r, b => by
  simp only [List.cons_append, gatF, gatF_app f r b, List.append_assoc]
theorem gatF_take (f : Nat → Int) (l : List Spn) (k : Nat) (hk : k < l.length) : gatF f (l.take (k + 1)) = gatF f (l.take k) ++ (List.range (l[k]'hk).n.toNat).map fun i => f ((l[k]'hk).a.toNat + i) := by
 rw [List.take_add_one, List.getElem?_eq_getElem hk, gatF_app]
 simp [gatF]
theorem read_okI (b B size : Nat) (f : Nat → Int) (L : List (Nat × Nat)) (a n : Int) (w : World) (h : MemAt w b B size f L) (h0 : 0 ≤ a) (h1 : 0 ≤ n) (hf : a + n ≤ size) :
  Calls Tryz.prog 15 #[.pointer (some ⟨b, 0, none⟩), .int .u64 a, .int .i64 n] w fun e w' =>
   ∃ v, e = .returned (.tuple #[v, .int .i64 0]) ∧ NewBytes w.heap.size w' v n.toNat (fun i => f (a.toNat + i)) ∧ Below w.heap.size w w' := by
 obtain ⟨x, rfl⟩ : ∃ x : Nat, a = x := ⟨a.toNat, by omega⟩
 obtain ⟨y, rfl⟩ : ∃ y : Nat, n = y := ⟨n.toNat, by omega⟩
 exact read_ok b B size f L x y w h (by omega)
theorem sumS_take : ∀ (l : List Spn) (k : Nat), (∀ x ∈ l, 0 ≤ x.n) → sumS (l.take k) ≤ sumS l
 | [], k, _ => by simp
 | x :: r, 0, h => by
  have h1 := sumS_take r 0 (fun y hy => h y (List.mem_cons_of_mem _ hy))
  have h2 := h x List.mem_cons_self
  simp only [List.take_zero, sumS] at h1 ⊢
  omega
 | x :: r, k + 1, h => by
  have h1 := sumS_take r k (fun y hy => h y (List.mem_cons_of_mem _ hy))
  simp only [List.take_succ_cons, sumS]
  omega
/-- What holds in the loop of Gather. -/
structure GSt (w : World) (C M : Array Value) (b B size : Nat) (f : Nat → Int) (L : List (Nat × Nat)) (l : List Spn) (sv : Option Addr) (bz : Nat) (xs : List Value) (W : World) : Prop where
 ex : ∃ v, TSt w C v W ∧ W.ownsRow bz 5 1 v xs.length xs
 mv : ArrAt W (w.heap.size + 3) M
 mem : MemAt W b B size f L
 sp : SpAt W sv l
 spb : ∀ g o, sv = some ⟨g, o, none⟩ → w.heap.size + 4 ≤ g ∧ g < bz
 bzg : w.heap.size + 4 ≤ bz
 bzl : bz ≤ W.heap.size
 bl : b < w.heap.size
 Bl : B < w.heap.size
namespace GSt
set_option linter.unusedSimpArgs false
set_option linter.unusedVariables false
variable {w W W' : World} {C M : Array Value} {b B size : Nat} {f : Nat → Int} {L : List (Nat × Nat)} {l : List Spn} {sv : Option Addr} {bz : Nat} {xs : List Value}
theorem go (h : GSt w C M b B size f L l sv bz xs W) (hb : Below W.heap.size W W') : GSt w C M b B size f L l sv bz xs W' := by
 obtain ⟨⟨v, t, o⟩, h1, h2, h3, h4, h5, h6, h7, h8⟩ := h
 exact ⟨⟨v, t.go hb, ownsRow_keeps o (Keeps.of_below (S := fun _ => False) hb) (fun _ _ e => e)⟩, h1.below hb, h2.below hb, h3.below hb, h4, h5, Nat.le_trans h6 hb.size, h7, h8⟩
theorem put (h : GSt w C M b B size f L l sv bz xs W) {v : Value} {ys : List Value} (hk : Keeps (fun j => bz ≤ j) W W') (ho : W'.ownsRow bz 5 1 v ys.length ys) : GSt w C M b B size f L l sv bz ys (W'.setCell ⟨w.heap.size + 1, 0, none⟩ v) := by
 obtain ⟨⟨v0, t, o⟩, h1, h2, h3, h4, h5, h6, h7, h8⟩ := h
 have k1 : Keeps (One (w.heap.size + 1)) W' (W'.setCell ⟨w.heap.size + 1, 0, none⟩ v) := (Keeps.refl _ _).set1 _ _
 refine ⟨⟨v, (t.kept hk (fun j hj e => by have e : bz ≤ j := e; omega)).setOut v, ownsRow_keeps ho k1 (fun j hj e => by have e : j = w.heap.size + 1 := e; omega)⟩, (h1.kept hk (fun e => by have e : bz ≤ w.heap.size + 3 := e; omega)).kept k1 (fun e => by have e : w.heap.size + 3 = w.heap.size + 1 := e; omega), (h2.kept hk (fun e => by have e : bz ≤ b := e; omega) (fun e => by have e : bz ≤ B := e; omega)).kept k1 (fun e => by have e : b = w.heap.size + 1 := e; omega) (fun e => by have e : B = w.heap.size + 1 := e; omega), ?_, h4, h5, Nat.le_trans h6 (Nat.le_trans hk.size k1.size), h7, h8⟩
 intro i hi
 obtain ⟨g, o2, e, hr⟩ := h3 i hi
 have hg := h4 g o2 e
 refine ⟨g, o2, e, fun j u hu => ?_⟩
 exact k1.cell (hk.cell (hr j u hu) (fun e => by have e : bz ≤ g := e; omega)) (fun e => by have e : g = w.heap.size + 1 := e; omega)
end GSt
def zX : Array Value := #[.int .u64 0, .int .i64 0, .bool false]
theorem zeroX (w : World) : (zeroValue 65).run Tryz.prog w = .ok (.agg zX) w := by kernel_rfl
theorem Spn.one (x : Spn) : x.cells.all (·.oneCell') = true := by simp [Spn.cells, Value.oneCell']
set_option maxRecDepth 100000 in
set_option maxHeartbeats 16000000 in
theorem tg_of (b B size : Nat) (f : Nat → Int) (L : List (Nat × Nat)) (C : Array Value) (n : Int) (R : Except Int (List Spn)) (w : World) (h16 : C.size = 16) (hone : C.all (·.oneCell') = true) (hM : MemAt w b B size f L)
  (hsp : ∀ W, Below w.heap.size w W → Calls Tryz.prog 35 #[.agg (#[.pointer (some ⟨b, 0, none⟩)] ++ C), .int .i64 n, .bool false] W (MsPost W R))
  (hl : ∀ l, R = .ok l → (∀ x ∈ l, 0 ≤ x.n ∧ 0 ≤ x.a ∧ x.a + x.n ≤ size) ∧ sumS l ≤ 1048576) :
  Calls Tryz.prog 36 #[.pointer (some ⟨b, 0, none⟩), .agg C, .int .i64 n] w (TgPost w f R) := by
 have HSP := Lib.hid hsp
 have HL := Lib.hid hl
 have HMM := Lib.hid hM
 have HBL := Lib.hid hM.lt
 have HBL' := Lib.hid hM.lt'
 have H16 := Lib.hid h16
 have HV : Mv (#[.pointer (some ⟨b, 0, none⟩)] ++ C) (some ⟨b, 0, none⟩) C := ⟨h16, rfl, hone⟩
 have HG0 := Lib.hid HV.g0
 have HMO := Lib.hid HV.one
 have HMS := Lib.hid HV.size
 have HCZ := Lib.hid (show (Tryz.prog.info? 28).map (·.size) = some C.size by rw [h16]; exact sizeCm)
 have HMZ := Lib.hid (show (Tryz.prog.info? 96).map (·.size) = some (#[Value.pointer (some ⟨b, 0, none⟩)] ++ C).size by rw [HV.size]; exact sizeMv)
 have HBM := Lib.hid (fun w => buildMv (some ⟨b, 0, none⟩) C h16 w)
 obtain ⟨i0, hi, hz0, hz1, hz2⟩ := info_parts infoU8
 clear hsp h16 hone HV hM hl
 have hmf : ∀ (fn : Fn) (first cap : Array Value) (w : World), (Instr.makeFunc fn first cap).run Tryz.prog w = .ok (.func fn first cap) w := fun _ _ _ _ => rfl
 go_enter_defers Tryz.func36, Tryz.ntmps36
 go_upto_region 2 with ((with_reducible show wpList _ _ _ (⟨some 7, _, _, _, _, _⟩ :: _) _ _); refine wpList_alloc rfl 54 rfl zeroSt ?_; rw [show (Value.agg st0).cells = st0 from rfl])
 obtain ⟨W0, hW0⟩ : ∃ W0, W0 = (((w.alloc (.cells C 28)).alloc (.cells #[.slice none 0 0] 31)).alloc (.cells st0 54)) := ⟨_, rfl⟩
 rw [← hW0]
 have S0 := Lib.hid (show TSt w C (.slice none 0 0) W0 by rw [hW0]; exact TSt.start w C _ _ (by rw [H16.out]; decide))
 have HZ0 := Lib.hid (show W0.heap.size = w.heap.size + 3 by rw [hW0]; simp)
 have HF0 := Lib.hid (show ArrAt (W0.alloc (.cells zMv 96)) W0.heap.size zMv from ArrAt.fresh W0 zMv _ (by decide))
 clear hW0
 obtain ⟨M, hM⟩ : ∃ M, M = #[Value.pointer (some ⟨b, 0, none⟩)] ++ C := ⟨_, rfl⟩
 rw [← hM] at HSP HG0 HMO HMS HMZ HBM
 clear hM
 go_upto_region 3 with (first
  | ((with_reducible show wpList _ _ _ (⟨some 13, _, _, _, _, _⟩ :: _) _ _); refine wpList_loadA rfl S0.out.c 28 (.tmp 4) rfl (by first | rfl | simp [Act.eval, Act.put]) Tryz.underlying28 rfl HCZ.out ?_)
  | ((with_reducible show wpList _ _ _ (⟨some 14, _, _, _, _, _⟩ :: _) _ _); refine wpList_build2 rfl 96 0 1 (.tmp 12) (.tmp 13) rfl _ _ rfl rfl (HBM.out _) ?_)
  | ((with_reducible show wpList _ _ _ (⟨some 8, _, _, _, _, _⟩ :: _) _ _); refine wpList_alloc rfl 96 rfl zeroMv ?_; rw [show (Value.agg (#[.pointer none] ++ zCm)).cells = zMv from rfl])
  | ((with_reducible show wpList _ _ _ (⟨none, .store _ _ _, _, _, _, _⟩ :: _) _ _); refine wpList_storeA rfl (b := W0.heap.size) (A := zMv) (A' := M) HF0.out 96 (.tmp 8) (.tmp 14) rfl (by simp [Act.eval, Act.put]) (by simp [Act.eval, Act.put]) sizeMv (by rw [HMS.out]; rfl) HMO.out ?_))
 obtain ⟨W1, hW1⟩ : ∃ z, z = (W0.alloc (.cells zMv 96)).setCells W0.heap.size 0 M.toList := ⟨_, rfl⟩
 rw [← hW1]
 obtain ⟨hb1, ha1⟩ := stored_at (y := W0) (T := 96) (Z := zMv) (A := M) (by decide) (by rw [HMS.out]; rfl) hW1
 have S1 := Lib.hid (S0.out.go hb1)
 rw [HZ0.out] at ha1 ⊢
 have AM1 := Lib.hid ha1
 clear hW1 hb1 ha1 HF0 S0 HZ0
 have HX := Lib.hid (HSP.out W1 S1.out.below)
 cases R with
 | error c =>
  go_wp2_with ((with_reducible show wpList _ _ _ (⟨some 15, _, _, _, _, _⟩ :: _) _ _); refine wpList_loadA rfl AM1.out 96 (.tmp 8) rfl (by first | rfl | simp [Act.eval, Act.put]) Tryz.underlying96 rfl HMZ.out ?_)
  refine HX.out.mono ?_
  rintro e w2 ⟨hb, rfl⟩
  exact tg_bad (S1.out.go hb) rfl rfl
 | ok l =>
  obtain ⟨hlx, hls⟩ := HL.out l rfl
  have HLX := Lib.hid hlx
  have HLS := Lib.hid hls
  clear hlx hls HL
  have hwl1 := AM1.out.lt
  go_upto_region 4 with (first
   | ((with_reducible show wpList _ _ _ (⟨some 15, _, _, _, _, _⟩ :: _) _ _); refine wpList_loadA rfl AM1.out 96 (.tmp 8) rfl (by first | rfl | simp [Act.eval, Act.put]) Tryz.underlying96 rfl HMZ.out ?_)
   | (go_at_call 35; refine HX.out.mono ?_; rintro e w2 ⟨hb, v, rfl, ho⟩; obtain ⟨sv, sc, rfl, hl1, hl2⟩ := ownsRow_shape ho; have HGE := Lib.hid (own_ge ho); have HGL := Lib.hid (own_lt ho); have HSA := Lib.hid (spAt_owns ho); have HLM := Lib.hid (show l.length ≤ 9223372036854775807 by unfold maxLen at hl2; omega); have S2 := Lib.hid (S1.out.go hb); have AM2 := Lib.hid (AM1.out.below hb); have M2 := Lib.hid (HMM.out.below (S1.out.go hb).below); clear hb ho hl1 hl2))
  have G2 := Lib.hid (show GSt w C M b B size f L l sv w2.heap.size [] w2 from ⟨⟨_, S2.out, World.ownsRow_nil _ _ _ _⟩, AM2.out, M2.out, HSA.out, fun g o e => ⟨by have := HGE.out g o e; omega, HGL.out g o e⟩, AM2.out.lt, Nat.le_refl _, HBL.out, HBL'.out⟩)
  obtain ⟨bz, hbz⟩ : ∃ bz, bz = w2.heap.size := ⟨_, rfl⟩
  rw [← hbz] at G2
  clear hbz S2 AM2 M2 HSA HGE HGL S1 AM1 HX HMM hwl1
  go_loopw [19] (fun v19 wr => ∃ k : Nat, k ≤ l.length ∧ v19 = .int .i64 (k : Nat) ∧ GSt w C M b B size f L l sv bz (byV (gatF f (l.take k))) wr) (fun v19 _ => l.length - (intOf v19).toNat)
  case atStart => exact ⟨0, by omega, rfl, G2.out⟩
  case round =>
   clear G2
   obtain ⟨k, hk, rfl, hG⟩ := hrel
   have HG := Lib.hid hG
   clear hG
   by_cases hkn : k < l.length
   ·have q1 : decide ((k : Int) < (l.length : Int)) = true := decide_eq_true (by omega)
    have q2 : decide (k < l.length) = true := decide_eq_true hkn
    obtain ⟨g, o, hsv, hrg⟩ := HG.out.sp k hkn
    subst hsv
    obtain ⟨x, hx⟩ : ∃ x, x = l[k]'hkn := ⟨_, rfl⟩
    rw [← hx] at hrg
    have hxm := HLX.out (l[k]'hkn) (List.getElem_mem hkn)
    have HGT := Lib.hid (gatF_take f l k hkn)
    rw [← hx] at hxm HGT
    obtain ⟨X, hX⟩ : ∃ X, X = x.cells := ⟨_, rfl⟩
    have HRG := Lib.hid (show wr.rangeAt g (o + k * 3) X.toList by rw [hX]; exact hrg)
    have HXS := Lib.hid (show X.size = 3 by rw [hX]; rfl)
    have HX1' := Lib.hid (show X.all (·.oneCell') = true by rw [hX]; exact Spn.one x)
    obtain ⟨xa, hxa⟩ : ∃ z, z = x.a := ⟨_, rfl⟩
    obtain ⟨xn, hxn⟩ : ∃ z, z = x.n := ⟨_, rfl⟩
    have HX0 := Lib.hid (show X[0]? = some (.int .u64 xa) by rw [hX, hxa]; rfl)
    have HX1 := Lib.hid (show X[1]? = some (.int .i64 xn) by rw [hX, hxn]; rfl)
    rw [← hxa, ← hxn] at hxm HGT
    obtain ⟨x1, x2, x3⟩ := hxm
    have HXZ := Lib.hid (show (Tryz.prog.info? 65).map (·.size) = some X.size by rw [HXS.out]; exact sizeSp)
    have HFX := Lib.hid (show ArrAt (wr.alloc (.cells zX 65)) wr.heap.size zX from ArrAt.fresh wr zX _ (by decide))
    clear hx hrg hX hxa hxn
    go_upto_region 6 with (first
     | ((with_reducible show wpList _ _ _ (⟨some 22, _, _, _, _, _⟩ :: _) _ _); refine wpList_loadR rfl HRG.out 65 (.tmp 21) rfl (by first | rfl | simp [Act.eval, Act.put]) Tryz.underlying65 rfl HXZ.out ?_)
     | ((with_reducible show wpList _ _ _ (⟨some 10, _, _, _, _, _⟩ :: _) _ _); refine wpList_alloc rfl 65 rfl zeroX ?_; rw [show (Value.agg zX).cells = zX from rfl])
     | ((with_reducible show wpList _ _ _ (⟨none, .store _ _ _, _, _, _, _⟩ :: _) _ _); refine wpList_storeA rfl (b := wr.heap.size) (A := zX) (A' := X) HFX.out 65 (.tmp 10) (.tmp 22) rfl (by simp [Act.eval, Act.put]) (by simp [Act.eval, Act.put]) sizeSp (by rw [HXS.out]; rfl) HX1'.out ?_))
    obtain ⟨W3, hW3⟩ : ∃ z, z = (wr.alloc (.cells zX 65)).setCells wr.heap.size 0 X.toList := ⟨_, rfl⟩
    rw [← hW3]
    obtain ⟨hb3, ha3⟩ := stored_at (y := wr) (T := 65) (Z := zX) (A := X) (by decide) (by rw [HXS.out]; rfl) hW3
    have G3 := Lib.hid (HG.out.go hb3)
    obtain ⟨xb, hxb⟩ : ∃ xb, xb = wr.heap.size := ⟨_, rfl⟩
    rw [← hxb] at ha3 ⊢
    have HXB := Lib.hid (show bz ≤ xb by rw [hxb]; exact HG.out.bzl)
    have AX3 := Lib.hid ha3
    obtain ⟨v0, t3, o3⟩ := HG.out.ex
    obtain ⟨va, vm, vc, hv0⟩ := owns_slice o3
    subst hv0
    have HOB := Lib.hid (show ∀ q, (Value.slice va vm vc).ownBlock = some q → q < xb from fun q e => by rw [hxb]; exact (o3.lt q e).2)
    have c3 := (t3.go hb3).out.cell (i := 0) rfl
    have O3 := Lib.hid (ownsRow_keeps o3 (Keeps.of_below (S := fun _ => False) hb3) (fun _ _ e => e))
    clear hW3 hb3 ha3 hxb HFX HRG HG
    have HRD := Lib.hid (read_okI b B size f L xa xn W3.drew (G3.out.go (Below.refl _ W3).drew).mem x2 x1 x3)
    clear t3 o3
    refine wp_normal ?_
    refine wp_region_held_drew (S := fun w' => ArrAt w' (w.heap.size + 3) M ∧ ArrAt w' xb X) (by kernel_rfl) ⟨G3.out.mv.drew, AX3.out.drew⟩ (fun hS0 => ?_)
    refine takeD 24 (i := 1) (v := .pointer (some ⟨w.heap.size + 3, 0, none⟩)) rfl rfl (by kernel_rfl) (by kernel_rfl) (by kernel_rfl) (fun _ _ _ h => h) (Or.inl ⟨by rfl, by (intro w' _; go_simp)⟩) (by assumption) ?_
    try simp only [Act.put, List.setIfInBounds_toArray, List.set_cons_zero, List.set_cons_succ]
    refine takeD 25 (i := 2) (v := .pointer (some ⟨b, 0, none⟩)) rfl rfl (by kernel_rfl) (by kernel_rfl) (by kernel_rfl) (fun _ _ _ h => h) (Or.inl ⟨by rfl, by (intro w' h; have h2 := h.1.cell HG0.out; clear h; go_simp)⟩) (by assumption) ?_
    try simp only [Act.put, List.setIfInBounds_toArray, List.set_cons_zero, List.set_cons_succ]
    refine takeD 26 (i := 3) (v := .pointer (some ⟨xb, 0, none⟩)) rfl rfl (by kernel_rfl) (by kernel_rfl) (by kernel_rfl) (fun _ _ _ h => h) (Or.inl ⟨by rfl, by (intro w' _; go_simp)⟩) (by assumption) ?_
    try simp only [Act.put, List.setIfInBounds_toArray, List.set_cons_zero, List.set_cons_succ]
    refine takeD 27 (i := 4) (v := .int .u64 xa) rfl rfl (by kernel_rfl) (by kernel_rfl) (by kernel_rfl) (fun _ _ _ h => h) (Or.inl ⟨by rfl, by (intro w' h; have h2 := h.2.cell HX0.out; clear h; go_simp)⟩) (by assumption) ?_
    try simp only [Act.put, List.setIfInBounds_toArray, List.set_cons_zero, List.set_cons_succ]
    refine takeD 28 (i := 5) (v := .pointer (some ⟨xb, 1, none⟩)) rfl rfl (by kernel_rfl) (by kernel_rfl) (by kernel_rfl) (fun _ _ _ h => h) (Or.inl ⟨by rfl, by (intro w' _; go_simp)⟩) (by assumption) ?_
    try simp only [Act.put, List.setIfInBounds_toArray, List.set_cons_zero, List.set_cons_succ]
    refine takeD 29 (i := 6) (v := .int .i64 xn) rfl rfl (by kernel_rfl) (by kernel_rfl) (by kernel_rfl) (fun _ _ _ h => h) (Or.inl ⟨by rfl, by (intro w' h; have h2 := h.2.cell HX1.out; clear h; go_simp)⟩) (by assumption) ?_
    try simp only [Act.put, List.setIfInBounds_toArray, List.set_cons_zero, List.set_cons_succ]
    refine wpAnyH_ready (rs := [0, 7]) (by kernel_rfl) (by simp) (AllReadyH.cons rfl (fun K hK => ?_) (AllReadyH.cons rfl (fun K hK => ?_) AllReadyH.nil))
    ·rw [if_pos (by rfl)]
     go_simp
     refine hK.out _ _ ⟨G3.out.mv.drew, AX3.out.drew⟩ (fun hS0 => ?_)
     clear hK K
     try simp only [Act.put, List.setIfInBounds_toArray, List.set_cons_zero, List.set_cons_succ]
     refine wpAnyH_ready (rs := [7]) (by kernel_rfl) (by simp) (AllReadyH.cons rfl (fun K hK => ?_) AllReadyH.nil)
     rw [if_pos (by rfl)]
     go_simp
     refine HRD.out.mono ?_
     rintro e w4 ⟨v, rfl, hv, hb⟩
     have hb' : Below W3.heap.size W3 w4 := (Below.refl _ W3).drew.trans hb
     have G4 := Lib.hid (G3.out.go hb')
     have AX4 := Lib.hid (AX3.out.below hb')
     have c4 := cellx hb' c3
     have O4 := Lib.hid (ownsRow_keeps O3.out (Keeps.of_below (S := fun _ => False) hb') (fun _ _ e => e))
     have HNB := Lib.hid hv
     refine hK.out _ _ ⟨G4.out.mv, AX4.out⟩ (fun hS0 => ?_)
     clear hK K hb hb' hv c3
     try simp only [Act.put, List.setIfInBounds_toArray, List.set_cons_zero, List.set_cons_succ]
     refine takeD 31 (i := 8) (v := v) rfl rfl (by kernel_rfl) (by kernel_rfl) (by kernel_rfl) (fun _ _ _ h => h) (Or.inl ⟨by rfl, by (intro w' _; go_simp)⟩) (by assumption) ?_
     try simp only [Act.put, List.setIfInBounds_toArray, List.set_cons_zero, List.set_cons_succ]
     refine takeD 32 (i := 9) (v := .int .i64 0) rfl rfl (by kernel_rfl) (by kernel_rfl) (by kernel_rfl) (fun _ _ _ h => h) (Or.inl ⟨by rfl, by (intro w' _; go_simp)⟩) (by assumption) ?_
     try simp only [Act.put, List.setIfInBounds_toArray, List.set_cons_zero, List.set_cons_succ]
     refine wpAnyH_ready (rs := [10]) (by kernel_rfl) (by simp) (AllReadyH.cons rfl (fun K hK => ?_) AllReadyH.nil)
     rw [if_pos (by rfl)]
     go_simp
     refine (tgotB_ok w4 v).mono ?_
     rintro e w5 ⟨rfl, hb⟩
     have G5 := Lib.hid (G4.out.go hb)
     have AX5 := Lib.hid (AX4.out.below hb)
     have c5 := cellx hb c4
     have O5 := Lib.hid (ownsRow_keeps O4.out (Keeps.of_below (S := fun _ => False) hb) (fun _ _ e => e))
     have HNB5 := Lib.hid (HNB.out.kept (Keeps.of_below (S := fun _ => False) hb) (fun _ _ e => e))
     refine hK.out _ _ ⟨G5.out.mv, AX5.out⟩ (fun hS0 => ?_)
     clear hK K hb c4
     try simp only [Act.put, List.setIfInBounds_toArray, List.set_cons_zero, List.set_cons_succ]
     obtain ⟨ng, ncap, nF, rfl, hn1, hn2, hn3, hn4, hn5⟩ := HNB5.out
     obtain ⟨xs, hxs⟩ : ∃ xs, xs = byV (gatF f (l.take k)) := ⟨_, rfl⟩
     rw [← hxs] at O5
     have HNX := Lib.hid (show xs ++ (List.range xn.toNat).map (fun i => Value.int .u8 (f (xa.toNat + i))) = byV (gatF f (l.take (k + 1))) by rw [hxs, HGT.out]; unfold byV; rw [List.map_append, List.map_map]; rfl)
     have hxl : xs.length ≤ 4194304 := by
      have h1 := gatF_length f (l.take k) (fun y hy => (HLX.out y (List.mem_of_mem_take hy)).1)
      have h2 := sumS_take l k (fun y hy => (HLX.out y hy).1)
      have h3 := HLS.out
      rw [hxs]
      unfold byV
      rw [List.length_map]
      omega
     have hsm := G5.out.mem.small
     have HN2 := Lib.hid hn2
     have HN5 := Lib.hid hn5
     have hnl := hn2.lt
     have hbz5 := G5.out.bzl
     clear hxs hn1 hn2 hn5
     refine wpAnyH_ready (rs := [11]) (by kernel_rfl) (by simp) (AllReadyH.cons rfl (fun K hK => ?_) AllReadyH.nil)
     rw [if_pos (by rfl)]
     refine wp_append_own w5 (.tmp 23) (.tmp 33) 31 rfl bz 5 i0 (.int .u8 0) 1 1 Tryz.underlying31 hi hz0 hz1 hz2 rfl (by decide) (.slice va vm vc) xs.length xs rfl O5.out ⟨ng, 0, none⟩ xn.toNat ncap ((List.range xn.toNat).map (fun i => Value.int .u8 (f (xa.toNat + i)))) rfl (by simp) ?n1 ?n2 ?n3 ?n4 hbz5 ?n5
     case n1 =>
      intro j u hu
      simp only [List.getElem?_map, Option.map_eq_some_iff] at hu
      obtain ⟨q, hq, rfl⟩ := hu
      simp only [List.range_eq_range'] at hq
      by_cases hj : j < xn.toNat
      ·simp [hj] at hq; subst hq
       rw [Addr.add_mid, Nat.zero_add, HN2.out.cell (by omega), HN5.out j hj]
      ·simp [hj] at hq
     case n2 => intro u hu; simp at hu; obtain ⟨q, -, rfl⟩ := hu; rfl
     case n3 => unfold maxLen; omega
     case n4 => omega
     case n5 =>
      intro v6 w6 hown hgr _
      have hk6 := grown_keeps (Below.refl _ w5) O5.out hbz5 hgr
      have hbg := G5.out.bzg
      have hcw : w6.cell? ⟨w.heap.size + 1, 0, none⟩ = some (.slice va vm vc) := hk6.cell c5 (fun e => by have e : bz ≤ w.heap.size + 1 := e; omega)
      have hfw : w6.frozen? ⟨w.heap.size + 1, 0, none⟩ = false := by
       obtain ⟨v', t', -⟩ := G5.out.ex
       rw [World.frozen?_of_block (w := w5) (hk6.block (w.heap.size + 1) t'.out.lt (fun e => by have e : bz ≤ w.heap.size + 1 := e; omega))]
       exact t'.out.frozen t'.out.pos
      obtain ⟨ya, ym, yc, rfl⟩ := owns_slice hown
      have hAM6 := G5.out.mv.kept hk6 (fun e => by have e : bz ≤ w.heap.size + 3 := e; omega)
      have hkx : Keeps (fun j => ∃ q, (Value.slice va vm vc).ownBlock = some q ∧ j = q) w5 w6 := ⟨hgr.os, hgr.tape, hgr.output, hgr.size, fun j hj e => hgr.block j hj (fun e2 => e ⟨j, e2.symm, rfl⟩)⟩
      have AX6 := Lib.hid (AX5.out.kept hkx (fun ⟨q, e1, e2⟩ => by have := HOB.out q e1; omega))
      have hlen : xs.length + xn.toNat = (xs ++ (List.range xn.toNat).map (fun i => Value.int .u8 (f (xa.toNat + i)))).length := by simp
      rw [hlen, HNX.out] at hown
      have G7 := Lib.hid (G5.out.put hk6 hown)
      have AX7 := Lib.hid (AX6.out.kept (W' := w6.setCell ⟨w.heap.size + 1, 0, none⟩ (.slice ya ym yc)) ((Keeps.refl (One (w.heap.size + 1)) w6).set1 _ _) (fun e => by have e : xb = w.heap.size + 1 := e; have := HXB.out; omega))
      refine hK.out _ _ ⟨hAM6, AX6.out⟩ (fun hS0 => ?_)
      clear hK K hk6 hown hgr hlen hAM6 hkx
      try simp only [Act.put, List.setIfInBounds_toArray, List.set_cons_zero, List.set_cons_succ]
      refine wpAnyH_ready (rs := [12]) (by kernel_rfl) (by simp) (AllReadyH.cons rfl (fun K hK => ?_) AllReadyH.nil)
      rw [if_pos (by rfl)]
      go_simp
      refine hK.out _ _ ⟨G7.out.mv, AX7.out⟩ (fun hS0 => ?_)
      clear hK K
      try simp only [Act.put, List.setIfInBounds_toArray, List.set_cons_zero, List.set_cons_succ]
      refine wpAnyH_done (by kernel_rfl) ?_ _
      refine NormalOnly.intro ?_
      have hlm := HLM.out
      go_wp2_with fail
      have hv19 : Value.int IntKind.i64 ((k : Int) + 1) = .int .i64 ((k + 1 : Nat) : Int) := by rw [Int.natCast_add]; rfl
      have hk1 : k + 1 ≤ l.length := hkn
      go_roundw
      case rel =>
       first
        | exact ⟨k + 1, hk1, hv19, G7.out⟩
        | ((repeat apply Exists.intro); exact ⟨⟨k + 1, hk1, hv19, G7.out⟩, rfl⟩)
      case measure => simp [intOf]; omega
    ·rw [if_pos (by rfl)]
     go_simp
     refine HRD.out.mono ?_
     rintro e w4 ⟨v, rfl, hv, hb⟩
     have hb' : Below W3.heap.size W3 w4 := (Below.refl _ W3).drew.trans hb
     have G4 := Lib.hid (G3.out.go hb')
     have AX4 := Lib.hid (AX3.out.below hb')
     have c4 := cellx hb' c3
     have O4 := Lib.hid (ownsRow_keeps O3.out (Keeps.of_below (S := fun _ => False) hb') (fun _ _ e => e))
     have HNB := Lib.hid hv
     refine hK.out _ _ ⟨G4.out.mv, AX4.out⟩ (fun hS0 => ?_)
     clear hK K hb hb' hv c3
     try simp only [Act.put, List.setIfInBounds_toArray, List.set_cons_zero, List.set_cons_succ]
     refine takeD 31 (i := 8) (v := v) rfl rfl (by kernel_rfl) (by kernel_rfl) (by kernel_rfl) (fun _ _ _ h => h) (Or.inl ⟨by rfl, by (intro w' _; go_simp)⟩) (by assumption) ?_
     try simp only [Act.put, List.setIfInBounds_toArray, List.set_cons_zero, List.set_cons_succ]
     refine takeD 32 (i := 9) (v := .int .i64 0) rfl rfl (by kernel_rfl) (by kernel_rfl) (by kernel_rfl) (fun _ _ _ h => h) (Or.inl ⟨by rfl, by (intro w' _; go_simp)⟩) (by assumption) ?_
     try simp only [Act.put, List.setIfInBounds_toArray, List.set_cons_zero, List.set_cons_succ]
     refine wpAnyH_ready (rs := [0, 10]) (by kernel_rfl) (by simp) (AllReadyH.cons rfl (fun K hK => ?_) (AllReadyH.cons rfl (fun K hK => ?_) AllReadyH.nil))
     ·rw [if_pos (by rfl)]
      go_simp
      refine hK.out _ _ ⟨G4.out.mv, AX4.out⟩ (fun hS0 => ?_)
      clear hK K
      try simp only [Act.put, List.setIfInBounds_toArray, List.set_cons_zero, List.set_cons_succ]
      refine wpAnyH_ready (rs := [10]) (by kernel_rfl) (by simp) (AllReadyH.cons rfl (fun K hK => ?_) AllReadyH.nil)
      rw [if_pos (by rfl)]
      go_simp
      refine (tgotB_ok w4 v).mono ?_
      rintro e w5 ⟨rfl, hb⟩
      have G5 := Lib.hid (G4.out.go hb)
      have AX5 := Lib.hid (AX4.out.below hb)
      have c5 := cellx hb c4
      have O5 := Lib.hid (ownsRow_keeps O4.out (Keeps.of_below (S := fun _ => False) hb) (fun _ _ e => e))
      have HNB5 := Lib.hid (HNB.out.kept (Keeps.of_below (S := fun _ => False) hb) (fun _ _ e => e))
      refine hK.out _ _ ⟨G5.out.mv, AX5.out⟩ (fun hS0 => ?_)
      clear hK K hb c4
      try simp only [Act.put, List.setIfInBounds_toArray, List.set_cons_zero, List.set_cons_succ]
      obtain ⟨ng, ncap, nF, rfl, hn1, hn2, hn3, hn4, hn5⟩ := HNB5.out
      obtain ⟨xs, hxs⟩ : ∃ xs, xs = byV (gatF f (l.take k)) := ⟨_, rfl⟩
      rw [← hxs] at O5
      have HNX := Lib.hid (show xs ++ (List.range xn.toNat).map (fun i => Value.int .u8 (f (xa.toNat + i))) = byV (gatF f (l.take (k + 1))) by rw [hxs, HGT.out]; unfold byV; rw [List.map_append, List.map_map]; rfl)
      have hxl : xs.length ≤ 4194304 := by
       have h1 := gatF_length f (l.take k) (fun y hy => (HLX.out y (List.mem_of_mem_take hy)).1)
       have h2 := sumS_take l k (fun y hy => (HLX.out y hy).1)
       have h3 := HLS.out
       rw [hxs]
       unfold byV
       rw [List.length_map]
       omega
      have hsm := G5.out.mem.small
      have HN2 := Lib.hid hn2
      have HN5 := Lib.hid hn5
      have hnl := hn2.lt
      have hbz5 := G5.out.bzl
      clear hxs hn1 hn2 hn5
      refine wpAnyH_ready (rs := [11]) (by kernel_rfl) (by simp) (AllReadyH.cons rfl (fun K hK => ?_) AllReadyH.nil)
      rw [if_pos (by rfl)]
      refine wp_append_own w5 (.tmp 23) (.tmp 33) 31 rfl bz 5 i0 (.int .u8 0) 1 1 Tryz.underlying31 hi hz0 hz1 hz2 rfl (by decide) (.slice va vm vc) xs.length xs rfl O5.out ⟨ng, 0, none⟩ xn.toNat ncap ((List.range xn.toNat).map (fun i => Value.int .u8 (f (xa.toNat + i)))) rfl (by simp) ?n1 ?n2 ?n3 ?n4 hbz5 ?n5
      case n1 =>
       intro j u hu
       simp only [List.getElem?_map, Option.map_eq_some_iff] at hu
       obtain ⟨q, hq, rfl⟩ := hu
       simp only [List.range_eq_range'] at hq
       by_cases hj : j < xn.toNat
       ·simp [hj] at hq; subst hq
        rw [Addr.add_mid, Nat.zero_add, HN2.out.cell (by omega), HN5.out j hj]
       ·simp [hj] at hq
      case n2 => intro u hu; simp at hu; obtain ⟨q, -, rfl⟩ := hu; rfl
      case n3 => unfold maxLen; omega
      case n4 => omega
      case n5 =>
       intro v6 w6 hown hgr _
       have hk6 := grown_keeps (Below.refl _ w5) O5.out hbz5 hgr
       have hbg := G5.out.bzg
       have hcw : w6.cell? ⟨w.heap.size + 1, 0, none⟩ = some (.slice va vm vc) := hk6.cell c5 (fun e => by have e : bz ≤ w.heap.size + 1 := e; omega)
       have hfw : w6.frozen? ⟨w.heap.size + 1, 0, none⟩ = false := by
        obtain ⟨v', t', -⟩ := G5.out.ex
        rw [World.frozen?_of_block (w := w5) (hk6.block (w.heap.size + 1) t'.out.lt (fun e => by have e : bz ≤ w.heap.size + 1 := e; omega))]
        exact t'.out.frozen t'.out.pos
       obtain ⟨ya, ym, yc, rfl⟩ := owns_slice hown
       have hAM6 := G5.out.mv.kept hk6 (fun e => by have e : bz ≤ w.heap.size + 3 := e; omega)
       have hkx : Keeps (fun j => ∃ q, (Value.slice va vm vc).ownBlock = some q ∧ j = q) w5 w6 := ⟨hgr.os, hgr.tape, hgr.output, hgr.size, fun j hj e => hgr.block j hj (fun e2 => e ⟨j, e2.symm, rfl⟩)⟩
       have AX6 := Lib.hid (AX5.out.kept hkx (fun ⟨q, e1, e2⟩ => by have := HOB.out q e1; omega))
       have hlen : xs.length + xn.toNat = (xs ++ (List.range xn.toNat).map (fun i => Value.int .u8 (f (xa.toNat + i)))).length := by simp
       rw [hlen, HNX.out] at hown
       have G7 := Lib.hid (G5.out.put hk6 hown)
       have AX7 := Lib.hid (AX6.out.kept (W' := w6.setCell ⟨w.heap.size + 1, 0, none⟩ (.slice ya ym yc)) ((Keeps.refl (One (w.heap.size + 1)) w6).set1 _ _) (fun e => by have e : xb = w.heap.size + 1 := e; have := HXB.out; omega))
       refine hK.out _ _ ⟨hAM6, AX6.out⟩ (fun hS0 => ?_)
       clear hK K hk6 hown hgr hlen hAM6 hkx
       try simp only [Act.put, List.setIfInBounds_toArray, List.set_cons_zero, List.set_cons_succ]
       refine wpAnyH_ready (rs := [12]) (by kernel_rfl) (by simp) (AllReadyH.cons rfl (fun K hK => ?_) AllReadyH.nil)
       rw [if_pos (by rfl)]
       go_simp
       refine hK.out _ _ ⟨G7.out.mv, AX7.out⟩ (fun hS0 => ?_)
       clear hK K
       try simp only [Act.put, List.setIfInBounds_toArray, List.set_cons_zero, List.set_cons_succ]
       refine wpAnyH_done (by kernel_rfl) ?_ _
       refine NormalOnly.intro ?_
       have hlm := HLM.out
       go_wp2_with fail
       have hv19 : Value.int IntKind.i64 ((k : Int) + 1) = .int .i64 ((k + 1 : Nat) : Int) := by rw [Int.natCast_add]; rfl
       have hk1 : k + 1 ≤ l.length := hkn
       go_roundw
       case rel =>
        first
         | exact ⟨k + 1, hk1, hv19, G7.out⟩
         | ((repeat apply Exists.intro); exact ⟨⟨k + 1, hk1, hv19, G7.out⟩, rfl⟩)
       case measure => simp [intOf]; omega
     ·rw [if_pos (by rfl)]
      go_simp
      refine (tgotB_ok w4 v).mono ?_
      rintro e w5 ⟨rfl, hb⟩
      have G5 := Lib.hid (G4.out.go hb)
      have AX5 := Lib.hid (AX4.out.below hb)
      have c5 := cellx hb c4
      have O5 := Lib.hid (ownsRow_keeps O4.out (Keeps.of_below (S := fun _ => False) hb) (fun _ _ e => e))
      have HNB5 := Lib.hid (HNB.out.kept (Keeps.of_below (S := fun _ => False) hb) (fun _ _ e => e))
      refine hK.out _ _ ⟨G5.out.mv, AX5.out⟩ (fun hS0 => ?_)
      clear hK K hb c4
      try simp only [Act.put, List.setIfInBounds_toArray, List.set_cons_zero, List.set_cons_succ]
      refine wpAnyH_ready (rs := [0]) (by kernel_rfl) (by simp) (AllReadyH.cons rfl (fun K hK => ?_) AllReadyH.nil)
      rw [if_pos (by rfl)]
      go_simp
      refine hK.out _ _ ⟨G5.out.mv, AX5.out⟩ (fun hS0 => ?_)
      clear hK K
      try simp only [Act.put, List.setIfInBounds_toArray, List.set_cons_zero, List.set_cons_succ]
      obtain ⟨ng, ncap, nF, rfl, hn1, hn2, hn3, hn4, hn5⟩ := HNB5.out
      obtain ⟨xs, hxs⟩ : ∃ xs, xs = byV (gatF f (l.take k)) := ⟨_, rfl⟩
      rw [← hxs] at O5
      have HNX := Lib.hid (show xs ++ (List.range xn.toNat).map (fun i => Value.int .u8 (f (xa.toNat + i))) = byV (gatF f (l.take (k + 1))) by rw [hxs, HGT.out]; unfold byV; rw [List.map_append, List.map_map]; rfl)
      have hxl : xs.length ≤ 4194304 := by
       have h1 := gatF_length f (l.take k) (fun y hy => (HLX.out y (List.mem_of_mem_take hy)).1)
       have h2 := sumS_take l k (fun y hy => (HLX.out y hy).1)
       have h3 := HLS.out
       rw [hxs]
       unfold byV
       rw [List.length_map]
       omega
      have hsm := G5.out.mem.small
      have HN2 := Lib.hid hn2
      have HN5 := Lib.hid hn5
      have hnl := hn2.lt
      have hbz5 := G5.out.bzl
      clear hxs hn1 hn2 hn5
      refine wpAnyH_ready (rs := [11]) (by kernel_rfl) (by simp) (AllReadyH.cons rfl (fun K hK => ?_) AllReadyH.nil)
      rw [if_pos (by rfl)]
      refine wp_append_own w5 (.tmp 23) (.tmp 33) 31 rfl bz 5 i0 (.int .u8 0) 1 1 Tryz.underlying31 hi hz0 hz1 hz2 rfl (by decide) (.slice va vm vc) xs.length xs rfl O5.out ⟨ng, 0, none⟩ xn.toNat ncap ((List.range xn.toNat).map (fun i => Value.int .u8 (f (xa.toNat + i)))) rfl (by simp) ?n1 ?n2 ?n3 ?n4 hbz5 ?n5
      case n1 =>
       intro j u hu
       simp only [List.getElem?_map, Option.map_eq_some_iff] at hu
       obtain ⟨q, hq, rfl⟩ := hu
       simp only [List.range_eq_range'] at hq
       by_cases hj : j < xn.toNat
       ·simp [hj] at hq; subst hq
        rw [Addr.add_mid, Nat.zero_add, HN2.out.cell (by omega), HN5.out j hj]
       ·simp [hj] at hq
      case n2 => intro u hu; simp at hu; obtain ⟨q, -, rfl⟩ := hu; rfl
      case n3 => unfold maxLen; omega
      case n4 => omega
      case n5 =>
       intro v6 w6 hown hgr _
       have hk6 := grown_keeps (Below.refl _ w5) O5.out hbz5 hgr
       have hbg := G5.out.bzg
       have hcw : w6.cell? ⟨w.heap.size + 1, 0, none⟩ = some (.slice va vm vc) := hk6.cell c5 (fun e => by have e : bz ≤ w.heap.size + 1 := e; omega)
       have hfw : w6.frozen? ⟨w.heap.size + 1, 0, none⟩ = false := by
        obtain ⟨v', t', -⟩ := G5.out.ex
        rw [World.frozen?_of_block (w := w5) (hk6.block (w.heap.size + 1) t'.out.lt (fun e => by have e : bz ≤ w.heap.size + 1 := e; omega))]
        exact t'.out.frozen t'.out.pos
       obtain ⟨ya, ym, yc, rfl⟩ := owns_slice hown
       have hAM6 := G5.out.mv.kept hk6 (fun e => by have e : bz ≤ w.heap.size + 3 := e; omega)
       have hkx : Keeps (fun j => ∃ q, (Value.slice va vm vc).ownBlock = some q ∧ j = q) w5 w6 := ⟨hgr.os, hgr.tape, hgr.output, hgr.size, fun j hj e => hgr.block j hj (fun e2 => e ⟨j, e2.symm, rfl⟩)⟩
       have AX6 := Lib.hid (AX5.out.kept hkx (fun ⟨q, e1, e2⟩ => by have := HOB.out q e1; omega))
       have hlen : xs.length + xn.toNat = (xs ++ (List.range xn.toNat).map (fun i => Value.int .u8 (f (xa.toNat + i)))).length := by simp
       rw [hlen, HNX.out] at hown
       have G7 := Lib.hid (G5.out.put hk6 hown)
       have AX7 := Lib.hid (AX6.out.kept (W' := w6.setCell ⟨w.heap.size + 1, 0, none⟩ (.slice ya ym yc)) ((Keeps.refl (One (w.heap.size + 1)) w6).set1 _ _) (fun e => by have e : xb = w.heap.size + 1 := e; have := HXB.out; omega))
       refine hK.out _ _ ⟨hAM6, AX6.out⟩ (fun hS0 => ?_)
       clear hK K hk6 hown hgr hlen hAM6 hkx
       try simp only [Act.put, List.setIfInBounds_toArray, List.set_cons_zero, List.set_cons_succ]
       refine wpAnyH_ready (rs := [12]) (by kernel_rfl) (by simp) (AllReadyH.cons rfl (fun K hK => ?_) AllReadyH.nil)
       rw [if_pos (by rfl)]
       go_simp
       refine hK.out _ _ ⟨G7.out.mv, AX7.out⟩ (fun hS0 => ?_)
       clear hK K
       try simp only [Act.put, List.setIfInBounds_toArray, List.set_cons_zero, List.set_cons_succ]
       refine wpAnyH_done (by kernel_rfl) ?_ _
       refine NormalOnly.intro ?_
       have hlm := HLM.out
       go_wp2_with fail
       have hv19 : Value.int IntKind.i64 ((k : Int) + 1) = .int .i64 ((k + 1 : Nat) : Int) := by rw [Int.natCast_add]; rfl
       have hk1 : k + 1 ≤ l.length := hkn
       go_roundw
       case rel =>
        first
         | exact ⟨k + 1, hk1, hv19, G7.out⟩
         | ((repeat apply Exists.intro); exact ⟨⟨k + 1, hk1, hv19, G7.out⟩, rfl⟩)
       case measure => simp [intOf]; omega
   ·have q1 : decide ((k : Int) < (l.length : Int)) = false := decide_eq_false (by omega)
    have q2 : decide (k < l.length) = false := decide_eq_false (by omega)
    have HKE := Lib.hid (show gatF f (l.take k) = gatF f l by rw [List.take_of_length_le (by omega)])
    obtain ⟨v0, t3, o3⟩ := HG.out.ex
    obtain ⟨va, vm, vc, hv0⟩ := owns_slice o3
    subst hv0
    have T3 := Lib.hid t3
    have O3 := Lib.hid o3
    have hbg := HG.out.bzg
    clear t3 o3
    go_upto_region 8 with fail
    refine wp_normal ?_
    refine wp_region_held_drew (S := fun w' => w'.cell? ⟨w.heap.size + 1, 0, none⟩ = some (.slice va vm vc) ∧ ArrAt w' (w.heap.size + 2) st0) (by kernel_rfl) ⟨T3.out.out.cell (i := 0) rfl, T3.out.st.drew⟩ (fun hS0 => ?_)
    refine takeD 36 (i := 0) (v := .slice va vm vc) rfl rfl (by kernel_rfl) (by kernel_rfl) (by kernel_rfl) (fun _ _ _ h => h) (Or.inl ⟨by rfl, by (intro w' h; have h2 := h.1; clear h; go_simp)⟩) (by assumption) ?_
    try simp only [Act.put, List.setIfInBounds_toArray, List.set_cons_zero, List.set_cons_succ]
    refine takeD 37 (i := 1) (v := .agg st0) rfl rfl (by kernel_rfl) (by kernel_rfl) (by kernel_rfl) (fun _ _ _ h => h) (yieldsA (by rfl) 54 (.tmp 7) rfl (w.heap.size + 2) (by first | rfl | simp [Act.eval, Act.put]) st0 (fun w h => h.2.rng) Tryz.underlying54 rfl sizeSt) (by assumption) ?_
    try simp only [Act.put, List.setIfInBounds_toArray, List.set_cons_zero, List.set_cons_succ]
    refine wpAnyH_ready (rs := [2]) (by kernel_rfl) (by simp) (AllReadyH.cons rfl (fun K hK => ?_) AllReadyH.nil)
    rw [if_pos (by rfl)]
    obtain ⟨⟨u, hu⟩, hfu⟩ := T3.out.out.sl
    go_simp
    have T4 := Lib.hid ((T3.out.go (Below.refl _ _).drew).setOut (.slice va vm vc))
    refine hK.out _ _ ⟨T4.out.out.cell (i := 0) rfl, T4.out.st⟩ (fun hS0 => ?_)
    clear hK K hu hfu
    try simp only [Act.put, List.setIfInBounds_toArray, List.set_cons_zero, List.set_cons_succ]
    refine wpAnyH_ready (rs := [3]) (by kernel_rfl) (by simp) (AllReadyH.cons rfl (fun K hK => ?_) AllReadyH.nil)
    rw [if_pos (by rfl)]
    refine wp_storeN 54 (.tmp 7) (.tmp 37) rfl rfl (w.heap.size + 2) 0 st0 (by first | rfl | simp [Act.eval, Act.put]) (by first | rfl | simp [Act.eval, Act.put]) T4.out.st.th sizeSt st0_one ?_
    have T5 := Lib.hid T4.out.setSt
    have k4 : Keeps (One (w.heap.size + 1)) wr (wr.drew.setCell ⟨w.heap.size + 1, 0, none⟩ (.slice va vm vc)) := ((Keeps.refl _ _).drew).set1 _ _
    have k5 : ∀ W : World, Keeps (One (w.heap.size + 2)) W (W.setCells (w.heap.size + 2) 0 st0.toList) := fun W => Keeps.store (S := One (w.heap.size + 2)) (Keeps.refl _ _) (fun _ => rfl) _ _
    have O5 := Lib.hid (ownsRow_keeps (ownsRow_keeps O3.out k4 (fun j hj e => by have e : j = w.heap.size + 1 := e; omega)) (k5 _) (fun j hj e => by have e : j = w.heap.size + 2 := e; omega))
    refine hK.out _ _ ⟨T5.out.out.cell (i := 0) rfl, T5.out.st⟩ (fun hS0 => ?_)
    clear hK K
    try simp only [Act.put, List.setIfInBounds_toArray, List.set_cons_zero, List.set_cons_succ]
    refine wpAnyH_done (by kernel_rfl) ?_ _
    refine NormalOnly.intro ?_
    go_wp2_with fail
    refine tl_good (results_vs Tryz.results36 (load_bytes (T5.out.out.cell (i := 0) rfl)) T5.out.st rfl rfl rfl) ⟨T5.out.below, _, rfl, ?_⟩
    have h := O5.out
    rw [HKE.out] at h
    have hlb : (byV (gatF f l)).length = (gatF f l).length := List.length_map _
    rw [hlb] at h
    exact owns_less h (by omega)
end Go.Proofs.YtfmabknhfehdcaaGreat
