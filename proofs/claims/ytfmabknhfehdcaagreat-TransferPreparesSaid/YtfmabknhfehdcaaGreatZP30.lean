/- transfer: Scatter. -/
import Derived.Test.YtfmabknhfehdcaaGreatZP29
import Derived.Test.YtfmabknhfehdcaaGreatZP16
import Derived.Test.YtfmabknhfehdcaaGreatZP18
import Derived.Test.YtfmabknhfehdcaaGreatZP2
import Derived.Laws.StructEq
namespace Go.Proofs.YtfmabknhfehdcaaGreat
set_option linter.unusedSimpArgs false
set_option linter.unusedVariables false
open Go.RowKit
theorem scat_app (g : Nat → Int) : ∀ (a b : List Spn) (k : Nat) (f : Nat → Int), scatF g (a ++ b) k f = scatF g b (k + sumN a) (scatF g a k f)
 | [], b, k, f => rfl
 | x :: r, b, k, f => by
  simp only [List.cons_append, scatF, sumN]
  rw [scat_app g r b, Nat.add_assoc]
theorem sumN_app : ∀ (a b : List Spn), sumN (a ++ b) = sumN a + sumN b
 | [], b => by simp [sumN]
 | x :: r, b => by simp only [List.cons_append, sumN, sumN_app r b]; omega
theorem sumN_take (l : List Spn) (k : Nat) (hk : k < l.length) : sumN (l.take (k + 1)) = sumN (l.take k) + (l[k]'hk).n.toNat := by
 rw [List.take_add_one, List.getElem?_eq_getElem hk, sumN_app]
 simp [sumN]
theorem sumN_le (l : List Spn) (k : Nat) : sumN (l.take k) ≤ sumN l := by
 have h := sumN_app (l.take k) (l.drop k)
 rw [List.take_append_drop] at h
 omega
theorem scat_take (g : Nat → Int) (f : Nat → Int) (l : List Spn) (k : Nat) (hk : k < l.length) :
  scatF g (l.take (k + 1)) 0 f = if (l[k]'hk).bk then scatF g (l.take k) 0 f else upd (scatF g (l.take k) 0 f) (l[k]'hk).a.toNat (l[k]'hk).n.toNat fun i => g (sumN (l.take k) + i) := by
 rw [List.take_add_one, List.getElem?_eq_getElem hk, scat_app]
 simp [scatF]
/-- What holds in the loop of Scatter. -/
structure ScS (w : World) (C M : Array Value) (b B size : Nat) (F : Nat → Int) (ll : Nat) (l : List Spn) (sv : Option Addr) (m : Nat) (g : Nat → Int) (W : World) : Prop where
 keep : Keeps (Two b B) w W
 c : ArrAt W w.heap.size C
 d : ∃ v, ArrAt W (w.heap.size + 1) #[v] ∧ RestAt (fun j => Two b B j ∨ j = w.heap.size + 1) W v m g
 st : ArrAt W (w.heap.size + 2) st0
 mv : ArrAt W (w.heap.size + 3) M
 mem : ∃ L, L.length ≤ ll ∧ MemAt W b B size F L
 sp : SpAt W sv l
 spb : ∀ g o, sv = some ⟨g, o, none⟩ → w.heap.size + 4 ≤ g
 bl : b < w.heap.size
 Bl : B < w.heap.size
namespace ScS
set_option linter.unusedSimpArgs false
set_option linter.unusedVariables false
variable {w W W' : World} {C M : Array Value} {b B size ll : Nat} {F : Nat → Int} {l : List Spn} {sv : Option Addr} {m : Nat} {g : Nat → Int}
theorem go (h : ScS w C M b B size F ll l sv m g W) (hb : Below W.heap.size W W') : ScS w C M b B size F ll l sv m g W' := by
 obtain ⟨h1, h2, ⟨v, h3, h4⟩, h5, h6, ⟨L, h7, h8⟩, h9, h10, h11, h12⟩ := h
 exact ⟨h1.trans (Keeps.of_below hb), h2.below hb, ⟨v, h3.below hb, h4.below hb⟩, h5.below hb, h6.below hb, ⟨L, h7, h8.below hb⟩, h9.below hb, h10, h11, h12⟩
theorem next (h : ScS w C M b B size F ll l sv m g W) {v' : Value} {n : Nat} (hr : RestAt (fun j => Two b B j ∨ j = w.heap.size + 1) (W.setCell ⟨w.heap.size + 1, 0, none⟩ v') v' (m - n) (fun i => g (n + i))) : ScS w C M b B size F ll l sv (m - n) (fun i => g (n + i)) (W.setCell ⟨w.heap.size + 1, 0, none⟩ v') := by
 obtain ⟨h1, h2, ⟨v, h3, h4⟩, h5, h6, ⟨L, h7, h8⟩, h9, h10, h11, h12⟩ := h
 have k : Keeps (One (w.heap.size + 1)) W (W.setCell ⟨w.heap.size + 1, 0, none⟩ v') := (Keeps.refl _ _).set1 _ _
 have ne : ∀ j, j ≠ w.heap.size + 1 → ¬ One (w.heap.size + 1) j := fun j hj e => hj e
 refine ⟨⟨k.os.trans h1.os, k.tape.trans h1.tape, k.output.trans h1.output, Nat.le_trans h1.size k.size, fun j hj hS => (k.block j (Nat.lt_of_lt_of_le hj h1.size) (ne j (by omega))).trans (h1.block j hj hS)⟩, h2.kept k (ne _ (by omega)), ⟨v', h3.store #[v'] rfl, hr⟩, h5.kept k (ne _ (by omega)), h6.kept k (ne _ (by omega)), ⟨L, h7, h8.kept k (ne _ (by omega)) (ne _ (by omega))⟩, ?_, h10, h11, h12⟩
 exact h9.keeps k (fun g o e => ne _ (by have := h10 g o e; omega))
theorem write (h : ScS w C M b B size F ll l sv m g W) {F' : Nat → Int} {ll' : Nat} (k : Keeps (Two b B) W W') (hm : ∃ L, L.length ≤ ll' ∧ MemAt W' b B size F' L) : ScS w C M b B size F' ll' l sv m g W' := by
 obtain ⟨h1, h2, ⟨v, h3, h4⟩, h5, h6, -, h9, h10, h11, h12⟩ := h
 have ne : ∀ j, w.heap.size ≤ j → ¬ Two b B j := fun j hj e => by rcases e with e | e <;> omega
 exact ⟨h1.trans k, h2.kept k (ne _ (by omega)), ⟨v, h3.kept k (ne _ (by omega)), h4.kept k (fun j e => .inl e)⟩, h5.kept k (ne _ (by omega)), h6.kept k (ne _ (by omega)), hm, h9.keeps k (fun g o e => ne _ (by have := h10 g o e; omega)), h10, h11, h12⟩
theorem same (h : ScS w C M b B size F ll l sv m g W) {F' : Nat → Int} {ll' : Nat} (hF : F' = F) (hl : ll ≤ ll') : ScS w C M b B size F' ll' l sv m g W := by
 subst hF
 obtain ⟨L, h7, h8⟩ := h.mem
 exact ⟨h.keep, h.c, h.d, h.st, h.mv, ⟨L, by omega, h8⟩, h.sp, h.spb, h.bl, h.Bl⟩
theorem asm (h : ScS w C M b B size F ll l sv m g W) {m' : Nat} {g' : Nat → Int} (hm : m = m') (hg : g = g') : ScS w C M b B size F ll l sv m' g' W := by
 subst hm hg
 exact h
end ScS
/-- What Scatter leaves. -/
def TscPost (w : World) (b B size : Nat) (f : Nat → Int) (ll : Nat) (g : Nat → Int) (R : Except Int (List Spn)) (e : Ending) (w' : World) : Prop :=
 match R with
 | .error c => e = .returned (.agg (stA c)) ∧ Below w.heap.size w w'
 | .ok l => e = .returned (.agg st0) ∧ Keeps (Two b B) w w' ∧ ∃ L, L.length ≤ ll + l.length ∧ MemAt w' b B size (scatF g l 0 f) L
set_option maxRecDepth 100000 in
set_option maxHeartbeats 16000000 in
theorem ts_of (b B size : Nat) (f : Nat → Int) (L : List (Nat × Nat)) (C : Array Value) (ao : Option Addr) (N dc : Nat) (g : Nat → Int) (R : Except Int (List Spn)) (w : World) (h16 : C.size = 16) (hone : C.all (·.oneCell') = true) (hM : MemAt w b B size f L) (hN : N ≤ 4611686018427387904)
  (hD : RestAt (Two b B) w (.slice ao N dc) N g) (hL : L.length < 1000000)
  (hsp : ∀ W, Below w.heap.size w W → Calls Tryz.prog 35 #[.agg (#[.pointer (some ⟨b, 0, none⟩)] ++ C), .int .i64 N, .bool true] W (MsPost W R))
  (hl : ∀ l, R = .ok l → (∀ x ∈ l, 0 ≤ x.n ∧ 0 ≤ x.a ∧ (x.bk = false → x.a + x.n ≤ size)) ∧ sumN l ≤ N ∧ l.length ≤ 1000000) :
  Calls Tryz.prog 13 #[.pointer (some ⟨b, 0, none⟩), .agg C, .slice ao N dc] w (TscPost w b B size f L.length g R) := by
 have HSP := Lib.hid hsp
 have HL := Lib.hid hl
 have HLL := Lib.hid hL
 have HMM := Lib.hid hM
 have HBL := Lib.hid hM.lt
 have HBL' := Lib.hid hM.lt'
 have H16 := Lib.hid h16
 have HD := Lib.hid hD
 have HV : Mv (#[.pointer (some ⟨b, 0, none⟩)] ++ C) (some ⟨b, 0, none⟩) C := ⟨h16, rfl, hone⟩
 have HG0 := Lib.hid HV.g0
 have HMO := Lib.hid HV.one
 have HMS := Lib.hid HV.size
 have HCZ := Lib.hid (show (Tryz.prog.info? 28).map (·.size) = some C.size by rw [h16]; exact sizeCm)
 have HMZ := Lib.hid (show (Tryz.prog.info? 96).map (·.size) = some (#[Value.pointer (some ⟨b, 0, none⟩)] ++ C).size by rw [HV.size]; exact sizeMv)
 have HBM := Lib.hid (fun w => buildMv (some ⟨b, 0, none⟩) C h16 w)
 clear hsp h16 hone HV hM hl hD hL
 have hmf : ∀ (fn : Fn) (first cap : Array Value) (w : World), (Instr.makeFunc fn first cap).run Tryz.prog w = .ok (.func fn first cap) w := fun _ _ _ _ => rfl
 go_enter_defers Tryz.func13, Tryz.ntmps13
 go_upto_region 2 with ((with_reducible show wpList _ _ _ (⟨some 6, _, _, _, _, _⟩ :: _) _ _); refine wpList_alloc rfl 54 rfl zeroSt ?_; rw [show (Value.agg st0).cells = st0 from rfl])
 obtain ⟨W0, hW0⟩ : ∃ W0, W0 = (((w.alloc (.cells C 28)).alloc (.cells #[.slice ao N dc] 31)).alloc (.cells st0 54)) := ⟨_, rfl⟩
 rw [← hW0]
 have hbb0 : Below w.heap.size w W0 := by rw [hW0]; exact (((Below.refl _ w).alloc (Nat.le_refl _) _).alloc (by simp) _).alloc (by simp; omega) _
 have hcc0 : ArrAt W0 w.heap.size C := by rw [hW0]; exact ((ArrAt.fresh w C _ (by rw [H16.out]; decide)).alloc _).alloc _
 have hdd0 : ArrAt W0 (w.heap.size + 1) #[.slice ao N dc] := by
  have := (ArrAt.fresh (w.alloc (.cells C 28)) #[.slice ao N dc] 31 (Nat.zero_lt_one)).alloc (.cells st0 54)
  rw [hW0]
  simpa using this
 have hss0 : ArrAt W0 (w.heap.size + 2) st0 := by
  have := ArrAt.fresh ((w.alloc (.cells C 28)).alloc (.cells #[.slice ao N dc] 31)) st0 54 (by decide)
  rw [hW0]
  simpa using this
 have hrr0 : RestAt (fun j => Two b B j ∨ j = w.heap.size + 1) W0 (.slice ao N dc) N g := by
  rcases HD.out with h | ⟨ap, c, h1, h2, h3, h4⟩
  ·exact .inl h
  ·exact .inr ⟨ap, c, h1, h2, h3, (h4.more (T := fun j => Two b B j ∨ j = w.heap.size + 1) (fun j hj e => e.resolve_right (by omega))).kept (Keeps.of_below (S := fun _ => False) hbb0) (fun _ e => e.elim)⟩
 have K0 := Lib.hid (show Keeps (Two b B) w W0 from Keeps.of_below hbb0)
 have B0 := Lib.hid hbb0
 have C0 := Lib.hid hcc0
 have D0 := Lib.hid hdd0
 have T0 := Lib.hid hss0
 have R0 := Lib.hid hrr0
 have HZ0 := Lib.hid (show W0.heap.size = w.heap.size + 3 by rw [hW0]; simp)
 have HF0 := Lib.hid (show ArrAt (W0.alloc (.cells zMv 96)) W0.heap.size zMv from ArrAt.fresh W0 zMv _ (by decide))
 clear hW0 hbb0 hcc0 hss0 hdd0 hrr0 HD
 obtain ⟨M, hM⟩ : ∃ M, M = #[Value.pointer (some ⟨b, 0, none⟩)] ++ C := ⟨_, rfl⟩
 rw [← hM] at HSP HG0 HMO HMS HMZ HBM
 clear hM
 go_upto_region 3 with (first
  | ((with_reducible show wpList _ _ _ (⟨some 13, _, _, _, _, _⟩ :: _) _ _); refine wpList_loadA rfl C0.out 28 (.tmp 4) rfl (by first | rfl | simp [Act.eval, Act.put]) Tryz.underlying28 rfl HCZ.out ?_)
  | ((with_reducible show wpList _ _ _ (⟨some 14, _, _, _, _, _⟩ :: _) _ _); refine wpList_build2 rfl 96 0 1 (.tmp 12) (.tmp 13) rfl _ _ rfl rfl (HBM.out _) ?_)
  | ((with_reducible show wpList _ _ _ (⟨some 7, _, _, _, _, _⟩ :: _) _ _); refine wpList_alloc rfl 96 rfl zeroMv ?_; rw [show (Value.agg (#[.pointer none] ++ zCm)).cells = zMv from rfl])
  | ((with_reducible show wpList _ _ _ (⟨none, .store _ _ _, _, _, _, _⟩ :: _) _ _); refine wpList_storeA rfl (b := W0.heap.size) (A := zMv) (A' := M) HF0.out 96 (.tmp 7) (.tmp 14) rfl (by simp [Act.eval, Act.put]) (by simp [Act.eval, Act.put]) sizeMv (by rw [HMS.out]; rfl) HMO.out ?_))
 obtain ⟨W1, hW1⟩ : ∃ z, z = (W0.alloc (.cells zMv 96)).setCells W0.heap.size 0 M.toList := ⟨_, rfl⟩
 rw [← hW1]
 obtain ⟨hb1, ha1⟩ := stored_at (y := W0) (T := 96) (Z := zMv) (A := M) (by decide) (by rw [HMS.out]; rfl) hW1
 have B1 := Lib.hid (B0.out.trans (hb1.mono B0.out.size))
 have C1 := Lib.hid (C0.out.below hb1)
 have D1 := Lib.hid (D0.out.below hb1)
 have T1 := Lib.hid (T0.out.below hb1)
 have R1 := Lib.hid (R0.out.below hb1)
 rw [HZ0.out] at ha1 ⊢
 have AM1 := Lib.hid ha1
 have c1 := D1.out.cell (i := 0) rfl
 clear hW1 hb1 ha1 HF0 HZ0 B0 C0 D0 T0 R0 K0
 have HX := Lib.hid (HSP.out W1 B1.out)
 cases R with
 | error c =>
  go_wp2_with ((with_reducible show wpList _ _ _ (⟨some 16, _, _, _, _, _⟩ :: _) _ _); refine wpList_loadA rfl AM1.out 96 (.tmp 7) rfl (by first | rfl | simp [Act.eval, Act.put]) Tryz.underlying96 rfl HMZ.out ?_)
  refine HX.out.mono ?_
  rintro e w2 ⟨hb, rfl⟩
  have B2 := B1.out.trans (hb.mono B1.out.size)
  refine tl_bad (S := fun _ => False) (C := fun _ => True) (C' := fun _ => True) tclears_s (fun _ _ => trivial) (T1.out.below hb) (fun e => e) (fun j hj => hj.elim) (fun _ _ _ _ => trivial) ?_
  intro w3 hk hc3 hst
  exact ⟨_, results_st Tryz.results13 hst rfl rfl, rfl, B2.trans (hk.below (B := w.heap.size) B2.size (fun j hj e => by rcases e with e | e; exact e; have e : j = w.heap.size + 2 := e; omega))⟩
 | ok l =>
  obtain ⟨hlx, hls, hlc⟩ := HL.out l rfl
  have HKB := Lib.hid hlc
  have HLX := Lib.hid hlx
  have HLS := Lib.hid hls
  clear hlx hls hlc HL
  have hwl1 := AM1.out.lt
  go_upto_region 5 with (first
   | ((with_reducible show wpList _ _ _ (⟨some 16, _, _, _, _, _⟩ :: _) _ _); refine wpList_loadA rfl AM1.out 96 (.tmp 7) rfl (by first | rfl | simp [Act.eval, Act.put]) Tryz.underlying96 rfl HMZ.out ?_)
   | (go_at_call 35; refine HX.out.mono ?_; rintro e w2 ⟨hb, v, rfl, ho⟩; obtain ⟨sv, sc, rfl, hl1, hl2⟩ := ownsRow_shape ho; have HGE := Lib.hid (own_ge ho); have HSA := Lib.hid (spAt_owns ho); have HLM := Lib.hid (show l.length ≤ 9223372036854775807 by unfold maxLen at hl2; omega); have HB2 := Lib.hid hb; clear hb ho hl1 hl2))
  have hfin := HLX.out
  have G2 := Lib.hid (show ScS w C M b B size f L.length l sv N g w2 from ⟨Keeps.of_below (B1.out.trans (HB2.out.mono B1.out.size)), C1.out.below HB2.out, ⟨_, D1.out.below HB2.out, R1.out.below HB2.out⟩, T1.out.below HB2.out, AM1.out.below HB2.out, ⟨L, Nat.le_refl _, HMM.out.below (B1.out.trans (HB2.out.mono B1.out.size))⟩, HSA.out, fun g o e => by have := HGE.out g o e; omega, HBL.out, HBL'.out⟩)
  clear HGE HSA AM1 HX HMM hwl1 C1 D1 T1 R1 c1 hfin
  go_loopw [21] (fun v21 wr => ∃ k : Nat, k ≤ l.length ∧ v21 = .int .i64 (k : Nat) ∧ ScS w C M b B size (scatF g (l.take k) 0 f) (L.length + k) l sv (N - sumN (l.take k)) (fun i => g (sumN (l.take k) + i)) wr) (fun v21 _ => l.length - (intOf v21).toNat)
  case atStart => exact ⟨0, by omega, rfl, (G2.out.same (by rfl) (by omega)).asm (by rfl) (by funext i; show g i = g (0 + i); rw [Nat.zero_add])⟩
  case round =>
   clear G2
   obtain ⟨k, hk, rfl, hG⟩ := hrel
   have HG := Lib.hid hG
   clear hG
   by_cases hkn : k < l.length
   ·have q1 : decide ((k : Int) < (l.length : Int)) = true := decide_eq_true (by omega)
    have q2 : decide (k < l.length) = true := decide_eq_true hkn
    obtain ⟨gg, oo, hsv, hrg⟩ := HG.out.sp k hkn
    subst hsv
    have HST := Lib.hid (scat_take g f l k hkn)
    have HSN := Lib.hid (sumN_take l k hkn)
    have hle := sumN_le l (k + 1)
    have hls := HLS.out
    obtain ⟨x, hx⟩ : ∃ x, x = l[k]'hkn := ⟨_, rfl⟩
    rw [← hx] at hrg
    have hxm := HLX.out (l[k]'hkn) (List.getElem_mem hkn)
    rw [← hx] at hxm HST HSN
    obtain ⟨x1, x2, x3⟩ := hxm
    obtain ⟨xn, hxn⟩ : ∃ z : Nat, x.n = z := ⟨x.n.toNat, by omega⟩
    obtain ⟨xa, hxa⟩ : ∃ z : Nat, x.a = z := ⟨x.a.toNat, by omega⟩
    rw [hxn, hxa] at HST x3
    rw [hxn] at HSN
    simp only [Int.toNat_natCast] at HST HSN
    obtain ⟨X, hX⟩ : ∃ X, X = x.cells := ⟨_, rfl⟩
    have HRG := Lib.hid (show wr.rangeAt gg (oo + k * 3) X.toList by rw [hX]; exact hrg)
    have HXS := Lib.hid (show X.size = 3 by rw [hX]; rfl)
    have HX1' := Lib.hid (show X.all (·.oneCell') = true by rw [hX]; exact Spn.one x)
    have HX0 := Lib.hid (show X[0]? = some (.int .u64 (xa : Nat)) by rw [hX, ← hxa]; rfl)
    have HX1 := Lib.hid (show X[1]? = some (.int .i64 (xn : Nat)) by rw [hX, ← hxn]; rfl)
    obtain ⟨bk, hbk⟩ : ∃ z, x.bk = z := ⟨_, rfl⟩
    rw [hbk] at HST x3
    have HX2 := Lib.hid (show X[2]? = some (.bool bk) by rw [hX, ← hbk]; rfl)
    have HXZ := Lib.hid (show (Tryz.prog.info? 65).map (·.size) = some X.size by rw [HXS.out]; exact sizeSp)
    have HFX := Lib.hid (show ArrAt (wr.alloc (.cells zX 65)) wr.heap.size zX from ArrAt.fresh wr zX _ (by decide))
    have hsm : sumN (l.take k) + xn ≤ N := by have := HSN.out; omega
    have HSM := Lib.hid hsm
    have HX3 := Lib.hid x3
    clear hx hrg hX hxa hxn hbk x1 x2 x3 hle hls hsm
    go_upto_region 7 with (first
     | ((with_reducible show wpList _ _ _ (⟨some 24, _, _, _, _, _⟩ :: _) _ _); refine wpList_loadR rfl HRG.out 65 (.tmp 23) rfl (by first | rfl | simp [Act.eval, Act.put]) Tryz.underlying65 rfl HXZ.out ?_)
     | ((with_reducible show wpList _ _ _ (⟨some 10, _, _, _, _, _⟩ :: _) _ _); refine wpList_alloc rfl 65 rfl zeroX ?_; rw [show (Value.agg zX).cells = zX from rfl])
     | ((with_reducible show wpList _ _ _ (⟨none, .store _ _ _, _, _, _, _⟩ :: _) _ _); refine wpList_storeA rfl (b := wr.heap.size) (A := zX) (A' := X) HFX.out 65 (.tmp 10) (.tmp 24) rfl (by simp [Act.eval, Act.put]) (by simp [Act.eval, Act.put]) sizeSp (by rw [HXS.out]; rfl) HX1'.out ?_))
    obtain ⟨W3, hW3⟩ : ∃ z, z = (wr.alloc (.cells zX 65)).setCells wr.heap.size 0 X.toList := ⟨_, rfl⟩
    rw [← hW3]
    obtain ⟨hb3, ha3⟩ := stored_at (y := wr) (T := 65) (Z := zX) (A := X) (by decide) (by rw [HXS.out]; rfl) hW3
    have G3 := Lib.hid (HG.out.go hb3)
    have hwz := HG.out.mv.lt
    obtain ⟨xb, hxb⟩ : ∃ xb, xb = wr.heap.size := ⟨_, rfl⟩
    rw [← hxb] at ha3 ⊢
    have HXB := Lib.hid (show w.heap.size + 3 < xb by rw [hxb]; exact hwz)
    have AX3 := Lib.hid ha3
    have e1 := AX3.out.cell HX1.out
    clear hW3 hb3 ha3 hxb HFX HRG HG hwz
    obtain ⟨dv, hd1, hd2⟩ := G3.out.d
    have HNX := Lib.hid (snext_any _ (w.heap.size + 1) dv (N - sumN (l.take k)) xn (fun i => g (sumN (l.take k) + i)) W3 (hd1.cell (i := 0) rfl) (hd1.frozen hd1.pos) hd2 (by have := HSM.out; omega) (.inr rfl))
    clear hd1 hd2
    go_upto_region 8 with ((with_reducible refine HNX.out.mono ?_); rintro e w4 ⟨ap, v', rfl, hw4, hsrc, hres⟩; have hk4 : Keeps (One (w.heap.size + 1)) W3 w4 := (by rw [hw4]; exact (Keeps.refl _ _).set1 _ _); have AX4 := Lib.hid (AX3.out.kept hk4 (fun e => by have e : xb = w.heap.size + 1 := e; have := HXB.out; omega)); have G4 := Lib.hid (show ScS _ _ _ _ _ _ _ _ _ _ _ _ w4 by rw [hw4]; rw [hw4] at hres; exact G3.out.next hres); have HSR := Lib.hid hsrc; clear hw4 hsrc hres hk4)
    have e2 := AX4.out.cell HX2.out
    have hnm : N - sumN (l.take k) - xn = N - sumN (l.take (k + 1)) := by rw [HSN.out]; omega
    have hng : (fun i => g (sumN (l.take k) + (xn + i))) = fun i => g (sumN (l.take (k + 1)) + i) := by funext i; rw [HSN.out, Nat.add_assoc]
    have HNM := Lib.hid hnm
    have HNG := Lib.hid hng
    clear hnm hng
    cases bk with
    | true =>
     have HST2 := Lib.hid (show scatF g (l.take (k + 1)) 0 f = scatF g (l.take k) 0 f by rw [HST.out]; rfl)
     have G6 := Lib.hid ((G4.out.same (F' := scatF g (l.take (k + 1)) 0 f) (ll' := L.length + (k + 1)) HST2.out (by omega)).asm HNM.out HNG.out)
     clear HST
     have hlm := HLM.out
     go_wp2_with fail
     have hv21 : Value.int IntKind.i64 ((k : Int) + 1) = .int .i64 ((k + 1 : Nat) : Int) := by rw [Int.natCast_add]; rfl
     have hk1 : k + 1 ≤ l.length := hkn
     go_roundw
     case rel =>
      first
       | exact ⟨k + 1, hk1, hv21, G6.out⟩
       | ((repeat apply Exists.intro); exact ⟨⟨k + 1, hk1, hv21, G6.out⟩, rfl⟩)
     case measure => simp [intOf]; omega
    | false =>
     have HST2 := Lib.hid (show scatF g (l.take (k + 1)) 0 f = upd (scatF g (l.take k) 0 f) xa xn (fun i => g (sumN (l.take k) + i)) by rw [HST.out]; rfl)
     clear HST
     have hfit := HX3.out rfl
     obtain ⟨L4, hl4, hm4⟩ := G4.out.mem
     have HWR := Lib.hid (write_ok' b B size (scatF g (l.take k) 0 f) L4 xa xn xn ap (fun i => g (sumN (l.take k) + i)) (xa : Nat) w4 hm4 (by have := HLL.out; have := HKB.out; omega) (by omega) ⟨HSR.out.small, fun h0 => by
      obtain ⟨x, o, e, h1, h2⟩ := HSR.out.at' h0
      exact ⟨x, o, e, fun e => h1 (.inl e), h2⟩⟩ rfl)
     have c0 := G4.out.mv.cell HG0.out
     have c1 := AX4.out.cell HX0.out
     clear hm4 hfit
     go_upto_region 10 with (go_at_call 11; refine HWR.out.mono ?_; rintro e w5 ⟨rfl, hk5, hm5⟩; rw [← HST2.out] at hm5; have G6 := Lib.hid ((G4.out.write (F' := scatF g (l.take (k + 1)) 0 f) (ll' := L.length + (k + 1)) hk5 ⟨_, by have := logged_len L4 xa xn; omega, hm5⟩).asm HNM.out HNG.out); clear hk5 hm5)
     have hlm := HLM.out
     go_wp2_with fail
     have hv21 : Value.int IntKind.i64 ((k : Int) + 1) = .int .i64 ((k + 1 : Nat) : Int) := by rw [Int.natCast_add]; rfl
     have hk1 : k + 1 ≤ l.length := hkn
     go_roundw
     case rel =>
      first
       | exact ⟨k + 1, hk1, hv21, G6.out⟩
       | ((repeat apply Exists.intro); exact ⟨⟨k + 1, hk1, hv21, G6.out⟩, rfl⟩)
     case measure => simp [intOf]; omega
   ·have q1 : decide ((k : Int) < (l.length : Int)) = false := decide_eq_false (by omega)
    have q2 : decide (k < l.length) = false := decide_eq_false (by omega)
    have HKE := Lib.hid (show l.take k = l by rw [List.take_of_length_le (by omega)])
    have hkl : k = l.length := by omega
    have HKL := Lib.hid hkl
    clear hkl
    go_wp2_with (first
     | ((with_reducible show wpList _ _ _ (⟨some 39, _, _, _, _, _⟩ :: _) _ _); refine wpList_loadA rfl HG.out.st 54 (.tmp 6) rfl (by first | rfl | simp [Act.eval, Act.put]) Tryz.underlying54 rfl sizeSt ?_)
     | ((with_reducible show wpList _ _ _ (⟨none, .store _ _ _, _, _, _, _⟩ :: _) _ _); refine wpList_storeA rfl (b := w.heap.size + 2) (A := st0) (A' := st0) HG.out.st 54 (.tmp 6) (.tmp 39) rfl (by simp [Act.eval, Act.put]) (by simp [Act.eval, Act.put]) sizeSt rfl st0_one ?_))
    refine tl_good (results_st Tryz.results13 (HG.out.st.store st0 rfl) rfl rfl) ⟨rfl, ?_, ?_⟩
    ·have h1 := HG.out.keep
     have k2 : Keeps (fun j => w.heap.size ≤ j) wr (wr.setCells (w.heap.size + 2) 0 st0.toList) := Keeps.store (S := fun j => w.heap.size ≤ j) (Keeps.refl _ _) (fun _ => by omega) _ _
     exact ⟨k2.os.trans h1.os, k2.tape.trans h1.tape, k2.output.trans h1.output, Nat.le_trans h1.size k2.size, fun j hj hS => (k2.block j (Nat.lt_of_lt_of_le hj h1.size) (fun e => by have e : w.heap.size ≤ j := e; omega)).trans (h1.block j hj hS)⟩
    ·obtain ⟨L5, h5, h6⟩ := HG.out.mem
     have k2 : Keeps (One (w.heap.size + 2)) wr (wr.setCells (w.heap.size + 2) 0 st0.toList) := Keeps.store (S := One (w.heap.size + 2)) (Keeps.refl _ _) (fun _ => rfl) _ _
     rw [HKE.out] at h6
     have hbl := HBL.out
     have hbl' := HBL'.out
     exact ⟨L5, by have := HKL.out; omega, h6.kept k2 (fun e => by have e : b = w.heap.size + 2 := e; omega) (fun e => by have e : B = w.heap.size + 2 := e; omega)⟩
end Go.Proofs.YtfmabknhfehdcaaGreat
namespace Go.Proofs.YtfmabknhfehdcaaGreat
set_option linter.unusedSimpArgs false
set_option linter.unusedVariables false
open Go.RowKit
end Go.Proofs.YtfmabknhfehdcaaGreat
