/- transfer: what the laws ask: num, code, gathers; the transfers of a memory that is there. -/
import Derived.Test.YtfmabknhfehdcaaGreatZP30
import Derived.Test.YtfmabknhfehdcaaGreatZP31
import Derived.Test.YtfmabknhfehdcaaGreatZP29
import Derived.Test.YtfmabknhfehdcaaGreatZP18
import Derived.Test.YtfmabknhfehdcaaGreatZP20
namespace Go.Proofs.YtfmabknhfehdcaaGreat
set_option linter.unusedSimpArgs false
set_option linter.unusedVariables false
open Go.RowKit
/-! the number of spans -/
section
variable {f : Nat → Int} {size : Nat}
theorem addA_len {a : Int} {s s' : PSt} (h : addA size a s = .ok s') : s'.out.length = s.out.length + 1 := by
 unfold addA at h
 split at h
 ·cases h
 ·cases h; simp
theorem runP_len {second pages : Int} : ∀ (k : Nat) (i : Int) (s : PSt) (l : List Spn), runP f size second pages k i s = .ok l → l.length = s.out.length + k
 | 0, _, s, l, h => by cases h; rfl
 | k + 1, i, s, l, h => by
  unfold runP at h
  split at h
  ·cases h
  ·rename_i s' he
   have h1 := runP_len k (i + 1) s' l h
   have h2 : s'.out.length = s.out.length + 1 := by
    unfold stepP at he
    split at he
    ·cases he
    ·rename_i x hx
     obtain ⟨v, t⟩ := x
     split at he
     ·cases he
     ·have ht : t.out = s.out := by
       unfold adrP at hx
       split at hx
       ·exact nxtP_out hx
       ·cases hx; rfl
      have := addA_len he
      rw [this, ht]
   omega
theorem exam_len {th : Bool} {d : Dsc} {s s' : WSt} (h : exam size th d s = .ok s') : s'.out.length ≤ s.out.length + 1 := by
 have ha : ∀ x : Spn, (addS x s).out.length ≤ s.out.length + 1 := fun x => by
  unfold addS
  split
  ·simp
  ·omega
 unfold exam at h
 repeat' split at h
 all_goals first | (cases h; done) | (cases h; first | exact ha _ | (split; exact ha _; exact Nat.le_succ _) | exact Nat.le_succ _)
theorem runS_len {th : Bool} : ∀ (k : Nat) (d : Dsc) (s : WSt) (l : List Spn), runS f size th k d s = .ok l → l.length ≤ s.out.length + k + 1
 | 0, d, s, l, h => by
  unfold runS at h
  split at h
  ·cases h
  ·rename_i s' he
   have := exam_len he
   repeat' split at h
   all_goals first | (cases h; omega) | cases h
 | k + 1, d, s, l, h => by
  unfold runS at h
  split at h
  ·cases h
  ·rename_i s' he
   have h1 := exam_len he
   split at h
   ·cases h; omega
   ·split at h
    ·cases h
    ·split at h
     ·cases h
     ·split at h
      ·cases h
      ·have h2 := runS_len k _ _ l h
       have h3 : ({ s' with at' := s'.at' + 16 } : WSt).out.length = s'.out.length := rfl
       omega
theorem spansT_len {sgl th : Bool} {d0 d1 n : Int} {l : List Spn} (h : spansT f size sgl d0 d1 n th = .ok l) : l.length ≤ 2000 := by
 unfold spansT at h
 split at h
 ·split at h
  ·unfold spansM at h
   split at h
   ·cases h
   ·split at h
    ·cases h; simp
    ·have := runS_len _ _ _ l h
     simp only [List.length_nil] at this
     omega
  ·cases h
 ·unfold spansP at h
  split at h
  ·cases h
  ·split at h
   ·cases h; simp
   ·split at h
    ·cases h
    ·split at h
     ·cases h
     ·rename_i s he
      have h1 := runP_len _ _ _ l h
      have h2 := addA_len he
      simp only [List.length_nil] at h2
      have h3 : pgs d0 n ≤ 257 := by unfold pgs; split <;> omega
      omega
end
theorem sumN_sumS : ∀ (l : List Spn), (∀ x ∈ l, 0 ≤ x.n) → ((sumN l : Nat) : Int) = sumS l
 | [], _ => rfl
 | x :: r, h => by
  have h1 := sumN_sumS r (fun y hy => h y (List.mem_cons_of_mem _ hy))
  have h2 := h x List.mem_cons_self
  simp only [sumN, sumS]
  omega
/-! the helpers of the laws -/
theorem num16_any (no : Int) (w : World) : Calls Tryz.prog 8 #[.int .i64 no] w fun e w' => e = .returned (.int .i64 no) ∧ w = w' := by
 go_enter Tryz.func8, Tryz.ntmps8
 go_wp2
 go_ret
 exact ⟨rfl, rfl⟩
theorem buildSt0 (w : World) : (Instr.build 54 #[]).run Tryz.prog w = .ok (.agg st0) w := by kernel_rfl
theorem guardSt (i j : Nat) (X Y : Array Value) (w : World) : (eqGuard .eql 54 (.tmp i) (.tmp j) (.agg X) (.agg Y)).run Tryz.prog w = .ok () w := by kernel_rfl
theorem eqSt0 (w : World) : (binOp .eql 54 (.agg st0) (.agg st0)).run Tryz.prog w = .ok (.bool true) w := by kernel_rfl
theorem eqStA (c : Int) (w : World) : (binOp .eql 54 (.agg (stA c)) (.agg (stA c))).run Tryz.prog w = .ok (.bool true) w := by
 unfold stA
 simp [go_sem]
set_option maxRecDepth 100000 in
set_option maxHeartbeats 1000000 in
theorem code_0 (w : World) : Calls Tryz.prog 12 #[.agg st0, .int .i64 0] w fun e w' => e = .returned (.bool true) ∧ Below w.heap.size w w' := by
 obtain ⟨S, hS⟩ : ∃ S, S = st0 := ⟨_, rfl⟩
 have HS4 := Lib.hid (show S.size = 4 by rw [hS]; rfl)
 have HB := Lib.hid buildSt0
 have HE := Lib.hid eqSt0
 rw [← hS] at HB HE ⊢
 clear hS
 go_enter Tryz.func12, Tryz.ntmps12
 have A0 := Lib.hid (ArrAt.fresh w S 54 (by rw [HS4.out]; decide))
 have HSZ := Lib.hid (show (Tryz.prog.info? 54).map (·.size) = some S.size by rw [HS4.out]; exact sizeSt)
 go_wp2_with (first
  | ((with_reducible show wpList _ _ _ (⟨some 7, _, _, _, _, _⟩ :: _) _ _); refine wpList_loadA rfl A0.out 54 (.tmp 2) rfl (by first | rfl | simp [Act.eval, Act.put]) Tryz.underlying54 rfl HSZ.out ?_)
  | ((with_reducible show wpList _ _ _ (⟨some 8, _, _, _, _, _⟩ :: _) _ _); refine wpList_build0 rfl 54 rfl (HB.out _) ?_)
  | ((with_reducible show wpList _ _ _ (⟨some 9, _, _, _, _, _⟩ :: _) _ _); refine wpList_valG (by rfl) (v := .bool true) (exec_eql 54 (.tmp 7) (.tmp 8) _ rfl _ _ rfl rfl (guardSt _ _ _ _ _) (HE.out _)) ?_))
 go_ret
 exact ⟨rfl, (Below.refl _ _).alloc (Nat.le_refl _) _⟩
set_option maxRecDepth 100000 in
set_option maxHeartbeats 1000000 in
theorem code_c (c : Int) (h0 : (c == 0) = false) (h1 : 0 ≤ c) (h2 : c ≤ 255) (w : World) : Calls Tryz.prog 12 #[.agg (stA c), .int .i64 c] w fun e w' => e = .returned (.bool true) ∧ Below w.heap.size w w' := by
 obtain ⟨S, hS⟩ : ∃ S, S = stA c := ⟨_, rfl⟩
 have HS4 := Lib.hid (show S.size = 4 by rw [hS]; rfl)
 have HB := Lib.hid (buildSt c)
 have HE := Lib.hid (eqStA c)
 rw [← hS] at HB HE ⊢
 clear hS
 go_enter Tryz.func12, Tryz.ntmps12
 have A0 := Lib.hid (ArrAt.fresh w S 54 (by rw [HS4.out]; decide))
 have HSZ := Lib.hid (show (Tryz.prog.info? 54).map (·.size) = some S.size by rw [HS4.out]; exact sizeSt)
 go_wp2_with (first
  | ((with_reducible show wpList _ _ _ (⟨some 10, _, _, _, _, _⟩ :: _) _ _); refine wpList_loadA rfl A0.out 54 (.tmp 2) rfl (by first | rfl | simp [Act.eval, Act.put]) Tryz.underlying54 rfl HSZ.out ?_)
  | ((with_reducible show wpList _ _ _ (⟨some 13, _, _, _, _, _⟩ :: _) _ _); refine wpList_build2 rfl 54 1 3 (.tmp 12) (.const (.bool true)) rfl _ _ rfl rfl (HB.out _) ?_)
  | ((with_reducible show wpList _ _ _ (⟨some 14, _, _, _, _, _⟩ :: _) _ _); refine wpList_valG (by rfl) (v := .bool true) (exec_eql 54 (.tmp 10) (.tmp 13) _ rfl _ _ rfl rfl (guardSt _ _ _ _ _) (HE.out _)) ?_))
 go_ret
 exact ⟨rfl, (Below.refl _ _).alloc (Nat.le_refl _) _⟩
/-- the status of a code -/
def stC (c : Int) : Array Value := if c = 0 then st0 else stA c
theorem stC_size (c : Int) : (stC c).size = 4 := by unfold stC; split <;> rfl
theorem stC_one (c : Int) : (stC c).all (·.oneCell') = true := by
 unfold stC
 split
 ·exact st0_one
 ·exact stA_one c
theorem code_any (c : Int) (h1 : 0 ≤ c) (h2 : c ≤ 255) (w : World) : Calls Tryz.prog 12 #[.agg (stC c), .int .i64 c] w fun e w' => e = .returned (.bool true) ∧ Below w.heap.size w w' := by
 unfold stC
 split
 ·rename_i h
  subst h
  exact code_0 w
 ·rename_i h
  exact code_c c (beq_eq_false_iff_ne.2 h) h1 h2 w
/-- bytes as a string -/
def strB (L : List Int) : ByteArray := ⟨(L.map fun n => UInt8.ofNat n.toNat).toArray⟩
theorem conv_own {w : World} {base : Nat} {v : Value} {L : List Int} (h : w.ownsRow base 5 1 v L.length (byV L)) : (convert 31 9 v).run Tryz.prog w = .ok (.string (strB L)) w := by
 have hl : (byV L).length = L.length := List.length_map _
 obtain ⟨ao, nc, rfl, hc⟩ := own_form0 h
 cases ao with
 | none =>
  have h0 : L = [] := by
   cases L with
   | nil => rfl
   | cons x r =>
    obtain ⟨g, e, -⟩ := hc 0 (.int .u8 x) (by simp) rfl
    cases e
  subst h0
  simp only [List.length_nil]
  rw [run_convert_bytes_string w 31 9 5 none 0 nc Tryz.underlying31 Tryz.underlying5 Tryz.underlying9]
  rfl
 | some ad =>
  have hx : ∀ j, j < L.length → w.cell? (ad.add j) = some (.int .u8 (L.getD j 0)) := fun j hj => by
   obtain ⟨g, e, -, hcc⟩ := hc j (.int .u8 (L.getD j 0)) hj (by unfold byV; simp [hj])
   cases e
   rw [Addr.add_mid, Nat.zero_add]
   exact hcc
  rw [conv_str w ad L.length nc (fun j => L.getD j 0) hx]
  have e : strOf L.length (fun j => L.getD j 0) = strB L := by
   unfold strOf strB
   congr 2
   apply List.ext_getElem?
   intro i
   rw [List.getElem?_map, List.getElem?_map]
   by_cases hi : i < L.length
   ·rw [List.getElem?_range hi, List.getElem?_eq_getElem hi]
    simp [hi]
   ·rw [List.getElem?_eq_none (by simp; omega), List.getElem?_eq_none (by omega)]
    rfl
  rw [e]
/-- what gathers asks -/
def gWant (f : Nat → Int) : Except Int (List Spn) → ByteArray
 | .error _ => ByteArray.empty
 | .ok l => strB (gatF f l)
def gCode : Except Int (List Spn) → Int
 | .error c => c
 | .ok _ => 0
theorem TgPost.form {w w' : World} {f : Nat → Int} {R : Except Int (List Spn)} {e : Ending} (h : TgPost w f R e w') (hc : ∀ c, R = .error c → c ≠ 0) : ∃ v, e = .returned (.tuple #[v, .agg (stC (gCode R))]) ∧ Below w.heap.size w w' ∧ (∀ W, Below w'.heap.size w' W → (convert 31 9 v).run Tryz.prog W = .ok (.string (gWant f R)) W) ∧ v.oneCell' = true ∧ ∃ x m n, v = .slice x m n := by
 obtain ⟨h1, h2⟩ := h
 cases R with
 | error c =>
  have := hc c rfl
  refine ⟨_, by rw [h2]; unfold stC gCode; rw [if_neg this], h1, fun W _ => ?_, rfl, _, _, _, rfl⟩
  rw [run_convert_bytes_string W 31 9 5 none 0 0 Tryz.underlying31 Tryz.underlying5 Tryz.underlying9]
  rfl
 | ok l =>
  obtain ⟨v, he, ho⟩ := h2
  obtain ⟨x, m, n, hv⟩ := owns_slice ho
  refine ⟨v, he, h1, fun W hb => conv_own (ownsRow_keeps ho (Keeps.of_below (S := fun _ => False) hb) (fun _ _ e => e)), by rw [hv]; rfl, x, m, n, hv⟩
set_option maxRecDepth 100000 in
set_option maxHeartbeats 2000000 in
theorem gath_of (m : Option Addr) (C : Array Value) (n : Int) (f : Nat → Int) (R : Except Int (List Spn)) (w : World) (h16 : C.size = 16) (hR : ∀ c, R = .error c → 1 ≤ c ∧ c ≤ 255)
  (hg : ∀ W, Below w.heap.size w W → Calls Tryz.prog 36 #[.pointer m, .agg C, .int .i64 n] W (TgPost W f R)) :
  Calls Tryz.prog 14 #[.pointer m, .agg C, .int .i64 n, .string (gWant f R), .int .i64 (gCode R)] w fun e w' => e = .returned (.bool true) ∧ Below w.heap.size w w' := by
 have HG := Lib.hid hg
 have H16 := Lib.hid h16
 have HR := Lib.hid (show ∀ c, R = .error c → c ≠ 0 from fun c h => by have := hR c h; omega)
 have HC := Lib.hid (show 0 ≤ gCode R ∧ gCode R ≤ 255 by
  cases R with
  | error c => have := hR c rfl; exact ⟨by show 0 ≤ c; omega, by show c ≤ 255; omega⟩
  | ok l => exact ⟨by show (0 : Int) ≤ 0; omega, by show (0 : Int) ≤ 255; omega⟩)
 obtain ⟨s, hs⟩ : ∃ s, s = gWant f R := ⟨_, rfl⟩
 obtain ⟨c, hc⟩ : ∃ c, c = gCode R := ⟨_, rfl⟩
 have HW := Lib.hid hs
 have HCC := Lib.hid hc
 have HCZ := Lib.hid (show (Tryz.prog.info? 28).map (·.size) = some C.size by rw [h16]; exact sizeCm)
 rw [← hs, ← hc]
 rw [← hc] at HC
 clear hg h16 hR hs hc
 go_enter Tryz.func14, Tryz.ntmps14
 go_upto_region 1 with fail
 obtain ⟨W0, hW0⟩ : ∃ W0, W0 = w.alloc (.cells C 28) := ⟨_, rfl⟩
 rw [← hW0]
 have AC := Lib.hid (show ArrAt W0 w.heap.size C by rw [hW0]; exact ArrAt.fresh w C _ (by rw [H16.out]; decide))
 have HB0 := Lib.hid (show Below w.heap.size w W0 by rw [hW0]; exact (Below.refl _ _).alloc (Nat.le_refl _) _)
 clear hW0
 go_upto_region 2 with (first
  | ((with_reducible show wpList _ _ _ (⟨some 15, _, _, _, _, _⟩ :: _) _ _); refine wpList_loadA rfl AC.out 28 (.tmp 6) rfl (by first | rfl | simp [Act.eval, Act.put]) Tryz.underlying28 rfl HCZ.out ?_)
  | (go_at_call 36; refine (HG.out W0 HB0.out).mono ?_; intro e w1 hp; obtain ⟨v, rfl, hb, hcv, -, xa, xm, xn, rfl⟩ := hp.form HR.out; rw [← HW.out] at hcv; rw [← HCC.out]; have HB1 := Lib.hid (HB0.out.trans (hb.mono HB0.out.size)); have HCV := Lib.hid hcv; have HF1 := Lib.hid (ArrAt.fresh w1 st0 54 (by decide)); clear hb hcv hp)
  | ((with_reducible show wpList _ _ _ (⟨some 12, _, _, _, _, _⟩ :: _) _ _); refine wpList_alloc rfl 54 rfl zeroSt ?_; rw [show (Value.agg st0).cells = st0 from rfl])
  | ((with_reducible show wpList _ _ _ (⟨none, .store _ _ _, _, _, _, _⟩ :: _) _ _); refine wpList_storeA rfl (b := w1.heap.size) (A := st0) (A' := stC c) HF1.out 54 (.tmp 12) (.tmp 19) rfl (by simp [Act.eval, Act.put]) (by simp [Act.eval, Act.put]) sizeSt (by rw [stC_size]; rfl) (stC_one c) ?_))
 obtain ⟨W2, hW2⟩ : ∃ z, z = (w1.alloc (.cells st0 54)).setCells w1.heap.size 0 (stC c).toList := ⟨_, rfl⟩
 rw [← hW2]
 obtain ⟨hb2, ha2⟩ := stored_at (y := w1) (T := 54) (Z := st0) (A := stC c) (by decide) (by rw [stC_size]; rfl) hW2
 have HB2 := Lib.hid (HB1.out.trans (hb2.mono HB1.out.size))
 have AS := Lib.hid ha2
 have hcv := HCV.out W2 hb2
 have HSZ := Lib.hid (show (Tryz.prog.info? 54).map (·.size) = some (stC c).size by rw [stC_size]; exact sizeSt)
 clear hW2 hb2 ha2
 go_wp2_with (first
  | ((with_reducible show wpList _ _ _ (⟨some 25, _, _, _, _, _⟩ :: _) _ _); refine wpList_loadAG (by rfl) AS.out 54 (.tmp 12) rfl (by first | rfl | simp [Act.eval, Act.put]) Tryz.underlying54 rfl HSZ.out ?_)
  | (go_at_call 12; refine (code_any c HC.out.1 HC.out.2 _).mono ?_; rintro e w3 ⟨rfl, hb⟩; have HB3 := Lib.hid (HB2.out.trans (hb.mono HB2.out.size)); clear hb))
 go_ret
 exact ⟨rfl, HB3.out⟩
/-- A command with its parts. -/
structure Cm (C : Array Value) (sgl : Bool) (mt d0 d1 : Int) : Prop where
 z : C.size = 16
 o : C.all (·.oneCell') = true
 g2 : C[2]? = some (.bool sgl)
 g7 : C[7]? = some (.int .u64 mt)
 g8 : C[8]? = some (.int .u64 d0)
 g9 : C[9]? = some (.int .u64 d1)
 b7 : 0 ≤ mt ∧ mt ≤ 18446744073709551615
 b8 : 0 ≤ d0 ∧ d0 ≤ 18446744073709551615
 b9 : 0 ≤ d1 ∧ d1 ≤ 18446744073709551615
theorem codeT_bd (no : Int) : 0 ≤ codeT no ∧ codeT no ≤ 255 := by
 unfold codeT
 repeat' split
 all_goals omega
section
variable {C : Array Value} {sgl : Bool} {mt d0 d1 : Int} (hC : Cm C sgl mt d0 d1) (b B size : Nat) (f : Nat → Int) (L : List (Nat × Nat)) (w : World) (hM : MemAt w b B size f L) (hs : 0 < size) (hf : Bytes f)
include hC hM hs hf
theorem mvS (n : Int) (th : Bool) : ∀ W, Below w.heap.size w W → Calls Tryz.prog 35 #[.agg (#[.pointer (some ⟨b, 0, none⟩)] ++ C), .int .i64 n, .bool th] W (MsPost W (dataT f size sgl d0 d1 n th)) := fun W hb =>
 tspans_any _ C sgl d0 d1 n th b B size f L W ⟨hC.z, rfl, hC.o⟩ (hM.below hb) hs hf hC.g2 hC.g8 hC.g9 hC.b8 hC.b9
theorem trSp (n : Int) (th : Bool) : Calls Tryz.prog 16 #[.pointer (some ⟨b, 0, none⟩), .agg C, .int .i64 n, .bool th] w (TspPost w (dataT f size sgl d0 d1 n th)) :=
 trSpans_of _ C n th _ w hC.z (mvS hC b B size f L w hM hs hf n th)
theorem trGa (n : Int) : Calls Tryz.prog 36 #[.pointer (some ⟨b, 0, none⟩), .agg C, .int .i64 n] w (TgPost w f (dataT f size sgl d0 d1 n false)) := by
 refine tg_of b B size f L C n _ w hC.z hC.o hM (mvS hC b B size f L w hM hs hf n false) fun l hl => ?_
 obtain ⟨h0, h1, h2⟩ := dataT_ok hl
 obtain ⟨left, hs2⟩ := spansT_sok hf hC.b8.1 hC.b9.1 h2
 have hnb := spansT_nb h2
 refine ⟨fun x hx => ?_, ?_⟩
 ·have := hs2.x x hx
  exact ⟨this.1, this.2.1, this.2.2 (hnb x hx)⟩
 ·have := hs2.s
  have := hs2.l
  omega
theorem trSc (ao : Option Addr) (N dc : Nat) (g : Nat → Int) (hN : N ≤ 4611686018427387904) (hD : RestAt (Two b B) w (.slice ao N dc) N g) (hL : L.length < 1000000) :
  Calls Tryz.prog 13 #[.pointer (some ⟨b, 0, none⟩), .agg C, .slice ao N dc] w (TscPost w b B size f L.length g (dataT f size sgl d0 d1 N true)) := by
 refine ts_of b B size f L C ao N dc g _ w hC.z hC.o hM hN hD hL (mvS hC b B size f L w hM hs hf N true) fun l hl => ?_
 obtain ⟨h0, h1, h2⟩ := dataT_ok hl
 obtain ⟨left, hs2⟩ := spansT_sok hf hC.b8.1 hC.b9.1 h2
 refine ⟨fun x hx => ?_, ?_, by have := spansT_len h2; omega⟩
 ·have := hs2.x x hx
  exact ⟨this.1, this.2.1, this.2.2⟩
 ·have h3 := sumN_sumS l (fun x hx => (hs2.x x hx).1)
  have := hs2.s
  have := hs2.l
  omega
omit hf in
theorem mvM (n : Int) : ∀ W, Below w.heap.size w W → Calls Tryz.prog 41 #[.agg (#[.pointer (some ⟨b, 0, none⟩)] ++ C), .int .i64 n] W (MePost W (metaT size mt n)) := fun W hb =>
 tmeta_any _ C mt n b B size f L W ⟨hC.z, rfl, hC.o⟩ (hM.below hb) hs hC.g7 hC.b7.1 hC.b7.2
omit hC hM hs hf in
theorem metaT_ok {size : Nat} {a n : Int} (h : metaT size a n = 0) (h0 : 0 < n) : chk size a n = 0 := by
 unfold metaT at h
 split at h
 ·cases h
 ·split at h
  ·cases h
  ·rename_i hc
   exact Classical.not_not.1 (fun e => hc ⟨h0, e⟩)
omit hC hM hs hf in
theorem metaT_nn {size : Nat} {a n : Int} (h : metaT size a n = 0) : 0 ≤ n ∧ n ≤ 1048576 := by
 unfold metaT at h
 split at h
 ·cases h
 ·omega
omit hf in
theorem trGm (n : Int) : Calls Tryz.prog 17 #[.pointer (some ⟨b, 0, none⟩), .agg C, .int .i64 n] w (TgmPost w (metaT size mt n) n fun i => f (mt.toNat + i)) := by
 refine tgm_of _ C mt n _ _ w hC.z hC.o hC.g7 (mvM hC b B size f L w hM hs n) (fun h => (metaT_nn h).1) fun W hb h0 hn => ?_
 have h1 := (metaT_nn h0).1
 have h2 := chk_ok (metaT_ok h0 (by omega))
 exact read_okI b B size f L mt n W (hM.below hb) hC.b7.1 h1 h2.2
end
theorem dataT_bd {f : Nat → Int} {size : Nat} {sgl th : Bool} {d0 d1 n c : Int} (h : dataT f size sgl d0 d1 n th = .error c) : 0 ≤ c ∧ c ≤ 255 := by
 unfold dataT at h
 split at h
 ·cases h; omega
 ·cases hx : spansT f size sgl d0 d1 n th with
  | error e =>
   rw [hx] at h
   cases h
   exact codeT_bd e
  | ok l => rw [hx] at h; cases h
end Go.Proofs.YtfmabknhfehdcaaGreat
namespace Go.Proofs.YtfmabknhfehdcaaGreat
set_option linter.unusedSimpArgs false
set_option linter.unusedVariables false
open Go.ChangeShapes Go.WideShapes Go.ChangeAt Go.RowKit Go.Deep
def lI64 : Leaf := some (some .i64)
def lU8 : Leaf := some (some .u8)
def lU32 : Leaf := some (some .u32)
def slU64 : Leaf := some (some .u64)
theorem flI64 : FlatT Tryz.prog 3 [lI64] := FlatT.int Tryz.underlying3 (by kernel_rfl)
theorem flU8 : FlatT Tryz.prog 5 [lU8] := FlatT.int Tryz.underlying5 (by kernel_rfl)
theorem flU32 : FlatT Tryz.prog 23 [lU32] := FlatT.int Tryz.underlying23 (by kernel_rfl)
def lsDsc : List Leaf := [lI64, slU64, lI64, lU32]
def slsCel : List Leaf := lsDsc ++ [slU64, lU8]
def svN (v : Value) : Int := match v with | .int _ n => n | _ => 0
def dscOf (V : Nat → Value) : Dsc := ⟨svN (V 0), svN (V 1), svN (V 2), svN (V 3)⟩
theorem arr_eq {A : Array Value} {n : Nat} {V : Nat → Value} (hs : A.size = n) (h : ∀ j, j < n → A[j]? = some (V j)) : arr n V = A := by
 apply Array.ext_getElem?
 intro j
 by_cases hj : j < n
 ·rw [h j hj]; simp [arr, hj]
 ·rw [Array.getElem?_eq_none (by simp [arr]; omega), Array.getElem?_eq_none (by omega)]
/-- A cell of a list. -/
structure CelV where
 d : Dsc
 at' : Int
 sp : Int
structure CelV.Ok (x : CelV) : Prop where
 d : x.d.Ok
 a : 0 ≤ x.at' ∧ x.at' ≤ 18446744073709551615
 s : 0 ≤ x.sp ∧ x.sp ≤ 255
structure CelIn (W : World) (g o : Nat) (x : CelV) : Prop where
 d : W.rangeAt g o x.d.cells.toList
 a : W.cell? ⟨g, o + 4, none⟩ = some (.int .u64 x.at')
 s : W.cell? ⟨g, o + 5, none⟩ = some (.int .u8 x.sp)
/-- A list of cells lies at ao. -/
def sCAt (w : World) (ao : Option Addr) (n : Nat) (l : Nat → CelV) : Prop := ∀ i, i < n → ∃ g o, ao = some ⟨g, o, none⟩ ∧ CelIn w g (o + i * 6) (l i)
end Go.Proofs.YtfmabknhfehdcaaGreat
namespace Go.Proofs.YtfmabknhfehdcaaGreat
set_option linter.unusedSimpArgs false
set_option linter.unusedVariables false
open Go.RowKit Go.Shelf
theorem Quiet.arr {N : Nat} {A B : World} (h : Quiet N A B) {b : Nat} {X : Array Value} (ha : ArrAt A b X) : ArrAt B b X := by
 have e : B.heap[b]? = A.heap[b]? := by
  have h0 := ha.cell (i := 0) (Array.getElem?_eq_getElem ha.pos)
  unfold World.cell? at h0
  cases hA : A.heap[b]? with
  | none => rw [hA] at h0; cases h0
  | some o =>
   cases o with
   | cells c t f => rw [h.cells _ _ _ _ hA]
   | _ => rw [hA] at h0; cases h0
 refine ⟨fun j v hv => ?_, fun j hj => ?_, ha.pos⟩
 ·rw [World.cell?_of_block (w := A) (a := ⟨b, 0 + j, none⟩) e]; exact ha.rng j v hv
 ·rw [World.cell?_of_block (w := A) (a := ⟨b, 0 + j, none⟩) e, World.frozen?_of_block (w := A) (a := ⟨b, 0 + j, none⟩) e]; exact ha.th j hj
theorem run_bs1 (d : Dsc) (w : World) : (Instr.buildSlice 76 1 #[(0, .agg d.cells)]).run Tryz.prog w = .ok (.slice (some ⟨w.heap.size, 0, none⟩) 1 1) (w.alloc (.cells d.cells 72)) := by kernel_rfl
theorem wpList_bs {P : Program} {ops : Array Oper} {Q : Exit → Act → World → Prop} {a : Act} {w : World} {rest : List Oper} {o : Oper} (hgd : o.guard = none) (t n : Nat) (parts : Array (Nat × Operand)) (ho : o.op = .buildSlice t n parts) (pv : Array (Nat × Value)) (hp : parts.map (fun p => (p.1, a.eval p.2)) = pv)
  {v : Value} {w' : World} (hb : (Instr.buildSlice t n pv).run P w = .ok v w') (h : wpList P ops Q rest (a.put o.dst v) w') : wpList P ops Q (o :: rest) a w :=
 wpList_plain hgd fun K hK => by
  subst hp
  unfold Oper.wp execOp
  simp only [ho]
  simp only [Sem.run_bind, hb, Result.andThen_ok, Sem.run_pure]
  exact hK _ _ h
/-- What lies in memory in SglNone. -/
structure sNoneI (w : World) (D : Array Value) (q : Option Addr) (Z : Array Value) (g8 : Nat) (W : World) : Prop where
 below : Below w.heap.size w W
 nomem : NoMem W q
 r3 : ArrAt W w.heap.size D
 r6 : W.rowIs (w.heap.size + 1) 4 1 (fun _ => .bool false)
 r8 : ArrAt W g8 Z
theorem sNoneI.quiet {w A B : World} {N : Nat} {D : Array Value} {q : Option Addr} {Z : Array Value} {g8 : Nat} (h : sNoneI w D q Z g8 A) (k : Quiet N A B) (hN : w.heap.size ≤ N) : sNoneI w D q Z g8 B :=
 ⟨k.below h.below hN, k.nomem h.nomem, k.arr h.r3, k.rowIs h.r6, k.arr h.r8⟩
theorem sNoneI.go {w A B : World} {D : Array Value} {q : Option Addr} {Z : Array Value} {g8 : Nat} (h : sNoneI w D q Z g8 A) (k : Below A.heap.size A B) : sNoneI w D q Z g8 B :=
 ⟨h.below.trans (k.mono h.below.size), h.nomem.below k, h.r3.below k, (Keeps.of_below (S := fun _ => False) k).rowIs h.r6 (fun e => e), h.r8.below k⟩
end Go.Proofs.YtfmabknhfehdcaaGreat
namespace Go.Proofs.YtfmabknhfehdcaaGreat
set_option linter.unusedSimpArgs false
set_option linter.unusedVariables false
open Go.RowKit Go.Shelf
theorem build_cm0 (w : World) : (Instr.build 28 #[]).run Tryz.prog w = .ok (.agg zCm) w := by kernel_rfl
theorem results_cm2 {fn : Func} {p q : Tmp} (h : fn.results = #[.cell p 28, .tmp q]) {tmps : Array Value} {w : World} {s : Nat} {A : Array Value} {v : Value} (H : ArrAt w s A) (h4 : (Tryz.prog.info? 28).map (·.size) = some A.size)
  (hp : tmps.getD p undef = .pointer (some ⟨s, 0, none⟩)) (hq : tmps.getD q undef = v) : (results fn tmps).run Tryz.prog w = .ok (.tuple #[.agg A, v]) w := by
 have hp' : tmps[p]?.getD undef = .pointer (some ⟨s, 0, none⟩) := by simpa using hp
 have hq' : tmps[q]?.getD undef = v := by simpa using hq
 have hl2 := H.loadVar (P := Tryz.prog) Tryz.underlying28 rfl h4
 simp only [results, h]
 simp [Sem.run_bind, Result.andThen, hp', hq', asAddr, hl2]
end Go.Proofs.YtfmabknhfehdcaaGreat
