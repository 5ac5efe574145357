/- sgl: what Build leaves of the blocks of Prepare. -/
import Derived.Test.YtfmabknhfehdcaaZT36
import Derived.Test.YtfmabknhfehdcaaZT34
import Derived.Test.YtfmabknhfehdcaaZT33
import Derived.Test.YtfmabknhfehdcaaZT32
import Derived.Test.YtfmabknhfehdcaaZT35
namespace Go.Proofs.Ytfmabknhfehdcaa
set_option linter.unusedVariables false
set_option linter.unusedSimpArgs false
open Go.RowKit

theorem dC_get : ∀ (l : List Dsc) (i : Nat) (h : i < l.length) (j : Nat) (v : Value), (l[i]'h).cells.toList[j]? = some v → (dC l)[i * 4 + j]? = some v
  | x :: r, 0, _, j, v, hv => by
    show (x.cells.toList ++ dC r)[0 * 4 + j]? = _
    have hj : j < x.cells.toList.length := (List.getElem?_eq_some_iff.1 hv).1
    rw [Nat.zero_mul, Nat.zero_add, List.getElem?_append_left hj]
    exact hv
  | x :: r, i + 1, h, j, v, hv => by
    show (x.cells.toList ++ dC r)[(i + 1) * 4 + j]? = _
    have hx : x.cells.toList.length = 4 := rfl
    rw [List.getElem?_append_right (by rw [hx]; omega), hx, show (i + 1) * 4 + j - 4 = i * 4 + j by omega]
    exact dC_get r i (by simpa using h) j v hv
theorem dAt_dC {w : World} {base c : Nat} {ao : Option Addr} {l : List Dsc} {g : Nat → Dsc} {n : Nat} (hn : n = l.length) (h : w.ownsRow base 66 4 (.slice ao n c) n (dC l)) (hg : ∀ i (hi : i < l.length), g i = l[i]'hi) : DAt w ao n g := by
  intro i hi
  rcases h.2 with ⟨-, h1⟩ | ⟨b, cap, cur, e, hb, hc, rest⟩
  · omega
  · cases e
    refine ⟨b, 0, rfl, fun j v hv => ?_⟩
    have hcs := h.cells (g := b) rfl
    rw [hg i (by omega)] at hv
    have e1 := hcs _ _ (dC_get l i (by omega) j v hv)
    simp only [Addr.add_mid] at e1
    rw [Nat.zero_add]
    simpa using e1
/-- What Build leaves of good blocks. -/
def SBPost (b B size l0 ll : Nat) (p : Nat → Int) (o N : Int) (K : Nat) (d : Dsc) (r : Int) (w' : World) : Prop :=
  r = 0 ∧ 0 ≤ d.a ∧ (K = 0 → d = ⟨1, 0, 0, 0⟩) ∧ ∃ (F : Nat → Int) (L' : List (Nat × Nat)), MemAt w' b B size F L' ∧ L'.length ≤ ll + 1 ∧ Bytes F ∧ ∀ F2 : Nat → Int, (∀ j, l0 ≤ j → F2 j = F j) → ∀ th, spansM F2 size d N th = .ok (outP p o N K)
theorem sbuilt {size l0 K : Nat} {p : Nat → Int} {o N : Int} (hA : TArg K p o N) (hz : size ≤ 4194304) (hs : 0 < size) (hp : ∀ i, i < K → 0 ≤ p i ∧ p i + 4096 ≤ size) (hl : l0 + 16 * K ≤ size) (b B : Nat) (f : Nat → Int) (hf : Bytes f) (L : List (Nat × Nat)) (hL : L.length < 1000) (W : World) (hM : MemAt W b B size f L) (v : Value) (base : Nat) (hv : W.ownsRow base 66 4 v (blkF p o N K).length (dC (blkF p o N K))) :
    Calls Try.prog 38 #[.pointer (some ⟨b, 0, none⟩), .int .u64 (l0 : Nat), v] W fun e w' => ∃ d r, e = .returned (.tuple #[.agg d.cells, .int .i64 r]) ∧ Keeps (Two b B) W w' ∧ SBPost b B size l0 L.length p o N K d r w' ∧ (r = 0 → d.Ok ∧ Vld d) := by
  obtain ⟨av, cv, rfl, hl1, hl2⟩ := ownsRow_shape hv
  have hk0 := pgs_le o N
  have hkk := hA.k
  by_cases hK : K = 0
  · subst hK
    have hN0 : N = 0 := by
      have h1 := hA.n0
      have h2 := hA.n1
      have h3 := hA.o0
      have h4 := hA.o1
      unfold pgs at hkk
      split at hkk
      · omega
      · omega
    subst hN0
    have hD : DAt W av 1 (fun _ => ⟨1, 0, 0, 0⟩) := dAt_dC (base := base) (c := cv) (l := [⟨1, 0, 0, 0⟩]) rfl hv (fun i hi => by simp at hi; subst hi; rfl)
    have hok : (⟨1, 0, 0, 0⟩ : Dsc).Ok := ⟨by decide, by decide, by decide, by decide⟩
    have hgd : Good ⟨1, 0, 0, 0⟩ := by decide
    refine Calls.mono (bld_any l0 av 1 cv b B size f L W hM hs (fun _ => ⟨1, 0, 0, 0⟩) hD (fun _ _ => hok) (by omega) (by omega) (by omega) (by omega)) ?_
    rintro e w' (⟨⟨i, -, h⟩, -⟩ | ⟨-, -, rfl, hb⟩ | ⟨-, h2, -⟩ | ⟨-, h2, -⟩)
    · exact absurd hgd h
    · exact ⟨_, 0, rfl, Keeps.of_below hb, ⟨rfl, by decide, fun _ => rfl, f, L, hM.below hb, by omega, hf, fun F2 _ th => spans_no F2 size th⟩, fun _ => ⟨hok, hgd.1⟩⟩
    · omega
    · omega
  · have hN : 1 ≤ N := by
      have h1 := hA.n0
      unfold pgs at hkk
      split at hkk
      · omega
      · omega
    obtain ⟨k1, k2, k3, k4⟩ := targ_k hA hN
    have hbd := fun k => bN_bd hA.n0 hA.o0 hA.o1 k
    unfold blkF at hv
    rw [if_neg hK, bL_length] at hv
    have hlen : (blkF p o N K).length = K := by unfold blkF; rw [if_neg hK, bL_length]
    rw [hlen]
    have hD := dAt_dC (g := bD p o N) (bL_length p o N K).symm hv (fun i hi => by simp [bL])
    have hok : ∀ i, i < K → Good (bD p o N i) ∧ (bD p o N i).Ok := fun i hi => bD_ok hA hz hp hi (hbd i)
    refine Calls.mono (bld_any l0 av K cv b B size f L W hM hs (bD p o N) hD (fun i hi => (hok i hi).2) k1 (by omega) (by omega) (by omega)) ?_
    rintro e w' (⟨⟨i, hi, h⟩, -⟩ | ⟨-, h1, rfl, hb⟩ | ⟨-, -, h2, -⟩ | ⟨-, h2, h3, rfl, hk, hm⟩)
    · exact absurd (hok i hi).1 h
    · have h0 := hok 0 (by omega)
      exact ⟨_, 0, rfl, Keeps.of_below hb, ⟨rfl, h0.2.a.1, fun e => absurd e hK, f, L, hM.below hb, by omega, hf, fun F2 _ th => spans_one1 hA hN hz hp h1 th⟩, fun _ => ⟨h0.2, h0.1.1⟩⟩
    · omega
    · refine ⟨_, 0, rfl, hk, ⟨rfl, by show (0 : Int) ≤ (l0 : Nat); omega, fun e => absurd e hK, _, _, hm, logged_len _ _ _, bytes_upd hf (bytes_lst _), fun F2 hag th => spans_sgl hA hN hz hp hl hag th⟩, fun _ => ⟨ok_seg (.inr rfl) (by omega) (by omega), vld_seg (.inr rfl) (by omega)⟩⟩
end Go.Proofs.Ytfmabknhfehdcaa

namespace Go.Proofs.Ytfmabknhfehdcaa
open Go.RowKit

/-! the number of spans -/
section
variable {f : Nat → Int} {size : Nat}
theorem addA_len {a : Int} {s s' : PSt} (h : addA size a s = .ok s') : s'.out.length = s.out.length + 1 := by
  unfold addA at h
  split at h
  · cases h
  · cases h; simp
theorem runP_len {second pages : Int} : ∀ (k : Nat) (i : Int) (s : PSt) (l : List Spn), runP f size second pages k i s = .ok l → l.length = s.out.length + k
  | 0, _, s, l, h => by cases h; rfl
  | k + 1, i, s, l, h => by
    unfold runP at h
    split at h
    · cases h
    · rename_i s' he
      have h1 := runP_len k (i + 1) s' l h
      have h2 : s'.out.length = s.out.length + 1 := by
        unfold stepP at he
        split at he
        · cases he
        · rename_i x hx
          obtain ⟨v, t⟩ := x
          split at he
          · cases he
          · have ht : t.out = s.out := by
              unfold adrP at hx
              split at hx
              · exact nxtP_out hx
              · cases hx; rfl
            have := addA_len he
            rw [this, ht]
      omega
theorem exam_len {th : Bool} {d : Dsc} {s s' : WSt} (h : exam size th d s = .ok s') : s'.out.length ≤ s.out.length + 1 := by
  have ha : ∀ x : Spn, (addS x s).out.length ≤ s.out.length + 1 := fun x => by
    unfold addS
    split
    · simp
    · omega
  unfold exam at h
  repeat' split at h
  all_goals first | (cases h; done) | (cases h; first | exact ha _ | (split; exact ha _; exact Nat.le_succ _) | exact Nat.le_succ _)
theorem runS_len {th : Bool} : ∀ (k : Nat) (d : Dsc) (s : WSt) (l : List Spn), runS f size th k d s = .ok l → l.length ≤ s.out.length + k + 1
  | 0, d, s, l, h => by
    unfold runS at h
    split at h
    · cases h
    · rename_i s' he
      have := exam_len he
      repeat' split at h
      all_goals first | (cases h; omega) | cases h
  | k + 1, d, s, l, h => by
    unfold runS at h
    split at h
    · cases h
    · rename_i s' he
      have h1 := exam_len he
      split at h
      · cases h; omega
      · split at h
        · cases h
        · split at h
          · cases h
          · split at h
            · cases h
            · have h2 := runS_len k _ _ l h
              have h3 : ({ s' with at' := s'.at' + 16 } : WSt).out.length = s'.out.length := rfl
              omega
theorem spansT_len {sgl th : Bool} {d0 d1 n : Int} {l : List Spn} (h : spansT f size sgl d0 d1 n th = .ok l) : l.length ≤ 2000 := by
  unfold spansT at h
  split at h
  · split at h
    · unfold spansM at h
      split at h
      · cases h
      · split at h
        · cases h; simp
        · have := runS_len _ _ _ l h
          simp only [List.length_nil] at this
          omega
    · cases h
  · unfold spansP at h
    split at h
    · cases h
    · split at h
      · cases h; simp
      · split at h
        · cases h
        · split at h
          · cases h
          · rename_i s he
            have h1 := runP_len _ _ _ l h
            have h2 := addA_len he
            simp only [List.length_nil] at h2
            have h3 : pgs d0 n ≤ 257 := by unfold pgs; split <;> omega
            omega
end
theorem sumN_sumS : ∀ (l : List Spn), (∀ x ∈ l, 0 ≤ x.n) → ((sumN l : Nat) : Int) = sumS l
  | [], _ => rfl
  | x :: r, h => by
    have h1 := sumN_sumS r (fun y hy => h y (List.mem_cons_of_mem _ hy))
    have h2 := h x List.mem_cons_self
    simp only [sumN, sumS]
    omega
/-! the helpers of the laws -/
theorem num16_any (no : Int) (w : World) : Calls Try.prog 20 #[.int .i64 no] w fun e w' => e = .returned (.int .i64 no) ∧ w = w' := by
  go_enter Try.func20, Try.ntmps20
  go_wp2
  go_ret
  exact ⟨rfl, rfl⟩
theorem buildSt0 (w : World) : (Instr.build 38 #[]).run Try.prog w = .ok (.agg st0) w := by kernel_rfl
theorem guardSt (i j : Nat) (X Y : Array Value) (w : World) : (eqGuard .eql 38 (.tmp i) (.tmp j) (.agg X) (.agg Y)).run Try.prog w = .ok () w := by kernel_rfl
theorem eqSt0 (w : World) : (binOp .eql 38 (.agg st0) (.agg st0)).run Try.prog w = .ok (.bool true) w := by kernel_rfl
theorem eqStA (c : Int) (w : World) : (binOp .eql 38 (.agg (stA c)) (.agg (stA c))).run Try.prog w = .ok (.bool true) w := by
  unfold stA
  simp [go_sem]
set_option maxRecDepth 100000 in
set_option maxHeartbeats 1000000 in
theorem code_0 (w : World) : Calls Try.prog 11 #[.agg st0, .int .i64 0] w fun e w' => e = .returned (.bool true) ∧ Below w.heap.size w w' := by
  obtain ⟨S, hS⟩ : ∃ S, S = st0 := ⟨_, rfl⟩
  have HS4 := Lib.hid (show S.size = 4 by rw [hS]; rfl)
  have HB := Lib.hid buildSt0
  have HE := Lib.hid eqSt0
  rw [← hS] at HB HE ⊢
  clear hS
  go_enter Try.func11, Try.ntmps11
  have A0 := Lib.hid (ArrAt.fresh w S 38 (by rw [HS4.out]; decide))
  have HSZ := Lib.hid (show (Try.prog.info? 38).map (·.size) = some S.size by rw [HS4.out]; exact sizeSt)
  go_wp2_with (first
    | ((with_reducible show wpList _ _ _ (⟨some 7, _, _, _, _, _⟩ :: _) _ _); refine wpList_loadA rfl A0.out 38 (.tmp 2) rfl (by first | rfl | simp [Act.eval, Act.put]) Try.underlying38 rfl HSZ.out ?_)
    | ((with_reducible show wpList _ _ _ (⟨some 8, _, _, _, _, _⟩ :: _) _ _); refine wpList_build0 rfl 38 rfl (HB.out _) ?_)
    | ((with_reducible show wpList _ _ _ (⟨some 9, _, _, _, _, _⟩ :: _) _ _); refine wpList_valG (by rfl) (v := .bool true) (exec_eql 38 (.tmp 7) (.tmp 8) _ rfl _ _ rfl rfl (guardSt _ _ _ _ _) (HE.out _)) ?_))
  go_ret
  exact ⟨rfl, (Below.refl _ _).alloc (Nat.le_refl _) _⟩
set_option maxRecDepth 100000 in
set_option maxHeartbeats 1000000 in
theorem code_c (c : Int) (h0 : (c == 0) = false) (h1 : 0 ≤ c) (h2 : c ≤ 255) (w : World) : Calls Try.prog 11 #[.agg (stA c), .int .i64 c] w fun e w' => e = .returned (.bool true) ∧ Below w.heap.size w w' := by
  obtain ⟨S, hS⟩ : ∃ S, S = stA c := ⟨_, rfl⟩
  have HS4 := Lib.hid (show S.size = 4 by rw [hS]; rfl)
  have HB := Lib.hid (buildSt c)
  have HE := Lib.hid (eqStA c)
  rw [← hS] at HB HE ⊢
  clear hS
  go_enter Try.func11, Try.ntmps11
  have A0 := Lib.hid (ArrAt.fresh w S 38 (by rw [HS4.out]; decide))
  have HSZ := Lib.hid (show (Try.prog.info? 38).map (·.size) = some S.size by rw [HS4.out]; exact sizeSt)
  go_wp2_with (first
    | ((with_reducible show wpList _ _ _ (⟨some 10, _, _, _, _, _⟩ :: _) _ _); refine wpList_loadA rfl A0.out 38 (.tmp 2) rfl (by first | rfl | simp [Act.eval, Act.put]) Try.underlying38 rfl HSZ.out ?_)
    | ((with_reducible show wpList _ _ _ (⟨some 13, _, _, _, _, _⟩ :: _) _ _); refine wpList_build2 rfl 38 1 3 (.tmp 12) (.const (.bool true)) rfl _ _ rfl rfl (HB.out _) ?_)
    | ((with_reducible show wpList _ _ _ (⟨some 14, _, _, _, _, _⟩ :: _) _ _); refine wpList_valG (by rfl) (v := .bool true) (exec_eql 38 (.tmp 10) (.tmp 13) _ rfl _ _ rfl rfl (guardSt _ _ _ _ _) (HE.out _)) ?_))
  go_ret
  exact ⟨rfl, (Below.refl _ _).alloc (Nat.le_refl _) _⟩
/-- the status of a code -/
def stC (c : Int) : Array Value := if c = 0 then st0 else stA c
theorem stC_size (c : Int) : (stC c).size = 4 := by unfold stC; split <;> rfl
theorem stC_one (c : Int) : (stC c).all (·.oneCell') = true := by
  unfold stC
  split
  · exact st0_one
  · exact stA_one c
theorem code_any (c : Int) (h1 : 0 ≤ c) (h2 : c ≤ 255) (w : World) : Calls Try.prog 11 #[.agg (stC c), .int .i64 c] w fun e w' => e = .returned (.bool true) ∧ Below w.heap.size w w' := by
  unfold stC
  split
  · rename_i h
    subst h
    exact code_0 w
  · rename_i h
    exact code_c c (beq_eq_false_iff_ne.2 h) h1 h2 w
/-- bytes as a string -/
def strB (L : List Int) : ByteArray := ⟨(L.map fun n => UInt8.ofNat n.toNat).toArray⟩
theorem conv_own {w : World} {base : Nat} {v : Value} {L : List Int} (h : w.ownsRow base 5 1 v L.length (byV L)) : (convert 29 9 v).run Try.prog w = .ok (.string (strB L)) w := by
  have hl : (byV L).length = L.length := List.length_map _
  obtain ⟨ao, nc, rfl, hc⟩ := own_form0 h
  cases ao with
  | none =>
    have h0 : L = [] := by
      cases L with
      | nil => rfl
      | cons x r =>
        obtain ⟨g, e, -⟩ := hc 0 (.int .u8 x) (by simp) rfl
        cases e
    subst h0
    simp only [List.length_nil]
    rw [run_convert_bytes_string w 29 9 5 none 0 nc Try.underlying29 Try.underlying5 Try.underlying9]
    rfl
  | some ad =>
    have hx : ∀ j, j < L.length → w.cell? (ad.add j) = some (.int .u8 (L.getD j 0)) := fun j hj => by
      obtain ⟨g, e, -, hcc⟩ := hc j (.int .u8 (L.getD j 0)) hj (by unfold byV; simp [hj])
      cases e
      rw [Addr.add_mid, Nat.zero_add]
      exact hcc
    rw [conv_str w ad L.length nc (fun j => L.getD j 0) hx]
    have e : strOf L.length (fun j => L.getD j 0) = strB L := by
      unfold strOf strB
      congr 2
      apply List.ext_getElem?
      intro i
      rw [List.getElem?_map, List.getElem?_map]
      by_cases hi : i < L.length
      · rw [List.getElem?_range hi, List.getElem?_eq_getElem hi]
        simp [hi]
      · rw [List.getElem?_eq_none (by simp; omega), List.getElem?_eq_none (by omega)]
        rfl
    rw [e]
/-- what gathers asks -/
def gWant (f : Nat → Int) : Except Int (List Spn) → ByteArray
  | .error _ => ByteArray.empty
  | .ok l => strB (gatF f l)
def gCode : Except Int (List Spn) → Int
  | .error c => c
  | .ok _ => 0
theorem TgPost.form {w w' : World} {f : Nat → Int} {R : Except Int (List Spn)} {e : Ending} (h : TgPost w f R e w') (hc : ∀ c, R = .error c → c ≠ 0) : ∃ v, e = .returned (.tuple #[v, .agg (stC (gCode R))]) ∧ Below w.heap.size w w' ∧ (∀ W, Below w'.heap.size w' W → (convert 29 9 v).run Try.prog W = .ok (.string (gWant f R)) W) ∧ v.oneCell' = true ∧ ∃ x m n, v = .slice x m n := by
  obtain ⟨h1, h2⟩ := h
  cases R with
  | error c =>
    have := hc c rfl
    refine ⟨_, by rw [h2]; unfold stC gCode; rw [if_neg this], h1, fun W _ => ?_, rfl, _, _, _, rfl⟩
    rw [run_convert_bytes_string W 29 9 5 none 0 0 Try.underlying29 Try.underlying5 Try.underlying9]
    rfl
  | ok l =>
    obtain ⟨v, he, ho⟩ := h2
    obtain ⟨x, m, n, hv⟩ := owns_slice ho
    refine ⟨v, he, h1, fun W hb => conv_own (ownsRow_keeps ho (Keeps.of_below (S := fun _ => False) hb) (fun _ _ e => e)), by rw [hv]; rfl, x, m, n, hv⟩
set_option maxRecDepth 100000 in
set_option maxHeartbeats 2000000 in
theorem gath_of (m : Option Addr) (C : Array Value) (n : Int) (f : Nat → Int) (R : Except Int (List Spn)) (w : World) (h16 : C.size = 16) (hR : ∀ c, R = .error c → 1 ≤ c ∧ c ≤ 255)
    (hg : ∀ W, Below w.heap.size w W → Calls Try.prog 47 #[.pointer m, .agg C, .int .i64 n] W (TgPost W f R)) :
    Calls Try.prog 21 #[.pointer m, .agg C, .int .i64 n, .string (gWant f R), .int .i64 (gCode R)] w fun e w' => e = .returned (.bool true) ∧ Below w.heap.size w w' := by
  have HG := Lib.hid hg
  have H16 := Lib.hid h16
  have HR := Lib.hid (show ∀ c, R = .error c → c ≠ 0 from fun c h => by have := hR c h; omega)
  have HC := Lib.hid (show 0 ≤ gCode R ∧ gCode R ≤ 255 by
    cases R with
    | error c => have := hR c rfl; exact ⟨by show 0 ≤ c; omega, by show c ≤ 255; omega⟩
    | ok l => exact ⟨by show (0 : Int) ≤ 0; omega, by show (0 : Int) ≤ 255; omega⟩)
  obtain ⟨s, hs⟩ : ∃ s, s = gWant f R := ⟨_, rfl⟩
  obtain ⟨c, hc⟩ : ∃ c, c = gCode R := ⟨_, rfl⟩
  have HW := Lib.hid hs
  have HCC := Lib.hid hc
  have HCZ := Lib.hid (show (Try.prog.info? 28).map (·.size) = some C.size by rw [h16]; exact sizeCm)
  rw [← hs, ← hc]
  rw [← hc] at HC
  clear hg h16 hR hs hc
  go_enter Try.func21, Try.ntmps21
  go_upto_region 1 with fail
  obtain ⟨W0, hW0⟩ : ∃ W0, W0 = w.alloc (.cells C 28) := ⟨_, rfl⟩
  rw [← hW0]
  have AC := Lib.hid (show ArrAt W0 w.heap.size C by rw [hW0]; exact ArrAt.fresh w C _ (by rw [H16.out]; decide))
  have HB0 := Lib.hid (show Below w.heap.size w W0 by rw [hW0]; exact (Below.refl _ _).alloc (Nat.le_refl _) _)
  clear hW0
  go_upto_region 2 with (first
    | ((with_reducible show wpList _ _ _ (⟨some 15, _, _, _, _, _⟩ :: _) _ _); refine wpList_loadA rfl AC.out 28 (.tmp 6) rfl (by first | rfl | simp [Act.eval, Act.put]) Try.underlying28 rfl HCZ.out ?_)
    | (go_at_call 47; refine (HG.out W0 HB0.out).mono ?_; intro e w1 hp; obtain ⟨v, rfl, hb, hcv, -, xa, xm, xn, rfl⟩ := hp.form HR.out; rw [← HW.out] at hcv; rw [← HCC.out]; have HB1 := Lib.hid (HB0.out.trans (hb.mono HB0.out.size)); have HCV := Lib.hid hcv; have HF1 := Lib.hid (ArrAt.fresh w1 st0 38 (by decide)); clear hb hcv hp)
    | ((with_reducible show wpList _ _ _ (⟨some 12, _, _, _, _, _⟩ :: _) _ _); refine wpList_alloc rfl 38 rfl zeroSt ?_; rw [show (Value.agg st0).cells = st0 from rfl])
    | ((with_reducible show wpList _ _ _ (⟨none, .store _ _ _, _, _, _, _⟩ :: _) _ _); refine wpList_storeA rfl (b := w1.heap.size) (A := st0) (A' := stC c) HF1.out 38 (.tmp 12) (.tmp 19) rfl (by simp [Act.eval, Act.put]) (by simp [Act.eval, Act.put]) sizeSt (by rw [stC_size]; rfl) (stC_one c) ?_))
  obtain ⟨W2, hW2⟩ : ∃ z, z = (w1.alloc (.cells st0 38)).setCells w1.heap.size 0 (stC c).toList := ⟨_, rfl⟩
  rw [← hW2]
  obtain ⟨hb2, ha2⟩ := stored_at (y := w1) (T := 38) (Z := st0) (A := stC c) (by decide) (by rw [stC_size]; rfl) hW2
  have HB2 := Lib.hid (HB1.out.trans (hb2.mono HB1.out.size))
  have AS := Lib.hid ha2
  have hcv := HCV.out W2 hb2
  have HSZ := Lib.hid (show (Try.prog.info? 38).map (·.size) = some (stC c).size by rw [stC_size]; exact sizeSt)
  clear hW2 hb2 ha2
  go_wp2_with (first
    | ((with_reducible show wpList _ _ _ (⟨some 25, _, _, _, _, _⟩ :: _) _ _); refine wpList_loadAG (by rfl) AS.out 38 (.tmp 12) rfl (by first | rfl | simp [Act.eval, Act.put]) Try.underlying38 rfl HSZ.out ?_)
    | (go_at_call 11; refine (code_any c HC.out.1 HC.out.2 _).mono ?_; rintro e w3 ⟨rfl, hb⟩; have HB3 := Lib.hid (HB2.out.trans (hb.mono HB2.out.size)); clear hb))
  go_ret
  exact ⟨rfl, HB3.out⟩
/-- A command with its parts. -/
structure Cm (C : Array Value) (sgl : Bool) (mt d0 d1 : Int) : Prop where
  z : C.size = 16
  o : C.all (·.oneCell') = true
  g2 : C[2]? = some (.bool sgl)
  g7 : C[7]? = some (.int .u64 mt)
  g8 : C[8]? = some (.int .u64 d0)
  g9 : C[9]? = some (.int .u64 d1)
  b7 : 0 ≤ mt ∧ mt ≤ 18446744073709551615
  b8 : 0 ≤ d0 ∧ d0 ≤ 18446744073709551615
  b9 : 0 ≤ d1 ∧ d1 ≤ 18446744073709551615
theorem codeT_bd (no : Int) : 0 ≤ codeT no ∧ codeT no ≤ 255 := by
  unfold codeT
  repeat' split
  all_goals omega
section
variable {C : Array Value} {sgl : Bool} {mt d0 d1 : Int} (hC : Cm C sgl mt d0 d1) (b B size : Nat) (f : Nat → Int) (L : List (Nat × Nat)) (w : World) (hM : MemAt w b B size f L) (hs : 0 < size) (hf : Bytes f)
include hC hM hs hf
theorem mvS (n : Int) (th : Bool) : ∀ W, Below w.heap.size w W → Calls Try.prog 46 #[.agg (#[.pointer (some ⟨b, 0, none⟩)] ++ C), .int .i64 n, .bool th] W (MsPost W (dataT f size sgl d0 d1 n th)) := fun W hb =>
  tspans_any _ C sgl d0 d1 n th b B size f L W ⟨hC.z, rfl, hC.o⟩ (hM.below hb) hs hf hC.g2 hC.g8 hC.g9 hC.b8 hC.b9
theorem trSp (n : Int) (th : Bool) : Calls Try.prog 24 #[.pointer (some ⟨b, 0, none⟩), .agg C, .int .i64 n, .bool th] w (TspPost w (dataT f size sgl d0 d1 n th)) :=
  trSpans_of _ C n th _ w hC.z (mvS hC b B size f L w hM hs hf n th)
theorem trGa (n : Int) : Calls Try.prog 47 #[.pointer (some ⟨b, 0, none⟩), .agg C, .int .i64 n] w (TgPost w f (dataT f size sgl d0 d1 n false)) := by
  refine tg_of b B size f L C n _ w hC.z hC.o hM (mvS hC b B size f L w hM hs hf n false) fun l hl => ?_
  obtain ⟨h0, h1, h2⟩ := dataT_ok hl
  obtain ⟨left, hs2⟩ := spansT_sok hf hC.b8.1 hC.b9.1 h2
  have hnb := spansT_nb h2
  refine ⟨fun x hx => ?_, ?_⟩
  · have := hs2.x x hx
    exact ⟨this.1, this.2.1, this.2.2 (hnb x hx)⟩
  · have := hs2.s
    have := hs2.l
    omega
theorem trSc (ao : Option Addr) (N dc : Nat) (g : Nat → Int) (hN : N ≤ 4611686018427387904) (hD : RestAt (Two b B) w (.slice ao N dc) N g) (hL : L.length < 1000000) :
    Calls Try.prog 19 #[.pointer (some ⟨b, 0, none⟩), .agg C, .slice ao N dc] w (TscPost w b B size f L.length g (dataT f size sgl d0 d1 N true)) := by
  refine ts_of b B size f L C ao N dc g _ w hC.z hC.o hM hN hD hL (mvS hC b B size f L w hM hs hf N true) fun l hl => ?_
  obtain ⟨h0, h1, h2⟩ := dataT_ok hl
  obtain ⟨left, hs2⟩ := spansT_sok hf hC.b8.1 hC.b9.1 h2
  refine ⟨fun x hx => ?_, ?_, by have := spansT_len h2; omega⟩
  · have := hs2.x x hx
    exact ⟨this.1, this.2.1, this.2.2⟩
  · have h3 := sumN_sumS l (fun x hx => (hs2.x x hx).1)
    have := hs2.s
    have := hs2.l
    omega
omit hf in
theorem mvM (n : Int) : ∀ W, Below w.heap.size w W → Calls Try.prog 30 #[.agg (#[.pointer (some ⟨b, 0, none⟩)] ++ C), .int .i64 n] W (MePost W (metaT size mt n)) := fun W hb =>
  tmeta_any _ C mt n b B size f L W ⟨hC.z, rfl, hC.o⟩ (hM.below hb) hs hC.g7 hC.b7.1 hC.b7.2
omit hC hM hs hf in
theorem metaT_ok {size : Nat} {a n : Int} (h : metaT size a n = 0) (h0 : 0 < n) : chk size a n = 0 := by
  unfold metaT at h
  split at h
  · cases h
  · split at h
    · cases h
    · rename_i hc
      exact Classical.not_not.1 (fun e => hc ⟨h0, e⟩)
omit hC hM hs hf in
theorem metaT_nn {size : Nat} {a n : Int} (h : metaT size a n = 0) : 0 ≤ n ∧ n ≤ 1048576 := by
  unfold metaT at h
  split at h
  · cases h
  · omega
omit hf in
theorem trGm (n : Int) : Calls Try.prog 8 #[.pointer (some ⟨b, 0, none⟩), .agg C, .int .i64 n] w (TgmPost w (metaT size mt n) n fun i => f (mt.toNat + i)) := by
  refine tgm_of _ C mt n _ _ w hC.z hC.o hC.g7 (mvM hC b B size f L w hM hs n) (fun h => (metaT_nn h).1) fun W hb h0 hn => ?_
  have h1 := (metaT_nn h0).1
  have h2 := chk_ok (metaT_ok h0 (by omega))
  exact read_okI b B size f L mt n W (hM.below hb) hC.b7.1 h1 h2.2
end
theorem dataT_bd {f : Nat → Int} {size : Nat} {sgl th : Bool} {d0 d1 n c : Int} (h : dataT f size sgl d0 d1 n th = .error c) : 0 ≤ c ∧ c ≤ 255 := by
  unfold dataT at h
  split at h
  · cases h; omega
  · cases hx : spansT f size sgl d0 d1 n th with
    | error e =>
      rw [hx] at h
      cases h
      exact codeT_bd e
    | ok l => rw [hx] at h; cases h
end Go.Proofs.Ytfmabknhfehdcaa

namespace Go.Proofs.Ytfmabknhfehdcaa
open Go.RowKit

/-- a command with other data -/
def cmD (C : Array Value) (x y : Int) : Array Value := (C.setIfInBounds 8 (.int .u64 x)).setIfInBounds 9 (.int .u64 y)
theorem all_set {A : Array Value} (h : A.all (·.oneCell') = true) (i : Nat) (v : Value) (hv : v.oneCell' = true) : (A.setIfInBounds i v).all (·.oneCell') = true := by
  rw [Array.all_eq_true] at h ⊢
  intro j hj
  have hj' : j < A.size := by simpa using hj
  have e := Array.getElem_setIfInBounds (xs := A) (i := i) (a := v) (j := j) hj'
  rw [e]
  split
  · exact hv
  · exact h j hj'
theorem cmD_cm {C : Array Value} {sgl : Bool} {mt d0 d1 x y : Int} (h : Cm C sgl mt d0 d1) (hx : 0 ≤ x ∧ x ≤ 18446744073709551615) (hy : 0 ≤ y ∧ y ≤ 18446744073709551615) : Cm (cmD C x y) sgl mt x y := by
  have hz := h.z
  refine ⟨by simp [cmD, hz], ?_, ?_, ?_, ?_, ?_, h.b7, hx, hy⟩
  · exact all_set (all_set h.o 8 _ rfl) 9 _ rfl
  · simp [cmD, Array.getElem?_setIfInBounds, h.g2]
  · simp [cmD, Array.getElem?_setIfInBounds, h.g7]
  · simp [cmD, Array.getElem?_setIfInBounds, hz]
  · simp [cmD, Array.getElem?_setIfInBounds, hz]
set_option maxRecDepth 100000 in
set_option maxHeartbeats 8000000 in
theorem prep_p {C : Array Value} {mt d0 d1 : Int} (b B size : Nat) (f : Nat → Int) (L : List (Nat × Nat)) (la pa : Option Addr) (nl lc np pc : Nat) (o N : Int) (T : Nat → Prop) (Post : Int → Int → Int → World → World → Prop) (w : World) (hC : Cm C false mt d0 d1) (hM : MemAt w b B size f L) (hs : 0 < size)
    (hB : ∀ W, Below w.heap.size w W → Calls Try.prog 36 #[.pointer (some ⟨b, 0, none⟩), .slice la nl lc, .slice pa np pc, .int .i64 o, .int .i64 N] W fun e w' => ∃ x y r, e = .returned (.tuple #[.int .u64 x, .int .u64 y, .int .i64 r]) ∧ Keeps T W w' ∧ Post x y r W w')
    (hT : ∀ j, T j → j < w.heap.size) (hPk : ∀ x y r W a c, Post x y r W a → Keeps (fun j => w.heap.size ≤ j) a c → Post x y r W c) :
    Calls Try.prog 17 #[.pointer (some ⟨b, 0, none⟩), .agg C, .slice la nl lc, .slice pa np pc, .int .i64 o, .int .i64 N] w fun e w' => ∃ x y r W, Below w.heap.size w W ∧ Post x y r W w' ∧ Keeps T w w' ∧ e = .returned (.tuple #[.agg (if r = 0 then cmD C x y else zCm), .int .i64 r]) := by
  have HB := Lib.hid hB
  have HPK := Lib.hid hPk
  have HT := Lib.hid hT
  have HM := Lib.hid hM
  have HC := Lib.hid hC
  obtain ⟨sz, hsz⟩ : ∃ z : Int, z = size := ⟨_, rfl⟩
  have dz : (sz == 0) = false := beq_eq_false_iff_ne.2 (by omega)
  have HSZ := Lib.hid hsz
  have HCZ := Lib.hid (show (Try.prog.info? 28).map (·.size) = some C.size by rw [hC.z]; exact sizeCm)
  have HZ := Lib.hid zeroCm
  have HBZ := Lib.hid build_cm0
  have HZZ := Lib.hid (show (Try.prog.info? 28).map (·.size) = some zCm.size from sizeCm)
  have HZ1 := Lib.hid (show zCm.all (·.oneCell') = true by simp [zCm, Value.oneCell'])
  have HZ0 := Lib.hid (show zCm.size = 16 from rfl)
  clear hB hPk hT hM hC hsz
  obtain ⟨Z, hZ⟩ : ∃ Z, Z = zCm := ⟨_, rfl⟩
  rw [← hZ] at HZ HBZ HZZ HZ1 HZ0 ⊢
  clear hZ
  go_enter Try.func17, Try.ntmps17
  go_upto_region 1 with ((with_reducible show wpList _ _ _ (⟨some 12, _, _, _, _, _⟩ :: _) _ _); refine wpList_alloc rfl 28 rfl HZ.out ?_; rw [show (Value.agg Z).cells = Z from rfl])
  obtain ⟨W0, hW0⟩ : ∃ W0, W0 = (w.alloc (.cells C 28)).alloc (.cells Z 28) := ⟨_, rfl⟩
  rw [← hW0]
  have AC := Lib.hid (show ArrAt W0 w.heap.size C by rw [hW0]; exact (ArrAt.fresh w C _ (by rw [HC.out.z]; decide)).alloc _)
  have AZ := Lib.hid (show ArrAt W0 (w.heap.size + 1) Z by rw [hW0]; simpa using ArrAt.fresh (w.alloc (.cells C 28)) Z 28 (by rw [HZ0.out]; decide))
  have B0 := Lib.hid (show Below w.heap.size w W0 by rw [hW0]; exact ((Below.refl _ _).alloc (Nat.le_refl _) _).alloc (by simp) _)
  clear hW0
  have c2 := AC.out.cell HC.out.g2
  go_upto_region 9 with (go_at_call 34; refine (size_is b B size f L sz _ (HM.out.below B0.out) HSZ.out).mono ?_; rintro e w' ⟨rfl, rfl⟩)
  have hwz := B0.out.size
  go_upto_region 14 with (go_at_call 36; refine (HB.out W0 B0.out).mono ?_; rintro e w3 ⟨x, y, r, rfl, hk, hp⟩; have K3 := Lib.hid hk; have P3 := Lib.hid hp; have AC3 := Lib.hid (AC.out.kept hk (fun e => by have := HT.out _ e; omega)); have AZ3 := Lib.hid (AZ.out.kept hk (fun e => by have := HT.out _ e; omega)); have c8 := AC3.out.cell HC.out.g8; have c9 := AC3.out.cell HC.out.g9; have y8 := AC3.out.frozen (i := 8) (by rw [HC.out.z]; omega); have y9 := AC3.out.frozen (i := 9) (by rw [HC.out.z]; omega); clear hk hp)
  obtain ⟨W4, hW4⟩ : ∃ z, z = (w3.setCell ⟨w.heap.size, 8, none⟩ (.int .u64 x)).setCell ⟨w.heap.size, 9, none⟩ (.int .u64 y) := ⟨_, rfl⟩
  rw [← hW4]
  have k4 : Keeps (One w.heap.size) w3 W4 := by rw [hW4]; exact ((Keeps.refl (One w.heap.size) w3).setCell (p := ⟨w.heap.size, 8, none⟩) (fun _ => rfl) _).setCell (p := ⟨w.heap.size, 9, none⟩) (fun _ => rfl) _
  have AC4 := Lib.hid (show ArrAt W4 w.heap.size (cmD C x y) by
    rw [hW4]
    exact (AC3.out.set 8 (.int .u64 x) (by rw [HC.out.z]; omega)).set 9 (.int .u64 y) (by rw [Array.size_setIfInBounds, HC.out.z]; omega))
  have AZ4 := Lib.hid (AZ3.out.kept k4 (fun e => by have e : w.heap.size + 1 = w.heap.size := e; omega))
  have K4 := Lib.hid k4
  have HDZ := Lib.hid (show (Try.prog.info? 28).map (·.size) = some (cmD C x y).size by rw [show (cmD C x y).size = C.size by simp [cmD]]; exact HCZ.out)
  have HD1 := Lib.hid (show (cmD C x y).all (·.oneCell') = true from all_set (all_set HC.out.o 8 _ rfl) 9 _ rfl)
  have HD16 := Lib.hid (show (cmD C x y).size = 16 by rw [show (cmD C x y).size = C.size by simp [cmD]]; exact HC.out.z)
  obtain ⟨D, hD⟩ : ∃ D, D = cmD C x y := ⟨_, rfl⟩
  rw [← hD] at AC4 HDZ HD1 HD16
  have HDE := Lib.hid hD
  clear hD hW4 k4 c8 c9 y8 y9 AC3 AZ3 c2
  have HK := Lib.hid (show ∀ A : Array Value, Keeps T w (W4.setCells (w.heap.size + 1) 0 A.toList) ∧ Post x y r W0 (W4.setCells (w.heap.size + 1) 0 A.toList) from fun A => by
    have k5 : Keeps (fun j => w.heap.size ≤ j) w3 (W4.setCells (w.heap.size + 1) 0 A.toList) := (K4.out.mono (fun j _ e => Nat.le_of_eq (Eq.symm e))).trans (Keeps.store (S := fun j => w.heap.size ≤ j) (Keeps.refl _ _) (fun _ => by show w.heap.size ≤ _; omega) _ _)
    refine ⟨?_, HPK.out _ _ _ _ _ _ P3.out k5⟩
    have k6 : Keeps (fun j => T j ∨ w.heap.size ≤ j) w (W4.setCells (w.heap.size + 1) 0 A.toList) := ((Keeps.of_below B0.out).trans (K3.out.mono fun _ _ e => Or.inl e)).trans (k5.mono fun _ _ e => Or.inr e)
    exact ⟨k6.os, k6.tape, k6.output, k6.size, fun k hk hS => k6.block k hk (fun e => e.elim hS (fun e => by omega))⟩)
  by_cases hr : r = 0
  · have q : (r != 0) = false := by simp [hr]
    have HR := Lib.hid hr
    clear hr
    go_wp2_with (first
      | ((with_reducible show wpList _ _ _ (⟨some 77, _, _, _, _, _⟩ :: _) _ _); refine wpList_loadA rfl AC4.out 28 (.tmp 7) rfl (by first | rfl | simp [Act.eval, Act.put]) Try.underlying28 rfl HDZ.out ?_)
      | ((with_reducible show wpList _ _ _ (⟨none, .store _ _ _, _, _, _, _⟩ :: _) _ _); refine wpList_storeA rfl (b := w.heap.size + 1) (A := Z) (A' := D) AZ4.out 28 (.tmp 12) (.tmp 77) rfl (by simp [Act.eval, Act.put]) (by simp [Act.eval, Act.put]) HZZ.out (by rw [HD16.out, HZ0.out]) HD1.out ?_))
    obtain ⟨h1, h2⟩ := HK.out D
    have hs := AZ4.out.store D (by rw [HD16.out, HZ0.out])
    refine bodyPost_ret (v := .tuple #[.agg D, .int .i64 r]) (results_cm2 Try.results17 hs HDZ.out rfl (by rw [HR.out]; rfl)) rfl ⟨x, y, r, W0, B0.out, h2, h1, by rw [if_pos HR.out, HDE.out]⟩
  · have q : (r != 0) = true := by simp [hr]
    have HR := Lib.hid hr
    clear hr
    go_wp2_with (first
      | ((with_reducible show wpList _ _ _ (⟨some 75, _, _, _, _, _⟩ :: _) _ _); refine wpList_build0 rfl 28 rfl (HBZ.out _) ?_)
      | ((with_reducible show wpList _ _ _ (⟨none, .store _ _ _, _, _, _, _⟩ :: _) _ _); refine wpList_storeA rfl (b := w.heap.size + 1) (A := Z) (A' := Z) AZ4.out 28 (.tmp 12) (.tmp 75) rfl (by simp [Act.eval, Act.put]) (by simp [Act.eval, Act.put]) HZZ.out rfl HZ1.out ?_))
    obtain ⟨h1, h2⟩ := HK.out Z
    have hs := AZ4.out.store Z rfl
    refine bodyPost_ret (v := .tuple #[.agg Z, .int .i64 r]) (results_cm2 Try.results17 hs HZZ.out rfl rfl) rfl ⟨x, y, r, W0, B0.out, h2, h1, by rw [if_neg HR.out]⟩
end Go.Proofs.Ytfmabknhfehdcaa
