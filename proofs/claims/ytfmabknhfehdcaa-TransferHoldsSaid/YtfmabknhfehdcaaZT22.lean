/- transfer: the codes of errors; must; what is recovered. -/
import Derived.Test.YtfmabknhfehdcaaZT21
import Derived.Test.YtfmabknhfehdcaaZT7
import Derived.Test.YtfmabknhfehdcaaZT6
import Derived.Defers
import Derived.Recover
namespace Go.Proofs.Ytfmabknhfehdcaa
set_option linter.unusedVariables false
set_option linter.unusedSimpArgs false
open Go.RowKit

/-- the cells of a status -/
def stA (code : Int) : Array Value := #[.int .u8 0, .int .u8 code, .bool false, .bool true]
def st0 : Array Value := #[.int .u8 0, .int .u8 0, .bool false, .bool false]
def panT (code : Int) : PanicEntry := { v := .iface 38 (.agg (stA code)), recovered := false }
theorem sizeSt : (Try.prog.info? 38).map (·.size) = some 4 := by kernel_rfl
theorem zeroSt (w : World) : (zeroValue 38).run Try.prog w = .ok (.agg st0) w := by kernel_rfl
theorem buildSt (code : Int) (w : World) : (Instr.build 38 #[(1, .int .u8 code), (3, .bool true)]).run Try.prog w = .ok (.agg (stA code)) w := by kernel_rfl
theorem stA_one (code : Int) : (stA code).all (·.oneCell') = true := by simp [stA, Value.oneCell']
theorem st0_one : st0.all (·.oneCell') = true := by simp [st0, Value.oneCell']

/-- the codes by error -/
def codesT : List (Int × Value) := [(1, .int .u8 6), (3, .int .u8 4), (161, .int .u8 13), (5, .int .u8 14), (162, .int .u8 15), (160, .int .u8 17), (2, .int .u8 17), (150, .int .u8 19)]
set_option maxRecDepth 100000 in
set_option maxHeartbeats 4000000 in
theorem codes_any (w : World) : Calls Try.prog 58 #[] w fun e w' => ∃ r, e = .returned (.map (some r)) ∧ w.heap.size ≤ r ∧ MapIs .i64 w' r codesT ∧ Below w.heap.size w w' := by
  have hm0 : MapIs .i64 (w.alloc (.map #[] 0)) w.heap.size [] := MapIs.made w
  have HM := Lib.hid hm0
  have hk0 : Keeps (fun j => w.heap.size ≤ j) w (w.alloc (.map #[] 0)) := (Keeps.refl _ w).alloc _
  have HK := Lib.hid hk0
  have hmm := @run_makeMap Try.prog
  clear hm0 hk0
  go_enter Try.func58, Try.ntmps58
  go_wp2_with ((with_reducible show wpList _ _ _ (⟨none, .insert _ _ _ _, _, _, _, _⟩ :: _) _ _); refine wpList_insert_mp rfl _ _ _ rfl Try.underlying115 Try.underlying50 HM.out _ _ rfl rfl rfl ?_ ?_; kernel_rfl; intro w' hm' hk'; replace HK := Lib.hid (HK.out.trans (hk'.mono (fun k _ e => by have e : k = w.heap.size := e; have := HK.out.size; omega))); replace HM := Lib.hid hm'; clear hm' hk')
  go_ret
  exact ⟨_, rfl, Nat.le_refl _, HM.out, HK.out.below (Nat.le_refl _) (fun k hk e => by omega)⟩
theorem look_codes {w : World} {r : Nat} (h : MapIs .i64 w r codesT) (no : Int) : (Instr.lookup 115 (.map (some r)) (.int .i64 no) false).run Try.prog w = .ok (.int .u8 (codeT no)) w := by
  have hz : ∀ w, (zeroValue 5).run Try.prog w = .ok (.int .u8 0) w := fun w => by kernel_rfl
  by_cases c : no = 1 ∨ no = 3 ∨ no = 161 ∨ no = 5 ∨ no = 162 ∨ no = 160 ∨ no = 2 ∨ no = 150
  · have hm : (no, .int .u8 (codeT no)) ∈ codesT := by
      rcases c with rfl | rfl | rfl | rfl | rfl | rfl | rfl | rfl <;> simp [codesT, codeT]
    exact h.look Try.underlying115 Try.underlying50 hm false
  · have h0 : codeT no = 0 := by
      unfold codeT
      repeat' split
      all_goals omega
    rw [h0]
    refine h.miss Try.underlying115 Try.underlying50 ?_ _ (hz w) false
    simp only [codesT, List.map_cons, List.map_nil, List.mem_cons, List.not_mem_nil, or_false]
    omega
set_option maxRecDepth 100000 in
theorem failed_any (code : Int) (w : World) : Calls Try.prog 87 #[.int .u8 code] w fun e w' => e = .returned (.agg (stA code)) ∧ Below w.heap.size w w' := by
  go_enter Try.func87, Try.ntmps87
  go_wp2_with (first
    | ((with_reducible show wpList _ _ _ (⟨some 2, _, _, _, _, _⟩ :: _) _ _); refine wpList_alloc rfl 38 rfl zeroSt ?_; rw [show (Value.agg st0).cells = st0 from rfl])
    | ((with_reducible show wpList _ _ _ (⟨some 4, _, _, _, _, _⟩ :: _) _ _); refine wpList_buildC rfl 38 #[(1, .tmp 3), (3, .const (.bool true))] rfl #[(1, .int .u8 code), (3, .bool true)] (by simp [Act.eval, Act.put]) (buildSt code _) ?_)
    | ((with_reducible show wpList _ _ _ (⟨none, _, _, _, _, _⟩ :: _) _ _); refine wpList_storeA rfl (b := w.heap.size) (A := st0) (A' := stA code) (ArrAt.fresh w st0 _ (by decide)) 38 (.tmp 2) (.tmp 4) rfl (by simp [Act.eval, Act.put]) (by simp [Act.eval, Act.put]) sizeSt rfl (stA_one code) ?_))
  exact bodyPost_ret (results_c rfl _ _ _ ((ArrAt.fresh w st0 _ (by decide)).store (stA code) rfl) rfl Try.underlying38 rfl sizeSt) rfl ⟨rfl, bstore ((Below.refl _ _).alloc (Nat.le_refl _) _) _ (Nat.le_refl _) _ _⟩
section
variable (code : Int) (b n c : Nat) (F : Nat → Bool) (w : World) (h : Conds w b n F) (hn : n ≤ 1000)
include h hn
set_option maxRecDepth 100000 in
set_option maxHeartbeats 1000000 in
theorem tmust_row_ok (hr : ∀ i, i < n → F i = true) :
   Calls Try.prog 56 #[.int .u8 code, .slice (some ⟨b, 0, none⟩) n c] w fun e w' => e = .returned (.tuple #[]) ∧ w = w' := by
  have H := Lib.hid h
  have HR := Lib.hid hr
  clear h hr
  go_enter Try.func56, Try.ntmps56
  go_wp2_with (go_at_call 86; refine (contains_conds b n _ F false (.inl ⟨rfl, HR.out⟩) _ H.out hn).mono ?_; rintro e w' ⟨rfl, rfl⟩)
  go_end0
  exact ⟨rfl, rfl⟩
set_option maxRecDepth 100000 in
set_option maxHeartbeats 1000000 in
theorem tmust_row_bad (hr : ∃ i, i < n ∧ F i = false) :
   Calls Try.prog 56 #[.int .u8 code, .slice (some ⟨b, 0, none⟩) n c] w fun e w' => e = .panicked [panT code] ∧ Below w.heap.size w w' := by
  have H := Lib.hid h
  have HR := Lib.hid hr
  clear h hr
  go_enter Try.func56, Try.ntmps56
  go_wp2_with (first
    | (go_at_call 86; refine (contains_conds b n _ F true (.inr ⟨rfl, HR.out⟩) _ H.out hn).mono ?_; rintro e w' ⟨rfl, rfl⟩)
    | (go_at_call 87; refine (failed_any code _).mono ?_; rintro e w1 ⟨rfl, hb⟩; have HB := Lib.hid hb; clear hb))
  exact ⟨rfl, rfl, HB.out⟩
end
theorem tmust1_ok' (code : Int) (b : Nat) (w : World) (hb : b = w.heap.size) : Calls Try.prog 56 #[.int .u8 code, .slice (some ⟨b, 0, none⟩) 1 1] (w.alloc (.cells #[.bool true] 4)) fun e w' => e = .returned (.tuple #[]) ∧ w.alloc (.cells #[.bool true] 4) = w' := by
  subst hb
  exact tmust_row_ok code w.heap.size 1 1 _ _ (conds_alloc w [true]) (by omega) (fun i hi => by
    match i, hi with
    | 0, _ => rfl)
theorem tmust1_bad' (code : Int) (b : Nat) (w : World) (hb : b = w.heap.size) : Calls Try.prog 56 #[.int .u8 code, .slice (some ⟨b, 0, none⟩) 1 1] (w.alloc (.cells #[.bool false] 4)) fun e w' => e = .panicked [panT code] ∧ Below w.heap.size w w' := by
  subst hb
  exact (tmust_row_bad code w.heap.size 1 1 _ _ (conds_alloc w [false]) (by omega) ⟨0, by omega, rfl⟩).mono fun e w' h => ⟨h.1, ((Below.refl _ w).alloc (Nat.le_refl _) _).trans (h.2.mono (by simp))⟩
theorem tmust2_ok' (code : Int) (b : Nat) (w : World) (hb : b = w.heap.size) : Calls Try.prog 56 #[.int .u8 code, .slice (some ⟨b, 0, none⟩) 2 2] (w.alloc (.cells #[.bool true, .bool true] 4)) fun e w' => e = .returned (.tuple #[]) ∧ w.alloc (.cells #[.bool true, .bool true] 4) = w' := by
  subst hb
  exact tmust_row_ok code w.heap.size 2 2 _ _ (conds_alloc w [true, true]) (by omega) (fun i hi => by
    match i, hi with
    | 0, _ => rfl
    | 1, _ => rfl)
theorem tmust2_bad' (code : Int) (x y : Bool) (h : x = false ∨ y = false) (b : Nat) (w : World) (hb : b = w.heap.size) : Calls Try.prog 56 #[.int .u8 code, .slice (some ⟨b, 0, none⟩) 2 2] (w.alloc (.cells #[.bool x, .bool y] 4)) fun e w' => e = .panicked [panT code] ∧ Below w.heap.size w w' := by
  subst hb
  refine (tmust_row_bad code w.heap.size 2 2 _ _ (conds_alloc w [x, y]) (by omega) ?_).mono fun e w' h => ⟨h.1, ((Below.refl _ w).alloc (Nat.le_refl _) _).trans (h.2.mono (by simp))⟩
  rcases h with rfl | rfl
  · exact ⟨0, by omega, rfl⟩
  · exact ⟨1, by omega, rfl⟩
/-- A panic, wherever it comes up in a region, or a normal end. -/
def PanK (i j : Nat) (xi xj : Value) (D : List Deferred) (ch : List PanicEntry) (C : World → Prop) (N : Act → World → Prop) : Exit → Act → World → Prop
  | .panic c, a, w => c = ch ∧ a.tmps.getD i undef = xi ∧ a.tmps.getD j undef = xj ∧ a.defers = D ∧ C w
  | .normal, a, w => N a w
  | _, _, _ => False
theorem PanK.put {i j : Nat} {xi xj : Value} {D : List Deferred} {ch : List PanicEntry} {C : World → Prop} {N : Act → World → Prop} {c : List PanicEntry} {a : Act} {w : World} {d : Nat} {v : Value} (h : PanK i j xi xj D ch C N (.panic c) (a.put (some d) v) w) (hi : d ≠ i) (hj : d ≠ j) : PanK i j xi xj D ch C N (.panic c) a w := by
  obtain ⟨e1, e2, e3, e4, e5⟩ := h
  refine ⟨e1, ?_, ?_, e4, e5⟩
  · rw [← e2]; simp [Act.put, Array.getElem?_setIfInBounds, hi]
  · rw [← e3]; simp [Act.put, Array.getElem?_setIfInBounds, hj]
theorem PanK.fin {i j : Nat} {xi xj : Value} {D : List Deferred} {ch : List PanicEntry} {C : World → Prop} {N : Act → World → Prop} {a : Act} {w : World} (h : N a w) : PanK i j xi xj D ch C N .normal a w := h
theorem wp_pank {P : Program} {Q : Exit → Act → World → Prop} {c : Code} {a : Act} {w : World} {i j : Nat} {xi xj : Value} {D : List Deferred} {ch : List PanicEntry} {C : World → Prop} (h : c.wp P (PanK i j xi xj D ch C (Q .normal)) a w)
    (hq : ∀ tmps w', tmps.getD i undef = xi → tmps.getD j undef = xj → C w' → Q (.panic ch) { tmps := tmps, defers := D } w') : c.wp P Q a w :=
  wp_mono h fun e a' w' q => by
    cases e with
    | panic c =>
      obtain ⟨e1, e2, e3, e4, e5⟩ := q
      subst e1 e4
      exact hq a'.tmps w' e2 e3 e5
    | normal => exact q
    | _ => exact q.elim
end Go.Proofs.Ytfmabknhfehdcaa

namespace Go.Proofs.Ytfmabknhfehdcaa
open Go.RowKit

set_option maxRecDepth 100000 in
set_option maxHeartbeats 4000000 in
theorem tcaught_panicking (f : Nat) (cs' : Array Value) (S : Nat → Prop) (sb : Nat) (A : Array Value) (C C' : World → Prop) (code : Int) (w : World) (hcl : Clears f cs' S C C') (hC : ∀ b, Below w.heap.size w b → C b) (hA : ArrAt w sb A) (h4 : A.size = 4) (hne : ¬ S sb)
    (hS : ∀ j, S j → j < w.heap.size) (hC' : ∀ a b, C' a → Keeps (One sb) a b → C' b) :
    CallsD Try.prog 28 #[.pointer (some ⟨sb, 0, none⟩), .func (.func f) #[] cs'] (.panicking [panT code]) w fun e u' w' =>
      e = .returned (.tuple #[]) ∧ u' = .panicking [{ panT code with recovered := true }] ∧ Keeps (fun j => S j ∨ j = sb) w w' ∧ C' w' ∧ ArrAt w' sb (stA code) := by
  have HCL := Lib.hid hcl
  have HC := Lib.hid hC
  have HC' := Lib.hid hC'
  have HA := Lib.hid hA
  have H4 := Lib.hid h4
  have HS := Lib.hid hS
  have HSB := Lib.hid hA.lt
  unfold panT
  obtain ⟨T, hT⟩ : ∃ T, T = stA code := ⟨_, rfl⟩
  have HTS := Lib.hid (show T.size = 4 by rw [hT]; rfl)
  have HT1 := Lib.hid (show T.all (·.oneCell') = true by rw [hT]; exact stA_one code)
  rw [← hT]
  clear hT
  refine callsD_of_wpS Try.func28 rfl fun c₀ cs hu => ?_
  apply wpS_seq
  apply wpS_region
  simp [wpOpsS, go_sem, recoverD, hu, Try.ntmps28, Exit.thenS]
  refine wpS_of_wp ?_
  have HU := Lib.hid hu
  clear hcl hC hC' hA h4 hS hu
  generalize hq : (bodyPostS Try.prog Try.f28 c₀ cs _) = Q
  have HQ := Lib.hid hq
  clear hq
  have hfr : (#[Value.pointer (some ⟨sb, 0, none⟩), Value.func (.func f) #[] cs'] ++ ((Array.replicate 21 undef).setIfInBounds 5 (Value.iface 38 (.agg T))).setIfInBounds 2 (Value.iface 38 (.agg T)) : Array Value) = #[.pointer (some ⟨sb, 0, none⟩), .func (.func f) #[] cs', undef, undef, .iface 38 (.agg T), undef, undef, .iface 38 (.agg T), undef, undef, undef, undef, undef, undef, undef, undef, undef, undef, undef, undef, undef, undef, undef] := by kernel_rfl
  rw [hfr]
  clear hfr
  go_upto_region 2 with (fail)
  have hta : ∀ w, (Instr.typeAssert (.iface 38 (.agg T)) 20 38 true).run Try.prog w = .ok (.tuple #[.agg T, .bool true]) w := fun w => by kernel_rfl
  go_upto_region 3 with (first
    | ((with_reducible show wpList _ _ _ (⟨some 5, _, _, _, _, _⟩ :: _) _ _); refine wpList_alloc rfl 38 rfl zeroSt ?_; rw [show (Value.agg st0).cells = st0 from rfl])
    | ((with_reducible show wpList _ _ _ (⟨none, .store _ _ _, _, _, _, _⟩ :: _) _ _); refine wpList_storeA rfl (b := w.heap.size) (A := st0) (A' := T) (ArrAt.fresh w st0 _ (by decide)) 38 (.tmp 5) (.tmp 13) rfl (by simp [Act.eval, Act.put]) (by simp [Act.eval, Act.put]) sizeSt HTS.out HT1.out ?_))
  obtain ⟨W1, hW1⟩ : ∃ z, z = (w.alloc (.cells st0 38)).setCells w.heap.size 0 T.toList := ⟨_, rfl⟩
  rw [← hW1]
  obtain ⟨hb1, ha1⟩ := stored_at (y := w) (T := 38) (Z := st0) (A := T) (by decide) HTS.out hW1
  have HB1 := Lib.hid hb1
  have HAW := Lib.hid ha1
  clear hW1 hb1 ha1
  go_upto_region 5 with (fail)
  have hen := HCL.out.enter
  have hcall := Lib.hid (HCL.out.call W1 (HC.out W1 HB1.out))
  go_upto_region 6 with ((with_reducible refine hcall.out.mono ?_); rintro e w2 ⟨rfl, hk, hc1⟩; have HK := Lib.hid hk; have HC1 := Lib.hid hc1; clear hk hc1)
  have HAS := Lib.hid ((HA.out.kept (Keeps.of_below (S := fun _ => False) HB1.out) (fun e => e)).kept HK.out hne)
  have HAW2 := Lib.hid (HAW.out.kept HK.out (fun e => by have := HS.out _ e; omega))
  have HTZ := Lib.hid (show (Try.prog.info? 38).map (·.size) = some T.size by rw [HTS.out]; exact sizeSt)
  have HAZ := Lib.hid (show (Try.prog.info? 38).map (·.size) = some A.size by rw [H4.out]; exact sizeSt)
  clear hen hcall
  go_wp2_with (first
    | ((with_reducible show wpList _ _ _ (⟨some 21, _, _, _, _, _⟩ :: _) _ _); refine wpList_loadA rfl HAW2.out 38 (.tmp 5) rfl (by first | rfl | simp [Act.eval, Act.put]) Try.underlying38 rfl HTZ.out ?_)
    | ((with_reducible show wpList _ _ _ (⟨none, .store _ _ _, _, _, _, _⟩ :: _) _ _); refine wpList_storeA rfl (b := sb) (A := A) (A' := T) HAS.out 38 (.tmp 22) (.tmp 21) rfl (by simp [Act.eval, Act.put]) (by simp [Act.eval, Act.put]) HAZ.out (by rw [HTS.out, H4.out]) HT1.out ?_))
  rw [← HQ.out]
  have hk2 : Keeps (One sb) w2 (w2.setCells sb 0 T.toList) := Keeps.store (S := One sb) (Keeps.refl _ _) (fun _ => rfl) _ _
  refine ⟨rfl, _, rfl, .tuple #[], ?_, rfl, rfl, ((Keeps.of_below (S := fun j => S j ∨ j = sb) HB1.out).trans (HK.out.mono fun _ _ h => .inl h)).trans (hk2.mono fun _ _ h => .inr h), HC'.out _ _ HC1.out hk2, HAS.out.store T (by rw [HTS.out, H4.out])⟩
  simp [results, Try.results28]

theorem tcaught_idle (u v : Value) (w : World) :
    CallsD Try.prog 28 #[u, v] .returning w fun e u' w' => e = .returned (.tuple #[]) ∧ u' = .returning ∧ w' = w := by
  refine callsD_of_wpS Try.func28 rfl fun c₀ cs hu => ?_
  apply wpS_seq
  apply wpS_region
  simp [wpOpsS, go_sem, recoverD, hu, Try.ntmps28, Exit.thenS]
  apply wpS_seq
  apply wpS_region
  simp [wpOpsS, go_sem, recoverD, hu, Try.ntmps28, Exit.thenS]
  refine wpS_cond (t := false) (by simp [Act.eval, Array.replicate]) ?_
  simp only [Bool.false_eq_true, if_false]
  refine wpS_of_wp (wp_skip ?_)
  cases c₀
  simp_all [bodyPostS, results, Try.results28]

/-- a slice in a cell, cleared -/
def SlCell (cb : Nat) (w : World) : Prop := (∃ v, w.cell? ⟨cb, 0, none⟩ = some v) ∧ w.frozen? ⟨cb, 0, none⟩ = false
theorem SlCell.kept {cb : Nat} {w w' : World} {S : Nat → Prop} (h : SlCell cb w) (k : Keeps S w w') (hS : ¬ S cb) : SlCell cb w' := by
  obtain ⟨⟨v, hc⟩, hf⟩ := h
  refine ⟨⟨v, k.cell hc hS⟩, ?_⟩
  rw [World.frozen?_of_block (w := w) (a := ⟨cb, 0, none⟩) (k.block cb (World.block_lt_of_cell? _ _ hc) hS)]
  exact hf
section
variable (code : Int) (w : World)
theorem tgotB_ok (v : Value) : Calls Try.prog 31 #[v, .int .i64 0] w fun e w' => e = .returned v ∧ Below w.heap.size w w' := by
  go_enter Try.func31, Try.ntmps31
  go_wp2_with (first
    | (go_at_call 58; refine (codes_any _).mono ?_; rintro e w1 ⟨r, rfl, h1, h2, h3⟩; have hlk := look_codes h2 0; have H3 := Lib.hid h3; clear h1 h2 h3)
    | (go_at_call 56; (with_reducible refine (tmust1_ok' _ _ _ (by simp)).mono ?_); rintro e w' ⟨rfl, rfl⟩))
  go_ret
  exact ⟨rfl, H3.out.alloc H3.out.size _⟩
theorem tgotS_ok (v : Value) : Calls Try.prog 82 #[v, .int .i64 0] w fun e w' => e = .returned v ∧ Below w.heap.size w w' := by
  go_enter Try.func82, Try.ntmps82
  go_wp2_with (first
    | (go_at_call 58; refine (codes_any _).mono ?_; rintro e w1 ⟨r, rfl, h1, h2, h3⟩; have hlk := look_codes h2 0; have H3 := Lib.hid h3; clear h1 h2 h3)
    | (go_at_call 56; (with_reducible refine (tmust1_ok' _ _ _ (by simp)).mono ?_); rintro e w' ⟨rfl, rfl⟩))
  go_ret
  exact ⟨rfl, H3.out.alloc H3.out.size _⟩
theorem tgotS_bad (v : Value) (no : Int) (hn : (no == 0) = false) (hc : codeT no = code) : Calls Try.prog 82 #[v, .int .i64 no] w fun e w' => e = .panicked [panT code] ∧ Below w.heap.size w w' := by
  have HCC := Lib.hid hc
  clear hc
  go_enter Try.func82, Try.ntmps82
  go_wp2_with (go_at_call 58; refine (codes_any _).mono ?_; rintro e w1 ⟨r, rfl, h1, h2, h3⟩; have hlk := look_codes h2 no; rw [HCC.out] at hlk; have H3 := Lib.hid h3; clear h1 h2 h3)
  refine (tmust1_bad' _ _ _ (by simp)).mono ?_
  rintro e w' ⟨rfl, hb⟩
  exact ⟨rfl, rfl, H3.out.trans (hb.mono H3.out.size)⟩
end
/-- A mover: a memory and a command. -/
structure Mv (M : Array Value) (p : Option Addr) (C : Array Value) : Prop where
  c : C.size = 16
  e : M = #[.pointer p] ++ C
  o : C.all (·.oneCell') = true
namespace Mv
variable {M C : Array Value} {p : Option Addr}
theorem size (h : Mv M p C) : M.size = 17 := by rw [h.e, Array.size_append, h.c]; rfl
theorem g0 (h : Mv M p C) : M[0]? = some (.pointer p) := by rw [h.e, Array.getElem?_append_left Nat.zero_lt_one]; rfl
theorem gs (h : Mv M p C) (i : Nat) : M[i + 1]? = C[i]? := by
  rw [h.e, Array.getElem?_append_right (by simp)]
  simp
theorem one (h : Mv M p C) : M.all (·.oneCell') = true := by
  rw [h.e]
  have := h.o
  simp_all [Value.oneCell']
end Mv
theorem sizeMv : (Try.prog.info? 89).map (·.size) = some 17 := by kernel_rfl
theorem sizeCm : (Try.prog.info? 28).map (·.size) = some 16 := by kernel_rfl
def zCm : Array Value := #[.int .u8 0, .int .u8 0, .bool false, .int .u16 0, .int .u32 0, .int .u32 0, .int .u32 0, .int .u64 0, .int .u64 0, .int .u64 0, .int .u32 0, .int .u32 0, .int .u32 0, .int .u32 0, .int .u32 0, .int .u32 0]
theorem zeroCm (w : World) : (zeroValue 28).run Try.prog w = .ok (.agg zCm) w := by kernel_rfl
theorem zeroMv (w : World) : (zeroValue 89).run Try.prog w = .ok (.agg (#[.pointer none] ++ zCm)) w := by kernel_rfl
theorem sixteen {C : Array Value} (h : C.size = 16) : ∃ a b c d e f g h i j k l m n o p, C = #[a, b, c, d, e, f, g, h, i, j, k, l, m, n, o, p] := by
  obtain ⟨l⟩ := C
  match l, h with
  | [a, b, c, d, e, f, g, h, i, j, k, l, m, n, o, p], _ => exact ⟨a, b, c, d, e, f, g, h, i, j, k, l, m, n, o, p, rfl⟩
theorem buildMv (p : Option Addr) (C : Array Value) (hC : C.size = 16) (w : World) : (Instr.build 89 #[(0, .pointer p), (1, .agg C)]).run Try.prog w = .ok (.agg (#[.pointer p] ++ C)) w := by
  obtain ⟨a, b, c, d, e, f, g, h, i, j, k, l, m, n, o, q, rfl⟩ := sixteen hC
  kernel_rfl
section
variable (M C : Array Value) (n : Int) (b B size : Nat) (f : Nat → Int) (L : List (Nat × Nat)) (w : World) (hV : Mv M (some ⟨b, 0, none⟩) C) (hM : MemAt w b B size f L) (hs : 0 < size)
include hV hM hs
set_option maxRecDepth 100000 in
set_option maxHeartbeats 4000000 in
theorem tcheck_ok (h0 : 0 ≤ n) (h1 : n ≤ 1048576) : Calls Try.prog 55 #[.agg M, .int .i64 n] w fun e w' => e = .returned (.tuple #[]) ∧ Below w.heap.size w w' := by
  have q0 : decide (0 ≤ n) = true := decide_eq_true h0
  have q1 : decide (n ≤ 1048576) = true := decide_eq_true h1
  have HM := Lib.hid hM
  have HV := Lib.hid hV
  obtain ⟨sz, hsz⟩ : ∃ z : Int, z = size := ⟨_, rfl⟩
  have dz : decide (0 < sz) = true := decide_eq_true (by omega)
  have HZ := Lib.hid hsz
  clear hM hs hsz hV
  go_enter Try.func55, Try.ntmps55
  go_upto_region 1 with fail
  obtain ⟨W0, hW0⟩ : ∃ W0, W0 = w.alloc (.cells M 89) := ⟨_, rfl⟩
  rw [← hW0]
  have AM := Lib.hid (show ArrAt W0 w.heap.size M by rw [hW0]; exact ArrAt.fresh w M _ (by rw [HV.out.size]; omega))
  have HB0 := Lib.hid (show Below w.heap.size w W0 by rw [hW0]; exact (Below.refl _ _).alloc (Nat.le_refl _) _)
  have c0 := AM.out.cell HV.out.g0
  clear hW0
  go_wp2_with (first
    | (go_at_call 34; refine (size_is b B size f L sz _ (HM.out.below HB0.out) HZ.out).mono ?_; rintro e w' ⟨rfl, rfl⟩)
    | (go_at_call 56; (with_reducible refine (tmust1_ok' _ _ _ (by simp)).mono ?_); rintro e w' ⟨rfl, rfl⟩)
    | (go_at_call 56; (with_reducible refine (tmust2_ok' _ _ _ (by simp)).mono ?_); rintro e w' ⟨rfl, rfl⟩))
  go_end0
  exact ⟨rfl, (HB0.out.alloc HB0.out.size _).alloc (by have := HB0.out.size; simp; omega) _⟩
set_option maxRecDepth 100000 in
set_option maxHeartbeats 4000000 in
theorem tcheck_bad (h : n < 0 ∨ 1048576 < n) : Calls Try.prog 55 #[.agg M, .int .i64 n] w fun e w' => e = .panicked [panT 2] ∧ Below w.heap.size w w' := by
  have hq : decide (0 ≤ n) = false ∨ decide (n ≤ 1048576) = false := h.imp (fun h => decide_eq_false (by omega)) (fun h => decide_eq_false (by omega))
  obtain ⟨x, hx⟩ : ∃ x, x = decide (0 ≤ n) := ⟨_, rfl⟩
  obtain ⟨y, hy⟩ : ∃ y, y = decide (n ≤ 1048576) := ⟨_, rfl⟩
  rw [← hx, ← hy] at hq
  have HQ := Lib.hid hq
  have q0 := hx.symm
  have q1 := hy.symm
  have HM := Lib.hid hM
  have HV := Lib.hid hV
  obtain ⟨sz, hsz⟩ : ∃ z : Int, z = size := ⟨_, rfl⟩
  have dz : decide (0 < sz) = true := decide_eq_true (by omega)
  have HZ := Lib.hid hsz
  clear hM hs hsz hV h hx hy hq
  go_enter Try.func55, Try.ntmps55
  go_upto_region 1 with fail
  obtain ⟨W0, hW0⟩ : ∃ W0, W0 = w.alloc (.cells M 89) := ⟨_, rfl⟩
  rw [← hW0]
  have AM := Lib.hid (show ArrAt W0 w.heap.size M by rw [hW0]; exact ArrAt.fresh w M _ (by rw [HV.out.size]; omega))
  have HB0 := Lib.hid (show Below w.heap.size w W0 by rw [hW0]; exact (Below.refl _ _).alloc (Nat.le_refl _) _)
  have c0 := AM.out.cell HV.out.g0
  clear hW0
  go_wp2_with (first
    | (go_at_call 34; refine (size_is b B size f L sz _ (HM.out.below HB0.out) HZ.out).mono ?_; rintro e w' ⟨rfl, rfl⟩)
    | (go_at_call 56; (with_reducible refine (tmust1_ok' _ _ _ (by simp)).mono ?_); rintro e w' ⟨rfl, rfl⟩))
  refine (tmust2_bad' _ _ _ HQ.out _ _ (by simp)).mono ?_
  rintro e w' ⟨rfl, hb⟩
  exact ⟨rfl, rfl, (HB0.out.alloc HB0.out.size _).trans (hb.mono (by have := HB0.out.size; simp; omega))⟩
end
end Go.Proofs.Ytfmabknhfehdcaa

namespace Go.Proofs.Ytfmabknhfehdcaa
open Go.RowKit

def NoB (out : List Spn) : Prop := ∀ x ∈ out, x.bk = false
theorem NoB.nil : NoB [] := fun x h => by cases h
theorem NoB.add {out : List Spn} (h : NoB out) (a k : Int) : NoB (out ++ [⟨a, k, false⟩]) := fun x hx => by
  rcases List.mem_append.1 hx with e | e
  · exact h x e
  · rw [List.mem_singleton] at e
    subst e
    rfl
section
variable {f : Nat → Int} {size : Nat} {n : Int}
theorem addA_err {a no : Int} {s : PSt} (h : addA size a s = .error no) : no ≠ 0 := by
  unfold addA at h
  split at h
  · rename_i hc
    cases h
    exact hc
  · cases h
theorem addA_nb {a : Int} {s s' : PSt} (hs : NoB s.out) (h : addA size a s = .ok s') : NoB s'.out := by
  unfold addA at h
  split at h
  · cases h
  · cases h
    exact hs.add _ _
theorem nxtP_err {m no : Int} {s : PSt} (h : nxtP f size m s = .error no) : no ≠ 0 := by
  unfold nxtP at h
  repeat' split at h
  all_goals first | (cases h; first | assumption | decide) | cases h
theorem nxtP_out {m v : Int} {s s' : PSt} (h : nxtP f size m s = .ok (v, s')) : s'.out = s.out := by
  unfold nxtP at h
  repeat' split at h
  all_goals first | cases h; exact rfl | cases h
theorem stepP_err {second pages i no : Int} {s : PSt} (h : stepP f size second pages i s = .error no) : no ≠ 0 := by
  unfold stepP at h
  split at h
  · rename_i x hx
    cases h
    unfold adrP at hx
    split at hx
    · exact nxtP_err hx
    · cases hx
  · split at h
    · cases h
      decide
    · exact addA_err h
theorem stepP_nb {second pages i : Int} {s s' : PSt} (hs : NoB s.out) (h : stepP f size second pages i s = .ok s') : NoB s'.out := by
  unfold stepP at h
  split at h
  · cases h
  · rename_i x hx
    obtain ⟨v, t⟩ := x
    split at h
    · cases h
    · have ht : t.out = s.out := by
        unfold adrP at hx
        split at hx
        · exact nxtP_out hx
        · cases hx; rfl
      exact addA_nb (by rw [ht]; exact hs) h
theorem runP_err {second pages no : Int} : ∀ (k : Nat) (i : Int) (s : PSt), runP f size second pages k i s = .error no → no ≠ 0
  | 0, _, s, h => by cases h
  | k + 1, i, s, h => by
    unfold runP at h
    split at h
    · rename_i e he
      cases h
      exact stepP_err he
    · exact runP_err k (i + 1) _ h
theorem runP_nb {second pages : Int} : ∀ (k : Nat) (i : Int) (s : PSt) (l : List Spn), NoB s.out → runP f size second pages k i s = .ok l → NoB l
  | 0, _, s, l, hs, h => by cases h; exact hs
  | k + 1, i, s, l, hs, h => by
    unfold runP at h
    split at h
    · cases h
    · rename_i s' he
      exact runP_nb k (i + 1) s' l (stepP_nb hs he) h
theorem spansP_err {first second no : Int} (h : spansP f size first second n = .error no) : no ≠ 0 := by
  unfold spansP at h
  repeat' split at h
  all_goals first
    | (cases h; decide)
    | (cases h; done)
    | (rename_i e he; cases h; exact addA_err he)
    | exact runP_err _ _ _ h
theorem spansP_nb {first second : Int} {l : List Spn} (h : spansP f size first second n = .ok l) : NoB l := by
  unfold spansP at h
  split at h
  · cases h
  · split at h
    · cases h; exact NoB.nil
    · split at h
      · cases h
      · split at h
        · cases h
        · rename_i s he
          exact runP_nb _ _ s l (addA_nb (s := ⟨second, true, n, []⟩) NoB.nil he) h
theorem exam_err {th : Bool} {d : Dsc} {s : WSt} {no : Int} (h : exam size th d s = .error no) : no ≠ 0 := by
  unfold exam at h
  repeat' split at h
  all_goals first | (cases h; first | assumption | decide) | cases h
theorem addS_nb {s : WSt} {x : Spn} (hs : NoB s.out) (hx : x.bk = false) : NoB (addS x s).out := by
  unfold addS
  split
  · have : ({ x with n := min x.n s.left } : Spn) = ⟨x.a, min x.n s.left, false⟩ := by rw [← hx]
    simp only [this]
    exact hs.add _ _
  · exact hs
theorem exam_nb {d : Dsc} {s s' : WSt} (hs : NoB s.out) (h : exam size false d s = .ok s') : NoB s'.out := by
  unfold exam at h
  split at h
  · split at h
    · cases h
    · split at h
      · cases h
      · cases h; exact hs
  · split at h
    · cases h
      exact hs
    · split at h
      · cases h
      · cases h
        exact addS_nb hs rfl
theorem runS_err {th : Bool} {no : Int} : ∀ (k : Nat) (d : Dsc) (s : WSt), runS f size th k d s = .error no → no ≠ 0
  | 0, d, s, h => by
    unfold runS at h
    split at h
    · rename_i e he
      cases h
      exact exam_err he
    · repeat' split at h
      all_goals first | (cases h; decide) | cases h
  | k + 1, d, s, h => by
    unfold runS at h
    split at h
    · rename_i e he
      cases h
      exact exam_err he
    · split at h
      · cases h
      · split at h
        · cases h; decide
        · split at h
          · rename_i hc
            cases h
            exact hc
          · split at h
            · cases h; decide
            · exact runS_err k _ _ h
theorem runS_nb : ∀ (k : Nat) (d : Dsc) (s : WSt) (l : List Spn), NoB s.out → runS f size false k d s = .ok l → NoB l
  | 0, d, s, l, hs, h => by
    unfold runS at h
    split at h
    · cases h
    · rename_i s' he
      repeat' split at h
      all_goals first | (cases h; exact exam_nb hs he) | cases h
  | k + 1, d, s, l, hs, h => by
    unfold runS at h
    split at h
    · cases h
    · rename_i s' he
      split at h
      · cases h; exact exam_nb hs he
      · split at h
        · cases h
        · split at h
          · cases h
          · split at h
            · cases h
            · refine runS_nb k _ _ l ?_ h
              have hk := exam_nb hs he
              exact hk
theorem spansM_err {th : Bool} {d : Dsc} {no : Int} (h : spansM f size d n th = .error no) : no ≠ 0 := by
  unfold spansM at h
  split at h
  · cases h; decide
  · split at h
    · cases h
    · exact runS_err _ _ _ h
theorem spansM_nb {d : Dsc} {l : List Spn} (h : spansM f size d n false = .ok l) : NoB l := by
  unfold spansM at h
  split at h
  · cases h
  · split at h
    · cases h; exact NoB.nil
    · exact runS_nb _ _ _ l NoB.nil h
end
/-- the spans of a command's data, or the error -/
def spansT (f : Nat → Int) (size : Nat) (sgl : Bool) (d0 d1 n : Int) (th : Bool) : Except Int (List Spn) :=
  if sgl then (if decE d1 = 0 then spansM f size (decD d0 d1) n th else .error (decE d1)) else spansP f size d0 d1 n
def coded : Except Int (List Spn) → Except Int (List Spn)
  | .error no => .error (codeT no)
  | .ok l => .ok l
/-- the spans of a command's data, or the code -/
def dataT (f : Nat → Int) (size : Nat) (sgl : Bool) (d0 d1 n : Int) (th : Bool) : Except Int (List Spn) :=
  if n < 0 ∨ 1048576 < n then .error 2 else coded (spansT f size sgl d0 d1 n th)
theorem spansT_err {f : Nat → Int} {size : Nat} {sgl th : Bool} {d0 d1 n no : Int} (h : spansT f size sgl d0 d1 n th = .error no) : no ≠ 0 := by
  unfold spansT at h
  split at h
  · split at h
    · exact spansM_err h
    · rename_i hc
      cases h
      exact hc
  · exact spansP_err h
theorem spansT_nb {f : Nat → Int} {size : Nat} {sgl : Bool} {d0 d1 n : Int} {l : List Spn} (h : spansT f size sgl d0 d1 n false = .ok l) : NoB l := by
  unfold spansT at h
  split at h
  · split at h
    · exact spansM_nb h
    · cases h
  · exact spansP_nb h
theorem spansT_sok {f : Nat → Int} {size : Nat} {sgl th : Bool} {d0 d1 n : Int} {l : List Spn} (hf : Bytes f) (h0 : 0 ≤ d0) (h1 : 0 ≤ d1) (h : spansT f size sgl d0 d1 n th = .ok l) : ∃ left, SOk size n l left := by
  unfold spansT at h
  split at h
  · split at h
    · exact spansM_sok hf (decD_a h0) h
    · cases h
  · exact spansP_sok hf h0 h1 h
theorem dataT_ok {f : Nat → Int} {size : Nat} {sgl th : Bool} {d0 d1 n : Int} {l : List Spn} (h : dataT f size sgl d0 d1 n th = .ok l) : 0 ≤ n ∧ n ≤ 1048576 ∧ spansT f size sgl d0 d1 n th = .ok l := by
  unfold dataT at h
  split at h
  · cases h
  · refine ⟨by omega, by omega, ?_⟩
    cases hx : spansT f size sgl d0 d1 n th with
    | error e => rw [hx] at h; cases h
    | ok l' => rw [hx] at h; exact h
end Go.Proofs.Ytfmabknhfehdcaa
