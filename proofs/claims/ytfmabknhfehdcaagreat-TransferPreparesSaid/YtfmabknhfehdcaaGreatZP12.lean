/- prp: aligned, Count, room, Lists; caught; got. -/
import Derived.Test.YtfmabknhfehdcaaGreatZP11
import Derived.Test.YtfmabknhfehdcaaGreatZP6
import Derived.Defers
import Derived.Recover
import Derived.Test.YtfmabknhfehdcaaGreatZP10
namespace Go.Proofs.YtfmabknhfehdcaaGreat
set_option linter.unusedSimpArgs false
set_option linter.unusedVariables false
open Go.RowKit
set_option maxHeartbeats 1000000 in
theorem aligned_any (a u : Int) (r : Bool) (w : World) (h0 : 0 ≤ a) (h1 : a ≤ 18446744073709551615) (hu : 0 < u) (hu2 : u ≤ 4096) (hr : (a % u == 0) = r) :
  Calls Tryz.prog 83 #[.int .u64 a, .int .i64 u] w fun e w' => e = .returned (.bool r) ∧ w = w' := by
 have hr' : (a.tmod u == 0) = r := by rw [Int.tmod_eq_emod_of_nonneg h0]; exact hr
 have hne : (u == 0) = false := beq_eq_false_iff_ne.2 (by omega)
 go_enter Tryz.func83, Tryz.ntmps83
 go_wp2_with fail
 go_ret
 exact ⟨rfl, rfl⟩
set_option maxHeartbeats 1000000 in
theorem count_any (a n K : Int) (w : World) (h0 : 0 ≤ a) (h1 : a ≤ 18446744073709551615) (hk : pgs a n = K) :
  Calls Tryz.prog 53 #[.int .u64 a, .int .i64 n] w fun e w' => e = .returned (.int .i64 K) ∧ w = w' := by
 unfold pgs at hk
 by_cases hn : n < 1
 ·rw [if_pos (.inl hn)] at hk
  subst hk
  have q : decide (n < 1) = true := decide_eq_true hn
  go_enter Tryz.func53, Tryz.ntmps53
  go_wp2_with fail
  go_ret
  exact ⟨rfl, rfl⟩
 ·have q : decide (n < 1) = false := decide_eq_false hn
  by_cases hn2 : 1048576 < n
  ·rw [if_pos (.inr hn2)] at hk
   subst hk
   have q2 : decide (1048576 < n) = true := decide_eq_true hn2
   go_enter Tryz.func53, Tryz.ntmps53
   go_wp2_with fail
   go_ret
   exact ⟨rfl, rfl⟩
  ·rw [if_neg (by omega)] at hk
   have q2 : decide (1048576 < n) = false := decide_eq_false hn2
   have HK := Lib.hid hk
   clear hk
   have b0 : 0 ≤ a % 4096 := by omega
   have b1 : a % 4096 < 4096 := by omega
   go_enter Tryz.func53, Tryz.ntmps53
   go_wp2_with fail
   go_ret
   exact ⟨by rw [← HK.out, show a % 4096 + n + 4096 - 1 = a % 4096 + n + 4095 by omega]; rfl, rfl⟩
set_option maxHeartbeats 1000000 in
theorem room_any (l R : Int) (w : World) (h0 : 0 ≤ l) (h1 : l ≤ 18446744073709551615) (hr : roomP l = R) :
  Calls Tryz.prog 50 #[.int .u64 l] w fun e w' => e = .returned (.int .i64 R) ∧ w = w' := by
 unfold roomP at hr
 have HR := Lib.hid hr
 clear hr
 have b0 : 0 ≤ l % 4096 := by omega
 have b1 : l % 4096 < 4096 := by omega
 go_enter Tryz.func50, Tryz.ntmps50
 go_wp2_with fail
 go_ret
 exact ⟨by rw [← HR.out, show 4096 - l % 4096 + 8 - 1 = 4096 - l % 4096 + 7 by omega]; rfl, rfl⟩
theorem roomP_bd (l : Int) : 1 ≤ roomP l ∧ roomP l ≤ 512 := by unfold roomP; omega
set_option maxRecDepth 100000 in
set_option maxHeartbeats 2000000 in
theorem lists_any (l n K : Int) (w : World) (h0 : 0 ≤ l) (h1 : l ≤ 18446744073709551615) (hn0 : -9223372036854775808 ≤ n) (hn1 : n ≤ 9223372036854775807) (hk : lstsP l n = K) :
  Calls Tryz.prog 48 #[.int .u64 l, .int .i64 n] w fun e w' => e = .returned (.int .i64 K) ∧ w = w' := by
 unfold lstsP at hk
 by_cases c1 : n < 3
 ·rw [if_pos (.inl c1)] at hk
  subst hk
  have q : decide (n < 3) = true := decide_eq_true c1
  go_enter Tryz.func48, Tryz.ntmps48
  go_wp2_with fail
  go_ret
  exact ⟨rfl, rfl⟩
 ·have q : decide (n < 3) = false := decide_eq_false c1
  by_cases c2 : 257 < n
  ·rw [if_pos (.inr c2)] at hk
   subst hk
   have q2 : decide (257 < n) = true := decide_eq_true c2
   go_enter Tryz.func48, Tryz.ntmps48
   go_wp2_with fail
   go_ret
   exact ⟨rfl, rfl⟩
  ·rw [if_neg (by omega)] at hk
   have q2 : decide (257 < n) = false := decide_eq_false c2
   obtain ⟨R, hR⟩ : ∃ z, z = roomP l := ⟨_, rfl⟩
   obtain ⟨r0, r1⟩ := roomP_bd l
   rw [← hR] at hk r0 r1
   have HR := Lib.hid hR.symm
   clear hR
   by_cases c3 : n - 1 ≤ R
   ·rw [if_pos c3] at hk
    subst hk
    have q3 : decide (R < n - 1) = false := decide_eq_false (by omega)
    go_enter Tryz.func48, Tryz.ntmps48
    go_wp2_with (go_at_call 50; refine (room_any l R _ h0 h1 HR.out).mono ?_; rintro e w' ⟨rfl, rfl⟩)
    refine wp_loop_rounds 3 ?_
    rw [rounds_succ]
    go_wp2_with fail
    go_ret
    exact ⟨rfl, rfl⟩
   ·rw [if_neg c3] at hk
    subst hk
    have q3 : decide (R < n - 1) = true := decide_eq_true (by omega)
    have q4 : decide (512 < n - 1 - (R - 1)) = false := decide_eq_false (by omega)
    go_enter Tryz.func48, Tryz.ntmps48
    go_wp2_with (go_at_call 50; refine (room_any l R _ h0 h1 HR.out).mono ?_; rintro e w' ⟨rfl, rfl⟩)
    refine wp_loop_rounds 3 ?_
    rw [rounds_succ]
    go_wp2_with fail
    rw [rounds_succ]
    go_wp2_with fail
    go_ret
    exact ⟨rfl, rfl⟩
/-- what clears the results, and what lies there then -/
structure Clears (f : Nat) (cs : Array Value) (S : Nat → Prop) (C C' : World → Prop) : Prop where
 enter : ∀ args w, (callFunc f args).run Tryz.prog w = .ok (.enter f args) w
 call : ∀ w, C w → Calls Tryz.prog f cs w fun e w' => e = .returned (.tuple #[]) ∧ Keeps S w w' ∧ C' w'
set_option maxRecDepth 100000 in
set_option maxHeartbeats 4000000 in
theorem caught_panicking (f : Nat) (cs' : Array Value) (S : Nat → Prop) (eb : Nat) (C C' : World → Prop) (x no : Int) (w : World) (hcl : Clears f cs' S C C') (hC : C w) (he : w.cell? ⟨eb, 0, none⟩ = some (.int .i64 x)) (hz : w.frozen? ⟨eb, 0, none⟩ = false) (hne : ¬ S eb)
  (hC' : ∀ a b, C' a → Keeps (One eb) a b → C' b) :
  CallsD Tryz.prog 44 #[.pointer (some ⟨eb, 0, none⟩), .func (.func f) #[] cs'] (.panicking [pan no]) w fun e u' w' =>
   e = .returned (.tuple #[]) ∧ u' = .panicking [{ pan no with recovered := true }] ∧ Keeps (fun j => S j ∨ j = eb) w w' ∧ C' w' ∧ w'.cell? ⟨eb, 0, none⟩ = some (.int .i64 no) := by
 have HCL := Lib.hid hcl
 have HC := Lib.hid hC
 have HC' := Lib.hid hC'
 have HE := Lib.hid he
 have HZ := Lib.hid hz
 unfold pan
 refine callsD_of_wpS Tryz.func44 rfl fun c₀ cs hu => ?_
 apply wpS_seq
 apply wpS_region
 simp [wpOpsS, go_sem, recoverD, hu, Tryz.ntmps44, Exit.thenS]
 refine wpS_of_wp ?_
 have HU := Lib.hid hu
 clear hcl hC hC' he hz hu
 generalize hq : (bodyPostS Tryz.prog Tryz.f44 c₀ cs _) = Q
 have HQ := Lib.hid hq
 clear hq
 have hfr : (#[Value.pointer (some ⟨eb, 0, none⟩), Value.func (.func f) #[] cs'] ++ ((Array.replicate 21 undef).setIfInBounds 5 (Value.iface 38 (.int .i64 no))).setIfInBounds 2 (Value.iface 38 (.int .i64 no)) : Array Value) = #[.pointer (some ⟨eb, 0, none⟩), .func (.func f) #[] cs', undef, undef, .iface 38 (.int .i64 no), undef, undef, .iface 38 (.int .i64 no), undef, undef, undef, undef, undef, undef, undef, undef, undef, undef, undef, undef, undef, undef, undef] := by kernel_rfl
 rw [hfr]
 clear hfr
 go_upto_region 2 with (fail)
 have hta : ∀ w, (Instr.typeAssert (.iface 38 (.int .i64 no)) 20 38 true).run Tryz.prog w = .ok (.tuple #[.int .i64 no, .bool true]) w := fun w => by kernel_rfl
 go_upto_region 3 with (fail)
 go_upto_region 5 with (fail)
 have hen := HCL.out.enter
 have hcall := Lib.hid (HCL.out.call w HC.out)
 go_upto_region 6 with ((with_reducible refine hcall.out.mono ?_); rintro e w1 ⟨rfl, hk, hc1⟩)
 have he1 := hk.cell HE.out (fun e => hne e)
 have hz1 : w1.frozen? ⟨eb, 0, none⟩ = false := (World.frozen?_of_block (w := w) (hk.block eb (World.block_lt_of_cell? _ _ HE.out) (fun e => hne e))).trans HZ.out
 have HK := Lib.hid hk
 have HC1 := Lib.hid hc1
 clear hk hc1 hen hcall
 go_wp2_with fail
 rw [← HQ.out]
 refine ⟨rfl, _, rfl, .tuple #[], ?_, rfl, rfl, (HK.out.mono fun _ _ h => .inl h).trans (((Keeps.refl (One eb) w1).set1 0 (.int .i64 no)).mono fun _ _ h => .inr h), HC'.out _ _ HC1.out ((Keeps.refl (One eb) w1).set1 0 (.int .i64 no)), World.cell?_setCell_same _ _ _ he1⟩
 simp [results, Tryz.results44]
theorem caught_idle (u v : Value) (w : World) :
  CallsD Tryz.prog 44 #[u, v] .returning w fun e u' w' => e = .returned (.tuple #[]) ∧ u' = .returning ∧ w' = w := by
 refine callsD_of_wpS Tryz.func44 rfl fun c₀ cs hu => ?_
 apply wpS_seq
 apply wpS_region
 simp [wpOpsS, go_sem, recoverD, hu, Tryz.ntmps44, Exit.thenS]
 apply wpS_seq
 apply wpS_region
 simp [wpOpsS, go_sem, recoverD, hu, Tryz.ntmps44, Exit.thenS]
 refine wpS_cond (t := false) (by simp [Act.eval, Array.replicate]) ?_
 simp only [Bool.false_eq_true, if_false]
 refine wpS_of_wp (wp_skip ?_)
 cases c₀
 simp_all [bodyPostS, results, Tryz.results44]
/-- the spans cleared -/
theorem clears_spans (cb : Nat) : Clears 93 #[.pointer (some ⟨cb, 0, none⟩)] (One cb) (fun w => (∃ v, w.cell? ⟨cb, 0, none⟩ = some v) ∧ w.frozen? ⟨cb, 0, none⟩ = false) (fun w => w.cell? ⟨cb, 0, none⟩ = some (.slice none 0 0)) := by
 refine ⟨fun args w => by simp [go_sem], fun w h => ?_⟩
 obtain ⟨⟨v, hc⟩, hf⟩ := h
 go_enter Tryz.func93, Tryz.ntmps93
 go_wp2_with fail
 go_end0
 exact ⟨rfl, (Keeps.refl _ _).set1 _ _, World.cell?_setCell_same _ _ _ hc⟩
end Go.Proofs.YtfmabknhfehdcaaGreat
namespace Go.Proofs.YtfmabknhfehdcaaGreat
set_option linter.unusedSimpArgs false
set_option linter.unusedVariables false
open Go.RowKit
/-- the cells of a status -/
def stA (code : Int) : Array Value := #[.int .u8 0, .int .u8 code, .bool false, .bool true]
def st0 : Array Value := #[.int .u8 0, .int .u8 0, .bool false, .bool false]
def panT (code : Int) : PanicEntry := { v := .iface 54 (.agg (stA code)), recovered := false }
theorem sizeSt : (Tryz.prog.info? 54).map (·.size) = some 4 := by kernel_rfl
theorem zeroSt (w : World) : (zeroValue 54).run Tryz.prog w = .ok (.agg st0) w := by kernel_rfl
theorem buildSt (code : Int) (w : World) : (Instr.build 54 #[(1, .int .u8 code), (3, .bool true)]).run Tryz.prog w = .ok (.agg (stA code)) w := by kernel_rfl
theorem stA_one (code : Int) : (stA code).all (·.oneCell') = true := by simp [stA, Value.oneCell']
theorem st0_one : st0.all (·.oneCell') = true := by simp [st0, Value.oneCell']
/-- the codes by error -/
def codesT : List (Int × Value) := [(1, .int .u8 6), (3, .int .u8 4), (161, .int .u8 13), (5, .int .u8 14), (162, .int .u8 15), (160, .int .u8 17), (2, .int .u8 17), (150, .int .u8 19)]
set_option maxRecDepth 100000 in
set_option maxHeartbeats 4000000 in
theorem codes_any (w : World) : Calls Tryz.prog 81 #[] w fun e w' => ∃ r, e = .returned (.map (some r)) ∧ w.heap.size ≤ r ∧ MapIs .i64 w' r codesT ∧ Below w.heap.size w w' := by
 have hm0 : MapIs .i64 (w.alloc (.map #[] 0)) w.heap.size [] := MapIs.made w
 have HM := Lib.hid hm0
 have hk0 : Keeps (fun j => w.heap.size ≤ j) w (w.alloc (.map #[] 0)) := (Keeps.refl _ w).alloc _
 have HK := Lib.hid hk0
 have hmm := @run_makeMap Tryz.prog
 clear hm0 hk0
 go_enter Tryz.func81, Tryz.ntmps81
 go_wp2_with ((with_reducible show wpList _ _ _ (⟨none, .insert _ _ _ _, _, _, _, _⟩ :: _) _ _); refine wpList_insert_mp rfl _ _ _ rfl Tryz.underlying136 Tryz.underlying38 HM.out _ _ rfl rfl rfl ?_ ?_; kernel_rfl; intro w' hm' hk'; replace HK := Lib.hid (HK.out.trans (hk'.mono (fun k _ e => by have e : k = w.heap.size := e; have := HK.out.size; omega))); replace HM := Lib.hid hm'; clear hm' hk')
 go_ret
 exact ⟨_, rfl, Nat.le_refl _, HM.out, HK.out.below (Nat.le_refl _) (fun k hk e => by omega)⟩
theorem look_codes {w : World} {r : Nat} (h : MapIs .i64 w r codesT) (no : Int) : (Instr.lookup 136 (.map (some r)) (.int .i64 no) false).run Tryz.prog w = .ok (.int .u8 (codeT no)) w := by
 have hz : ∀ w, (zeroValue 5).run Tryz.prog w = .ok (.int .u8 0) w := fun w => by kernel_rfl
 by_cases c : no = 1 ∨ no = 3 ∨ no = 161 ∨ no = 5 ∨ no = 162 ∨ no = 160 ∨ no = 2 ∨ no = 150
 ·have hm : (no, .int .u8 (codeT no)) ∈ codesT := by
   rcases c with rfl | rfl | rfl | rfl | rfl | rfl | rfl | rfl <;> simp [codesT, codeT]
  exact h.look Tryz.underlying136 Tryz.underlying38 hm false
 ·have h0 : codeT no = 0 := by
   unfold codeT
   repeat' split
   all_goals omega
  rw [h0]
  refine h.miss Tryz.underlying136 Tryz.underlying38 ?_ _ (hz w) false
  simp only [codesT, List.map_cons, List.map_nil, List.mem_cons, List.not_mem_nil, or_false]
  omega
set_option maxRecDepth 100000 in
theorem failed_any (code : Int) (w : World) : Calls Tryz.prog 91 #[.int .u8 code] w fun e w' => e = .returned (.agg (stA code)) ∧ Below w.heap.size w w' := by
 go_enter Tryz.func91, Tryz.ntmps91
 go_wp2_with (first
  | ((with_reducible show wpList _ _ _ (⟨some 2, _, _, _, _, _⟩ :: _) _ _); refine wpList_alloc rfl 54 rfl zeroSt ?_; rw [show (Value.agg st0).cells = st0 from rfl])
  | ((with_reducible show wpList _ _ _ (⟨some 4, _, _, _, _, _⟩ :: _) _ _); refine wpList_buildC rfl 54 #[(1, .tmp 3), (3, .const (.bool true))] rfl #[(1, .int .u8 code), (3, .bool true)] (by simp [Act.eval, Act.put]) (buildSt code _) ?_)
  | ((with_reducible show wpList _ _ _ (⟨none, _, _, _, _, _⟩ :: _) _ _); refine wpList_storeA rfl (b := w.heap.size) (A := st0) (A' := stA code) (ArrAt.fresh w st0 _ (by decide)) 54 (.tmp 2) (.tmp 4) rfl (by simp [Act.eval, Act.put]) (by simp [Act.eval, Act.put]) sizeSt rfl (stA_one code) ?_))
 exact bodyPost_ret (results_c rfl _ _ _ ((ArrAt.fresh w st0 _ (by decide)).store (stA code) rfl) rfl Tryz.underlying54 rfl sizeSt) rfl ⟨rfl, bstore ((Below.refl _ _).alloc (Nat.le_refl _) _) _ (Nat.le_refl _) _ _⟩
section
variable (code : Int) (b n c : Nat) (F : Nat → Bool) (w : World) (h : Conds w b n F) (hn : n ≤ 1000)
include h hn
set_option maxRecDepth 100000 in
set_option maxHeartbeats 1000000 in
theorem tmust_row_ok (hr : ∀ i, i < n → F i = true) :
  Calls Tryz.prog 80 #[.int .u8 code, .slice (some ⟨b, 0, none⟩) n c] w fun e w' => e = .returned (.tuple #[]) ∧ w = w' := by
 have H := Lib.hid h
 have HR := Lib.hid hr
 clear h hr
 go_enter Tryz.func80, Tryz.ntmps80
 go_wp2_with (go_at_call 82; refine (contains_conds b n _ F false (.inl ⟨rfl, HR.out⟩) _ H.out hn).mono ?_; rintro e w' ⟨rfl, rfl⟩)
 go_end0
 exact ⟨rfl, rfl⟩
set_option maxRecDepth 100000 in
set_option maxHeartbeats 1000000 in
theorem tmust_row_bad (hr : ∃ i, i < n ∧ F i = false) :
  Calls Tryz.prog 80 #[.int .u8 code, .slice (some ⟨b, 0, none⟩) n c] w fun e w' => e = .panicked [panT code] ∧ Below w.heap.size w w' := by
 have H := Lib.hid h
 have HR := Lib.hid hr
 clear h hr
 go_enter Tryz.func80, Tryz.ntmps80
 go_wp2_with (first
  | (go_at_call 82; refine (contains_conds b n _ F true (.inr ⟨rfl, HR.out⟩) _ H.out hn).mono ?_; rintro e w' ⟨rfl, rfl⟩)
  | (go_at_call 91; refine (failed_any code _).mono ?_; rintro e w1 ⟨rfl, hb⟩; have HB := Lib.hid hb; clear hb))
 exact ⟨rfl, rfl, HB.out⟩
end
theorem tmust1_ok' (code : Int) (b : Nat) (w : World) (hb : b = w.heap.size) : Calls Tryz.prog 80 #[.int .u8 code, .slice (some ⟨b, 0, none⟩) 1 1] (w.alloc (.cells #[.bool true] 4)) fun e w' => e = .returned (.tuple #[]) ∧ w.alloc (.cells #[.bool true] 4) = w' := by
 subst hb
 exact tmust_row_ok code w.heap.size 1 1 _ _ (conds_alloc w [true]) (by omega) (fun i hi => by
  match i, hi with
  | 0, _ => rfl)
theorem tmust1_bad' (code : Int) (b : Nat) (w : World) (hb : b = w.heap.size) : Calls Tryz.prog 80 #[.int .u8 code, .slice (some ⟨b, 0, none⟩) 1 1] (w.alloc (.cells #[.bool false] 4)) fun e w' => e = .panicked [panT code] ∧ Below w.heap.size w w' := by
 subst hb
 exact (tmust_row_bad code w.heap.size 1 1 _ _ (conds_alloc w [false]) (by omega) ⟨0, by omega, rfl⟩).mono fun e w' h => ⟨h.1, ((Below.refl _ w).alloc (Nat.le_refl _) _).trans (h.2.mono (by simp))⟩
theorem tmust2_ok' (code : Int) (b : Nat) (w : World) (hb : b = w.heap.size) : Calls Tryz.prog 80 #[.int .u8 code, .slice (some ⟨b, 0, none⟩) 2 2] (w.alloc (.cells #[.bool true, .bool true] 4)) fun e w' => e = .returned (.tuple #[]) ∧ w.alloc (.cells #[.bool true, .bool true] 4) = w' := by
 subst hb
 exact tmust_row_ok code w.heap.size 2 2 _ _ (conds_alloc w [true, true]) (by omega) (fun i hi => by
  match i, hi with
  | 0, _ => rfl
  | 1, _ => rfl)
theorem tmust2_bad' (code : Int) (x y : Bool) (h : x = false ∨ y = false) (b : Nat) (w : World) (hb : b = w.heap.size) : Calls Tryz.prog 80 #[.int .u8 code, .slice (some ⟨b, 0, none⟩) 2 2] (w.alloc (.cells #[.bool x, .bool y] 4)) fun e w' => e = .panicked [panT code] ∧ Below w.heap.size w w' := by
 subst hb
 refine (tmust_row_bad code w.heap.size 2 2 _ _ (conds_alloc w [x, y]) (by omega) ?_).mono fun e w' h => ⟨h.1, ((Below.refl _ w).alloc (Nat.le_refl _) _).trans (h.2.mono (by simp))⟩
 rcases h with rfl | rfl
 ·exact ⟨0, by omega, rfl⟩
 ·exact ⟨1, by omega, rfl⟩
/-- A panic, wherever it comes up in a region, or a normal end. -/
def PanK (i j : Nat) (xi xj : Value) (D : List Deferred) (ch : List PanicEntry) (C : World → Prop) (N : Act → World → Prop) : Exit → Act → World → Prop
 | .panic c, a, w => c = ch ∧ a.tmps.getD i undef = xi ∧ a.tmps.getD j undef = xj ∧ a.defers = D ∧ C w
 | .normal, a, w => N a w
 | _, _, _ => False
theorem PanK.put {i j : Nat} {xi xj : Value} {D : List Deferred} {ch : List PanicEntry} {C : World → Prop} {N : Act → World → Prop} {c : List PanicEntry} {a : Act} {w : World} {d : Nat} {v : Value} (h : PanK i j xi xj D ch C N (.panic c) (a.put (some d) v) w) (hi : d ≠ i) (hj : d ≠ j) : PanK i j xi xj D ch C N (.panic c) a w := by
 obtain ⟨e1, e2, e3, e4, e5⟩ := h
 refine ⟨e1, ?_, ?_, e4, e5⟩
 ·rw [← e2]; simp [Act.put, Array.getElem?_setIfInBounds, hi]
 ·rw [← e3]; simp [Act.put, Array.getElem?_setIfInBounds, hj]
theorem PanK.fin {i j : Nat} {xi xj : Value} {D : List Deferred} {ch : List PanicEntry} {C : World → Prop} {N : Act → World → Prop} {a : Act} {w : World} (h : N a w) : PanK i j xi xj D ch C N .normal a w := h
theorem wp_pank {P : Program} {Q : Exit → Act → World → Prop} {c : Code} {a : Act} {w : World} {i j : Nat} {xi xj : Value} {D : List Deferred} {ch : List PanicEntry} {C : World → Prop} (h : c.wp P (PanK i j xi xj D ch C (Q .normal)) a w)
  (hq : ∀ tmps w', tmps.getD i undef = xi → tmps.getD j undef = xj → C w' → Q (.panic ch) { tmps := tmps, defers := D } w') : c.wp P Q a w :=
 wp_mono h fun e a' w' q => by
  cases e with
  | panic c =>
   obtain ⟨e1, e2, e3, e4, e5⟩ := q
   subst e1 e4
   exact hq a'.tmps w' e2 e3 e5
  | normal => exact q
  | _ => exact q.elim
end Go.Proofs.YtfmabknhfehdcaaGreat
namespace Go.Proofs.YtfmabknhfehdcaaGreat
set_option linter.unusedSimpArgs false
set_option linter.unusedVariables false
open Go.RowKit
set_option maxRecDepth 100000 in
set_option maxHeartbeats 4000000 in
theorem tcaught_panicking (f : Nat) (cs' : Array Value) (S : Nat → Prop) (sb : Nat) (A : Array Value) (C C' : World → Prop) (code : Int) (w : World) (hcl : Clears f cs' S C C') (hC : ∀ b, Below w.heap.size w b → C b) (hA : ArrAt w sb A) (h4 : A.size = 4) (hne : ¬ S sb)
  (hS : ∀ j, S j → j < w.heap.size) (hC' : ∀ a b, C' a → Keeps (One sb) a b → C' b) :
  CallsD Tryz.prog 32 #[.pointer (some ⟨sb, 0, none⟩), .func (.func f) #[] cs'] (.panicking [panT code]) w fun e u' w' =>
   e = .returned (.tuple #[]) ∧ u' = .panicking [{ panT code with recovered := true }] ∧ Keeps (fun j => S j ∨ j = sb) w w' ∧ C' w' ∧ ArrAt w' sb (stA code) := by
 have HCL := Lib.hid hcl
 have HC := Lib.hid hC
 have HC' := Lib.hid hC'
 have HA := Lib.hid hA
 have H4 := Lib.hid h4
 have HS := Lib.hid hS
 have HSB := Lib.hid hA.lt
 unfold panT
 obtain ⟨T, hT⟩ : ∃ T, T = stA code := ⟨_, rfl⟩
 have HTS := Lib.hid (show T.size = 4 by rw [hT]; rfl)
 have HT1 := Lib.hid (show T.all (·.oneCell') = true by rw [hT]; exact stA_one code)
 rw [← hT]
 clear hT
 refine callsD_of_wpS Tryz.func32 rfl fun c₀ cs hu => ?_
 apply wpS_seq
 apply wpS_region
 simp [wpOpsS, go_sem, recoverD, hu, Tryz.ntmps32, Exit.thenS]
 refine wpS_of_wp ?_
 have HU := Lib.hid hu
 clear hcl hC hC' hA h4 hS hu
 generalize hq : (bodyPostS Tryz.prog Tryz.f32 c₀ cs _) = Q
 have HQ := Lib.hid hq
 clear hq
 have hfr : (#[Value.pointer (some ⟨sb, 0, none⟩), Value.func (.func f) #[] cs'] ++ ((Array.replicate 21 undef).setIfInBounds 5 (Value.iface 54 (.agg T))).setIfInBounds 2 (Value.iface 54 (.agg T)) : Array Value) = #[.pointer (some ⟨sb, 0, none⟩), .func (.func f) #[] cs', undef, undef, .iface 54 (.agg T), undef, undef, .iface 54 (.agg T), undef, undef, undef, undef, undef, undef, undef, undef, undef, undef, undef, undef, undef, undef, undef] := by kernel_rfl
 rw [hfr]
 clear hfr
 go_upto_region 2 with (fail)
 have hta : ∀ w, (Instr.typeAssert (.iface 54 (.agg T)) 20 54 true).run Tryz.prog w = .ok (.tuple #[.agg T, .bool true]) w := fun w => by kernel_rfl
 go_upto_region 3 with (first
  | ((with_reducible show wpList _ _ _ (⟨some 5, _, _, _, _, _⟩ :: _) _ _); refine wpList_alloc rfl 54 rfl zeroSt ?_; rw [show (Value.agg st0).cells = st0 from rfl])
  | ((with_reducible show wpList _ _ _ (⟨none, .store _ _ _, _, _, _, _⟩ :: _) _ _); refine wpList_storeA rfl (b := w.heap.size) (A := st0) (A' := T) (ArrAt.fresh w st0 _ (by decide)) 54 (.tmp 5) (.tmp 13) rfl (by simp [Act.eval, Act.put]) (by simp [Act.eval, Act.put]) sizeSt HTS.out HT1.out ?_))
 obtain ⟨W1, hW1⟩ : ∃ z, z = (w.alloc (.cells st0 54)).setCells w.heap.size 0 T.toList := ⟨_, rfl⟩
 rw [← hW1]
 obtain ⟨hb1, ha1⟩ := stored_at (y := w) (T := 54) (Z := st0) (A := T) (by decide) HTS.out hW1
 have HB1 := Lib.hid hb1
 have HAW := Lib.hid ha1
 clear hW1 hb1 ha1
 go_upto_region 5 with (fail)
 have hen := HCL.out.enter
 have hcall := Lib.hid (HCL.out.call W1 (HC.out W1 HB1.out))
 go_upto_region 6 with ((with_reducible refine hcall.out.mono ?_); rintro e w2 ⟨rfl, hk, hc1⟩; have HK := Lib.hid hk; have HC1 := Lib.hid hc1; clear hk hc1)
 have HAS := Lib.hid ((HA.out.kept (Keeps.of_below (S := fun _ => False) HB1.out) (fun e => e)).kept HK.out hne)
 have HAW2 := Lib.hid (HAW.out.kept HK.out (fun e => by have := HS.out _ e; omega))
 have HTZ := Lib.hid (show (Tryz.prog.info? 54).map (·.size) = some T.size by rw [HTS.out]; exact sizeSt)
 have HAZ := Lib.hid (show (Tryz.prog.info? 54).map (·.size) = some A.size by rw [H4.out]; exact sizeSt)
 clear hen hcall
 go_wp2_with (first
  | ((with_reducible show wpList _ _ _ (⟨some 21, _, _, _, _, _⟩ :: _) _ _); refine wpList_loadA rfl HAW2.out 54 (.tmp 5) rfl (by first | rfl | simp [Act.eval, Act.put]) Tryz.underlying54 rfl HTZ.out ?_)
  | ((with_reducible show wpList _ _ _ (⟨none, .store _ _ _, _, _, _, _⟩ :: _) _ _); refine wpList_storeA rfl (b := sb) (A := A) (A' := T) HAS.out 54 (.tmp 22) (.tmp 21) rfl (by simp [Act.eval, Act.put]) (by simp [Act.eval, Act.put]) HAZ.out (by rw [HTS.out, H4.out]) HT1.out ?_))
 rw [← HQ.out]
 have hk2 : Keeps (One sb) w2 (w2.setCells sb 0 T.toList) := Keeps.store (S := One sb) (Keeps.refl _ _) (fun _ => rfl) _ _
 refine ⟨rfl, _, rfl, .tuple #[], ?_, rfl, rfl, ((Keeps.of_below (S := fun j => S j ∨ j = sb) HB1.out).trans (HK.out.mono fun _ _ h => .inl h)).trans (hk2.mono fun _ _ h => .inr h), HC'.out _ _ HC1.out hk2, HAS.out.store T (by rw [HTS.out, H4.out])⟩
 simp [results, Tryz.results32]
theorem tcaught_idle (u v : Value) (w : World) :
  CallsD Tryz.prog 32 #[u, v] .returning w fun e u' w' => e = .returned (.tuple #[]) ∧ u' = .returning ∧ w' = w := by
 refine callsD_of_wpS Tryz.func32 rfl fun c₀ cs hu => ?_
 apply wpS_seq
 apply wpS_region
 simp [wpOpsS, go_sem, recoverD, hu, Tryz.ntmps32, Exit.thenS]
 apply wpS_seq
 apply wpS_region
 simp [wpOpsS, go_sem, recoverD, hu, Tryz.ntmps32, Exit.thenS]
 refine wpS_cond (t := false) (by simp [Act.eval, Array.replicate]) ?_
 simp only [Bool.false_eq_true, if_false]
 refine wpS_of_wp (wp_skip ?_)
 cases c₀
 simp_all [bodyPostS, results, Tryz.results32]
/-- a slice in a cell, cleared -/
def SlCell (cb : Nat) (w : World) : Prop := (∃ v, w.cell? ⟨cb, 0, none⟩ = some v) ∧ w.frozen? ⟨cb, 0, none⟩ = false
theorem SlCell.kept {cb : Nat} {w w' : World} {S : Nat → Prop} (h : SlCell cb w) (k : Keeps S w w') (hS : ¬ S cb) : SlCell cb w' := by
 obtain ⟨⟨v, hc⟩, hf⟩ := h
 refine ⟨⟨v, k.cell hc hS⟩, ?_⟩
 rw [World.frozen?_of_block (w := w) (a := ⟨cb, 0, none⟩) (k.block cb (World.block_lt_of_cell? _ _ hc) hS)]
 exact hf
section
variable (code : Int) (w : World)
theorem tgotB_ok (v : Value) : Calls Tryz.prog 42 #[v, .int .i64 0] w fun e w' => e = .returned v ∧ Below w.heap.size w w' := by
 go_enter Tryz.func42, Tryz.ntmps42
 go_wp2_with (first
  | (go_at_call 81; refine (codes_any _).mono ?_; rintro e w1 ⟨r, rfl, h1, h2, h3⟩; have hlk := look_codes h2 0; have H3 := Lib.hid h3; clear h1 h2 h3)
  | (go_at_call 80; (with_reducible refine (tmust1_ok' _ _ _ (by simp)).mono ?_); rintro e w' ⟨rfl, rfl⟩))
 go_ret
 exact ⟨rfl, H3.out.alloc H3.out.size _⟩
theorem tgotS_ok (v : Value) : Calls Tryz.prog 77 #[v, .int .i64 0] w fun e w' => e = .returned v ∧ Below w.heap.size w w' := by
 go_enter Tryz.func77, Tryz.ntmps77
 go_wp2_with (first
  | (go_at_call 81; refine (codes_any _).mono ?_; rintro e w1 ⟨r, rfl, h1, h2, h3⟩; have hlk := look_codes h2 0; have H3 := Lib.hid h3; clear h1 h2 h3)
  | (go_at_call 80; (with_reducible refine (tmust1_ok' _ _ _ (by simp)).mono ?_); rintro e w' ⟨rfl, rfl⟩))
 go_ret
 exact ⟨rfl, H3.out.alloc H3.out.size _⟩
theorem tgotS_bad (v : Value) (no : Int) (hn : (no == 0) = false) (hc : codeT no = code) : Calls Tryz.prog 77 #[v, .int .i64 no] w fun e w' => e = .panicked [panT code] ∧ Below w.heap.size w w' := by
 have HCC := Lib.hid hc
 clear hc
 go_enter Tryz.func77, Tryz.ntmps77
 go_wp2_with (go_at_call 81; refine (codes_any _).mono ?_; rintro e w1 ⟨r, rfl, h1, h2, h3⟩; have hlk := look_codes h2 no; rw [HCC.out] at hlk; have H3 := Lib.hid h3; clear h1 h2 h3)
 refine (tmust1_bad' _ _ _ (by simp)).mono ?_
 rintro e w' ⟨rfl, hb⟩
 exact ⟨rfl, rfl, H3.out.trans (hb.mono H3.out.size)⟩
end
/-- A mover: a memory and a command. -/
structure Mv (M : Array Value) (p : Option Addr) (C : Array Value) : Prop where
 c : C.size = 16
 e : M = #[.pointer p] ++ C
 o : C.all (·.oneCell') = true
namespace Mv
set_option linter.unusedSimpArgs false
set_option linter.unusedVariables false
variable {M C : Array Value} {p : Option Addr}
theorem size (h : Mv M p C) : M.size = 17 := by rw [h.e, Array.size_append, h.c]; rfl
theorem g0 (h : Mv M p C) : M[0]? = some (.pointer p) := by rw [h.e, Array.getElem?_append_left Nat.zero_lt_one]; rfl
theorem gs (h : Mv M p C) (i : Nat) : M[i + 1]? = C[i]? := by
 rw [h.e, Array.getElem?_append_right (by simp)]
 simp
theorem one (h : Mv M p C) : M.all (·.oneCell') = true := by
 rw [h.e]
 have := h.o
 simp_all [Value.oneCell']
end Mv
theorem sizeMv : (Tryz.prog.info? 96).map (·.size) = some 17 := by kernel_rfl
theorem sizeCm : (Tryz.prog.info? 28).map (·.size) = some 16 := by kernel_rfl
def zCm : Array Value := #[.int .u8 0, .int .u8 0, .bool false, .int .u16 0, .int .u32 0, .int .u32 0, .int .u32 0, .int .u64 0, .int .u64 0, .int .u64 0, .int .u32 0, .int .u32 0, .int .u32 0, .int .u32 0, .int .u32 0, .int .u32 0]
theorem zeroCm (w : World) : (zeroValue 28).run Tryz.prog w = .ok (.agg zCm) w := by kernel_rfl
theorem zeroMv (w : World) : (zeroValue 96).run Tryz.prog w = .ok (.agg (#[.pointer none] ++ zCm)) w := by kernel_rfl
theorem sixteen {C : Array Value} (h : C.size = 16) : ∃ a b c d e f g h i j k l m n o p, C = #[a, b, c, d, e, f, g, h, i, j, k, l, m, n, o, p] := by
 obtain ⟨l⟩ := C
 match l, h with
 | [a, b, c, d, e, f, g, h, i, j, k, l, m, n, o, p], _ => exact ⟨a, b, c, d, e, f, g, h, i, j, k, l, m, n, o, p, rfl⟩
theorem buildMv (p : Option Addr) (C : Array Value) (hC : C.size = 16) (w : World) : (Instr.build 96 #[(0, .pointer p), (1, .agg C)]).run Tryz.prog w = .ok (.agg (#[.pointer p] ++ C)) w := by
 obtain ⟨a, b, c, d, e, f, g, h, i, j, k, l, m, n, o, q, rfl⟩ := sixteen hC
 kernel_rfl
section
variable (M C : Array Value) (n : Int) (b B size : Nat) (f : Nat → Int) (L : List (Nat × Nat)) (w : World) (hV : Mv M (some ⟨b, 0, none⟩) C) (hM : MemAt w b B size f L) (hs : 0 < size)
include hV hM hs
set_option maxRecDepth 100000 in
set_option maxHeartbeats 4000000 in
theorem tcheck_ok (h0 : 0 ≤ n) (h1 : n ≤ 1048576) : Calls Tryz.prog 74 #[.agg M, .int .i64 n] w fun e w' => e = .returned (.tuple #[]) ∧ Below w.heap.size w w' := by
 have q0 : decide (0 ≤ n) = true := decide_eq_true h0
 have q1 : decide (n ≤ 1048576) = true := decide_eq_true h1
 have HM := Lib.hid hM
 have HV := Lib.hid hV
 obtain ⟨sz, hsz⟩ : ∃ z : Int, z = size := ⟨_, rfl⟩
 have dz : decide (0 < sz) = true := decide_eq_true (by omega)
 have HZ := Lib.hid hsz
 clear hM hs hsz hV
 go_enter Tryz.func74, Tryz.ntmps74
 go_upto_region 1 with fail
 obtain ⟨W0, hW0⟩ : ∃ W0, W0 = w.alloc (.cells M 96) := ⟨_, rfl⟩
 rw [← hW0]
 have AM := Lib.hid (show ArrAt W0 w.heap.size M by rw [hW0]; exact ArrAt.fresh w M _ (by rw [HV.out.size]; omega))
 have HB0 := Lib.hid (show Below w.heap.size w W0 by rw [hW0]; exact (Below.refl _ _).alloc (Nat.le_refl _) _)
 have c0 := AM.out.cell HV.out.g0
 clear hW0
 go_wp2_with (first
  | (go_at_call 19; refine (size_is b B size f L sz _ (HM.out.below HB0.out) HZ.out).mono ?_; rintro e w' ⟨rfl, rfl⟩)
  | (go_at_call 80; (with_reducible refine (tmust1_ok' _ _ _ (by simp)).mono ?_); rintro e w' ⟨rfl, rfl⟩)
  | (go_at_call 80; (with_reducible refine (tmust2_ok' _ _ _ (by simp)).mono ?_); rintro e w' ⟨rfl, rfl⟩))
 go_end0
 exact ⟨rfl, (HB0.out.alloc HB0.out.size _).alloc (by have := HB0.out.size; simp; omega) _⟩
set_option maxRecDepth 100000 in
set_option maxHeartbeats 4000000 in
theorem tcheck_bad (h : n < 0 ∨ 1048576 < n) : Calls Tryz.prog 74 #[.agg M, .int .i64 n] w fun e w' => e = .panicked [panT 2] ∧ Below w.heap.size w w' := by
 have hq : decide (0 ≤ n) = false ∨ decide (n ≤ 1048576) = false := h.imp (fun h => decide_eq_false (by omega)) (fun h => decide_eq_false (by omega))
 obtain ⟨x, hx⟩ : ∃ x, x = decide (0 ≤ n) := ⟨_, rfl⟩
 obtain ⟨y, hy⟩ : ∃ y, y = decide (n ≤ 1048576) := ⟨_, rfl⟩
 rw [← hx, ← hy] at hq
 have HQ := Lib.hid hq
 have q0 := hx.symm
 have q1 := hy.symm
 have HM := Lib.hid hM
 have HV := Lib.hid hV
 obtain ⟨sz, hsz⟩ : ∃ z : Int, z = size := ⟨_, rfl⟩
 have dz : decide (0 < sz) = true := decide_eq_true (by omega)
 have HZ := Lib.hid hsz
 clear hM hs hsz hV h hx hy hq
 go_enter Tryz.func74, Tryz.ntmps74
 go_upto_region 1 with fail
 obtain ⟨W0, hW0⟩ : ∃ W0, W0 = w.alloc (.cells M 96) := ⟨_, rfl⟩
 rw [← hW0]
 have AM := Lib.hid (show ArrAt W0 w.heap.size M by rw [hW0]; exact ArrAt.fresh w M _ (by rw [HV.out.size]; omega))
 have HB0 := Lib.hid (show Below w.heap.size w W0 by rw [hW0]; exact (Below.refl _ _).alloc (Nat.le_refl _) _)
 have c0 := AM.out.cell HV.out.g0
 clear hW0
 go_wp2_with (first
  | (go_at_call 19; refine (size_is b B size f L sz _ (HM.out.below HB0.out) HZ.out).mono ?_; rintro e w' ⟨rfl, rfl⟩)
  | (go_at_call 80; (with_reducible refine (tmust1_ok' _ _ _ (by simp)).mono ?_); rintro e w' ⟨rfl, rfl⟩))
 refine (tmust2_bad' _ _ _ HQ.out _ _ (by simp)).mono ?_
 rintro e w' ⟨rfl, hb⟩
 exact ⟨rfl, rfl, (HB0.out.alloc HB0.out.size _).trans (hb.mono (by have := HB0.out.size; simp; omega))⟩
end
end Go.Proofs.YtfmabknhfehdcaaGreat
