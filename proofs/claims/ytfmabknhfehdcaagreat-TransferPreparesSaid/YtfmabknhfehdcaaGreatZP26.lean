/- transfer: what is left behind a call that recovers; Spans. -/
import Derived.Test.YtfmabknhfehdcaaGreatZP25
import Derived.Deep.RegionHeld3
namespace Go.Proofs.YtfmabknhfehdcaaGreat
set_option linter.unusedSimpArgs false
set_option linter.unusedVariables false
open Go.RowKit
/-- the deferred call -/
def dfrT (sb f : Nat) (cs : Array Value) : Deferred := { target := .fn (.func 32) #[], args := #[.pointer (some ⟨sb, 0, none⟩), .func (.func f) #[] cs] }
theorem tl_bad {fn : Func} {R : Ending → World → Prop} {tmps : Array Value} {w : World} {f : Nat} {cs : Array Value} {sb : Nat} {S : Nat → Prop} {C C' : World → Prop} {code : Int}
  (hcl : Clears f cs S C C') (hC : ∀ b, Below w.heap.size w b → C b) (hst : ArrAt w sb st0) (hne : ¬ S sb) (hS : ∀ j, S j → j < w.heap.size) (hC' : ∀ a b, C' a → Keeps (One sb) a b → C' b)
  (hR : ∀ w', Keeps (fun j => S j ∨ j = sb) w w' → C' w' → ArrAt w' sb (stA code) → ∃ v, (results fn tmps).run Tryz.prog w' = .ok v w' ∧ R (.returned v) w') :
  bodyPostD Tryz.prog fn R (Exit.panic [panT code]) { tmps := tmps, defers := [dfrT sb f cs] } w := by
 show Leaves Tryz.prog fn tmps R [dfrT sb f cs] (.panicking [panT code]) w
 refine leaves_cons (f := 32) (args := #[.pointer (some ⟨sb, 0, none⟩), .func (.func f) #[] cs]) (by simp) (by simp [go_sem]) ?_
 refine (tcaught_panicking f cs S sb st0 C C' code w hcl hC hst rfl hne hS hC').mono ?_
 rintro e u' w'' ⟨rfl, rfl, hk, hc, hc2⟩
 show Leaves Tryz.prog fn tmps R [] .returning w''
 obtain ⟨v, h1, h2⟩ := hR w'' hk hc hc2
 exact ⟨v, h1, h2⟩
theorem tl_good {fn : Func} {R : Ending → World → Prop} {tmps : Array Value} {w : World} {f : Nat} {cs : Array Value} {sb : Nat} {v : Value} (h1 : (results fn tmps).run Tryz.prog w = .ok v w) (h2 : R (.returned v) w) :
  bodyPostD Tryz.prog fn R Exit.ret { tmps := tmps, defers := [dfrT sb f cs] } w := by
 show Leaves Tryz.prog fn tmps R [dfrT sb f cs] .returning w
 refine leaves_cons (f := 32) (args := #[.pointer (some ⟨sb, 0, none⟩), .func (.func f) #[] cs]) (by simp) (by simp [go_sem]) ?_
 refine (tcaught_idle _ _ w).mono ?_
 rintro e u' w'' ⟨rfl, rfl, rfl⟩
 show Leaves Tryz.prog fn tmps R [] .returning _
 exact ⟨v, h1, h2⟩
theorem results_vs {fn : Func} {p q : Tmp} {ty : TypeId} (h : fn.results = #[.cell p ty, .cell q 54]) {tmps : Array Value} {w : World} {b s : Nat} {v : Value} {A : Array Value} (hl : (loadVar ty ⟨b, 0, none⟩).run Tryz.prog w = .ok v w) (H : ArrAt w s A) (h4 : A.size = 4)
  (hp : tmps.getD p undef = .pointer (some ⟨b, 0, none⟩)) (hq : tmps.getD q undef = .pointer (some ⟨s, 0, none⟩)) : (results fn tmps).run Tryz.prog w = .ok (.tuple #[v, .agg A]) w := by
 have hp' : tmps[p]?.getD undef = .pointer (some ⟨b, 0, none⟩) := by simpa using hp
 have hq' : tmps[q]?.getD undef = .pointer (some ⟨s, 0, none⟩) := by simpa using hq
 have hl2 := H.loadVar (P := Tryz.prog) Tryz.underlying54 rfl (by rw [h4]; exact sizeSt)
 simp only [results, h]
 simp [Sem.run_bind, Result.andThen, hp', hq', asAddr, hl, hl2]
theorem results_st {fn : Func} {q : Tmp} (h : fn.results = #[.cell q 54]) {tmps : Array Value} {w : World} {s : Nat} {A : Array Value} (H : ArrAt w s A) (h4 : A.size = 4)
  (hq : tmps.getD q undef = .pointer (some ⟨s, 0, none⟩)) : (results fn tmps).run Tryz.prog w = .ok (.agg A) w := by
 have hq' : tmps[q]?.getD undef = .pointer (some ⟨s, 0, none⟩) := by simpa using hq
 have hl2 := H.loadVar (P := Tryz.prog) Tryz.underlying54 rfl (by rw [h4]; exact sizeSt)
 simp only [results, h]
 simp [Sem.run_bind, Result.andThen, hq', asAddr, hl2]
theorem load_spans {w : World} {b : Nat} {v : Value} (h : w.cell? ⟨b, 0, none⟩ = some v) : (loadVar 32 ⟨b, 0, none⟩).run Tryz.prog w = .ok v w := by simp [go_sem, h]
theorem load_bytes {w : World} {b : Nat} {v : Value} (h : w.cell? ⟨b, 0, none⟩ = some v) : (loadVar 31 ⟨b, 0, none⟩).run Tryz.prog w = .ok v w := by simp [go_sem, h]
theorem tclears_spans (cb : Nat) : Clears 39 #[.pointer (some ⟨cb, 0, none⟩)] (One cb) (SlCell cb) (fun w => w.cell? ⟨cb, 0, none⟩ = some (.slice none 0 0)) := by
 refine ⟨fun args w => by simp [go_sem], fun w h => ?_⟩
 obtain ⟨⟨v, hc⟩, hf⟩ := h
 go_enter Tryz.func39, Tryz.ntmps39
 go_wp2_with fail
 go_end0
 exact ⟨rfl, (Keeps.refl _ _).set1 _ _, World.cell?_setCell_same _ _ _ hc⟩
theorem ArrAt.sl {w : World} {b : Nat} {v : Value} (h : ArrAt w b #[v]) : SlCell b w := ⟨⟨v, h.cell (i := 0) rfl⟩, h.frozen h.pos⟩
/-- What lies in memory while Spans, Gather, GatherMeta run: the command, the result, the status. -/
structure TSt (w : World) (C : Array Value) (v : Value) (W : World) : Prop where
 below : Below w.heap.size w W
 c : ArrAt W w.heap.size C
 out : ArrAt W (w.heap.size + 1) #[v]
 st : ArrAt W (w.heap.size + 2) st0
namespace TSt
set_option linter.unusedSimpArgs false
set_option linter.unusedVariables false
variable {w W W' : World} {C : Array Value} {v : Value}
theorem kept {S : Nat → Prop} (h : TSt w C v W) (k : Keeps S W W') (hS : ∀ j, j ≤ w.heap.size + 2 → ¬ S j) : TSt w C v W' :=
 ⟨h.below.trans (k.below h.below.size (fun j hj => hS j (by omega))), h.c.kept k (hS _ (by omega)), h.out.kept k (hS _ (by omega)), h.st.kept k (hS _ (by omega))⟩
theorem go (h : TSt w C v W) (hb : Below W.heap.size W W') : TSt w C v W' := h.kept (Keeps.of_below (S := fun _ => False) hb) (fun _ _ e => e)
theorem setOut (h : TSt w C v W) (u : Value) : TSt w C u (W.setCell ⟨w.heap.size + 1, 0, none⟩ u) := by
 have k : Keeps (One (w.heap.size + 1)) W (W.setCell ⟨w.heap.size + 1, 0, none⟩ u) := (Keeps.refl _ _).set1 _ _
 refine ⟨h.below.setCell (p := ⟨w.heap.size + 1, 0, none⟩) (by simp) _, h.c.kept k (fun e => by have e : w.heap.size = w.heap.size + 1 := e; omega), ?_, h.st.kept k (fun e => by have e : w.heap.size + 2 = w.heap.size + 1 := e; omega)⟩
 have := h.out.store #[u] rfl
 exact this
theorem setSt (h : TSt w C v W) : TSt w C v (W.setCells (w.heap.size + 2) 0 st0.toList) := by
 have k : Keeps (One (w.heap.size + 2)) W (W.setCells (w.heap.size + 2) 0 st0.toList) := Keeps.store (S := One (w.heap.size + 2)) (Keeps.refl _ _) (fun _ => rfl) _ _
 exact ⟨bstore h.below _ (by omega) _ _, h.c.kept k (fun e => by have e : w.heap.size = w.heap.size + 2 := e; omega), h.out.kept k (fun e => by have e : w.heap.size + 1 = w.heap.size + 2 := e; omega), h.st.store st0 rfl⟩
theorem start (w : World) (C : Array Value) (T T2 : TypeId) (h : 0 < C.size) : TSt w C (.slice none 0 0) (((w.alloc (.cells C T)).alloc (.cells #[.slice none 0 0] T2)).alloc (.cells st0 54)) := by
 refine ⟨(((Below.refl _ w).alloc (Nat.le_refl _) _).alloc (by simp) _).alloc (by simp; omega) _, ((ArrAt.fresh w C T h).alloc _).alloc _, ?_, ?_⟩
 ·have := (ArrAt.fresh (w.alloc (.cells C T)) #[.slice none 0 0] T2 (by decide)).alloc (.cells st0 54)
  simpa using this
 ·have := ArrAt.fresh ((w.alloc (.cells C T)).alloc (.cells #[.slice none 0 0] T2)) st0 54 (by decide)
  simpa using this
end TSt
theorem two_hi {n j : Nat} (h : j < n) (e : One (n + 1) j ∨ j = n + 2) : False := by
 rcases e with e | e
 ·have e : j = n + 1 := e
  omega
 ·omega
/-- What Spans leaves. -/
def TspPost (w : World) (r : Except Int (List Spn)) (e : Ending) (w' : World) : Prop :=
 Below w.heap.size w w' ∧ match r with
 | .error c => e = .returned (.tuple #[.slice none 0 0, .agg (stA c)])
 | .ok l => ∃ v, e = .returned (.tuple #[v, .agg st0]) ∧ w'.ownsRow w.heap.size 65 3 v l.length (spC l)
set_option maxRecDepth 100000 in
set_option maxHeartbeats 8000000 in
theorem trSpans_of (m : Option Addr) (C : Array Value) (n : Int) (th : Bool) (R : Except Int (List Spn)) (w : World) (h16 : C.size = 16)
  (hsp : ∀ W, Below w.heap.size w W → Calls Tryz.prog 35 #[.agg (#[.pointer m] ++ C), .int .i64 n, .bool th] W (MsPost W R)) :
  Calls Tryz.prog 16 #[.pointer m, .agg C, .int .i64 n, .bool th] w (TspPost w R) := by
 have HSP := Lib.hid hsp
 have H16 := Lib.hid h16
 have HCZ := Lib.hid (show (Tryz.prog.info? 28).map (·.size) = some C.size by rw [h16]; exact sizeCm)
 clear hsp h16
 have hmf : ∀ (fn : Fn) (first cap : Array Value) (w : World), (Instr.makeFunc fn first cap).run Tryz.prog w = .ok (.func fn first cap) w := fun _ _ _ _ => rfl
 go_enter_defers Tryz.func16, Tryz.ntmps16
 go_upto_region 2 with ((with_reducible show wpList _ _ _ (⟨some 9, _, _, _, _, _⟩ :: _) _ _); refine wpList_alloc rfl 54 rfl zeroSt ?_; rw [show (Value.agg st0).cells = st0 from rfl])
 obtain ⟨W0, hW0⟩ : ∃ W0, W0 = (((w.alloc (.cells C 28)).alloc (.cells #[.slice none 0 0] 32)).alloc (.cells st0 54)) := ⟨_, rfl⟩
 rw [← hW0]
 have S0 := Lib.hid (show TSt w C (.slice none 0 0) W0 by rw [hW0]; exact TSt.start w C _ _ (by rw [H16.out]; decide))
 clear hW0
 refine wp_pank (i := 8) (j := 9) (xi := .pointer (some ⟨w.heap.size + 1, 0, none⟩)) (xj := .pointer (some ⟨w.heap.size + 2, 0, none⟩)) (D := [dfrT (w.heap.size + 2) 39 #[.pointer (some ⟨w.heap.size + 1, 0, none⟩)]]) (ch := [panT (match R with | .error c => c | .ok _ => 0)]) (C := fun w' => (match R with | .error c => True | .ok _ => False) ∧ Below W0.heap.size W0 w') ?_ ?_
 ·refine wp_region_held_drew (S := fun w' => ArrAt w' w.heap.size C ∧ ArrAt w' (w.heap.size + 2) st0) (by kernel_rfl) ⟨S0.out.c.drew, S0.out.st.drew⟩ (fun hS0 => ?_)
  refine takeD 11 (i := 0) (v := .pointer m) rfl rfl (by kernel_rfl) (by kernel_rfl) (by kernel_rfl) (fun _ _ _ h => PanK.put h (by decide) (by decide)) (Or.inl ⟨by rfl, by (intro w' _; go_simp)⟩) (by assumption) ?_
  try simp only [Act.put, List.setIfInBounds_toArray, List.set_cons_zero, List.set_cons_succ]
  refine takeD 12 (i := 1) (v := .agg C) rfl rfl (by kernel_rfl) (by kernel_rfl) (by kernel_rfl) (fun _ _ _ h => PanK.put h (by decide) (by decide)) (yieldsA (by rfl) 28 (.tmp 5) rfl (w.heap.size) (by first | rfl | simp [Act.eval, Act.put]) C (fun w h => h.1.rng) Tryz.underlying28 rfl HCZ.out) (by assumption) ?_
  try simp only [Act.put, List.setIfInBounds_toArray, List.set_cons_zero, List.set_cons_succ]
  refine takeD 13 (i := 2) (v := .agg (#[.pointer m] ++ C)) rfl rfl (by kernel_rfl) (by kernel_rfl) (by kernel_rfl) (fun _ _ _ h => PanK.put h (by decide) (by decide)) (Or.inl ⟨by rfl, by (intro w' _; exact run_exec_build2 96 0 1 (.tmp 11) (.tmp 12) rfl _ _ rfl rfl (buildMv m C H16.out _))⟩) (by assumption) ?_
  try simp only [Act.put, List.setIfInBounds_toArray, List.set_cons_zero, List.set_cons_succ]
  refine takeD 14 (i := 3) (v := .int .i64 n) rfl rfl (by kernel_rfl) (by kernel_rfl) (by kernel_rfl) (fun _ _ _ h => PanK.put h (by decide) (by decide)) (Or.inl ⟨by rfl, by (intro w' _; go_simp)⟩) (by assumption) ?_
  try simp only [Act.put, List.setIfInBounds_toArray, List.set_cons_zero, List.set_cons_succ]
  refine takeD 15 (i := 4) (v := .bool th) rfl rfl (by kernel_rfl) (by kernel_rfl) (by kernel_rfl) (fun _ _ _ h => PanK.put h (by decide) (by decide)) (Or.inl ⟨by rfl, by (intro w' _; go_simp)⟩) (by assumption) ?_
  try simp only [Act.put, List.setIfInBounds_toArray, List.set_cons_zero, List.set_cons_succ]
  refine takeD 17 (i := 6) (v := .agg st0) rfl rfl (by kernel_rfl) (by kernel_rfl) (by kernel_rfl) (fun _ _ _ h => PanK.put h (by decide) (by decide)) (yieldsA (by rfl) 54 (.tmp 9) rfl (w.heap.size + 2) (by first | rfl | simp [Act.eval, Act.put]) st0 (fun w h => h.2.rng) Tryz.underlying54 rfl sizeSt) (by assumption) ?_
  try simp only [Act.put, List.setIfInBounds_toArray, List.set_cons_zero, List.set_cons_succ]
  refine wpAnyH_ready (rs := [5]) (by kernel_rfl) (by simp) (AllReadyH.cons rfl (fun K hK => ?_) AllReadyH.nil)
  rw [if_pos (by rfl)]
  go_simp
  refine (HSP.out W0.drew S0.out.below.drew).mono ?_
  cases R with
  | error c =>
   rintro e w1 ⟨hb, rfl⟩
   exact ⟨rfl, rfl, rfl, rfl, trivial, (Below.refl _ _).drew.trans hb⟩
  | ok l =>
   rintro e w1 ⟨hb, v, rfl, ho⟩
   have hb' : Below W0.heap.size W0 w1 := (Below.refl _ _).drew.trans hb
   have S1 := Lib.hid (S0.out.go hb')
   have HO := Lib.hid (owns_less ho (show w.heap.size + 3 ≤ W0.drew.heap.size from S0.out.st.lt))
   refine hK.out _ _ ⟨S1.out.c, S1.out.st⟩ (fun hS0 => ?_)
   clear hK K hb hb' ho
   try simp only [Act.put, List.setIfInBounds_toArray, List.set_cons_zero, List.set_cons_succ]
   have hoo : ∀ (W W' : World) (S : Nat → Prop), W.ownsRow (w.heap.size + 3) 65 3 v l.length (spC l) → Keeps S W W' → (∀ j, S j → j < w.heap.size + 3) → W'.ownsRow (w.heap.size + 3) 65 3 v l.length (spC l) := fun W W' S h k hS => ownsRow_keeps h k (fun j hj e => by have := hS j e; omega)
   have k1 : ∀ W : World, Keeps (One (w.heap.size + 1)) W (W.setCell ⟨w.heap.size + 1, 0, none⟩ v) := fun W => (Keeps.refl _ _).set1 _ _
   have k2 : ∀ W : World, Keeps (One (w.heap.size + 2)) W (W.setCells (w.heap.size + 2) 0 st0.toList) := fun W => Keeps.store (S := One (w.heap.size + 2)) (Keeps.refl _ _) (fun _ => rfl) _ _
   have HOO := Lib.hid hoo
   have K1 := Lib.hid k1
   have K2 := Lib.hid k2
   clear hoo k1 k2
   obtain ⟨va, vm, vc, rfl⟩ := owns_slice HO.out
   refine wpAnyH_ready (rs := [7]) (by kernel_rfl) (by simp) (AllReadyH.cons rfl (fun K hK => ?_) AllReadyH.nil)
   rw [if_pos (by rfl)]
   obtain ⟨⟨u, hu⟩, hfu⟩ := S1.out.out.sl
   go_simp
   have S2 := Lib.hid (S1.out.setOut (.slice va vm vc))
   refine hK.out _ _ ⟨S2.out.c, S2.out.st⟩ (fun hS0 => ?_)
   clear hK K hu hfu
   try simp only [Act.put, List.setIfInBounds_toArray, List.set_cons_zero, List.set_cons_succ]
   refine wpAnyH_ready (rs := [8]) (by kernel_rfl) (by simp) (AllReadyH.cons rfl (fun K hK => ?_) AllReadyH.nil)
   rw [if_pos (by rfl)]
   refine wp_storeN 54 (.tmp 9) (.tmp 17) rfl rfl (w.heap.size + 2) 0 st0 (by first | rfl | simp [Act.eval, Act.put]) (by first | rfl | simp [Act.eval, Act.put]) S2.out.st.th sizeSt st0_one ?_
   have S3 := Lib.hid S2.out.setSt
   have HO3 := Lib.hid (HOO.out _ _ _ (HOO.out _ _ _ HO.out (K1.out w1) (fun j e => by have e : j = w.heap.size + 1 := e; omega)) (K2.out _) (fun j e => by have e : j = w.heap.size + 2 := e; omega))
   refine hK.out _ _ ⟨S3.out.c, S3.out.st⟩ (fun hS0 => ?_)
   clear hK K
   try simp only [Act.put, List.setIfInBounds_toArray, List.set_cons_zero, List.set_cons_succ]
   refine wpAnyH_done (by kernel_rfl) ?_ _
   refine PanK.fin ?_
   go_wp2_with fail
   exact tl_good (results_vs Tryz.results16 (load_spans (S3.out.out.cell (i := 0) rfl)) S3.out.st rfl rfl rfl) ⟨S3.out.below, _, rfl, owns_less HO3.out (by omega)⟩
 ·intro tmps w' h8 h9 hw
  cases R with
  | ok l => exact hw.1.elim
  | error c =>
   have S1 := S0.out.go hw.2
   refine tl_bad (S := One (w.heap.size + 1)) (tclears_spans (w.heap.size + 1)) (fun b hb => (S1.go hb).out.sl) S1.st (fun e => by have e : w.heap.size + 2 = w.heap.size + 1 := e; omega) (fun j hj => by have hj : j = w.heap.size + 1 := hj; have := S1.out.lt; omega) (fun a b ha hk => hk.cell ha (fun e => by have e : w.heap.size + 1 = w.heap.size + 2 := e; omega)) ?_
   intro w2 hk hc hst
   exact ⟨_, results_vs Tryz.results16 (load_spans hc) hst rfl h8 h9, S1.below.trans (hk.below (B := w.heap.size) S1.below.size (fun j hj e => two_hi hj e)), rfl⟩
end Go.Proofs.YtfmabknhfehdcaaGreat
namespace Go.Proofs.YtfmabknhfehdcaaGreat
set_option linter.unusedSimpArgs false
set_option linter.unusedVariables false
open Go.RowKit
/-- the code of a transfer of metadata -/
def metaT (size : Nat) (a n : Int) : Int := if n < 0 ∨ 1048576 < n ∨ (0 < n ∧ a % 4 ≠ 0) then 2 else if 0 < n ∧ chk size a n ≠ 0 then 4 else 0
/-- What meta leaves. -/
def MePost (w : World) (c : Int) (e : Ending) (w' : World) : Prop := Below w.heap.size w w' ∧ e = if c = 0 then .returned (.tuple #[]) else .panicked [panT c]
section
variable (M C : Array Value) (a n : Int) (b B size : Nat) (f : Nat → Int) (L : List (Nat × Nat)) (w : World) (hV : Mv M (some ⟨b, 0, none⟩) C) (hM : MemAt w b B size f L) (hs : 0 < size)
 (g7 : C[7]? = some (.int .u64 a)) (h0 : 0 ≤ a) (h1 : a ≤ 18446744073709551615)
include hV hM hs g7 h0 h1
set_option maxRecDepth 100000 in
set_option maxHeartbeats 8000000 in
theorem tmeta_any : Calls Tryz.prog 41 #[.agg M, .int .i64 n] w (MePost w (metaT size a n)) := by
 obtain ⟨X, hX⟩ : ∃ X, X = metaT size a n := ⟨_, rfl⟩
 rw [← hX]
 have HM := Lib.hid hM
 have HV := Lib.hid hV
 have HS := Lib.hid hs
 have m8 := (HV.out.gs 7).trans g7
 have HSZ := Lib.hid (show (Tryz.prog.info? 96).map (·.size) = some M.size by rw [HV.out.size]; exact sizeMv)
 unfold metaT at hX
 have HX := Lib.hid hX
 clear hM hV hs g7 hX
 go_enter Tryz.func41, Tryz.ntmps41
 go_upto_region 1 with fail
 obtain ⟨W0, hW0⟩ : ∃ W0, W0 = w.alloc (.cells M 96) := ⟨_, rfl⟩
 rw [← hW0]
 have AM := Lib.hid (show ArrAt W0 w.heap.size M by rw [hW0]; exact ArrAt.fresh w M _ (by rw [HV.out.size]; omega))
 have HB0 := Lib.hid (show Below w.heap.size w W0 by rw [hW0]; exact (Below.refl _ _).alloc (Nat.le_refl _) _)
 have M8 := Lib.hid m8
 clear hW0 m8
 by_cases hr : n < 0 ∨ 1048576 < n
 ·have HR := Lib.hid hr
  have hx : X = 2 := by rw [HX.out, if_pos (by omega)]
  subst hx
  clear hr HX
  go_wp2_with ((with_reducible show wpList _ _ _ (⟨some 4, _, _, _, _, _⟩ :: _) _ _); refine wpList_loadA rfl AM.out 96 (.tmp 2) rfl (by first | rfl | simp [Act.eval, Act.put]) Tryz.underlying96 rfl HSZ.out ?_)
  refine (tcheck_bad M C n b B size f L W0 HV.out (HM.out.below HB0.out) HS.out HR.out).mono ?_
  rintro e w' ⟨rfl, hb⟩
  exact ⟨rfl, HB0.out.trans (hb.mono HB0.out.size), rfl⟩
 ·obtain ⟨hn0, hn1⟩ : 0 ≤ n ∧ n ≤ 1048576 := by omega
  have HN0 := Lib.hid hn0
  have HN1 := Lib.hid hn1
  go_upto_region 2 with (first
   | ((with_reducible show wpList _ _ _ (⟨some 4, _, _, _, _, _⟩ :: _) _ _); refine wpList_loadA rfl AM.out 96 (.tmp 2) rfl (by first | rfl | simp [Act.eval, Act.put]) Tryz.underlying96 rfl HSZ.out ?_)
   | (go_at_call 74; refine (tcheck_ok M C n b B size f L W0 HV.out (HM.out.below HB0.out) HS.out HN0.out HN1.out).mono ?_; rintro e w1 ⟨rfl, hb⟩; have HB1 := Lib.hid (HB0.out.trans (hb.mono HB0.out.size)); have AM1 := Lib.hid (AM.out.below hb); clear hb))
  have M1 := Lib.hid (HM.out.below HB1.out)
  by_cases hp : 0 < n
  ·have qp : decide (0 < n) = true := decide_eq_true hp
   have c8 := AM1.out.cell M8.out
   by_cases h4 : a % 4 = 0
   ·have q4 : (a % 4 == 0) = true := beq_iff_eq.2 h4
    obtain ⟨k, hk⟩ : ∃ k, chk size a n = k := ⟨_, rfl⟩
    have HK := Lib.hid hk
    have hx : X = if k = 0 then 0 else 4 := by
     rw [HX.out, if_neg (by omega), hk]
     by_cases c : k = 0
     ·rw [if_neg (fun e => e.2 c), if_pos c]
     ·rw [if_pos ⟨hp, c⟩, if_neg c]
    have HX2 := Lib.hid hx
    clear hx HX hk hr h4
    go_upto_region 4 with (go_at_call 80; (with_reducible refine (tmust1_ok' _ _ _ (by simp)).mono ?_); rintro e w' ⟨rfl, rfl⟩)
    have c0 := AM1.out.cell HV.out.g0
    obtain ⟨W2, hW2⟩ : ∃ W2, W2 = w1.alloc (.cells #[.bool true] 4) := ⟨_, rfl⟩
    rw [← hW2]
    have hb2 : Below w1.heap.size w1 W2 := by rw [hW2]; exact (Below.refl _ _).alloc (Nat.le_refl _) _
    have HB2 := Lib.hid (HB1.out.trans (hb2.mono HB1.out.size))
    have M2 := Lib.hid (M1.out.below hb2)
    have c0' := (AM1.out.below hb2).cell HV.out.g0
    have c8' := (AM1.out.below hb2).cell M8.out
    clear hW2 hb2 c0 c8
    by_cases hk0 : k = 0
    ·have qk : (k == 0) = true := beq_iff_eq.2 hk0
     have hx : X = 0 := by rw [HX2.out, if_pos hk0]
     subst hx
     clear HX2 hk0
     go_wp2_with (first
      | (go_at_call 79; refine (check_is b B size f L a n k W2 M2.out h0 h1 (by omega) (by omega) HK.out).mono ?_; rintro e w3 ⟨rfl, hb⟩; have HB3 := Lib.hid (HB2.out.trans (hb.mono HB2.out.size)); clear hb)
      | (go_at_call 80; (with_reducible refine (tmust1_ok' _ _ _ (by simp)).mono ?_); rintro e w' ⟨rfl, rfl⟩))
     go_end0
     exact ⟨HB3.out.alloc HB3.out.size _, rfl⟩
    ·have qk : (k == 0) = false := beq_eq_false_iff_ne.2 hk0
     have hx : X = 4 := by rw [HX2.out, if_neg hk0]
     subst hx
     clear HX2 hk0
     go_wp2_with (go_at_call 79; refine (check_is b B size f L a n k W2 M2.out h0 h1 (by omega) (by omega) HK.out).mono ?_; rintro e w3 ⟨rfl, hb⟩; have HB3 := Lib.hid (HB2.out.trans (hb.mono HB2.out.size)); clear hb)
     refine (tmust1_bad' _ _ _ (by simp)).mono ?_
     rintro e w' ⟨rfl, hb⟩
     exact ⟨rfl, HB3.out.trans (hb.mono HB3.out.size), rfl⟩
   ·have q4 : (a % 4 == 0) = false := beq_eq_false_iff_ne.2 h4
    have hx : X = 2 := by rw [HX.out, if_pos (.inr (.inr ⟨hp, h4⟩))]
    subst hx
    clear HX hr h4
    go_wp2_with fail
    refine (tmust1_bad' _ _ _ (by simp)).mono ?_
    rintro e w' ⟨rfl, hb⟩
    exact ⟨rfl, HB1.out.trans (hb.mono HB1.out.size), rfl⟩
  ·have qp : decide (0 < n) = false := decide_eq_false hp
   have hx : X = 0 := by rw [HX.out, if_neg (by omega), if_neg (fun e => hp e.1)]
   subst hx
   clear HX hr hp
   go_wp2_with fail
   go_end0
   exact ⟨HB1.out, rfl⟩
end
end Go.Proofs.YtfmabknhfehdcaaGreat
