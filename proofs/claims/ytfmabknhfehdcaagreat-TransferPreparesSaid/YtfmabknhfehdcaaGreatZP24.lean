/- prp: Build: the lists. -/
import Derived.Test.YtfmabknhfehdcaaGreatZP23
import Derived.Deep.RegionLawGrows
namespace Go.Proofs.YtfmabknhfehdcaaGreat
set_option linter.unusedSimpArgs false
set_option linter.unusedVariables false
open Go.RowKit
/-- the blocks that a function kept must not lie in -/
def SS (b B b' B' : Nat) (v : Value) : Nat → Prop := fun j => Two b B j ∨ Two b' B' j ∨ v.ownBlock = some j
/-- What Build with lists gives. -/
def GRes (w : World) (b B size : Nat) (f : Nat → Int) (L : List (Nat × Nat)) (x y : Int) (X : Except Int (List Itm)) (e : Ending) (w' : World) : Prop :=
 (∃ D, X = .ok D ∧ e = .returned (.tuple #[.int .u64 x, .int .u64 y, .int .i64 0]) ∧ Keeps (Two b B) w w' ∧ MemAt w' b B size (itF f D) (itL L D)) ∨ (X = .error 3 ∧ BRes w 0 0 3 e w')
theorem infoU64 : (Tryz.prog.info? 24).map (fun i => (i.zero, i.size, i.bytes)) = some (some (.int .u64 0), 1, 8) := by kernel_rfl
theorem own_form {W : World} {base : Nat} {e : TypeId} {v : Value} {n : Nat} {xs : List Value} (h : W.ownsRow base e 1 v n xs) (hn : 0 < n) : ∃ gg cap, v = .slice (some ⟨gg, 0, none⟩) n cap ∧ base ≤ gg ∧ ∀ i u, i < n → xs[i]? = some u → W.cell? ⟨gg, i, none⟩ = some u := by
 have h2 := h.2
 rcases h2 with ⟨e, hn'⟩ | ⟨g', cap, cur, e, hg, h3⟩
 ·omega
 ·subst e
  exact ⟨g', cap, rfl, hg, fun i u hi hu => by rw [h.cellAt i (by omega)]; exact hu⟩
/-- the first pages of a list -/
def olds (p : Nat → Int) (s r : Nat) : List Value := (List.range r).map fun i => .int .u64 (p (s + i))
theorem olds_get (p : Nat → Int) (s r j : Nat) (h : j < r) : (olds p s r)[j]? = some (.int .u64 (p (s + j))) := by
 simp [olds, h]
theorem olds_length (p : Nat → Int) (s r : Nat) : (olds p s r).length = r := by simp [olds]
theorem cellx {W W' : World} {a : Addr} {v : Value} (h : Below W.heap.size W W') (hc : W.cell? a = some v) : W'.cell? a = some v := (h.cell (World.block_lt_of_cell? _ _ hc)).trans hc
theorem own_kept {S : Nat → Prop} {W W' : World} {base sz n : Nat} {e : TypeId} {v : Value} {xs : List Value} (h : W.ownsRow base e sz v n xs) (k : Keeps S W W') (hS : ∀ g, v.ownBlock = some g → ¬ S g) : W'.ownsRow base e sz v n xs := by
 obtain ⟨h1, h2⟩ := h
 rcases h2 with h2 | ⟨g, cap, cur, rfl, hg, hh, h3⟩
 ·exact ⟨h1, .inl h2⟩
 ·exact ⟨h1, .inr ⟨g, cap, cur, rfl, hg, by rw [k.block g (by
   rcases Nat.lt_or_ge g W.heap.size with c | c
   ·exact c
   ·rw [Array.getElem?_eq_none c] at hh; cases hh) (hS g rfl)]; exact hh, h3⟩⟩
theorem Src.weak {S T : Nat → Prop} {W : World} {ao : Option Addr} {n : Nat} {s : Nat → Int} (h : Src S W ao n s) (hT : ∀ j, T j → S j) : Src T W ao n s := ⟨h.small, fun h0 => by
 obtain ⟨g, o, h1, h2, h3⟩ := h.at' h0
 exact ⟨g, o, h1, fun e => h2 (hT _ e), h3⟩⟩
theorem MemAt.lts {w : World} {b B size : Nat} {f : Nat → Int} {L : List (Nat × Nat)} (h : MemAt w b B size f L) : ∀ j, Two b B j → j < w.heap.size := by
 obtain ⟨h1, h2, G, cap, F, h4, h5, h6, h7, h8, h9⟩ := h
 rintro j (rfl | rfl)
 ·exact h4.lt
 ·exact h8.lt
theorem infoFn : (Tryz.prog.info? 1).map (fun i => (i.zero, i.size, i.bytes)) = some (some .nilFunc, 1, 8) := by kernel_rfl
/-- Behind the append of a function: what holds at the head of the next round. -/
theorem lists_step {w wo wr w8 Wm w9 : World} {mp u14 c : Value} {y : Int} {b B b' B' size k N6 ga gb gg gcap : Nat} {f : Nat → Int} {L : List (Nat × Nat)} {D : List Itm} {C : List Value} {x : Itm} {ao : Option Addr} {nc : Nat}
  (hS : BSt w mp y wr) (hrow : wr.ownsRow N6 1 1 u14 k C) (hclo : Clos (SS b B b' B' u14) wr w.heap.size C D) (hsl : ∀ i, SS b B b' B' u14 i → i < wo.heap.size)
  (hgg : wo.heap.size ≤ ga ∧ ga < gb ∧ wo.heap.size ≤ gb ∧ gb < wr.heap.size) (hb46 : w.heap.size + 3 < b' ∧ w.heap.size + 3 < B') (hb6 : ∀ j, Two b' B' j → j < N6)
  (y17 : wr.cell? ⟨ga, 0, none⟩ = some (.int .u64 x.a)) (y20 : wr.cell? ⟨gb, 0, none⟩ = some (.slice ao (8 * x.n) nc)) (hsrc : Src (fun i => i < gb) wr ao (8 * x.n) (wB x.q))
  (hk8 : Keeps (Two b' B') wr w8) (hm8 : MemAt w8 b' B' size f L) (hkm : Below w8.heap.size w8 Wm) {row : Option Nat} (hr : row = u14.ownBlock) {W' : World} (hW' : Below Wm.heap.size Wm W') (hgr : W'.grownBy w9 row) (hat : u14.ownBlock = some gg ∨ gg = W'.heap.size)
  (hc : c = .func (.func 52) #[] #[.pointer (some ⟨w.heap.size, 0, none⟩), .pointer (some ⟨ga, 0, none⟩), .pointer (some ⟨gb, 0, none⟩)]) :
  BSt w mp y w9 ∧ MemAt w9 b' B' size f L ∧ Clos (SS b B b' B' (.slice (some ⟨gg, 0, none⟩) (k + 1) gcap)) w9 w.heap.size (C ++ [c]) (D ++ [x]) ∧ wr.heap.size ≤ w9.heap.size := by
 subst hr
 have hn : ∀ g, u14.ownBlock = some g → N6 ≤ g ∧ g < wr.heap.size := fun g e => hrow.lt g e
 have b1 : Below w8.heap.size w8 W' := hkm.trans (hW'.mono hkm.size)
 have z8 := hk8.size
 have k9 : Keeps (fun j => u14.ownBlock = some j) w8 w9 := by
  refine ⟨hgr.os.trans b1.os, hgr.tape.trans b1.tape, hgr.output.trans b1.output, Nat.le_trans b1.size hgr.size, fun j hj hS => (hgr.block j (Nat.lt_of_lt_of_le hj b1.size) (fun e => hS e.symm)).trans (b1.block j hj)⟩
 have kk : Keeps (fun j => Two b' B' j ∨ u14.ownBlock = some j) wr w9 := (hk8.mono fun _ _ h => .inl h).trans (k9.mono fun _ _ h => .inr h)
 have hge : u14.ownBlock = some gg ∨ wr.heap.size ≤ gg := hat.imp id (fun e => by have := b1.size; omega)
 refine ⟨hS.kept kk ?_, hm8.kept k9 ?_ ?_, ?_, kk.size⟩
 ·rintro j hj ((rfl | rfl) | e)
  ·omega
  ·omega
  ·have := (hn j e).1; have := hb6 b' (.inl rfl); omega
 ·intro e; have := (hn b' e).1; have := hb6 b' (.inl rfl); omega
 ·intro e; have := (hn B' e).1; have := hb6 B' (.inr rfl); omega
 ·obtain ⟨v', hv'⟩ : ∃ z, z = Value.slice (some ⟨gg, 0, none⟩) (k + 1) gcap := ⟨_, rfl⟩
  have hvo : v'.ownBlock = some gg := by rw [hv']; rfl
  rw [← hv']
  have h1 : Clos (fun j => SS b B b' B' u14 j ∨ SS b B b' B' v' j) wr w.heap.size C D := hclo.weak (by
   rintro j hj (h | (h | h | h))
   ·exact h
   ·exact .inl h
   ·exact .inr (.inl h)
   ·rw [hvo] at h
    cases h
    rcases hge with e | e
    ·exact .inr (.inr e)
    ·omega)
  have h2 : Clos (fun j => SS b B b' B' u14 j ∨ SS b B b' B' v' j) w9 w.heap.size C D := h1.kept kk (by
   rintro j hj (h | h)
   ·exact .inl (.inr (.inl h))
   ·exact .inl (.inr (.inr h)))
  have hns : ∀ i, wo.heap.size ≤ i → i < wr.heap.size → ¬ SS b B b' B' v' i := by
   rintro i h0 h1 (h | h | h)
   ·have := hsl i (.inl h); omega
   ·have := hsl i (.inr (.inl h)); omega
   ·rw [hvo] at h
    cases h
    rcases hge with e | e
    ·have := hsl _ (.inr (.inr e)); omega
    ·omega
  have hnk : ∀ i, wo.heap.size ≤ i → i < wr.heap.size → ¬ (Two b' B' i ∨ u14.ownBlock = some i) := by
   rintro i h0 h1 (h | h)
   ·have := hsl i (.inr (.inl h)); omega
   ·have := hsl i (.inr (.inr h)); omega
  refine (h2.weak (fun j _ h => .inr h)).app ⟨ga, gb, ao, nc, hc, kk.cell y17 (hnk ga hgg.1 (by omega)), kk.cell y20 (hnk gb hgg.2.2.1 hgg.2.2.2), ⟨hsrc.small, fun h0 => ?_⟩, hns _ hgg.1 (by omega), hns _ hgg.2.2.1 hgg.2.2.2⟩
  obtain ⟨g, o, h1', h2', h3'⟩ := hsrc.at' h0
  have hgl := World.block_lt_of_cell? _ _ (h3' 0 h0)
  have hgl : g < wr.heap.size := hgl
  have hgw : wo.heap.size ≤ g := by have : ¬ g < gb := h2'; omega
  exact ⟨g, o, h1', hns _ hgw hgl, fun i hi => kk.cell (h3' i hi) (hnk _ hgw hgl)⟩
theorem own_form0 {W : World} {base : Nat} {e : TypeId} {v : Value} {n : Nat} {xs : List Value} (h : W.ownsRow base e 1 v n xs) : ∃ ao nc, v = .slice ao n nc ∧ ∀ i u, i < n → xs[i]? = some u → ∃ gg, ao = some ⟨gg, 0, none⟩ ∧ base ≤ gg ∧ W.cell? ⟨gg, i, none⟩ = some u := by
 have h2 := h.2
 rcases h2 with ⟨e, hn'⟩ | ⟨g', cap, cur, e, hg, h3⟩
 ·exact ⟨none, 0, by rw [e, hn'], fun i u hi => by omega⟩
 ·subst e
  exact ⟨_, cap, rfl, fun i u hi hu => ⟨g', rfl, hg, by rw [h.cellAt i (by omega)]; exact hu⟩⟩
theorem VArg.le257 {np nl : Nat} {p l : Nat → Int} {o N : Int} (h : VArg np nl p l o N) : np ≤ 257 := by
 have h1 := h.k
 have h2 := h.n0
 have h3 := h.n1
 have h4 := h.o0
 have h5 := h.o1
 have h6 := h.o4
 unfold pgs at h1
 (repeat' split at h1) <;> omega
section
variable (la pa : Option Addr) (nl np lc pc : Nat) (l p : Nat → Int) (o N : Int) (b B size : Nat) (f : Nat → Int) (L : List (Nat × Nat)) (w : World) (hM : MemAt w b B size f L) (hs : 0 < size) (hl : UAt w la nl l) (hp : UAt w pa np p) (hul : U64 nl l) (hup : U64 np p) (hnl : nl ≤ 1000000) (hnp : np ≤ 1000000)
  (ho0 : -9223372036854775808 ≤ o) (ho1 : o ≤ 9223372036854775807) (hN0 : -9223372036854775808 ≤ N) (hN1 : N ≤ 9223372036854775807)
include hM hs hl hp hul hup hnl hnp ho0 ho1 hN0 hN1
set_option maxRecDepth 100000 in
set_option maxHeartbeats 16000000 in
theorem bld_lists (hv : VArg np nl p l o N) (h : 3 ≤ np) (hpc : np ≤ pc) (hpc2 : pc ≤ 9223372036854775807) (hnl0 : 0 < nl) (hLL : L.length < 1000000) (hlm : ∀ a, la = some a → ¬ Two b B a.block) (K : Int) (hK : lstsP (l 0) np = K) (hKn : K ≤ (nl : Int)) (X : Except Int (List Itm)) (hX : planP l p np size 2 0 1 [] = X) :
  Calls Tryz.prog 20 #[.pointer (some ⟨b, 0, none⟩), .slice la nl lc, .slice pa np pc, .int .i64 o, .int .i64 N] w (GRes w b B size f L (p 0 + o) (l 0) X) := by
 have q0 : ((np : Int) == 0) = false := beq_eq_false_iff_ne.2 (by omega)
 have q1 : ((np : Int) == 1) = false := beq_eq_false_iff_ne.2 (by omega)
 have q2 : ((np : Int) == 2) = false := beq_eq_false_iff_ne.2 (by omega)
 have hpos : (0 : Int) < (np : Int) := by omega
 have HNL := Lib.hid hnl0
 have HK := Lib.hid hK
 have HKN := Lib.hid hKn
 have hpcI : (np : Int) ≤ (pc : Int) := by omega
 have hpcJ : (1 : Int) ≤ (np : Int) := by omega
 have hpcK : (pc : Int) ≤ 9223372036854775807 := by omega
 clear hK hKn hnl0
 have HM := Lib.hid hM
 obtain ⟨sz, hsz⟩ : ∃ z : Int, z = size := ⟨_, rfl⟩
 have dz : decide (0 < sz) = true := decide_eq_true (by omega)
 have HZ := Lib.hid hsz
 have HL := Lib.hid hl
 have HP := Lib.hid hp
 have HUP := Lib.hid hup
 have HUL := Lib.hid hul
 have HVL := Lib.hid (fun W (hb : Below w.heap.size w W) => valid_any la pa nl np lc pc l p o N W (hl.below hb) (hp.below hb) hul hup hnl hnp ho0 ho1 hN0 hN1)
 clear hM hs hsz hl hp hul hup
 have hmf : ∀ (fn : Fn) (first cap : Array Value) (w : World), (Instr.makeFunc fn first cap).run Tryz.prog w = .ok (.func fn first cap) w := fun _ _ _ _ => rfl
 go_enter_defers Tryz.func20, Tryz.ntmps20
 go_upto_region 2 with (fail)
 obtain ⟨W0, hW0⟩ : ∃ W0, W0 = (((w.alloc (.cells #[.pointer (some ⟨b, 0, none⟩)] 30)).alloc (.cells #[.int .u64 0] 24)).alloc (.cells #[.int .u64 0] 24)).alloc (.cells #[.int .i64 0] 38) := ⟨_, rfl⟩
 rw [← hW0]
 have S0 := Lib.hid (show BSt w (.pointer (some ⟨b, 0, none⟩)) 0 W0 by rw [hW0]; exact bst_start w _)
 clear hW0
 have c0 := S0.out.m
 go_upto_region 3 with (first
  | (go_at_call 19; refine (size_is b B size f L sz _ (HM.out.below S0.out.below) HZ.out).mono ?_; rintro e w' ⟨rfl, rfl⟩)
  | (go_at_call 46; (with_reducible refine (must1_ok' _ _ _ (by simp)).mono ?_); rintro e w' ⟨rfl, rfl⟩))
 have S1 := Lib.hid (S0.out.go ((Below.refl _ _).alloc (Nat.le_refl _) (.cells #[.bool true] 4)))
 obtain ⟨W1, hW1⟩ : ∃ z, z = W0.alloc (.cells #[.bool true] 4) := ⟨_, rfl⟩
 rw [← hW1] at S1 ⊢
 have HV1 := Lib.hid (HVL.out W1 S1.out.below)
 clear hW1 S0 HVL c0
 have HVA := Lib.hid hv
 clear hv
 have HV2 := Lib.hid (show Calls Tryz.prog 47 #[.slice la nl lc, .slice pa np pc, .int .i64 o, .int .i64 N] W1 fun e w' => e = .returned (.tuple #[]) ∧ Below W1.heap.size W1 w' from HV1.out.mono fun e w' h => by
  rcases h with ⟨⟨-, rfl⟩ | ⟨hno, -⟩, hb⟩
  ·exact ⟨rfl, hb⟩
  ·exact absurd HVA.out hno)
 clear HV1
 go_upto_region 4 with (go_at_call 47; refine HV2.out.mono ?_; rintro e w2 ⟨rfl, hb⟩; have S2 := Lib.hid (S1.out.go hb); clear hb)
 have s1 := S2.out.r1.cell (i := 0) (by omega)
 have f1 := S2.out.r1.frozen 0
 have s2 := S2.out.r2.cell (i := 0) (by omega)
 have f2 := S2.out.r2.frozen 0
 have s3 := S2.out.r3.cell (i := 0) (by omega)
 have f3 := S2.out.r3.frozen 0
 have ho0' := HVA.out.o0
 have ho1' := HVA.out.o1
 obtain ⟨g, oo, hpa, hc⟩ := HP.out (by omega)
 subst hpa
 have hg : g < w.heap.size := World.block_lt_of_cell? _ _ (hc 0 (by omega))
 have k0 := (S2.out.below.cell (p := ⟨g, oo + 0, none⟩) hg).trans (hc 0 (by omega))
 rw [Nat.add_zero] at k0
 have u0 := HUP.out 0 (by omega)
 have v0 := HVA.out.pg 0 (by omega)
 have HC := Lib.hid hc
 obtain ⟨p0, hp0⟩ : ∃ z, z = p 0 := ⟨_, rfl⟩
 rw [← hp0] at k0 u0 v0
 have HP0 := Lib.hid hp0
 have p00 := u0.1
 have p01 := u0.2
 have p0o : p0 + o ≤ 18446744073709551615 := by omega
 have V0 := Lib.hid v0
 clear hc hp0 v0 u0
 go_upto_region 12 with fail
 obtain ⟨W3, hW3⟩ : ∃ z, z = w2.setCell ⟨w.heap.size + 1, 0, none⟩ (.int .u64 (p0 + o)) := ⟨_, rfl⟩
 rw [← hW3]
 have S3 := Lib.hid (show BSt w (.pointer (some ⟨b, 0, none⟩)) (p0 + o) W3 by rw [hW3]; exact S2.out.set1 (p0 + o))
 have K3 := Lib.hid (show Keeps (One (w.heap.size + 1)) w2 W3 by rw [hW3]; exact (Keeps.refl _ _).set1 _ _)
 clear hW3 s1 f1 s2 f2 s3 f3 k0
 have hnn : 0 < nl := HNL.out
 have qn : decide (0 < (nl : Int)) = true := decide_eq_true (by omega)
 have qm : decide (0 < nl) = true := decide_eq_true (by omega)
 obtain ⟨gl, ol, hla, hcl⟩ := HL.out (by omega)
 subst hla
 have hgl : gl < w.heap.size := World.block_lt_of_cell? _ _ (hcl 0 (by omega))
 have l0 := (S3.out.below.cell (p := ⟨gl, ol + 0, none⟩) hgl).trans (hcl 0 (by omega))
 rw [Nat.add_zero] at l0
 have ul0 := (HUL.out 0 (by omega)).1
 have ul1 := (HUL.out 0 (by omega)).2
 have a80 := (HVA.out.ls 0 (by omega)).1
 obtain ⟨lv, hlv⟩ : ∃ z, z = l 0 := ⟨_, rfl⟩
 rw [← hlv] at l0 ul0 ul1 a80
 have HLV := Lib.hid hlv
 have HLS := Lib.hid (show lstsP lv np = K by rw [hlv]; exact HK.out)
 have A80 := Lib.hid a80
 have HCL := Lib.hid hcl
 have qk : decide (K ≤ (nl : Int)) = true := decide_eq_true HKN.out
 clear hcl hlv a80
 go_upto_region 13 with (first
  | (go_at_call 48; refine (lists_any lv np K _ ul0 ul1 (by omega) (by omega) HLS.out).mono ?_; rintro e w' ⟨rfl, rfl⟩)
  | (go_at_call 46; (with_reducible refine (must1_ok' _ _ _ (by first | rfl | simp)).mono ?_); rintro e w' ⟨rfl, rfl⟩))
 have M4 := Lib.hid ((HM.out.below S3.out.below).below ((Below.refl _ _).alloc (Nat.le_refl _) (.cells #[.bool true] 4)))
 have S4 := Lib.hid (S3.out.go ((Below.refl _ _).alloc (Nat.le_refl _) (.cells #[.bool true] 4)))
 obtain ⟨W4, hW4⟩ : ∃ z, z = W3.alloc (.cells #[.bool true] 4) := ⟨_, rfl⟩
 rw [← hW4] at M4 S4 ⊢
 have c4 := S4.out.m
 clear hW4 S3 l0
 go_upto_region 15 with (go_at_call 49; refine (copy_ok b B size f L _ M4.out).mono ?_; rintro e w5 ⟨b', B', rfl, hb1, hB1, hb, hm⟩; have S5 := Lib.hid (S4.out.go hb); have M5 := Lib.hid (M4.out.below hb); have O5 := Lib.hid hm; clear hb hm)
 go_region
 have HLL := Lib.hid hLL
 have HLM := Lib.hid (hlm _ rfl)
 clear hlm
 have HX := Lib.hid hX
 have HNP := Lib.hid h
 obtain ⟨W6, hW6⟩ : ∃ z, z = w5.drew := ⟨_, rfl⟩
 rw [← hW6]
 have S6 := Lib.hid (show BSt w (.pointer (some ⟨b, 0, none⟩)) (p0 + o) W6 by rw [hW6]; exact S5.out.go (Below.refl _ _).drew)
 have O6 := Lib.hid (show MemAt W6 b' B' size f L by rw [hW6]; exact O5.out.below (Below.refl _ _).drew)
 have HB6 := Lib.hid (show ∀ j, Two b' B' j → j < W6.heap.size from O6.out.lts)
 have hb46 : w.heap.size + 3 < b' := by have := S4.out.lt; omega
 have hB46 : w.heap.size + 3 < B' := by have := S4.out.lt; omega
 have HB46 := Lib.hid (And.intro hb46 hB46)
 have np257 := HVA.out.le257
 have HN257 := Lib.hid np257
 have HRU := Lib.hid (show ∀ W, Below w.heap.size w W → ∀ i, i < nl → W.cell? ⟨gl, ol + i, none⟩ = some (.int .u64 (l i)) from fun W hb i hi => (hb.cell (p := ⟨gl, ol + i, none⟩) hgl).trans (HCL.out i hi))
 have HRP := Lib.hid (show ∀ W, Below w.heap.size w W → ∀ i, i < np → W.cell? ⟨g, oo + i, none⟩ = some (.int .u64 (p i)) from fun W hb i hi => (hb.cell (p := ⟨g, oo + i, none⟩) hg).trans (HC.out i hi))
 clear hW6 S4 M4 S5 M5 O5 c4 hLL hX h HC HCL A80 ul0 ul1 hb46 hB46 np257 hb1 hB1 qm qn qk hpcJ hpos
 go_wp2_with fail
 go_loopw [14, 15, 16, 17, 18, 19, 20, 22, 23, 24] (fun v14 v15 v16 _ _ _ _ _ _ _ wr => ∃ (k s t : Nat) (D : List Itm) (C : List Value) (a : Option Addr), v15 = .int .i64 (k : Nat) ∧ v16 = .slice a (np - s) (pc - s) ∧ (s < np → a = some ⟨g, oo + s, none⟩) ∧ At l nl np k s ∧ k + t = 2 ∧ planP l p np size t k s D = X ∧ D.length = k ∧ (∀ x ∈ D, x.Fits size ∧ 0 ≤ x.a) ∧ BSt w (.pointer (some ⟨b, 0, none⟩)) (p0 + o) wr ∧ MemAt wr b' B' size (itF f D) (itL L D) ∧ wr.ownsRow W6.heap.size 1 1 v14 k C ∧ Clos (SS b B b' B' v14) wr w.heap.size C D ∧ W6.heap.size ≤ wr.heap.size) (fun _ v15 _ _ _ _ _ _ _ _ _ => 2 - (intOf v15).toNat)
 case atStart => exact ⟨0, 1, 2, [], [], _, rfl, rfl, fun _ => rfl, At.start (by have := HNP.out; omega), rfl, HX.out, rfl, fun x hx => by simp at hx, S6.out, O6.out, World.ownsRow_nil _ _ _ _, Clos.nil _ _ _, Nat.le_refl _⟩
 case round =>
  obtain ⟨wo, hwo⟩ : ∃ z, z = wr := ⟨_, rfl⟩
  subst hwo
  obtain ⟨k, s, t, D, C, a, rfl, rfl, ha, hA, hkt, hpl, hDl, hDf, hS, hO, hrow, hclo, hsz⟩ := hrel
  have HDF := Lib.hid hDf
  have HS := Lib.hid hS
  have HO := Lib.hid hO
  have HROW := Lib.hid hrow
  have HCLO := Lib.hid hclo
  clear S6 O6 hDf hS hO hrow hclo
  by_cases hsn : s < np
  ·obtain rfl := ha hsn
   have hkn := hA.kn hsn HNL.out
   have hk1 : k ≤ 1 := by have := hA.ex hsn; omega
   have HNX := Lib.hid (hA.next hsn HNL.out HN257.out (by rw [HK.out]; exact HKN.out) (fun h2 => by
    rcases (HVA.out.ls 1 (by omega)).2 with e | e
    ·cases e
    ·exact e))
   have HPL := Lib.hid (planP_go hA hkt hsn hpl)
   have hs1 := hA.s1
   have l6 := HRU.out wo HS.out.below k hkn
   have ul0 := (HUL.out k hkn).1
   have ul1 := (HUL.out k hkn).2
   obtain ⟨lv, hlv⟩ : ∃ z, z = l k := ⟨_, rfl⟩
   have HLK := Lib.hid hlv
   rw [← hlv] at l6 ul0 ul1
   obtain ⟨R, hR⟩ : ∃ z : Nat, z = (roomP lv).toNat := ⟨_, rfl⟩
   have rb := roomP_bd lv
   have HRM := Lib.hid (show roomP lv = (R : Int) by omega)
   have HRk := Lib.hid (show (roomP (l k)).toNat = R by rw [hR, hlv])
   have rb0 : 1 ≤ R := by omega
   have rb1 : R ≤ 512 := by omega
   have HAT := Lib.hid hA
   have HKT := Lib.hid hkt
   have HDL := Lib.hid hDl
   clear hlv rb hR hA hkt hpl hDl HNL ha
   obtain ⟨n1, hn1⟩ : ∃ z, z = np - s := ⟨_, rfl⟩
   obtain ⟨c1, hc1⟩ : ∃ z, z = pc - s := ⟨_, rfl⟩
   have hn1p : 0 < n1 := by omega
   have hn1c : n1 ≤ c1 := by omega
   have hc1m : c1 ≤ 9223372036854775807 := by omega
   have hn1m : n1 ≤ 1000000 := by omega
   have hn1I : (0 : Int) < (n1 : Int) := by omega
   rw [← hn1, ← hc1]
   have HN1 := Lib.hid hn1
   have HC1 := Lib.hid hc1
   have q16 : decide (0 < n1) = true := decide_eq_true hn1p
   have q16i : decide (0 < (n1 : Int)) = true := decide_eq_true hn1I
   clear hn1 hc1
   go_upto_region 18 with fail
   obtain ⟨cnt, hcnt⟩ : ∃ z : Nat, z = min n1 R := ⟨_, rfl⟩
   have hcm1 : cnt ≤ n1 := by omega
   have hcmR : cnt ≤ R := by omega
   have hc0 : 1 ≤ cnt := by omega
   have HCNT := Lib.hid hcnt
   go_cut [17, 18] from 83 to 94 (fun pa' v wc => ∃ ga, pa' = .pointer (some ⟨ga, 0, none⟩) ∧ v = .int .i64 (cnt : Nat) ∧ wo.heap.size ≤ ga ∧ wc.rowIs ga 24 1 (fun _ => .int .u64 lv) ∧ Below wo.heap.size wo wc)
   case first =>
    have hra : (wo.drew.alloc (.cells #[.int .u64 lv] 24)).rowIs wo.drew.heap.size 24 1 (fun _ => .int .u64 lv) := World.rowIs_alloc wo.drew #[.int .u64 lv] 24 _ (fun i hi => by simp at hi; subst hi; rfl)
    have HRA := Lib.hid hra
    have HBA := Lib.hid (show Below wo.heap.size wo (wo.drew.alloc (.cells #[.int .u64 lv] 24)) from (Below.refl _ wo).drew.alloc (Nat.le_refl _) _)
    clear hra
    go_region_held3 (fun w' => w'.cell? ⟨gl, ol + k, none⟩ = some (.int .u64 lv)) (go_keep) (first
     | (go_at_call 50; refine (room_any lv (R : Int) _ ul0 ul1 HRM.out).mono ?_; rintro e w' ⟨rfl, rfl⟩))
    all_goals
     go_wp2_with fail
     all_goals
      go_meet
      exact ⟨_, rfl, by (try simp only [Value.int.injEq, true_and]); omega, Nat.le_refl _, HRA.out, HBA.out⟩
   obtain ⟨ga, rfl, rfl, hga, hra, hba⟩ := hcut
   have HGA := Lib.hid hga
   have HRA := Lib.hid hra
   have HBA := Lib.hid hba
   have HS2 := Lib.hid (HS.out.go hba)
   have HO2 := Lib.hid (HO.out.below hba)
   have HROW2 := Lib.hid (HROW.out.kept (w' := wc) (row := none) ⟨hba.os, hba.tape, hba.output, hba.size, fun j hj _ => hba.block j hj⟩ (by cases u14.ownBlock <;> simp))
   have HCLO2 := Lib.hid (HCLO.out.kept (Keeps.of_below (S := fun _ => False) hba) (fun _ _ e => e.elim))
   have hs6 := hba.size
   clear hga hra hba l6 hcnt
   obtain ⟨wb, hwb⟩ : ∃ z, z = wc := ⟨_, rfl⟩
   subst hwb
   have l7 := HRU.out wb HS2.out.below k hkn
   go_upto_if 102 with fail
   go_cut [18, 19] from 102 to 117 (fun v18 v19 wd => ∃ (d : Nat) (al : Option Addr) (cl : Nat), v18 = .int .i64 (d : Nat) ∧ d ≤ n1 ∧ s + d = nxs l np k s ∧ v19 = .slice al (itm l p np k s).n cl ∧ UAt wd al (itm l p np k s).n (itm l p np k s).q ∧ Below wb.heap.size wb wd)
   case first =>
    by_cases hlt : n1 ≤ R
    ·have hcn : n1 = cnt := by have := HCNT.out; omega
     subst hcn
     have e1 := Lib.hid (show nxs l np k s = np by unfold nxs; rw [if_pos (by rw [HRk.out, ← HN1.out]; exact hlt)])
     have e2 := Lib.hid (show itm l p np k s = ⟨l k, fun e => p (s + e), np - s⟩ by unfold itm; rw [if_pos (by rw [HRk.out, ← HN1.out]; exact hlt)])
     have qq : decide ((n1 : Int) < (n1 : Int)) = false := decide_eq_false (by omega)
     clear hcm1 hcmR hc0
     go_wp2_with fail
     go_meet
     refine ⟨n1, _, _, rfl, Nat.le_refl _, by rw [e1.out]; have := HN1.out; omega, by rw [e2.out, HN1.out], fun _ => ⟨g, oo + s, rfl, fun i hi => ?_⟩, Below.refl _ _⟩
     rw [e2.out] at hi ⊢
     have hi : i < np - s := hi
     rw [show oo + s + i = oo + (s + i) by omega]
     exact HRP.out wb HS2.out.below (s + i) (by omega)
    ·have hcn : R = cnt := by have := HCNT.out; omega
     subst hcn
     have e0 : ¬ np - s ≤ (roomP (l k)).toNat := by rw [HRk.out, ← HN1.out]; exact hlt
     have hk2 := HNX.out.1 e0
     have e1 := Lib.hid (show nxs l np k s = s + R - 1 by unfold nxs; rw [if_neg e0, HRk.out])
     have e2 := Lib.hid (show itm l p np k s = ⟨l k, fun e => if e + 1 < R then p (s + e) else l (k + 1), R⟩ by unfold itm; rw [if_neg e0, HRk.out])
     have qq : decide ((R : Int) < (n1 : Int)) = true := decide_eq_true (by omega)
     have l8 := HRU.out wb HS2.out.below (k + 1) hk2
     obtain ⟨l2, hl2⟩ : ∃ z, z = l (k + 1) := ⟨_, rfl⟩
     have HL2 := Lib.hid hl2
     rw [← hl2] at l8
     obtain ⟨r, hr⟩ : ∃ z : Nat, R = z + 1 := ⟨R - 1, by omega⟩
     have hR1 : (R : Int) - 1 = (r : Int) := by omega
     have HR2 := Lib.hid hr
     have hr1 : r ≤ c1 := by omega
     have hr2 : r ≤ n1 := by omega
     have hr3 : r ≤ R := by omega
     clear hcm1 hcmR hc0 e0 hl2 hr
     have HLR := Lib.hid (show ∀ j u, (olds p s r)[j]? = some u → wb.cell? ((⟨g, oo + s, none⟩ : Addr).add j) = some u from fun j u hj => by
      have hj2 : j < r := by have := (List.getElem?_eq_some_iff.1 hj).1; simpa [olds] using this
      rw [olds_get p s r j hj2] at hj
      cases hj
      rw [Addr.add_mid, show oo + s + j = oo + (s + j) by omega]
      exact HRP.out wb HS2.out.below (s + j) (by have := HN1.out; omega))
     obtain ⟨i0, hi, hz0, hz1, hz2⟩ := info_parts infoU64
     have hwr : IntKind.i64.wrap (r : Int) = (r : Int) := IntWalk.i64_in _ (by omega)
     have hwx : max (r : Int) 0 = (r : Int) := by omega
     have hrR : (r : Int) ≤ (R : Int) := by omega
     have hwk : IntKind.i64.wrap ((k : Int) + 1) = ((k + 1 : Nat) : Int) := by rw [IntWalk.i64_in _ (by omega)]; omega
     have hknI : (k : Int) + 1 < (nl : Int) := by omega
     have hknJ : 0 ≤ (k : Int) + 1 := by omega
     go_upto_region 21 with fail
     refine wp_region_noPanic ?_
     go_region_law (first | (refine step_append_grows (by rfl) (.tmp 108) (.tmp 114) 29 (by rfl) 24 i0 _ 1 8 Tryz.underlying29 hi hz0 hz1 hz2 rfl (by decide) (some ⟨g, oo + s, none⟩) r r (olds p s r) (by rfl) (by simp) (by simp [olds]) (by intro b0 hb0 j u hj; cases hb0; exact cellx ((Below.refl wb.heap.size wb).drew.alloc (Nat.le_refl _) _) (HLR.out j u hj)) ⟨wb.heap.size, 0, none⟩ 1 1 [.int .u64 l2] (by rfl) (by rfl) (World.news_of_block (cs := #[.int .u64 l2]) (t := 24) (fr := (0, 0)) (heap_alloc_new wb.drew _)) (by simp [Value.oneCell']) (by omega) (by unfold maxLen; omega) (by omega) ?_; intro v' wd hown hgrow; obtain ⟨gg, gcap, rfl, hgg, hcells⟩ := own_form hown (by omega)))
     all_goals
      refine NoPanic.normal ?_
      have HBD := Lib.hid (show Below wb.heap.size wb wd from ((Below.refl wb.heap.size wb).drew.alloc (Nat.le_refl _) _).grown hgrow (by simp) (fun k e => by cases e))
      have HCE := Lib.hid hcells
      clear hcells hown hgrow l8 l7
      go_wp2_with fail
      go_meet
      refine ⟨r, some ⟨gg, 0, none⟩, gcap, by first | rfl | simp, hr2, by rw [e1.out]; have := HR2.out; omega, by rw [e2.out]; simp [HR2.out], fun _ => ⟨gg, 0, rfl, fun i hi => ?_⟩, HBD.out⟩
      rw [e2.out] at hi ⊢
      have hi : i < R := hi
      rw [Nat.zero_add]
      refine HCE.out i _ (by have := HR2.out; omega) ?_
      show (olds p s r ++ [.int .u64 l2])[i]? = some (.int .u64 (if i + 1 < R then p (s + i) else l (k + 1)))
      by_cases hir : i < r
      ·rw [List.getElem?_append_left (by rw [olds_length]; exact hir), olds_get p s r i hir, if_pos (by have := HR2.out; omega)]
      ·have hie : i = r := by have := HR2.out; omega
       rw [List.getElem?_append_right (by rw [olds_length]; omega), olds_length, hie, Nat.sub_self, if_neg (by have := HR2.out; omega), HL2.out]
       rfl
   obtain ⟨d, al, cl, rfl, hdn, hsd, rfl, hual, hbd⟩ := hcut
   obtain ⟨x, hx⟩ : ∃ z, z = itm l p np k s := ⟨_, rfl⟩
   have hxa : x.a = lv := by rw [hx, HLK.out]; unfold itm; split <;> rfl
   have hxn : x.n ≤ 1000000 := by rw [hx]; unfold itm; have := HRk.out; split <;> simp only [] <;> omega
   have hxq : ∀ i, i < x.n → 0 ≤ x.q i ∧ x.q i ≤ 18446744073709551615 := by
    rw [hx]
    unfold itm
    rw [HRk.out]
    split
    ·intro i hi
     have hi : i < np - s := hi
     exact HUP.out (s + i) (by omega)
    ·rename_i hc
     intro i hi
     have hi : i < R := hi
     show 0 ≤ (if i + 1 < R then p (s + i) else l (k + 1)) ∧ (if i + 1 < R then p (s + i) else l (k + 1)) ≤ 18446744073709551615
     split
     ·exact HUP.out (s + i) (by omega)
     ·exact HUL.out (k + 1) (HNX.out.1 (by rw [HRk.out]; exact hc))
   have HXX := Lib.hid hx
   have HXA := Lib.hid hxa
   have HXQ := Lib.hid hxq
   have HSD := Lib.hid hsd
   rw [← hx] at hual
   obtain ⟨m, hm⟩ : ∃ z, z = x.n := ⟨_, rfl⟩
   rw [← hx, ← hm]
   rw [← hm] at hual hxn
   have HXN := Lib.hid hm
   have HUALc := Lib.hid hual
   have hs7 := hbd.size
   obtain ⟨gb, hgb⟩ : ∃ z, z = wc.heap.size := ⟨_, rfl⟩
   have hb7 : Below wc.heap.size wc (wc.alloc (.cells #[.slice none 0 0] 31)) := (Below.refl _ _).alloc (Nat.le_refl _) _
   obtain ⟨W7, hW7⟩ : ∃ z, z = wc.alloc (.cells #[.slice none 0 0] 31) := ⟨_, rfl⟩
   have HWR7 := Lib.hid (show Wr (Lo gb) gb W7 [] by rw [hW7, hgb]; exact wr_start wc)
   rw [← hW7] at hb7
   have hb8 : Below wb.heap.size wb W7 := hbd.trans (hb7.mono hs7)
   have HS7 := Lib.hid (HS2.out.go hb8)
   have HO7 := Lib.hid (HO2.out.below hb8)
   have HROW7 := Lib.hid (HROW2.out.kept (w' := W7) (row := none) ⟨hb8.os, hb8.tape, hb8.output, hb8.size, fun j hj _ => hb8.block j hj⟩ (by cases u14.ownBlock <;> simp))
   have HCLO7 := Lib.hid (HCLO2.out.kept (Keeps.of_below (S := fun _ => False) hb8) (fun _ _ e => e.elim))
   have HRA7 := Lib.hid ((Keeps.of_below (S := fun _ => False) hb8).rowIs HRA.out (fun e => e))
   have HGA7 := Lib.hid (show ga < gb by have := HRA.out.lt; omega)
   have HGB := Lib.hid (show wb.heap.size ≤ gb by omega)
   have HUAL := Lib.hid (show ∀ W, Below gb W7 W → 0 < m → ∃ g o, al = some ⟨g, o, none⟩ ∧ ∀ i, i < m → W.cell? ⟨g, o + i, none⟩ = some (.int .u64 (x.q i)) from fun W hb h0 => by
    obtain ⟨g', o', e, hc⟩ := HUALc.out h0
    refine ⟨g', o', e, fun i hi => ?_⟩
    have h1 := World.block_lt_of_cell? _ _ (hc i hi)
    exact ((hb.cell (p := ⟨g', o' + i, none⟩) (by rw [hgb]; exact h1)).trans (hb7.cell (p := ⟨g', o' + i, none⟩) h1)).trans (hc i hi))
   have hd0 : (d : Int) ≤ (n1 : Int) := by omega
   have hd1 : (d : Int) ≤ (c1 : Int) := by omega
   have hdc : d ≤ c1 := by omega
   have HB8 := Lib.hid hb8
   clear HS2 HO2 HROW2 HCLO2 HRA HS7 HO7 HROW7 HCLO7 hx hxa hxq hsd hm hual hb7 hb8 hbd HUALc
   obtain ⟨a16, h16⟩ : ∃ a16 : Option Addr, (nxs l np k s < np → a16 = some ⟨g, oo + nxs l np k s, none⟩) ∧ a16 = (if c1 = d then some ⟨g, oo + s, none⟩ else some ⟨g, oo + s + d, none⟩) := ⟨_, fun hc => by
    have := HSD.out
    have := HC1.out
    rw [if_neg (by omega), show oo + s + d = oo + nxs l np k s by omega], rfl⟩
   obtain ⟨h16a, h16b⟩ := h16
   have H16a := Lib.hid h16a
   have H16b := Lib.hid h16b
   clear h16a h16b
   go_upto_region 23 with fail
   go_cut [16] from 118 to 120 (fun v16 wd => v16 = .slice a16 (n1 - d) (c1 - d) ∧ wd = wc)
   case first =>
    by_cases hcd : c1 = d
    ·have e16 : a16 = some ⟨g, oo + s, none⟩ := by rw [H16b.out, if_pos hcd]
     have HE16 := Lib.hid e16
     clear e16
     subst hcd
     go_wp2_with fail
     all_goals
      go_meet
      exact ⟨by rw [HE16.out]; simp; omega, rfl⟩
    ·have e16 : a16 = some ⟨g, oo + s + d, none⟩ := by rw [H16b.out, if_neg hcd]
     have HE16 := Lib.hid e16
     have hcd2 : ¬ d = c1 := fun e => hcd e.symm
     clear e16
     go_wp2_with fail
     all_goals
      go_meet
      exact ⟨by rw [HE16.out], rfl⟩
   obtain ⟨rfl, rfl⟩ := hcut
   go_upto_region 25 with fail
   rw [← hW7, ← hgb]
   clear hW7 hgb
   go_wp2_with fail
   go_loopw [22, 23, 123] (fun _ _ i wi => ∃ j : Nat, j ≤ m ∧ i = .int .i64 (j : Nat) ∧ Below gb W7 wi ∧ Wr (Lo gb) gb wi (flq x.q j)) (fun _ _ i _ => m - (intOf i).toNat)
   case atStart => exact ⟨0, Nat.zero_le _, rfl, Below.refl _ _, HWR7.out⟩
   case round =>
    obtain ⟨j, hj, rfl, hbi, hwr⟩ := hrel
    have HBI := Lib.hid hbi
    have HWR := Lib.hid hwr
    clear hbi hwr
    by_cases hjm : j < m
    ·obtain ⟨xg, xo, rfl, hxc⟩ := HUAL.out wr HBI.out (by omega)
     have x0 := hxc j hjm
     have hq := HXQ.out j (by rw [← HXN.out]; exact hjm)
     obtain ⟨qv, hqv⟩ : ∃ z, z = x.q j := ⟨_, rfl⟩
     rw [← hqv] at x0 hq
     have HNX2 := Lib.hid (show flq x.q (j + 1) = flq x.q j ++ bytesL qv 8 by rw [hqv]; rfl)
     have hyl := flq_length x.q j
     obtain ⟨ys, hys⟩ : ∃ ys, ys = flq x.q j := ⟨_, rfl⟩
     rw [← hys] at HNX2 HWR hyl
     obtain ⟨E, hE⟩ : ∃ z, z = eA qv := ⟨_, rfl⟩
     have HEN := Lib.hid (show Calls Tryz.prog 51 #[.int .u64 qv] wr fun e w' => e = .returned (.agg E) ∧ Below wr.heap.size wr w' by rw [hE]; exact encoded_any qv wr hq.1 hq.2)
     have S8 := Lib.hid (show (Tryz.prog.info? 109).map (·.size) = some E.size by rw [hE, eA_size]; exact size8)
     have O8 := Lib.hid (show E.all (·.oneCell') = true by rw [hE]; unfold eA; simpa [List.all_eq_true] using bytesL_one qv 8)
     have HE8 := Lib.hid (show E.size = 8 by rw [hE]; exact eA_size qv)
     have HE := Lib.hid hE
     clear hxc hqv hys hE hq
     have hjI : (j : Int) < (m : Int) := by omega
     go_upto_region 28 with fail
     go_upto_region 29 with (first
      | (go_at_call 51; refine HEN.out.mono ?_; rintro e w4 ⟨rfl, hb4⟩; have HB4 := Lib.hid hb4; clear hb4)
      | ((with_reducible show wpList _ _ _ (⟨some 23, _, _, _, _, _⟩ :: _) _ _); refine wpList_alloc rfl 109 rfl zero8 ?_; rw [show (Value.agg z8).cells = z8 from rfl]; have A4 := Lib.hid (ArrAt.of_block (A := z8) (by decide) (heap_alloc_new w4 (.cells z8 109))); go_loud (refine wpList_storeA rfl (b := w4.heap.size) (A := z8) (A' := E) A4.out 109 (.tmp 23) (.tmp 128) rfl (by first | rfl | simp [Act.eval, Act.put]) (by first | rfl | simp [Act.eval, Act.put]) size8 (by rw [HE8.out]; rfl) O8.out ?_)))
     have A5 := Lib.hid (A4.out.store E (by rw [HE8.out]; rfl))
     have B5 := Lib.hid (bstore (show Below wr.heap.size wr (w4.alloc (.cells z8 109)) from HB4.out.trans ((Below.refl _ _).alloc HB4.out.size _)) w4.heap.size HB4.out.size E.toList 0)
     obtain ⟨W5, hW5⟩ : ∃ z, z = (w4.alloc (.cells z8 109)).setCells w4.heap.size 0 E.toList := ⟨_, rfl⟩
     obtain ⟨eb, heb⟩ : ∃ z, z = w4.heap.size := ⟨_, rfl⟩
     rw [← hW5] at A5 B5 ⊢
     rw [← heb] at A5 ⊢
     have H8 := Lib.hid (show ∀ j u, (bytesL qv 8)[j]? = some u → W5.cell? ((⟨eb, 0, none⟩ : Addr).add j) = some u from fun j u hj => by
      rw [Addr.add_mid]
      exact A5.out.cell (by rw [HE.out]; simpa [eA] using hj))
     have HW5 := Lib.hid (HWR.out.below B5.out)
     have HW6 := Lib.hid (HWR.out.below B5.out.drew)
     obtain ⟨ao, nc, y0, o0, p0'⟩ := HW6.out.form
     have y5 : W5.cell? ⟨gb, 0, none⟩ = some (.slice ao ys.length nc) := y0
     have z5 : W5.frozen? ⟨gb, 0, none⟩ = false := HW5.out.fr
     have HO5 := Lib.hid o0
     have HP5 := Lib.hid p0'
     have HY5 := Lib.hid y0
     have hgl5 := HW5.out.glt
     have HYL := Lib.hid hyl
     clear hyl
     obtain ⟨i0, hi, hz0, hz1, hz2⟩ := info_parts infoU8
     clear hW5 heb y0 o0 p0' x0
     refine wp_region_noPanic ?_
     go_region_law (first | (refine step_append_lies _ (by rfl) _ _ _ (by rfl) (gb + 1) 5 i0 _ 1 1 Tryz.underlying31 hi hz0 hz1 hz2 rfl (by decide) (.slice ao ys.length nc) ys.length ys (by rfl) HO5.out ⟨eb, 0, none⟩ 8 8 (bytesL qv 8) (by rfl) (by rw [bytesL_length]) H8.out (bytesL_one qv 8) (by decide) (by have := HYL.out; unfold maxLen; omega) (by have := HYL.out; omega) (show gb + 1 ≤ W5.heap.size by omega) W5.heap.size rfl ?_; intro gg cap w6 hown hgr hat hlt; obtain ⟨x5, y5', k5, r5⟩ := wr_mid HW6.out HY5.out HO5.out HP5.out (bytesL_length qv 8) hown hgr hat; have HK5 := Lib.hid k5; have HR5 := Lib.hid r5; clear k5 r5 hown hgr hat))
     all_goals
      refine NoPanic.normal ?_
      go_wp2_with fail
      go_roundw
      case rel => exact ⟨j + 1, by omega, by go_num, HBI.out.trans ((B5.out.drew.mono (by have := HWR.out.glt; omega)).trans (HK5.out.below (show gb ≤ W5.heap.size by omega) (fun j hj e => e hj))), by rw [HNX2.out]; exact HR5.out⟩
      case measure => simp [intOf]; omega
    ·have hje : j = m := by omega
     subst hje
     have hbW : Below wo.heap.size wo wr := HBA.out.trans ((HB8.out.trans (HBI.out.mono HGB.out)).mono hs6)
     have hsl : ∀ i, SS b B b' B' u14 i → i < wo.heap.size := by
      rintro i (h | h | h)
      ·have := HM.out.lts i h; have := HS.out.lt; omega
      ·exact HO.out.lts i h
      ·exact (HROW.out.lt i h).2
     have HSL := Lib.hid hsl
     have HS8 := Lib.hid (HS.out.go hbW)
     have HO8 := Lib.hid (HO.out.below hbW)
     have HROW8 := Lib.hid (own_kept HROW.out (Keeps.of_below (S := fun _ => False) hbW) (fun _ _ e => e))
     have HCLO8 := Lib.hid (HCLO.out.kept (Keeps.of_below (S := fun _ => False) hbW) (fun _ _ e => e.elim))
     have y17 := (HBI.out.cell (p := ⟨ga, 0, none⟩) HGA7.out).trans (HRA7.out.cell (i := 0) (by omega))
     obtain ⟨ao, nc, y20, hsrc⟩ := HWR.out.src (S := fun i => i < gb) hxn (fun i h => h)
     obtain ⟨j8, hj8⟩ : ∃ z, z = 8 * j := ⟨_, rfl⟩
     rw [← hj8] at y20 hsrc
     have HY20 := Lib.hid y20
     have HSRC := Lib.hid hsrc
     have HJ8 := Lib.hid hj8
     have HGG := Lib.hid (show wo.heap.size ≤ ga ∧ ga < gb ∧ wo.heap.size ≤ gb ∧ gb < wr.heap.size from ⟨HGA.out, HGA7.out, by have := HGB.out; omega, HWR.out.glt⟩)
     have hfa : 0 ≤ x.a := by rw [HXA.out]; exact ul0
     have HFA := Lib.hid hfa
     have y13 := HS8.out.m
     clear hbW hsl hsrc hj8 hfa
     by_cases hfit : x.Fits size
     ·have HFIT := Lib.hid hfit
      have HWK := Lib.hid (write_ok' b' B' size (itF f D) (itL L D) x.a.toNat j8 nc ao (wB x.q) lv wr HO8.out (by have := itL_len D L; have := HLL.out; have := HDL.out; omega) (by have := HXN.out; have := HJ8.out; have := HFA.out; unfold Itm.Fits at hfit; omega) (HSRC.out.weak (fun i h => by have := HSL.out i (.inr (.inl h)); have := HGG.out; omega)) (by rw [← HXA.out]; have := HFA.out; omega))
      clear hfit
      go_upto_region 33 with (first
       | (go_at_call 11; refine HWK.out.mono ?_; rintro e w8 ⟨rfl, hk8, hm8⟩; have HK8 := Lib.hid hk8; have HM8 := Lib.hid hm8; clear hk8 hm8)
       | (go_at_call 46; (with_reducible refine (must1_ok' _ _ _ (by first | rfl | simp)).mono ?_); rintro e w' ⟨rfl, rfl⟩))
      obtain ⟨Wm, hWm⟩ : ∃ z, z = w8.alloc (.cells #[.bool true] 4) := ⟨_, rfl⟩
      rw [← hWm]
      have HBM := Lib.hid (show Below w8.heap.size w8 Wm by rw [hWm]; exact (Below.refl _ _).alloc (Nat.le_refl _) _)
      have HROWm := Lib.hid (own_kept HROW8.out (HK8.out.trans ((Keeps.of_below (S := Two b' B') HBM.out))) (fun g e h => by have := (HROW8.out.lt g e).1; have := HB6.out g h; omega))
      have hW6m : W6.heap.size ≤ Wm.heap.size := by have := HK8.out.size; have := HBM.out.size; have := HGG.out; omega
      obtain ⟨i1, hi1, hy0, hy1, hy2⟩ := info_parts infoFn
      clear hWm y17 y20 y13
      go_wp2_with (at_builtin; refine wpList_append_lies _ rfl _ _ 107 rfl W6.heap.size 1 i1 .nilFunc 1 8 Tryz.underlying107 hi1 hy0 hy1 hy2 rfl (by decide) u14 k C (by rfl) (HROWm.out.alloc _) ⟨Wm.heap.size, 0, none⟩ 1 1 [.func (.func 52) #[] #[.pointer (some ⟨w.heap.size, 0, none⟩), .pointer (some ⟨ga, 0, none⟩), .pointer (some ⟨gb, 0, none⟩)]] (by rfl) (by rfl) (World.news_of_block (cs := #[.func (.func 52) #[] #[.pointer (some ⟨w.heap.size, 0, none⟩), .pointer (some ⟨ga, 0, none⟩), .pointer (some ⟨gb, 0, none⟩)]]) (t := 1) (fr := (0, 0)) (heap_alloc_new Wm _)) (by simp [Value.oneCell']) (by decide) (by unfold maxLen; omega) (by omega) (by simp; omega) _ rfl ?_; intro gg gcap w9 hown hgr hat hlt)
      have HOWN := Lib.hid hown
      have hy17 : wr.cell? ⟨ga, 0, none⟩ = some (.int .u64 x.a) := by rw [HXA.out]; exact (HBI.out.cell (p := ⟨ga, 0, none⟩) HGA7.out).trans (HRA7.out.cell (i := 0) (by omega))
      have hj8x : j8 = 8 * x.n := by rw [HJ8.out, HXN.out]
      have HST := Lib.hid (lists_step (gcap := gcap) (x := x) HS8.out HROW8.out HCLO8.out HSL.out HGG.out HB46.out HB6.out hy17 (by rw [← hj8x]; exact HY20.out) (by rw [← hj8x]; exact HSRC.out) HK8.out HM8.out HBM.out rfl ((Below.refl _ _).alloc (Nat.le_refl _) _) hgr hat rfl)
      clear hown hgr hat hy17 hj8x
      go_wp2_with fail
      go_roundw
      case rel =>
       obtain ⟨t', ht', hpl'⟩ := HPL.out.1 (by rw [← HXX.out]; exact HFIT.out)
       obtain ⟨r1, r2, r3, r4⟩ := HST.out
       rw [← HXX.out] at hpl'
       refine ⟨k + 1, nxs l np k s, t', D ++ [x], _, a16, by go_num, ?_, H16a.out, HNX.out.2, ht', hpl', by rw [List.length_append, HDL.out]; rfl, fun z hz => ?_, r1, ?_, HOWN.out, r3, by have := HGG.out; omega⟩
       ·rw [show n1 - d = np - nxs l np k s by have := HN1.out; have := HSD.out; omega, show c1 - d = pc - nxs l np k s by have := HC1.out; have := HSD.out; omega]
       ·rcases List.mem_append.1 hz with h | h
        ·exact HDF.out z h
        ·rw [List.mem_singleton] at h
         subst h
         exact ⟨HFIT.out, HFA.out⟩
       ·rw [itF_app, itL_app]
        have e1 : x.a.toNat = x.a.toNat := rfl
        have := r2
        rw [HJ8.out, HXN.out] at this
        exact this
      case measure => simp [intOf]; omega
     ·have HNF := Lib.hid hfit
      have HWE := Lib.hid (write_err' b' B' size (itF f D) (itL L D) x.a.toNat j8 nc ao lv wr HO8.out (by rw [HXA.out]; omega) (by have := HJ8.out; omega) (by have := HXN.out; have := HJ8.out; have := HFA.out; unfold Itm.Fits at hfit; omega) (by rw [← HXA.out]; have := HFA.out; omega))
      clear hfit
      go_wp2_with (first
       | (go_at_call 11; refine HWE.out.mono ?_; rintro e w8 ⟨rfl, hb8'⟩; have HB8' := Lib.hid hb8'; clear hb8')
       | (go_at_call 46; (with_reducible refine (must1_bad' _ _ _ (by first | rfl | simp)).mono ?_); rintro e w' ⟨rfl, rfl⟩))
      refine bl_bad ((HS8.out.go HB8'.out).go ((Below.refl _ _).alloc (Nat.le_refl _) _)) rfl rfl rfl fun w' k => .inr ⟨HPL.out.2 (by rw [← HXX.out]; exact HNF.out), rfl, ?_⟩
      exact ((HS8.out.go HB8'.out).go ((Below.refl _ _).alloc (Nat.le_refl _) _)).below.trans (k.below (B := w.heap.size) ((HS8.out.go HB8'.out).go ((Below.refl _ _).alloc (Nat.le_refl _) _)).below.size (fun j hj e => by omega))
  ·have HXD := Lib.hid (hA.fin hsn hpl)
   have HDL := Lib.hid hDl
   obtain ⟨n1, hn1⟩ : ∃ z, z = np - s := ⟨_, rfl⟩
   rw [← hn1]
   have q16 : decide (0 < n1) = false := decide_eq_false (by omega)
   have q16i : decide (0 < (n1 : Int)) = false := decide_eq_false (by omega)
   obtain ⟨ao, nc, hao, hcc⟩ := own_form0 HROW.out
   have HCC := Lib.hid hcc
   subst hao
   have hk2 := hA.k2
   clear hA hkt hpl hDl hcc ha hn1 HNL
   go_wp2_with fail
   go_loopw [26, 148] (fun _ i wi => ∃ j : Nat, j ≤ k ∧ i = .int .i64 (j : Nat) ∧ Keeps (Two b B) wo wi ∧ MemAt wi b B size (itF f (D.take j)) (itL L (D.take j))) (fun _ i _ => k - (intOf i).toNat)
   case atStart => exact ⟨0, Nat.zero_le _, rfl, Keeps.refl _ _, HM.out.below HS.out.below⟩
   case round =>
    obtain ⟨j, hj, rfl, hkj, hmj⟩ := hrel
    have HKJ := Lib.hid hkj
    have HMJ := Lib.hid hmj
    have hlb : ∀ i, Two b B i → i < w.heap.size := HM.out.lts
    have HLB := Lib.hid hlb
    have hbw : w.heap.size + 3 < W6.heap.size := by have := HB46.out; have := HB6.out b' (.inl rfl); omega
    clear hkj hmj hlb
    by_cases hjk : j < k
    ·obtain ⟨x, hx⟩ : ∃ x, D[j]? = some x := ⟨D[j]'(by rw [HDL.out]; exact hjk), List.getElem?_eq_getElem _⟩
     obtain ⟨c, hc⟩ : ∃ c, C[j]? = some c := ⟨C[j]'(by rw [HCLO.out.1, HDL.out]; exact hjk), List.getElem?_eq_getElem _⟩
     obtain ⟨ga, gb, ao', nc', rfl, c1, c2, c3, c4, c5⟩ := (HCLO.out.2 j c x hc hx).ex
     obtain ⟨gg, rfl, hg6, c6⟩ := HCC.out j _ hjk hc
     have y6 := HKJ.out.cell c6 (fun e => by have := HLB.out gg e; omega)
     have ym := HKJ.out.cell HS.out.m (fun e => by have := HLB.out w.heap.size e; omega)
     have hxm : x ∈ D := List.mem_of_getElem? hx
     have HCL2 := Lib.hid (clo_call (Two b B) wr w.heap.size ga gb b B size (itF f (D.take j)) (itL L (D.take j)) ao' nc' x ym (HKJ.out.cell c1 (fun e => c4 (.inl e))) (HKJ.out.cell c2 (fun e => c5 (.inl e))) ((c3.weak (fun i h => .inl h)).kept HKJ.out (fun _ h => h)) (fun _ h => h) HMJ.out (by have := itL_len (D.take j) L; have := HLL.out; have := List.length_take_le j D; omega) (HDF.out x hxm).2 (HDF.out x hxm).1)
     have HTK := Lib.hid (show D.take (j + 1) = D.take j ++ [x] by rw [List.take_add_one, hx]; rfl)
     clear c1 c2 c3 c4 c5 c6 ym hx hc hxm
     go_wp2_with (go_at_call 52; refine HCL2.out.mono ?_; rintro e w9 ⟨rfl, hk9, hm9⟩; have HK9 := Lib.hid hk9; have HM9 := Lib.hid hm9; clear hk9 hm9)
     go_roundw
     case rel => exact ⟨j + 1, by omega, by go_num, HKJ.out.trans HK9.out, by rw [HTK.out, itF_app, itL_app]; exact HM9.out⟩
     case measure => simp [intOf]; omega
    ·have hje : j = k := by omega
     subst hje
     have r1 := HKJ.out.rowIs HS.out.r1 (fun e => by have := HLB.out _ e; omega)
     have r2 := HKJ.out.rowIs HS.out.r2 (fun e => by have := HLB.out _ e; omega)
     have r3 := HKJ.out.rowIs HS.out.r3 (fun e => by have := HLB.out _ e; omega)
     have s1 := r1.cell (i := 0) (by omega)
     have f1 := r1.frozen 0
     have s2 := r2.cell (i := 0) (by omega)
     have f2 := r2.frozen 0
     have s3 := r3.cell (i := 0) (by omega)
     have f3 := r3.frozen 0
     have k1 := HKJ.out.cell (HRU.out wo HS.out.below 0 hnn) HLM.out
     rw [Nat.add_zero] at k1
     have HTK := Lib.hid (show D.take j = D by rw [← HDL.out]; exact List.take_length)
     clear r1 r2 r3
     go_wp2_with fail
     go_region
     all_goals
      go_wp2_with fail
      refine bl_good _ _ _ _ _ (.int .u64 (p0 + o)) (.int .u64 (l 0)) (.int .i64 0) _ rfl rfl rfl (by go_simp) (by go_simp) (by go_simp) (.inl ⟨D, HXD.out, by rw [HP0.out], ?_, ?_⟩)
      ·have k0 : Keeps (Two b B) w wr := (Keeps.of_below HS.out.below).trans HKJ.out
       repeat (first | exact k0 | refine Keeps.setCell ?_ (fun e => absurd e (by simp only []; omega)) _ | refine Keeps.drew ?_)
      ·have hm := HMJ.out
       rw [HTK.out] at hm
       refine hm.kept (S := fun i => w.heap.size ≤ i) ?_ (fun e => by have := HLB.out b (.inl rfl); omega) (fun e => by have := HLB.out B (.inr rfl); omega)
       repeat (first | exact Keeps.refl _ _ | refine Keeps.setCell ?_ (fun _ => by simp only []; omega) _ | refine Keeps.drew ?_)
end
end Go.Proofs.YtfmabknhfehdcaaGreat
