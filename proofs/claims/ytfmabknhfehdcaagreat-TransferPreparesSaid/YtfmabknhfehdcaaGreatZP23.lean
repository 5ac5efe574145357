/- prp: Build: what the loop over the lists holds: the plan, the writer of bytes, the functions kept. -/
import Derived.Test.YtfmabknhfehdcaaGreatZP22
namespace Go.Proofs.YtfmabknhfehdcaaGreat
set_option linter.unusedSimpArgs false
set_option linter.unusedVariables false
open Go.RowKit
/-- the blocks ahead of g -/
def Lo (g : Nat) : Nat → Prop := fun j => j < g
theorem wr_start (w : World) : Wr (Lo w.heap.size) w.heap.size (w.alloc (.cells #[.slice none 0 0] 31)) [] :=
 ⟨⟨.slice none 0 0, by go_simp, World.ownsRow_nil _ _ _ _, fun k _ e => by cases e⟩, by go_simp, fun e => by have : w.heap.size < w.heap.size := e; omega, fun k hk => by have : k < w.heap.size := hk; simp; omega⟩
/-- the bytes of n words -/
def flq (q : Nat → Int) : Nat → List Value
 | 0 => []
 | n + 1 => flq q n ++ bytesL (q n) 8
theorem flq_length (q : Nat → Int) : ∀ n, (flq q n).length = 8 * n
 | 0 => rfl
 | n + 1 => by rw [flq, List.length_append, flq_length q n, bytesL_length]; omega
theorem flq_get (q : Nat → Int) : ∀ n j, j < 8 * n → (flq q n)[j]? = some (.int .u8 (wB q j))
 | 0, j, h => by omega
 | n + 1, j, h => by
  unfold flq
  rcases Nat.lt_or_ge j (8 * n) with c | c
  ·rw [List.getElem?_append_left (by rw [flq_length]; omega)]
   exact flq_get q n j c
  ·rw [List.getElem?_append_right (by rw [flq_length]; omega), flq_length, bytesL_get _ 8 _ (by omega)]
   unfold wB
   rw [show j / 8 = n by omega, show j % 8 = j - 8 * n by omega]
theorem Wr.src {g n : Nat} {W : World} {q : Nat → Int} {S : Nat → Prop} (h : Wr (Lo g) g W (flq q n)) (hn : n ≤ 1000000) (hS : ∀ j, S j → j < g) :
  ∃ ao nc, W.cell? ⟨g, 0, none⟩ = some (.slice ao (8 * n) nc) ∧ Src S W ao (8 * n) (wB q) := by
 obtain ⟨ao, nc, hc, ho, -⟩ := h.form
 rw [flq_length] at hc ho
 refine ⟨ao, nc, hc, ⟨by omega, fun h0 => ?_⟩⟩
 obtain ⟨-, h2⟩ := ho
 rcases h2 with ⟨e, hn'⟩ | ⟨g', cap, cur, e, hg, hh, h4, h5, h6, h7⟩
 ·omega
 ·cases e
  refine ⟨g', 0, rfl, fun e => by have := hS _ e; omega, fun i hi => ?_⟩
  rw [Nat.zero_add]
  have ho2 : W.ownsRow (g + 1) 5 1 (.slice (some ⟨g', 0, none⟩) (8 * n) nc) (8 * n) (flq q n) := ⟨by rw [flq_length]; omega, .inr ⟨g', nc, cur, rfl, hg, hh, h4, h5, h6, h7⟩⟩
  rw [ho2.cellAt i (by omega), flq_get q n i hi]
/-- a list: where it lies, its words, their number -/
structure Itm where
 a : Int
 q : Nat → Int
 n : Nat
/-- it can be written -/
def Itm.Fits (size : Nat) (x : Itm) : Prop := x.a + 8 * (x.n : Int) ≤ size
instance (size : Nat) (x : Itm) : Decidable (x.Fits size) := by unfold Itm.Fits; infer_instance
def itF (f : Nat → Int) : List Itm → Nat → Int
 | [] => f
 | x :: D => itF (upd f x.a.toNat (8 * x.n) (wB x.q)) D
def itL (L : List (Nat × Nat)) : List Itm → List (Nat × Nat)
 | [] => L
 | x :: D => itL (logged L x.a.toNat (8 * x.n)) D
theorem itF_app (x : Itm) : ∀ (D : List Itm) (f : Nat → Int), itF f (D ++ [x]) = upd (itF f D) x.a.toNat (8 * x.n) (wB x.q)
 | [], _ => rfl
 | y :: D, f => by show itF _ (D ++ [x]) = _; rw [itF_app x D]; rfl
theorem itL_app (x : Itm) : ∀ (D : List Itm) (L : List (Nat × Nat)), itL L (D ++ [x]) = logged (itL L D) x.a.toNat (8 * x.n)
 | [], _ => rfl
 | y :: D, L => by show itL _ (D ++ [x]) = _; rw [itL_app x D]; rfl
theorem logged_len (L : List (Nat × Nat)) (a n : Nat) : (logged L a n).length ≤ L.length + 1 := by unfold logged; split <;> simp
theorem itL_len : ∀ (D : List Itm) (L : List (Nat × Nat)), (itL L D).length ≤ L.length + D.length
 | [], L => by simp [itL]
 | x :: D, L => by have := itL_len D (logged L x.a.toNat (8 * x.n)); have := logged_len L x.a.toNat (8 * x.n); simp only [itL, List.length_cons]; omega
/-- the list number k, from the page s on -/
def itm (l p : Nat → Int) (np k s : Nat) : Itm :=
 if np - s ≤ (roomP (l k)).toNat then ⟨l k, fun e => p (s + e), np - s⟩ else ⟨l k, fun e => if e + 1 < (roomP (l k)).toNat then p (s + e) else l (k + 1), (roomP (l k)).toNat⟩
/-- the page behind it -/
def nxs (l : Nat → Int) (np k s : Nat) : Nat := if np - s ≤ (roomP (l k)).toNat then np else s + (roomP (l k)).toNat - 1
/-- all lists, or the error -/
def planP (l p : Nat → Int) (np size : Nat) : Nat → Nat → Nat → List Itm → Except Int (List Itm)
 | 0, _, _, D => .ok D
 | t + 1, k, s, D => if np ≤ s then .ok D else if (itm l p np k s).Fits size then planP l p np size t (k + 1) (nxs l np k s) (D ++ [itm l p np k s]) else .error 3
theorem planP_end {l p : Nat → Int} {np size t k s : Nat} {D : List Itm} (h : np ≤ s) : planP l p np size t k s D = .ok D := by
 cases t with
 | zero => rfl
 | succ t => unfold planP; rw [if_pos h]
/-- what holds at the head of the loop -/
structure At (l : Nat → Int) (nl np k s : Nat) : Prop where
 s1 : 1 ≤ s
 sn : s ≤ np
 k2 : k ≤ 2
 ex : s < np → (k = 0 ∧ s = 1) ∨ (k = 1 ∧ 2 ≤ nl ∧ np - s ≤ 512 ∧ l 1 % 4096 = 0)
theorem At.start {l : Nat → Int} {nl np : Nat} (h : 1 ≤ np) : At l nl np 0 1 := ⟨by omega, h, by omega, fun _ => .inl ⟨rfl, rfl⟩⟩
theorem At.room1 {l : Nat → Int} {np s : Nat} (hm : l 1 % 4096 = 0) (h : np - s ≤ 512) : np - s ≤ (roomP (l 1)).toNat := by
 have : roomP (l 1) = 512 := by unfold roomP; omega
 omega
theorem At.kn {l : Nat → Int} {nl np k s : Nat} (h : At l nl np k s) (hs : s < np) (h0 : 0 < nl) : k < nl := by
 rcases h.ex hs with ⟨rfl, -⟩ | ⟨rfl, h2, -⟩ <;> omega
theorem At.next {l : Nat → Int} {nl np k s : Nat} (h : At l nl np k s) (hs : s < np) (h0 : 0 < nl) (h257 : np ≤ 257) (hK : lstsP (l 0) np ≤ nl) (hl1 : 2 ≤ nl → l 1 % 4096 = 0) :
  (¬ np - s ≤ (roomP (l k)).toNat → k + 1 < nl) ∧ At l nl np (k + 1) (nxs l np k s) := by
 have hr := roomP_bd (l k)
 rcases h.ex hs with ⟨rfl, rfl⟩ | ⟨rfl, h2, h3, h4⟩
 ·have h2 : ¬ np - 1 ≤ (roomP (l 0)).toNat → 2 ≤ nl := fun hc => by
   unfold lstsP at hK
   rw [if_neg (by omega), if_neg (by omega)] at hK
   omega
  refine ⟨fun hc => by have := h2 hc; omega, ?_⟩
  unfold nxs
  split
  ·exact ⟨by omega, Nat.le_refl _, by omega, fun e => by omega⟩
  ·rename_i hc
   exact ⟨by omega, by omega, by omega, fun _ => .inr ⟨rfl, h2 hc, by omega, hl1 (h2 hc)⟩⟩
 ·have hq := At.room1 h4 h3
  refine ⟨fun hc => absurd hq hc, ?_⟩
  unfold nxs
  rw [if_pos hq]
  exact ⟨by omega, Nat.le_refl _, by omega, fun e => by omega⟩
theorem planP_go {l p : Nat → Int} {np size t k s : Nat} {D : List Itm} {nl : Nat} {X : Except Int (List Itm)} (hA : At l nl np k s) (ht : k + t = 2) (hs : s < np) (h : planP l p np size t k s D = X) :
  ((itm l p np k s).Fits size → ∃ t', k + 1 + t' = 2 ∧ planP l p np size t' (k + 1) (nxs l np k s) (D ++ [itm l p np k s]) = X) ∧ (¬ (itm l p np k s).Fits size → X = .error 3) := by
 have hk : k ≤ 1 := by rcases hA.ex hs with ⟨rfl, -⟩ | ⟨rfl, -⟩ <;> omega
 obtain ⟨t', rfl⟩ : ∃ t', t = t' + 1 := ⟨t - 1, by omega⟩
 unfold planP at h
 rw [if_neg (by omega)] at h
 refine ⟨fun hf => ⟨t', by omega, by rw [if_pos hf] at h; exact h⟩, fun hf => by rw [if_neg hf] at h; exact h.symm⟩
theorem At.fin {l p : Nat → Int} {nl np size k s t : Nat} {D : List Itm} {X : Except Int (List Itm)} (_ : At l nl np k s) (hs : ¬ s < np) (h : planP l p np size t k s D = X) : X = .ok D := by
 rw [planP_end (by omega)] at h
 exact h.symm
/-- A function kept: it writes the list x into the memory whose pointer lies in block mc. -/
structure Clo (S : Nat → Prop) (W : World) (mc : Nat) (c : Value) (x : Itm) : Prop where
 ex : ∃ ga gb ao nc, c = .func (.func 52) #[] #[.pointer (some ⟨mc, 0, none⟩), .pointer (some ⟨ga, 0, none⟩), .pointer (some ⟨gb, 0, none⟩)] ∧ W.cell? ⟨ga, 0, none⟩ = some (.int .u64 x.a) ∧ W.cell? ⟨gb, 0, none⟩ = some (.slice ao (8 * x.n) nc) ∧ Src S W ao (8 * x.n) (wB x.q) ∧ ¬ S ga ∧ ¬ S gb
theorem Clo.kept {S T : Nat → Prop} {W W' : World} {mc : Nat} {c : Value} {x : Itm} (h : Clo S W mc c x) (k : Keeps T W W') (hT : ∀ j, j < W.heap.size → T j → S j) : Clo S W' mc c x := by
 obtain ⟨ga, gb, ao, nc, h1, h2, h3, h4, h5, h6⟩ := h.ex
 refine ⟨ga, gb, ao, nc, h1, k.cell h2 (fun e => h5 (hT ga (World.block_lt_of_cell? _ _ h2) e)), k.cell h3 (fun e => h6 (hT gb (World.block_lt_of_cell? _ _ h3) e)), ⟨h4.small, fun h0 => ?_⟩, h5, h6⟩
 obtain ⟨g, o, rfl, hg, hc⟩ := h4.at' h0
 exact ⟨g, o, rfl, hg, fun i hi => k.cell (hc i hi) (fun e => hg (hT g (World.block_lt_of_cell? _ _ (hc i hi)) e))⟩
theorem Clo.weak {S T : Nat → Prop} {W : World} {mc : Nat} {c : Value} {x : Itm} (h : Clo S W mc c x) (hT : ∀ j, j < W.heap.size → T j → S j) : Clo T W mc c x := by
 obtain ⟨ga, gb, ao, nc, h1, h2, h3, h4, h5, h6⟩ := h.ex
 refine ⟨ga, gb, ao, nc, h1, h2, h3, ⟨h4.small, fun h0 => ?_⟩, fun e => h5 (hT ga (World.block_lt_of_cell? _ _ h2) e), fun e => h6 (hT gb (World.block_lt_of_cell? _ _ h3) e)⟩
 obtain ⟨g, o, rfl, hg, hc⟩ := h4.at' h0
 exact ⟨g, o, rfl, fun e => hg (hT g (World.block_lt_of_cell? _ _ (hc 0 h0)) e), hc⟩
/-- the functions of the lists D -/
def Clos (S : Nat → Prop) (W : World) (mc : Nat) (C : List Value) (D : List Itm) : Prop := C.length = D.length ∧ ∀ (j : Nat) (c : Value) (x : Itm), C[j]? = some c → D[j]? = some x → Clo S W mc c x
theorem Clos.kept {S T : Nat → Prop} {W W' : World} {mc : Nat} {C : List Value} {D : List Itm} (h : Clos S W mc C D) (k : Keeps T W W') (hT : ∀ j, j < W.heap.size → T j → S j) : Clos S W' mc C D :=
 ⟨h.1, fun j c x hc hx => (h.2 j c x hc hx).kept k hT⟩
theorem Clos.weak {S T : Nat → Prop} {W : World} {mc : Nat} {C : List Value} {D : List Itm} (h : Clos S W mc C D) (hT : ∀ j, j < W.heap.size → T j → S j) : Clos T W mc C D :=
 ⟨h.1, fun j c x hc hx => (h.2 j c x hc hx).weak hT⟩
theorem Clos.app {S : Nat → Prop} {W : World} {mc : Nat} {C : List Value} {D : List Itm} {c : Value} {x : Itm} (h : Clos S W mc C D) (hc : Clo S W mc c x) : Clos S W mc (C ++ [c]) (D ++ [x]) := by
 refine ⟨by rw [List.length_append, List.length_append, h.1]; rfl, fun j c' x' h1 h2 => ?_⟩
 rcases Nat.lt_or_ge j C.length with hj | hj
 ·rw [List.getElem?_append_left hj] at h1
  rw [List.getElem?_append_left (by rw [← h.1]; exact hj)] at h2
  exact h.2 j c' x' h1 h2
 ·rw [List.getElem?_append_right hj] at h1
  rw [List.getElem?_append_right (by rw [← h.1]; exact hj), ← h.1] at h2
  match j - C.length, h1, h2 with
  | 0, h1, h2 => cases h1; cases h2; exact hc
theorem Clos.nil (S : Nat → Prop) (W : World) (mc : Nat) : Clos S W mc [] [] := ⟨rfl, fun j c x h => by simp at h⟩
set_option maxRecDepth 100000 in
set_option maxHeartbeats 2000000 in
/-- The function writes its list. -/
theorem clo_call (S : Nat → Prop) (W : World) (mc ga gb b B size : Nat) (f : Nat → Int) (L : List (Nat × Nat)) (ao : Option Addr) (nc : Nat) (x : Itm) (hm : W.cell? ⟨mc, 0, none⟩ = some (.pointer (some ⟨b, 0, none⟩))) (ha : W.cell? ⟨ga, 0, none⟩ = some (.int .u64 x.a)) (hb : W.cell? ⟨gb, 0, none⟩ = some (.slice ao (8 * x.n) nc)) (hs : Src S W ao (8 * x.n) (wB x.q)) (hS : ∀ j, Two b B j → S j)
  (hM : MemAt W b B size f L) (hL : L.length < 4611686018427387904) (hx0 : 0 ≤ x.a) (hf : x.Fits size) :
  Calls Tryz.prog 52 #[.pointer (some ⟨mc, 0, none⟩), .pointer (some ⟨ga, 0, none⟩), .pointer (some ⟨gb, 0, none⟩)] W fun e w' => e = .returned (.tuple #[]) ∧ Keeps (Two b B) W w' ∧ MemAt w' b B size (upd f x.a.toNat (8 * x.n) (wB x.q)) (logged L x.a.toNat (8 * x.n)) := by
 have HW := Lib.hid (write_ok' b B size f L x.a.toNat (8 * x.n) nc ao (wB x.q) x.a W hM hL (by unfold Itm.Fits at hf; omega) ⟨hs.small, fun h0 => by
  obtain ⟨g, o, h1, h2, h3⟩ := hs.at' h0
  exact ⟨g, o, h1, fun e => h2 (hS _ e), h3⟩⟩ (by omega))
 obtain ⟨xn, hxn⟩ : ∃ z, z = 8 * x.n := ⟨_, rfl⟩
 obtain ⟨xa, hxa⟩ : ∃ z, z = x.a := ⟨_, rfl⟩
 rw [← hxn] at hb
 rw [← hxa] at ha
 have HW2 := Lib.hid (show Calls Tryz.prog 11 #[.pointer (some ⟨b, 0, none⟩), .int .u64 xa, .slice ao xn nc] W fun e w' => e = .returned (.int .i64 0) ∧ Keeps (Two b B) W w' ∧ MemAt w' b B size (upd f x.a.toNat (8 * x.n) (wB x.q)) (logged L x.a.toNat (8 * x.n)) by rw [hxn, hxa]; exact HW.out)
 clear HW hs hS hM hL hf hxn hxa hx0
 go_enter Tryz.func52, Tryz.ntmps52
 go_wp2_with (go_at_call 11; refine HW2.out.mono ?_; rintro e w' ⟨rfl, hk, hm'⟩; have HK := Lib.hid hk; have HM := Lib.hid hm'; clear hk hm')
 go_end0
 exact ⟨rfl, HK.out, HM.out⟩
end Go.Proofs.YtfmabknhfehdcaaGreat
