/- sgl: the law SglHolds. -/
import Derived.Test.YtcljbmkdflkeeaaBB
namespace Go.Proofs.Ytcljbmkdflkeeaa
set_option linter.unusedVariables false
set_option linter.unusedSimpArgs false
open Go.RowKit

theorem new4 (w : World) : Calls Try.prog 23 #[.int .i64 4] w fun e w' => ∃ b B, e = .returned (.tuple #[.pointer (some ⟨b, 0, none⟩), .int .i64 0]) ∧ w.heap.size ≤ b ∧ w.heap.size ≤ B ∧ Below w.heap.size w w' ∧ MemAt w' b B 16384 (fun _ => 0) [] := by
  have h := new_ok 4 w (by omega) (by omega)
  rw [show 4 * 4096 = 16384 by omega] at h
  exact h
/-- Two slices that share no block. -/
def Apart (u v : Value) : Prop := ∀ b, u.ownBlock = some b → v.ownBlock ≠ some b
theorem Apart.symm {u v : Value} (h : Apart u v) : Apart v u := fun b e e' => h b e' e
theorem Apart.hne {u v : Value} (h : Apart u v) : v.ownBlock = none ∨ v.ownBlock ≠ u.ownBlock := by
  cases hv : v.ownBlock with
  | none => exact .inl rfl
  | some b => exact .inr fun e => h b e.symm hv
theorem push_apart {u v : Value} {g cap m H : Nat} (ha : Apart u v) (hat : u.ownBlock = some g ∨ g = H) (hv : ∀ k, v.ownBlock = some k → k < H) : Apart (.slice (some ⟨g, 0, none⟩) m cap) v := by
  intro b hb e
  have hb : some g = some b := hb
  cases hb
  rcases hat with h | h
  · exact ha _ h e
  · have := hv _ e; omega
theorem neqDscH (d : Dsc) (w : World) : (binOp .neq 26 (.agg d.cells) (.agg d.cells)).run Try.prog w = .ok (.bool false) w := by
  unfold Dsc.cells
  simp [go_sem]
/-- What holds at the head of the law's loop. -/
structure HInv (bs : Nat) (w1 wr : World) (u12 u14 u15 : Value) (kk : Nat) (l : Nat → Dsc) (N : Int) (th : Bool) (i : Nat) : Prop where
  o12 : wr.ownsRow bs 62 3 u12 (fold th l i (N, [])).2.length (spC (fold th l i (N, [])).2)
  o14 : wr.ownsRow bs 5 1 u14 (16 * min i kk) (flB l (min i kk))
  o15 : wr.ownsRow bs 5 1 u15 (16 * (i - kk)) (flB (fun j => l (kk + j)) (i - kk))
  a1 : Apart u12 u14
  a2 : Apart u12 u15
  a3 : Apart u14 u15
  keep : Keeps (fun j => bs ≤ j) w1 wr
  fits : ∀ j, j < i → Fits (l j)
/-- What holds when the bytes are laid: the spans are still the old ones. -/
structure HMid (bs : Nat) (w1 wr : World) (u12 u14 u15 : Value) (kk : Nat) (l : Nat → Dsc) (N : Int) (th : Bool) (i : Nat) : Prop where
  o12 : wr.ownsRow bs 62 3 u12 (fold th l i (N, [])).2.length (spC (fold th l i (N, [])).2)
  o14 : wr.ownsRow bs 5 1 u14 (16 * min (i + 1) kk) (flB l (min (i + 1) kk))
  o15 : wr.ownsRow bs 5 1 u15 (16 * (i + 1 - kk)) (flB (fun j => l (kk + j)) (i + 1 - kk))
  a1 : Apart u12 u14
  a2 : Apart u12 u15
  a3 : Apart u14 u15
  keep : Keeps (fun j => bs ≤ j) w1 wr
theorem own_below {w w' : World} {base e size n : Nat} {v : Value} {xs : List Value} (h : w.ownsRow base e size v n xs) (hb : Below w.heap.size w w') : w'.ownsRow base e size v n xs := ownsRow_keeps h (Keeps.of_below (S := fun _ => False) hb) (fun _ _ e => e)
theorem push_one {bs : Nat} {w1 wr w9 w10 : World} {u12 u14 u15 : Value} {kk : Nat} {l : Nat → Dsc} {N : Int} {th : Bool} {i g cap : Nat} (h : HInv bs w1 wr u12 u14 u15 kk l N th i) (h9 : Below wr.heap.size wr w9) (hwr : bs ≤ wr.heap.size) (hi : i < kk)
    (hown : w10.ownsRow bs 5 1 (.slice (some ⟨g, 0, none⟩) (16 * i + 16) cap) (16 * i + 16) (flB l i ++ dBs (l i))) (hg : w9.grownBy w10 u14.ownBlock) (hat : u14.ownBlock = some g ∨ g = w9.heap.size) :
    HMid bs w1 w10 u12 (.slice (some ⟨g, 0, none⟩) (16 * i + 16) cap) u15 kk l N th i := by
  have p12 := own_below h.o12 h9
  have p15 := own_below h.o15 h9
  have e : min (i + 1) kk = i + 1 := by omega
  refine ⟨p12.kept hg h.a1.symm.hne, by rw [e]; exact hown, by rw [show i + 1 - kk = i - kk by omega]; exact p15.kept hg h.a3.hne, (push_apart h.a1.symm hat (fun k hk => (p12.lt k hk).2)).symm, h.a2, push_apart h.a3 hat (fun k hk => (p15.lt k hk).2), h.keep.trans (grown_keeps h9 h.o14 hwr hg)⟩
theorem push_two {bs : Nat} {w1 wr w9 w10 : World} {u12 u14 u15 : Value} {kk : Nat} {l : Nat → Dsc} {N : Int} {th : Bool} {i g cap : Nat} (h : HInv bs w1 wr u12 u14 u15 kk l N th i) (h9 : Below wr.heap.size wr w9) (hwr : bs ≤ wr.heap.size) (hi : kk ≤ i)
    (hown : w10.ownsRow bs 5 1 (.slice (some ⟨g, 0, none⟩) (16 * (i - kk) + 16) cap) (16 * (i - kk) + 16) (flB (fun j => l (kk + j)) (i - kk) ++ dBs (l i))) (hg : w9.grownBy w10 u15.ownBlock) (hat : u15.ownBlock = some g ∨ g = w9.heap.size) :
    HMid bs w1 w10 u12 u14 (.slice (some ⟨g, 0, none⟩) (16 * (i - kk) + 16) cap) kk l N th i := by
  have p12 := own_below h.o12 h9
  have p14 := own_below h.o14 h9
  have e : i + 1 - kk = (i - kk) + 1 := by omega
  have e2 : min (i + 1) kk = min i kk := by omega
  refine ⟨p12.kept hg h.a2.symm.hne, by rw [e2]; exact p14.kept hg h.a3.symm.hne, ?_, h.a1, (push_apart h.a2.symm hat (fun k hk => (p12.lt k hk).2)).symm, (push_apart h.a3.symm hat (fun k hk => (p14.lt k hk).2)).symm, h.keep.trans (grown_keeps h9 h.o15 hwr hg)⟩
  rw [e]
  show w10.ownsRow bs _ 1 _ (16 * (i - kk) + 16) (flB (fun j => l (kk + j)) (i - kk) ++ dBs (l (kk + (i - kk))))
  rw [show kk + (i - kk) = i by omega]
  exact hown
theorem mid_none {bs : Nat} {w1 wr w9 : World} {u12 u14 u15 : Value} {kk : Nat} {l : Nat → Dsc} {N : Int} {th : Bool} {i : Nat} (h : HMid bs w1 wr u12 u14 u15 kk l N th i) (h9 : Below wr.heap.size wr w9) (hf : ∀ j, j < i + 1 → Fits (l j)) (hs : fold th l (i + 1) (N, []) = fold th l i (N, [])) : HInv bs w1 w9 u12 u14 u15 kk l N th (i + 1) :=
  ⟨by rw [hs]; exact own_below h.o12 h9, own_below h.o14 h9, own_below h.o15 h9, h.a1, h.a2, h.a3, h.keep.trans (Keeps.of_below h9), hf⟩
theorem mid_push {bs : Nat} {w1 wr w9 w10 : World} {u12 u14 u15 : Value} {kk : Nat} {l : Nat → Dsc} {N : Int} {th : Bool} {i g cap : Nat} {x : Spn} (h : HMid bs w1 wr u12 u14 u15 kk l N th i) (h9 : Below wr.heap.size wr w9) (hwr : bs ≤ wr.heap.size) (hf : ∀ j, j < i + 1 → Fits (l j)) (hs : (fold th l (i + 1) (N, [])).2 = (fold th l i (N, [])).2 ++ [x])
    (hown : w10.ownsRow bs 62 3 (.slice (some ⟨g, 0, none⟩) ((fold th l i (N, [])).2.length + 1) cap) ((fold th l i (N, [])).2.length + 1) (spC (fold th l i (N, [])).2 ++ x.l)) (hg : w9.grownBy w10 u12.ownBlock) (hat : u12.ownBlock = some g ∨ g = w9.heap.size) :
    HInv bs w1 w10 (.slice (some ⟨g, 0, none⟩) ((fold th l i (N, [])).2.length + 1) cap) u14 u15 kk l N th (i + 1) := by
  have p14 := own_below h.o14 h9
  have p15 := own_below h.o15 h9
  refine ⟨?_, p14.kept hg h.a1.hne, p15.kept hg h.a2.hne, push_apart h.a1 hat (fun k hk => (p14.lt k hk).2), push_apart h.a2 hat (fun k hk => (p15.lt k hk).2), h.a3, h.keep.trans (grown_keeps h9 h.o12 hwr hg), hf⟩
  rw [hs, List.length_append, spC_append]
  exact hown
theorem grown_cell {w9 w10 : World} {row : Option Nat} (hg : w9.grownBy w10 row) {q : Addr} {v : Value} (hq : w9.cell? q = some v) (hne : row ≠ some q.block) : w10.cell? q = some v :=
  (World.cell?_of_block (w := w9) (hg.block q.block (World.block_lt_of_cell? _ _ hq) (fun e => hne e.symm))).trans hq
theorem stp_data {th : Bool} {d : Dsc} {p : LO} {km : Int} (hk : d.k ≠ 2) (hkm : km = min d.n p.1) : stp th d p = if 0 < km then (p.1 - km, p.2 ++ [⟨d.a, km, false⟩]) else p := by
  subst hkm
  unfold stp addP
  rw [if_neg hk]
theorem stp_bkt {d : Dsc} {p : LO} {km : Int} (hk : d.k = 2) (hkm : km = min d.n p.1) : stp true d p = (if 0 < km then (p.1 - km, p.2 ++ [⟨0, km, true⟩]) else p) ∧ stp false d p = p := by
  subst hkm
  unfold stp addP
  rw [if_pos hk, if_pos hk]
  exact ⟨rfl, rfl⟩
theorem addP_bd (x : Spn) (p : LO) (h : 0 ≤ p.1) : 0 ≤ (addP x p).1 ∧ (addP x p).1 ≤ p.1 ∧ (addP x p).2.length ≤ p.2.length + 1 := by
  unfold addP
  split
  · refine ⟨?_, ?_, ?_⟩
    · show 0 ≤ p.1 - min x.n p.1; omega
    · show p.1 - min x.n p.1 ≤ p.1; omega
    · simp
  · exact ⟨h, Int.le_refl _, by omega⟩
theorem fold_bd (th : Bool) (l : Nat → Dsc) (N : Int) (h : 0 ≤ N) (i : Nat) : 0 ≤ (fold th l i (N, [])).1 ∧ (fold th l i (N, [])).1 ≤ N ∧ (fold th l i (N, [])).2.length ≤ i := by
  induction i with
  | zero => exact ⟨h, Int.le_refl _, Nat.le_refl _⟩
  | succ i ih =>
    obtain ⟨h1, h2, h3⟩ := ih
    show 0 ≤ (stp th (l i) (fold th l i (N, []))).1 ∧ (stp th (l i) (fold th l i (N, []))).1 ≤ N ∧ (stp th (l i) (fold th l i (N, []))).2.length ≤ i + 1
    unfold stp
    split
    · split
      · obtain ⟨a, b, c⟩ := addP_bd ⟨0, (l i).n, true⟩ _ h1
        exact ⟨a, by omega, by omega⟩
      · exact ⟨h1, h2, by omega⟩
    · obtain ⟨a, b, c⟩ := addP_bd ⟨(l i).a, (l i).n, false⟩ _ h1
      exact ⟨a, by omega, by omega⟩
theorem HInv.start (bs : Nat) (w1 : World) (kk : Nat) (l : Nat → Dsc) (N : Int) (th : Bool) : HInv bs w1 w1 (.slice none 0 0) (.slice none 0 0) (.slice none 0 0) kk l N th 0 :=
  ⟨World.ownsRow_nil _ _ _ _, by rw [Nat.zero_min]; exact World.ownsRow_nil _ _ _ _, by rw [Nat.zero_sub]; exact World.ownsRow_nil _ _ _ _, (fun b e => by cases e), (fun b e => by cases e), (fun b e => by cases e), Keeps.refl _ _, fun j h => by omega⟩
section
variable (ao : Option Addr) (n c : Nat) (l : Nat → Dsc) (cut N : Int) (th : Bool) (w : World) (hC : DAt w ao n l) (hok : ∀ i, i < n → (l i).Ok) (hn : n ≤ maxLen) (hc0 : -9223372036854775808 ≤ cut) (hc1 : cut ≤ 9223372036854775807) (hN0 : -9223372036854775808 ≤ N) (hN1 : N ≤ 9223372036854775807)
include hn hN0 hN1
set_option maxRecDepth 100000 in
set_option maxHeartbeats 4000000 in
theorem holds_out (h : n < 2 ∨ 20 < n ∨ N < 0 ∨ 100000 < N) : Calls Try.prog 6 #[.slice ao n c, .int .i64 cut, .int .i64 N, .bool th] w fun e w' => e = .returned (.bool true) ∧ Below w.heap.size w w' := by
  have hn9 : n ≤ 9223372036854775807 := by unfold maxLen at hn; omega
  have hcs : (decide ((n : Int) < 2) = true) ∨ (decide ((n : Int) < 2) = false ∧ decide (20 < (n : Int)) = true) ∨ (decide ((n : Int) < 2) = false ∧ decide (20 < (n : Int)) = false ∧ decide (N < 0) = true) ∨ (decide ((n : Int) < 2) = false ∧ decide (20 < (n : Int)) = false ∧ decide (N < 0) = false ∧ decide (100000 < N) = true) := by
    simp only [decide_eq_true_eq, decide_eq_false_iff_not]
    omega
  clear h hn
  rcases hcs with q1 | ⟨q1, q2⟩ | ⟨q1, q2, q3⟩ | ⟨q1, q2, q3, q4⟩
  all_goals
    go_enter Try.func6, Try.ntmps6
    go_wp2_with (go_at_call 16; refine (works_ok _).mono ?_; rintro e w3 ⟨rfl, hb⟩; have B3 := Lib.hid hb; clear hb)
    go_ret
    exact ⟨rfl, B3.out⟩
end
section
variable (ao : Option Addr) (n c : Nat) (l : Nat → Dsc) (cut N : Int) (w : World) (hC : DAt w ao n l) (hok : ∀ i, i < n → (l i).Ok) (hc0 : -9223372036854775808 ≤ cut) (hc1 : cut ≤ 9223372036854775807)
include hC hok hc0 hc1
set_option maxRecDepth 100000 in
set_option maxHeartbeats 16000000 in
theorem holds_in_true (h2 : 2 ≤ n) (h20 : n ≤ 20) (hN0 : 0 ≤ N) (hN1 : N ≤ 100000) : Calls Try.prog 6 #[.slice ao n c, .int .i64 cut, .int .i64 N, .bool true] w fun e w' => e = .returned (.bool true) ∧ Below w.heap.size w w' := by
  have q1 : decide ((n : Int) < 2) = false := decide_eq_false (by omega)
  have q2 : decide (20 < (n : Int)) = false := decide_eq_false (by omega)
  have q3 : decide (N < 0) = false := decide_eq_false (by omega)
  have q4 : decide (100000 < N) = false := decide_eq_false (by omega)
  obtain ⟨ga, oa, hao, hga⟩ := hC.lt (by omega)
  subst hao
  have HC := Lib.hid hC
  have HOK := Lib.hid hok
  clear hC hok
  go_enter Try.func6, Try.ntmps6
  go_upto_region 4 with (go_at_call 23; refine (new4 _).mono ?_; rintro e w1 ⟨b, B, rfl, hb, hB, hbl, hm⟩; have B1 := Lib.hid hbl; have M1 := Lib.hid hm; clear hbl hm)
  go_upto_region 5 with fail
  obtain ⟨m1, hm1⟩ : ∃ z : Int, z = (if (n : Int) - 2 < cut then (n : Int) - 2 else cut) := ⟨_, rfl⟩
  rw [← hm1]
  obtain ⟨m2, hm2⟩ : ∃ z : Int, z = (if 0 < m1 then m1 else 0) := ⟨_, rfl⟩
  rw [← hm2]
  obtain ⟨kk, hkk, hk1, hk2⟩ : ∃ kk : Nat, 1 + m2 = (kk : Int) ∧ 1 ≤ kk ∧ kk + 1 ≤ n := by
    refine ⟨(1 + m2).toNat, ?_, ?_, ?_⟩
    all_goals (rw [hm2, hm1]; (repeat' split) <;> omega)
  rw [hkk]
  clear hm1 hm2
  clear hkk hc0 hc1
  obtain ⟨bs, hbs⟩ : ∃ z, z = w1.heap.size := ⟨_, rfl⟩
  have hbb : b < bs := by rw [hbs]; exact M1.out.lt
  have hBB : B < bs := by rw [hbs]; exact M1.out.lt'
  have hwb : w.heap.size ≤ bs := by rw [hbs]; exact B1.out.size
  have D1 := Lib.hid (HC.out.below B1.out (fun g o e => by cases e; exact hga))
  have hgb : ga < bs := by omega
  go_upto_region 9 with fail
  go_loopw [12, 13, 14, 15, 16] (fun v12 v13 v14 v15 v16 wr => ∃ i : Nat, i ≤ n ∧ v16 = .int .i64 (i : Nat) ∧ v13 = .int .i64 (N - (fold true l i (N, [])).1) ∧ HInv bs w1 wr v12 v14 v15 kk l N true i) (fun _ _ _ _ v16 _ => n - (intOf v16).toNat)
  case atStart => exact ⟨0, by omega, rfl, by show Value.int IntKind.i64 0 = .int .i64 (N - N); rw [Int.sub_self], HInv.start bs w1 kk l N true⟩
  case round =>
    obtain ⟨i, hi, rfl, rfl, hinv⟩ := hrel
    have HI := Lib.hid hinv
    have hwr : bs ≤ wr.heap.size := by have := hinv.keep.size; omega
    have Dr := Lib.hid (D1.out.below (hinv.keep.below (B := bs) (by omega) (fun j hj e => by have e : bs ≤ j := e; omega)) (fun g o e => by cases e; exact hgb))
    have Br := Lib.hid (B1.out.trans (hinv.keep.below (B := w.heap.size) (by omega) (fun j hj e => by have e : bs ≤ j := e; omega)))
    clear hinv
    by_cases hin : i < n
    · have q5 : decide ((i : Int) < (n : Int)) = true := decide_eq_true (by omega)
      have hrk : wr.rangeAt ga (oa + i * 4) (l i).cells.toList := by
        obtain ⟨g', o', e, hr⟩ := Dr.out i hin
        cases e
        exact hr
      obtain ⟨D, hDD⟩ : ∃ z, z = (l i).cells := ⟨_, rfl⟩
      have HSZ := Lib.hid (show (Try.prog.info? 26).map (·.size) = some D.size by rw [hDD]; exact sizeD)
      have SD := Lib.hid (show D.size = 4 by rw [hDD]; rfl)
      have OD := Lib.hid (show D.all (·.oneCell') = true by rw [hDD]; exact (l i).one)
      have HV := Lib.hid (show ∀ r, vldD (l i) = r → ∀ W, Calls Try.prog 15 #[.agg D] W fun e w' => e = .returned (.bool r) ∧ Below W.heap.size W w' from fun r hr W => by rw [hDD]; exact rvalid_any (l i) r hr W (HOK.out i hin))
      have HDD := Lib.hid hDD
      rw [← hDD] at hrk
      have HRK := Lib.hid hrk
      clear hrk hDD
      go_upto_region 12 with (first
        | ((with_reducible show wpList _ _ _ (⟨some 66, _, _, _, _, _⟩ :: _) _ _); refine wpList_loadR rfl HRK.out 26 (.tmp 65) rfl (by first | rfl | simp [Act.eval, Act.put]) Try.underlying26 rfl HSZ.out ?_)
        | ((with_reducible show wpList _ _ _ (⟨some 17, _, _, _, _, _⟩ :: _) _ _); refine wpList_alloc rfl 26 rfl zeroD ?_; rw [show (Value.agg zDsc.cells).cells = zDsc.cells from rfl])
        | ((with_reducible show wpList _ _ _ (⟨none, .store _ (.tmp 17) _, _, _, _, _⟩ :: _) _ _); refine wpList_storeA rfl (b := wr.heap.size) (A := zDsc.cells) (A' := D) (ArrAt.fresh wr zDsc.cells _ (by decide)) 26 (.tmp 17) (.tmp 66) rfl (by simp [Act.eval, Act.put]) (by simp [Act.eval, Act.put]) (sizeDs _) (by rw [SD.out]; rfl) OD.out ?_))
      obtain ⟨W2, hW⟩ : ∃ z, z = (wr.alloc (.cells zDsc.cells 26)).setCells wr.heap.size 0 D.toList := ⟨_, rfl⟩
      obtain ⟨hb2, ha⟩ := stored_at (by decide) (by rw [SD.out]; rfl) hW
      rw [← hW]
      obtain ⟨gd, hgd⟩ : ∃ z, z = wr.heap.size := ⟨_, rfl⟩
      rw [← hgd] at ha ⊢
      have hgdw : wr.heap.size ≤ gd := by omega
      have R17 := Lib.hid ha
      have H2 := Lib.hid hb2
      obtain ⟨dk, hdk⟩ : ∃ z, z = (l i).k := ⟨_, rfl⟩
      obtain ⟨da, hda⟩ : ∃ z, z = (l i).a := ⟨_, rfl⟩
      obtain ⟨dn, hdn⟩ : ∃ z, z = (l i).n := ⟨_, rfl⟩
      have c0 : W2.cell? ⟨gd, 0, none⟩ = some (.int .i64 dk) := ha.cell (by rw [HDD.out, hdk]; rfl)
      have c1 : W2.cell? ⟨gd, 1, none⟩ = some (.int .u64 da) := ha.cell (by rw [HDD.out, hda]; rfl)
      have c2 : W2.cell? ⟨gd, 2, none⟩ = some (.int .i64 dn) := ha.cell (by rw [HDD.out, hdn]; rfl)
      have hgd2 : gd < W2.heap.size := ha.lt
      have hda0 : 0 ≤ da ∧ da ≤ 18446744073709551615 := by rw [hda]; exact (HOK.out i hin).a
      have HDK := Lib.hid hdk
      have HDA := Lib.hid hda
      have HDN := Lib.hid hdn
      clear hW hb2 ha hgd hdk hda hdn
      by_cases hf : Fits (l i)
      case neg =>
        have hbad : vldD (l i) = false ∨ (vldD (l i) = true ∧ dk = 3) ∨ (vldD (l i) = true ∧ dk = 4) ∨ (vldD (l i) = true ∧ dk ≠ 3 ∧ dk ≠ 4 ∧ dk ≠ 2 ∧ 0 ≤ dn ∧ dn < 4294967296 ∧ (da < 8192 ∨ (8192 ≤ da ∧ 16384 < da) ∨ (8192 ≤ da ∧ da ≤ 16384 ∧ 16384 - da < dn))) := by
          by_cases hv : Vld (l i)
          · have e1 := HDK.out
            have e2 := HDA.out
            have e3 := HDN.out
            have hvt : vldD (l i) = true := decide_eq_true hv
            by_cases h3 : dk = 3
            · exact .inr (.inl ⟨hvt, h3⟩)
            · by_cases h4 : dk = 4
              · exact .inr (.inr (.inl ⟨hvt, h4⟩))
              · have hg : Good (l i) := ⟨hv, by omega, by omega⟩
                have hx : ¬ ((l i).k = 2 ∨ (8192 ≤ (l i).a ∧ (l i).a ≤ 16384 ∧ (l i).n ≤ 16384 - (l i).a)) := fun c => hf ⟨hg, c⟩
                have hlim : dn < 4294967296 := by
                  have := hv.2.1.2
                  unfold lim at this
                  split at this <;> omega
                have := hv.2.1.1
                exact .inr (.inr (.inr ⟨hvt, h3, h4, by omega, by omega, hlim, by omega⟩))
          · exact .inl (decide_eq_false hv)
        clear hf
        have hfin : ∀ x : World, Below W2.heap.size W2 x → ∀ y : World, Below x.heap.size x y → Below w.heap.size w y := fun x hx y hy => by
          have h1 := Br.out.trans (H2.out.mono Br.out.size)
          have h2 := h1.trans (hx.mono h1.size)
          exact h2.trans (hy.mono h2.size)
        have HFIN := Lib.hid hfin
        clear hfin
        rcases hbad with hb1 | ⟨hb1, hb3⟩ | ⟨hb1, hb4⟩ | ⟨hb1, h3, h4, h2, hn0, hnl, hc⟩
        · skip
          go_wp2_with (first
            | ((with_reducible show wpList _ _ _ (⟨some 67, _, _, _, _, _⟩ :: _) _ _); refine wpList_loadA rfl R17.out 26 (.tmp 17) rfl (by first | rfl | simp [Act.eval, Act.put]) Try.underlying26 rfl HSZ.out ?_)
            | (go_at_call 15; refine (HV.out false hb1 _).mono ?_; rintro e w4 ⟨rfl, hb⟩; have H4 := Lib.hid hb; have d0 := (hb.cell (p := ⟨gd, 0, none⟩) hgd2).trans c0; have d1 := (hb.cell (p := ⟨gd, 1, none⟩) hgd2).trans c1; have d2 := (hb.cell (p := ⟨gd, 2, none⟩) hgd2).trans c2; clear hb)
            | (go_at_call 16; refine (works_ok _).mono ?_; rintro e w9 ⟨rfl, hb⟩; have H9 := Lib.hid hb; clear hb))
          go_ret
          exact ⟨rfl, HFIN.out _ H4.out _ H9.out⟩
        · skip
          subst hb3
          go_wp2_with (first
            | ((with_reducible show wpList _ _ _ (⟨some 67, _, _, _, _, _⟩ :: _) _ _); refine wpList_loadA rfl R17.out 26 (.tmp 17) rfl (by first | rfl | simp [Act.eval, Act.put]) Try.underlying26 rfl HSZ.out ?_)
            | (go_at_call 15; refine (HV.out true hb1 _).mono ?_; rintro e w4 ⟨rfl, hb⟩; have H4 := Lib.hid hb; have d0 := (hb.cell (p := ⟨gd, 0, none⟩) hgd2).trans c0; have d1 := (hb.cell (p := ⟨gd, 1, none⟩) hgd2).trans c1; have d2 := (hb.cell (p := ⟨gd, 2, none⟩) hgd2).trans c2; clear hb)
            | (go_at_call 16; refine (works_ok _).mono ?_; rintro e w9 ⟨rfl, hb⟩; have H9 := Lib.hid hb; clear hb))
          go_ret
          exact ⟨rfl, HFIN.out _ H4.out _ H9.out⟩
        · skip
          subst hb4
          go_wp2_with (first
            | ((with_reducible show wpList _ _ _ (⟨some 67, _, _, _, _, _⟩ :: _) _ _); refine wpList_loadA rfl R17.out 26 (.tmp 17) rfl (by first | rfl | simp [Act.eval, Act.put]) Try.underlying26 rfl HSZ.out ?_)
            | (go_at_call 15; refine (HV.out true hb1 _).mono ?_; rintro e w4 ⟨rfl, hb⟩; have H4 := Lib.hid hb; have d0 := (hb.cell (p := ⟨gd, 0, none⟩) hgd2).trans c0; have d1 := (hb.cell (p := ⟨gd, 1, none⟩) hgd2).trans c1; have d2 := (hb.cell (p := ⟨gd, 2, none⟩) hgd2).trans c2; clear hb)
            | (go_at_call 16; refine (works_ok _).mono ?_; rintro e w9 ⟨rfl, hb⟩; have H9 := Lib.hid hb; clear hb))
          go_ret
          exact ⟨rfl, HFIN.out _ H4.out _ H9.out⟩
        · rcases hc with hca | ⟨hca, hcb⟩ | ⟨hca, hcb, hcc⟩
          · skip
            have k3 : (dk == 3) = false := beq_eq_false_iff_ne.2 h3
            have k4 : (dk == 4) = false := beq_eq_false_iff_ne.2 h4
            have k2 : (dk != 2) = true := bne_iff_ne.2 h2
            have z1 : decide (da < 8192) = true := decide_eq_true hca
            go_wp2_with (first
              | ((with_reducible show wpList _ _ _ (⟨some 67, _, _, _, _, _⟩ :: _) _ _); refine wpList_loadA rfl R17.out 26 (.tmp 17) rfl (by first | rfl | simp [Act.eval, Act.put]) Try.underlying26 rfl HSZ.out ?_)
              | (go_at_call 15; refine (HV.out true hb1 _).mono ?_; rintro e w4 ⟨rfl, hb⟩; have H4 := Lib.hid hb; have d0 := (hb.cell (p := ⟨gd, 0, none⟩) hgd2).trans c0; have d1 := (hb.cell (p := ⟨gd, 1, none⟩) hgd2).trans c1; have d2 := (hb.cell (p := ⟨gd, 2, none⟩) hgd2).trans c2; clear hb)
              | (go_at_call 16; refine (works_ok _).mono ?_; rintro e w9 ⟨rfl, hb⟩; have H9 := Lib.hid hb; clear hb))
            go_ret
            exact ⟨rfl, HFIN.out _ H4.out _ H9.out⟩
          · skip
            have k3 : (dk == 3) = false := beq_eq_false_iff_ne.2 h3
            have k4 : (dk == 4) = false := beq_eq_false_iff_ne.2 h4
            have k2 : (dk != 2) = true := bne_iff_ne.2 h2
            have z1 : decide (da < 8192) = false := decide_eq_false (by omega)
            have z2 : decide (16384 < da) = true := decide_eq_true hcb
            go_wp2_with (first
              | ((with_reducible show wpList _ _ _ (⟨some 67, _, _, _, _, _⟩ :: _) _ _); refine wpList_loadA rfl R17.out 26 (.tmp 17) rfl (by first | rfl | simp [Act.eval, Act.put]) Try.underlying26 rfl HSZ.out ?_)
              | (go_at_call 15; refine (HV.out true hb1 _).mono ?_; rintro e w4 ⟨rfl, hb⟩; have H4 := Lib.hid hb; have d0 := (hb.cell (p := ⟨gd, 0, none⟩) hgd2).trans c0; have d1 := (hb.cell (p := ⟨gd, 1, none⟩) hgd2).trans c1; have d2 := (hb.cell (p := ⟨gd, 2, none⟩) hgd2).trans c2; clear hb)
              | (go_at_call 16; refine (works_ok _).mono ?_; rintro e w9 ⟨rfl, hb⟩; have H9 := Lib.hid hb; clear hb))
            go_ret
            exact ⟨rfl, HFIN.out _ H4.out _ H9.out⟩
          · skip
            have k3 : (dk == 3) = false := beq_eq_false_iff_ne.2 h3
            have k4 : (dk == 4) = false := beq_eq_false_iff_ne.2 h4
            have k2 : (dk != 2) = true := bne_iff_ne.2 h2
            have z1 : decide (da < 8192) = false := decide_eq_false (by omega)
            have z2 : decide (16384 < da) = false := decide_eq_false (by omega)
            have z3 : decide (16384 - da < dn) = true := decide_eq_true hcc
            go_wp2_with (first
              | ((with_reducible show wpList _ _ _ (⟨some 67, _, _, _, _, _⟩ :: _) _ _); refine wpList_loadA rfl R17.out 26 (.tmp 17) rfl (by first | rfl | simp [Act.eval, Act.put]) Try.underlying26 rfl HSZ.out ?_)
              | (go_at_call 15; refine (HV.out true hb1 _).mono ?_; rintro e w4 ⟨rfl, hb⟩; have H4 := Lib.hid hb; have d0 := (hb.cell (p := ⟨gd, 0, none⟩) hgd2).trans c0; have d1 := (hb.cell (p := ⟨gd, 1, none⟩) hgd2).trans c1; have d2 := (hb.cell (p := ⟨gd, 2, none⟩) hgd2).trans c2; clear hb)
              | (go_at_call 16; refine (works_ok _).mono ?_; rintro e w9 ⟨rfl, hb⟩; have H9 := Lib.hid hb; clear hb))
            go_ret
            exact ⟨rfl, HFIN.out _ H4.out _ H9.out⟩
      case pos =>
        obtain ⟨hgd, hdat⟩ := hf
        have hb1 : vldD (l i) = true := decide_eq_true hgd.1
        have h3 : dk ≠ 3 := by have := HDK.out; have := hgd.2.1; omega
        have h4 : dk ≠ 4 := by have := HDK.out; have := hgd.2.2; omega
        have k3 : (dk == 3) = false := beq_eq_false_iff_ne.2 h3
        have k4 : (dk == 4) = false := beq_eq_false_iff_ne.2 h4
        have hn0 : 0 ≤ dn := by have := HDN.out; have := hgd.1.2.1.1; omega
        have hnl : dn < 4294967296 := by
          have := HDN.out
          have := hgd.1.2.1.2
          unfold lim at this
          split at this <;> omega
        obtain ⟨E, hE⟩ : ∃ z : Array Value, z = #[.int .u64 (l i).a, .int .u64 (word1 (l i))] := ⟨_, rfl⟩
        have HEN := Lib.hid (show ∀ W, Calls Try.prog 10 #[.agg D] W fun e w' => e = .returned (.tuple #[.agg E, .int .i64 0]) ∧ Below W.heap.size W w' from fun W => by rw [HDD.out, hE]; exact encode_ok (l i) W (HOK.out i hin) hgd.1)
        have HDE := Lib.hid (show ∀ W, Calls Try.prog 11 #[.agg E] W fun e w' => e = .returned (.tuple #[.agg D, .int .i64 0]) ∧ Below W.heap.size W w' from fun W => by
          obtain ⟨d1, d2⟩ := dec_enc (l i) hgd.1 (HOK.out i hin)
          obtain ⟨w0, w9⟩ := word1_bd hgd.1 (HOK.out i hin)
          have h := decode_any (l i).a (word1 (l i)) W w0 w9
          rw [d1, d2] at h
          rw [HDD.out, hE]; exact h)
        have SE := Lib.hid (show E.size = 2 by rw [hE]; rfl)
        have OE := Lib.hid (show E.all (·.oneCell') = true by rw [hE]; exact u64s_one _ _)
        have IE := Lib.hid (show (Try.prog.info? 27).map (·.size) = some E.size by rw [SE.out]; exact size2w)
        have NX := Lib.hid (show ∀ w, (binOp .neq 26 (.agg D) (.agg D)).run Try.prog w = .ok (.bool false) w by rw [HDD.out]; exact neqDscH _)
        have HBY := Lib.hid (show ∀ W, Calls Try.prog 25 #[.agg D] W fun e w' => NewRow W w' 16 (dB (l i)) e from fun W => by rw [HDD.out]; exact bytes_any (l i) W (HOK.out i hin))
        have HGD := Lib.hid hgd
        have HDAT := Lib.hid hdat
        clear hE hgd hdat
        obtain ⟨fb0, fb1, fb2⟩ := fold_bd true l N hN0 i
        obtain ⟨sm, hsm⟩ : ∃ z, z = N - (fold true l i (N, [])).1 := ⟨_, rfl⟩
        rw [← hsm]
        obtain ⟨km, hkm⟩ : ∃ z, z = min dn (fold true l i (N, [])).1 := ⟨_, rfl⟩
        have HIF := Lib.hid (show (if N - sm < dn then N - sm else dn) = km by rw [hkm, hsm, Int.min_def]; split <;> split <;> omega)
        have hsm0 : 0 ≤ sm := by omega
        have hsm1 : sm ≤ N := by omega
        have hkm0 : 0 ≤ km := by rw [hkm, Int.min_def]; split <;> omega
        have hkm1 : sm + km ≤ N := by rw [hsm, hkm, Int.min_def]; split <;> omega
        have HSM := Lib.hid hsm
        have HKM := Lib.hid hkm
        have HFT := Lib.hid (show ∀ j, j < i + 1 → Fits (l j) from fun j hj => by
          rcases Nat.lt_or_ge j i with h | h
          · exact HI.out.fits j h
          · obtain rfl : j = i := by omega
            exact ⟨HGD.out, HDAT.out⟩)
        clear hsm hkm
        by_cases h2 : dk = 2
        · have k2 : (dk != 2) = false := by rw [h2]; rfl
          have k2e : (dk == 2) = true := by rw [h2]; rfl
          go_upto_region 14 with (first
            | ((with_reducible show wpList _ _ _ (⟨some 67, _, _, _, _, _⟩ :: _) _ _); refine wpList_loadA rfl R17.out 26 (.tmp 17) rfl (by first | rfl | simp [Act.eval, Act.put]) Try.underlying26 rfl HSZ.out ?_)
            | (go_at_call 15; refine (HV.out true hb1 _).mono ?_; rintro e w4 ⟨rfl, hb⟩; have H4 := Lib.hid (H2.out.trans (hb.mono H2.out.size)); have d0 := (hb.cell (p := ⟨gd, 0, none⟩) hgd2).trans c0; have d1 := (hb.cell (p := ⟨gd, 1, none⟩) hgd2).trans c1; have d2 := (hb.cell (p := ⟨gd, 2, none⟩) hgd2).trans c2; have R174 := Lib.hid (R17.out.below hb); clear hb))
          go_upto_region 15 with (first
            | ((with_reducible show wpList _ _ _ (⟨some 106, _, _, _, _, _⟩ :: _) _ _); refine wpList_loadA rfl R174.out 26 (.tmp 17) rfl (by first | rfl | simp [Act.eval, Act.put]) Try.underlying26 rfl HSZ.out ?_)
            | (go_at_call 10; refine (HEN.out _).mono ?_; rintro e w5 ⟨rfl, hb⟩; have H5 := Lib.hid hb; clear hb)
            | ((with_reducible show wpList _ _ _ (⟨some 18, _, _, _, _, _⟩ :: _) _ _); refine wpList_alloc rfl 27 rfl zero2 ?_; rw [show (Value.agg zer2).cells = zer2 from rfl])
            | ((with_reducible show wpList _ _ _ (⟨none, .store _ (.tmp 18) _, _, _, _, _⟩ :: _) _ _); refine wpList_storeA rfl (b := w5.heap.size) (A := zer2) (A' := E) (ArrAt.fresh w5 zer2 _ (by decide)) 27 (.tmp 18) (.tmp 108) rfl (by simp [Act.eval, Act.put]) (by simp [Act.eval, Act.put]) size2z (by rw [SE.out]; rfl) OE.out ?_))
          obtain ⟨W6, hW⟩ : ∃ z, z = (w5.alloc (.cells zer2 27)).setCells w5.heap.size 0 E.toList := ⟨_, rfl⟩
          obtain ⟨hb6, ha⟩ := stored_at (by decide) (by rw [SE.out]; rfl) hW
          rw [← hW]
          have hb46 := H5.out.trans (hb6.mono H5.out.size)
          have R18 := Lib.hid ha
          have R176 := Lib.hid (R174.out.below hb46)
          have H6 := Lib.hid (H4.out.trans (hb46.mono H4.out.size))
          have f0 := (hb46.cell (p := ⟨gd, 0, none⟩) R174.out.lt).trans d0
          have f1 := (hb46.cell (p := ⟨gd, 1, none⟩) R174.out.lt).trans d1
          have f2 := (hb46.cell (p := ⟨gd, 2, none⟩) R174.out.lt).trans d2
          obtain ⟨g18, hg18⟩ : ∃ z, z = w5.heap.size := ⟨_, rfl⟩
          rw [← hg18] at R18 ⊢
          clear hW hb6 ha hb46 hg18 d0 d1 d2 c0 c1 c2 H5
          go_upto_region 16 with (first
            | ((with_reducible show wpList _ _ _ (⟨some 111, _, _, _, _, _⟩ :: _) _ _); refine wpList_loadA rfl R18.out 27 (.tmp 18) rfl (by first | rfl | simp [Act.eval, Act.put]) Try.underlying27 rfl IE.out ?_)
            | (go_at_call 11; refine (HDE.out _).mono ?_; rintro e w7 ⟨rfl, hb⟩; have H7 := Lib.hid hb; clear hb)
            | ((with_reducible show wpList _ _ _ (⟨some 20, _, _, _, _, _⟩ :: _) _ _); refine wpList_alloc rfl 26 rfl zeroD ?_; rw [show (Value.agg zDsc.cells).cells = zDsc.cells from rfl])
            | ((with_reducible show wpList _ _ _ (⟨none, .store _ (.tmp 20) _, _, _, _, _⟩ :: _) _ _); refine wpList_storeA rfl (b := w7.heap.size) (A := zDsc.cells) (A' := D) (ArrAt.fresh w7 zDsc.cells _ (by decide)) 26 (.tmp 20) (.tmp 113) rfl (by simp [Act.eval, Act.put]) (by simp [Act.eval, Act.put]) (sizeDs _) (by rw [SD.out]; rfl) OD.out ?_))
          obtain ⟨W8, hW⟩ : ∃ z, z = (w7.alloc (.cells zDsc.cells 26)).setCells w7.heap.size 0 D.toList := ⟨_, rfl⟩
          obtain ⟨hb8, ha⟩ := stored_at (by decide) (by rw [SD.out]; rfl) hW
          rw [← hW]
          have hb68 := H7.out.trans (hb8.mono H7.out.size)
          have R20 := Lib.hid ha
          have R178 := Lib.hid (R176.out.below hb68)
          have H8 := Lib.hid (H6.out.trans (hb68.mono H6.out.size))
          have p0 := (hb68.cell (p := ⟨gd, 0, none⟩) R176.out.lt).trans f0
          have p1 := (hb68.cell (p := ⟨gd, 1, none⟩) R176.out.lt).trans f1
          have p2 := (hb68.cell (p := ⟨gd, 2, none⟩) R176.out.lt).trans f2
          obtain ⟨g20, hg20⟩ : ∃ z, z = w7.heap.size := ⟨_, rfl⟩
          rw [← hg20] at R20 ⊢
          clear hW hb8 ha hb68 hg20 f0 f1 f2 H7 R18 R176 R174 H4 H6
          go_upto_region 19 with (first
            | ((with_reducible show wpList _ _ _ (⟨some 122, _, _, _, _, _⟩ :: _) _ _); refine wpList_loadAG (by rfl) R20.out 26 (.tmp 20) rfl (by first | rfl | simp [Act.eval, Act.put]) Try.underlying26 rfl HSZ.out ?_)
            | ((with_reducible show wpList _ _ _ (⟨some 123, _, _, _, _, _⟩ :: _) _ _); refine wpList_loadAG (by rfl) R178.out 26 (.tmp 17) rfl (by first | rfl | simp [Act.eval, Act.put]) Try.underlying26 rfl HSZ.out ?_)
            | ((with_reducible show wpList _ _ _ (⟨some 124, _, _, _, _, _⟩ :: _) _ _); refine wpList_valG (by rfl) (v := .bool false) (exec_neq 26 (.tmp 122) (.tmp 123) _ rfl _ _ rfl rfl (guardD _ _ _ _ _) (NX.out _)) ?_)
            | ((with_reducible show wpList _ _ _ (⟨some 126, _, _, _, _, _⟩ :: _) _ _); refine wpList_loadA rfl R178.out 26 (.tmp 17) rfl (by first | rfl | simp [Act.eval, Act.put]) Try.underlying26 rfl HSZ.out ?_)
            | (go_at_call 13; refine (num_any _ _).mono ?_; rintro e w' ⟨rfl, rfl⟩)
            | (go_at_call 25; refine (HBY.out _).mono ?_; rintro e w9 ⟨g9, rfl, hg9, hb, hr9⟩; have H9 := Lib.hid (H8.out.trans (hb.mono H8.out.size)); have R9 := Lib.hid hr9; have s0 := (hb.cell (p := ⟨gd, 0, none⟩) R178.out.lt).trans p0; have s1 := (hb.cell (p := ⟨gd, 1, none⟩) R178.out.lt).trans p1; have s2 := (hb.cell (p := ⟨gd, 2, none⟩) R178.out.lt).trans p2; have hgd9 : gd < w9.heap.size := Nat.lt_of_lt_of_le R178.out.lt hb.size; clear hb hr9 hg9))
          clear p0 p1 p2 R20 H8
          obtain ⟨i1, hi1, hy0, hy1, hy2⟩ := info_parts infoU8
          by_cases hik : i < kk
          · skip
            have q6 : decide ((i : Int) < (kk : Int)) = true := decide_eq_true (by omega)
            have O149 := Lib.hid (show w9.ownsRow bs 5 1 u14 (16 * i) (flB l i) by
              have h := own_below HI.out.o14 H9.out
              rw [show min i kk = i by omega] at h
              exact h)
            go_upto_region 22 with (at_builtin; refine wpList_append_lies _ rfl _ _ 42 rfl bs 5 i1 _ 1 1 Try.underlying42 hi1 hy0 hy1 hy2 rfl (by decide) u14 (16 * i) (flB l i) rfl O149.out ⟨g9, 0, none⟩ 16 16 (dBs (l i)) rfl (by rw [dBs_length]) (src_of_row R9.out) (dBs_one _) (by decide) (by unfold maxLen; omega) (by omega) (by have := H9.out.size; omega) w9.heap.size rfl ?_; intro g10 cap10 w10 hown hgr hat hlt; have MID := Lib.hid (push_one HI.out H9.out hwr hik hown hgr hat); have t0 := grown_cell hgr s0 (fun e => by have := (HI.out.o14.lt _ e).2; have e : gd < wr.heap.size := this; omega); have t1 := grown_cell hgr s1 (fun e => by have := (HI.out.o14.lt _ e).2; have e : gd < wr.heap.size := this; omega); have t2 := grown_cell hgr s2 (fun e => by have := (HI.out.o14.lt _ e).2; have e : gd < wr.heap.size := this; omega); have hw10 : w9.heap.size ≤ w10.heap.size := hgr.size; clear hown hgr hat)
            clear s0 s1 s2
            have hbw10 : bs ≤ w10.heap.size := by have := H9.out.size; omega
            have hstp := (stp_bkt (p := fold true l i (N, [])) (km := km) (by rw [← HDK.out]; exact h2) (by rw [HKM.out, HDN.out])).1
            have hz : da = 0 := by have := HGD.out.1.2.2.2; have := HDK.out; have := HDA.out; omega
            have HST := Lib.hid (show fold true l (i + 1) (N, []) = if 0 < km then ((fold true l i (N, [])).1 - km, (fold true l i (N, [])).2 ++ [⟨da, km, true⟩]) else fold true l i (N, []) by rw [hz]; exact hstp)
            clear hz
            clear hstp
            go_upto_region 23 with fail
            rw [HIF.out]
            by_cases hk0 : 0 < km
            · skip
              have qk : decide (0 < km) = true := decide_eq_true hk0
              have hst := HST.out
              rw [if_pos hk0] at hst
              have HS2 := Lib.hid hst
              obtain ⟨i2, hj0, hj1, hj2, hj3⟩ := info_parts infoSp
              clear hst
              go_wp2_with (at_builtin; refine wpList_append_lies _ rfl _ _ 43 rfl bs 62 i2 _ 3 24 Try.underlying43 hj0 hj1 hj2 hj3 rfl (by decide) u12 (fold true l i (N, [])).2.length (spC (fold true l i (N, [])).2) rfl (MID.out.o12.alloc _) ⟨w10.heap.size, 0, none⟩ 1 1 [.int .u64 da, .int .i64 km, .bool true] rfl rfl (World.news_of_block (cs := #[.int .u64 da, .int .i64 km, .bool true]) (t := 62) (fr := (0, 0)) (heap_alloc_new w10 _)) (by simp [Value.oneCell']) (by decide) (by unfold maxLen; omega) (by omega) (by simp; omega) (w10.heap.size + 1) (by simp) ?_; intro g11 cap11 w11 hown11 hgr11 hat11 hlt11; have INV := Lib.hid (mid_push (x := ⟨da, km, true⟩) MID.out ((Below.refl _ w10).alloc (Nat.le_refl _) _) hbw10 HFT.out (by rw [HS2.out]) hown11 hgr11 (by simpa using hat11)); clear hown11 hgr11 hat11)
              have hv13 : Value.int IntKind.i64 (sm + km) = .int .i64 (N - (fold true l (i + 1) (N, [])).1) := by
                rw [HS2.out, HSM.out]
                show Value.int IntKind.i64 _ = .int .i64 (N - ((fold true l i (N, [])).1 - km))
                rw [show N - (fold true l i (N, [])).1 + km = N - ((fold true l i (N, [])).1 - km) by omega]
              have hv16 : Value.int IntKind.i64 ((i : Int) + 1) = .int .i64 ((i + 1 : Nat) : Int) := by rw [Int.natCast_add]; rfl
              go_roundw
              case rel =>
                first
                  | exact ⟨i + 1, by omega, hv16, hv13, INV.out⟩
                  | ((repeat apply Exists.intro); exact ⟨⟨i + 1, by omega, hv16, hv13, INV.out⟩, rfl⟩)
              case measure => simp [intOf]; omega
            · skip
              have hst := HST.out
              have qk : decide (0 < km) = false := decide_eq_false hk0
              rw [if_neg hk0] at hst
              have HS2 := Lib.hid hst
              clear hst
              go_wp2_with fail
              have hv13 : Value.int IntKind.i64 sm = .int .i64 (N - (fold true l (i + 1) (N, [])).1) := by rw [HS2.out, HSM.out]
              have INV := Lib.hid (mid_none MID.out (Below.refl _ w10) HFT.out HS2.out)
              have hv16 : Value.int IntKind.i64 ((i : Int) + 1) = .int .i64 ((i + 1 : Nat) : Int) := by rw [Int.natCast_add]; rfl
              go_roundw
              case rel =>
                first
                  | exact ⟨i + 1, by omega, hv16, hv13, INV.out⟩
                  | ((repeat apply Exists.intro); exact ⟨⟨i + 1, by omega, hv16, hv13, INV.out⟩, rfl⟩)
              case measure => simp [intOf]; omega
          · skip
            have q6 : decide ((i : Int) < (kk : Int)) = false := decide_eq_false (by omega)
            have hik2 : kk ≤ i := Nat.le_of_not_lt hik
            have O149 := Lib.hid (own_below HI.out.o15 H9.out)
            go_upto_region 22 with (at_builtin; refine wpList_append_lies _ rfl _ _ 42 rfl bs 5 i1 _ 1 1 Try.underlying42 hi1 hy0 hy1 hy2 rfl (by decide) u15 (16 * (i - kk)) (flB (fun j => l (kk + j)) (i - kk)) rfl O149.out ⟨g9, 0, none⟩ 16 16 (dBs (l i)) rfl (by rw [dBs_length]) (src_of_row R9.out) (dBs_one _) (by decide) (by unfold maxLen; omega) (by omega) (by have := H9.out.size; omega) w9.heap.size rfl ?_; intro g10 cap10 w10 hown hgr hat hlt; have MID := Lib.hid (push_two HI.out H9.out hwr hik2 hown hgr hat); have t0 := grown_cell hgr s0 (fun e => by have := (HI.out.o15.lt _ e).2; have e : gd < wr.heap.size := this; omega); have t1 := grown_cell hgr s1 (fun e => by have := (HI.out.o15.lt _ e).2; have e : gd < wr.heap.size := this; omega); have t2 := grown_cell hgr s2 (fun e => by have := (HI.out.o15.lt _ e).2; have e : gd < wr.heap.size := this; omega); have hw10 : w9.heap.size ≤ w10.heap.size := hgr.size; clear hown hgr hat)
            clear s0 s1 s2
            have hbw10 : bs ≤ w10.heap.size := by have := H9.out.size; omega
            have hstp := (stp_bkt (p := fold true l i (N, [])) (km := km) (by rw [← HDK.out]; exact h2) (by rw [HKM.out, HDN.out])).1
            have hz : da = 0 := by have := HGD.out.1.2.2.2; have := HDK.out; have := HDA.out; omega
            have HST := Lib.hid (show fold true l (i + 1) (N, []) = if 0 < km then ((fold true l i (N, [])).1 - km, (fold true l i (N, [])).2 ++ [⟨da, km, true⟩]) else fold true l i (N, []) by rw [hz]; exact hstp)
            clear hz
            clear hstp
            go_upto_region 23 with fail
            rw [HIF.out]
            by_cases hk0 : 0 < km
            · skip
              have qk : decide (0 < km) = true := decide_eq_true hk0
              have hst := HST.out
              rw [if_pos hk0] at hst
              have HS2 := Lib.hid hst
              obtain ⟨i2, hj0, hj1, hj2, hj3⟩ := info_parts infoSp
              clear hst
              go_wp2_with (at_builtin; refine wpList_append_lies _ rfl _ _ 43 rfl bs 62 i2 _ 3 24 Try.underlying43 hj0 hj1 hj2 hj3 rfl (by decide) u12 (fold true l i (N, [])).2.length (spC (fold true l i (N, [])).2) rfl (MID.out.o12.alloc _) ⟨w10.heap.size, 0, none⟩ 1 1 [.int .u64 da, .int .i64 km, .bool true] rfl rfl (World.news_of_block (cs := #[.int .u64 da, .int .i64 km, .bool true]) (t := 62) (fr := (0, 0)) (heap_alloc_new w10 _)) (by simp [Value.oneCell']) (by decide) (by unfold maxLen; omega) (by omega) (by simp; omega) (w10.heap.size + 1) (by simp) ?_; intro g11 cap11 w11 hown11 hgr11 hat11 hlt11; have INV := Lib.hid (mid_push (x := ⟨da, km, true⟩) MID.out ((Below.refl _ w10).alloc (Nat.le_refl _) _) hbw10 HFT.out (by rw [HS2.out]) hown11 hgr11 (by simpa using hat11)); clear hown11 hgr11 hat11)
              have hv13 : Value.int IntKind.i64 (sm + km) = .int .i64 (N - (fold true l (i + 1) (N, [])).1) := by
                rw [HS2.out, HSM.out]
                show Value.int IntKind.i64 _ = .int .i64 (N - ((fold true l i (N, [])).1 - km))
                rw [show N - (fold true l i (N, [])).1 + km = N - ((fold true l i (N, [])).1 - km) by omega]
              have hv16 : Value.int IntKind.i64 ((i : Int) + 1) = .int .i64 ((i + 1 : Nat) : Int) := by rw [Int.natCast_add]; rfl
              go_roundw
              case rel =>
                first
                  | exact ⟨i + 1, by omega, hv16, hv13, INV.out⟩
                  | ((repeat apply Exists.intro); exact ⟨⟨i + 1, by omega, hv16, hv13, INV.out⟩, rfl⟩)
              case measure => simp [intOf]; omega
            · skip
              have hst := HST.out
              have qk : decide (0 < km) = false := decide_eq_false hk0
              rw [if_neg hk0] at hst
              have HS2 := Lib.hid hst
              clear hst
              go_wp2_with fail
              have hv13 : Value.int IntKind.i64 sm = .int .i64 (N - (fold true l (i + 1) (N, [])).1) := by rw [HS2.out, HSM.out]
              have INV := Lib.hid (mid_none MID.out (Below.refl _ w10) HFT.out HS2.out)
              have hv16 : Value.int IntKind.i64 ((i : Int) + 1) = .int .i64 ((i + 1 : Nat) : Int) := by rw [Int.natCast_add]; rfl
              go_roundw
              case rel =>
                first
                  | exact ⟨i + 1, by omega, hv16, hv13, INV.out⟩
                  | ((repeat apply Exists.intro); exact ⟨⟨i + 1, by omega, hv16, hv13, INV.out⟩, rfl⟩)
              case measure => simp [intOf]; omega
        · have k2 : (dk != 2) = true := bne_iff_ne.2 h2
          have k2e : (dk == 2) = false := beq_eq_false_iff_ne.2 h2
          have hdt : 8192 ≤ da ∧ da ≤ 16384 ∧ dn ≤ 16384 - da := by have := HDK.out; have := HDA.out; have := HDN.out; have := HDAT.out; omega
          have z1 : decide (da < 8192) = false := decide_eq_false (by omega)
          have z2 : decide (16384 < da) = false := decide_eq_false (by omega)
          have z3 : decide (16384 - da < dn) = false := decide_eq_false (by omega)
          go_upto_region 14 with (first
            | ((with_reducible show wpList _ _ _ (⟨some 67, _, _, _, _, _⟩ :: _) _ _); refine wpList_loadA rfl R17.out 26 (.tmp 17) rfl (by first | rfl | simp [Act.eval, Act.put]) Try.underlying26 rfl HSZ.out ?_)
            | (go_at_call 15; refine (HV.out true hb1 _).mono ?_; rintro e w4 ⟨rfl, hb⟩; have H4 := Lib.hid (H2.out.trans (hb.mono H2.out.size)); have d0 := (hb.cell (p := ⟨gd, 0, none⟩) hgd2).trans c0; have d1 := (hb.cell (p := ⟨gd, 1, none⟩) hgd2).trans c1; have d2 := (hb.cell (p := ⟨gd, 2, none⟩) hgd2).trans c2; have R174 := Lib.hid (R17.out.below hb); clear hb))
          go_upto_region 15 with (first
            | ((with_reducible show wpList _ _ _ (⟨some 106, _, _, _, _, _⟩ :: _) _ _); refine wpList_loadA rfl R174.out 26 (.tmp 17) rfl (by first | rfl | simp [Act.eval, Act.put]) Try.underlying26 rfl HSZ.out ?_)
            | (go_at_call 10; refine (HEN.out _).mono ?_; rintro e w5 ⟨rfl, hb⟩; have H5 := Lib.hid hb; clear hb)
            | ((with_reducible show wpList _ _ _ (⟨some 18, _, _, _, _, _⟩ :: _) _ _); refine wpList_alloc rfl 27 rfl zero2 ?_; rw [show (Value.agg zer2).cells = zer2 from rfl])
            | ((with_reducible show wpList _ _ _ (⟨none, .store _ (.tmp 18) _, _, _, _, _⟩ :: _) _ _); refine wpList_storeA rfl (b := w5.heap.size) (A := zer2) (A' := E) (ArrAt.fresh w5 zer2 _ (by decide)) 27 (.tmp 18) (.tmp 108) rfl (by simp [Act.eval, Act.put]) (by simp [Act.eval, Act.put]) size2z (by rw [SE.out]; rfl) OE.out ?_))
          obtain ⟨W6, hW⟩ : ∃ z, z = (w5.alloc (.cells zer2 27)).setCells w5.heap.size 0 E.toList := ⟨_, rfl⟩
          obtain ⟨hb6, ha⟩ := stored_at (by decide) (by rw [SE.out]; rfl) hW
          rw [← hW]
          have hb46 := H5.out.trans (hb6.mono H5.out.size)
          have R18 := Lib.hid ha
          have R176 := Lib.hid (R174.out.below hb46)
          have H6 := Lib.hid (H4.out.trans (hb46.mono H4.out.size))
          have f0 := (hb46.cell (p := ⟨gd, 0, none⟩) R174.out.lt).trans d0
          have f1 := (hb46.cell (p := ⟨gd, 1, none⟩) R174.out.lt).trans d1
          have f2 := (hb46.cell (p := ⟨gd, 2, none⟩) R174.out.lt).trans d2
          obtain ⟨g18, hg18⟩ : ∃ z, z = w5.heap.size := ⟨_, rfl⟩
          rw [← hg18] at R18 ⊢
          clear hW hb6 ha hb46 hg18 d0 d1 d2 c0 c1 c2 H5
          go_upto_region 16 with (first
            | ((with_reducible show wpList _ _ _ (⟨some 111, _, _, _, _, _⟩ :: _) _ _); refine wpList_loadA rfl R18.out 27 (.tmp 18) rfl (by first | rfl | simp [Act.eval, Act.put]) Try.underlying27 rfl IE.out ?_)
            | (go_at_call 11; refine (HDE.out _).mono ?_; rintro e w7 ⟨rfl, hb⟩; have H7 := Lib.hid hb; clear hb)
            | ((with_reducible show wpList _ _ _ (⟨some 20, _, _, _, _, _⟩ :: _) _ _); refine wpList_alloc rfl 26 rfl zeroD ?_; rw [show (Value.agg zDsc.cells).cells = zDsc.cells from rfl])
            | ((with_reducible show wpList _ _ _ (⟨none, .store _ (.tmp 20) _, _, _, _, _⟩ :: _) _ _); refine wpList_storeA rfl (b := w7.heap.size) (A := zDsc.cells) (A' := D) (ArrAt.fresh w7 zDsc.cells _ (by decide)) 26 (.tmp 20) (.tmp 113) rfl (by simp [Act.eval, Act.put]) (by simp [Act.eval, Act.put]) (sizeDs _) (by rw [SD.out]; rfl) OD.out ?_))
          obtain ⟨W8, hW⟩ : ∃ z, z = (w7.alloc (.cells zDsc.cells 26)).setCells w7.heap.size 0 D.toList := ⟨_, rfl⟩
          obtain ⟨hb8, ha⟩ := stored_at (by decide) (by rw [SD.out]; rfl) hW
          rw [← hW]
          have hb68 := H7.out.trans (hb8.mono H7.out.size)
          have R20 := Lib.hid ha
          have R178 := Lib.hid (R176.out.below hb68)
          have H8 := Lib.hid (H6.out.trans (hb68.mono H6.out.size))
          have p0 := (hb68.cell (p := ⟨gd, 0, none⟩) R176.out.lt).trans f0
          have p1 := (hb68.cell (p := ⟨gd, 1, none⟩) R176.out.lt).trans f1
          have p2 := (hb68.cell (p := ⟨gd, 2, none⟩) R176.out.lt).trans f2
          obtain ⟨g20, hg20⟩ : ∃ z, z = w7.heap.size := ⟨_, rfl⟩
          rw [← hg20] at R20 ⊢
          clear hW hb8 ha hb68 hg20 f0 f1 f2 H7 R18 R176 R174 H4 H6
          go_upto_region 19 with (first
            | ((with_reducible show wpList _ _ _ (⟨some 122, _, _, _, _, _⟩ :: _) _ _); refine wpList_loadAG (by rfl) R20.out 26 (.tmp 20) rfl (by first | rfl | simp [Act.eval, Act.put]) Try.underlying26 rfl HSZ.out ?_)
            | ((with_reducible show wpList _ _ _ (⟨some 123, _, _, _, _, _⟩ :: _) _ _); refine wpList_loadAG (by rfl) R178.out 26 (.tmp 17) rfl (by first | rfl | simp [Act.eval, Act.put]) Try.underlying26 rfl HSZ.out ?_)
            | ((with_reducible show wpList _ _ _ (⟨some 124, _, _, _, _, _⟩ :: _) _ _); refine wpList_valG (by rfl) (v := .bool false) (exec_neq 26 (.tmp 122) (.tmp 123) _ rfl _ _ rfl rfl (guardD _ _ _ _ _) (NX.out _)) ?_)
            | ((with_reducible show wpList _ _ _ (⟨some 126, _, _, _, _, _⟩ :: _) _ _); refine wpList_loadA rfl R178.out 26 (.tmp 17) rfl (by first | rfl | simp [Act.eval, Act.put]) Try.underlying26 rfl HSZ.out ?_)
            | (go_at_call 13; refine (num_any _ _).mono ?_; rintro e w' ⟨rfl, rfl⟩)
            | (go_at_call 25; refine (HBY.out _).mono ?_; rintro e w9 ⟨g9, rfl, hg9, hb, hr9⟩; have H9 := Lib.hid (H8.out.trans (hb.mono H8.out.size)); have R9 := Lib.hid hr9; have s0 := (hb.cell (p := ⟨gd, 0, none⟩) R178.out.lt).trans p0; have s1 := (hb.cell (p := ⟨gd, 1, none⟩) R178.out.lt).trans p1; have s2 := (hb.cell (p := ⟨gd, 2, none⟩) R178.out.lt).trans p2; have hgd9 : gd < w9.heap.size := Nat.lt_of_lt_of_le R178.out.lt hb.size; clear hb hr9 hg9))
          clear p0 p1 p2 R20 H8
          obtain ⟨i1, hi1, hy0, hy1, hy2⟩ := info_parts infoU8
          by_cases hik : i < kk
          · skip
            have q6 : decide ((i : Int) < (kk : Int)) = true := decide_eq_true (by omega)
            have O149 := Lib.hid (show w9.ownsRow bs 5 1 u14 (16 * i) (flB l i) by
              have h := own_below HI.out.o14 H9.out
              rw [show min i kk = i by omega] at h
              exact h)
            go_upto_region 22 with (at_builtin; refine wpList_append_lies _ rfl _ _ 42 rfl bs 5 i1 _ 1 1 Try.underlying42 hi1 hy0 hy1 hy2 rfl (by decide) u14 (16 * i) (flB l i) rfl O149.out ⟨g9, 0, none⟩ 16 16 (dBs (l i)) rfl (by rw [dBs_length]) (src_of_row R9.out) (dBs_one _) (by decide) (by unfold maxLen; omega) (by omega) (by have := H9.out.size; omega) w9.heap.size rfl ?_; intro g10 cap10 w10 hown hgr hat hlt; have MID := Lib.hid (push_one HI.out H9.out hwr hik hown hgr hat); have t0 := grown_cell hgr s0 (fun e => by have := (HI.out.o14.lt _ e).2; have e : gd < wr.heap.size := this; omega); have t1 := grown_cell hgr s1 (fun e => by have := (HI.out.o14.lt _ e).2; have e : gd < wr.heap.size := this; omega); have t2 := grown_cell hgr s2 (fun e => by have := (HI.out.o14.lt _ e).2; have e : gd < wr.heap.size := this; omega); have hw10 : w9.heap.size ≤ w10.heap.size := hgr.size; clear hown hgr hat)
            clear s0 s1 s2
            have hbw10 : bs ≤ w10.heap.size := by have := H9.out.size; omega
            have hstp := stp_data (th := true) (p := fold true l i (N, [])) (km := km) (by rw [← HDK.out]; exact h2) (by rw [HKM.out, HDN.out])
            rw [← HDA.out] at hstp
            have HST := Lib.hid (show fold true l (i + 1) (N, []) = _ from hstp)
            clear hstp
            go_upto_region 23 with fail
            rw [HIF.out]
            by_cases hk0 : 0 < km
            · skip
              have qk : decide (0 < km) = true := decide_eq_true hk0
              have hst := HST.out
              rw [if_pos hk0] at hst
              have HS2 := Lib.hid hst
              obtain ⟨i2, hj0, hj1, hj2, hj3⟩ := info_parts infoSp
              clear hst
              go_wp2_with (at_builtin; refine wpList_append_lies _ rfl _ _ 43 rfl bs 62 i2 _ 3 24 Try.underlying43 hj0 hj1 hj2 hj3 rfl (by decide) u12 (fold true l i (N, [])).2.length (spC (fold true l i (N, [])).2) rfl (MID.out.o12.alloc _) ⟨w10.heap.size, 0, none⟩ 1 1 [.int .u64 da, .int .i64 km, .bool false] rfl rfl (World.news_of_block (cs := #[.int .u64 da, .int .i64 km, .bool false]) (t := 62) (fr := (0, 0)) (heap_alloc_new w10 _)) (by simp [Value.oneCell']) (by decide) (by unfold maxLen; omega) (by omega) (by simp; omega) (w10.heap.size + 1) (by simp) ?_; intro g11 cap11 w11 hown11 hgr11 hat11 hlt11; have INV := Lib.hid (mid_push (x := ⟨da, km, false⟩) MID.out ((Below.refl _ w10).alloc (Nat.le_refl _) _) hbw10 HFT.out (by rw [HS2.out]) hown11 hgr11 (by simpa using hat11)); clear hown11 hgr11 hat11)
              have hv13 : Value.int IntKind.i64 (sm + km) = .int .i64 (N - (fold true l (i + 1) (N, [])).1) := by
                rw [HS2.out, HSM.out]
                show Value.int IntKind.i64 _ = .int .i64 (N - ((fold true l i (N, [])).1 - km))
                rw [show N - (fold true l i (N, [])).1 + km = N - ((fold true l i (N, [])).1 - km) by omega]
              have hv16 : Value.int IntKind.i64 ((i : Int) + 1) = .int .i64 ((i + 1 : Nat) : Int) := by rw [Int.natCast_add]; rfl
              go_roundw
              case rel =>
                first
                  | exact ⟨i + 1, by omega, hv16, hv13, INV.out⟩
                  | ((repeat apply Exists.intro); exact ⟨⟨i + 1, by omega, hv16, hv13, INV.out⟩, rfl⟩)
              case measure => simp [intOf]; omega
            · skip
              have hst := HST.out
              have qk : decide (0 < km) = false := decide_eq_false hk0
              rw [if_neg hk0] at hst
              have HS2 := Lib.hid hst
              clear hst
              go_wp2_with fail
              have hv13 : Value.int IntKind.i64 sm = .int .i64 (N - (fold true l (i + 1) (N, [])).1) := by rw [HS2.out, HSM.out]
              have INV := Lib.hid (mid_none MID.out (Below.refl _ w10) HFT.out HS2.out)
              have hv16 : Value.int IntKind.i64 ((i : Int) + 1) = .int .i64 ((i + 1 : Nat) : Int) := by rw [Int.natCast_add]; rfl
              go_roundw
              case rel =>
                first
                  | exact ⟨i + 1, by omega, hv16, hv13, INV.out⟩
                  | ((repeat apply Exists.intro); exact ⟨⟨i + 1, by omega, hv16, hv13, INV.out⟩, rfl⟩)
              case measure => simp [intOf]; omega
          · skip
            have q6 : decide ((i : Int) < (kk : Int)) = false := decide_eq_false (by omega)
            have hik2 : kk ≤ i := Nat.le_of_not_lt hik
            have O149 := Lib.hid (own_below HI.out.o15 H9.out)
            go_upto_region 22 with (at_builtin; refine wpList_append_lies _ rfl _ _ 42 rfl bs 5 i1 _ 1 1 Try.underlying42 hi1 hy0 hy1 hy2 rfl (by decide) u15 (16 * (i - kk)) (flB (fun j => l (kk + j)) (i - kk)) rfl O149.out ⟨g9, 0, none⟩ 16 16 (dBs (l i)) rfl (by rw [dBs_length]) (src_of_row R9.out) (dBs_one _) (by decide) (by unfold maxLen; omega) (by omega) (by have := H9.out.size; omega) w9.heap.size rfl ?_; intro g10 cap10 w10 hown hgr hat hlt; have MID := Lib.hid (push_two HI.out H9.out hwr hik2 hown hgr hat); have t0 := grown_cell hgr s0 (fun e => by have := (HI.out.o15.lt _ e).2; have e : gd < wr.heap.size := this; omega); have t1 := grown_cell hgr s1 (fun e => by have := (HI.out.o15.lt _ e).2; have e : gd < wr.heap.size := this; omega); have t2 := grown_cell hgr s2 (fun e => by have := (HI.out.o15.lt _ e).2; have e : gd < wr.heap.size := this; omega); have hw10 : w9.heap.size ≤ w10.heap.size := hgr.size; clear hown hgr hat)
            clear s0 s1 s2
            have hbw10 : bs ≤ w10.heap.size := by have := H9.out.size; omega
            have hstp := stp_data (th := true) (p := fold true l i (N, [])) (km := km) (by rw [← HDK.out]; exact h2) (by rw [HKM.out, HDN.out])
            rw [← HDA.out] at hstp
            have HST := Lib.hid (show fold true l (i + 1) (N, []) = _ from hstp)
            clear hstp
            go_upto_region 23 with fail
            rw [HIF.out]
            by_cases hk0 : 0 < km
            · skip
              have qk : decide (0 < km) = true := decide_eq_true hk0
              have hst := HST.out
              rw [if_pos hk0] at hst
              have HS2 := Lib.hid hst
              obtain ⟨i2, hj0, hj1, hj2, hj3⟩ := info_parts infoSp
              clear hst
              go_wp2_with (at_builtin; refine wpList_append_lies _ rfl _ _ 43 rfl bs 62 i2 _ 3 24 Try.underlying43 hj0 hj1 hj2 hj3 rfl (by decide) u12 (fold true l i (N, [])).2.length (spC (fold true l i (N, [])).2) rfl (MID.out.o12.alloc _) ⟨w10.heap.size, 0, none⟩ 1 1 [.int .u64 da, .int .i64 km, .bool false] rfl rfl (World.news_of_block (cs := #[.int .u64 da, .int .i64 km, .bool false]) (t := 62) (fr := (0, 0)) (heap_alloc_new w10 _)) (by simp [Value.oneCell']) (by decide) (by unfold maxLen; omega) (by omega) (by simp; omega) (w10.heap.size + 1) (by simp) ?_; intro g11 cap11 w11 hown11 hgr11 hat11 hlt11; have INV := Lib.hid (mid_push (x := ⟨da, km, false⟩) MID.out ((Below.refl _ w10).alloc (Nat.le_refl _) _) hbw10 HFT.out (by rw [HS2.out]) hown11 hgr11 (by simpa using hat11)); clear hown11 hgr11 hat11)
              have hv13 : Value.int IntKind.i64 (sm + km) = .int .i64 (N - (fold true l (i + 1) (N, [])).1) := by
                rw [HS2.out, HSM.out]
                show Value.int IntKind.i64 _ = .int .i64 (N - ((fold true l i (N, [])).1 - km))
                rw [show N - (fold true l i (N, [])).1 + km = N - ((fold true l i (N, [])).1 - km) by omega]
              have hv16 : Value.int IntKind.i64 ((i : Int) + 1) = .int .i64 ((i + 1 : Nat) : Int) := by rw [Int.natCast_add]; rfl
              go_roundw
              case rel =>
                first
                  | exact ⟨i + 1, by omega, hv16, hv13, INV.out⟩
                  | ((repeat apply Exists.intro); exact ⟨⟨i + 1, by omega, hv16, hv13, INV.out⟩, rfl⟩)
              case measure => simp [intOf]; omega
            · skip
              have hst := HST.out
              have qk : decide (0 < km) = false := decide_eq_false hk0
              rw [if_neg hk0] at hst
              have HS2 := Lib.hid hst
              clear hst
              go_wp2_with fail
              have hv13 : Value.int IntKind.i64 sm = .int .i64 (N - (fold true l (i + 1) (N, [])).1) := by rw [HS2.out, HSM.out]
              have INV := Lib.hid (mid_none MID.out (Below.refl _ w10) HFT.out HS2.out)
              have hv16 : Value.int IntKind.i64 ((i : Int) + 1) = .int .i64 ((i + 1 : Nat) : Int) := by rw [Int.natCast_add]; rfl
              go_roundw
              case rel =>
                first
                  | exact ⟨i + 1, by omega, hv16, hv13, INV.out⟩
                  | ((repeat apply Exists.intro); exact ⟨⟨i + 1, by omega, hv16, hv13, INV.out⟩, rfl⟩)
              case measure => simp [intOf]; omega
    · skip
      obtain rfl : n = i := by omega
      have q5 : decide ((n : Int) < (n : Int)) = false := decide_eq_false (by omega)
      obtain ⟨m, hm⟩ : ∃ m, m = n - kk := ⟨_, rfl⟩
      have hm1 : 1 ≤ m := by omega
      have hm2 : kk + m = n := by omega
      have hmb : m ≤ 20 := by omega
      have O14 : wr.ownsRow bs 5 1 u14 (16 * kk) (flB l kk) := by
        have h := HI.out.o14
        rw [show min n kk = kk by omega] at h
        exact h
      have O15 : wr.ownsRow bs 5 1 u15 (16 * m) (flB (fun j => l (kk + j)) m) := by
        have h := HI.out.o15
        rw [← hm] at h
        exact h
      have HOK2 := Lib.hid (fun j (hj : j < m) => HOK.out (kk + j) (by omega))
      have HM2 := Lib.hid hm2
      clear hm hm2
      obtain ⟨av, cv, hav, -⟩ := ownsRow_shape O15
      have hsl : u15 ≠ .slice none 0 0 := fun e => by rw [hav] at e; injection e with e1 e2 e3; omega
      have hnl := newL_of_owns O15 hsl (flB_length (fun j => l (kk + j)) m)
      obtain ⟨g15, cap15, F15, eg, hg15, hr15, hc15, hc15m, hx15⟩ := hnl
      clear hav hsl
      subst eg
      have hg15w : g15 < wr.heap.size := hr15.lt
      clear hr15 hc15 hc15m hx15 F15
      obtain ⟨ao12, c12, h12, -⟩ := ownsRow_shape HI.out.o12
      subst h12
      have HO14 := Lib.hid O14
      have HO15 := Lib.hid O15
      clear O14 O15
      obtain ⟨sm, hsm⟩ : ∃ z, z = N - (fold true l n (N, [])).1 := ⟨_, rfl⟩
      rw [← hsm]
      obtain ⟨fb0, fb1, fb2⟩ := fold_bd true l N hN0 n
      obtain ⟨ln, hln⟩ : ∃ z, z = (fold true l n (N, [])).2.length := ⟨_, rfl⟩
      rw [← hln] at fb2 ⊢
      have HLN := Lib.hid hln
      have HSM := Lib.hid hsm
      clear hsm hln
      obtain ⟨m16, hm16⟩ : ∃ z, z = 16 * m := ⟨_, rfl⟩
      rw [← hm16]
      obtain ⟨DL, hDL⟩ : ∃ A : Array Value, A = (hdL m).cells := ⟨_, rfl⟩
      have BDL := Lib.hid (show ∀ w, (Instr.build 26 #[(0, .int .i64 4), (1, .int .u64 4096), (2, .int .i64 (m16 : Nat))]).run Try.prog w = .ok (.agg DL) w by rw [hDL, hm16]; exact build_last _ _)
      have HBY := Lib.hid (show ∀ W, Calls Try.prog 25 #[.agg DL] W fun e w' => NewRow W w' 16 (dB (hdL m)) e from fun W => by rw [hDL]; exact bytes_any (hdL m) W (ok_seg (k := 4) (.inr rfl) (A := 4096) (by omega) (by omega)))
      have HM16 := Lib.hid hm16
      clear hDL hm16
      obtain ⟨i1, hi1, hy0, hy1, hy2⟩ := info_parts infoU8
      go_upto_region 27 with (first
        | ((with_reducible show wpList _ _ _ (⟨some 169, _, _, _, _, _⟩ :: _) _ _); refine wpList_buildC rfl 26 #[(0, .const (.int .i64 4)), (1, .const (.int .u64 4096)), (2, .tmp 168)] rfl #[(0, .int .i64 4), (1, .int .u64 4096), (2, .int .i64 (m16 : Nat))] (by simp [Act.eval, Act.put]) (BDL.out _) ?_)
        | (go_at_call 25; refine (HBY.out _).mono ?_; rintro e w9 ⟨g9, rfl, hg9, hb, hr9⟩; have H9 := Lib.hid hb; have R9 := Lib.hid hr9; have O149 := Lib.hid (own_below HO14.out hb); clear hb hr9 hg9)
        | (at_builtin; refine wpList_append_lies _ rfl _ _ 42 rfl bs 5 i1 _ 1 1 Try.underlying42 hi1 hy0 hy1 hy2 rfl (by decide) u14 (16 * kk) (flB l kk) rfl O149.out ⟨g9, 0, none⟩ 16 16 (dBs (hdL m)) rfl (by rw [dBs_length]) (src_of_row R9.out) (dBs_one _) (by decide) (by unfold maxLen; omega) (by omega) (by have := H9.out.size; omega) w9.heap.size rfl ?_; intro g10 cap10 w10 hown hgr hat hlt; have OW := Lib.hid hown; have HGR := Lib.hid hgr; clear hown hgr hat))
      have P12 := own_below HI.out.o12 H9.out
      have P15 := own_below HO15.out H9.out
      have Q12 := Lib.hid (P12.kept HGR.out HI.out.a1.symm.hne)
      have Q15 := Lib.hid (P15.kept HGR.out HI.out.a3.hne)
      have K10 := HI.out.keep.trans (grown_keeps H9.out HO14.out hwr HGR.out)
      have M10 := Lib.hid (M1.out.kept K10 (fun e => by have e : bs ≤ b := e; omega) (fun e => by have e : bs ≤ B := e; omega))
      have B10 := Lib.hid (B1.out.trans (K10.below (B := w.heap.size) (by omega) (fun j hj e => by have e : bs ≤ j := e; omega)))
      have D10 := Lib.hid (D1.out.below (K10.below (B := bs) (by omega) (fun j hj e => by have e : bs ≤ j := e; omega)) (fun g o e => by cases e; exact hgb))
      have hw10 : bs ≤ w10.heap.size := by have := K10.size; omega
      rw [← HM16.out] at Q15
      have hq14 : w10.ownsRow bs 5 1 (.slice (some ⟨g10, 0, none⟩) (16 * (kk + 1)) cap10) (16 * (kk + 1)) (flB (onL l kk (hdL m)) (kk + 1)) := by
        rw [flB_on1, show 16 * (kk + 1) = 16 * kk + 16 by omega]
        exact OW.out
      obtain ⟨k16, hk16⟩ : ∃ z, z = 16 * kk + 16 := ⟨_, rfl⟩
      rw [← hk16]
      have hk16' : k16 = 16 * (kk + 1) := by omega
      rw [← hk16'] at hq14
      have Q14 := Lib.hid hq14
      have HK16 := Lib.hid hk16'
      have hk16b : k16 ≤ 400 := by omega
      have hm16b : m16 ≤ 400 := by have := HM16.out; omega
      clear hq14 hk16 hk16' P12 P15 K10 O149 OW HGR R9 H9 BDL HBY
      obtain ⟨YL, hYL⟩ : ∃ A : Array Value, A = (⟨3, 512, (k16 : Nat), 0⟩ : Dsc).cells := ⟨_, rfl⟩
      have SYL := Lib.hid (show YL.size = 4 by rw [hYL]; rfl)
      have OYL := Lib.hid (show YL.all (·.oneCell') = true by rw [hYL]; exact Dsc.one _)
      have IYL := Lib.hid (show (Try.prog.info? 26).map (·.size) = some YL.size by rw [SYL.out]; exact sizeD)
      have BYL := Lib.hid (show ∀ w, (Instr.build 26 #[(0, .int .i64 3), (1, .int .u64 512), (2, .int .i64 (k16 : Nat))]).run Try.prog w = .ok (.agg YL) w by rw [hYL]; exact build_seg _ _)
      have HYL := Lib.hid hYL
      clear hYL
      go_upto_region 28 with (first
        | ((with_reducible show wpList _ _ _ (⟨some 174, _, _, _, _, _⟩ :: _) _ _); refine wpList_buildC rfl 26 #[(0, .const (.int .i64 3)), (1, .const (.int .u64 512)), (2, .tmp 173)] rfl #[(0, .int .i64 3), (1, .int .u64 512), (2, .int .i64 (k16 : Nat))] (by simp [Act.eval, Act.put]) (BYL.out _) ?_)
        | ((with_reducible show wpList _ _ _ (⟨some 24, _, _, _, _, _⟩ :: _) _ _); refine wpList_alloc rfl 26 rfl zeroD ?_; rw [show (Value.agg zDsc.cells).cells = zDsc.cells from rfl])
        | ((with_reducible show wpList _ _ _ (⟨none, .store _ (.tmp 24) _, _, _, _, _⟩ :: _) _ _); refine wpList_storeA rfl (b := w10.heap.size) (A := zDsc.cells) (A' := YL) (ArrAt.fresh w10 zDsc.cells _ (by decide)) 26 (.tmp 24) (.tmp 174) rfl (by simp [Act.eval, Act.put]) (by simp [Act.eval, Act.put]) (sizeDs _) (by rw [SYL.out]; rfl) OYL.out ?_))
      obtain ⟨W11, hW⟩ : ∃ z, z = (w10.alloc (.cells zDsc.cells 26)).setCells w10.heap.size 0 YL.toList := ⟨_, rfl⟩
      obtain ⟨hb11, ha11⟩ := stored_at (by decide) (by rw [SYL.out]; rfl) hW
      rw [← hW]
      obtain ⟨g24, hg24⟩ : ∃ z, z = w10.heap.size := ⟨_, rfl⟩
      rw [← hg24] at ha11 ⊢
      have hg24b : bs ≤ g24 := by omega
      have hw11 : bs ≤ W11.heap.size := by have := hb11.size; omega
      have R24 := Lib.hid ha11
      have S12 := Lib.hid (own_below Q12.out hb11)
      have S14 := Lib.hid (own_below Q14.out hb11)
      have S15 := Lib.hid (own_below Q15.out hb11)
      have M11 := Lib.hid (M10.out.below hb11)
      have D11 := Lib.hid (D10.out.below hb11 (fun g o e => by cases e; omega))
      have B11 := Lib.hid (B10.out.trans (hb11.mono B10.out.size))
      clear hW hb11 ha11 hg24 Q12 Q14 Q15 M10 D10 B10 BYL
      have htwo : ∀ j, bs ≤ j → ¬ Two b B j := fun j hj e => by rcases e with e | e <;> omega
      have HTWO := Lib.hid htwo
      have HW1 := Lib.hid (show ∀ W, MemAt W b B 16384 (fun _ => 0) [] → W.ownsRow bs 5 1 (.slice (some ⟨g10, 0, none⟩) k16 cap10) k16 (flB (onL l kk (hdL m)) (kk + 1)) → Calls Try.prog 26 #[.pointer (some ⟨b, 0, none⟩), .int .u64 512, .slice (some ⟨g10, 0, none⟩) k16 cap10] W fun e w' => e = .returned (.int .i64 0) ∧ Keeps (Two b B) W w' ∧ ∃ L', L'.length = 1 ∧ MemAt w' b B 16384 (upd (fun _ => 0) 512 (16 * (kk + 1)) (lsB (onL l kk (hdL m)))) L' by
        rw [HK16.out]
        exact fun W hM ho => write_own (a := 512) hM (by simp) rfl (by omega) ho hbb hBB (by omega) (by omega))
      obtain ⟨f1, hf1⟩ : ∃ z, z = upd (fun _ => 0) 512 (16 * (kk + 1)) (lsB (onL l kk (hdL m))) := ⟨_, rfl⟩
      rw [← hf1] at HW1
      have HW2 := Lib.hid (show ∀ W L, L.length = 1 → MemAt W b B 16384 f1 L → W.ownsRow bs 5 1 (.slice (some ⟨g15, 0, none⟩) m16 cap15) m16 (flB (fun j => l (kk + j)) m) → Calls Try.prog 26 #[.pointer (some ⟨b, 0, none⟩), .int .u64 4096, .slice (some ⟨g15, 0, none⟩) m16 cap15] W fun e w' => e = .returned (.int .i64 0) ∧ Keeps (Two b B) W w' ∧ ∃ L', L'.length = 2 ∧ MemAt w' b B 16384 (upd f1 4096 (16 * m) (lsB fun j => l (kk + j))) L' by
        rw [HM16.out]
        exact fun W L hL hM ho => (write_own (a := 4096) hM (by omega) rfl (by omega) ho hbb hBB (by omega) (by omega)).mono fun e w' ⟨h1, h2, L', h3, h4⟩ => ⟨h1, h2, L', by omega, h4⟩)
      go_upto_region 29 with (first
        | (go_at_call 26; refine (HW2.out w12 L12 hL12 M12.out (ownsRow_keeps S15.out K12.out HTWO.out)).mono ?_; rintro e w13 ⟨rfl, hk, L13, hL13, hm⟩; have M13 := Lib.hid hm; have K13 := Lib.hid (K12.out.trans hk); have HL13 := Lib.hid hL13; clear hk hm hL13)
        | (go_at_call 26; refine (HW1.out W11 M11.out S14.out).mono ?_; rintro e w12 ⟨rfl, hk, L12, hL12, hm⟩; have M12 := Lib.hid hm; have K12 := Lib.hid hk; clear hk hm))
      obtain ⟨f2, hf2⟩ : ∃ z, z = upd f1 4096 (16 * m) (lsB fun j => l (kk + j)) := ⟨_, rfl⟩
      have M13b := Lib.hid (show MemAt w13 b B 16384 f2 L13 by rw [hf2]; exact M13.out)
      obtain ⟨f3, hf3⟩ : ∃ z, z = upd f2 2048 (16 * n) (lstB l) := ⟨_, rfl⟩
      have HF3 := Lib.hid (show f3 = hldF l kk m n by rw [hf3, hf2, hf1]; rfl)
      have D13 := Lib.hid (show DAt w13 (some ⟨ga, oa, none⟩) n l from fun i hi => by
        obtain ⟨g', o', e, hr⟩ := D11.out i hi
        cases e
        exact ⟨ga, oa, rfl, fun j v hv => K13.out.cell (hr j v hv) (fun e => by rcases e with e | e <;> (have e : ga = _ := e; omega))⟩)
      have T12 := Lib.hid (ownsRow_keeps S12.out K13.out HTWO.out)
      have R243 := Lib.hid (R24.out.kept K13.out (HTWO.out _ hg24b))
      have B13 := Lib.hid (B11.out.trans (K13.out.below (B := w.heap.size) (by omega) (fun j hj e => by rcases e with e | e <;> omega)))
      have hw13 : bs ≤ w13.heap.size := by have := K13.out.size; omega
      have HBL := Lib.hid (show Calls Try.prog 19 #[.pointer (some ⟨b, 0, none⟩), .int .u64 2048, .slice (some ⟨ga, oa, none⟩) n c] w13 fun e w' => e = .returned (.tuple #[.agg (⟨4, 2048, (16 * n : Nat), 0⟩ : Dsc).cells, .int .i64 0]) ∧ Keeps (Two b B) w13 w' ∧ ∃ L', MemAt w' b B 16384 f3 L' by rw [hf3]; exact bld_fits b B n c _ l f2 L13 w13 M13b.out D13.out HOK.out HI.out.fits h2 h20 (by have := HL13.out; omega))
      obtain ⟨ZL, hZL⟩ : ∃ A : Array Value, A = (⟨4, 2048, (16 * n : Nat), 0⟩ : Dsc).cells := ⟨_, rfl⟩
      have SZL := Lib.hid (show ZL.size = 4 by rw [hZL]; rfl)
      have OZL := Lib.hid (show ZL.all (·.oneCell') = true by rw [hZL]; exact Dsc.one _)
      have IZL := Lib.hid (show (Try.prog.info? 26).map (·.size) = some ZL.size by rw [SZL.out]; exact sizeD)
      rw [← hZL] at HBL
      have HZL := Lib.hid hZL
      clear hf1 hf2 hf3 hZL M13 M13b S12 S14 S15 R24 B11 D11 M11 K13 M12 K12 HW1 HW2
      go_upto_region 30 with (first
        | (go_at_call 19; refine HBL.out.mono ?_; rintro e w14 ⟨rfl, hk, L14, hm⟩; have M14 := Lib.hid hm; have K14 := Lib.hid hk; clear hk hm)
        | ((with_reducible show wpList _ _ _ (⟨some 27, _, _, _, _, _⟩ :: _) _ _); refine wpList_alloc rfl 26 rfl zeroD ?_; rw [show (Value.agg zDsc.cells).cells = zDsc.cells from rfl])
        | ((with_reducible show wpList _ _ _ (⟨none, .store _ (.tmp 27) _, _, _, _, _⟩ :: _) _ _); refine wpList_storeA rfl (b := w14.heap.size) (A := zDsc.cells) (A' := ZL) (ArrAt.fresh w14 zDsc.cells _ (by decide)) 26 (.tmp 27) (.tmp 185) rfl (by simp [Act.eval, Act.put]) (by simp [Act.eval, Act.put]) (sizeDs _) (by rw [SZL.out]; rfl) OZL.out ?_))
      obtain ⟨W15, hW⟩ : ∃ z, z = (w14.alloc (.cells zDsc.cells 26)).setCells w14.heap.size 0 ZL.toList := ⟨_, rfl⟩
      obtain ⟨hb15, ha15⟩ := stored_at (by decide) (by rw [SZL.out]; rfl) hW
      rw [← hW]
      have hw14 : bs ≤ w14.heap.size := by have := K14.out.size; omega
      have T15 := Lib.hid (own_below (ownsRow_keeps T12.out K14.out HTWO.out) hb15)
      have R2415 := Lib.hid ((R243.out.kept K14.out (HTWO.out _ hg24b)).below hb15)
      have R2715 := Lib.hid ha15
      have M15 := Lib.hid (M14.out.below hb15)
      have b14 := B13.out.trans (K14.out.below (B := w.heap.size) (by omega) (fun j hj e => by rcases e with e | e <;> omega))
      have B15 := Lib.hid (b14.trans (hb15.mono b14.size))
      obtain ⟨g27, hg27⟩ : ∃ z, z = w14.heap.size := ⟨_, rfl⟩
      rw [← hg27] at R2715 ⊢
      clear hW hb15 ha15 hg27 b14 T12 R243 M14 K14 B13 D13 HBL
      have hzo : (⟨4, 2048, (16 * n : Nat), 0⟩ : Dsc).Ok := ok_seg (k := 4) (.inr rfl) (A := 2048) (by omega) (by omega)
      have hyo : (⟨3, 512, (k16 : Nat), 0⟩ : Dsc).Ok := by rw [HK16.out]; exact ok_seg (k := 3) (.inl rfl) (A := 512) (by omega) (by omega)
      obtain ⟨hr1, hr2⟩ := hld_spans l kk m n N true HI.out.fits HOK.out hk1 hm1 HM2.out h20 hN0 hN1
      have HR2 : spansM (hldF l kk m n) 16384 ⟨3, 512, (k16 : Nat), 0⟩ N true = hldR true l n N := by rw [HK16.out]; exact hr2
      by_cases hx0 : (fold true l n (N, [])).1 = 0
      · have q6 : decide (sm < N) = false := decide_eq_false (by have := HSM.out; omega)
        have HZ := Lib.hid (show ∀ W L, MemAt W b B 16384 f3 L → W.ownsRow bs 62 3 (.slice ao12 ln c12) ln (spC (fold true l n (N, [])).2) → Calls Try.prog 27 #[.pointer (some ⟨b, 0, none⟩), .agg ZL, .int .i64 N, .bool true, .int .i64 0, .slice ao12 ln c12] W fun e w' => e = .returned (.bool true) ∧ Below W.heap.size W w' by
          rw [HF3.out, HZL.out]
          exact fun W L hM ho => hld_full hzo hr1 hM hx0 HLN.out (by omega) ho)
        have HY := Lib.hid (show ∀ W L, MemAt W b B 16384 f3 L → W.ownsRow bs 62 3 (.slice ao12 ln c12) ln (spC (fold true l n (N, [])).2) → Calls Try.prog 27 #[.pointer (some ⟨b, 0, none⟩), .agg YL, .int .i64 N, .bool true, .int .i64 0, .slice ao12 ln c12] W fun e w' => e = .returned (.bool true) ∧ Below W.heap.size W w' by
          rw [HF3.out, HYL.out]
          exact fun W L hM ho => hld_full hyo HR2 hM hx0 HLN.out (by omega) ho)
        have HT15 := Lib.hid (show W15.ownsRow bs 62 3 (.slice ao12 ln c12) ln (spC (fold true l n (N, [])).2) by
          have h := T15.out
          rw [← HLN.out] at h
          exact h)
        clear hr1 hr2 HR2 hx0
        go_wp2_with (first
          | (go_at_call 13; refine (num_any _ _).mono ?_; rintro e w' ⟨rfl, rfl⟩)
          | ((with_reducible show wpList _ _ _ (⟨some 218, _, _, _, _, _⟩ :: _) _ _); refine wpList_loadA rfl R2715.out 26 (.tmp 27) rfl (by first | rfl | simp [Act.eval, Act.put]) Try.underlying26 rfl IZL.out ?_)
          | ((with_reducible show wpList _ _ _ (⟨some 225, _, _, _, _, _⟩ :: _) _ _); refine wpList_loadAG (by rfl) (R2415.out.below H16.out) 26 (.tmp 24) rfl (by first | rfl | simp [Act.eval, Act.put]) Try.underlying26 rfl IYL.out ?_)
          | (go_at_call 27; refine (HY.out w16 _ M16.out (own_below HT15.out H16.out)).mono ?_; rintro e w17 ⟨rfl, hb⟩; have B17 := Lib.hid (B16.out.trans (hb.mono B16.out.size)); clear hb)
          | (go_at_call 27; refine (HZ.out W15 _ M15.out HT15.out).mono ?_; rintro e w16 ⟨rfl, hb⟩; have H16 := Lib.hid hb; have M16 := Lib.hid (M15.out.below hb); have B16 := Lib.hid (B15.out.trans (hb.mono B15.out.size)); clear hb)
          | (go_at_call 16; refine (works_ok _).mono ?_; rintro e w18 ⟨rfl, hb⟩; have B18 := Lib.hid (B17.out.trans (hb.mono B17.out.size)); clear hb))
        go_ret
        exact ⟨by first | rfl | simp, B18.out⟩
      · have q6 : decide (sm < N) = true := decide_eq_true (by have := HSM.out; omega)
        have HZ := Lib.hid (show ∀ W L, MemAt W b B 16384 f3 L → Calls Try.prog 27 #[.pointer (some ⟨b, 0, none⟩), .agg ZL, .int .i64 N, .bool true, .int .i64 162, .slice none 0 0] W fun e w' => e = .returned (.bool true) ∧ Below W.heap.size W w' by
          rw [HF3.out, HZL.out]
          exact fun W L hM => hld_short hzo hr1 hM hx0)
        have HY := Lib.hid (show ∀ W L, MemAt W b B 16384 f3 L → Calls Try.prog 27 #[.pointer (some ⟨b, 0, none⟩), .agg YL, .int .i64 N, .bool true, .int .i64 162, .slice none 0 0] W fun e w' => e = .returned (.bool true) ∧ Below W.heap.size W w' by
          rw [HF3.out, HYL.out]
          exact fun W L hM => hld_short hyo HR2 hM hx0)
        clear hr1 hr2 HR2 hx0
        go_wp2_with (first
          | (go_at_call 13; refine (num_any _ _).mono ?_; rintro e w' ⟨rfl, rfl⟩)
          | ((with_reducible show wpList _ _ _ (⟨some 203, _, _, _, _, _⟩ :: _) _ _); refine wpList_loadA rfl R2715.out 26 (.tmp 27) rfl (by first | rfl | simp [Act.eval, Act.put]) Try.underlying26 rfl IZL.out ?_)
          | ((with_reducible show wpList _ _ _ (⟨some 209, _, _, _, _, _⟩ :: _) _ _); refine wpList_loadAG (by rfl) (R2415.out.below H16.out) 26 (.tmp 24) rfl (by first | rfl | simp [Act.eval, Act.put]) Try.underlying26 rfl IYL.out ?_)
          | (go_at_call 27; refine (HY.out w16 _ M16.out).mono ?_; rintro e w17 ⟨rfl, hb⟩; have B17 := Lib.hid (B16.out.trans (hb.mono B16.out.size)); clear hb)
          | (go_at_call 27; refine (HZ.out W15 _ M15.out).mono ?_; rintro e w16 ⟨rfl, hb⟩; have H16 := Lib.hid hb; have M16 := Lib.hid (M15.out.below hb); have B16 := Lib.hid (B15.out.trans (hb.mono B15.out.size)); clear hb)
          | (go_at_call 16; refine (works_ok _).mono ?_; rintro e w18 ⟨rfl, hb⟩; have B18 := Lib.hid (B17.out.trans (hb.mono B17.out.size)); clear hb))
        go_ret
        exact ⟨by first | rfl | simp, B18.out⟩
end
section
variable (ao : Option Addr) (n c : Nat) (l : Nat → Dsc) (cut N : Int) (w : World) (hC : DAt w ao n l) (hok : ∀ i, i < n → (l i).Ok) (hc0 : -9223372036854775808 ≤ cut) (hc1 : cut ≤ 9223372036854775807)
include hC hok hc0 hc1
set_option maxRecDepth 100000 in
set_option maxHeartbeats 16000000 in
theorem holds_in_false (h2 : 2 ≤ n) (h20 : n ≤ 20) (hN0 : 0 ≤ N) (hN1 : N ≤ 100000) : Calls Try.prog 6 #[.slice ao n c, .int .i64 cut, .int .i64 N, .bool false] w fun e w' => e = .returned (.bool true) ∧ Below w.heap.size w w' := by
  have q1 : decide ((n : Int) < 2) = false := decide_eq_false (by omega)
  have q2 : decide (20 < (n : Int)) = false := decide_eq_false (by omega)
  have q3 : decide (N < 0) = false := decide_eq_false (by omega)
  have q4 : decide (100000 < N) = false := decide_eq_false (by omega)
  obtain ⟨ga, oa, hao, hga⟩ := hC.lt (by omega)
  subst hao
  have HC := Lib.hid hC
  have HOK := Lib.hid hok
  clear hC hok
  go_enter Try.func6, Try.ntmps6
  go_upto_region 4 with (go_at_call 23; refine (new4 _).mono ?_; rintro e w1 ⟨b, B, rfl, hb, hB, hbl, hm⟩; have B1 := Lib.hid hbl; have M1 := Lib.hid hm; clear hbl hm)
  go_upto_region 5 with fail
  obtain ⟨m1, hm1⟩ : ∃ z : Int, z = (if (n : Int) - 2 < cut then (n : Int) - 2 else cut) := ⟨_, rfl⟩
  rw [← hm1]
  obtain ⟨m2, hm2⟩ : ∃ z : Int, z = (if 0 < m1 then m1 else 0) := ⟨_, rfl⟩
  rw [← hm2]
  obtain ⟨kk, hkk, hk1, hk2⟩ : ∃ kk : Nat, 1 + m2 = (kk : Int) ∧ 1 ≤ kk ∧ kk + 1 ≤ n := by
    refine ⟨(1 + m2).toNat, ?_, ?_, ?_⟩
    all_goals (rw [hm2, hm1]; (repeat' split) <;> omega)
  rw [hkk]
  clear hm1 hm2
  clear hkk hc0 hc1
  obtain ⟨bs, hbs⟩ : ∃ z, z = w1.heap.size := ⟨_, rfl⟩
  have hbb : b < bs := by rw [hbs]; exact M1.out.lt
  have hBB : B < bs := by rw [hbs]; exact M1.out.lt'
  have hwb : w.heap.size ≤ bs := by rw [hbs]; exact B1.out.size
  have D1 := Lib.hid (HC.out.below B1.out (fun g o e => by cases e; exact hga))
  have hgb : ga < bs := by omega
  go_upto_region 9 with fail
  go_loopw [12, 13, 14, 15, 16] (fun v12 v13 v14 v15 v16 wr => ∃ i : Nat, i ≤ n ∧ v16 = .int .i64 (i : Nat) ∧ v13 = .int .i64 (N - (fold false l i (N, [])).1) ∧ HInv bs w1 wr v12 v14 v15 kk l N false i) (fun _ _ _ _ v16 _ => n - (intOf v16).toNat)
  case atStart => exact ⟨0, by omega, rfl, by show Value.int IntKind.i64 0 = .int .i64 (N - N); rw [Int.sub_self], HInv.start bs w1 kk l N false⟩
  case round =>
    obtain ⟨i, hi, rfl, rfl, hinv⟩ := hrel
    have HI := Lib.hid hinv
    have hwr : bs ≤ wr.heap.size := by have := hinv.keep.size; omega
    have Dr := Lib.hid (D1.out.below (hinv.keep.below (B := bs) (by omega) (fun j hj e => by have e : bs ≤ j := e; omega)) (fun g o e => by cases e; exact hgb))
    have Br := Lib.hid (B1.out.trans (hinv.keep.below (B := w.heap.size) (by omega) (fun j hj e => by have e : bs ≤ j := e; omega)))
    clear hinv
    by_cases hin : i < n
    · have q5 : decide ((i : Int) < (n : Int)) = true := decide_eq_true (by omega)
      have hrk : wr.rangeAt ga (oa + i * 4) (l i).cells.toList := by
        obtain ⟨g', o', e, hr⟩ := Dr.out i hin
        cases e
        exact hr
      obtain ⟨D, hDD⟩ : ∃ z, z = (l i).cells := ⟨_, rfl⟩
      have HSZ := Lib.hid (show (Try.prog.info? 26).map (·.size) = some D.size by rw [hDD]; exact sizeD)
      have SD := Lib.hid (show D.size = 4 by rw [hDD]; rfl)
      have OD := Lib.hid (show D.all (·.oneCell') = true by rw [hDD]; exact (l i).one)
      have HV := Lib.hid (show ∀ r, vldD (l i) = r → ∀ W, Calls Try.prog 15 #[.agg D] W fun e w' => e = .returned (.bool r) ∧ Below W.heap.size W w' from fun r hr W => by rw [hDD]; exact rvalid_any (l i) r hr W (HOK.out i hin))
      have HDD := Lib.hid hDD
      rw [← hDD] at hrk
      have HRK := Lib.hid hrk
      clear hrk hDD
      go_upto_region 12 with (first
        | ((with_reducible show wpList _ _ _ (⟨some 66, _, _, _, _, _⟩ :: _) _ _); refine wpList_loadR rfl HRK.out 26 (.tmp 65) rfl (by first | rfl | simp [Act.eval, Act.put]) Try.underlying26 rfl HSZ.out ?_)
        | ((with_reducible show wpList _ _ _ (⟨some 17, _, _, _, _, _⟩ :: _) _ _); refine wpList_alloc rfl 26 rfl zeroD ?_; rw [show (Value.agg zDsc.cells).cells = zDsc.cells from rfl])
        | ((with_reducible show wpList _ _ _ (⟨none, .store _ (.tmp 17) _, _, _, _, _⟩ :: _) _ _); refine wpList_storeA rfl (b := wr.heap.size) (A := zDsc.cells) (A' := D) (ArrAt.fresh wr zDsc.cells _ (by decide)) 26 (.tmp 17) (.tmp 66) rfl (by simp [Act.eval, Act.put]) (by simp [Act.eval, Act.put]) (sizeDs _) (by rw [SD.out]; rfl) OD.out ?_))
      obtain ⟨W2, hW⟩ : ∃ z, z = (wr.alloc (.cells zDsc.cells 26)).setCells wr.heap.size 0 D.toList := ⟨_, rfl⟩
      obtain ⟨hb2, ha⟩ := stored_at (by decide) (by rw [SD.out]; rfl) hW
      rw [← hW]
      obtain ⟨gd, hgd⟩ : ∃ z, z = wr.heap.size := ⟨_, rfl⟩
      rw [← hgd] at ha ⊢
      have hgdw : wr.heap.size ≤ gd := by omega
      have R17 := Lib.hid ha
      have H2 := Lib.hid hb2
      obtain ⟨dk, hdk⟩ : ∃ z, z = (l i).k := ⟨_, rfl⟩
      obtain ⟨da, hda⟩ : ∃ z, z = (l i).a := ⟨_, rfl⟩
      obtain ⟨dn, hdn⟩ : ∃ z, z = (l i).n := ⟨_, rfl⟩
      have c0 : W2.cell? ⟨gd, 0, none⟩ = some (.int .i64 dk) := ha.cell (by rw [HDD.out, hdk]; rfl)
      have c1 : W2.cell? ⟨gd, 1, none⟩ = some (.int .u64 da) := ha.cell (by rw [HDD.out, hda]; rfl)
      have c2 : W2.cell? ⟨gd, 2, none⟩ = some (.int .i64 dn) := ha.cell (by rw [HDD.out, hdn]; rfl)
      have hgd2 : gd < W2.heap.size := ha.lt
      have hda0 : 0 ≤ da ∧ da ≤ 18446744073709551615 := by rw [hda]; exact (HOK.out i hin).a
      have HDK := Lib.hid hdk
      have HDA := Lib.hid hda
      have HDN := Lib.hid hdn
      clear hW hb2 ha hgd hdk hda hdn
      by_cases hf : Fits (l i)
      case neg =>
        have hbad : vldD (l i) = false ∨ (vldD (l i) = true ∧ dk = 3) ∨ (vldD (l i) = true ∧ dk = 4) ∨ (vldD (l i) = true ∧ dk ≠ 3 ∧ dk ≠ 4 ∧ dk ≠ 2 ∧ 0 ≤ dn ∧ dn < 4294967296 ∧ (da < 8192 ∨ (8192 ≤ da ∧ 16384 < da) ∨ (8192 ≤ da ∧ da ≤ 16384 ∧ 16384 - da < dn))) := by
          by_cases hv : Vld (l i)
          · have e1 := HDK.out
            have e2 := HDA.out
            have e3 := HDN.out
            have hvt : vldD (l i) = true := decide_eq_true hv
            by_cases h3 : dk = 3
            · exact .inr (.inl ⟨hvt, h3⟩)
            · by_cases h4 : dk = 4
              · exact .inr (.inr (.inl ⟨hvt, h4⟩))
              · have hg : Good (l i) := ⟨hv, by omega, by omega⟩
                have hx : ¬ ((l i).k = 2 ∨ (8192 ≤ (l i).a ∧ (l i).a ≤ 16384 ∧ (l i).n ≤ 16384 - (l i).a)) := fun c => hf ⟨hg, c⟩
                have hlim : dn < 4294967296 := by
                  have := hv.2.1.2
                  unfold lim at this
                  split at this <;> omega
                have := hv.2.1.1
                exact .inr (.inr (.inr ⟨hvt, h3, h4, by omega, by omega, hlim, by omega⟩))
          · exact .inl (decide_eq_false hv)
        clear hf
        have hfin : ∀ x : World, Below W2.heap.size W2 x → ∀ y : World, Below x.heap.size x y → Below w.heap.size w y := fun x hx y hy => by
          have h1 := Br.out.trans (H2.out.mono Br.out.size)
          have h2 := h1.trans (hx.mono h1.size)
          exact h2.trans (hy.mono h2.size)
        have HFIN := Lib.hid hfin
        clear hfin
        rcases hbad with hb1 | ⟨hb1, hb3⟩ | ⟨hb1, hb4⟩ | ⟨hb1, h3, h4, h2, hn0, hnl, hc⟩
        · skip
          go_wp2_with (first
            | ((with_reducible show wpList _ _ _ (⟨some 67, _, _, _, _, _⟩ :: _) _ _); refine wpList_loadA rfl R17.out 26 (.tmp 17) rfl (by first | rfl | simp [Act.eval, Act.put]) Try.underlying26 rfl HSZ.out ?_)
            | (go_at_call 15; refine (HV.out false hb1 _).mono ?_; rintro e w4 ⟨rfl, hb⟩; have H4 := Lib.hid hb; have d0 := (hb.cell (p := ⟨gd, 0, none⟩) hgd2).trans c0; have d1 := (hb.cell (p := ⟨gd, 1, none⟩) hgd2).trans c1; have d2 := (hb.cell (p := ⟨gd, 2, none⟩) hgd2).trans c2; clear hb)
            | (go_at_call 16; refine (works_ok _).mono ?_; rintro e w9 ⟨rfl, hb⟩; have H9 := Lib.hid hb; clear hb))
          go_ret
          exact ⟨rfl, HFIN.out _ H4.out _ H9.out⟩
        · skip
          subst hb3
          go_wp2_with (first
            | ((with_reducible show wpList _ _ _ (⟨some 67, _, _, _, _, _⟩ :: _) _ _); refine wpList_loadA rfl R17.out 26 (.tmp 17) rfl (by first | rfl | simp [Act.eval, Act.put]) Try.underlying26 rfl HSZ.out ?_)
            | (go_at_call 15; refine (HV.out true hb1 _).mono ?_; rintro e w4 ⟨rfl, hb⟩; have H4 := Lib.hid hb; have d0 := (hb.cell (p := ⟨gd, 0, none⟩) hgd2).trans c0; have d1 := (hb.cell (p := ⟨gd, 1, none⟩) hgd2).trans c1; have d2 := (hb.cell (p := ⟨gd, 2, none⟩) hgd2).trans c2; clear hb)
            | (go_at_call 16; refine (works_ok _).mono ?_; rintro e w9 ⟨rfl, hb⟩; have H9 := Lib.hid hb; clear hb))
          go_ret
          exact ⟨rfl, HFIN.out _ H4.out _ H9.out⟩
        · skip
          subst hb4
          go_wp2_with (first
            | ((with_reducible show wpList _ _ _ (⟨some 67, _, _, _, _, _⟩ :: _) _ _); refine wpList_loadA rfl R17.out 26 (.tmp 17) rfl (by first | rfl | simp [Act.eval, Act.put]) Try.underlying26 rfl HSZ.out ?_)
            | (go_at_call 15; refine (HV.out true hb1 _).mono ?_; rintro e w4 ⟨rfl, hb⟩; have H4 := Lib.hid hb; have d0 := (hb.cell (p := ⟨gd, 0, none⟩) hgd2).trans c0; have d1 := (hb.cell (p := ⟨gd, 1, none⟩) hgd2).trans c1; have d2 := (hb.cell (p := ⟨gd, 2, none⟩) hgd2).trans c2; clear hb)
            | (go_at_call 16; refine (works_ok _).mono ?_; rintro e w9 ⟨rfl, hb⟩; have H9 := Lib.hid hb; clear hb))
          go_ret
          exact ⟨rfl, HFIN.out _ H4.out _ H9.out⟩
        · rcases hc with hca | ⟨hca, hcb⟩ | ⟨hca, hcb, hcc⟩
          · skip
            have k3 : (dk == 3) = false := beq_eq_false_iff_ne.2 h3
            have k4 : (dk == 4) = false := beq_eq_false_iff_ne.2 h4
            have k2 : (dk != 2) = true := bne_iff_ne.2 h2
            have z1 : decide (da < 8192) = true := decide_eq_true hca
            go_wp2_with (first
              | ((with_reducible show wpList _ _ _ (⟨some 67, _, _, _, _, _⟩ :: _) _ _); refine wpList_loadA rfl R17.out 26 (.tmp 17) rfl (by first | rfl | simp [Act.eval, Act.put]) Try.underlying26 rfl HSZ.out ?_)
              | (go_at_call 15; refine (HV.out true hb1 _).mono ?_; rintro e w4 ⟨rfl, hb⟩; have H4 := Lib.hid hb; have d0 := (hb.cell (p := ⟨gd, 0, none⟩) hgd2).trans c0; have d1 := (hb.cell (p := ⟨gd, 1, none⟩) hgd2).trans c1; have d2 := (hb.cell (p := ⟨gd, 2, none⟩) hgd2).trans c2; clear hb)
              | (go_at_call 16; refine (works_ok _).mono ?_; rintro e w9 ⟨rfl, hb⟩; have H9 := Lib.hid hb; clear hb))
            go_ret
            exact ⟨rfl, HFIN.out _ H4.out _ H9.out⟩
          · skip
            have k3 : (dk == 3) = false := beq_eq_false_iff_ne.2 h3
            have k4 : (dk == 4) = false := beq_eq_false_iff_ne.2 h4
            have k2 : (dk != 2) = true := bne_iff_ne.2 h2
            have z1 : decide (da < 8192) = false := decide_eq_false (by omega)
            have z2 : decide (16384 < da) = true := decide_eq_true hcb
            go_wp2_with (first
              | ((with_reducible show wpList _ _ _ (⟨some 67, _, _, _, _, _⟩ :: _) _ _); refine wpList_loadA rfl R17.out 26 (.tmp 17) rfl (by first | rfl | simp [Act.eval, Act.put]) Try.underlying26 rfl HSZ.out ?_)
              | (go_at_call 15; refine (HV.out true hb1 _).mono ?_; rintro e w4 ⟨rfl, hb⟩; have H4 := Lib.hid hb; have d0 := (hb.cell (p := ⟨gd, 0, none⟩) hgd2).trans c0; have d1 := (hb.cell (p := ⟨gd, 1, none⟩) hgd2).trans c1; have d2 := (hb.cell (p := ⟨gd, 2, none⟩) hgd2).trans c2; clear hb)
              | (go_at_call 16; refine (works_ok _).mono ?_; rintro e w9 ⟨rfl, hb⟩; have H9 := Lib.hid hb; clear hb))
            go_ret
            exact ⟨rfl, HFIN.out _ H4.out _ H9.out⟩
          · skip
            have k3 : (dk == 3) = false := beq_eq_false_iff_ne.2 h3
            have k4 : (dk == 4) = false := beq_eq_false_iff_ne.2 h4
            have k2 : (dk != 2) = true := bne_iff_ne.2 h2
            have z1 : decide (da < 8192) = false := decide_eq_false (by omega)
            have z2 : decide (16384 < da) = false := decide_eq_false (by omega)
            have z3 : decide (16384 - da < dn) = true := decide_eq_true hcc
            go_wp2_with (first
              | ((with_reducible show wpList _ _ _ (⟨some 67, _, _, _, _, _⟩ :: _) _ _); refine wpList_loadA rfl R17.out 26 (.tmp 17) rfl (by first | rfl | simp [Act.eval, Act.put]) Try.underlying26 rfl HSZ.out ?_)
              | (go_at_call 15; refine (HV.out true hb1 _).mono ?_; rintro e w4 ⟨rfl, hb⟩; have H4 := Lib.hid hb; have d0 := (hb.cell (p := ⟨gd, 0, none⟩) hgd2).trans c0; have d1 := (hb.cell (p := ⟨gd, 1, none⟩) hgd2).trans c1; have d2 := (hb.cell (p := ⟨gd, 2, none⟩) hgd2).trans c2; clear hb)
              | (go_at_call 16; refine (works_ok _).mono ?_; rintro e w9 ⟨rfl, hb⟩; have H9 := Lib.hid hb; clear hb))
            go_ret
            exact ⟨rfl, HFIN.out _ H4.out _ H9.out⟩
      case pos =>
        obtain ⟨hgd, hdat⟩ := hf
        have hb1 : vldD (l i) = true := decide_eq_true hgd.1
        have h3 : dk ≠ 3 := by have := HDK.out; have := hgd.2.1; omega
        have h4 : dk ≠ 4 := by have := HDK.out; have := hgd.2.2; omega
        have k3 : (dk == 3) = false := beq_eq_false_iff_ne.2 h3
        have k4 : (dk == 4) = false := beq_eq_false_iff_ne.2 h4
        have hn0 : 0 ≤ dn := by have := HDN.out; have := hgd.1.2.1.1; omega
        have hnl : dn < 4294967296 := by
          have := HDN.out
          have := hgd.1.2.1.2
          unfold lim at this
          split at this <;> omega
        obtain ⟨E, hE⟩ : ∃ z : Array Value, z = #[.int .u64 (l i).a, .int .u64 (word1 (l i))] := ⟨_, rfl⟩
        have HEN := Lib.hid (show ∀ W, Calls Try.prog 10 #[.agg D] W fun e w' => e = .returned (.tuple #[.agg E, .int .i64 0]) ∧ Below W.heap.size W w' from fun W => by rw [HDD.out, hE]; exact encode_ok (l i) W (HOK.out i hin) hgd.1)
        have HDE := Lib.hid (show ∀ W, Calls Try.prog 11 #[.agg E] W fun e w' => e = .returned (.tuple #[.agg D, .int .i64 0]) ∧ Below W.heap.size W w' from fun W => by
          obtain ⟨d1, d2⟩ := dec_enc (l i) hgd.1 (HOK.out i hin)
          obtain ⟨w0, w9⟩ := word1_bd hgd.1 (HOK.out i hin)
          have h := decode_any (l i).a (word1 (l i)) W w0 w9
          rw [d1, d2] at h
          rw [HDD.out, hE]; exact h)
        have SE := Lib.hid (show E.size = 2 by rw [hE]; rfl)
        have OE := Lib.hid (show E.all (·.oneCell') = true by rw [hE]; exact u64s_one _ _)
        have IE := Lib.hid (show (Try.prog.info? 27).map (·.size) = some E.size by rw [SE.out]; exact size2w)
        have NX := Lib.hid (show ∀ w, (binOp .neq 26 (.agg D) (.agg D)).run Try.prog w = .ok (.bool false) w by rw [HDD.out]; exact neqDscH _)
        have HBY := Lib.hid (show ∀ W, Calls Try.prog 25 #[.agg D] W fun e w' => NewRow W w' 16 (dB (l i)) e from fun W => by rw [HDD.out]; exact bytes_any (l i) W (HOK.out i hin))
        have HGD := Lib.hid hgd
        have HDAT := Lib.hid hdat
        clear hE hgd hdat
        obtain ⟨fb0, fb1, fb2⟩ := fold_bd false l N hN0 i
        obtain ⟨sm, hsm⟩ : ∃ z, z = N - (fold false l i (N, [])).1 := ⟨_, rfl⟩
        rw [← hsm]
        obtain ⟨km, hkm⟩ : ∃ z, z = min dn (fold false l i (N, [])).1 := ⟨_, rfl⟩
        have HIF := Lib.hid (show (if N - sm < dn then N - sm else dn) = km by rw [hkm, hsm, Int.min_def]; split <;> split <;> omega)
        have hsm0 : 0 ≤ sm := by omega
        have hsm1 : sm ≤ N := by omega
        have hkm0 : 0 ≤ km := by rw [hkm, Int.min_def]; split <;> omega
        have hkm1 : sm + km ≤ N := by rw [hsm, hkm, Int.min_def]; split <;> omega
        have HSM := Lib.hid hsm
        have HKM := Lib.hid hkm
        have HFT := Lib.hid (show ∀ j, j < i + 1 → Fits (l j) from fun j hj => by
          rcases Nat.lt_or_ge j i with h | h
          · exact HI.out.fits j h
          · obtain rfl : j = i := by omega
            exact ⟨HGD.out, HDAT.out⟩)
        clear hsm hkm
        by_cases h2 : dk = 2
        · have k2 : (dk != 2) = false := by rw [h2]; rfl
          have k2e : (dk == 2) = true := by rw [h2]; rfl
          go_upto_region 14 with (first
            | ((with_reducible show wpList _ _ _ (⟨some 67, _, _, _, _, _⟩ :: _) _ _); refine wpList_loadA rfl R17.out 26 (.tmp 17) rfl (by first | rfl | simp [Act.eval, Act.put]) Try.underlying26 rfl HSZ.out ?_)
            | (go_at_call 15; refine (HV.out true hb1 _).mono ?_; rintro e w4 ⟨rfl, hb⟩; have H4 := Lib.hid (H2.out.trans (hb.mono H2.out.size)); have d0 := (hb.cell (p := ⟨gd, 0, none⟩) hgd2).trans c0; have d1 := (hb.cell (p := ⟨gd, 1, none⟩) hgd2).trans c1; have d2 := (hb.cell (p := ⟨gd, 2, none⟩) hgd2).trans c2; have R174 := Lib.hid (R17.out.below hb); clear hb))
          go_upto_region 15 with (first
            | ((with_reducible show wpList _ _ _ (⟨some 106, _, _, _, _, _⟩ :: _) _ _); refine wpList_loadA rfl R174.out 26 (.tmp 17) rfl (by first | rfl | simp [Act.eval, Act.put]) Try.underlying26 rfl HSZ.out ?_)
            | (go_at_call 10; refine (HEN.out _).mono ?_; rintro e w5 ⟨rfl, hb⟩; have H5 := Lib.hid hb; clear hb)
            | ((with_reducible show wpList _ _ _ (⟨some 18, _, _, _, _, _⟩ :: _) _ _); refine wpList_alloc rfl 27 rfl zero2 ?_; rw [show (Value.agg zer2).cells = zer2 from rfl])
            | ((with_reducible show wpList _ _ _ (⟨none, .store _ (.tmp 18) _, _, _, _, _⟩ :: _) _ _); refine wpList_storeA rfl (b := w5.heap.size) (A := zer2) (A' := E) (ArrAt.fresh w5 zer2 _ (by decide)) 27 (.tmp 18) (.tmp 108) rfl (by simp [Act.eval, Act.put]) (by simp [Act.eval, Act.put]) size2z (by rw [SE.out]; rfl) OE.out ?_))
          obtain ⟨W6, hW⟩ : ∃ z, z = (w5.alloc (.cells zer2 27)).setCells w5.heap.size 0 E.toList := ⟨_, rfl⟩
          obtain ⟨hb6, ha⟩ := stored_at (by decide) (by rw [SE.out]; rfl) hW
          rw [← hW]
          have hb46 := H5.out.trans (hb6.mono H5.out.size)
          have R18 := Lib.hid ha
          have R176 := Lib.hid (R174.out.below hb46)
          have H6 := Lib.hid (H4.out.trans (hb46.mono H4.out.size))
          have f0 := (hb46.cell (p := ⟨gd, 0, none⟩) R174.out.lt).trans d0
          have f1 := (hb46.cell (p := ⟨gd, 1, none⟩) R174.out.lt).trans d1
          have f2 := (hb46.cell (p := ⟨gd, 2, none⟩) R174.out.lt).trans d2
          obtain ⟨g18, hg18⟩ : ∃ z, z = w5.heap.size := ⟨_, rfl⟩
          rw [← hg18] at R18 ⊢
          clear hW hb6 ha hb46 hg18 d0 d1 d2 c0 c1 c2 H5
          go_upto_region 16 with (first
            | ((with_reducible show wpList _ _ _ (⟨some 111, _, _, _, _, _⟩ :: _) _ _); refine wpList_loadA rfl R18.out 27 (.tmp 18) rfl (by first | rfl | simp [Act.eval, Act.put]) Try.underlying27 rfl IE.out ?_)
            | (go_at_call 11; refine (HDE.out _).mono ?_; rintro e w7 ⟨rfl, hb⟩; have H7 := Lib.hid hb; clear hb)
            | ((with_reducible show wpList _ _ _ (⟨some 20, _, _, _, _, _⟩ :: _) _ _); refine wpList_alloc rfl 26 rfl zeroD ?_; rw [show (Value.agg zDsc.cells).cells = zDsc.cells from rfl])
            | ((with_reducible show wpList _ _ _ (⟨none, .store _ (.tmp 20) _, _, _, _, _⟩ :: _) _ _); refine wpList_storeA rfl (b := w7.heap.size) (A := zDsc.cells) (A' := D) (ArrAt.fresh w7 zDsc.cells _ (by decide)) 26 (.tmp 20) (.tmp 113) rfl (by simp [Act.eval, Act.put]) (by simp [Act.eval, Act.put]) (sizeDs _) (by rw [SD.out]; rfl) OD.out ?_))
          obtain ⟨W8, hW⟩ : ∃ z, z = (w7.alloc (.cells zDsc.cells 26)).setCells w7.heap.size 0 D.toList := ⟨_, rfl⟩
          obtain ⟨hb8, ha⟩ := stored_at (by decide) (by rw [SD.out]; rfl) hW
          rw [← hW]
          have hb68 := H7.out.trans (hb8.mono H7.out.size)
          have R20 := Lib.hid ha
          have R178 := Lib.hid (R176.out.below hb68)
          have H8 := Lib.hid (H6.out.trans (hb68.mono H6.out.size))
          have p0 := (hb68.cell (p := ⟨gd, 0, none⟩) R176.out.lt).trans f0
          have p1 := (hb68.cell (p := ⟨gd, 1, none⟩) R176.out.lt).trans f1
          have p2 := (hb68.cell (p := ⟨gd, 2, none⟩) R176.out.lt).trans f2
          obtain ⟨g20, hg20⟩ : ∃ z, z = w7.heap.size := ⟨_, rfl⟩
          rw [← hg20] at R20 ⊢
          clear hW hb8 ha hb68 hg20 f0 f1 f2 H7 R18 R176 R174 H4 H6
          go_upto_region 19 with (first
            | ((with_reducible show wpList _ _ _ (⟨some 122, _, _, _, _, _⟩ :: _) _ _); refine wpList_loadAG (by rfl) R20.out 26 (.tmp 20) rfl (by first | rfl | simp [Act.eval, Act.put]) Try.underlying26 rfl HSZ.out ?_)
            | ((with_reducible show wpList _ _ _ (⟨some 123, _, _, _, _, _⟩ :: _) _ _); refine wpList_loadAG (by rfl) R178.out 26 (.tmp 17) rfl (by first | rfl | simp [Act.eval, Act.put]) Try.underlying26 rfl HSZ.out ?_)
            | ((with_reducible show wpList _ _ _ (⟨some 124, _, _, _, _, _⟩ :: _) _ _); refine wpList_valG (by rfl) (v := .bool false) (exec_neq 26 (.tmp 122) (.tmp 123) _ rfl _ _ rfl rfl (guardD _ _ _ _ _) (NX.out _)) ?_)
            | ((with_reducible show wpList _ _ _ (⟨some 126, _, _, _, _, _⟩ :: _) _ _); refine wpList_loadA rfl R178.out 26 (.tmp 17) rfl (by first | rfl | simp [Act.eval, Act.put]) Try.underlying26 rfl HSZ.out ?_)
            | (go_at_call 13; refine (num_any _ _).mono ?_; rintro e w' ⟨rfl, rfl⟩)
            | (go_at_call 25; refine (HBY.out _).mono ?_; rintro e w9 ⟨g9, rfl, hg9, hb, hr9⟩; have H9 := Lib.hid (H8.out.trans (hb.mono H8.out.size)); have R9 := Lib.hid hr9; have s0 := (hb.cell (p := ⟨gd, 0, none⟩) R178.out.lt).trans p0; have s1 := (hb.cell (p := ⟨gd, 1, none⟩) R178.out.lt).trans p1; have s2 := (hb.cell (p := ⟨gd, 2, none⟩) R178.out.lt).trans p2; have hgd9 : gd < w9.heap.size := Nat.lt_of_lt_of_le R178.out.lt hb.size; clear hb hr9 hg9))
          clear p0 p1 p2 R20 H8
          obtain ⟨i1, hi1, hy0, hy1, hy2⟩ := info_parts infoU8
          by_cases hik : i < kk
          · skip
            have q6 : decide ((i : Int) < (kk : Int)) = true := decide_eq_true (by omega)
            have O149 := Lib.hid (show w9.ownsRow bs 5 1 u14 (16 * i) (flB l i) by
              have h := own_below HI.out.o14 H9.out
              rw [show min i kk = i by omega] at h
              exact h)
            go_upto_region 22 with (at_builtin; refine wpList_append_lies _ rfl _ _ 42 rfl bs 5 i1 _ 1 1 Try.underlying42 hi1 hy0 hy1 hy2 rfl (by decide) u14 (16 * i) (flB l i) rfl O149.out ⟨g9, 0, none⟩ 16 16 (dBs (l i)) rfl (by rw [dBs_length]) (src_of_row R9.out) (dBs_one _) (by decide) (by unfold maxLen; omega) (by omega) (by have := H9.out.size; omega) w9.heap.size rfl ?_; intro g10 cap10 w10 hown hgr hat hlt; have MID := Lib.hid (push_one HI.out H9.out hwr hik hown hgr hat); have t0 := grown_cell hgr s0 (fun e => by have := (HI.out.o14.lt _ e).2; have e : gd < wr.heap.size := this; omega); have t1 := grown_cell hgr s1 (fun e => by have := (HI.out.o14.lt _ e).2; have e : gd < wr.heap.size := this; omega); have t2 := grown_cell hgr s2 (fun e => by have := (HI.out.o14.lt _ e).2; have e : gd < wr.heap.size := this; omega); have hw10 : w9.heap.size ≤ w10.heap.size := hgr.size; clear hown hgr hat)
            clear s0 s1 s2
            have hbw10 : bs ≤ w10.heap.size := by have := H9.out.size; omega
            have hstp := (stp_bkt (p := fold false l i (N, [])) (km := km) (by rw [← HDK.out]; exact h2) (by rw [HKM.out, HDN.out])).2
            have HST := Lib.hid (show fold false l (i + 1) (N, []) = _ from hstp)
            clear hstp
            go_upto_region 23 with fail
            rw [HIF.out]
            by_cases hk0 : 0 < km
            · skip
              have hst := HST.out
              have qk : decide (0 < km) = true := decide_eq_true hk0
              have HS2 := Lib.hid hst
              clear hst
              go_wp2_with fail
              have hv13 : Value.int IntKind.i64 sm = .int .i64 (N - (fold false l (i + 1) (N, [])).1) := by rw [HS2.out, HSM.out]
              have INV := Lib.hid (mid_none MID.out (Below.refl _ w10) HFT.out HS2.out)
              have hv16 : Value.int IntKind.i64 ((i : Int) + 1) = .int .i64 ((i + 1 : Nat) : Int) := by rw [Int.natCast_add]; rfl
              go_roundw
              case rel =>
                first
                  | exact ⟨i + 1, by omega, hv16, hv13, INV.out⟩
                  | ((repeat apply Exists.intro); exact ⟨⟨i + 1, by omega, hv16, hv13, INV.out⟩, rfl⟩)
              case measure => simp [intOf]; omega
            · skip
              have hst := HST.out
              have qk : decide (0 < km) = false := decide_eq_false hk0
              have HS2 := Lib.hid hst
              clear hst
              go_wp2_with fail
              have hv13 : Value.int IntKind.i64 sm = .int .i64 (N - (fold false l (i + 1) (N, [])).1) := by rw [HS2.out, HSM.out]
              have INV := Lib.hid (mid_none MID.out (Below.refl _ w10) HFT.out HS2.out)
              have hv16 : Value.int IntKind.i64 ((i : Int) + 1) = .int .i64 ((i + 1 : Nat) : Int) := by rw [Int.natCast_add]; rfl
              go_roundw
              case rel =>
                first
                  | exact ⟨i + 1, by omega, hv16, hv13, INV.out⟩
                  | ((repeat apply Exists.intro); exact ⟨⟨i + 1, by omega, hv16, hv13, INV.out⟩, rfl⟩)
              case measure => simp [intOf]; omega
          · skip
            have q6 : decide ((i : Int) < (kk : Int)) = false := decide_eq_false (by omega)
            have hik2 : kk ≤ i := Nat.le_of_not_lt hik
            have O149 := Lib.hid (own_below HI.out.o15 H9.out)
            go_upto_region 22 with (at_builtin; refine wpList_append_lies _ rfl _ _ 42 rfl bs 5 i1 _ 1 1 Try.underlying42 hi1 hy0 hy1 hy2 rfl (by decide) u15 (16 * (i - kk)) (flB (fun j => l (kk + j)) (i - kk)) rfl O149.out ⟨g9, 0, none⟩ 16 16 (dBs (l i)) rfl (by rw [dBs_length]) (src_of_row R9.out) (dBs_one _) (by decide) (by unfold maxLen; omega) (by omega) (by have := H9.out.size; omega) w9.heap.size rfl ?_; intro g10 cap10 w10 hown hgr hat hlt; have MID := Lib.hid (push_two HI.out H9.out hwr hik2 hown hgr hat); have t0 := grown_cell hgr s0 (fun e => by have := (HI.out.o15.lt _ e).2; have e : gd < wr.heap.size := this; omega); have t1 := grown_cell hgr s1 (fun e => by have := (HI.out.o15.lt _ e).2; have e : gd < wr.heap.size := this; omega); have t2 := grown_cell hgr s2 (fun e => by have := (HI.out.o15.lt _ e).2; have e : gd < wr.heap.size := this; omega); have hw10 : w9.heap.size ≤ w10.heap.size := hgr.size; clear hown hgr hat)
            clear s0 s1 s2
            have hbw10 : bs ≤ w10.heap.size := by have := H9.out.size; omega
            have hstp := (stp_bkt (p := fold false l i (N, [])) (km := km) (by rw [← HDK.out]; exact h2) (by rw [HKM.out, HDN.out])).2
            have HST := Lib.hid (show fold false l (i + 1) (N, []) = _ from hstp)
            clear hstp
            go_upto_region 23 with fail
            rw [HIF.out]
            by_cases hk0 : 0 < km
            · skip
              have hst := HST.out
              have qk : decide (0 < km) = true := decide_eq_true hk0
              have HS2 := Lib.hid hst
              clear hst
              go_wp2_with fail
              have hv13 : Value.int IntKind.i64 sm = .int .i64 (N - (fold false l (i + 1) (N, [])).1) := by rw [HS2.out, HSM.out]
              have INV := Lib.hid (mid_none MID.out (Below.refl _ w10) HFT.out HS2.out)
              have hv16 : Value.int IntKind.i64 ((i : Int) + 1) = .int .i64 ((i + 1 : Nat) : Int) := by rw [Int.natCast_add]; rfl
              go_roundw
              case rel =>
                first
                  | exact ⟨i + 1, by omega, hv16, hv13, INV.out⟩
                  | ((repeat apply Exists.intro); exact ⟨⟨i + 1, by omega, hv16, hv13, INV.out⟩, rfl⟩)
              case measure => simp [intOf]; omega
            · skip
              have hst := HST.out
              have qk : decide (0 < km) = false := decide_eq_false hk0
              have HS2 := Lib.hid hst
              clear hst
              go_wp2_with fail
              have hv13 : Value.int IntKind.i64 sm = .int .i64 (N - (fold false l (i + 1) (N, [])).1) := by rw [HS2.out, HSM.out]
              have INV := Lib.hid (mid_none MID.out (Below.refl _ w10) HFT.out HS2.out)
              have hv16 : Value.int IntKind.i64 ((i : Int) + 1) = .int .i64 ((i + 1 : Nat) : Int) := by rw [Int.natCast_add]; rfl
              go_roundw
              case rel =>
                first
                  | exact ⟨i + 1, by omega, hv16, hv13, INV.out⟩
                  | ((repeat apply Exists.intro); exact ⟨⟨i + 1, by omega, hv16, hv13, INV.out⟩, rfl⟩)
              case measure => simp [intOf]; omega
        · have k2 : (dk != 2) = true := bne_iff_ne.2 h2
          have k2e : (dk == 2) = false := beq_eq_false_iff_ne.2 h2
          have hdt : 8192 ≤ da ∧ da ≤ 16384 ∧ dn ≤ 16384 - da := by have := HDK.out; have := HDA.out; have := HDN.out; have := HDAT.out; omega
          have z1 : decide (da < 8192) = false := decide_eq_false (by omega)
          have z2 : decide (16384 < da) = false := decide_eq_false (by omega)
          have z3 : decide (16384 - da < dn) = false := decide_eq_false (by omega)
          go_upto_region 14 with (first
            | ((with_reducible show wpList _ _ _ (⟨some 67, _, _, _, _, _⟩ :: _) _ _); refine wpList_loadA rfl R17.out 26 (.tmp 17) rfl (by first | rfl | simp [Act.eval, Act.put]) Try.underlying26 rfl HSZ.out ?_)
            | (go_at_call 15; refine (HV.out true hb1 _).mono ?_; rintro e w4 ⟨rfl, hb⟩; have H4 := Lib.hid (H2.out.trans (hb.mono H2.out.size)); have d0 := (hb.cell (p := ⟨gd, 0, none⟩) hgd2).trans c0; have d1 := (hb.cell (p := ⟨gd, 1, none⟩) hgd2).trans c1; have d2 := (hb.cell (p := ⟨gd, 2, none⟩) hgd2).trans c2; have R174 := Lib.hid (R17.out.below hb); clear hb))
          go_upto_region 15 with (first
            | ((with_reducible show wpList _ _ _ (⟨some 106, _, _, _, _, _⟩ :: _) _ _); refine wpList_loadA rfl R174.out 26 (.tmp 17) rfl (by first | rfl | simp [Act.eval, Act.put]) Try.underlying26 rfl HSZ.out ?_)
            | (go_at_call 10; refine (HEN.out _).mono ?_; rintro e w5 ⟨rfl, hb⟩; have H5 := Lib.hid hb; clear hb)
            | ((with_reducible show wpList _ _ _ (⟨some 18, _, _, _, _, _⟩ :: _) _ _); refine wpList_alloc rfl 27 rfl zero2 ?_; rw [show (Value.agg zer2).cells = zer2 from rfl])
            | ((with_reducible show wpList _ _ _ (⟨none, .store _ (.tmp 18) _, _, _, _, _⟩ :: _) _ _); refine wpList_storeA rfl (b := w5.heap.size) (A := zer2) (A' := E) (ArrAt.fresh w5 zer2 _ (by decide)) 27 (.tmp 18) (.tmp 108) rfl (by simp [Act.eval, Act.put]) (by simp [Act.eval, Act.put]) size2z (by rw [SE.out]; rfl) OE.out ?_))
          obtain ⟨W6, hW⟩ : ∃ z, z = (w5.alloc (.cells zer2 27)).setCells w5.heap.size 0 E.toList := ⟨_, rfl⟩
          obtain ⟨hb6, ha⟩ := stored_at (by decide) (by rw [SE.out]; rfl) hW
          rw [← hW]
          have hb46 := H5.out.trans (hb6.mono H5.out.size)
          have R18 := Lib.hid ha
          have R176 := Lib.hid (R174.out.below hb46)
          have H6 := Lib.hid (H4.out.trans (hb46.mono H4.out.size))
          have f0 := (hb46.cell (p := ⟨gd, 0, none⟩) R174.out.lt).trans d0
          have f1 := (hb46.cell (p := ⟨gd, 1, none⟩) R174.out.lt).trans d1
          have f2 := (hb46.cell (p := ⟨gd, 2, none⟩) R174.out.lt).trans d2
          obtain ⟨g18, hg18⟩ : ∃ z, z = w5.heap.size := ⟨_, rfl⟩
          rw [← hg18] at R18 ⊢
          clear hW hb6 ha hb46 hg18 d0 d1 d2 c0 c1 c2 H5
          go_upto_region 16 with (first
            | ((with_reducible show wpList _ _ _ (⟨some 111, _, _, _, _, _⟩ :: _) _ _); refine wpList_loadA rfl R18.out 27 (.tmp 18) rfl (by first | rfl | simp [Act.eval, Act.put]) Try.underlying27 rfl IE.out ?_)
            | (go_at_call 11; refine (HDE.out _).mono ?_; rintro e w7 ⟨rfl, hb⟩; have H7 := Lib.hid hb; clear hb)
            | ((with_reducible show wpList _ _ _ (⟨some 20, _, _, _, _, _⟩ :: _) _ _); refine wpList_alloc rfl 26 rfl zeroD ?_; rw [show (Value.agg zDsc.cells).cells = zDsc.cells from rfl])
            | ((with_reducible show wpList _ _ _ (⟨none, .store _ (.tmp 20) _, _, _, _, _⟩ :: _) _ _); refine wpList_storeA rfl (b := w7.heap.size) (A := zDsc.cells) (A' := D) (ArrAt.fresh w7 zDsc.cells _ (by decide)) 26 (.tmp 20) (.tmp 113) rfl (by simp [Act.eval, Act.put]) (by simp [Act.eval, Act.put]) (sizeDs _) (by rw [SD.out]; rfl) OD.out ?_))
          obtain ⟨W8, hW⟩ : ∃ z, z = (w7.alloc (.cells zDsc.cells 26)).setCells w7.heap.size 0 D.toList := ⟨_, rfl⟩
          obtain ⟨hb8, ha⟩ := stored_at (by decide) (by rw [SD.out]; rfl) hW
          rw [← hW]
          have hb68 := H7.out.trans (hb8.mono H7.out.size)
          have R20 := Lib.hid ha
          have R178 := Lib.hid (R176.out.below hb68)
          have H8 := Lib.hid (H6.out.trans (hb68.mono H6.out.size))
          have p0 := (hb68.cell (p := ⟨gd, 0, none⟩) R176.out.lt).trans f0
          have p1 := (hb68.cell (p := ⟨gd, 1, none⟩) R176.out.lt).trans f1
          have p2 := (hb68.cell (p := ⟨gd, 2, none⟩) R176.out.lt).trans f2
          obtain ⟨g20, hg20⟩ : ∃ z, z = w7.heap.size := ⟨_, rfl⟩
          rw [← hg20] at R20 ⊢
          clear hW hb8 ha hb68 hg20 f0 f1 f2 H7 R18 R176 R174 H4 H6
          go_upto_region 19 with (first
            | ((with_reducible show wpList _ _ _ (⟨some 122, _, _, _, _, _⟩ :: _) _ _); refine wpList_loadAG (by rfl) R20.out 26 (.tmp 20) rfl (by first | rfl | simp [Act.eval, Act.put]) Try.underlying26 rfl HSZ.out ?_)
            | ((with_reducible show wpList _ _ _ (⟨some 123, _, _, _, _, _⟩ :: _) _ _); refine wpList_loadAG (by rfl) R178.out 26 (.tmp 17) rfl (by first | rfl | simp [Act.eval, Act.put]) Try.underlying26 rfl HSZ.out ?_)
            | ((with_reducible show wpList _ _ _ (⟨some 124, _, _, _, _, _⟩ :: _) _ _); refine wpList_valG (by rfl) (v := .bool false) (exec_neq 26 (.tmp 122) (.tmp 123) _ rfl _ _ rfl rfl (guardD _ _ _ _ _) (NX.out _)) ?_)
            | ((with_reducible show wpList _ _ _ (⟨some 126, _, _, _, _, _⟩ :: _) _ _); refine wpList_loadA rfl R178.out 26 (.tmp 17) rfl (by first | rfl | simp [Act.eval, Act.put]) Try.underlying26 rfl HSZ.out ?_)
            | (go_at_call 13; refine (num_any _ _).mono ?_; rintro e w' ⟨rfl, rfl⟩)
            | (go_at_call 25; refine (HBY.out _).mono ?_; rintro e w9 ⟨g9, rfl, hg9, hb, hr9⟩; have H9 := Lib.hid (H8.out.trans (hb.mono H8.out.size)); have R9 := Lib.hid hr9; have s0 := (hb.cell (p := ⟨gd, 0, none⟩) R178.out.lt).trans p0; have s1 := (hb.cell (p := ⟨gd, 1, none⟩) R178.out.lt).trans p1; have s2 := (hb.cell (p := ⟨gd, 2, none⟩) R178.out.lt).trans p2; have hgd9 : gd < w9.heap.size := Nat.lt_of_lt_of_le R178.out.lt hb.size; clear hb hr9 hg9))
          clear p0 p1 p2 R20 H8
          obtain ⟨i1, hi1, hy0, hy1, hy2⟩ := info_parts infoU8
          by_cases hik : i < kk
          · skip
            have q6 : decide ((i : Int) < (kk : Int)) = true := decide_eq_true (by omega)
            have O149 := Lib.hid (show w9.ownsRow bs 5 1 u14 (16 * i) (flB l i) by
              have h := own_below HI.out.o14 H9.out
              rw [show min i kk = i by omega] at h
              exact h)
            go_upto_region 22 with (at_builtin; refine wpList_append_lies _ rfl _ _ 42 rfl bs 5 i1 _ 1 1 Try.underlying42 hi1 hy0 hy1 hy2 rfl (by decide) u14 (16 * i) (flB l i) rfl O149.out ⟨g9, 0, none⟩ 16 16 (dBs (l i)) rfl (by rw [dBs_length]) (src_of_row R9.out) (dBs_one _) (by decide) (by unfold maxLen; omega) (by omega) (by have := H9.out.size; omega) w9.heap.size rfl ?_; intro g10 cap10 w10 hown hgr hat hlt; have MID := Lib.hid (push_one HI.out H9.out hwr hik hown hgr hat); have t0 := grown_cell hgr s0 (fun e => by have := (HI.out.o14.lt _ e).2; have e : gd < wr.heap.size := this; omega); have t1 := grown_cell hgr s1 (fun e => by have := (HI.out.o14.lt _ e).2; have e : gd < wr.heap.size := this; omega); have t2 := grown_cell hgr s2 (fun e => by have := (HI.out.o14.lt _ e).2; have e : gd < wr.heap.size := this; omega); have hw10 : w9.heap.size ≤ w10.heap.size := hgr.size; clear hown hgr hat)
            clear s0 s1 s2
            have hbw10 : bs ≤ w10.heap.size := by have := H9.out.size; omega
            have hstp := stp_data (th := false) (p := fold false l i (N, [])) (km := km) (by rw [← HDK.out]; exact h2) (by rw [HKM.out, HDN.out])
            rw [← HDA.out] at hstp
            have HST := Lib.hid (show fold false l (i + 1) (N, []) = _ from hstp)
            clear hstp
            go_upto_region 23 with fail
            rw [HIF.out]
            by_cases hk0 : 0 < km
            · skip
              have qk : decide (0 < km) = true := decide_eq_true hk0
              have hst := HST.out
              rw [if_pos hk0] at hst
              have HS2 := Lib.hid hst
              obtain ⟨i2, hj0, hj1, hj2, hj3⟩ := info_parts infoSp
              clear hst
              go_wp2_with (at_builtin; refine wpList_append_lies _ rfl _ _ 43 rfl bs 62 i2 _ 3 24 Try.underlying43 hj0 hj1 hj2 hj3 rfl (by decide) u12 (fold false l i (N, [])).2.length (spC (fold false l i (N, [])).2) rfl (MID.out.o12.alloc _) ⟨w10.heap.size, 0, none⟩ 1 1 [.int .u64 da, .int .i64 km, .bool false] rfl rfl (World.news_of_block (cs := #[.int .u64 da, .int .i64 km, .bool false]) (t := 62) (fr := (0, 0)) (heap_alloc_new w10 _)) (by simp [Value.oneCell']) (by decide) (by unfold maxLen; omega) (by omega) (by simp; omega) (w10.heap.size + 1) (by simp) ?_; intro g11 cap11 w11 hown11 hgr11 hat11 hlt11; have INV := Lib.hid (mid_push (x := ⟨da, km, false⟩) MID.out ((Below.refl _ w10).alloc (Nat.le_refl _) _) hbw10 HFT.out (by rw [HS2.out]) hown11 hgr11 (by simpa using hat11)); clear hown11 hgr11 hat11)
              have hv13 : Value.int IntKind.i64 (sm + km) = .int .i64 (N - (fold false l (i + 1) (N, [])).1) := by
                rw [HS2.out, HSM.out]
                show Value.int IntKind.i64 _ = .int .i64 (N - ((fold false l i (N, [])).1 - km))
                rw [show N - (fold false l i (N, [])).1 + km = N - ((fold false l i (N, [])).1 - km) by omega]
              have hv16 : Value.int IntKind.i64 ((i : Int) + 1) = .int .i64 ((i + 1 : Nat) : Int) := by rw [Int.natCast_add]; rfl
              go_roundw
              case rel =>
                first
                  | exact ⟨i + 1, by omega, hv16, hv13, INV.out⟩
                  | ((repeat apply Exists.intro); exact ⟨⟨i + 1, by omega, hv16, hv13, INV.out⟩, rfl⟩)
              case measure => simp [intOf]; omega
            · skip
              have hst := HST.out
              have qk : decide (0 < km) = false := decide_eq_false hk0
              rw [if_neg hk0] at hst
              have HS2 := Lib.hid hst
              clear hst
              go_wp2_with fail
              have hv13 : Value.int IntKind.i64 sm = .int .i64 (N - (fold false l (i + 1) (N, [])).1) := by rw [HS2.out, HSM.out]
              have INV := Lib.hid (mid_none MID.out (Below.refl _ w10) HFT.out HS2.out)
              have hv16 : Value.int IntKind.i64 ((i : Int) + 1) = .int .i64 ((i + 1 : Nat) : Int) := by rw [Int.natCast_add]; rfl
              go_roundw
              case rel =>
                first
                  | exact ⟨i + 1, by omega, hv16, hv13, INV.out⟩
                  | ((repeat apply Exists.intro); exact ⟨⟨i + 1, by omega, hv16, hv13, INV.out⟩, rfl⟩)
              case measure => simp [intOf]; omega
          · skip
            have q6 : decide ((i : Int) < (kk : Int)) = false := decide_eq_false (by omega)
            have hik2 : kk ≤ i := Nat.le_of_not_lt hik
            have O149 := Lib.hid (own_below HI.out.o15 H9.out)
            go_upto_region 22 with (at_builtin; refine wpList_append_lies _ rfl _ _ 42 rfl bs 5 i1 _ 1 1 Try.underlying42 hi1 hy0 hy1 hy2 rfl (by decide) u15 (16 * (i - kk)) (flB (fun j => l (kk + j)) (i - kk)) rfl O149.out ⟨g9, 0, none⟩ 16 16 (dBs (l i)) rfl (by rw [dBs_length]) (src_of_row R9.out) (dBs_one _) (by decide) (by unfold maxLen; omega) (by omega) (by have := H9.out.size; omega) w9.heap.size rfl ?_; intro g10 cap10 w10 hown hgr hat hlt; have MID := Lib.hid (push_two HI.out H9.out hwr hik2 hown hgr hat); have t0 := grown_cell hgr s0 (fun e => by have := (HI.out.o15.lt _ e).2; have e : gd < wr.heap.size := this; omega); have t1 := grown_cell hgr s1 (fun e => by have := (HI.out.o15.lt _ e).2; have e : gd < wr.heap.size := this; omega); have t2 := grown_cell hgr s2 (fun e => by have := (HI.out.o15.lt _ e).2; have e : gd < wr.heap.size := this; omega); have hw10 : w9.heap.size ≤ w10.heap.size := hgr.size; clear hown hgr hat)
            clear s0 s1 s2
            have hbw10 : bs ≤ w10.heap.size := by have := H9.out.size; omega
            have hstp := stp_data (th := false) (p := fold false l i (N, [])) (km := km) (by rw [← HDK.out]; exact h2) (by rw [HKM.out, HDN.out])
            rw [← HDA.out] at hstp
            have HST := Lib.hid (show fold false l (i + 1) (N, []) = _ from hstp)
            clear hstp
            go_upto_region 23 with fail
            rw [HIF.out]
            by_cases hk0 : 0 < km
            · skip
              have qk : decide (0 < km) = true := decide_eq_true hk0
              have hst := HST.out
              rw [if_pos hk0] at hst
              have HS2 := Lib.hid hst
              obtain ⟨i2, hj0, hj1, hj2, hj3⟩ := info_parts infoSp
              clear hst
              go_wp2_with (at_builtin; refine wpList_append_lies _ rfl _ _ 43 rfl bs 62 i2 _ 3 24 Try.underlying43 hj0 hj1 hj2 hj3 rfl (by decide) u12 (fold false l i (N, [])).2.length (spC (fold false l i (N, [])).2) rfl (MID.out.o12.alloc _) ⟨w10.heap.size, 0, none⟩ 1 1 [.int .u64 da, .int .i64 km, .bool false] rfl rfl (World.news_of_block (cs := #[.int .u64 da, .int .i64 km, .bool false]) (t := 62) (fr := (0, 0)) (heap_alloc_new w10 _)) (by simp [Value.oneCell']) (by decide) (by unfold maxLen; omega) (by omega) (by simp; omega) (w10.heap.size + 1) (by simp) ?_; intro g11 cap11 w11 hown11 hgr11 hat11 hlt11; have INV := Lib.hid (mid_push (x := ⟨da, km, false⟩) MID.out ((Below.refl _ w10).alloc (Nat.le_refl _) _) hbw10 HFT.out (by rw [HS2.out]) hown11 hgr11 (by simpa using hat11)); clear hown11 hgr11 hat11)
              have hv13 : Value.int IntKind.i64 (sm + km) = .int .i64 (N - (fold false l (i + 1) (N, [])).1) := by
                rw [HS2.out, HSM.out]
                show Value.int IntKind.i64 _ = .int .i64 (N - ((fold false l i (N, [])).1 - km))
                rw [show N - (fold false l i (N, [])).1 + km = N - ((fold false l i (N, [])).1 - km) by omega]
              have hv16 : Value.int IntKind.i64 ((i : Int) + 1) = .int .i64 ((i + 1 : Nat) : Int) := by rw [Int.natCast_add]; rfl
              go_roundw
              case rel =>
                first
                  | exact ⟨i + 1, by omega, hv16, hv13, INV.out⟩
                  | ((repeat apply Exists.intro); exact ⟨⟨i + 1, by omega, hv16, hv13, INV.out⟩, rfl⟩)
              case measure => simp [intOf]; omega
            · skip
              have hst := HST.out
              have qk : decide (0 < km) = false := decide_eq_false hk0
              rw [if_neg hk0] at hst
              have HS2 := Lib.hid hst
              clear hst
              go_wp2_with fail
              have hv13 : Value.int IntKind.i64 sm = .int .i64 (N - (fold false l (i + 1) (N, [])).1) := by rw [HS2.out, HSM.out]
              have INV := Lib.hid (mid_none MID.out (Below.refl _ w10) HFT.out HS2.out)
              have hv16 : Value.int IntKind.i64 ((i : Int) + 1) = .int .i64 ((i + 1 : Nat) : Int) := by rw [Int.natCast_add]; rfl
              go_roundw
              case rel =>
                first
                  | exact ⟨i + 1, by omega, hv16, hv13, INV.out⟩
                  | ((repeat apply Exists.intro); exact ⟨⟨i + 1, by omega, hv16, hv13, INV.out⟩, rfl⟩)
              case measure => simp [intOf]; omega
    · skip
      obtain rfl : n = i := by omega
      have q5 : decide ((n : Int) < (n : Int)) = false := decide_eq_false (by omega)
      obtain ⟨m, hm⟩ : ∃ m, m = n - kk := ⟨_, rfl⟩
      have hm1 : 1 ≤ m := by omega
      have hm2 : kk + m = n := by omega
      have hmb : m ≤ 20 := by omega
      have O14 : wr.ownsRow bs 5 1 u14 (16 * kk) (flB l kk) := by
        have h := HI.out.o14
        rw [show min n kk = kk by omega] at h
        exact h
      have O15 : wr.ownsRow bs 5 1 u15 (16 * m) (flB (fun j => l (kk + j)) m) := by
        have h := HI.out.o15
        rw [← hm] at h
        exact h
      have HOK2 := Lib.hid (fun j (hj : j < m) => HOK.out (kk + j) (by omega))
      have HM2 := Lib.hid hm2
      clear hm hm2
      obtain ⟨av, cv, hav, -⟩ := ownsRow_shape O15
      have hsl : u15 ≠ .slice none 0 0 := fun e => by rw [hav] at e; injection e with e1 e2 e3; omega
      have hnl := newL_of_owns O15 hsl (flB_length (fun j => l (kk + j)) m)
      obtain ⟨g15, cap15, F15, eg, hg15, hr15, hc15, hc15m, hx15⟩ := hnl
      clear hav hsl
      subst eg
      have hg15w : g15 < wr.heap.size := hr15.lt
      clear hr15 hc15 hc15m hx15 F15
      obtain ⟨ao12, c12, h12, -⟩ := ownsRow_shape HI.out.o12
      subst h12
      have HO14 := Lib.hid O14
      have HO15 := Lib.hid O15
      clear O14 O15
      obtain ⟨sm, hsm⟩ : ∃ z, z = N - (fold false l n (N, [])).1 := ⟨_, rfl⟩
      rw [← hsm]
      obtain ⟨fb0, fb1, fb2⟩ := fold_bd false l N hN0 n
      obtain ⟨ln, hln⟩ : ∃ z, z = (fold false l n (N, [])).2.length := ⟨_, rfl⟩
      rw [← hln] at fb2 ⊢
      have HLN := Lib.hid hln
      have HSM := Lib.hid hsm
      clear hsm hln
      obtain ⟨m16, hm16⟩ : ∃ z, z = 16 * m := ⟨_, rfl⟩
      rw [← hm16]
      obtain ⟨DL, hDL⟩ : ∃ A : Array Value, A = (hdL m).cells := ⟨_, rfl⟩
      have BDL := Lib.hid (show ∀ w, (Instr.build 26 #[(0, .int .i64 4), (1, .int .u64 4096), (2, .int .i64 (m16 : Nat))]).run Try.prog w = .ok (.agg DL) w by rw [hDL, hm16]; exact build_last _ _)
      have HBY := Lib.hid (show ∀ W, Calls Try.prog 25 #[.agg DL] W fun e w' => NewRow W w' 16 (dB (hdL m)) e from fun W => by rw [hDL]; exact bytes_any (hdL m) W (ok_seg (k := 4) (.inr rfl) (A := 4096) (by omega) (by omega)))
      have HM16 := Lib.hid hm16
      clear hDL hm16
      obtain ⟨i1, hi1, hy0, hy1, hy2⟩ := info_parts infoU8
      go_upto_region 27 with (first
        | ((with_reducible show wpList _ _ _ (⟨some 169, _, _, _, _, _⟩ :: _) _ _); refine wpList_buildC rfl 26 #[(0, .const (.int .i64 4)), (1, .const (.int .u64 4096)), (2, .tmp 168)] rfl #[(0, .int .i64 4), (1, .int .u64 4096), (2, .int .i64 (m16 : Nat))] (by simp [Act.eval, Act.put]) (BDL.out _) ?_)
        | (go_at_call 25; refine (HBY.out _).mono ?_; rintro e w9 ⟨g9, rfl, hg9, hb, hr9⟩; have H9 := Lib.hid hb; have R9 := Lib.hid hr9; have O149 := Lib.hid (own_below HO14.out hb); clear hb hr9 hg9)
        | (at_builtin; refine wpList_append_lies _ rfl _ _ 42 rfl bs 5 i1 _ 1 1 Try.underlying42 hi1 hy0 hy1 hy2 rfl (by decide) u14 (16 * kk) (flB l kk) rfl O149.out ⟨g9, 0, none⟩ 16 16 (dBs (hdL m)) rfl (by rw [dBs_length]) (src_of_row R9.out) (dBs_one _) (by decide) (by unfold maxLen; omega) (by omega) (by have := H9.out.size; omega) w9.heap.size rfl ?_; intro g10 cap10 w10 hown hgr hat hlt; have OW := Lib.hid hown; have HGR := Lib.hid hgr; clear hown hgr hat))
      have P12 := own_below HI.out.o12 H9.out
      have P15 := own_below HO15.out H9.out
      have Q12 := Lib.hid (P12.kept HGR.out HI.out.a1.symm.hne)
      have Q15 := Lib.hid (P15.kept HGR.out HI.out.a3.hne)
      have K10 := HI.out.keep.trans (grown_keeps H9.out HO14.out hwr HGR.out)
      have M10 := Lib.hid (M1.out.kept K10 (fun e => by have e : bs ≤ b := e; omega) (fun e => by have e : bs ≤ B := e; omega))
      have B10 := Lib.hid (B1.out.trans (K10.below (B := w.heap.size) (by omega) (fun j hj e => by have e : bs ≤ j := e; omega)))
      have D10 := Lib.hid (D1.out.below (K10.below (B := bs) (by omega) (fun j hj e => by have e : bs ≤ j := e; omega)) (fun g o e => by cases e; exact hgb))
      have hw10 : bs ≤ w10.heap.size := by have := K10.size; omega
      rw [← HM16.out] at Q15
      have hq14 : w10.ownsRow bs 5 1 (.slice (some ⟨g10, 0, none⟩) (16 * (kk + 1)) cap10) (16 * (kk + 1)) (flB (onL l kk (hdL m)) (kk + 1)) := by
        rw [flB_on1, show 16 * (kk + 1) = 16 * kk + 16 by omega]
        exact OW.out
      obtain ⟨k16, hk16⟩ : ∃ z, z = 16 * kk + 16 := ⟨_, rfl⟩
      rw [← hk16]
      have hk16' : k16 = 16 * (kk + 1) := by omega
      rw [← hk16'] at hq14
      have Q14 := Lib.hid hq14
      have HK16 := Lib.hid hk16'
      have hk16b : k16 ≤ 400 := by omega
      have hm16b : m16 ≤ 400 := by have := HM16.out; omega
      clear hq14 hk16 hk16' P12 P15 K10 O149 OW HGR R9 H9 BDL HBY
      obtain ⟨YL, hYL⟩ : ∃ A : Array Value, A = (⟨3, 512, (k16 : Nat), 0⟩ : Dsc).cells := ⟨_, rfl⟩
      have SYL := Lib.hid (show YL.size = 4 by rw [hYL]; rfl)
      have OYL := Lib.hid (show YL.all (·.oneCell') = true by rw [hYL]; exact Dsc.one _)
      have IYL := Lib.hid (show (Try.prog.info? 26).map (·.size) = some YL.size by rw [SYL.out]; exact sizeD)
      have BYL := Lib.hid (show ∀ w, (Instr.build 26 #[(0, .int .i64 3), (1, .int .u64 512), (2, .int .i64 (k16 : Nat))]).run Try.prog w = .ok (.agg YL) w by rw [hYL]; exact build_seg _ _)
      have HYL := Lib.hid hYL
      clear hYL
      go_upto_region 28 with (first
        | ((with_reducible show wpList _ _ _ (⟨some 174, _, _, _, _, _⟩ :: _) _ _); refine wpList_buildC rfl 26 #[(0, .const (.int .i64 3)), (1, .const (.int .u64 512)), (2, .tmp 173)] rfl #[(0, .int .i64 3), (1, .int .u64 512), (2, .int .i64 (k16 : Nat))] (by simp [Act.eval, Act.put]) (BYL.out _) ?_)
        | ((with_reducible show wpList _ _ _ (⟨some 24, _, _, _, _, _⟩ :: _) _ _); refine wpList_alloc rfl 26 rfl zeroD ?_; rw [show (Value.agg zDsc.cells).cells = zDsc.cells from rfl])
        | ((with_reducible show wpList _ _ _ (⟨none, .store _ (.tmp 24) _, _, _, _, _⟩ :: _) _ _); refine wpList_storeA rfl (b := w10.heap.size) (A := zDsc.cells) (A' := YL) (ArrAt.fresh w10 zDsc.cells _ (by decide)) 26 (.tmp 24) (.tmp 174) rfl (by simp [Act.eval, Act.put]) (by simp [Act.eval, Act.put]) (sizeDs _) (by rw [SYL.out]; rfl) OYL.out ?_))
      obtain ⟨W11, hW⟩ : ∃ z, z = (w10.alloc (.cells zDsc.cells 26)).setCells w10.heap.size 0 YL.toList := ⟨_, rfl⟩
      obtain ⟨hb11, ha11⟩ := stored_at (by decide) (by rw [SYL.out]; rfl) hW
      rw [← hW]
      obtain ⟨g24, hg24⟩ : ∃ z, z = w10.heap.size := ⟨_, rfl⟩
      rw [← hg24] at ha11 ⊢
      have hg24b : bs ≤ g24 := by omega
      have hw11 : bs ≤ W11.heap.size := by have := hb11.size; omega
      have R24 := Lib.hid ha11
      have S12 := Lib.hid (own_below Q12.out hb11)
      have S14 := Lib.hid (own_below Q14.out hb11)
      have S15 := Lib.hid (own_below Q15.out hb11)
      have M11 := Lib.hid (M10.out.below hb11)
      have D11 := Lib.hid (D10.out.below hb11 (fun g o e => by cases e; omega))
      have B11 := Lib.hid (B10.out.trans (hb11.mono B10.out.size))
      clear hW hb11 ha11 hg24 Q12 Q14 Q15 M10 D10 B10 BYL
      have htwo : ∀ j, bs ≤ j → ¬ Two b B j := fun j hj e => by rcases e with e | e <;> omega
      have HTWO := Lib.hid htwo
      have HW1 := Lib.hid (show ∀ W, MemAt W b B 16384 (fun _ => 0) [] → W.ownsRow bs 5 1 (.slice (some ⟨g10, 0, none⟩) k16 cap10) k16 (flB (onL l kk (hdL m)) (kk + 1)) → Calls Try.prog 26 #[.pointer (some ⟨b, 0, none⟩), .int .u64 512, .slice (some ⟨g10, 0, none⟩) k16 cap10] W fun e w' => e = .returned (.int .i64 0) ∧ Keeps (Two b B) W w' ∧ ∃ L', L'.length = 1 ∧ MemAt w' b B 16384 (upd (fun _ => 0) 512 (16 * (kk + 1)) (lsB (onL l kk (hdL m)))) L' by
        rw [HK16.out]
        exact fun W hM ho => write_own (a := 512) hM (by simp) rfl (by omega) ho hbb hBB (by omega) (by omega))
      obtain ⟨f1, hf1⟩ : ∃ z, z = upd (fun _ => 0) 512 (16 * (kk + 1)) (lsB (onL l kk (hdL m))) := ⟨_, rfl⟩
      rw [← hf1] at HW1
      have HW2 := Lib.hid (show ∀ W L, L.length = 1 → MemAt W b B 16384 f1 L → W.ownsRow bs 5 1 (.slice (some ⟨g15, 0, none⟩) m16 cap15) m16 (flB (fun j => l (kk + j)) m) → Calls Try.prog 26 #[.pointer (some ⟨b, 0, none⟩), .int .u64 4096, .slice (some ⟨g15, 0, none⟩) m16 cap15] W fun e w' => e = .returned (.int .i64 0) ∧ Keeps (Two b B) W w' ∧ ∃ L', L'.length = 2 ∧ MemAt w' b B 16384 (upd f1 4096 (16 * m) (lsB fun j => l (kk + j))) L' by
        rw [HM16.out]
        exact fun W L hL hM ho => (write_own (a := 4096) hM (by omega) rfl (by omega) ho hbb hBB (by omega) (by omega)).mono fun e w' ⟨h1, h2, L', h3, h4⟩ => ⟨h1, h2, L', by omega, h4⟩)
      go_upto_region 29 with (first
        | (go_at_call 26; refine (HW2.out w12 L12 hL12 M12.out (ownsRow_keeps S15.out K12.out HTWO.out)).mono ?_; rintro e w13 ⟨rfl, hk, L13, hL13, hm⟩; have M13 := Lib.hid hm; have K13 := Lib.hid (K12.out.trans hk); have HL13 := Lib.hid hL13; clear hk hm hL13)
        | (go_at_call 26; refine (HW1.out W11 M11.out S14.out).mono ?_; rintro e w12 ⟨rfl, hk, L12, hL12, hm⟩; have M12 := Lib.hid hm; have K12 := Lib.hid hk; clear hk hm))
      obtain ⟨f2, hf2⟩ : ∃ z, z = upd f1 4096 (16 * m) (lsB fun j => l (kk + j)) := ⟨_, rfl⟩
      have M13b := Lib.hid (show MemAt w13 b B 16384 f2 L13 by rw [hf2]; exact M13.out)
      obtain ⟨f3, hf3⟩ : ∃ z, z = upd f2 2048 (16 * n) (lstB l) := ⟨_, rfl⟩
      have HF3 := Lib.hid (show f3 = hldF l kk m n by rw [hf3, hf2, hf1]; rfl)
      have D13 := Lib.hid (show DAt w13 (some ⟨ga, oa, none⟩) n l from fun i hi => by
        obtain ⟨g', o', e, hr⟩ := D11.out i hi
        cases e
        exact ⟨ga, oa, rfl, fun j v hv => K13.out.cell (hr j v hv) (fun e => by rcases e with e | e <;> (have e : ga = _ := e; omega))⟩)
      have T12 := Lib.hid (ownsRow_keeps S12.out K13.out HTWO.out)
      have R243 := Lib.hid (R24.out.kept K13.out (HTWO.out _ hg24b))
      have B13 := Lib.hid (B11.out.trans (K13.out.below (B := w.heap.size) (by omega) (fun j hj e => by rcases e with e | e <;> omega)))
      have hw13 : bs ≤ w13.heap.size := by have := K13.out.size; omega
      have HBL := Lib.hid (show Calls Try.prog 19 #[.pointer (some ⟨b, 0, none⟩), .int .u64 2048, .slice (some ⟨ga, oa, none⟩) n c] w13 fun e w' => e = .returned (.tuple #[.agg (⟨4, 2048, (16 * n : Nat), 0⟩ : Dsc).cells, .int .i64 0]) ∧ Keeps (Two b B) w13 w' ∧ ∃ L', MemAt w' b B 16384 f3 L' by rw [hf3]; exact bld_fits b B n c _ l f2 L13 w13 M13b.out D13.out HOK.out HI.out.fits h2 h20 (by have := HL13.out; omega))
      obtain ⟨ZL, hZL⟩ : ∃ A : Array Value, A = (⟨4, 2048, (16 * n : Nat), 0⟩ : Dsc).cells := ⟨_, rfl⟩
      have SZL := Lib.hid (show ZL.size = 4 by rw [hZL]; rfl)
      have OZL := Lib.hid (show ZL.all (·.oneCell') = true by rw [hZL]; exact Dsc.one _)
      have IZL := Lib.hid (show (Try.prog.info? 26).map (·.size) = some ZL.size by rw [SZL.out]; exact sizeD)
      rw [← hZL] at HBL
      have HZL := Lib.hid hZL
      clear hf1 hf2 hf3 hZL M13 M13b S12 S14 S15 R24 B11 D11 M11 K13 M12 K12 HW1 HW2
      go_upto_region 30 with (first
        | (go_at_call 19; refine HBL.out.mono ?_; rintro e w14 ⟨rfl, hk, L14, hm⟩; have M14 := Lib.hid hm; have K14 := Lib.hid hk; clear hk hm)
        | ((with_reducible show wpList _ _ _ (⟨some 27, _, _, _, _, _⟩ :: _) _ _); refine wpList_alloc rfl 26 rfl zeroD ?_; rw [show (Value.agg zDsc.cells).cells = zDsc.cells from rfl])
        | ((with_reducible show wpList _ _ _ (⟨none, .store _ (.tmp 27) _, _, _, _, _⟩ :: _) _ _); refine wpList_storeA rfl (b := w14.heap.size) (A := zDsc.cells) (A' := ZL) (ArrAt.fresh w14 zDsc.cells _ (by decide)) 26 (.tmp 27) (.tmp 185) rfl (by simp [Act.eval, Act.put]) (by simp [Act.eval, Act.put]) (sizeDs _) (by rw [SZL.out]; rfl) OZL.out ?_))
      obtain ⟨W15, hW⟩ : ∃ z, z = (w14.alloc (.cells zDsc.cells 26)).setCells w14.heap.size 0 ZL.toList := ⟨_, rfl⟩
      obtain ⟨hb15, ha15⟩ := stored_at (by decide) (by rw [SZL.out]; rfl) hW
      rw [← hW]
      have hw14 : bs ≤ w14.heap.size := by have := K14.out.size; omega
      have T15 := Lib.hid (own_below (ownsRow_keeps T12.out K14.out HTWO.out) hb15)
      have R2415 := Lib.hid ((R243.out.kept K14.out (HTWO.out _ hg24b)).below hb15)
      have R2715 := Lib.hid ha15
      have M15 := Lib.hid (M14.out.below hb15)
      have b14 := B13.out.trans (K14.out.below (B := w.heap.size) (by omega) (fun j hj e => by rcases e with e | e <;> omega))
      have B15 := Lib.hid (b14.trans (hb15.mono b14.size))
      obtain ⟨g27, hg27⟩ : ∃ z, z = w14.heap.size := ⟨_, rfl⟩
      rw [← hg27] at R2715 ⊢
      clear hW hb15 ha15 hg27 b14 T12 R243 M14 K14 B13 D13 HBL
      have hzo : (⟨4, 2048, (16 * n : Nat), 0⟩ : Dsc).Ok := ok_seg (k := 4) (.inr rfl) (A := 2048) (by omega) (by omega)
      have hyo : (⟨3, 512, (k16 : Nat), 0⟩ : Dsc).Ok := by rw [HK16.out]; exact ok_seg (k := 3) (.inl rfl) (A := 512) (by omega) (by omega)
      obtain ⟨hr1, hr2⟩ := hld_spans l kk m n N false HI.out.fits HOK.out hk1 hm1 HM2.out h20 hN0 hN1
      have HR2 : spansM (hldF l kk m n) 16384 ⟨3, 512, (k16 : Nat), 0⟩ N false = hldR false l n N := by rw [HK16.out]; exact hr2
      by_cases hx0 : (fold false l n (N, [])).1 = 0
      · have q6 : decide (sm < N) = false := decide_eq_false (by have := HSM.out; omega)
        have HZ := Lib.hid (show ∀ W L, MemAt W b B 16384 f3 L → W.ownsRow bs 62 3 (.slice ao12 ln c12) ln (spC (fold false l n (N, [])).2) → Calls Try.prog 27 #[.pointer (some ⟨b, 0, none⟩), .agg ZL, .int .i64 N, .bool false, .int .i64 0, .slice ao12 ln c12] W fun e w' => e = .returned (.bool true) ∧ Below W.heap.size W w' by
          rw [HF3.out, HZL.out]
          exact fun W L hM ho => hld_full hzo hr1 hM hx0 HLN.out (by omega) ho)
        have HY := Lib.hid (show ∀ W L, MemAt W b B 16384 f3 L → W.ownsRow bs 62 3 (.slice ao12 ln c12) ln (spC (fold false l n (N, [])).2) → Calls Try.prog 27 #[.pointer (some ⟨b, 0, none⟩), .agg YL, .int .i64 N, .bool false, .int .i64 0, .slice ao12 ln c12] W fun e w' => e = .returned (.bool true) ∧ Below W.heap.size W w' by
          rw [HF3.out, HYL.out]
          exact fun W L hM ho => hld_full hyo HR2 hM hx0 HLN.out (by omega) ho)
        have HT15 := Lib.hid (show W15.ownsRow bs 62 3 (.slice ao12 ln c12) ln (spC (fold false l n (N, [])).2) by
          have h := T15.out
          rw [← HLN.out] at h
          exact h)
        clear hr1 hr2 HR2 hx0
        go_wp2_with (first
          | (go_at_call 13; refine (num_any _ _).mono ?_; rintro e w' ⟨rfl, rfl⟩)
          | ((with_reducible show wpList _ _ _ (⟨some 218, _, _, _, _, _⟩ :: _) _ _); refine wpList_loadA rfl R2715.out 26 (.tmp 27) rfl (by first | rfl | simp [Act.eval, Act.put]) Try.underlying26 rfl IZL.out ?_)
          | ((with_reducible show wpList _ _ _ (⟨some 225, _, _, _, _, _⟩ :: _) _ _); refine wpList_loadAG (by rfl) (R2415.out.below H16.out) 26 (.tmp 24) rfl (by first | rfl | simp [Act.eval, Act.put]) Try.underlying26 rfl IYL.out ?_)
          | (go_at_call 27; refine (HY.out w16 _ M16.out (own_below HT15.out H16.out)).mono ?_; rintro e w17 ⟨rfl, hb⟩; have B17 := Lib.hid (B16.out.trans (hb.mono B16.out.size)); clear hb)
          | (go_at_call 27; refine (HZ.out W15 _ M15.out HT15.out).mono ?_; rintro e w16 ⟨rfl, hb⟩; have H16 := Lib.hid hb; have M16 := Lib.hid (M15.out.below hb); have B16 := Lib.hid (B15.out.trans (hb.mono B15.out.size)); clear hb)
          | (go_at_call 16; refine (works_ok _).mono ?_; rintro e w18 ⟨rfl, hb⟩; have B18 := Lib.hid (B17.out.trans (hb.mono B17.out.size)); clear hb))
        go_ret
        exact ⟨by first | rfl | simp, B18.out⟩
      · have q6 : decide (sm < N) = true := decide_eq_true (by have := HSM.out; omega)
        have HZ := Lib.hid (show ∀ W L, MemAt W b B 16384 f3 L → Calls Try.prog 27 #[.pointer (some ⟨b, 0, none⟩), .agg ZL, .int .i64 N, .bool false, .int .i64 162, .slice none 0 0] W fun e w' => e = .returned (.bool true) ∧ Below W.heap.size W w' by
          rw [HF3.out, HZL.out]
          exact fun W L hM => hld_short hzo hr1 hM hx0)
        have HY := Lib.hid (show ∀ W L, MemAt W b B 16384 f3 L → Calls Try.prog 27 #[.pointer (some ⟨b, 0, none⟩), .agg YL, .int .i64 N, .bool false, .int .i64 162, .slice none 0 0] W fun e w' => e = .returned (.bool true) ∧ Below W.heap.size W w' by
          rw [HF3.out, HYL.out]
          exact fun W L hM => hld_short hyo HR2 hM hx0)
        clear hr1 hr2 HR2 hx0
        go_wp2_with (first
          | (go_at_call 13; refine (num_any _ _).mono ?_; rintro e w' ⟨rfl, rfl⟩)
          | ((with_reducible show wpList _ _ _ (⟨some 203, _, _, _, _, _⟩ :: _) _ _); refine wpList_loadA rfl R2715.out 26 (.tmp 27) rfl (by first | rfl | simp [Act.eval, Act.put]) Try.underlying26 rfl IZL.out ?_)
          | ((with_reducible show wpList _ _ _ (⟨some 209, _, _, _, _, _⟩ :: _) _ _); refine wpList_loadAG (by rfl) (R2415.out.below H16.out) 26 (.tmp 24) rfl (by first | rfl | simp [Act.eval, Act.put]) Try.underlying26 rfl IYL.out ?_)
          | (go_at_call 27; refine (HY.out w16 _ M16.out).mono ?_; rintro e w17 ⟨rfl, hb⟩; have B17 := Lib.hid (B16.out.trans (hb.mono B16.out.size)); clear hb)
          | (go_at_call 27; refine (HZ.out W15 _ M15.out).mono ?_; rintro e w16 ⟨rfl, hb⟩; have H16 := Lib.hid hb; have M16 := Lib.hid (M15.out.below hb); have B16 := Lib.hid (B15.out.trans (hb.mono B15.out.size)); clear hb)
          | (go_at_call 16; refine (works_ok _).mono ?_; rintro e w18 ⟨rfl, hb⟩; have B18 := Lib.hid (B17.out.trans (hb.mono B17.out.size)); clear hb))
        go_ret
        exact ⟨by first | rfl | simp, B18.out⟩
end
theorem holdsLaw (ao : Option Addr) (n c : Nat) (l : Nat → Dsc) (cut N : Int) (th : Bool) (w : World) (hC : DAt w ao n l ∧ (∀ i, i < n → (l i).Ok) ∧ n ≤ maxLen) (h1 : (Lit.int .i64 cut).wf = true) (h2 : (Lit.int .i64 N).wf = true) :
    Calls Try.prog 6 #[.slice ao n c, .int .i64 cut, .int .i64 N, .bool th] w fun e w' => e = .returned (.bool true) ∧ Below w.heap.size w w' := by
  obtain ⟨hC1, hok, hn⟩ := hC
  obtain ⟨c0, c1⟩ := wf_i64 h1
  obtain ⟨n0, n1⟩ := wf_i64 h2
  by_cases h : n < 2 ∨ 20 < n ∨ N < 0 ∨ 100000 < N
  · exact holds_out ao n c cut N th w hn n0 n1 h
  · cases th
    · exact holds_in_false ao n c l cut N w hC1 hok c0 c1 (by omega) (by omega) (by omega) (by omega)
    · exact holds_in_true ao n c l cut N w hC1 hok c0 c1 (by omega) (by omega) (by omega) (by omega)
end Go.Proofs.Ytcljbmkdflkeeaa
