/- completion: Name, Listed, Codes and what its iterator hands to a loop. -/
import Derived.Test.YtiinjjfggmmkmaaNa
import Derived.Test.YtiinjjfggmmkmaaZJ
namespace Go.Proofs.Ytiinjjfggmmkmaa
set_option linter.unusedVariables false
set_option linter.unusedSimpArgs false
open Go.RowKit Go.Shelf
attribute [local go_sem] Oper.semAt_some

theorem zeroStr (w : World) : (zeroValue 9).run Try.prog w = .ok (.string ⟨#[]⟩) w := by kernel_rfl
theorem look_name {w : World} {r : Nat} (h : MapIs .u16 w r (kvS namesL)) (k : Int) : (Instr.lookup 73 (.map (some r)) (.int .u16 k) false).run Try.prog w = .ok (strV (nameOf k)) w := by
  by_cases hk : k ∈ codesL
  · exact h.look Try.underlying73 Try.underlying26 (nameOf_mem k hk) false
  · obtain ⟨e, hn⟩ := nameOf_not k hk
    rw [e]
    exact h.miss Try.underlying73 Try.underlying26 hn (.string ⟨#[]⟩) (zeroStr w) false
/-- whether a code is listed -/
def lstB (k : Int) : Bool := decide (k ∈ codesL)
theorem look_listed {w : World} {r : Nat} (h : MapIs .u16 w r (kvS namesL)) (k : Int) : (Instr.lookup 73 (.map (some r)) (.int .u16 k) true).run Try.prog w = .ok (.tuple #[strV (nameOf k), .bool (lstB k)]) w := by
  unfold lstB
  by_cases hk : k ∈ codesL
  · rw [decide_eq_true hk]
    exact h.look Try.underlying73 Try.underlying26 (nameOf_mem k hk) true
  · obtain ⟨e, hn⟩ := nameOf_not k hk
    rw [e, decide_eq_false hk]
    exact h.miss Try.underlying73 Try.underlying26 hn (.string ⟨#[]⟩) (zeroStr w) true
set_option maxHeartbeats 1000000 in
theorem name_any (k : Int) (w : World) : Calls Try.prog 20 #[.int .u16 k] w fun e w' => e = .returned (strV (nameOf k)) ∧ Below w.heap.size w w' := by
  have HN := Lib.hid (names_any w)
  go_enter Try.func20, Try.ntmps20
  go_wp2_with (go_at_call 34; refine HN.out.mono ?_; rintro e w1 ⟨r, rfl, h1, h2, h3⟩; have hlk := look_name h2 k; have H3 := Lib.hid h3; clear h1 h2 h3)
  go_ret
  exact ⟨rfl, H3.out⟩
set_option maxHeartbeats 1000000 in
theorem listed_any (k : Int) (w : World) : Calls Try.prog 22 #[.int .u16 k] w fun e w' => e = .returned (.bool (lstB k)) ∧ Below w.heap.size w w' := by
  have HN := Lib.hid (names_any w)
  go_enter Try.func22, Try.ntmps22
  go_wp2_with (go_at_call 34; refine HN.out.mono ?_; rintro e w1 ⟨r, rfl, h1, h2, h3⟩; have hlk := look_listed h2 k; have H3 := Lib.hid h3; clear h1 h2 h3)
  go_ret
  exact ⟨rfl, H3.out⟩
set_option maxHeartbeats 1000000 in
theorem codes_any (w : World) : Calls Try.prog 15 #[] w fun e w' => e = .returned (.func (.func 31) #[] #[]) ∧ w' = w := by
  go_enter Try.func15, Try.ntmps15
  go_wp2_with fail
  go_ret
  exact ⟨rfl, rfl⟩
set_option maxHeartbeats 1000000 in
theorem keys_any (b : Nat) (w : World) : Calls Try.prog 33 #[.map (some b)] w fun e w' => e = .returned (.func (.func 45) #[] #[.pointer (some ⟨w.heap.size, 0, none⟩)]) ∧ w' = w.alloc (.cells #[.map (some b)] 73) := by
  have hmf : ∀ (fn : Fn) (first cap : Array Value) (w : World), (Instr.makeFunc fn first cap).run Try.prog w = .ok (.func fn first cap) w := fun _ _ _ _ => rfl
  go_enter Try.func33, Try.ntmps33
  go_wp2_with fail
  go_ret
  exact ⟨rfl, rfl⟩

/-- Cells and maps from B on are as they were. -/
structure KeepCW (B : Nat) (W W' : World) : Prop where
  size : W.heap.size ≤ W'.heap.size
  same : ∀ (k : Nat) (o : Obj), B ≤ k → W.heap[k]? = some o → (o.isCells = true ∨ o.isWalk = true) → W'.heap[k]? = some o
theorem KeepCW.refl (B : Nat) (W : World) : KeepCW B W W := ⟨Nat.le_refl _, fun _ _ _ h _ => h⟩
theorem KeepCW.trans {B : Nat} {X Y Z : World} (h : KeepCW B X Y) (k : KeepCW B Y Z) : KeepCW B X Z := ⟨Nat.le_trans h.size k.size, fun i o hB hi ho => k.same i o hB (h.same i o hB hi ho) ho⟩
theorem KeepCW.alloc (B : Nat) (W : World) (o : Obj) : KeepCW B W (W.alloc o) := ⟨by simp, fun k o' _ hk _ => (Below.heap_alloc W o k (lt_of_block hk)).trans hk⟩
theorem KeepCW.putObj {B : Nat} {W : World} {l : Nat} {o : Obj} (o' : Obj) (h : W.heap[l]? = some o) (h1 : o.isCells = false) (h2 : o.isWalk = false) : KeepCW B W (W.putObj l o') :=
  ⟨by simp, fun k o1 _ hk hc => by
    by_cases e : k = l
    · subst e
      rw [h] at hk
      cases hk
      rcases hc with hc | hc
      · rw [h1] at hc; cases hc
      · rw [h2] at hc; cases hc
    · exact (World.putObj_heap_other (fun e' => e (by first | exact e' | exact e'.symm))).trans hk⟩
theorem KeepCW.setCell {B : Nat} {W : World} (p : Addr) (hp : p.block < B) (u : Value) : KeepCW B W (W.setCell p u) := ⟨by simp, fun k o hB hk _ => (Below.heap_setCell _ _ _ _ (fun e => by omega)).trans hk⟩
theorem KeepCW.below {B : Nat} {W W' : World} (h : Below W.heap.size W W') : KeepCW B W W' := ⟨h.size, fun k o _ hk _ => (h.block k (lt_of_block hk)).trans hk⟩
theorem KeepCW.keeps {B : Nat} {S : Nat → Prop} {W W' : World} (h : Keeps S W W') (hS : ∀ k, S k → k < B) : KeepCW B W W' := ⟨h.size, fun k o hB hk _ => (h.block k (lt_of_block hk) (fun s => by have := hS k s; omega)).trans hk⟩
theorem KeepCW.mapIs {B : Nat} {W W' : World} (k : KeepCW B W W') {q : IntKind} {r : Nat} {kv : List (Int × Value)} (h : MapIs q W r kv) (hB : B ≤ r) : MapIs q W' r kv := by
  obtain ⟨es, clock, hb, h'⟩ := h
  exact ⟨es, clock, k.same r _ hB hb (.inr rfl), h'⟩
theorem heap_of_cell {W : World} {g o : Nat} {v : Value} (h : W.cell? ⟨g, o, none⟩ = some v) : ∃ c t f, W.heap[g]? = some (.cells c t f) := by
  unfold World.cell? at h
  cases hA : W.heap[g]? with
  | none => simp only [hA] at h; cases h
  | some x =>
    cases x with
    | cells c t f => exact ⟨c, t, f, rfl⟩
    | _ => simp only [hA] at h; cases h
theorem KeepCW.cell {B : Nat} {W W' : World} (k : KeepCW B W W') {g o : Nat} {v : Value} (h : W.cell? ⟨g, o, none⟩ = some v) (hB : B ≤ g) : W'.cell? ⟨g, o, none⟩ = some v := by
  obtain ⟨c, t, f, e⟩ := heap_of_cell h
  have e' := k.same g _ hB e (.inl rfl)
  exact (World.cell?_of_block (w := W) (e'.trans e.symm)).trans h
theorem KeepCW.slAt {B : Nat} {W W' : World} (k : KeepCW B W W') {ao : Option Addr} {zs : List Int} (h : SlAt W ao zs) (hB : ∀ g o, ao = some ⟨g, o, none⟩ → B ≤ g) : SlAt W' ao zs := fun j hj => by
  obtain ⟨g, o, e, hc⟩ := h j hj
  exact ⟨g, o, e, k.cell hc (hB g o e)⟩

/-- the code with an index -/
def codeAt (i : Nat) : Int := codesL.getD i 0
/-- What a loop over the codes is told. -/
def encO (i : Nat) : Array Value := #[.int .i64 (i : Nat), .int .u16 (codeAt i)]

set_option maxRecDepth 100000 in
set_option maxHeartbeats 2000000 in
theorem codes1_stops (n : Nat) (hn : 2 ≤ n) (w : World) :
    SeqStopsK Fence.wide n Try.prog 31 #[] encO (KeepCW w.heap.size) (fun xs => xs = List.range 84) (fun pre => ∃ k, pre = List.range k) 84 w := fun lb J Jx W hW hJ hJx hY h0 => by
  have HJ := Lib.hid hJ
  have HY := Lib.hid hY
  have H0 := Lib.hid h0
  have hwW := hW.size
  obtain ⟨B, hB⟩ : ∃ B, B = w.heap.size := ⟨_, rfl⟩
  rw [← hB] at hwW HY
  have HN := Lib.hid (names_any W)
  clear hW hJ hY h0 hJx hB
  refine callsIn_of_wp Try.func31 rfl trivial ?_ rfl
  simp only [Try.ntmps31, List.size_toArray, List.length_cons, List.length_nil, Nat.reduceAdd, Nat.reduceSub, Array.replicate_succ, Array.replicate_zero, List.push_toArray, List.append_toArray, List.nil_append, List.cons_append]
  refine wpIn_wide.2 (wp_scope_straight ?_)
  go_wp2_with (first
    | (go_at_call 34; refine HN.out.mono ?_; rintro e w1 ⟨r, rfl, h1, h2, h3⟩; have HM1 := Lib.hid h2; have B1 := Lib.hid h3; have hr1 : W.heap.size ≤ r := h1; clear h1 h2 h3)
    | (go_at_call 33; refine (keys_any r w1).mono ?_; rintro e w2 ⟨rfl, hw2⟩; have HW2 := Lib.hid hw2; clear hw2)
    | (with_reducible refine wp_label ?_))
  have hb2 : Below w1.heap.size w1 w2 := by rw [HW2.out]; exact (Below.refl _ _).alloc (Nat.le_refl _) _
  have hm2 := HM1.out.below hb2
  obtain ⟨es, clock, hb, hE, hk, hp, hsz⟩ := hm2.ok
  have hc2 : w2.cell? ⟨w1.heap.size, 0, none⟩ = some (.map (some r)) := by rw [HW2.out]; go_simp
  have HS := Lib.hid (sorted_any w1.heap.size r clock es w2 hE hk hc2 hb (by rw [hsz]; unfold kvS; rw [List.length_map, ← (show (namesL.map (·.1)).length = namesL.length from List.length_map _), ← codes_perm.length_eq, codes_len]; omega))
  rw [kvS_fst] at hp
  have HP := Lib.hid (hp.trans codes_perm.symm)
  have B2 := Lib.hid (B1.out.trans (hb2.mono B1.out.size))
  clear hb2 hm2 hb hE hk hp hsz hc2 HW2
  refine HS.out.mono ?_
  rintro e w3 ⟨ao, cap, zs, rfl, h1, h2, h3, h4, h5⟩
  obtain rfl : zs = codesL := sorted_eq h2 codes_sorted (h1.trans HP.out)
  have SL := Lib.hid h3
  have AG := Lib.hid h4
  have B3 := Lib.hid (B2.out.trans (h5.mono B2.out.size))
  have SZ := B2.out.size
  clear h1 h2 h3 h4 h5 HS HM1 B1 HP B2
  rw [codes_len]
  have hJ3 : J [] w3 := HJ.out _ _ _ none H0.out ⟨B3.out.os, B3.out.tape, B3.out.output, B3.out.size, fun k hk _ => B3.out.block k hk⟩ (fun r e => by cases e)
  have J3 := Lib.hid hJ3
  clear hJ3 H0
  go_wp2_with (with_reducible refine wp_label ?_)
  refine (wpIn_wide (n := n)).1 ?_
  gi_loopw [8] (fun i wr => ∃ k : Nat, k ≤ 84 ∧ i = .int .i64 (k : Nat) ∧ J (List.range k) wr ∧ SlAt wr ao codesL) (fun i _ => 84 - (intOf i).toNat)
  case atStart => exact ⟨0, Nat.zero_le _, rfl, J3.out, SL.out⟩
  case round =>
    obtain ⟨k, hk, rfl, hJk, hs⟩ := hrel
    have JK := Lib.hid hJk
    have S1 := Lib.hid hs
    clear hJk hs J3 SL
    by_cases hkN : k < 84
    · have q1 : decide ((k : Int) < 84) = true := decide_eq_true (by omega)
      have q2 : decide (k < 84) = true := decide_eq_true hkN
      have hkl : k < codesL.length := by rw [codes_len]; exact hkN
      obtain ⟨g, o, rfl, hcell⟩ := S1.out k hkl
      have eg : codesL[k]'hkl = codeAt k := by simp [codeAt, List.getD_eq_getElem?_getD, hkl]
      rw [eg] at hcell
      obtain ⟨x, hx⟩ : ∃ x, x = codeAt k := ⟨_, rfl⟩
      rw [← hx] at hcell
      have hY1 := HY.out (List.range k) k wr JK.out (by rw [List.length_range]; exact hkN)
      simp only [encO] at hY1
      rw [← hx] at hY1
      obtain ⟨fn, tmps, assign, body, hy, hR⟩ := hY1
      have HX := Lib.hid hx
      have AGE := Lib.hid (AG.out g o rfl)
      clear hx eg
      gi_wp2
      try rw [hy]
      refine ⟨fun _ => by omega, hR.mono ?_⟩
      rintro e W' (⟨rfl, hJ', hk'⟩ | ⟨rfl, hJx'⟩)
      · gi_wp2
        refine ⟨⟨k + 1, by omega, by go_num, by rw [List.range_succ]; exact hJ', hk'.slAt S1.out (fun g o e => by have := AG.out g o e; omega)⟩, by simp [intOf]; omega⟩
      · gi_wp2
        rw [Exit.noGoto_normal]
        go_end0
        exact ⟨⟨_, rfl⟩, .inr ⟨_, ⟨k + 1, rfl⟩, by rw [List.range_succ]; exact hJx'⟩⟩
    · obtain rfl : k = 84 := by omega
      gi_wp2
      rw [Exit.noGoto_normal]
      go_end0
      exact ⟨⟨_, rfl⟩, .inl ⟨_, rfl, JK.out⟩⟩
end Go.Proofs.Ytiinjjfggmmkmaa
