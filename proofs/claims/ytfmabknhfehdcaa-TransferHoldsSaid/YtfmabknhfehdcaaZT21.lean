/- sgl: caught: what a panic with an error leaves. -/
import Derived.Test.YtfmabknhfehdcaaZT20
import Derived.Defers
import Derived.Recover
import Derived.Deep.RegionHeld3
import Derived.Deep.AppendLies
import Derived.Deep.RegionLaw
import Derived.Test.YtfmabknhfehdcaaZT7
import Derived.Test.YtfmabknhfehdcaaZT0
import Derived.MapKept
import Derived.RangeFuncRecord
namespace Go.Proofs.Ytfmabknhfehdcaa
set_option linter.unusedVariables false
set_option linter.unusedSimpArgs false
open Go.RowKit

/-- what clears the result, and what lies there then -/
structure sClears (f : Nat) (cb : Nat) (C C' : World → Prop) : Prop where
  enter : ∀ args w, (callFunc f args).run Try.prog w = .ok (.enter f args) w
  call : ∀ w, C w → Calls Try.prog f #[.pointer (some ⟨cb, 0, none⟩)] w fun e w' => e = .returned (.tuple #[]) ∧ Keeps (One cb) w w' ∧ C' w'

set_option maxRecDepth 100000 in
set_option maxHeartbeats 4000000 in
theorem scaught_panicking (f cb eb : Nat) (C C' : World → Prop) (x no : Int) (w : World) (hcl : sClears f cb C C') (hC : C w) (he : w.cell? ⟨eb, 0, none⟩ = some (.int .i64 x)) (hz : w.frozen? ⟨eb, 0, none⟩ = false) (hne : eb ≠ cb)
    (hC' : ∀ a b, C' a → Keeps (One eb) a b → C' b) :
    CallsD Try.prog 70 #[.pointer (some ⟨eb, 0, none⟩), .func (.func f) #[] #[.pointer (some ⟨cb, 0, none⟩)]] (.panicking [pan no]) w fun e u' w' =>
      e = .returned (.tuple #[]) ∧ u' = .panicking [{ pan no with recovered := true }] ∧ Keeps (Two cb eb) w w' ∧ C' w' ∧ w'.cell? ⟨eb, 0, none⟩ = some (.int .i64 no) := by
  have HCL := Lib.hid hcl
  have HC := Lib.hid hC
  have HC' := Lib.hid hC'
  have HE := Lib.hid he
  have HZ := Lib.hid hz
  unfold pan
  refine callsD_of_wpS Try.func70 rfl fun c₀ cs hu => ?_
  apply wpS_seq
  apply wpS_region
  simp [wpOpsS, go_sem, recoverD, hu, Try.ntmps70, Exit.thenS]
  refine wpS_of_wp ?_
  have HU := Lib.hid hu
  clear hcl hC hC' he hz hu
  generalize hq : (bodyPostS Try.prog Try.f70 c₀ cs _) = Q
  have HQ := Lib.hid hq
  clear hq
  have hfr : (#[Value.pointer (some ⟨eb, 0, none⟩), Value.func (.func f) #[] #[.pointer (some ⟨cb, 0, none⟩)]] ++ ((Array.replicate 21 undef).setIfInBounds 5 (Value.iface 50 (.int .i64 no))).setIfInBounds 2 (Value.iface 50 (.int .i64 no)) : Array Value) = #[.pointer (some ⟨eb, 0, none⟩), .func (.func f) #[] #[.pointer (some ⟨cb, 0, none⟩)], undef, undef, .iface 50 (.int .i64 no), undef, undef, .iface 50 (.int .i64 no), undef, undef, undef, undef, undef, undef, undef, undef, undef, undef, undef, undef, undef, undef, undef] := by kernel_rfl
  rw [hfr]
  clear hfr
  go_upto_region 2 with (fail)
  have hta : ∀ w, (Instr.typeAssert (.iface 50 (.int .i64 no)) 20 50 true).run Try.prog w = .ok (.tuple #[.int .i64 no, .bool true]) w := fun w => by kernel_rfl
  go_upto_region 3 with (fail)
  go_upto_region 5 with (fail)
  have hen := HCL.out.enter
  have hcall := Lib.hid (HCL.out.call w HC.out)
  go_upto_region 6 with ((with_reducible refine hcall.out.mono ?_); rintro e w1 ⟨rfl, hk, hc1⟩)
  have he1 := hk.cell HE.out (fun e => by have e : eb = cb := e; omega)
  have hz1 : w1.frozen? ⟨eb, 0, none⟩ = false := (World.frozen?_of_block (w := w) (hk.block eb (World.block_lt_of_cell? _ _ HE.out) (fun e => by have e : eb = cb := e; omega))).trans HZ.out
  have HK := Lib.hid hk
  have HC1 := Lib.hid hc1
  clear hk hc1 hen hcall
  go_wp2_with fail
  rw [← HQ.out]
  refine ⟨rfl, _, rfl, .tuple #[], ?_, rfl, rfl, HK.out.two1.trans ((Keeps.refl (One eb) w1).set1 0 (.int .i64 no)).two2, HC'.out _ _ HC1.out ((Keeps.refl (One eb) w1).set1 0 (.int .i64 no)), World.cell?_setCell_same _ _ _ he1⟩
  simp [results, Try.results70]

theorem scaught_idle (u v : Value) (w : World) :
    CallsD Try.prog 70 #[u, v] .returning w fun e u' w' => e = .returned (.tuple #[]) ∧ u' = .returning ∧ w' = w := by
  refine callsD_of_wpS Try.func70 rfl fun c₀ cs hu => ?_
  apply wpS_seq
  apply wpS_region
  simp [wpOpsS, go_sem, recoverD, hu, Try.ntmps70, Exit.thenS]
  apply wpS_seq
  apply wpS_region
  simp [wpOpsS, go_sem, recoverD, hu, Try.ntmps70, Exit.thenS]
  refine wpS_cond (t := false) (by simp [Act.eval, Array.replicate]) ?_
  simp only [Bool.false_eq_true, if_false]
  refine wpS_of_wp (wp_skip ?_)
  cases c₀
  simp_all [bodyPostS, results, Try.results70]

/-- the spans cleared -/
theorem sclears_spans (cb : Nat) : sClears 99 cb (fun w => (∃ v, w.cell? ⟨cb, 0, none⟩ = some v) ∧ w.frozen? ⟨cb, 0, none⟩ = false) (fun w => w.cell? ⟨cb, 0, none⟩ = some (.slice none 0 0)) := by
  refine ⟨fun args w => by simp [go_sem], fun w h => ?_⟩
  obtain ⟨⟨v, hc⟩, hf⟩ := h
  go_enter Try.func99, Try.ntmps99
  go_wp2_with fail
  go_end0
  exact ⟨rfl, (Keeps.refl _ _).set1 _ _, World.cell?_setCell_same _ _ _ hc⟩
/-- the descriptor cleared -/
theorem sclears_build (cb : Nat) : sClears 71 cb (fun w => ∃ d : Dsc, ArrAt w cb d.cells) (fun w => ArrAt w cb zDsc.cells) := by
  refine ⟨fun args w => by simp [go_sem], fun w h => ?_⟩
  obtain ⟨d, ha⟩ := h
  have HA := Lib.hid ha
  clear ha
  go_enter Try.func71, Try.ntmps71
  go_wp2_with (first
    | ((with_reducible show wpList _ _ _ (⟨some _, .build _ _, _, _, _, _⟩ :: _) _ _); refine wpList_build0 rfl 66 rfl (buildDz _) ?_)
    | ((with_reducible show wpList _ _ _ (⟨none, .store _ (.tmp 0) _, _, _, _, _⟩ :: _) _ _); refine wpList_storeA rfl (b := cb) (A := d.cells) (A' := zDsc.cells) HA.out 66 (.tmp 0) _ rfl (by simp [Act.eval, Act.put]) (by simp [Act.eval, Act.put]) (sizeDs _) rfl (Dsc.one _) ?_))
  go_end0
  exact ⟨rfl, Keeps.setCells _ (Keeps.refl _ _) _, HA.out.store zDsc.cells rfl⟩
end Go.Proofs.Ytfmabknhfehdcaa

namespace Go.Proofs.Ytfmabknhfehdcaa
open Go.RowKit

/-- The state of a walk. -/
structure WSt where
  ins : Bool
  las : Bool
  at' : Int
  en : Int
  left : Int
  out : List Spn
def addS (x : Spn) (s : WSt) : WSt :=
  if 0 < min x.n s.left then { s with out := s.out ++ [{ x with n := min x.n s.left }], left := s.left - min x.n s.left } else s
/-- what is examined: an error, or the next state -/
def exam (size : Nat) (th : Bool) (d : Dsc) (s : WSt) : Except Int WSt :=
  if d.k = 3 ∨ d.k = 4 then
    if ¬ (0 < d.n ∧ d.n % 16 = 0 ∧ (s.ins = false ∨ (s.las = false ∧ s.at' = s.en))) then .error 161
    else if chk size d.a d.n ≠ 0 then .error (chk size d.a d.n)
    else .ok { s with ins := true, las := decide (d.k = 4), at' := d.a, en := d.a + d.n }
  else if d.k = 2 then .ok (if th then addS ⟨0, d.n, true⟩ s else s)
  else if chk size d.a d.n ≠ 0 then .error (chk size d.a d.n)
  else .ok (addS ⟨d.a, d.n, false⟩ s)
/-- the descriptor at an address -/
def dscAt (f : Nat → Int) (at' : Int) : Dsc := decD (hz (fun i => f (at'.toNat + i)) 7 8) (hiW fun i => f (at'.toNat + i))
def errAt (f : Nat → Int) (at' : Int) : Int := decE (hiW fun i => f (at'.toNat + i))
/-- what follows: at most k + 1 descriptors are examined -/
def runS (f : Nat → Int) (size : Nat) (th : Bool) : Nat → Dsc → WSt → Except Int (List Spn)
  | 0, d, s => match exam size th d s with
    | .error e => .error e
    | .ok s' => if s'.left = 0 then .ok s'.out else if ¬ s'.at' < s'.en then .error 162 else .error 5
  | k + 1, d, s => match exam size th d s with
    | .error e => .error e
    | .ok s' => if s'.left = 0 then .ok s'.out else if ¬ s'.at' < s'.en then .error 162
      else if errAt f s'.at' ≠ 0 then .error (errAt f s'.at') else if ¬ Vld (dscAt f s'.at') then .error 2
      else runS f size th k (dscAt f s'.at') { s' with at' := s'.at' + 16 }
def spansM (f : Nat → Int) (size : Nat) (d : Dsc) (n : Int) (th : Bool) : Except Int (List Spn) :=
  if ¬ (Vld d ∧ 0 ≤ n ∧ n ≤ 1048576) then .error 2 else if n = 0 then .ok [] else runS f size th 1023 d ⟨false, false, 0, 0, n, []⟩

/-- What holds of a state. -/
structure WSt.Ok (s : WSt) (size : Nat) : Prop where
  a0 : 0 ≤ s.at'
  ae : s.at' ≤ s.en
  es : s.en ≤ size
  m : (s.en - s.at') % 16 = 0
  l0 : 0 ≤ s.left
  l1 : (s.out.length : Int) + s.left ≤ 1048576
theorem addS_ok {s : WSt} {size : Nat} (x : Spn) (h : s.Ok size) : (addS x s).Ok size := by
  unfold addS
  split
  · obtain ⟨h1, h2, h3, h4, h5, h6⟩ := h
    exact ⟨h1, h2, h3, h4, by simp only []; omega, by simp only [List.length_append, List.length_cons, List.length_nil]; omega⟩
  · exact h
theorem exam_ok {size : Nat} {th : Bool} {d : Dsc} {s s' : WSt} (h : exam size th d s = .ok s') (hd : 0 ≤ d.a) (hs : s.Ok size) : s'.Ok size := by
  unfold exam at h
  split at h
  · split at h
    · cases h
    · rename_i hc
      split at h
      · cases h
      · rename_i hk
        cases h
        have hk' := chk_ok (Classical.not_not.1 hk)
        have hc' := Classical.not_not.1 hc
        obtain ⟨h1, h2, h3, h4, h5, h6⟩ := hs
        exact ⟨hd, by simp only []; omega, by simp only []; omega, by simp only []; omega, h5, h6⟩
  · split at h
    · cases h
      split
      · exact addS_ok _ hs
      · exact hs
    · split at h
      · cases h
      · cases h
        exact addS_ok _ hs

/-- the cells of a walk -/
def swcell (m : Value) (th : Bool) (v : Value) (ex : Int) (s : WSt) : Nat → Value := fun i =>
  if i = 0 then m else if i = 1 then .bool th else if i = 2 then .int .i64 s.left else if i = 3 then v else if i = 4 then .int .i64 ex else if i = 5 then .int .u64 s.at' else if i = 6 then .int .u64 s.en else if i = 7 then .bool s.ins else .bool s.las
/-- A walk lies in block wb; the blocks P are not its own. -/
structure sWlk (P : Nat → Prop) (wb : Nat) (W : World) (m : Value) (th : Bool) (ex : Int) (s : WSt) : Prop where
  ex : ∃ v, W.rowIs wb 164 9 (swcell m th v ex s) ∧ W.ownsRow (wb + 1) 69 3 v s.out.length (spC s.out) ∧ ∀ k, P k → v.ownBlock ≠ some k
  notg : ¬ P wb
  lt : ∀ k, P k → k < W.heap.size
namespace sWlk
variable {P : Nat → Prop} {wb : Nat} {W W' : World} {m : Value} {th : Bool} {ex : Int} {s : WSt}
theorem wlt (h : sWlk P wb W m th ex s) : wb < W.heap.size := by obtain ⟨v, hr, -⟩ := h.ex; exact hr.lt
theorem less {Q : Nat → Prop} (h : sWlk P wb W m th ex s) (hQ : ∀ k, Q k → P k) : sWlk Q wb W m th ex s := by
  obtain ⟨v, hr, ho, hp⟩ := h.ex
  exact ⟨⟨v, hr, ho, fun k hk => hp k (hQ k hk)⟩, fun hg => h.notg (hQ _ hg), fun k hk => h.lt k (hQ k hk)⟩
theorem below (h : sWlk P wb W m th ex s) (hb : Below W.heap.size W W') : sWlk P wb W' m th ex s := by
  obtain ⟨v, hr, ho, hp⟩ := h.ex
  have k := Keeps.of_below (S := fun _ => False) hb
  exact ⟨⟨v, k.rowIs hr (fun e => e), ho.kept (row := none) ⟨k.os, k.tape, k.output, k.size, fun j hj _ => k.block j hj (fun e => e)⟩ (by cases v.ownBlock <;> simp), hp⟩, h.notg, fun j hj => Nat.lt_of_lt_of_le (h.lt j hj) k.size⟩
/-- Blocks made since are not the walk's own. -/
theorem more (h : sWlk P wb W m th ex s) (hb : Below W.heap.size W W') : sWlk (fun k => P k ∨ (W.heap.size ≤ k ∧ k < W'.heap.size)) wb W' m th ex s := by
  obtain ⟨v, hr, ho, hp⟩ := h.ex
  have k := Keeps.of_below (S := fun _ => False) hb
  refine ⟨⟨v, k.rowIs hr (fun e => e), ho.kept (row := none) ⟨k.os, k.tape, k.output, k.size, fun j hj _ => k.block j hj (fun e => e)⟩ (by cases v.ownBlock <;> simp), fun j hj => ?_⟩, fun hg => hg.elim h.notg (fun e => by have := hr.lt; omega), fun j hj => hj.elim (fun e => Nat.lt_of_lt_of_le (h.lt j e) k.size) (fun e => e.2)⟩
  rcases hj with hj | hj
  · exact hp j hj
  · intro e
    have := (ho.lt j e).2
    omega
end sWlk
end Go.Proofs.Ytfmabknhfehdcaa

namespace Go.Proofs.Ytfmabknhfehdcaa
open Go.RowKit

/-- the code of an error -/
def codeT (no : Int) : Int := if no = 2 ∨ no = 160 then 17 else if no = 3 then 4 else if no = 5 then 14 else if no = 150 then 19 else if no = 161 then 13 else if no = 162 then 15 else if no = 1 then 6 else 0
def sumS : List Spn → Int
  | [] => 0
  | x :: r => x.n + sumS r
theorem sumS_app (a b : List Spn) : sumS (a ++ b) = sumS a + sumS b := by
  induction a with
  | nil => simp [sumS]
  | cons x r ih => simp [sumS, ih]; omega
/-- what holds of spans: they lie in the memory, and with what is left they add up -/
structure SOk (size : Nat) (n : Int) (out : List Spn) (left : Int) : Prop where
  s : sumS out + left = n
  l : 0 ≤ left
  x : ∀ x ∈ out, 0 ≤ x.n ∧ 0 ≤ x.a ∧ (x.bk = false → x.a + x.n ≤ size)
theorem SOk.nil (size : Nat) (n : Int) (h : 0 ≤ n) : SOk size n [] n := ⟨by show 0 + n = n; omega, h, fun x hx => by cases hx⟩
theorem SOk.add {size : Nat} {n left a k : Int} {bk : Bool} {out : List Spn} (h : SOk size n out left) (h0 : 0 ≤ k) (h1 : k ≤ left) (ha : 0 ≤ a) (hs : bk = false → a + k ≤ size) : SOk size n (out ++ [⟨a, k, bk⟩]) (left - k) := by
  refine ⟨?_, by have := h.l; omega, fun x hx => ?_⟩
  · rw [sumS_app]
    have := h.s
    show sumS out + (k + 0) + (left - k) = n
    omega
  · rcases List.mem_append.1 hx with e | e
    · exact h.x x e
    · rw [List.mem_singleton] at e
      subst e
      exact ⟨h0, ha, hs⟩
section
variable {f : Nat → Int} {size : Nat} {n : Int}
theorem addA_sok {a : Int} {s s' : PSt} (hs : SOk size n s.out s.left) (ha : 0 ≤ a) (h : addA size a s = .ok s') : SOk size n s'.out s'.left := by
  unfold addA at h
  split at h
  · cases h
  · rename_i hc
    cases h
    have hc := chk_ok (Classical.not_not.1 hc)
    have := hs.l
    exact hs.add hc.1 (by omega) ha (fun _ => hc.2)
theorem wrd_nn (hf : Bytes f) (a : Int) : 0 ≤ wrd f a := (hz_bd (F := fun i => f (a.toNat + i)) (fun i => hf _) 7 8).1
theorem nxtP_sok (hf : Bytes f) {m v : Int} {s s' : PSt} (h : nxtP f size m s = .ok (v, s')) : 0 ≤ v ∧ s'.left = s.left ∧ s'.out = s.out := by
  unfold nxtP at h
  repeat' split at h
  all_goals first | cases h; exact ⟨wrd_nn hf _, rfl, rfl⟩ | cases h
theorem stepP_sok (hf : Bytes f) {second pages i : Int} {s s' : PSt} (h2 : 0 ≤ second) (hs : SOk size n s.out s.left) (h : stepP f size second pages i s = .ok s') : SOk size n s'.out s'.left := by
  unfold stepP at h
  split at h
  · cases h
  · rename_i x hx
    obtain ⟨v, t⟩ := x
    split at h
    · cases h
    · have ht : 0 ≤ v ∧ t.left = s.left ∧ t.out = s.out := by
        unfold adrP at hx
        split at hx
        · exact nxtP_sok hf hx
        · cases hx; exact ⟨h2, rfl, rfl⟩
      exact addA_sok (by rw [ht.2.1, ht.2.2]; exact hs) ht.1 h
theorem runP_sok (hf : Bytes f) {second pages : Int} (h2 : 0 ≤ second) : ∀ (k : Nat) (i : Int) (s : PSt) (l : List Spn), SOk size n s.out s.left → runP f size second pages k i s = .ok l → ∃ left, SOk size n l left
  | 0, _, s, l, hs, h => by cases h; exact ⟨_, hs⟩
  | k + 1, i, s, l, hs, h => by
    unfold runP at h
    split at h
    · cases h
    · rename_i s' he
      exact runP_sok hf h2 k (i + 1) s' l (stepP_sok hf h2 hs he) h
theorem spansP_sok (hf : Bytes f) {first second : Int} {l : List Spn} (h1 : 0 ≤ first) (h2 : 0 ≤ second) (h : spansP f size first second n = .ok l) : ∃ left, SOk size n l left := by
  unfold spansP at h
  split at h
  · cases h
  · rename_i hn
    split at h
    · cases h; exact ⟨n, SOk.nil _ _ (by omega)⟩
    · split at h
      · cases h
      · split at h
        · cases h
        · rename_i s he
          exact runP_sok hf h2 _ _ s l (addA_sok (s := ⟨second, true, n, []⟩) (SOk.nil _ _ (by omega)) h1 he) h
theorem addS_sok {s : WSt} {x : Spn} (hs : SOk size n s.out s.left) (h0 : 0 ≤ x.a) (hx : x.bk = false → x.a + x.n ≤ size) : SOk size n (addS x s).out (addS x s).left := by
  unfold addS
  split
  · exact hs.add (bk := x.bk) (by omega) (by omega) h0 (fun h => by have := hx h; omega)
  · exact hs
theorem exam_sok {th : Bool} {d : Dsc} {s s' : WSt} (hs : SOk size n s.out s.left) (h0 : 0 ≤ d.a) (h : exam size th d s = .ok s') : SOk size n s'.out s'.left := by
  unfold exam at h
  split at h
  · split at h
    · cases h
    · split at h
      · cases h
      · cases h; exact hs
  · split at h
    · cases h
      split
      · exact addS_sok hs (Int.le_refl 0) (fun e => by cases e)
      · exact hs
    · split at h
      · cases h
      · rename_i hc
        cases h
        exact addS_sok hs h0 (fun _ => (chk_ok (Classical.not_not.1 hc)).2)
theorem decD_a {d0 d1 : Int} (h0 : 0 ≤ d0) : 0 ≤ (decD d0 d1).a := by
  unfold decD
  repeat' split
  all_goals first | exact h0 | exact Int.le_refl 0
theorem dscAt_a (hf : Bytes f) (a : Int) : 0 ≤ (dscAt f a).a := by
  have h := (hz_bd (F := fun i => f (a.toNat + i)) (fun i => hf _) 7 8).1
  unfold dscAt
  exact decD_a h
theorem runS_sok (hf : Bytes f) {th : Bool} : ∀ (k : Nat) (d : Dsc) (s : WSt) (l : List Spn), 0 ≤ d.a → SOk size n s.out s.left → runS f size th k d s = .ok l → ∃ left, SOk size n l left
  | 0, d, s, l, h0, hs, h => by
    unfold runS at h
    split at h
    · cases h
    · rename_i s' he
      repeat' split at h
      all_goals first | (cases h; exact ⟨_, exam_sok hs h0 he⟩) | cases h
  | k + 1, d, s, l, h0, hs, h => by
    unfold runS at h
    split at h
    · cases h
    · rename_i s' he
      split at h
      · cases h; exact ⟨_, exam_sok hs h0 he⟩
      · split at h
        · cases h
        · split at h
          · cases h
          · split at h
            · cases h
            · refine runS_sok hf k _ _ l (dscAt_a hf _) ?_ h
              have hk := exam_sok hs h0 he
              exact hk
theorem spansM_sok (hf : Bytes f) {th : Bool} {d : Dsc} {l : List Spn} (h0 : 0 ≤ d.a) (h : spansM f size d n th = .ok l) : ∃ left, SOk size n l left := by
  unfold spansM at h
  split at h
  · cases h
  · rename_i hn
    have hn := Classical.not_not.1 hn
    split at h
    · cases h; exact ⟨n, SOk.nil _ _ hn.2.1⟩
    · exact runS_sok hf _ d _ l h0 (SOk.nil _ _ hn.2.1) h
end
/-- the memory behind spans that are stored, from byte at' of the data -/
def scatF (g : Nat → Int) : List Spn → Nat → (Nat → Int) → Nat → Int
  | [], _, f => f
  | x :: r, at', f => scatF g r (at' + x.n.toNat) (if x.bk then f else upd f x.a.toNat x.n.toNat fun i => g (at' + i))
/-- the bytes of spans -/
def gatF (f : Nat → Int) : List Spn → List Int
  | [] => []
  | x :: r => (List.range x.n.toNat).map (fun i => f (x.a.toNat + i)) ++ gatF f r
theorem gatF_length (f : Nat → Int) : ∀ (l : List Spn), (∀ x ∈ l, 0 ≤ x.n) → ((gatF f l).length : Int) = sumS l
  | [], _ => rfl
  | x :: r, h => by
    have := gatF_length f r (fun y hy => h y (List.mem_cons_of_mem _ hy))
    have h0 := h x List.mem_cons_self
    simp only [gatF, sumS, List.length_append, List.length_map, List.length_range]
    omega
theorem bytes_scat {g : Nat → Int} (hg : Bytes g) : ∀ (l : List Spn) (k : Nat) (f : Nat → Int), Bytes f → Bytes (scatF g l k f)
  | [], _, _, h => h
  | x :: r, k, f, h => by
    refine bytes_scat hg r _ _ ?_
    split
    · exact h
    · exact bytes_upd h (fun i => hg _)
end Go.Proofs.Ytfmabknhfehdcaa

namespace Go.Proofs.Ytfmabknhfehdcaa
open Go.RowKit Go.MapKept

theorem Keeps.putObj {S : Nat → Prop} {a w : World} (h : Keeps S a w) {r : Nat} (hr : r < a.heap.size → S r) (o : Obj) : Keeps S a (w.putObj r o) :=
  ⟨h.os, h.tape, h.output, by have := h.size; simp; omega, fun k hk hS =>
    (World.putObj_heap_other (fun e => hS (by subst e; exact hr hk))).trans (h.block k hk hS)⟩

section
variable {P : Program} {w : World} {t kt et : TypeId} {q : IntKind} {r clock : Nat} {es : Array MapEntry}
theorem run_insert_new (ht : P.underlying t = some (.map kt et)) (hk : P.underlying kt = some (.int q)) (hb : w.heap[r]? = some (.map es clock)) (k : Int) (v : Value)
    (hf : Instr.findNow (.int q) (.int q k) es.toList 0 = some none) :
    (Instr.mapUpdate t (.map (some r)) (.int q k) v).run P w = .ok () (w.putObj r (.map (es.push { key := .int q k, val := v, born := clock }) (clock + 1))) := by
  unfold Instr.mapUpdate
  simp only [Sem.run_bind, run_underlying ht, Result.andThen_ok, MapKept.run_getObj_map hb, run_checkKey (k := .int q k) hk rfl, run_findKey hk hf]
  rw [run_setObj_map _ hb]
  rfl

theorem run_lookup_hit (ht : P.underlying t = some (.map kt et)) (hk : P.underlying kt = some (.int q)) (hb : w.heap[r]? = some (.map es clock)) (k : Int) (i : Nat) (v : Value) (ok : Bool)
    (hf : Instr.findNow (.int q) (.int q k) es.toList 0 = some (some (i, v))) :
    (Instr.lookup t (.map (some r)) (.int q k) ok).run P w = .ok (if ok then .tuple #[v, .bool true] else v) w := by
  unfold Instr.lookup
  simp only [Sem.run_bind, run_underlying ht, Result.andThen_ok, MapKept.run_getObj_map hb, Sem.run_pure, run_checkKey (k := .int q k) hk rfl, run_findKey hk hf]

theorem run_lookup_miss (ht : P.underlying t = some (.map kt et)) (hk : P.underlying kt = some (.int q)) (hb : w.heap[r]? = some (.map es clock)) (k : Int) (z : Value) (hz : (zeroValue et).run P w = .ok z w) (ok : Bool)
    (hf : Instr.findNow (.int q) (.int q k) es.toList 0 = some none) :
    (Instr.lookup t (.map (some r)) (.int q k) ok).run P w = .ok (if ok then .tuple #[z, .bool false] else z) w := by
  unfold Instr.lookup
  simp only [Sem.run_bind, run_underlying ht, Result.andThen_ok, MapKept.run_getObj_map hb, Sem.run_pure, run_checkKey (k := .int q k) hk rfl, run_findKey hk hf, hz]

/-- A store under a new key, at the operation of a map's literal. -/
theorem wpList_insert_new {ops : Array Oper} {rest : List Oper} {o : Oper} {a : Act} {Q : Exit → Act → World → Prop} (hg : o.guard = none) (m x v : Operand) (hop : o.op = .insert t m x v)
    (ht : P.underlying t = some (.map kt et)) (hk : P.underlying kt = some (.int q)) (hb : w.heap[r]? = some (.map es clock)) (k : Int) (u : Value) (hm : a.eval m = .map (some r)) (hx : a.eval x = .int q k) (hv : a.eval v = u)
    (hf : Instr.findNow (.int q) (.int q k) es.toList 0 = some none)
    (h : ∀ w', w'.heap[r]? = some (.map (es.push { key := .int q k, val := u, born := clock }) (clock + 1)) → Keeps (One r) w w' → wpList P ops Q rest (a.put o.dst undef) w') :
    wpList P ops Q (o :: rest) a w := by
  refine wpList_plain hg fun K hK => ?_
  have hrun := run_insert_new (v := u) ht hk hb k hf
  unfold Oper.wp
  simp [execOp, hop, hm, hx, hv, hrun, Result.andThen]
  refine hK _ _ (h _ (World.putObj_heap_same (Array.getElem?_eq_some_iff.1 hb).1) ((Keeps.refl (One r) w).putObj (fun _ => rfl) _))
end
end Go.Proofs.Ytfmabknhfehdcaa

namespace Go.Proofs.Ytfmabknhfehdcaa
open Go.RowKit Go.MapKept

def zKey (e : MapEntry) : Int := match e.key with | .int _ z => z | _ => 0
/-- Block r is a map whose pairs are kv, in some order. -/
def MapIs (q : IntKind) (w : World) (r : Nat) (kv : List (Int × Value)) : Prop :=
  ∃ es clock, w.heap[r]? = some (.map es clock) ∧ Stamped es clock ∧ (∀ x ∈ es.toList, x.key = .int q (zKey x)) ∧ (es.toList.map fun x => (zKey x, x.val)).Perm kv
namespace MapIs
variable {q : IntKind} {w w' : World} {r : Nat} {kv kv' : List (Int × Value)}
theorem lt (h : MapIs q w r kv) : r < w.heap.size := by
  obtain ⟨es, clock, hb, _⟩ := h
  exact (Array.getElem?_eq_some_iff.1 hb).1
theorem same (h : MapIs q w r kv) (e : w'.heap[r]? = w.heap[r]?) : MapIs q w' r kv := by
  obtain ⟨es, clock, hb, h'⟩ := h
  exact ⟨es, clock, e.trans hb, h'⟩
theorem below (h : MapIs q w r kv) (hb : Below w.heap.size w w') : MapIs q w' r kv := h.same (hb.block r h.lt)
theorem kept {S : Nat → Prop} (h : MapIs q w r kv) (hk : Keeps S w w') (hS : ¬ S r) : MapIs q w' r kv := h.same (hk.block r h.lt hS)
theorem made (w : World) : MapIs q (w.alloc (.map #[] 0)) w.heap.size [] := ⟨#[], 0, (MapKept.heap_alloc w _).1, stamped_empty 0, (fun x hx => by cases hx), List.Perm.refl _⟩
theorem nd (h : MapIs q w r kv) : (kv.map (·.1)).Nodup := by
  obtain ⟨es, clock, hb, h1, h2, h3⟩ := h
  have h4 := h1.2.2
  have e : es.toList.map (·.key) = ((es.toList.map fun x => (zKey x, x.val)).map (·.1)).map (.int q) := by
    rw [List.map_map, List.map_map]
    exact List.map_congr_left fun x hx => h2 x hx
  have h5 : (((es.toList.map fun x => (zKey x, x.val)).map (·.1)).map (Value.int q)).Nodup := by
    rw [← e]
    exact h4
  have h6 : ((es.toList.map fun x => (zKey x, x.val)).map (·.1)).Nodup := (List.pairwise_map.1 h5).imp (fun {a b} hab (e : a = b) => hab (by rw [e]))
  exact (List.Perm.nodup_iff (h3.map (·.1))).1 h6
theorem isKeys {es : Array MapEntry} (h2 : ∀ x ∈ es.toList, x.key = .int q (zKey x)) : ∀ x ∈ es.toList, IsKey (.int q) x.key := fun x hx => by
  rw [h2 x hx]
  simp [IsKey]
section
variable {P : Program} {t kt et : TypeId} {k : Int} {v : Value}
theorem look (h : MapIs q w r kv) (ht : P.underlying t = some (.map kt et)) (hk : P.underlying kt = some (.int q)) (hm : (k, v) ∈ kv) (ok : Bool) :
    (Instr.lookup t (.map (some r)) (.int q k) ok).run P w = .ok (if ok then .tuple #[v, .bool true] else v) w := by
  have hnd := h.nd
  obtain ⟨es, clock, hb, h1, h2, h3⟩ := h
  have hm' := h3.mem_iff.2 hm
  obtain ⟨x, hx, ex⟩ := List.mem_map.1 hm'
  injection ex with e1 e2
  rcases findNow_spec (d := .int q) (k := .int q k) (by simp [IsKey]) es.toList 0 (isKeys h2) with ⟨hf, hn⟩ | ⟨j, e, hf, hj, he⟩
  · exact absurd (by rw [h2 x hx, e1]) (hn x hx)
  · have hemem : e ∈ es.toList := List.mem_of_getElem? hj
    have : e = x := by
      have hk1 := h2 e hemem
      rw [he] at hk1
      injection hk1 with _ hk1
      exact (entry_eq_of_key (List.pairwise_map.1 h1.2.2) hemem hx (by rw [he, h2 x hx, e1]))
    subst this
    rw [e2] at hf
    exact run_lookup_hit ht hk hb k _ v ok hf
theorem miss (h : MapIs q w r kv) (ht : P.underlying t = some (.map kt et)) (hk : P.underlying kt = some (.int q)) (hm : k ∉ kv.map (·.1)) (z : Value) (hz : (zeroValue et).run P w = .ok z w) (ok : Bool) :
    (Instr.lookup t (.map (some r)) (.int q k) ok).run P w = .ok (if ok then .tuple #[z, .bool false] else z) w := by
  obtain ⟨es, clock, hb, h1, h2, h3⟩ := h
  rcases findNow_spec (d := .int q) (k := .int q k) (by simp [IsKey]) es.toList 0 (isKeys h2) with ⟨hf, hn⟩ | ⟨j, e, hf, hj, he⟩
  · exact run_lookup_miss ht hk hb k z hz ok hf
  · have hemem : e ∈ es.toList := List.mem_of_getElem? hj
    have hk1 := h2 e hemem
    rw [he] at hk1
    injection hk1 with _ hk1
    refine absurd ?_ hm
    rw [← (h3.map (·.1)).mem_iff, List.map_map]
    exact List.mem_map.2 ⟨e, hemem, hk1.symm⟩
theorem put_new (h : MapIs q w r kv) (ht : P.underlying t = some (.map kt et)) (hk : P.underlying kt = some (.int q)) (hm : k ∉ kv.map (·.1)) (v : Value) :
    ∃ w', (Instr.mapUpdate t (.map (some r)) (.int q k) v).run P w = .ok () w' ∧ MapIs q w' r (kv ++ [(k, v)]) ∧ Keeps (One r) w w' := by
  obtain ⟨es, clock, hb, h1, h2, h3⟩ := h
  have hnk : ∀ e ∈ es.toList, e.key ≠ .int q k := fun e he hk1 => by
    have hk2 := h2 e he
    rw [hk1] at hk2
    injection hk2 with _ hk2
    refine absurd ?_ hm
    rw [← (h3.map (·.1)).mem_iff, List.map_map]
    exact List.mem_map.2 ⟨e, he, hk2.symm⟩
  rcases findNow_spec (d := .int q) (k := .int q k) (by simp [IsKey]) es.toList 0 (isKeys h2) with ⟨hf, hn⟩ | ⟨j, e, hf, hj, he⟩
  · refine ⟨_, run_insert_new (v := v) ht hk hb k hf, ⟨_, _, World.putObj_heap_same (Array.getElem?_eq_some_iff.1 hb).1, stamped_push h1 hnk, ?_, ?_⟩, (Keeps.refl (One r) w).putObj (fun _ => rfl) _⟩
    · intro x hx
      simp only [Array.toList_push, List.mem_append, List.mem_singleton] at hx
      rcases hx with hx | rfl
      · exact h2 x hx
      · rfl
    · rw [Array.toList_push, List.map_append]
      exact h3.append_right _
  · exact absurd he (hnk e (List.mem_of_getElem? hj))
end
end MapIs

section
variable {P : Program} {w : World} {t kt et : TypeId} {q : IntKind} {r : Nat} {kv : List (Int × Value)} {ops : Array Oper} {rest : List Oper} {o : Oper} {a : Act} {Q : Exit → Act → World → Prop}
/-- A store under a new key, at the operation of a map's literal. -/
theorem wpList_insert_mp (hg : o.guard = none) (m x v : Operand) (hop : o.op = .insert t m x v) (ht : P.underlying t = some (.map kt et)) (hk : P.underlying kt = some (.int q)) (h : MapIs q w r kv) (k : Int) (u : Value) (hm : a.eval m = .map (some r)) (hx : a.eval x = .int q k) (hv : a.eval v = u)
    (hn : (kv.map (·.1)).contains k = false) (hK : ∀ w', MapIs q w' r (kv ++ [(k, u)]) → Keeps (One r) w w' → wpList P ops Q rest (a.put o.dst undef) w') : wpList P ops Q (o :: rest) a w := by
  refine wpList_plain hg fun K hK' => ?_
  obtain ⟨w', hrun, hM, hkp⟩ := h.put_new ht hk (by simpa using hn) u
  unfold Oper.wp
  simp [execOp, hop, hm, hx, hv, hrun, Result.andThen]
  exact hK' _ _ (hK w' hM hkp)
end
end Go.Proofs.Ytfmabknhfehdcaa
