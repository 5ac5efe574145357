/- sgl: a plain model of Spans; the walk that examines a list, in memory. -/
import Derived.Test.YtfmabknhfehdcaaGreatZP10
import Derived.Deep.RegionHeld3
import Derived.Deep.AppendLies
import Derived.Deep.RegionLaw
import Derived.Test.YtfmabknhfehdcaaGreatZP6
import Derived.Test.YtfmabknhfehdcaaGreatZP0
import Derived.MapKept
import Derived.RangeFuncRecord
import Derived.Test.YtfmabknhfehdcaaGreatZP5
import Derived.Laws.BitsAllLaws
namespace Go.Proofs.YtfmabknhfehdcaaGreat
set_option linter.unusedSimpArgs false
set_option linter.unusedVariables false
open Go.RowKit
/-- The state of a walk. -/
structure WSt where
 ins : Bool
 las : Bool
 at' : Int
 en : Int
 left : Int
 out : List Spn
def addS (x : Spn) (s : WSt) : WSt :=
 if 0 < min x.n s.left then { s with out := s.out ++ [{ x with n := min x.n s.left }], left := s.left - min x.n s.left } else s
/-- what is examined: an error, or the next state -/
def exam (size : Nat) (th : Bool) (d : Dsc) (s : WSt) : Except Int WSt :=
 if d.k = 3 ∨ d.k = 4 then
  if ¬ (0 < d.n ∧ d.n % 16 = 0 ∧ (s.ins = false ∨ (s.las = false ∧ s.at' = s.en))) then .error 161
  else if chk size d.a d.n ≠ 0 then .error (chk size d.a d.n)
  else .ok { s with ins := true, las := decide (d.k = 4), at' := d.a, en := d.a + d.n }
 else if d.k = 2 then .ok (if th then addS ⟨0, d.n, true⟩ s else s)
 else if chk size d.a d.n ≠ 0 then .error (chk size d.a d.n)
 else .ok (addS ⟨d.a, d.n, false⟩ s)
/-- the descriptor at an address -/
def dscAt (f : Nat → Int) (at' : Int) : Dsc := decD (hz (fun i => f (at'.toNat + i)) 7 8) (hiW fun i => f (at'.toNat + i))
def errAt (f : Nat → Int) (at' : Int) : Int := decE (hiW fun i => f (at'.toNat + i))
/-- what follows: at most k + 1 descriptors are examined -/
def runS (f : Nat → Int) (size : Nat) (th : Bool) : Nat → Dsc → WSt → Except Int (List Spn)
 | 0, d, s => match exam size th d s with
  | .error e => .error e
  | .ok s' => if s'.left = 0 then .ok s'.out else if ¬ s'.at' < s'.en then .error 162 else .error 5
 | k + 1, d, s => match exam size th d s with
  | .error e => .error e
  | .ok s' => if s'.left = 0 then .ok s'.out else if ¬ s'.at' < s'.en then .error 162
   else if errAt f s'.at' ≠ 0 then .error (errAt f s'.at') else if ¬ Vld (dscAt f s'.at') then .error 2
   else runS f size th k (dscAt f s'.at') { s' with at' := s'.at' + 16 }
def spansM (f : Nat → Int) (size : Nat) (d : Dsc) (n : Int) (th : Bool) : Except Int (List Spn) :=
 if ¬ (Vld d ∧ 0 ≤ n ∧ n ≤ 1048576) then .error 2 else if n = 0 then .ok [] else runS f size th 1023 d ⟨false, false, 0, 0, n, []⟩
/-- What holds of a state. -/
structure WSt.Ok (s : WSt) (size : Nat) : Prop where
 a0 : 0 ≤ s.at'
 ae : s.at' ≤ s.en
 es : s.en ≤ size
 m : (s.en - s.at') % 16 = 0
 l0 : 0 ≤ s.left
 l1 : (s.out.length : Int) + s.left ≤ 1048576
theorem addS_ok {s : WSt} {size : Nat} (x : Spn) (h : s.Ok size) : (addS x s).Ok size := by
 unfold addS
 split
 ·obtain ⟨h1, h2, h3, h4, h5, h6⟩ := h
  exact ⟨h1, h2, h3, h4, by simp only []; omega, by simp only [List.length_append, List.length_cons, List.length_nil]; omega⟩
 ·exact h
theorem exam_ok {size : Nat} {th : Bool} {d : Dsc} {s s' : WSt} (h : exam size th d s = .ok s') (hd : 0 ≤ d.a) (hs : s.Ok size) : s'.Ok size := by
 unfold exam at h
 split at h
 ·split at h
  ·cases h
  ·rename_i hc
   split at h
   ·cases h
   ·rename_i hk
    cases h
    have hk' := chk_ok (Classical.not_not.1 hk)
    have hc' := Classical.not_not.1 hc
    obtain ⟨h1, h2, h3, h4, h5, h6⟩ := hs
    exact ⟨hd, by simp only []; omega, by simp only []; omega, by simp only []; omega, h5, h6⟩
 ·split at h
  ·cases h
   split
   ·exact addS_ok _ hs
   ·exact hs
  ·split at h
   ·cases h
   ·cases h
    exact addS_ok _ hs
/-- the cells of a walk -/
def swcell (m : Value) (th : Bool) (v : Value) (ex : Int) (s : WSt) : Nat → Value := fun i =>
 if i = 0 then m else if i = 1 then .bool th else if i = 2 then .int .i64 s.left else if i = 3 then v else if i = 4 then .int .i64 ex else if i = 5 then .int .u64 s.at' else if i = 6 then .int .u64 s.en else if i = 7 then .bool s.ins else .bool s.las
/-- A walk lies in block wb; the blocks P are not its own. -/
structure sWlk (P : Nat → Prop) (wb : Nat) (W : World) (m : Value) (th : Bool) (ex : Int) (s : WSt) : Prop where
 ex : ∃ v, W.rowIs wb 160 9 (swcell m th v ex s) ∧ W.ownsRow (wb + 1) 65 3 v s.out.length (spC s.out) ∧ ∀ k, P k → v.ownBlock ≠ some k
 notg : ¬ P wb
 lt : ∀ k, P k → k < W.heap.size
namespace sWlk
set_option linter.unusedSimpArgs false
set_option linter.unusedVariables false
variable {P : Nat → Prop} {wb : Nat} {W W' : World} {m : Value} {th : Bool} {ex : Int} {s : WSt}
theorem wlt (h : sWlk P wb W m th ex s) : wb < W.heap.size := by obtain ⟨v, hr, -⟩ := h.ex; exact hr.lt
theorem less {Q : Nat → Prop} (h : sWlk P wb W m th ex s) (hQ : ∀ k, Q k → P k) : sWlk Q wb W m th ex s := by
 obtain ⟨v, hr, ho, hp⟩ := h.ex
 exact ⟨⟨v, hr, ho, fun k hk => hp k (hQ k hk)⟩, fun hg => h.notg (hQ _ hg), fun k hk => h.lt k (hQ k hk)⟩
theorem below (h : sWlk P wb W m th ex s) (hb : Below W.heap.size W W') : sWlk P wb W' m th ex s := by
 obtain ⟨v, hr, ho, hp⟩ := h.ex
 have k := Keeps.of_below (S := fun _ => False) hb
 exact ⟨⟨v, k.rowIs hr (fun e => e), ho.kept (row := none) ⟨k.os, k.tape, k.output, k.size, fun j hj _ => k.block j hj (fun e => e)⟩ (by cases v.ownBlock <;> simp), hp⟩, h.notg, fun j hj => Nat.lt_of_lt_of_le (h.lt j hj) k.size⟩
/-- Blocks made since are not the walk's own. -/
theorem more (h : sWlk P wb W m th ex s) (hb : Below W.heap.size W W') : sWlk (fun k => P k ∨ (W.heap.size ≤ k ∧ k < W'.heap.size)) wb W' m th ex s := by
 obtain ⟨v, hr, ho, hp⟩ := h.ex
 have k := Keeps.of_below (S := fun _ => False) hb
 refine ⟨⟨v, k.rowIs hr (fun e => e), ho.kept (row := none) ⟨k.os, k.tape, k.output, k.size, fun j hj _ => k.block j hj (fun e => e)⟩ (by cases v.ownBlock <;> simp), fun j hj => ?_⟩, fun hg => hg.elim h.notg (fun e => by have := hr.lt; omega), fun j hj => hj.elim (fun e => Nat.lt_of_lt_of_le (h.lt j e) k.size) (fun e => e.2)⟩
 rcases hj with hj | hj
 ·exact hp j hj
 ·intro e
  have := (ho.lt j e).2
  omega
end sWlk
end Go.Proofs.YtfmabknhfehdcaaGreat
namespace Go.Proofs.YtfmabknhfehdcaaGreat
set_option linter.unusedSimpArgs false
set_option linter.unusedVariables false
open Go.RowKit
/-- the code of an error -/
def codeT (no : Int) : Int := if no = 2 ∨ no = 160 then 17 else if no = 3 then 4 else if no = 5 then 14 else if no = 150 then 19 else if no = 161 then 13 else if no = 162 then 15 else if no = 1 then 6 else 0
def sumS : List Spn → Int
 | [] => 0
 | x :: r => x.n + sumS r
theorem sumS_app (a b : List Spn) : sumS (a ++ b) = sumS a + sumS b := by
 induction a with
 | nil => simp [sumS]
 | cons x r ih => simp [sumS, ih]; omega
/-- what holds of spans: they lie in the memory, and with what is left they add up -/
structure SOk (size : Nat) (n : Int) (out : List Spn) (left : Int) : Prop where
 s : sumS out + left = n
 l : 0 ≤ left
 x : ∀ x ∈ out, 0 ≤ x.n ∧ 0 ≤ x.a ∧ (x.bk = false → x.a + x.n ≤ size)
theorem SOk.nil (size : Nat) (n : Int) (h : 0 ≤ n) : SOk size n [] n := ⟨by show 0 + n = n; omega, h, fun x hx => by cases hx⟩
theorem SOk.add {size : Nat} {n left a k : Int} {bk : Bool} {out : List Spn} (h : SOk size n out left) (h0 : 0 ≤ k) (h1 : k ≤ left) (ha : 0 ≤ a) (hs : bk = false → a + k ≤ size) : SOk size n (out ++ [⟨a, k, bk⟩]) (left - k) := by
 refine ⟨?_, by have := h.l; omega, fun x hx => ?_⟩
 ·rw [sumS_app]
  have := h.s
  show sumS out + (k + 0) + (left - k) = n
  omega
 ·rcases List.mem_append.1 hx with e | e
  ·exact h.x x e
  ·rw [List.mem_singleton] at e
   subst e
   exact ⟨h0, ha, hs⟩
section
variable {f : Nat → Int} {size : Nat} {n : Int}
theorem addA_sok {a : Int} {s s' : PSt} (hs : SOk size n s.out s.left) (ha : 0 ≤ a) (h : addA size a s = .ok s') : SOk size n s'.out s'.left := by
 unfold addA at h
 split at h
 ·cases h
 ·rename_i hc
  cases h
  have hc := chk_ok (Classical.not_not.1 hc)
  have := hs.l
  exact hs.add hc.1 (by omega) ha (fun _ => hc.2)
theorem wrd_nn (hf : Bytes f) (a : Int) : 0 ≤ wrd f a := (hz_bd (F := fun i => f (a.toNat + i)) (fun i => hf _) 7 8).1
theorem nxtP_sok (hf : Bytes f) {m v : Int} {s s' : PSt} (h : nxtP f size m s = .ok (v, s')) : 0 ≤ v ∧ s'.left = s.left ∧ s'.out = s.out := by
 unfold nxtP at h
 repeat' split at h
 all_goals first | cases h; exact ⟨wrd_nn hf _, rfl, rfl⟩ | cases h
theorem stepP_sok (hf : Bytes f) {second pages i : Int} {s s' : PSt} (h2 : 0 ≤ second) (hs : SOk size n s.out s.left) (h : stepP f size second pages i s = .ok s') : SOk size n s'.out s'.left := by
 unfold stepP at h
 split at h
 ·cases h
 ·rename_i x hx
  obtain ⟨v, t⟩ := x
  split at h
  ·cases h
  ·have ht : 0 ≤ v ∧ t.left = s.left ∧ t.out = s.out := by
    unfold adrP at hx
    split at hx
    ·exact nxtP_sok hf hx
    ·cases hx; exact ⟨h2, rfl, rfl⟩
   exact addA_sok (by rw [ht.2.1, ht.2.2]; exact hs) ht.1 h
theorem runP_sok (hf : Bytes f) {second pages : Int} (h2 : 0 ≤ second) : ∀ (k : Nat) (i : Int) (s : PSt) (l : List Spn), SOk size n s.out s.left → runP f size second pages k i s = .ok l → ∃ left, SOk size n l left
 | 0, _, s, l, hs, h => by cases h; exact ⟨_, hs⟩
 | k + 1, i, s, l, hs, h => by
  unfold runP at h
  split at h
  ·cases h
  ·rename_i s' he
   exact runP_sok hf h2 k (i + 1) s' l (stepP_sok hf h2 hs he) h
theorem spansP_sok (hf : Bytes f) {first second : Int} {l : List Spn} (h1 : 0 ≤ first) (h2 : 0 ≤ second) (h : spansP f size first second n = .ok l) : ∃ left, SOk size n l left := by
 unfold spansP at h
 split at h
 ·cases h
 ·rename_i hn
  split at h
  ·cases h; exact ⟨n, SOk.nil _ _ (by omega)⟩
  ·split at h
   ·cases h
   ·split at h
    ·cases h
    ·rename_i s he
     exact runP_sok hf h2 _ _ s l (addA_sok (s := ⟨second, true, n, []⟩) (SOk.nil _ _ (by omega)) h1 he) h
theorem addS_sok {s : WSt} {x : Spn} (hs : SOk size n s.out s.left) (h0 : 0 ≤ x.a) (hx : x.bk = false → x.a + x.n ≤ size) : SOk size n (addS x s).out (addS x s).left := by
 unfold addS
 split
 ·exact hs.add (bk := x.bk) (by omega) (by omega) h0 (fun h => by have := hx h; omega)
 ·exact hs
theorem exam_sok {th : Bool} {d : Dsc} {s s' : WSt} (hs : SOk size n s.out s.left) (h0 : 0 ≤ d.a) (h : exam size th d s = .ok s') : SOk size n s'.out s'.left := by
 unfold exam at h
 split at h
 ·split at h
  ·cases h
  ·split at h
   ·cases h
   ·cases h; exact hs
 ·split at h
  ·cases h
   split
   ·exact addS_sok hs (Int.le_refl 0) (fun e => by cases e)
   ·exact hs
  ·split at h
   ·cases h
   ·rename_i hc
    cases h
    exact addS_sok hs h0 (fun _ => (chk_ok (Classical.not_not.1 hc)).2)
theorem decD_a {d0 d1 : Int} (h0 : 0 ≤ d0) : 0 ≤ (decD d0 d1).a := by
 unfold decD
 repeat' split
 all_goals first | exact h0 | exact Int.le_refl 0
theorem dscAt_a (hf : Bytes f) (a : Int) : 0 ≤ (dscAt f a).a := by
 have h := (hz_bd (F := fun i => f (a.toNat + i)) (fun i => hf _) 7 8).1
 unfold dscAt
 exact decD_a h
theorem runS_sok (hf : Bytes f) {th : Bool} : ∀ (k : Nat) (d : Dsc) (s : WSt) (l : List Spn), 0 ≤ d.a → SOk size n s.out s.left → runS f size th k d s = .ok l → ∃ left, SOk size n l left
 | 0, d, s, l, h0, hs, h => by
  unfold runS at h
  split at h
  ·cases h
  ·rename_i s' he
   repeat' split at h
   all_goals first | (cases h; exact ⟨_, exam_sok hs h0 he⟩) | cases h
 | k + 1, d, s, l, h0, hs, h => by
  unfold runS at h
  split at h
  ·cases h
  ·rename_i s' he
   split at h
   ·cases h; exact ⟨_, exam_sok hs h0 he⟩
   ·split at h
    ·cases h
    ·split at h
     ·cases h
     ·split at h
      ·cases h
      ·refine runS_sok hf k _ _ l (dscAt_a hf _) ?_ h
       have hk := exam_sok hs h0 he
       exact hk
theorem spansM_sok (hf : Bytes f) {th : Bool} {d : Dsc} {l : List Spn} (h0 : 0 ≤ d.a) (h : spansM f size d n th = .ok l) : ∃ left, SOk size n l left := by
 unfold spansM at h
 split at h
 ·cases h
 ·rename_i hn
  have hn := Classical.not_not.1 hn
  split at h
  ·cases h; exact ⟨n, SOk.nil _ _ hn.2.1⟩
  ·exact runS_sok hf _ d _ l h0 (SOk.nil _ _ hn.2.1) h
end
/-- the memory behind spans that are stored, from byte at' of the data -/
def scatF (g : Nat → Int) : List Spn → Nat → (Nat → Int) → Nat → Int
 | [], _, f => f
 | x :: r, at', f => scatF g r (at' + x.n.toNat) (if x.bk then f else upd f x.a.toNat x.n.toNat fun i => g (at' + i))
/-- the bytes of spans -/
def gatF (f : Nat → Int) : List Spn → List Int
 | [] => []
 | x :: r => (List.range x.n.toNat).map (fun i => f (x.a.toNat + i)) ++ gatF f r
theorem gatF_length (f : Nat → Int) : ∀ (l : List Spn), (∀ x ∈ l, 0 ≤ x.n) → ((gatF f l).length : Int) = sumS l
 | [], _ => rfl
 | x :: r, h => by
  have := gatF_length f r (fun y hy => h y (List.mem_cons_of_mem _ hy))
  have h0 := h x List.mem_cons_self
  simp only [gatF, sumS, List.length_append, List.length_map, List.length_range]
  omega
theorem bytes_scat {g : Nat → Int} (hg : Bytes g) : ∀ (l : List Spn) (k : Nat) (f : Nat → Int), Bytes f → Bytes (scatF g l k f)
 | [], _, _, h => h
 | x :: r, k, f, h => by
  refine bytes_scat hg r _ _ ?_
  split
  ·exact h
  ·exact bytes_upd h (fun i => hg _)
end Go.Proofs.YtfmabknhfehdcaaGreat
namespace Go.Proofs.YtfmabknhfehdcaaGreat
set_option linter.unusedSimpArgs false
set_option linter.unusedVariables false
open Go.RowKit Go.MapKept
theorem Keeps.putObj {S : Nat → Prop} {a w : World} (h : Keeps S a w) {r : Nat} (hr : r < a.heap.size → S r) (o : Obj) : Keeps S a (w.putObj r o) :=
 ⟨h.os, h.tape, h.output, by have := h.size; simp; omega, fun k hk hS =>
  (World.putObj_heap_other (fun e => hS (by subst e; exact hr hk))).trans (h.block k hk hS)⟩
section
variable {P : Program} {w : World} {t kt et : TypeId} {q : IntKind} {r clock : Nat} {es : Array MapEntry}
theorem run_insert_new (ht : P.underlying t = some (.map kt et)) (hk : P.underlying kt = some (.int q)) (hb : w.heap[r]? = some (.map es clock)) (k : Int) (v : Value)
  (hf : Instr.findNow (.int q) (.int q k) es.toList 0 = some none) :
  (Instr.mapUpdate t (.map (some r)) (.int q k) v).run P w = .ok () (w.putObj r (.map (es.push { key := .int q k, val := v, born := clock }) (clock + 1))) := by
 unfold Instr.mapUpdate
 simp only [Sem.run_bind, run_underlying ht, Result.andThen_ok, MapKept.run_getObj_map hb, run_checkKey (k := .int q k) hk rfl, run_findKey hk hf]
 rw [run_setObj_map _ hb]
 rfl
theorem run_lookup_hit (ht : P.underlying t = some (.map kt et)) (hk : P.underlying kt = some (.int q)) (hb : w.heap[r]? = some (.map es clock)) (k : Int) (i : Nat) (v : Value) (ok : Bool)
  (hf : Instr.findNow (.int q) (.int q k) es.toList 0 = some (some (i, v))) :
  (Instr.lookup t (.map (some r)) (.int q k) ok).run P w = .ok (if ok then .tuple #[v, .bool true] else v) w := by
 unfold Instr.lookup
 simp only [Sem.run_bind, run_underlying ht, Result.andThen_ok, MapKept.run_getObj_map hb, Sem.run_pure, run_checkKey (k := .int q k) hk rfl, run_findKey hk hf]
theorem run_lookup_miss (ht : P.underlying t = some (.map kt et)) (hk : P.underlying kt = some (.int q)) (hb : w.heap[r]? = some (.map es clock)) (k : Int) (z : Value) (hz : (zeroValue et).run P w = .ok z w) (ok : Bool)
  (hf : Instr.findNow (.int q) (.int q k) es.toList 0 = some none) :
  (Instr.lookup t (.map (some r)) (.int q k) ok).run P w = .ok (if ok then .tuple #[z, .bool false] else z) w := by
 unfold Instr.lookup
 simp only [Sem.run_bind, run_underlying ht, Result.andThen_ok, MapKept.run_getObj_map hb, Sem.run_pure, run_checkKey (k := .int q k) hk rfl, run_findKey hk hf, hz]
/-- A store under a new key, at the operation of a map's literal. -/
theorem wpList_insert_new {ops : Array Oper} {rest : List Oper} {o : Oper} {a : Act} {Q : Exit → Act → World → Prop} (hg : o.guard = none) (m x v : Operand) (hop : o.op = .insert t m x v)
  (ht : P.underlying t = some (.map kt et)) (hk : P.underlying kt = some (.int q)) (hb : w.heap[r]? = some (.map es clock)) (k : Int) (u : Value) (hm : a.eval m = .map (some r)) (hx : a.eval x = .int q k) (hv : a.eval v = u)
  (hf : Instr.findNow (.int q) (.int q k) es.toList 0 = some none)
  (h : ∀ w', w'.heap[r]? = some (.map (es.push { key := .int q k, val := u, born := clock }) (clock + 1)) → Keeps (One r) w w' → wpList P ops Q rest (a.put o.dst undef) w') :
  wpList P ops Q (o :: rest) a w := by
 refine wpList_plain hg fun K hK => ?_
 have hrun := run_insert_new (v := u) ht hk hb k hf
 unfold Oper.wp
 simp [execOp, hop, hm, hx, hv, hrun, Result.andThen]
 refine hK _ _ (h _ (World.putObj_heap_same (Array.getElem?_eq_some_iff.1 hb).1) ((Keeps.refl (One r) w).putObj (fun _ => rfl) _))
end
end Go.Proofs.YtfmabknhfehdcaaGreat
namespace Go.Proofs.YtfmabknhfehdcaaGreat
set_option linter.unusedSimpArgs false
set_option linter.unusedVariables false
open Go.RowKit Go.MapKept
def zKey (e : MapEntry) : Int := match e.key with | .int _ z => z | _ => 0
/-- Block r is a map whose pairs are kv, in some order. -/
def MapIs (q : IntKind) (w : World) (r : Nat) (kv : List (Int × Value)) : Prop :=
 ∃ es clock, w.heap[r]? = some (.map es clock) ∧ Stamped es clock ∧ (∀ x ∈ es.toList, x.key = .int q (zKey x)) ∧ (es.toList.map fun x => (zKey x, x.val)).Perm kv
namespace MapIs
set_option linter.unusedSimpArgs false
set_option linter.unusedVariables false
variable {q : IntKind} {w w' : World} {r : Nat} {kv kv' : List (Int × Value)}
theorem lt (h : MapIs q w r kv) : r < w.heap.size := by
 obtain ⟨es, clock, hb, _⟩ := h
 exact (Array.getElem?_eq_some_iff.1 hb).1
theorem same (h : MapIs q w r kv) (e : w'.heap[r]? = w.heap[r]?) : MapIs q w' r kv := by
 obtain ⟨es, clock, hb, h'⟩ := h
 exact ⟨es, clock, e.trans hb, h'⟩
theorem below (h : MapIs q w r kv) (hb : Below w.heap.size w w') : MapIs q w' r kv := h.same (hb.block r h.lt)
theorem kept {S : Nat → Prop} (h : MapIs q w r kv) (hk : Keeps S w w') (hS : ¬ S r) : MapIs q w' r kv := h.same (hk.block r h.lt hS)
theorem made (w : World) : MapIs q (w.alloc (.map #[] 0)) w.heap.size [] := ⟨#[], 0, (MapKept.heap_alloc w _).1, stamped_empty 0, (fun x hx => by cases hx), List.Perm.refl _⟩
theorem nd (h : MapIs q w r kv) : (kv.map (·.1)).Nodup := by
 obtain ⟨es, clock, hb, h1, h2, h3⟩ := h
 have h4 := h1.2.2
 have e : es.toList.map (·.key) = ((es.toList.map fun x => (zKey x, x.val)).map (·.1)).map (.int q) := by
  rw [List.map_map, List.map_map]
  exact List.map_congr_left fun x hx => h2 x hx
 have h5 : (((es.toList.map fun x => (zKey x, x.val)).map (·.1)).map (Value.int q)).Nodup := by
  rw [← e]
  exact h4
 have h6 : ((es.toList.map fun x => (zKey x, x.val)).map (·.1)).Nodup := (List.pairwise_map.1 h5).imp (fun {a b} hab (e : a = b) => hab (by rw [e]))
 exact (List.Perm.nodup_iff (h3.map (·.1))).1 h6
theorem isKeys {es : Array MapEntry} (h2 : ∀ x ∈ es.toList, x.key = .int q (zKey x)) : ∀ x ∈ es.toList, IsKey (.int q) x.key := fun x hx => by
 rw [h2 x hx]
 simp [IsKey]
section
variable {P : Program} {t kt et : TypeId} {k : Int} {v : Value}
theorem look (h : MapIs q w r kv) (ht : P.underlying t = some (.map kt et)) (hk : P.underlying kt = some (.int q)) (hm : (k, v) ∈ kv) (ok : Bool) :
  (Instr.lookup t (.map (some r)) (.int q k) ok).run P w = .ok (if ok then .tuple #[v, .bool true] else v) w := by
 have hnd := h.nd
 obtain ⟨es, clock, hb, h1, h2, h3⟩ := h
 have hm' := h3.mem_iff.2 hm
 obtain ⟨x, hx, ex⟩ := List.mem_map.1 hm'
 injection ex with e1 e2
 rcases findNow_spec (d := .int q) (k := .int q k) (by simp [IsKey]) es.toList 0 (isKeys h2) with ⟨hf, hn⟩ | ⟨j, e, hf, hj, he⟩
 ·exact absurd (by rw [h2 x hx, e1]) (hn x hx)
 ·have hemem : e ∈ es.toList := List.mem_of_getElem? hj
  have : e = x := by
   have hk1 := h2 e hemem
   rw [he] at hk1
   injection hk1 with _ hk1
   exact (entry_eq_of_key (List.pairwise_map.1 h1.2.2) hemem hx (by rw [he, h2 x hx, e1]))
  subst this
  rw [e2] at hf
  exact run_lookup_hit ht hk hb k _ v ok hf
theorem miss (h : MapIs q w r kv) (ht : P.underlying t = some (.map kt et)) (hk : P.underlying kt = some (.int q)) (hm : k ∉ kv.map (·.1)) (z : Value) (hz : (zeroValue et).run P w = .ok z w) (ok : Bool) :
  (Instr.lookup t (.map (some r)) (.int q k) ok).run P w = .ok (if ok then .tuple #[z, .bool false] else z) w := by
 obtain ⟨es, clock, hb, h1, h2, h3⟩ := h
 rcases findNow_spec (d := .int q) (k := .int q k) (by simp [IsKey]) es.toList 0 (isKeys h2) with ⟨hf, hn⟩ | ⟨j, e, hf, hj, he⟩
 ·exact run_lookup_miss ht hk hb k z hz ok hf
 ·have hemem : e ∈ es.toList := List.mem_of_getElem? hj
  have hk1 := h2 e hemem
  rw [he] at hk1
  injection hk1 with _ hk1
  refine absurd ?_ hm
  rw [← (h3.map (·.1)).mem_iff, List.map_map]
  exact List.mem_map.2 ⟨e, hemem, hk1.symm⟩
theorem put_new (h : MapIs q w r kv) (ht : P.underlying t = some (.map kt et)) (hk : P.underlying kt = some (.int q)) (hm : k ∉ kv.map (·.1)) (v : Value) :
  ∃ w', (Instr.mapUpdate t (.map (some r)) (.int q k) v).run P w = .ok () w' ∧ MapIs q w' r (kv ++ [(k, v)]) ∧ Keeps (One r) w w' := by
 obtain ⟨es, clock, hb, h1, h2, h3⟩ := h
 have hnk : ∀ e ∈ es.toList, e.key ≠ .int q k := fun e he hk1 => by
  have hk2 := h2 e he
  rw [hk1] at hk2
  injection hk2 with _ hk2
  refine absurd ?_ hm
  rw [← (h3.map (·.1)).mem_iff, List.map_map]
  exact List.mem_map.2 ⟨e, he, hk2.symm⟩
 rcases findNow_spec (d := .int q) (k := .int q k) (by simp [IsKey]) es.toList 0 (isKeys h2) with ⟨hf, hn⟩ | ⟨j, e, hf, hj, he⟩
 ·refine ⟨_, run_insert_new (v := v) ht hk hb k hf, ⟨_, _, World.putObj_heap_same (Array.getElem?_eq_some_iff.1 hb).1, stamped_push h1 hnk, ?_, ?_⟩, (Keeps.refl (One r) w).putObj (fun _ => rfl) _⟩
  ·intro x hx
   simp only [Array.toList_push, List.mem_append, List.mem_singleton] at hx
   rcases hx with hx | rfl
   ·exact h2 x hx
   ·rfl
  ·rw [Array.toList_push, List.map_append]
   exact h3.append_right _
 ·exact absurd he (hnk e (List.mem_of_getElem? hj))
end
end MapIs
section
variable {P : Program} {w : World} {t kt et : TypeId} {q : IntKind} {r : Nat} {kv : List (Int × Value)} {ops : Array Oper} {rest : List Oper} {o : Oper} {a : Act} {Q : Exit → Act → World → Prop}
/-- A store under a new key, at the operation of a map's literal. -/
theorem wpList_insert_mp (hg : o.guard = none) (m x v : Operand) (hop : o.op = .insert t m x v) (ht : P.underlying t = some (.map kt et)) (hk : P.underlying kt = some (.int q)) (h : MapIs q w r kv) (k : Int) (u : Value) (hm : a.eval m = .map (some r)) (hx : a.eval x = .int q k) (hv : a.eval v = u)
  (hn : (kv.map (·.1)).contains k = false) (hK : ∀ w', MapIs q w' r (kv ++ [(k, u)]) → Keeps (One r) w w' → wpList P ops Q rest (a.put o.dst undef) w') : wpList P ops Q (o :: rest) a w := by
 refine wpList_plain hg fun K hK' => ?_
 obtain ⟨w', hrun, hM, hkp⟩ := h.put_new ht hk (by simpa using hn) u
 unfold Oper.wp
 simp [execOp, hop, hm, hx, hv, hrun, Result.andThen]
 exact hK' _ _ (hK w' hM hkp)
end
end Go.Proofs.YtfmabknhfehdcaaGreat
namespace Go.Proofs.YtfmabknhfehdcaaGreat
set_option linter.unusedSimpArgs false
set_option linter.unusedVariables false
open Go.RowKit
/-- n conditions lie in a row -/
def Conds (w : World) (b n : Nat) (F : Nat → Bool) : Prop := ∀ i, i < n → w.cell? ⟨b, i, none⟩ = some (.bool (F i))
/-- where the first false condition is found -/
def IdxPost (n : Nat) (F : Nat → Bool) (w : World) (e : Ending) (w' : World) : Prop := ∃ r : Int, e = .returned (.int .i64 r) ∧ (((∀ i, i < n → F i = true) ∧ r = -1) ∨ ((∃ i, i < n ∧ F i = false) ∧ 0 ≤ r)) ∧ w = w'
set_option maxRecDepth 100000 in
set_option maxHeartbeats 1000000 in
theorem index_conds (b n c : Nat) (F : Nat → Bool) (w : World) (h : Conds w b n F) (hn : n ≤ 1000) :
  Calls Tryz.prog 92 #[.slice (some ⟨b, 0, none⟩) n c, .bool false] w (IdxPost n F w) := by
 have H := Lib.hid h
 clear h
 go_enter Tryz.func92, Tryz.ntmps92
 go_wp2_with fail
 go_loop [8] (fun i => ∃ k : Nat, k ≤ n ∧ i = .int .i64 (k : Nat) ∧ ∀ j, j < k → F j = true) (fun i => n - (intOf i).toNat)
 case atStart => exact ⟨0, Nat.zero_le _, rfl, fun j h => by omega⟩
 case round =>
  obtain ⟨k, hk, rfl, hF⟩ := hrel
  have HF := Lib.hid hF
  clear hF
  by_cases hkn : k < n
  ·have q : decide ((k : Int) < (n : Int)) = true := decide_eq_true (by omega)
   have c0 : w.cell? ⟨b, k, none⟩ = some (.bool (F k)) := H.out k hkn
   cases hf : F k with
   | true =>
    rw [hf] at c0
    have HFK := Lib.hid hf
    clear hf
    go_wp2_with fail
    go_round
    case rel =>
     refine ⟨k + 1, by omega, by go_num, fun j hj => ?_⟩
     rcases Nat.lt_or_ge j k with h | h
     ·exact HF.out j h
     ·obtain rfl : j = k := by omega
      exact HFK.out
    case measure => simp [intOf]; omega
   | false =>
    rw [hf] at c0
    have HFK := Lib.hid hf
    clear hf
    go_wp2_with fail
    go_ret
    exact ⟨k, rfl, .inr ⟨⟨k, hkn, HFK.out⟩, by omega⟩, rfl⟩
  ·have q : decide ((k : Int) < (n : Int)) = false := decide_eq_false (by omega)
   go_wp2_with fail
   go_ret
   exact ⟨-1, rfl, .inl ⟨fun i hi => HF.out i (by omega), rfl⟩, rfl⟩
set_option maxRecDepth 100000 in
set_option maxHeartbeats 1000000 in
theorem contains_conds (b n c : Nat) (F : Nat → Bool) (r : Bool) (hr : (r = false ∧ ∀ i, i < n → F i = true) ∨ (r = true ∧ ∃ i, i < n ∧ F i = false)) (w : World) (h : Conds w b n F) (hn : n ≤ 1000) :
  Calls Tryz.prog 82 #[.slice (some ⟨b, 0, none⟩) n c, .bool false] w fun e w' => e = .returned (.bool r) ∧ w = w' := by
 have H := Lib.hid h
 have HR := Lib.hid hr
 clear h hr
 go_enter Tryz.func82, Tryz.ntmps82
 go_upto_region 1 with fail
 have hd : ∀ z : Int, ((∀ i, i < n → F i = true) ∧ z = -1) ∨ ((∃ i, i < n ∧ F i = false) ∧ 0 ≤ z) → decide (0 ≤ z) = r := fun z hz => by
  rcases HR.out with ⟨rfl, ha⟩ | ⟨rfl, i, hi, hf⟩
  ·rcases hz with ⟨-, rfl⟩ | ⟨⟨i, hi, hf⟩, -⟩
   ·rfl
   ·rw [ha i hi] at hf; cases hf
  ·rcases hz with ⟨ha, -⟩ | ⟨-, h0⟩
   ·rw [ha i hi] at hf; cases hf
   ·exact decide_eq_true h0
 have HD := Lib.hid hd
 clear hd
 go_wp2_with (go_at_call 92; refine (index_conds b n c F _ H.out hn).mono ?_; rintro e w' ⟨z, rfl, hz, rfl⟩; have q := HD.out z hz; clear hz)
 go_ret
 exact ⟨rfl, rfl⟩
section
variable (no : Int) (b n c : Nat) (F : Nat → Bool) (w : World) (h : Conds w b n F) (hn : n ≤ 1000) (hc : n ≤ c)
include h hn hc
set_option maxRecDepth 100000 in
set_option maxHeartbeats 1000000 in
theorem must_row_ok (hr : ∀ i, i < n → F i = true) :
  Calls Tryz.prog 46 #[.int .i64 no, .slice (some ⟨b, 0, none⟩) n c] w fun e w' => e = .returned (.tuple #[]) ∧ w = w' := by
 have H := Lib.hid h
 have HR := Lib.hid hr
 clear h hr
 go_enter Tryz.func46, Tryz.ntmps46
 go_wp2_with (go_at_call 82; refine (contains_conds b n _ F false (.inl ⟨rfl, HR.out⟩) _ H.out hn).mono ?_; rintro e w' ⟨rfl, rfl⟩)
 go_end0
 exact ⟨rfl, rfl⟩
set_option maxRecDepth 100000 in
set_option maxHeartbeats 1000000 in
theorem must_row_bad (hr : ∃ i, i < n ∧ F i = false) :
  Calls Tryz.prog 46 #[.int .i64 no, .slice (some ⟨b, 0, none⟩) n c] w fun e w' => e = .panicked [pan no] ∧ w = w' := by
 have H := Lib.hid h
 have HR := Lib.hid hr
 clear h hr
 go_enter Tryz.func46, Tryz.ntmps46
 go_wp2_with (go_at_call 82; refine (contains_conds b n _ F true (.inr ⟨rfl, HR.out⟩) _ H.out hn).mono ?_; rintro e w' ⟨rfl, rfl⟩)
 exact ⟨rfl, rfl, rfl⟩
end
theorem conds_alloc (w : World) (l : List Bool) : Conds (w.alloc (.cells (l.map Value.bool).toArray 4)) w.heap.size l.length fun i => l.getD i false := fun i hi => by
 rw [World.cell?_alloc_new]
 simp [hi]
theorem must1_ok (no : Int) (w : World) : Calls Tryz.prog 46 #[.int .i64 no, .slice (some ⟨w.heap.size, 0, none⟩) 1 1] (w.alloc (.cells #[.bool true] 4)) fun e w' => e = .returned (.tuple #[]) ∧ w.alloc (.cells #[.bool true] 4) = w' :=
 must_row_ok no w.heap.size 1 1 _ _ (conds_alloc w [true]) (by omega) (by omega) (fun i hi => by
  match i, hi with
  | 0, _ => rfl)
theorem must1_bad (no : Int) (w : World) : Calls Tryz.prog 46 #[.int .i64 no, .slice (some ⟨w.heap.size, 0, none⟩) 1 1] (w.alloc (.cells #[.bool false] 4)) fun e w' => e = .panicked [pan no] ∧ w.alloc (.cells #[.bool false] 4) = w' :=
 must_row_bad no w.heap.size 1 1 _ _ (conds_alloc w [false]) (by omega) (by omega) ⟨0, by omega, rfl⟩
theorem must2_ok (no : Int) (w : World) : Calls Tryz.prog 46 #[.int .i64 no, .slice (some ⟨w.heap.size, 0, none⟩) 2 2] (w.alloc (.cells #[.bool true, .bool true] 4)) fun e w' => e = .returned (.tuple #[]) ∧ w.alloc (.cells #[.bool true, .bool true] 4) = w' :=
 must_row_ok no w.heap.size 2 2 _ _ (conds_alloc w [true, true]) (by omega) (by omega) (fun i hi => by
  match i, hi with
  | 0, _ => rfl
  | 1, _ => rfl)
theorem must2_bad (no : Int) (x y : Bool) (h : x = false ∨ y = false) (w : World) : Calls Tryz.prog 46 #[.int .i64 no, .slice (some ⟨w.heap.size, 0, none⟩) 2 2] (w.alloc (.cells #[.bool x, .bool y] 4)) fun e w' => e = .panicked [pan no] ∧ w.alloc (.cells #[.bool x, .bool y] 4) = w' :=
 must_row_bad no w.heap.size 2 2 _ _ (conds_alloc w [x, y]) (by omega) (by omega) (h.elim (fun e => ⟨0, by simp, e⟩) (fun e => ⟨1, by simp, e⟩))
theorem must5_ok (no : Int) (w : World) : Calls Tryz.prog 46 #[.int .i64 no, .slice (some ⟨w.heap.size, 0, none⟩) 5 5] (w.alloc (.cells #[.bool true, .bool true, .bool true, .bool true, .bool true] 4)) fun e w' => e = .returned (.tuple #[]) ∧ w.alloc (.cells #[.bool true, .bool true, .bool true, .bool true, .bool true] 4) = w' :=
 must_row_ok no w.heap.size 5 5 _ _ (conds_alloc w [true, true, true, true, true]) (by omega) (by omega) (fun i hi => by
  match i, hi with
  | 0, _ => rfl
  | 1, _ => rfl
  | 2, _ => rfl
  | 3, _ => rfl
  | 4, _ => rfl)
theorem must5_bad (no : Int) (a b c d f : Bool) (h : a = false ∨ b = false ∨ c = false ∨ d = false ∨ f = false) (w : World) : Calls Tryz.prog 46 #[.int .i64 no, .slice (some ⟨w.heap.size, 0, none⟩) 5 5] (w.alloc (.cells #[.bool a, .bool b, .bool c, .bool d, .bool f] 4)) fun e w' => e = .panicked [pan no] ∧ w.alloc (.cells #[.bool a, .bool b, .bool c, .bool d, .bool f] 4) = w' :=
 must_row_bad no w.heap.size 5 5 _ _ (conds_alloc w [a, b, c, d, f]) (by omega) (by omega) (by
  rcases h with e | e | e | e | e
  ·exact ⟨0, by simp, e⟩
  ·exact ⟨1, by simp, e⟩
  ·exact ⟨2, by simp, e⟩
  ·exact ⟨3, by simp, e⟩
  ·exact ⟨4, by simp, e⟩)
end Go.Proofs.YtfmabknhfehdcaaGreat
namespace Go.Proofs.YtfmabknhfehdcaaGreat
set_option linter.unusedSimpArgs false
set_option linter.unusedVariables false
open Go.RowKit
/-- a number of n bytes -/
def le (B : Nat → Int) (p : Nat) : Nat → Int
 | 0 => 0
 | k + 1 => le B p k + B (p + k) * 2 ^ (8 * k)
theorem le_bd {B : Nat → Int} (hB : ∀ j, 0 ≤ B j ∧ B j ≤ 255) (p k : Nat) : 0 ≤ le B p k ∧ le B p k < 2 ^ (8 * k) := by
 induction k with
 | zero => exact ⟨by simp [le], by simp [le]⟩
 | succ k ih =>
  obtain ⟨h1, h2⟩ := ih
  obtain ⟨b1, b2⟩ := hB (p + k)
  have hp : (0 : Int) < 2 ^ (8 * k) := Int.pow_pos (by omega)
  have e : (2 : Int) ^ (8 * (k + 1)) = 2 ^ (8 * k) * 256 := by rw [Nat.mul_add, Int.pow_add]; rfl
  have m1 : 0 ≤ B (p + k) * 2 ^ (8 * k) := Int.mul_nonneg b1 (Int.le_of_lt hp)
  have m2 : B (p + k) * 2 ^ (8 * k) ≤ 255 * 2 ^ (8 * k) := Int.mul_le_mul_of_nonneg_right b2 (Int.le_of_lt hp)
  unfold le
  rw [e]
  omega
theorem or_step (x y : Int) (k : Nat) (hx : 0 ≤ x) (hx' : x < 2 ^ (8 * k)) (hy : 0 ≤ y) (hy' : y ≤ 255) (hk : k < 8) :
  bits .or .u64 x (y * 2 ^ (8 * k)) = x + y * 2 ^ (8 * k) ∧ 0 ≤ y * 2 ^ (8 * k) ∧ y * 2 ^ (8 * k) ≤ 18446744073709551615 := by
 have hp : (0 : Int) < 2 ^ (8 * k) := Int.pow_pos (by omega)
 have hq : (2 : Int) ^ (8 * k) ≤ 72057594037927936 := by
  have h : k = 0 ∨ k = 1 ∨ k = 2 ∨ k = 3 ∨ k = 4 ∨ k = 5 ∨ k = 6 ∨ k = 7 := by omega
  rcases h with rfl | rfl | rfl | rfl | rfl | rfl | rfl | rfl <;> simp
 have m1 : 0 ≤ y * 2 ^ (8 * k) := Int.mul_nonneg hy (Int.le_of_lt hp)
 have m2 : y * 2 ^ (8 * k) ≤ 255 * 2 ^ (8 * k) := Int.mul_le_mul_of_nonneg_right hy' (Int.le_of_lt hp)
 refine ⟨?_, m1, by omega⟩
 obtain ⟨a, rfl⟩ := Int.eq_ofNat_of_zero_le hx
 obtain ⟨b, rfl⟩ := Int.eq_ofNat_of_zero_le hy
 have e : (b : Int) * 2 ^ (8 * k) = ((b <<< (8 * k) : Nat) : Int) := by rw [Nat.shiftLeft_eq]; push_cast; rfl
 rw [e] at m1 m2 ⊢
 have ha : a < 2 ^ (8 * k) := by
  have : ((a : Nat) : Int) < ((2 ^ (8 * k) : Nat) : Int) := by push_cast; exact hx'
  exact Int.ofNat_lt.1 this
 rw [u64_or _ _ (by omega) (by omega) (by omega) (by omega)]
 have h := Nat.shiftLeft_add_eq_or_of_lt ha b
 rw [Nat.or_comm] at h
 simp only [Int.toNat_natCast]
 omega
set_option maxRecDepth 100000 in
set_option maxHeartbeats 2000000 in
theorem get_ok (g o n c : Nat) (B : Nat → Int) (w : World) (hB : ∀ j, 0 ≤ B j ∧ B j ≤ 255) (h1 : 1 ≤ n) (h8 : n ≤ 8) (hc : ∀ j, j < n → w.cell? ⟨g, o + j, none⟩ = some (.int .u8 (B (o + j)))) :
  Calls Tryz.prog 106 #[.slice (some ⟨g, o, none⟩) n c] w fun e w' => e = .returned (.tuple #[.int .u64 (le B o n), .int .i64 0]) ∧ w = w' := by
 have HB := Lib.hid hB
 have HC := Lib.hid hc
 clear hB hc
 have d1 : decide (n < 1) = false := by simp; omega
 have d2 : decide (8 < n) = false := by simp; omega
 have d3 : decide ((n : Int) < 1) = false := by simp; omega
 have d4 : decide (8 < (n : Int)) = false := by simp; omega
 go_enter Tryz.func106, Tryz.ntmps106
 go_wp2_with fail
 go_loop [2, 4, 5, 16] (fun v _ _ i => ∃ k : Nat, k ≤ n ∧ i = .int .i64 k ∧ v = .int .u64 (le B o k)) (fun _ _ _ i => n - (intOf i).toNat)
 case atStart => exact ⟨0, Nat.zero_le _, rfl, rfl⟩
 case round =>
  obtain ⟨k, hk, rfl, rfl⟩ := hrel
  by_cases hlt : k < n
  ·have c0 := HC.out k hlt
   obtain ⟨b1, b2⟩ := HB.out (o + k)
   obtain ⟨x1, x2⟩ := le_bd HB.out o k
   obtain ⟨s1, s2, s3⟩ := or_step (le B o k) (B (o + k)) k x1 x2 b1 b2 (by omega)
   have e4 : IntKind.i64.wrap (8 * (k : Int)) = 8 * (k : Int) := IntWalk.i64_in _ (by omega)
   have HS : Hid (le B o (k + 1) = le B o k + B (o + k) * 2 ^ (8 * k)) := Lib.hid rfl
   obtain ⟨x, hx⟩ : ∃ x, x = le B o k := ⟨_, rfl⟩
   obtain ⟨b, hb⟩ : ∃ b, b = B (o + k) := ⟨_, rfl⟩
   rw [← hx] at HS s1 x1 x2 ⊢
   rw [← hb] at HS s1 s2 s3 b1 b2 c0
   clear hx hb
   go_wp2_with fail
   go_round
   case rel => exact ⟨k + 1, by omega, by go_num, by rw [HS.out]⟩
   case measure => simp [intOf]; omega
  ·obtain rfl : n = k := by omega
   go_wp2_with fail
   go_ret2
   exact ⟨rfl, rfl⟩
end Go.Proofs.YtfmabknhfehdcaaGreat
