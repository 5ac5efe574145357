/- queue: full, free; release. -/
import Derived.Test.YtpoeepdpoblfcaaQ1
import Derived.BigQuiet
import Derived.Deep.QuietTactic
import Derived.Deep.CutRange
namespace Go.Proofs.Ytpoeepdpoblfcaa
open Go.RowKit

theorem freshCell (w : World) (cs : Array Value) (T i : Nat) (v : Value) (h : cs[i]? = some v) : (w.alloc (.cells cs T)).cell? ⟨w.heap.size, i, none⟩ = some v := by
  have := World.rowIs_alloc w cs T (fun j => cs.getD j undef) (fun j hj => by
    simp only [Array.getD_eq_getD_getElem?]
    rw [Array.getElem?_eq_getElem hj]; rfl)
  have hi : i < cs.size := (Array.getElem?_eq_some_iff.1 h).1
  have h2 := World.rowIs.cell this hi
  rw [h2]
  simp only [Array.getD_eq_getD_getElem?, h]; rfl

/-- the cells of an end of a queue -/
def qf (n h t : Nat) (ph : Bool) (i : Nat) : Value := if i = 0 then .int .i64 n else if i = 1 then .int .i64 h else if i = 2 then .int .i64 t else .bool ph
/-- An end of a queue, of m cells, lies at block g. -/
structure QAt (T m : Nat) (W : World) (g n h t : Nat) (ph : Bool) : Prop where
  row : W.rowIs g T m (qf n h t ph)
  m3 : 3 ≤ m
  m4 : m ≤ 4
  n2 : 2 ≤ n
  n4 : n ≤ 4096
  hh : h < n
  ht : t < n
namespace QAt
variable {T m : Nat} {W W' : World} {g n h t : Nat} {ph : Bool}
theorem lt (q : QAt T m W g n h t ph) : g < W.heap.size := q.row.lt
theorem c0 (q : QAt T m W g n h t ph) : W.cell? ⟨g, 0, none⟩ = some (.int .i64 n) := q.row.cell (i := 0) (by have := q.m3; omega)
theorem c1 (q : QAt T m W g n h t ph) : W.cell? ⟨g, 1, none⟩ = some (.int .i64 h) := q.row.cell (i := 1) (by have := q.m3; omega)
theorem c2 (q : QAt T m W g n h t ph) : W.cell? ⟨g, 2, none⟩ = some (.int .i64 t) := q.row.cell (i := 2) (by have := q.m3; omega)
theorem c3 (q : QAt T 4 W g n h t ph) : W.cell? ⟨g, 3, none⟩ = some (.bool ph) := q.row.cell (i := 3) (by omega)
theorem kept {S : Nat → Prop} (q : QAt T m W g n h t ph) (k : Keeps S W W') (hS : ¬ S g) : QAt T m W' g n h t ph := ⟨k.rowIs q.row hS, q.m3, q.m4, q.n2, q.n4, q.hh, q.ht⟩
theorem below (q : QAt T m W g n h t ph) (b : Below W.heap.size W W') : QAt T m W' g n h t ph := q.kept (Keeps.of_below (S := fun _ => False) b) (fun e => e)
theorem set1 (q : QAt T m W g n h t ph) (k : Nat) (hk : k < n) : QAt T m (W.setCell ⟨g, 1, none⟩ (.int .i64 k)) g n k t ph :=
  ⟨(q.row.set 1 _).congr fun i hi => by
    unfold qf
    by_cases e : i = 1
    · subst e; simp
    · simp [e], q.m3, q.m4, q.n2, q.n4, hk, q.ht⟩
theorem set2 (q : QAt T m W g n h t ph) (k : Nat) (hk : k < n) : QAt T m (W.setCell ⟨g, 2, none⟩ (.int .i64 k)) g n h k ph :=
  ⟨(q.row.set 2 _).congr fun i hi => by
    unfold qf
    by_cases e : i = 2
    · subst e; simp
    · simp [e], q.m3, q.m4, q.n2, q.n4, q.hh, hk⟩
theorem set3 (q : QAt T m W g n h t ph) (k : Bool) : QAt T m (W.setCell ⟨g, 3, none⟩ (.bool k)) g n h t k :=
  ⟨(q.row.set 3 _).congr fun i hi => by
    have := q.m4
    unfold qf
    by_cases e : i = 3
    · subst e; simp
    · have : i = 0 ∨ i = 1 ∨ i = 2 := by omega
      rcases this with rfl | rfl | rfl <;> rfl, q.m3, q.m4, q.n2, q.n4, q.hh, q.ht⟩
end QAt

set_option maxRecDepth 100000 in
set_option maxHeartbeats 2000000 in
theorem full_ok (n h t : Nat) (b : Bool) (w : World) (hn : 2 ≤ n) (hn' : n ≤ 4096) (hh : h < n) (ht : t < n) (hb : decide (usd n h t = n - 1) = b) :
    Calls Try.prog 64 #[.agg #[.int .i64 n, .int .i64 h, .int .i64 t]] w fun e w' => e = .returned (.bool b) ∧ Below w.heap.size w w' := by
  obtain ⟨u, hu⟩ : ∃ u, u = usd n h t := ⟨_, rfl⟩
  have hun := usd_lt hh ht
  rw [← hu] at hun
  have HU := Lib.hid hu
  have e1 : ((u : Int) == (n : Int) - 1) = b := by
    rw [← hb, ← hu]
    by_cases e : u = n - 1
    · rw [decide_eq_true e]; simp; omega
    · rw [decide_eq_false e]; simp; omega
  clear hb
  have HC := Lib.hid fun w => used_ok n h t (h : Int) (t : Int) w hn hn' hh ht
  rw [← hu] at HC
  clear hu
  go_enter Try.func64, Try.ntmps64
  go_wp2_with fail
  obtain ⟨W, hW⟩ : ∃ W, W = w.alloc (.cells #[.int .i64 (n : Int), .int .i64 (h : Int), .int .i64 (t : Int)] 89) := ⟨_, rfl⟩
  rw [← hW]
  have hlt : w.heap.size < W.heap.size := by rw [hW]; simp
  have q0 : W.cell? ⟨w.heap.size, 0, none⟩ = some (.int .i64 n) := by rw [hW]; exact freshCell _ _ _ _ _ rfl
  have q1 : W.cell? ⟨w.heap.size, 1, none⟩ = some (.int .i64 h) := by rw [hW]; exact freshCell _ _ _ _ _ rfl
  have q2 : W.cell? ⟨w.heap.size, 2, none⟩ = some (.int .i64 t) := by rw [hW]; exact freshCell _ _ _ _ _ rfl
  have HB := Lib.hid (show Below w.heap.size w W by rw [hW]; exact (Below.refl _ _).alloc (Nat.le_refl _) _)
  clear hW
  have hq0 : ∀ p : InC (Below W.heap.size W), p.w.cell? ⟨w.heap.size, 0, none⟩ = some (.int .i64 n) := fun p => (p.ok.cell (hlt)).trans (q0)
  have hq1 : ∀ p : InC (Below W.heap.size W), p.w.cell? ⟨w.heap.size, 1, none⟩ = some (.int .i64 h) := fun p => (p.ok.cell (hlt)).trans (q1)
  have hq2 : ∀ p : InC (Below W.heap.size W), p.w.cell? ⟨w.heap.size, 2, none⟩ = some (.int .i64 t) := fun p => (p.ok.cell (hlt)).trans (q2)
  have HE : Hid (∀ p : InC (Below W.heap.size W), Calls Try.prog 54 #[.agg #[.int .i64 n, .int .i64 h, .int .i64 t], .int .i64 h, .int .i64 t] p.w fun e w' => e = .returned (.int .i64 u) ∧ Below W.heap.size W w') :=
    Lib.hid fun p => (HC.out p.w).mono fun e w' k => ⟨k.1, p.ok.trans (k.2.mono p.ok.size)⟩
  have hNE : Nonempty (InC (Below W.heap.size W)) := ⟨⟨W, Below.refl _ _⟩⟩
  clear q0 q1 q2
  refine wp_quiet_in (Below W.heap.size W) (Below.refl _ _).drew (by kernel_rfl) (by kernel_rfl) ?_
  repeat (go_big_quiet_step (first | (with_reducible exact calls_in (HE.out _))))
  refine wpQuiet_nil ?_
  intro _ hw'
  obtain ⟨p, hw''⟩ := hw'
  subst hw''
  have HP := Lib.hid (HB.out.trans (p.ok.mono (Nat.le_of_lt hlt)))
  generalize p.w = W4 at *
  clear hq0 hq1 hq2 hNE HE
  go_wp2_with fail
  go_ret
  exact ⟨rfl, HP.out⟩

set_option maxRecDepth 100000 in
set_option maxHeartbeats 2000000 in
theorem free_ok (n h t : Nat) (w : World) (hn : 2 ≤ n) (hn' : n ≤ 4096) (hh : h < n) (ht : t < n) :
    Calls Try.prog 65 #[.agg #[.int .i64 n, .int .i64 h, .int .i64 t]] w fun e w' => e = .returned (.int .i64 ((n : Int) - 1 - (usd n h t : Nat))) ∧ Below w.heap.size w w' := by
  obtain ⟨u, hu⟩ : ∃ u, u = usd n h t := ⟨_, rfl⟩
  have hun := usd_lt hh ht
  rw [← hu] at hun
  have HU := Lib.hid hu
  have d0 : ((n : Int) == 0) = false := by simp; omega
  have HC := Lib.hid fun w => used_ok n h t (h : Int) (t : Int) w hn hn' hh ht
  rw [← hu] at HC
  clear hu
  go_enter Try.func65, Try.ntmps65
  go_wp2_with fail
  obtain ⟨W, hW⟩ : ∃ W, W = w.alloc (.cells #[.int .i64 (n : Int), .int .i64 (h : Int), .int .i64 (t : Int)] 89) := ⟨_, rfl⟩
  rw [← hW]
  have hlt : w.heap.size < W.heap.size := by rw [hW]; simp
  have q0 : W.cell? ⟨w.heap.size, 0, none⟩ = some (.int .i64 n) := by rw [hW]; exact freshCell _ _ _ _ _ rfl
  have q1 : W.cell? ⟨w.heap.size, 1, none⟩ = some (.int .i64 h) := by rw [hW]; exact freshCell _ _ _ _ _ rfl
  have q2 : W.cell? ⟨w.heap.size, 2, none⟩ = some (.int .i64 t) := by rw [hW]; exact freshCell _ _ _ _ _ rfl
  have HB := Lib.hid (show Below w.heap.size w W by rw [hW]; exact (Below.refl _ _).alloc (Nat.le_refl _) _)
  clear hW
  have hq0 : ∀ p : InC (Below W.heap.size W), p.w.cell? ⟨w.heap.size, 0, none⟩ = some (.int .i64 n) := fun p => (p.ok.cell (hlt)).trans (q0)
  have hq1 : ∀ p : InC (Below W.heap.size W), p.w.cell? ⟨w.heap.size, 1, none⟩ = some (.int .i64 h) := fun p => (p.ok.cell (hlt)).trans (q1)
  have hq2 : ∀ p : InC (Below W.heap.size W), p.w.cell? ⟨w.heap.size, 2, none⟩ = some (.int .i64 t) := fun p => (p.ok.cell (hlt)).trans (q2)
  have HE : Hid (∀ p : InC (Below W.heap.size W), Calls Try.prog 54 #[.agg #[.int .i64 n, .int .i64 h, .int .i64 t], .int .i64 h, .int .i64 t] p.w fun e w' => e = .returned (.int .i64 u) ∧ Below W.heap.size W w') :=
    Lib.hid fun p => (HC.out p.w).mono fun e w' k => ⟨k.1, p.ok.trans (k.2.mono p.ok.size)⟩
  have hNE : Nonempty (InC (Below W.heap.size W)) := ⟨⟨W, Below.refl _ _⟩⟩
  clear q0 q1 q2
  refine wp_quiet_in (Below W.heap.size W) (Below.refl _ _).drew (by kernel_rfl) (by kernel_rfl) ?_
  repeat (go_big_quiet_step (first | (with_reducible exact calls_in (HE.out _))))
  refine wpQuiet_nil ?_
  intro _ hw'
  obtain ⟨p, hw''⟩ := hw'
  subst hw''
  have HP := Lib.hid (HB.out.trans (p.ok.mono (Nat.le_of_lt hlt)))
  generalize p.w = W4 at *
  clear hq0 hq1 hq2 hNE HE
  go_wp2_with fail
  go_ret
  exact ⟨ret_int (by rw [← HU.out]), HP.out⟩

set_option maxRecDepth 100000 in
set_option maxHeartbeats 2000000 in
theorem release_no (T m g n h t : Nat) (ph : Bool) (k : Int) (w : World) (q : QAt T m w g n h t ph) (hk : k < 0 ∨ (n : Int) ≤ k) :
    Calls Try.prog 66 #[.pointer (some ⟨g, 0, none⟩), .int .i64 k] w fun e w' => e = .returned (.int .i64 3) ∧ Below w.heap.size w w' := by
  have HQ := Lib.hid q
  have hlt := q.lt
  have hn := q.n2
  have hn' := q.n4
  have hh := q.hh
  have ht := q.ht
  have c0 := q.c0
  have c1 := q.c1
  have c2 := q.c2
  have d0 : ((n : Int) == 0) = false := by simp; omega
  have HK := Lib.hid hk
  clear hk
  clear q
  go_enter Try.func66, Try.ntmps66
  go_wp2_with fail
  have hq0 : ∀ p : InC (Below w.heap.size w), p.w.cell? ⟨g, 0, none⟩ = some (.int .i64 n) := fun p => (p.ok.cell (hlt)).trans (c0)
  have hq1 : ∀ p : InC (Below w.heap.size w), p.w.cell? ⟨g, 1, none⟩ = some (.int .i64 h) := fun p => (p.ok.cell (hlt)).trans (c1)
  have hq2 : ∀ p : InC (Below w.heap.size w), p.w.cell? ⟨g, 2, none⟩ = some (.int .i64 t) := fun p => (p.ok.cell (hlt)).trans (c2)
  have HE : Hid (∀ p : InC (Below w.heap.size w), Calls Try.prog 53 #[.agg #[.int .i64 n, .int .i64 h, .int .i64 t], .int .i64 k] p.w fun e w' => e = .returned (.bool false) ∧ Below w.heap.size w w') :=
    Lib.hid fun p => (slot_no n k h t p.w HK.out).mono fun e w' k => ⟨k.1, p.ok.trans (k.2.mono p.ok.size)⟩
  have hNE : Nonempty (InC (Below w.heap.size w)) := ⟨⟨w, Below.refl _ _⟩⟩
  clear c0 c1 c2
  refine wp_quiet_in (Below w.heap.size w) (Below.refl _ _).drew (by kernel_rfl) (by kernel_rfl) ?_
  repeat (go_big_quiet_step (first | (with_reducible exact calls_in (HE.out _))))
  refine wpQuiet_nil ?_
  intro _ hw'
  obtain ⟨p, hw''⟩ := hw'
  subst hw''
  have HQ4 := Lib.hid (HQ.out.below p.ok)
  have HP := Lib.hid p.ok
  generalize p.w = W4 at *
  clear hq0 hq1 hq2 hNE HE
  go_wp2_with fail
  go_ret
  exact ⟨rfl, HP.out⟩

set_option maxRecDepth 100000 in
set_option maxHeartbeats 2000000 in
theorem release_far (T m g n h t : Nat) (ph : Bool) (k : Nat) (w : World) (q : QAt T m w g n h t ph) (hk : k < n) (hf : usd n h t < usd n h k) :
    Calls Try.prog 66 #[.pointer (some ⟨g, 0, none⟩), .int .i64 k] w fun e w' => e = .returned (.int .i64 3) ∧ Below w.heap.size w w' := by
  have HQ := Lib.hid q
  have hlt := q.lt
  have hn := q.n2
  have hn' := q.n4
  have hh := q.hh
  have ht := q.ht
  have c0 := q.c0
  have c1 := q.c1
  have c2 := q.c2
  have d0 : ((n : Int) == 0) = false := by simp; omega
  obtain ⟨u, hu⟩ : ∃ u, u = usd n h t := ⟨_, rfl⟩
  obtain ⟨v, hv⟩ : ∃ v, v = usd n h k := ⟨_, rfl⟩
  rw [← hu, ← hv] at hf
  have HCV := Lib.hid fun w => used_ok n h k (h : Int) (t : Int) w hn hn' hh hk
  rw [← hv] at HCV
  have HCU := Lib.hid fun w => used_ok n h t (h : Int) (t : Int) w hn hn' hh ht
  rw [← hu] at HCU
  have HU := Lib.hid hu
  have HV := Lib.hid hv
  clear hu hv
  have d1 : decide (u < v) = true := by simpa using hf
  clear q
  go_enter Try.func66, Try.ntmps66
  go_wp2_with fail
  have hq0 : ∀ p : InC (Below w.heap.size w), p.w.cell? ⟨g, 0, none⟩ = some (.int .i64 n) := fun p => (p.ok.cell (hlt)).trans (c0)
  have hq1 : ∀ p : InC (Below w.heap.size w), p.w.cell? ⟨g, 1, none⟩ = some (.int .i64 h) := fun p => (p.ok.cell (hlt)).trans (c1)
  have hq2 : ∀ p : InC (Below w.heap.size w), p.w.cell? ⟨g, 2, none⟩ = some (.int .i64 t) := fun p => (p.ok.cell (hlt)).trans (c2)
  have HE : Hid (∀ p : InC (Below w.heap.size w), Calls Try.prog 53 #[.agg #[.int .i64 n, .int .i64 h, .int .i64 t], .int .i64 k] p.w fun e w' => e = .returned (.bool true) ∧ Below w.heap.size w w') :=
    Lib.hid fun p => (slot_yes n k h t p.w hk).mono fun e w' k => ⟨k.1, p.ok.trans (k.2.mono p.ok.size)⟩
  have HE2 : Hid (∀ p : InC (Below w.heap.size w), Calls Try.prog 54 #[.agg #[.int .i64 n, .int .i64 h, .int .i64 t], .int .i64 h, .int .i64 k] p.w fun e w' => e = .returned (.int .i64 v) ∧ Below w.heap.size w w') :=
    Lib.hid fun p => (HCV.out p.w).mono fun e w' k => ⟨k.1, p.ok.trans (k.2.mono p.ok.size)⟩
  have HE3 : Hid (∀ p : InC (Below w.heap.size w), Calls Try.prog 54 #[.agg #[.int .i64 n, .int .i64 h, .int .i64 t], .int .i64 h, .int .i64 t] p.w fun e w' => e = .returned (.int .i64 u) ∧ Below w.heap.size w w') :=
    Lib.hid fun p => (HCU.out p.w).mono fun e w' k => ⟨k.1, p.ok.trans (k.2.mono p.ok.size)⟩
  have hNE : Nonempty (InC (Below w.heap.size w)) := ⟨⟨w, Below.refl _ _⟩⟩
  clear c0 c1 c2
  refine wp_quiet_in (Below w.heap.size w) (Below.refl _ _).drew (by kernel_rfl) (by kernel_rfl) ?_
  repeat (go_big_quiet_step (first | (with_reducible exact calls_in (HE.out _)) | (with_reducible exact calls_in (HE2.out _)) | (with_reducible exact calls_in (HE3.out _))))
  refine wpQuiet_nil ?_
  intro _ hw'
  obtain ⟨p, hw''⟩ := hw'
  subst hw''
  have HQ4 := Lib.hid (HQ.out.below p.ok)
  have HP := Lib.hid p.ok
  generalize p.w = W4 at *
  clear hq0 hq1 hq2 hNE HE HE2 HE3
  go_wp2_with fail
  go_ret
  exact ⟨rfl, HP.out⟩

set_option maxRecDepth 100000 in
set_option maxHeartbeats 2000000 in
theorem release_ok (T m g n h t : Nat) (ph : Bool) (k : Nat) (w : World) (q : QAt T m w g n h t ph) (hk : k < n) (hf : usd n h k ≤ usd n h t) :
    Calls Try.prog 66 #[.pointer (some ⟨g, 0, none⟩), .int .i64 k] w fun e w' => e = .returned (.int .i64 0) ∧ Keeps (One g) w w' ∧ QAt T m w' g n k t ph := by
  have HQ := Lib.hid q
  have hlt := q.lt
  have hn := q.n2
  have hn' := q.n4
  have hh := q.hh
  have ht := q.ht
  have c0 := q.c0
  have c1 := q.c1
  have c2 := q.c2
  have d0 : ((n : Int) == 0) = false := by simp; omega
  obtain ⟨u, hu⟩ : ∃ u, u = usd n h t := ⟨_, rfl⟩
  obtain ⟨v, hv⟩ : ∃ v, v = usd n h k := ⟨_, rfl⟩
  rw [← hu, ← hv] at hf
  have HCV := Lib.hid fun w => used_ok n h k (h : Int) (t : Int) w hn hn' hh hk
  rw [← hv] at HCV
  have HCU := Lib.hid fun w => used_ok n h t (h : Int) (t : Int) w hn hn' hh ht
  rw [← hu] at HCU
  have HU := Lib.hid hu
  have HV := Lib.hid hv
  clear hu hv
  have d1 : decide (u < v) = false := by simpa using hf
  clear q
  go_enter Try.func66, Try.ntmps66
  go_wp2_with fail
  have hq0 : ∀ p : InC (Below w.heap.size w), p.w.cell? ⟨g, 0, none⟩ = some (.int .i64 n) := fun p => (p.ok.cell (hlt)).trans (c0)
  have hq1 : ∀ p : InC (Below w.heap.size w), p.w.cell? ⟨g, 1, none⟩ = some (.int .i64 h) := fun p => (p.ok.cell (hlt)).trans (c1)
  have hq2 : ∀ p : InC (Below w.heap.size w), p.w.cell? ⟨g, 2, none⟩ = some (.int .i64 t) := fun p => (p.ok.cell (hlt)).trans (c2)
  have HE : Hid (∀ p : InC (Below w.heap.size w), Calls Try.prog 53 #[.agg #[.int .i64 n, .int .i64 h, .int .i64 t], .int .i64 k] p.w fun e w' => e = .returned (.bool true) ∧ Below w.heap.size w w') :=
    Lib.hid fun p => (slot_yes n k h t p.w hk).mono fun e w' k => ⟨k.1, p.ok.trans (k.2.mono p.ok.size)⟩
  have HE2 : Hid (∀ p : InC (Below w.heap.size w), Calls Try.prog 54 #[.agg #[.int .i64 n, .int .i64 h, .int .i64 t], .int .i64 h, .int .i64 k] p.w fun e w' => e = .returned (.int .i64 v) ∧ Below w.heap.size w w') :=
    Lib.hid fun p => (HCV.out p.w).mono fun e w' k => ⟨k.1, p.ok.trans (k.2.mono p.ok.size)⟩
  have HE3 : Hid (∀ p : InC (Below w.heap.size w), Calls Try.prog 54 #[.agg #[.int .i64 n, .int .i64 h, .int .i64 t], .int .i64 h, .int .i64 t] p.w fun e w' => e = .returned (.int .i64 u) ∧ Below w.heap.size w w') :=
    Lib.hid fun p => (HCU.out p.w).mono fun e w' k => ⟨k.1, p.ok.trans (k.2.mono p.ok.size)⟩
  have hNE : Nonempty (InC (Below w.heap.size w)) := ⟨⟨w, Below.refl _ _⟩⟩
  clear c0 c1 c2
  refine wp_quiet_in (Below w.heap.size w) (Below.refl _ _).drew (by kernel_rfl) (by kernel_rfl) ?_
  repeat (go_big_quiet_step (first | (with_reducible exact calls_in (HE.out _)) | (with_reducible exact calls_in (HE2.out _)) | (with_reducible exact calls_in (HE3.out _))))
  refine wpQuiet_nil ?_
  intro _ hw'
  obtain ⟨p, hw''⟩ := hw'
  subst hw''
  have HQ4 := Lib.hid (HQ.out.below p.ok)
  have HP := Lib.hid p.ok
  generalize p.w = W4 at *
  clear hq0 hq1 hq2 hNE HE HE2 HE3
  have c1 := HQ4.out.c1
  have f1 := HQ4.out.row.frozen 1
  go_wp2_with fail
  go_ret
  exact ⟨rfl, (Keeps.of_below HP.out).set1 _ _, HQ4.out.set1 k hk⟩

end Go.Proofs.Ytpoeepdpoblfcaa
