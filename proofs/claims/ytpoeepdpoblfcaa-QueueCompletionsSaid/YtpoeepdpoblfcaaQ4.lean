/- queue: Fetcher's Waiting, Ring, Next. -/
import Derived.Test.YtpoeepdpoblfcaaQR
namespace Go.Proofs.Ytpoeepdpoblfcaa
open Go.RowKit

set_option maxRecDepth 100000 in
set_option maxHeartbeats 2000000 in
theorem fWaiting_ok (T m g n h t : Nat) (ph : Bool) (w : World) (q : QAt T m w g n h t ph) : Calls Try.prog 20 #[.pointer (some ⟨g, 0, none⟩)] w fun e w' => e = .returned (.int .i64 (usd n h t : Nat)) ∧ Below w.heap.size w w' := by
  have HS := Lib.hid (fSize_ok T m g n h t ph w q)
  have HQ := Lib.hid q
  have hn := q.n2
  have hn' := q.n4
  have hh := q.hh
  have ht := q.ht
  have d0 : ((n : Int) == 0) = false := by simp; omega
  clear q
  obtain ⟨u, hu⟩ : ∃ u, u = usd n h t := ⟨_, rfl⟩
  have HCU := Lib.hid fun w => used_ok n h t (h : Int) (t : Int) w hn hn' hh ht
  rw [← hu] at HCU
  rw [← hu]
  clear hu
  go_enter Try.func20, Try.ntmps20
  go_wp2_with fail
  refine HS.out.mono ?_
  rintro e w1 ⟨rfl, hb⟩
  have HQ1 := Lib.hid (HQ.out.below hb)
  have hlt := HQ1.out.lt
  have c0 := HQ1.out.c0
  have c1 := HQ1.out.c1
  have c2 := HQ1.out.c2
  have hs := hb.size
  have HB := Lib.hid hb
  clear hb
  go_wp2_with fail
  have hq0 : ∀ p : InC (Below w1.heap.size w1), p.w.cell? ⟨g, 0, none⟩ = some (.int .i64 n) := fun p => (p.ok.cell (hlt)).trans (c0)
  have hq1 : ∀ p : InC (Below w1.heap.size w1), p.w.cell? ⟨g, 1, none⟩ = some (.int .i64 h) := fun p => (p.ok.cell (hlt)).trans (c1)
  have hq2 : ∀ p : InC (Below w1.heap.size w1), p.w.cell? ⟨g, 2, none⟩ = some (.int .i64 t) := fun p => (p.ok.cell (hlt)).trans (c2)
  have HE : Hid (∀ p : InC (Below w1.heap.size w1), Calls Try.prog 54 #[.agg #[.int .i64 n, .int .i64 h, .int .i64 t], .int .i64 h, .int .i64 t] p.w fun e w' => e = .returned (.int .i64 u) ∧ Below w1.heap.size w1 w') :=
    Lib.hid fun p => (HCU.out p.w).mono fun e w' k => ⟨k.1, p.ok.trans (k.2.mono p.ok.size)⟩
  have hNE : Nonempty (InC (Below w1.heap.size w1)) := ⟨⟨w1, Below.refl _ _⟩⟩
  clear c0 c1 c2
  refine wp_quiet_in (Below w1.heap.size w1) (Below.refl _ _).drew (by kernel_rfl) (by kernel_rfl) ?_
  repeat (go_big_quiet_step (first | (with_reducible exact calls_in (HE.out _))))
  refine wpQuiet_nil ?_
  intro _ hw'
  obtain ⟨p, hw''⟩ := hw'
  subst hw''
  have HP := Lib.hid (HB.out.trans (p.ok.mono (by omega)))
  generalize p.w = W4 at *
  clear hq0 hq1 hq2 hNE HE
  go_wp2_with fail
  go_ret
  exact ⟨rfl, HP.out⟩

set_option maxRecDepth 100000 in
set_option maxHeartbeats 2000000 in
theorem fRing_no (T m g n h t : Nat) (ph : Bool) (k : Int) (w : World) (q : QAt T m w g n h t ph) (hk : k < 0 ∨ (n : Int) ≤ k) :
    Calls Try.prog 18 #[.pointer (some ⟨g, 0, none⟩), .int .i64 k] w fun e w' => e = .returned (.int .i64 3) ∧ Below w.heap.size w w' := by
  have HS := Lib.hid (fSize_ok T m g n h t ph w q)
  have HQ := Lib.hid q
  have hn := q.n2
  have hn' := q.n4
  have hh := q.hh
  have ht := q.ht
  have d0 : ((n : Int) == 0) = false := by simp; omega
  clear q
  have HK := Lib.hid hk
  clear hk
  go_enter Try.func18, Try.ntmps18
  go_wp2_with fail
  refine HS.out.mono ?_
  rintro e w1 ⟨rfl, hb⟩
  have HQ1 := Lib.hid (HQ.out.below hb)
  have hlt := HQ1.out.lt
  have c0 := HQ1.out.c0
  have c1 := HQ1.out.c1
  have c2 := HQ1.out.c2
  have hs := hb.size
  have HB := Lib.hid hb
  clear hb
  go_wp2_with fail
  have hq0 : ∀ p : InC (Below w1.heap.size w1), p.w.cell? ⟨g, 0, none⟩ = some (.int .i64 n) := fun p => (p.ok.cell (hlt)).trans (c0)
  have hq1 : ∀ p : InC (Below w1.heap.size w1), p.w.cell? ⟨g, 1, none⟩ = some (.int .i64 h) := fun p => (p.ok.cell (hlt)).trans (c1)
  have hq2 : ∀ p : InC (Below w1.heap.size w1), p.w.cell? ⟨g, 2, none⟩ = some (.int .i64 t) := fun p => (p.ok.cell (hlt)).trans (c2)
  have HE : Hid (∀ p : InC (Below w1.heap.size w1), Calls Try.prog 53 #[.agg #[.int .i64 n, .int .i64 h, .int .i64 t], .int .i64 k] p.w fun e w' => e = .returned (.bool false) ∧ Below w1.heap.size w1 w') :=
    Lib.hid fun p => (slot_no n k h t p.w HK.out).mono fun e w' k => ⟨k.1, p.ok.trans (k.2.mono p.ok.size)⟩
  have hNE : Nonempty (InC (Below w1.heap.size w1)) := ⟨⟨w1, Below.refl _ _⟩⟩
  clear c0 c1 c2
  refine wp_quiet_in (Below w1.heap.size w1) (Below.refl _ _).drew (by kernel_rfl) (by kernel_rfl) ?_
  repeat (go_big_quiet_step (first | (with_reducible exact calls_in (HE.out _))))
  refine wpQuiet_nil ?_
  intro _ hw'
  obtain ⟨p, hw''⟩ := hw'
  subst hw''
  have HQ4 := Lib.hid (HQ1.out.below p.ok)
  have HP := Lib.hid (HB.out.trans (p.ok.mono (by omega)))
  generalize p.w = W4 at *
  clear hq0 hq1 hq2 hNE HE
  go_wp2_with fail
  go_ret
  exact ⟨rfl, HP.out⟩

set_option maxRecDepth 100000 in
set_option maxHeartbeats 2000000 in
theorem fRing_far (T m g n h t : Nat) (ph : Bool) (k : Nat) (w : World) (q : QAt T m w g n h t ph) (hk : k < n) (hf : usd n h k < usd n h t) :
    Calls Try.prog 18 #[.pointer (some ⟨g, 0, none⟩), .int .i64 k] w fun e w' => e = .returned (.int .i64 3) ∧ Below w.heap.size w w' := by
  have HS := Lib.hid (fSize_ok T m g n h t ph w q)
  have HQ := Lib.hid q
  have hn := q.n2
  have hn' := q.n4
  have hh := q.hh
  have ht := q.ht
  have d0 : ((n : Int) == 0) = false := by simp; omega
  clear q
  obtain ⟨u, hu⟩ : ∃ u, u = usd n h t := ⟨_, rfl⟩
  obtain ⟨v, hv⟩ : ∃ v, v = usd n h k := ⟨_, rfl⟩
  rw [← hu, ← hv] at hf
  have HCV := Lib.hid fun w => used_ok n h k (h : Int) (t : Int) w hn hn' hh hk
  rw [← hv] at HCV
  have HCU := Lib.hid fun w => used_ok n h t (h : Int) (t : Int) w hn hn' hh ht
  rw [← hu] at HCU
  have HU := Lib.hid hu
  have HV := Lib.hid hv
  clear hu hv
  have d1 : decide (v < u) = true := by simpa using hf
  go_enter Try.func18, Try.ntmps18
  go_wp2_with fail
  refine HS.out.mono ?_
  rintro e w1 ⟨rfl, hb⟩
  have HQ1 := Lib.hid (HQ.out.below hb)
  have hlt := HQ1.out.lt
  have c0 := HQ1.out.c0
  have c1 := HQ1.out.c1
  have c2 := HQ1.out.c2
  have hs := hb.size
  have HB := Lib.hid hb
  clear hb
  go_wp2_with fail
  have hq0 : ∀ p : InC (Below w1.heap.size w1), p.w.cell? ⟨g, 0, none⟩ = some (.int .i64 n) := fun p => (p.ok.cell (hlt)).trans (c0)
  have hq1 : ∀ p : InC (Below w1.heap.size w1), p.w.cell? ⟨g, 1, none⟩ = some (.int .i64 h) := fun p => (p.ok.cell (hlt)).trans (c1)
  have hq2 : ∀ p : InC (Below w1.heap.size w1), p.w.cell? ⟨g, 2, none⟩ = some (.int .i64 t) := fun p => (p.ok.cell (hlt)).trans (c2)
  have HE : Hid (∀ p : InC (Below w1.heap.size w1), Calls Try.prog 53 #[.agg #[.int .i64 n, .int .i64 h, .int .i64 t], .int .i64 k] p.w fun e w' => e = .returned (.bool true) ∧ Below w1.heap.size w1 w') :=
    Lib.hid fun p => (slot_yes n k h t p.w hk).mono fun e w' k => ⟨k.1, p.ok.trans (k.2.mono p.ok.size)⟩
  have HE2 : Hid (∀ p : InC (Below w1.heap.size w1), Calls Try.prog 54 #[.agg #[.int .i64 n, .int .i64 h, .int .i64 t], .int .i64 h, .int .i64 k] p.w fun e w' => e = .returned (.int .i64 v) ∧ Below w1.heap.size w1 w') :=
    Lib.hid fun p => (HCV.out p.w).mono fun e w' k => ⟨k.1, p.ok.trans (k.2.mono p.ok.size)⟩
  have HE3 : Hid (∀ p : InC (Below w1.heap.size w1), Calls Try.prog 54 #[.agg #[.int .i64 n, .int .i64 h, .int .i64 t], .int .i64 h, .int .i64 t] p.w fun e w' => e = .returned (.int .i64 u) ∧ Below w1.heap.size w1 w') :=
    Lib.hid fun p => (HCU.out p.w).mono fun e w' k => ⟨k.1, p.ok.trans (k.2.mono p.ok.size)⟩
  have hNE : Nonempty (InC (Below w1.heap.size w1)) := ⟨⟨w1, Below.refl _ _⟩⟩
  clear c0 c1 c2
  refine wp_quiet_in (Below w1.heap.size w1) (Below.refl _ _).drew (by kernel_rfl) (by kernel_rfl) ?_
  repeat (go_big_quiet_step (first | (with_reducible exact calls_in (HE.out _)) | (with_reducible exact calls_in (HE2.out _)) | (with_reducible exact calls_in (HE3.out _))))
  refine wpQuiet_nil ?_
  intro _ hw'
  obtain ⟨p, hw''⟩ := hw'
  subst hw''
  have HQ4 := Lib.hid (HQ1.out.below p.ok)
  have HP := Lib.hid (HB.out.trans (p.ok.mono (by omega)))
  generalize p.w = W4 at *
  clear hq0 hq1 hq2 hNE HE HE2 HE3
  go_wp2_with fail
  go_ret
  exact ⟨rfl, HP.out⟩

set_option maxRecDepth 100000 in
set_option maxHeartbeats 2000000 in
theorem fRing_ok (T m g n h t : Nat) (ph : Bool) (k : Nat) (w : World) (q : QAt T m w g n h t ph) (hk : k < n) (hf : usd n h t ≤ usd n h k) :
    Calls Try.prog 18 #[.pointer (some ⟨g, 0, none⟩), .int .i64 k] w fun e w' => e = .returned (.int .i64 0) ∧ Keeps (One g) w w' ∧ QAt T m w' g n h k ph := by
  have HS := Lib.hid (fSize_ok T m g n h t ph w q)
  have HQ := Lib.hid q
  have hn := q.n2
  have hn' := q.n4
  have hh := q.hh
  have ht := q.ht
  have d0 : ((n : Int) == 0) = false := by simp; omega
  clear q
  obtain ⟨u, hu⟩ : ∃ u, u = usd n h t := ⟨_, rfl⟩
  obtain ⟨v, hv⟩ : ∃ v, v = usd n h k := ⟨_, rfl⟩
  rw [← hu, ← hv] at hf
  have HCV := Lib.hid fun w => used_ok n h k (h : Int) (t : Int) w hn hn' hh hk
  rw [← hv] at HCV
  have HCU := Lib.hid fun w => used_ok n h t (h : Int) (t : Int) w hn hn' hh ht
  rw [← hu] at HCU
  have HU := Lib.hid hu
  have HV := Lib.hid hv
  clear hu hv
  have d1 : decide (v < u) = false := by simpa using hf
  go_enter Try.func18, Try.ntmps18
  go_wp2_with fail
  refine HS.out.mono ?_
  rintro e w1 ⟨rfl, hb⟩
  have HQ1 := Lib.hid (HQ.out.below hb)
  have hlt := HQ1.out.lt
  have c0 := HQ1.out.c0
  have c1 := HQ1.out.c1
  have c2 := HQ1.out.c2
  have hs := hb.size
  have HB := Lib.hid hb
  clear hb
  go_wp2_with fail
  have hq0 : ∀ p : InC (Below w1.heap.size w1), p.w.cell? ⟨g, 0, none⟩ = some (.int .i64 n) := fun p => (p.ok.cell (hlt)).trans (c0)
  have hq1 : ∀ p : InC (Below w1.heap.size w1), p.w.cell? ⟨g, 1, none⟩ = some (.int .i64 h) := fun p => (p.ok.cell (hlt)).trans (c1)
  have hq2 : ∀ p : InC (Below w1.heap.size w1), p.w.cell? ⟨g, 2, none⟩ = some (.int .i64 t) := fun p => (p.ok.cell (hlt)).trans (c2)
  have HE : Hid (∀ p : InC (Below w1.heap.size w1), Calls Try.prog 53 #[.agg #[.int .i64 n, .int .i64 h, .int .i64 t], .int .i64 k] p.w fun e w' => e = .returned (.bool true) ∧ Below w1.heap.size w1 w') :=
    Lib.hid fun p => (slot_yes n k h t p.w hk).mono fun e w' k => ⟨k.1, p.ok.trans (k.2.mono p.ok.size)⟩
  have HE2 : Hid (∀ p : InC (Below w1.heap.size w1), Calls Try.prog 54 #[.agg #[.int .i64 n, .int .i64 h, .int .i64 t], .int .i64 h, .int .i64 k] p.w fun e w' => e = .returned (.int .i64 v) ∧ Below w1.heap.size w1 w') :=
    Lib.hid fun p => (HCV.out p.w).mono fun e w' k => ⟨k.1, p.ok.trans (k.2.mono p.ok.size)⟩
  have HE3 : Hid (∀ p : InC (Below w1.heap.size w1), Calls Try.prog 54 #[.agg #[.int .i64 n, .int .i64 h, .int .i64 t], .int .i64 h, .int .i64 t] p.w fun e w' => e = .returned (.int .i64 u) ∧ Below w1.heap.size w1 w') :=
    Lib.hid fun p => (HCU.out p.w).mono fun e w' k => ⟨k.1, p.ok.trans (k.2.mono p.ok.size)⟩
  have hNE : Nonempty (InC (Below w1.heap.size w1)) := ⟨⟨w1, Below.refl _ _⟩⟩
  clear c0 c1 c2
  refine wp_quiet_in (Below w1.heap.size w1) (Below.refl _ _).drew (by kernel_rfl) (by kernel_rfl) ?_
  repeat (go_big_quiet_step (first | (with_reducible exact calls_in (HE.out _)) | (with_reducible exact calls_in (HE2.out _)) | (with_reducible exact calls_in (HE3.out _))))
  refine wpQuiet_nil ?_
  intro _ hw'
  obtain ⟨p, hw''⟩ := hw'
  subst hw''
  have HQ4 := Lib.hid (HQ1.out.below p.ok)
  have HP := Lib.hid (HB.out.trans (p.ok.mono (by omega)))
  generalize p.w = W4 at *
  clear hq0 hq1 hq2 hNE HE HE2 HE3
  have c2 := HQ4.out.c2
  have f2 := HQ4.out.row.frozen 2
  go_wp2_with fail
  go_ret
  exact ⟨rfl, (Keeps.of_below HP.out).set1 _ _, HQ4.out.set2 k hk⟩

set_option maxRecDepth 100000 in
set_option maxHeartbeats 2000000 in
theorem fNext_none (T m g n h t : Nat) (ph : Bool) (w : World) (q : QAt T m w g n h t ph) (he : h = t) : Calls Try.prog 15 #[.pointer (some ⟨g, 0, none⟩)] w fun e w' => e = .returned (.tuple #[.int .i64 0, .int .i64 9]) ∧ Below w.heap.size w w' := by
  obtain ⟨u, hu⟩ : ∃ u, u = usd n h t := ⟨_, rfl⟩
  have hun := usd_lt q.hh q.ht
  rw [← hu] at hun
  have HS := Lib.hid (fSize_ok T m g n h t ph w q)
  have HQ := Lib.hid q
  have hn := q.n2
  have hn' := q.n4
  have hh := q.hh
  have ht := q.ht
  have d0 : ((n : Int) == 0) = false := by simp; omega
  clear q
  have d1 : ((u : Int) == 0) = true := by simp; exact (usd_zero hh ht).2 he ▸ hu
  clear he
  have HU := Lib.hid hu
  clear hu
  go_enter Try.func15, Try.ntmps15
  go_wp2_with fail
  refine HS.out.mono ?_
  rintro e w1 ⟨rfl, hb⟩
  have HQ1 := Lib.hid (HQ.out.below hb)
  have hlt := HQ1.out.lt
  have c0 := HQ1.out.c0
  have c1 := HQ1.out.c1
  have c2 := HQ1.out.c2
  have hs := hb.size
  have HB := Lib.hid hb
  clear hb
  go_wp2_with fail
  refine (fWaiting_ok T m g n h t ph w1 HQ1.out).mono ?_
  rintro e w2 ⟨rfl, hb2⟩
  rw [← HU.out]
  have HQ2 := Lib.hid (HQ1.out.below hb2)
  have b0 := HQ2.out.c0
  have b1 := HQ2.out.c1
  have b2 := HQ2.out.c2
  have HB2 := Lib.hid (HB.out.trans (hb2.mono hs))
  clear hb2 c0 c1 c2
  go_wp2_with fail
  go_ret2
  exact ⟨rfl, HB2.out⟩

set_option maxRecDepth 100000 in
set_option maxHeartbeats 2000000 in
theorem fNext_ok (T m g n h t : Nat) (ph : Bool) (w : World) (q : QAt T m w g n h t ph) (he : h ≠ t) : Calls Try.prog 15 #[.pointer (some ⟨g, 0, none⟩)] w fun e w' => e = .returned (.tuple #[.int .i64 h, .int .i64 0]) ∧ Keeps (One g) w w' ∧ QAt T m w' g n (nxt n h) t ph := by
  obtain ⟨u, hu⟩ : ∃ u, u = usd n h t := ⟨_, rfl⟩
  have hun := usd_lt q.hh q.ht
  rw [← hu] at hun
  have HS := Lib.hid (fSize_ok T m g n h t ph w q)
  have HQ := Lib.hid q
  have hn := q.n2
  have hn' := q.n4
  have hh := q.hh
  have ht := q.ht
  have d0 : ((n : Int) == 0) = false := by simp; omega
  clear q
  have d1 : ((u : Int) == 0) = false := by simp; intro e; exact he ((usd_zero hh ht).1 (hu ▸ e))
  clear he
  have HU := Lib.hid hu
  clear hu
  go_enter Try.func15, Try.ntmps15
  go_wp2_with fail
  refine HS.out.mono ?_
  rintro e w1 ⟨rfl, hb⟩
  have HQ1 := Lib.hid (HQ.out.below hb)
  have hlt := HQ1.out.lt
  have c0 := HQ1.out.c0
  have c1 := HQ1.out.c1
  have c2 := HQ1.out.c2
  have hs := hb.size
  have HB := Lib.hid hb
  clear hb
  go_wp2_with fail
  refine (fWaiting_ok T m g n h t ph w1 HQ1.out).mono ?_
  rintro e w2 ⟨rfl, hb2⟩
  rw [← HU.out]
  have HQ2 := Lib.hid (HQ1.out.below hb2)
  have b0 := HQ2.out.c0
  have b1 := HQ2.out.c1
  have b2 := HQ2.out.c2
  have HB2 := Lib.hid (HB.out.trans (hb2.mono hs))
  clear hb2 c0 c1 c2
  go_wp2_with fail
  refine (next_ok n h h t w2 hn hn' hh).mono ?_
  rintro e w3 ⟨rfl, hb3⟩
  have HQ3 := Lib.hid (HQ2.out.below hb3)
  have hs2 := HB2.out.size
  have HB3 := Lib.hid (HB2.out.trans (hb3.mono hs2))
  have hx := nxt_lt hh
  obtain ⟨x, hx'⟩ : ∃ x, x = nxt n h := ⟨_, rfl⟩
  rw [← hx'] at hx ⊢
  have HX := Lib.hid hx'
  clear hx'
  have e1 := HQ3.out.c1
  have f1 := HQ3.out.row.frozen 1
  clear hb3 b0 b1 b2
  go_wp2_with fail
  go_ret2
  exact ⟨rfl, (Keeps.of_below HB3.out).set1 _ _, by rw [← HX.out]; exact HQ3.out.set1 x hx⟩

end Go.Proofs.Ytpoeepdpoblfcaa
