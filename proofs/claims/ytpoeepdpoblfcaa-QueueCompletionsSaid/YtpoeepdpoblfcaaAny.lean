/- queue: the outcomes of all calls, in one contract each. -/
import Derived.Test.YtpoeepdpoblfcaaEq
namespace Go.Proofs.Ytpoeepdpoblfcaa
open Go.RowKit

/-! Push -/
def cmdE (c : Cmd) : Array Value := arr 64 fun j => .int .u8 (cmdB c j)
theorem cmdE_bytes (c : Cmd) : BytesA 64 (cmdE c) := ⟨_, rfl⟩
theorem z8_bytes : BytesA 64 (arr 64 z8) := ⟨fun _ => 0, rfl⟩
def psT (n h t : Nat) (c : Cmd) : Nat := if 2 < c.fused then t else if usd n h t = n - 1 then t else nxt n t
def psAt (n h t : Nat) (c : Cmd) : Nat := if 2 < c.fused then 0 else if usd n h t = n - 1 then 0 else t
def psEr (n h t : Nat) (c : Cmd) : Int := if 2 < c.fused then 2 else if usd n h t = n - 1 then 7 else 0
def psA (n h t : Nat) (c : Cmd) : Array Value := if 2 < c.fused then arr 64 z8 else if usd n h t = n - 1 then arr 64 z8 else cmdE c
theorem psA_bytes (n h t : Nat) (c : Cmd) : BytesA 64 (psA n h t c) := by
  unfold psA
  split
  · exact z8_bytes
  · split
    · exact z8_bytes
    · exact cmdE_bytes c
theorem psT_lt {n h t : Nat} (c : Cmd) (ht : t < n) : psT n h t c < n := by
  unfold psT
  split
  · exact ht
  · split
    · exact ht
    · exact nxt_lt ht

theorem sPush_any (T g n h t : Nat) (ph : Bool) (c : Cmd) (w : World) (q : QAt T 3 w g n h t ph) (hok : c.Ok) :
    Calls Try.prog 30 #[.pointer (some ⟨g, 0, none⟩), c.v] w fun e w' => e = .returned (.tuple #[.int .i64 (psAt n h t c), .agg (psA n h t c), .int .i64 (psEr n h t c)]) ∧ Keeps (One g) w w' ∧ QAt T 3 w' g n h (psT n h t c) ph := by
  unfold psAt psA psEr psT
  by_cases hf : 2 < c.fused
  · rw [if_pos hf, if_pos hf, if_pos hf, if_pos hf]
    refine (sPush_err T g n h t ph c.cells (arr 64 z8) w q rfl (arr_size _ _) z8_one (fun w => cencode_err c w hok hf)).mono ?_
    rintro e w' ⟨rfl, hb⟩
    exact ⟨rfl, Keeps.of_below hb, q.below hb⟩
  · rw [if_neg hf, if_neg hf, if_neg hf, if_neg hf]
    by_cases hu : usd n h t = n - 1
    · rw [if_pos hu, if_pos hu, if_pos hu, if_pos hu]
      refine (sPush_full T g n h t ph c.cells (cmdE c) w q rfl (arr_size _ _) (cmdE_bytes c).one (decide_eq_true hu) (fun w => cencode_any c w hok (by omega))).mono ?_
      rintro e w' ⟨rfl, hb⟩
      exact ⟨rfl, Keeps.of_below hb, q.below hb⟩
    · rw [if_neg hu, if_neg hu, if_neg hu, if_neg hu]
      exact sPush_ok T g n h t ph c.cells (cmdE c) w q rfl (arr_size _ _) (cmdE_bytes c).one (decide_eq_false hu) (fun w => cencode_any c w hok (by omega))

theorem rPush_any (n h t : Nat) (ph : Bool) (c : Cmd) (w : World) (hn : 2 ≤ n) (hn' : n ≤ 4096) (hh : h < n) (ht : t < n) (hok : c.Ok) :
    Calls Try.prog 34 #[.agg #[.int .i64 n, .int .i64 h, .int .i64 t, .bool ph], c.v] w fun e w' => e = .returned (.tuple #[.agg #[.int .i64 n, .int .i64 h, .int .i64 (psT n h t c), .bool ph], .int .i64 (psAt n h t c), .agg (psA n h t c), .int .i64 (psEr n h t c)]) ∧ Below w.heap.size w w' := by
  unfold psAt psA psEr psT
  by_cases hf : 2 < c.fused
  · rw [if_pos hf, if_pos hf, if_pos hf, if_pos hf]
    exact rPush_err n h t ph c.cells (arr 64 z8) w hn hn' hh ht rfl (arr_size _ _) z8_one (fun w => rcencode_err c w hok hf)
  · rw [if_neg hf, if_neg hf, if_neg hf, if_neg hf]
    by_cases hu : usd n h t = n - 1
    · rw [if_pos hu, if_pos hu, if_pos hu, if_pos hu]
      exact rPush_full n h t ph c.cells (cmdE c) w hn hn' hh ht rfl (arr_size _ _) (cmdE_bytes c).one (decide_eq_true hu) (fun w => rcencode_ok c w hok (by omega))
    · rw [if_neg hu, if_neg hu, if_neg hu, if_neg hu]
      exact rPush_ok n h t ph c.cells (cmdE c) w hn hn' hh ht rfl (arr_size _ _) (cmdE_bytes c).one (decide_eq_false hu) (fun w => rcencode_ok c w hok (by omega))

/-! Post -/
def Cpl.withPh (c : Cpl) (ph : Bool) : Cpl := { c with ph := ph }
theorem Cpl.withPh_ok {c : Cpl} (h : c.Ok) (ph : Bool) : (c.withPh ph).Ok := ⟨h.r0, h.r1, h.head, h.queue, h.id, h.ty, h.code⟩
theorem Cpl.withPh_cells (c : Cpl) (ph : Bool) : c.cells.setIfInBounds 5 (.bool ph) = (c.withPh ph).cells := rfl
def cplE (c : Cpl) : Array Value := arr 16 fun j => .int .u8 (cplB c j)
theorem cplE_bytes (c : Cpl) : BytesA 16 (cplE c) := ⟨_, rfl⟩
theorem z16_bytes : BytesA 16 (arr 16 z16) := ⟨fun _ => 0, rfl⟩
def ptT (n h t : Nat) (c : Cpl) : Nat := if 7 < c.ty then t else if usd n h t = n - 1 then t else nxt n t
def ptPh (n h t : Nat) (ph : Bool) (c : Cpl) : Bool := if 7 < c.ty then ph else if usd n h t = n - 1 then ph else (ph != decide (nxt n t = 0))
def ptAt (n h t : Nat) (c : Cpl) : Nat := if 7 < c.ty then 0 else if usd n h t = n - 1 then 0 else t
def ptEr (n h t : Nat) (c : Cpl) : Int := if 7 < c.ty then 2 else if usd n h t = n - 1 then 7 else 0
def ptA (n h t : Nat) (ph : Bool) (c : Cpl) : Array Value := if 7 < c.ty then arr 16 z16 else if usd n h t = n - 1 then arr 16 z16 else cplE (c.withPh ph)
theorem ptA_bytes (n h t : Nat) (ph : Bool) (c : Cpl) : BytesA 16 (ptA n h t ph c) := by
  unfold ptA
  split
  · exact z16_bytes
  · split
    · exact z16_bytes
    · exact cplE_bytes _
theorem ptT_lt {n h t : Nat} (c : Cpl) (ht : t < n) : ptT n h t c < n := by
  unfold ptT
  split
  · exact ht
  · split
    · exact ht
    · exact nxt_lt ht

theorem pPost_any (T g n h t : Nat) (ph : Bool) (c : Cpl) (w : World) (q : QAt T 4 w g n h t ph) (hok : c.Ok) :
    Calls Try.prog 38 #[.pointer (some ⟨g, 0, none⟩), c.v] w fun e w' => e = .returned (.tuple #[.int .i64 (ptAt n h t c), .agg (ptA n h t ph c), .int .i64 (ptEr n h t c)]) ∧ Keeps (One g) w w' ∧ QAt T 4 w' g n h (ptT n h t c) (ptPh n h t ph c) := by
  have hok' := Cpl.withPh_ok hok ph
  unfold ptAt ptA ptEr ptT ptPh
  by_cases hf : 7 < c.ty
  · rw [if_pos hf, if_pos hf, if_pos hf, if_pos hf, if_pos hf]
    refine (pPost_err T g n h t ph c.cells (arr 16 z16) w q rfl (arr_size _ _) z16_one (fun w => by rw [Cpl.withPh_cells]; exact pencode_err (c.withPh ph) w hf)).mono ?_
    rintro e w' ⟨rfl, hb⟩
    exact ⟨rfl, Keeps.of_below hb, q.below hb⟩
  · rw [if_neg hf, if_neg hf, if_neg hf, if_neg hf, if_neg hf]
    have hty : (c.withPh ph).ty ≤ 7 := by show c.ty ≤ 7; omega
    by_cases hu : usd n h t = n - 1
    · rw [if_pos hu, if_pos hu, if_pos hu, if_pos hu, if_pos hu]
      refine (pPost_full T g n h t ph c.cells (cplE (c.withPh ph)) w q rfl (arr_size _ _) (cplE_bytes _).one (decide_eq_true hu) (fun w => by rw [Cpl.withPh_cells]; exact pencode_ok (c.withPh ph) w hok' hty)).mono ?_
      rintro e w' ⟨rfl, hb⟩
      exact ⟨rfl, Keeps.of_below hb, q.below hb⟩
    · rw [if_neg hu, if_neg hu, if_neg hu, if_neg hu, if_neg hu]
      exact pPost_ok T g n h t ph c.cells (cplE (c.withPh ph)) w q rfl (arr_size _ _) (cplE_bytes _).one (decide_eq_false hu) (fun w => by rw [Cpl.withPh_cells]; exact pencode_ok (c.withPh ph) w hok' hty)

theorem rPost_any (n h t : Nat) (ph : Bool) (c : Cpl) (w : World) (hn : 2 ≤ n) (hn' : n ≤ 4096) (hh : h < n) (ht : t < n) (hok : c.Ok) :
    Calls Try.prog 39 #[.agg #[.int .i64 n, .int .i64 h, .int .i64 t, .bool ph], c.v] w fun e w' => e = .returned (.tuple #[.agg #[.int .i64 n, .int .i64 h, .int .i64 (ptT n h t c), .bool (ptPh n h t ph c)], .int .i64 (ptAt n h t c), .agg (ptA n h t ph c), .int .i64 (ptEr n h t c)]) ∧ Below w.heap.size w w' := by
  have hok' := Cpl.withPh_ok hok ph
  unfold ptAt ptA ptEr ptT ptPh
  by_cases hf : 7 < c.ty
  · rw [if_pos hf, if_pos hf, if_pos hf, if_pos hf, if_pos hf]
    exact rPost_err n h t ph c.cells (arr 16 z16) w hn hn' hh ht rfl (arr_size _ _) z16_one (fun w => by rw [Cpl.withPh_cells]; exact rpencode_err (c.withPh ph) w hf)
  · rw [if_neg hf, if_neg hf, if_neg hf, if_neg hf, if_neg hf]
    have hty : (c.withPh ph).ty ≤ 7 := by show c.ty ≤ 7; omega
    by_cases hu : usd n h t = n - 1
    · rw [if_pos hu, if_pos hu, if_pos hu, if_pos hu, if_pos hu]
      exact rPost_full n h t ph c.cells (cplE (c.withPh ph)) w hn hn' hh ht rfl (arr_size _ _) (cplE_bytes _).one (decide_eq_true hu) (fun w => by rw [Cpl.withPh_cells]; exact rpencode_ok (c.withPh ph) w hok' hty)
    · rw [if_neg hu, if_neg hu, if_neg hu, if_neg hu, if_neg hu]
      exact rPost_ok n h t ph c.cells (cplE (c.withPh ph)) w hn hn' hh ht rfl (arr_size _ _) (cplE_bytes _).one (decide_eq_false hu) (fun w => by rw [Cpl.withPh_cells]; exact rpencode_ok (c.withPh ph) w hok' hty)

/-! Poll -/
/-- is an entry well formed and of the phase? -/
def isNew (ph : Bool) (B : Nat → Int) : Bool := decide (B 15 / 16 % 4 = 0) && (dCpl B).ph == ph
def plH (n h : Nat) (ph : Bool) (B : Nat → Int) : Nat := if isNew ph B then nxt n h else h
def plPh (n h : Nat) (ph : Bool) (B : Nat → Int) : Bool := if isNew ph B then (ph != decide (nxt n h = 0)) else ph
def plC (ph : Bool) (B : Nat → Int) : Cpl := if isNew ph B then dCpl B else zCpl
def plEr (B : Nat → Int) : Int := if B 15 / 16 % 4 = 0 then 0 else 6
theorem zCpl_cells : zCpl.cells = cArr 0 0 := rfl
theorem Cpl.cells_one (c : Cpl) : c.cells.all (·.oneCell') = true := by simp [Cpl.cells, Value.oneCell']
theorem plH_lt {n h : Nat} (ph : Bool) (B : Nat → Int) (hh : h < n) : plH n h ph B < n := by
  unfold plH
  split
  · exact nxt_lt hh
  · exact hh
theorem lPoll_any (T g n h t : Nat) (ph : Bool) (B : Nat → Int) (w : World) (q : QAt T 4 w g n h t ph) (hB : ∀ j, 0 ≤ B j ∧ B j ≤ 255) :
    Calls Try.prog 24 #[.pointer (some ⟨g, 0, none⟩), arrB B] w fun e w' => e = .returned (.tuple #[(plC ph B).v, .bool (isNew ph B), .int .i64 (plEr B)]) ∧ Keeps (One g) w w' ∧ QAt T 4 w' g n (plH n h ph B) t (plPh n h ph B) := by
  unfold plC plH plPh plEr
  by_cases h1 : B 15 / 16 % 4 = 0
  · rw [if_pos h1]
    cases h2 : ((dCpl B).ph == ph)
    · have e : isNew ph B = false := by unfold isNew; rw [decide_eq_true h1, h2]; rfl
      rw [e]
      refine (poll_old T g n h t ph (dCpl B).ph (arr 16 fun j => .int .u8 (B j)) (dCpl B).cells w q (arr_size _ _) rfl (Cpl.cells_one _) rfl h2 (fun w => dec_ok B w hB h1)).mono ?_
      rintro e w' ⟨rfl, hb⟩
      exact ⟨rfl, Keeps.of_below hb, q.below hb⟩
    · have e : isNew ph B = true := by unfold isNew; rw [decide_eq_true h1, h2]; rfl
      rw [e]
      exact poll_new T g n h t ph (dCpl B).ph (arr 16 fun j => .int .u8 (B j)) (dCpl B).cells w q (arr_size _ _) rfl (Cpl.cells_one _) rfl h2 (fun w => dec_ok B w hB h1)
  · have e : isNew ph B = false := by unfold isNew; rw [decide_eq_false h1]; rfl
    rw [if_neg h1, e]
    refine (poll_err T g n h t ph false (arr 16 fun j => .int .u8 (B j)) zCpl.cells 6 w q (arr_size _ _) rfl (Cpl.cells_one _) rfl (by omega) (fun w => dec_bad B w hB h1)).mono ?_
    rintro e w' ⟨rfl, hb⟩
    exact ⟨rfl, Keeps.of_below hb, q.below hb⟩
theorem rPoll_any (n h t : Nat) (ph : Bool) (B : Nat → Int) (w : World) (hn : 2 ≤ n) (hn' : n ≤ 4096) (hh : h < n) (ht : t < n) (hB : ∀ j, 0 ≤ B j ∧ B j ≤ 255) :
    Calls Try.prog 25 #[.agg #[.int .i64 n, .int .i64 h, .int .i64 t, .bool ph], arrB B] w fun e w' => e = .returned (.tuple #[.agg #[.int .i64 n, .int .i64 (plH n h ph B), .int .i64 t, .bool (plPh n h ph B)], (plC ph B).v, .bool (isNew ph B), .int .i64 (plEr B)]) ∧ Below w.heap.size w w' := by
  unfold plC plH plPh plEr
  by_cases h1 : B 15 / 16 % 4 = 0
  · rw [if_pos h1]
    cases h2 : ((dCpl B).ph == ph)
    · have e : isNew ph B = false := by unfold isNew; rw [decide_eq_true h1, h2]; rfl
      rw [e]
      exact rpoll_old n h t ph (dCpl B).ph (arr 16 fun j => .int .u8 (B j)) (dCpl B).cells w hn hn' hh ht (arr_size _ _) rfl (Cpl.cells_one _) rfl h2 (fun w => rdec_ok B w hB h1)
    · have e : isNew ph B = true := by unfold isNew; rw [decide_eq_true h1, h2]; rfl
      rw [e]
      exact rpoll_new n h t ph (dCpl B).ph (arr 16 fun j => .int .u8 (B j)) (dCpl B).cells w hn hn' hh ht (arr_size _ _) rfl (Cpl.cells_one _) rfl h2 (fun w => rdec_ok B w hB h1)
  · have e : isNew ph B = false := by unfold isNew; rw [decide_eq_false h1]; rfl
    rw [if_neg h1, e]
    exact rpoll_err n h t ph false (arr 16 fun j => .int .u8 (B j)) zCpl.cells 6 w hn hn' hh ht (arr_size _ _) rfl (Cpl.cells_one _) rfl (by omega) (fun w => rdec_bad B w hB h1)

/-! Release, Ring, Next -/
def relOk (n h t : Nat) (k : Int) : Prop := 0 ≤ k ∧ k < n ∧ usd n h k.toNat ≤ usd n h t
instance (n h t : Nat) (k : Int) : Decidable (relOk n h t k) := by unfold relOk; infer_instance
def rlH (n h t : Nat) (k : Int) : Nat := if relOk n h t k then k.toNat else h
def rlEr (n h t : Nat) (k : Int) : Int := if relOk n h t k then 0 else 3
theorem rlH_lt {n h t : Nat} {k : Int} (hh : h < n) : rlH n h t k < n := by
  unfold rlH
  split
  · rename_i e; have := e.1; have := e.2.1; omega
  · exact hh
def rgOk (n h t : Nat) (k : Int) : Prop := 0 ≤ k ∧ k < n ∧ usd n h t ≤ usd n h k.toNat
instance (n h t : Nat) (k : Int) : Decidable (rgOk n h t k) := by unfold rgOk; infer_instance
def rgT (n h t : Nat) (k : Int) : Nat := if rgOk n h t k then k.toNat else t
def rgEr (n h t : Nat) (k : Int) : Int := if rgOk n h t k then 0 else 3
theorem rgT_lt {n h t : Nat} {k : Int} (ht : t < n) : rgT n h t k < n := by
  unfold rgT
  split
  · rename_i e; have := e.1; have := e.2.1; omega
  · exact ht
theorem sHead_any (T m g n h t : Nat) (ph : Bool) (k : Int) (w : World) (q : QAt T m w g n h t ph) :
    Calls Try.prog 33 #[.pointer (some ⟨g, 0, none⟩), .int .i64 k] w fun e w' => e = .returned (.int .i64 (rlEr n h t k)) ∧ Keeps (One g) w w' ∧ QAt T m w' g n (rlH n h t k) t ph := by
  unfold rlEr rlH
  by_cases h0 : 0 ≤ k ∧ k < n
  · obtain ⟨a, rfl⟩ := Int.eq_ofNat_of_zero_le h0.1
    have ha : a < n := by omega
    by_cases hu : usd n h a ≤ usd n h t
    · have e : relOk n h t (a : Int) := ⟨h0.1, h0.2, by rw [Int.toNat_natCast]; exact hu⟩
      rw [if_pos e, if_pos e, Int.toNat_natCast]
      exact sHead_ok T m g n h t ph a w q ha hu
    · have e : ¬ relOk n h t (a : Int) := fun x => hu (by have := x.2.2; rwa [Int.toNat_natCast] at this)
      rw [if_neg e, if_neg e]
      refine (sHead_far T m g n h t ph a w q ha (by omega)).mono ?_
      rintro e w' ⟨rfl, hb⟩
      exact ⟨rfl, Keeps.of_below hb, q.below hb⟩
  · have e : ¬ relOk n h t k := fun x => h0 ⟨x.1, x.2.1⟩
    rw [if_neg e, if_neg e]
    refine (sHead_no T m g n h t ph k w q (by omega)).mono ?_
    rintro e w' ⟨rfl, hb⟩
    exact ⟨rfl, Keeps.of_below hb, q.below hb⟩

theorem pRing_any (T m g n h t : Nat) (ph : Bool) (k : Int) (w : World) (q : QAt T m w g n h t ph) :
    Calls Try.prog 40 #[.pointer (some ⟨g, 0, none⟩), .int .i64 k] w fun e w' => e = .returned (.int .i64 (rlEr n h t k)) ∧ Keeps (One g) w w' ∧ QAt T m w' g n (rlH n h t k) t ph := by
  unfold rlEr rlH
  by_cases h0 : 0 ≤ k ∧ k < n
  · obtain ⟨a, rfl⟩ := Int.eq_ofNat_of_zero_le h0.1
    have ha : a < n := by omega
    by_cases hu : usd n h a ≤ usd n h t
    · have e : relOk n h t (a : Int) := ⟨h0.1, h0.2, by rw [Int.toNat_natCast]; exact hu⟩
      rw [if_pos e, if_pos e, Int.toNat_natCast]
      exact pRing_ok T m g n h t ph a w q ha hu
    · have e : ¬ relOk n h t (a : Int) := fun x => hu (by have := x.2.2; rwa [Int.toNat_natCast] at this)
      rw [if_neg e, if_neg e]
      refine (pRing_far T m g n h t ph a w q ha (by omega)).mono ?_
      rintro e w' ⟨rfl, hb⟩
      exact ⟨rfl, Keeps.of_below hb, q.below hb⟩
  · have e : ¬ relOk n h t k := fun x => h0 ⟨x.1, x.2.1⟩
    rw [if_neg e, if_neg e]
    refine (pRing_no T m g n h t ph k w q (by omega)).mono ?_
    rintro e w' ⟨rfl, hb⟩
    exact ⟨rfl, Keeps.of_below hb, q.below hb⟩

theorem fRing_any (T m g n h t : Nat) (ph : Bool) (k : Int) (w : World) (q : QAt T m w g n h t ph) :
    Calls Try.prog 18 #[.pointer (some ⟨g, 0, none⟩), .int .i64 k] w fun e w' => e = .returned (.int .i64 (rgEr n h t k)) ∧ Keeps (One g) w w' ∧ QAt T m w' g n h (rgT n h t k) ph := by
  unfold rgEr rgT
  by_cases h0 : 0 ≤ k ∧ k < n
  · obtain ⟨a, rfl⟩ := Int.eq_ofNat_of_zero_le h0.1
    have ha : a < n := by omega
    by_cases hu : usd n h t ≤ usd n h a
    · have e : rgOk n h t (a : Int) := ⟨h0.1, h0.2, by rw [Int.toNat_natCast]; exact hu⟩
      rw [if_pos e, if_pos e, Int.toNat_natCast]
      exact fRing_ok T m g n h t ph a w q ha hu
    · have e : ¬ rgOk n h t (a : Int) := fun x => hu (by have := x.2.2; rwa [Int.toNat_natCast] at this)
      rw [if_neg e, if_neg e]
      refine (fRing_far T m g n h t ph a w q ha (by omega)).mono ?_
      rintro e w' ⟨rfl, hb⟩
      exact ⟨rfl, Keeps.of_below hb, q.below hb⟩
  · have e : ¬ rgOk n h t k := fun x => h0 ⟨x.1, x.2.1⟩
    rw [if_neg e, if_neg e]
    refine (fRing_no T m g n h t ph k w q (by omega)).mono ?_
    rintro e w' ⟨rfl, hb⟩
    exact ⟨rfl, Keeps.of_below hb, q.below hb⟩

theorem rRelease_any (n h t : Nat) (ph : Bool) (k : Int) (w : World) (hn : 2 ≤ n) (hn' : n ≤ 4096) (hh : h < n) (ht : t < n) :
    Calls Try.prog 35 #[.agg #[.int .i64 n, .int .i64 h, .int .i64 t, .bool ph], .int .i64 k] w fun e w' => e = .returned (.tuple #[.agg #[.int .i64 n, .int .i64 (rlH n h t k), .int .i64 t, .bool ph], .int .i64 (rlEr n h t k)]) ∧ Below w.heap.size w w' := by
  unfold rlEr rlH
  by_cases h0 : 0 ≤ k ∧ k < n
  · obtain ⟨a, rfl⟩ := Int.eq_ofNat_of_zero_le h0.1
    have ha : a < n := by omega
    by_cases hu : usd n h a ≤ usd n h t
    · have e : relOk n h t (a : Int) := ⟨h0.1, h0.2, by rw [Int.toNat_natCast]; exact hu⟩
      rw [if_pos e, if_pos e, Int.toNat_natCast]
      exact rRelease_ok n h t ph a w hn hn' hh ht ha hu
    · have e : ¬ relOk n h t (a : Int) := fun x => hu (by have := x.2.2; rwa [Int.toNat_natCast] at this)
      rw [if_neg e, if_neg e]
      exact rRelease_far n h t ph a w hn hn' hh ht ha (by omega)
  · have e : ¬ relOk n h t k := fun x => h0 ⟨x.1, x.2.1⟩
    rw [if_neg e, if_neg e]
    exact rRelease_no n h t ph k w hn hn' hh ht (by omega)

theorem rRing_any (n h t : Nat) (ph : Bool) (k : Int) (w : World) (hn : 2 ≤ n) (hn' : n ≤ 4096) (hh : h < n) (ht : t < n) :
    Calls Try.prog 17 #[.agg #[.int .i64 n, .int .i64 h, .int .i64 t, .bool ph], .int .i64 k] w fun e w' => e = .returned (.tuple #[.agg #[.int .i64 n, .int .i64 h, .int .i64 (rgT n h t k), .bool ph], .int .i64 (rgEr n h t k)]) ∧ Below w.heap.size w w' := by
  unfold rgEr rgT
  by_cases h0 : 0 ≤ k ∧ k < n
  · obtain ⟨a, rfl⟩ := Int.eq_ofNat_of_zero_le h0.1
    have ha : a < n := by omega
    by_cases hu : usd n h t ≤ usd n h a
    · have e : rgOk n h t (a : Int) := ⟨h0.1, h0.2, by rw [Int.toNat_natCast]; exact hu⟩
      rw [if_pos e, if_pos e, Int.toNat_natCast]
      exact rRing_ok n h t ph a w hn hn' hh ht ha hu
    · have e : ¬ rgOk n h t (a : Int) := fun x => hu (by have := x.2.2; rwa [Int.toNat_natCast] at this)
      rw [if_neg e, if_neg e]
      exact rRing_far n h t ph a w hn hn' hh ht ha (by omega)
  · have e : ¬ rgOk n h t k := fun x => h0 ⟨x.1, x.2.1⟩
    rw [if_neg e, if_neg e]
    exact rRing_no n h t ph k w hn hn' hh ht (by omega)

def nxH (n h t : Nat) : Nat := if h = t then h else nxt n h
def nxAt (h t : Nat) : Nat := if h = t then 0 else h
def nxEr (h t : Nat) : Int := if h = t then 9 else 0
theorem nxH_lt {n h t : Nat} (hh : h < n) : nxH n h t < n := by
  unfold nxH
  split
  · exact hh
  · exact nxt_lt hh
theorem fNext_any (T m g n h t : Nat) (ph : Bool) (w : World) (q : QAt T m w g n h t ph) :
    Calls Try.prog 15 #[.pointer (some ⟨g, 0, none⟩)] w fun e w' => e = .returned (.tuple #[.int .i64 (nxAt h t), .int .i64 (nxEr h t)]) ∧ Keeps (One g) w w' ∧ QAt T m w' g n (nxH n h t) t ph := by
  unfold nxH nxAt nxEr
  by_cases e : h = t
  · rw [if_pos e, if_pos e, if_pos e]
    refine (fNext_none T m g n h t ph w q e).mono ?_
    rintro e w' ⟨rfl, hb⟩
    exact ⟨rfl, Keeps.of_below hb, q.below hb⟩
  · rw [if_neg e, if_neg e, if_neg e]
    exact fNext_ok T m g n h t ph w q e
theorem rNext_any (n h t : Nat) (ph : Bool) (w : World) (hn : 2 ≤ n) (hn' : n ≤ 4096) (hh : h < n) (ht : t < n) :
    Calls Try.prog 16 #[.agg #[.int .i64 n, .int .i64 h, .int .i64 t, .bool ph]] w fun e w' => e = .returned (.tuple #[.agg #[.int .i64 n, .int .i64 (nxH n h t), .int .i64 t, .bool ph], .int .i64 (nxAt h t), .int .i64 (nxEr h t)]) ∧ Below w.heap.size w w' := by
  unfold nxH nxAt nxEr
  by_cases e : h = t
  · rw [if_pos e, if_pos e, if_pos e]
    exact rNext_none n h t ph w hn hn' hh ht e
  · rw [if_neg e, if_neg e, if_neg e]
    exact rNext_ok n h t ph w hn hn' hh ht e
end Go.Proofs.Ytpoeepdpoblfcaa
