/- sgl: Spans: the kinds' functions, the door, one descriptor examined. -/
import Derived.Test.YtcljbmkdflkeeaaSR
import Derived.Test.YtcljbmkdflkeeaaMap
namespace Go.Proofs.Ytcljbmkdflkeeaa
set_option linter.unusedVariables false
set_option linter.unusedSimpArgs false
open Go.RowKit

def fnV (f : Nat) : Value := .func (.func f) #[] #[]
def kindEs : Array MapEntry := #[⟨.int .i64 1, fnV 58, 0⟩, ⟨.int .i64 5, fnV 58, 1⟩, ⟨.int .i64 2, fnV 59, 2⟩, ⟨.int .i64 3, fnV 60, 3⟩, ⟨.int .i64 4, fnV 60, 4⟩]
/-- What examining a descriptor leaves. -/
def ExPost (P : Nat → Prop) (wb : Nat) (m : Value) (th : Bool) (ex : Int) (W : World) : Except Int WSt → Ending → World → Prop
  | .error no, e, W' => e = .panicked [pan no] ∧ Keeps (fun k => ¬ P k) W W'
  | .ok s', e, W' => e = .returned (.tuple #[]) ∧ Keeps (fun k => ¬ P k) W W' ∧ Wlk P wb W' m th ex s'
/-- The function of a kind, and what it does. -/
theorem exam_fn (size : Nat) (f : Nat → Int) (b B : Nat) (L : List (Nat × Nat)) (th : Bool) (d : Dsc) (hv : Vld d) (hd : d.Ok) :
    ∃ i fk, Instr.findNow (.int .i64) (.int .i64 d.k) kindEs.toList 0 = some (some (i, fnV fk)) ∧ (∀ args w, (callFunc fk args).run Try.prog w = .ok (.enter fk args) w) ∧
      ∀ (P : Nat → Prop) (wb : Nat) (ex : Int) (s : WSt) (W : World), MemAt W b B size f L → Wlk P wb W (.pointer (some ⟨b, 0, none⟩)) th ex s → s.Ok size → s.left ≤ 1048576 →
        Calls Try.prog fk #[.pointer (some ⟨wb, 0, none⟩), .agg d.cells] W (ExPost P wb (.pointer (some ⟨b, 0, none⟩)) th ex W (exam size th d s)) := by
  obtain ⟨⟨k1, k5⟩, ⟨n0, n1⟩, -, -⟩ := hv
  have hblk : d.k ≠ 2 → d.k ≠ 3 → d.k ≠ 4 → ∀ (P : Nat → Prop) (wb : Nat) (ex : Int) (s : WSt) (W : World), MemAt W b B size f L → Wlk P wb W (.pointer (some ⟨b, 0, none⟩)) th ex s → s.Ok size → s.left ≤ 1048576 →
        Calls Try.prog 58 #[.pointer (some ⟨wb, 0, none⟩), .agg d.cells] W (ExPost P wb (.pointer (some ⟨b, 0, none⟩)) th ex W (exam size th d s)) := by
    intro h2 h3 h4 P wb ex s W hM h hs hl
    unfold exam
    rw [if_neg (by omega), if_neg h2]
    by_cases hk : chk size d.a d.n = 0
    · rw [if_neg (by omega)]
      exact block_ok P wb b B size f L th ex s d W hM h hd hk (by have := hs.l1; have := hs.l0; omega) hl
    · rw [if_pos hk]
      exact (block_bad wb b B size f L d W hM h.c0 hd _ rfl (beq_eq_false_iff_ne.2 hk)).mono fun e W' h => ⟨h.1, kN h.2⟩
  have hseg : (d.k = 3 ∨ d.k = 4) → ∀ (P : Nat → Prop) (wb : Nat) (ex : Int) (s : WSt) (W : World), MemAt W b B size f L → Wlk P wb W (.pointer (some ⟨b, 0, none⟩)) th ex s → s.Ok size → s.left ≤ 1048576 →
        Calls Try.prog 60 #[.pointer (some ⟨wb, 0, none⟩), .agg d.cells] W (ExPost P wb (.pointer (some ⟨b, 0, none⟩)) th ex W (exam size th d s)) := by
    intro h34 P wb ex s W hM h hs hl
    have hn1 := hd.n.2
    have hsm := hM.small
    unfold exam
    rw [if_pos h34]
    by_cases cA : 0 < d.n
    · have qA := decide_eq_true cA
      by_cases cB : d.n % 16 = 0
      · have qB : (d.n % 16 == 0) = true := beq_iff_eq.2 cB
        have done : ∀ (ho : s.ins = false ∨ (s.las = false ∧ s.at' = s.en)), Calls Try.prog 60 #[.pointer (some ⟨wb, 0, none⟩), .agg d.cells] W (ExPost P wb (.pointer (some ⟨b, 0, none⟩)) th ex W (if chk size d.a d.n ≠ 0 then .error (chk size d.a d.n) else .ok { s with ins := true, las := decide (d.k = 4), at' := d.a, en := d.a + d.n })) := by
          intro ho
          by_cases hk : chk size d.a d.n = 0
          · rw [if_neg (by omega)]
            have hes := chk_ok hk
            cases qC : s.ins
            · exact seg_first P wb b B size f L th ex s d W h hn1 qA qB cA qC hM hd hk (by omega)
            · have ho := ho.resolve_left (by rw [qC]; decide)
              exact seg_next P wb b B size f L th ex s d W h hn1 qA qB cA qC ho.1 (beq_iff_eq.2 ho.2) hM hd hk (by omega)
          · rw [if_pos hk]
            cases qC : s.ins
            · exact (seg_first_no P wb b B size f L th ex s d W h hn1 qA qB cA qC hM hd _ rfl (beq_eq_false_iff_ne.2 hk)).mono fun e W' h => ⟨h.1, kN h.2⟩
            · have ho := ho.resolve_left (by rw [qC]; decide)
              exact (seg_next_no P wb b B size f L th ex s d W h hn1 qA qB cA qC ho.1 (beq_iff_eq.2 ho.2) hM hd _ rfl (beq_eq_false_iff_ne.2 hk)).mono fun e W' h => ⟨h.1, kN h.2⟩
        by_cases ho : s.ins = false ∨ (s.las = false ∧ s.at' = s.en)
        · rw [if_neg (fun c => c ⟨cA, cB, ho⟩)]
          exact done ho
        · rw [if_pos (fun c => ho c.2.2)]
          have qC : s.ins = true := by cases e : s.ins with | true => rfl | false => exact absurd (.inl e) ho
          cases qD : s.las
          · exact (seg_mid P wb b B size f L th ex s d W h hn1 qA qB cA qC qD (beq_eq_false_iff_ne.2 (fun e => ho (.inr ⟨qD, e⟩)))).mono fun e W' h => ⟨h.1, kN h.2⟩
          · exact (seg_last P wb b B size f L th ex s d W h hn1 qA qB cA qC qD).mono fun e W' h => ⟨h.1, kN h.2⟩
      · rw [if_pos (fun c => cB c.2.1)]
        exact (seg_m P wb b B size f L th ex s d W h hn1 qA (beq_eq_false_iff_ne.2 cB) cA).mono fun e W' h => ⟨h.1, kN h.2⟩
    · rw [if_pos (fun c => cA c.1)]
      exact (seg_n P wb b B size f L th ex s d W h hn1 (decide_eq_false cA)).mono fun e W' h => ⟨h.1, kN h.2⟩
  have hk : d.k = 1 ∨ d.k = 2 ∨ d.k = 3 ∨ d.k = 4 ∨ d.k = 5 := by omega
  rcases hk with hk | hk | hk | hk | hk
  · exact ⟨0, 58, by rw [hk]; rfl, fun args w => by simp [go_sem], hblk (by omega) (by omega) (by omega)⟩
  · refine ⟨2, 59, by rw [hk]; rfl, fun args w => by simp [go_sem], fun P wb ex s W hM h hs hl => ?_⟩
    unfold exam
    rw [if_neg (by omega), if_pos hk]
    exact bucket_any P wb th ex s d W _ h hd (by have := hs.l1; have := hs.l0; omega) hl
  · exact ⟨3, 60, by rw [hk]; rfl, fun args w => by simp [go_sem], hseg (.inl hk)⟩
  · exact ⟨4, 60, by rw [hk]; rfl, fun args w => by simp [go_sem], hseg (.inr hk)⟩
  · exact ⟨1, 58, by rw [hk]; rfl, fun args w => by simp [go_sem], hblk (by omega) (by omega) (by omega)⟩

theorem spans_results (tmps : Array Value) (w : World) (ob eb : Nat) (v : Value) (x : Int) (h2 : tmps.getD 8 undef = .pointer (some ⟨ob, 0, none⟩)) (h3 : tmps.getD 9 undef = .pointer (some ⟨eb, 0, none⟩))
    (hf : w.cell? ⟨ob, 0, none⟩ = some v) (he : w.cell? ⟨eb, 0, none⟩ = some (.int .i64 x)) :
    (results Try.f32 tmps).run Try.prog w = .ok (.tuple #[v, .int .i64 x]) w := by
  have h2' : tmps[8]?.getD undef = .pointer (some ⟨ob, 0, none⟩) := by simpa using h2
  have h3' : tmps[9]?.getD undef = .pointer (some ⟨eb, 0, none⟩) := by simpa using h3
  simp [results, Try.results32, h2', h3', asAddr, go_sem, he, hf]
/-- the deferred call -/
def dfrS (ob eb : Nat) : Deferred := { target := .fn (.func 40) #[], args := #[.pointer (some ⟨eb, 0, none⟩), .func (.func 57) #[] #[.pointer (some ⟨ob, 0, none⟩)]] }
theorem spans_bad (tmps : Array Value) (w : World) (ob eb : Nat) (v : Value) (x no : Int) (R : Ending → World → Prop) (h2 : tmps.getD 8 undef = .pointer (some ⟨ob, 0, none⟩)) (h3 : tmps.getD 9 undef = .pointer (some ⟨eb, 0, none⟩))
    (hf : w.cell? ⟨ob, 0, none⟩ = some v) (hz : w.frozen? ⟨ob, 0, none⟩ = false) (he : w.cell? ⟨eb, 0, none⟩ = some (.int .i64 x)) (hz' : w.frozen? ⟨eb, 0, none⟩ = false) (hne : eb ≠ ob)
    (hR : ∀ w', Keeps (Two ob eb) w w' → R (.returned (.tuple #[.slice none 0 0, .int .i64 no])) w') :
    bodyPostD Try.prog Try.f32 R (Exit.panic [pan no]) { tmps := tmps, defers := [dfrS ob eb] } w := by
  show Leaves Try.prog Try.f32 tmps R [dfrS ob eb] (.panicking [pan no]) w
  refine leaves_cons (f := 40) (args := #[.pointer (some ⟨eb, 0, none⟩), .func (.func 57) #[] #[.pointer (some ⟨ob, 0, none⟩)]]) (by simp) (by simp [go_sem]) ?_
  refine (caught_panicking 57 ob eb _ _ x no w (clears_spans ob) ⟨⟨v, hf⟩, hz⟩ he hz' hne (fun a b h k => k.cell h (fun e => hne (Eq.symm e)))).mono ?_
  rintro e u' w'' ⟨rfl, rfl, hk, hc, hc2⟩
  show Leaves Try.prog Try.f32 tmps R [] .returning w''
  exact ⟨_, spans_results tmps w'' ob eb _ no h2 h3 hc hc2, hR w'' hk⟩
theorem spans_good (tmps : Array Value) (w : World) (ob eb : Nat) (v : Value) (x : Int) (R : Ending → World → Prop) (h2 : tmps.getD 8 undef = .pointer (some ⟨ob, 0, none⟩)) (h3 : tmps.getD 9 undef = .pointer (some ⟨eb, 0, none⟩))
    (hf : w.cell? ⟨ob, 0, none⟩ = some v) (he : w.cell? ⟨eb, 0, none⟩ = some (.int .i64 x)) (hR : R (.returned (.tuple #[v, .int .i64 x])) w) :
    bodyPostD Try.prog Try.f32 R Exit.ret { tmps := tmps, defers := [dfrS ob eb] } w := by
  show Leaves Try.prog Try.f32 tmps R [dfrS ob eb] .returning w
  refine leaves_cons (f := 40) (args := #[.pointer (some ⟨eb, 0, none⟩), .func (.func 57) #[] #[.pointer (some ⟨ob, 0, none⟩)]]) (by simp) (by simp [go_sem]) ?_
  refine (caught_idle _ _ w).mono ?_
  rintro e u' w'' ⟨rfl, rfl, rfl⟩
  show Leaves Try.prog Try.f32 tmps R [] .returning _
  exact ⟨_, spans_results tmps _ ob eb v x h2 h3 hf he, hR⟩
end Go.Proofs.Ytcljbmkdflkeeaa
