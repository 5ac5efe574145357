/- memory: a memory is in the state of the specification's. -/
import Derived.Test.YtobbnfdflogicaaS4
namespace Go.Proofs.Ytobbnfdflogicaa
open Go.RowKit

set_option maxRecDepth 100000 in
set_option maxHeartbeats 2000000 in
theorem is_any (S : Nat → Prop) (b B : Nat) (v : Value) (n : Nat) (f : Nat → Int) (L : List (Nat × Nat)) (many : Int) (w : World) (hM : MemAt w b B n f L) (hR : RefAt S w v n f L) (hL : L.length ≤ 255)
    (h1 : -9223372036854775808 ≤ many) (h2 : many ≤ 9223372036854775807) :
   Calls Try.prog 22 #[.pointer (some ⟨b, 0, none⟩), v, .int .i64 many] w fun e w' => e = .returned (.bool true) ∧ Below w.heap.size w w' := by
  obtain ⟨ao, c, al, cl, rfl, h2', h3, h4, h5, h6, h7, h8⟩ := hR
  have hsm := hM.small
  have H6 := Lib.hid h6
  have H7 := Lib.hid h7
  have H8 := Lib.hid h8
  have HM := Lib.hid hM
  clear h6 h7 h8 hM
  go_enter Try.func22, Try.ntmps22
  go_wp2_with fail
  obtain ⟨w1, hw1⟩ : ∃ w1, w1 = w.alloc (.cells #[.slice (some ao) n c, .slice al L.length cl] 52) := ⟨_, rfl⟩
  rw [← hw1]
  have hb1 : Below w.heap.size w w1 := by rw [hw1]; exact (Below.refl _ w).alloc (Nat.le_refl _) _
  have c0 : w1.cell? ⟨w.heap.size, 0, none⟩ = some (.slice (some ao) n c) := by rw [hw1]; go_simp
  have c1 : w1.cell? ⟨w.heap.size, 1, none⟩ = some (.slice al L.length cl) := by rw [hw1]; go_simp
  have hs1 : w.heap.size < w1.heap.size := by rw [hw1]; simp
  clear hw1
  refine (rlog_any (.slice (some ao) n c) al L.length cl w1 hL h4 h5 H6.out).mono ?_
  rintro e w2 ⟨rfl, hb2⟩
  go_wp2_with fail
  have hM2 := Lib.hid ((HM.out.below hb1).below hb2)
  have d0 : w2.cell? ⟨w.heap.size, 0, none⟩ = some (.slice (some ao) n c) := (hb2.cell (p := ⟨w.heap.size, 0, none⟩) hs1).trans c0
  have hB2 : Below w.heap.size w w2 := hb1.trans (hb2.mono hb1.size)
  have H72 := Lib.hid (H7.out.kept (Keeps.of_below (S := fun _ => False) hB2) (fun _ h => h.elim))
  have H82 := Lib.hid (H8.out.kept (Keeps.of_below (S := fun _ => False) hB2) (fun _ h => h.elim))
  have HB2 := Lib.hid hB2
  clear hb1 hb2 c0 c1 hs1 hB2
  have hQ1 : ∀ p : InC (Below w2.heap.size w2), p.w.cell? ⟨w.heap.size, 0, none⟩ = some (.slice (some ao) n c) := fun p => (p.ok.cell (World.block_lt_of_cell? _ _ d0)).trans d0
  have hQ2 : ∀ p : InC (Below w2.heap.size w2), (convert 33 9 (.slice (some ao) n c)).run Try.prog p.w = .ok (.string (strOf n f)) p.w := fun p => conv_str _ _ _ _ _ (fun j hj => by
    obtain ⟨g, o, e, -, hx⟩ := H72.out.at' (by omega)
    simp only [Option.some.injEq] at e
    subst e
    rw [Addr.add_mid]
    exact (p.ok.cell (World.block_lt_of_cell? _ _ (hx j hj))).trans (hx j hj))
  have HS : Hid (∀ p : InC (Below w2.heap.size w2), Calls Try.prog 17 #[.pointer (some ⟨b, 0, none⟩)] p.w fun e w' => e = .returned (.int .i64 n) ∧ Below w2.heap.size w2 w') := by
    refine Lib.hid fun p => (size_is b B n f L n p.w (hM2.out.below p.ok) rfl).mono ?_
    rintro e w' ⟨rfl, rfl⟩
    exact ⟨rfl, p.ok⟩
  have HRd : Hid (∀ p : InC (Below w2.heap.size w2), Calls Try.prog 25 #[.pointer (some ⟨b, 0, none⟩), .int .u64 0, .int .i64 n, .string (strOf n f), .int .i64 0] p.w fun e w' => e = .returned (.bool true) ∧ Below w2.heap.size w2 w') := by
    refine Lib.hid fun p => (reads_ok b B n f L 0 n (strOf n f) p.w (hM2.out.below p.ok) (by omega) (strOf_congr fun i _ => by rw [Nat.zero_add])).mono ?_
    rintro e w' ⟨rfl, hb⟩
    exact ⟨rfl, p.ok.trans (hb.mono p.ok.size)⟩
  have HL : Hid (∀ p : InC (Below w2.heap.size w2), Calls Try.prog 14 #[.pointer (some ⟨b, 0, none⟩), .int .i64 0, .slice al L.length cl, .int .i64 many] p.w fun e w' => e = .returned (.bool true) ∧ Below w2.heap.size w2 w') := by
    have hsp : SpanSrc w2 al L := H82.out.src
    refine Lib.hid fun p => (logs_mem b B n f L al cl 0 L.length many p.w (hM2.out.below p.ok) (by omega) h1 h2 (by omega) rfl ((hsp.of (fun q v hq => (p.ok.cell (World.block_lt_of_cell? _ _ hq)).trans hq)))).mono ?_
    rintro e w' ⟨rfl, hb⟩
    exact ⟨rfl, p.ok.trans (hb.mono p.ok.size)⟩
  have hne : Nonempty (InC (Below w2.heap.size w2)) := ⟨⟨w2, Below.refl _ _⟩⟩
  refine wp_quiet_in (Below w2.heap.size w2) (Below.refl _ _).drew (by kernel_rfl) (by kernel_rfl) ?_
  repeat (go_big_quiet_step (first | (with_reducible exact calls_in (HS.out _)) | (with_reducible exact calls_in (HRd.out _)) | (with_reducible exact calls_in (HL.out _))))
  refine wpQuiet_nil ?_
  intro _ hw'
  obtain ⟨p, hw''⟩ := hw'
  subst hw''
  go_wp2_with fail
  go_ret
  exact ⟨rfl, HB2.out.trans (p.ok.mono HB2.out.size)⟩
end Go.Proofs.Ytobbnfdflogicaa
