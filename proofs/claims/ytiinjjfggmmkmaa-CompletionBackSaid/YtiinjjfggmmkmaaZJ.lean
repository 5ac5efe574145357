/- sort: slices.Sorted of a map's keys. -/
import Derived.Test.YtiinjjfggmmkmaaZI
namespace Go.Proofs.Ytiinjjfggmmkmaa
set_option linter.unusedVariables false
set_option linter.unusedSimpArgs false
open Go.RowKit Go.Shelf
attribute [local go_sem] Oper.semAt_some

set_option maxHeartbeats 1000000 in
theorem insertion_nil (w : World) : Calls Try.prog 64 #[.slice none 0 0, .int .i64 0, .int .i64 0] w fun e w' => e = .returned (.tuple #[]) ∧ w' = w := by
  go_enter Try.func64, Try.ntmps64
  go_wp2_with fail
  refine wp_loop_rounds 1 ?_
  rw [rounds_succ]
  go_wp2_with fail
  go_end0
  exact ⟨rfl, rfl⟩
set_option maxRecDepth 100000 in
set_option maxHeartbeats 1000000 in
theorem pdq_nil (L : Nat) (w : World) : Calls Try.prog 59 #[.slice none 0 0, .int .i64 0, .int .i64 0, .int .i64 L] w fun e w' => e = .returned (.tuple #[]) ∧ w' = w := by
  have H := Lib.hid (insertion_nil w)
  go_enter Try.func59, Try.ntmps59
  go_wp2_with fail
  refine wp_loop_rounds 1 ?_
  rw [rounds_succ]
  go_wp2_with (go_at_call 64; refine H.out.mono ?_; rintro e w' ⟨rfl, rfl⟩)
  refine bodyPost_ret (results_none rfl _ _ _) rfl ?_
  exact ⟨rfl, rfl⟩
set_option maxHeartbeats 1000000 in
theorem sort_nil (w : World) : Calls Try.prog 44 #[.slice none 0 0] w fun e w' => e = .returned (.tuple #[]) ∧ w' = w := by
  have HL := Lib.hid (len_any 0 (by omega) w)
  have H := Lib.hid (fun L => pdq_nil L w)
  go_enter Try.func44, Try.ntmps44
  go_wp2_with (go_at_call 60; refine HL.out.mono ?_; rintro e w' ⟨⟨L, rfl, hL, -, -⟩, rfl⟩)
  refine (H.out L).mono ?_
  rintro e w' ⟨rfl, rfl⟩
  go_wp2_with fail
  go_end0
  exact ⟨rfl, rfl⟩

theorem rw_of_own {W : World} {base g cap : Nat} {zs : List Int} (h : W.ownsRow base 26 1 (.slice (some ⟨g, 0, none⟩) zs.length cap) zs.length (zs.map (.int .u16))) : Rw W W g 0 zs.toArray := by
  refine Rw.start fun j hj => ?_
  have hj' : j < zs.length := by simpa using hj
  rw [Nat.zero_add]
  refine ⟨?_, h.frozenAt j⟩
  rw [h.cellAt j (by omega)]
  simp [hj']

set_option maxHeartbeats 1000000 in
theorem sorted_any (c b clock : Nat) (es : Array MapEntry) (w : World) (hE : EsOk es clock) (hk : ∀ e ∈ es.toList, e.key = .int .u16 (zKey e)) (hc : w.cell? ⟨c, 0, none⟩ = some (.map (some b))) (hb : w.heap[b]? = some (.map es clock)) (hsz : es.size < 16777216) :
    Calls Try.prog 32 #[.func (.func 45) #[] #[.pointer (some ⟨c, 0, none⟩)]] w (SortedPost w (es.toList.map zKey)) := by
  have H := Lib.hid (collect_any c b clock es w hE hk hc hb hsz)
  have HN := Lib.hid sort_nil
  have HS := Lib.hid sort_any
  clear hE hk hc hb
  go_enter Try.func32, Try.ntmps32
  go_wp2_with (go_at_call 43; refine H.out.mono ?_; rintro e w1 ⟨v, zs, rfl, h1, h2, h3⟩; have H1 := Lib.hid h1; have H2 := Lib.hid h2; have H3 := Lib.hid h3; clear h1 h2 h3)
  rcases H2.out.2 with ⟨rfl, h0⟩ | ⟨g, cap, cur, rfl, hbase, hcur, hrest⟩
  · have hz : zs = [] := List.eq_nil_of_length_eq_zero h0
    subst hz
    refine (HN.out w1).mono ?_
    rintro e w2 ⟨rfl, rfl⟩
    go_wp2_with fail
    go_ret
    exact ⟨none, 0, [], rfl, H1.out, List.Pairwise.nil, (fun j h => absurd h (by simp)), (fun g o e => by cases e), H3.out⟩
  · have hlen : zs.length < 16777216 := by have := H1.out.length_eq; rw [map_zKey] at this; omega
    have hR := rw_of_own H2.out
    have hg : g < w1.heap.size := lt_of_block hcur
    have hS := sort_any g 0 cap zs.length zs.toArray w1 hR (by simp) hlen
    have HSS := Lib.hid hS
    clear hS hR hcur hrest
    refine HSS.out.mono ?_
    rintro e w2 ⟨rfl, d', ⟨hp, hs⟩, hr⟩
    have hl : d'.size = zs.length := by have := hp.1; simpa using this
    have HP := Lib.hid hp
    have HSO := Lib.hid hs
    have HR := Lib.hid hr
    have HLL := Lib.hid hl
    clear hp hs hr hl
    go_wp2_with fail
    go_ret
    have hl := HLL.out
    have hp := HP.out
    have hs := HSO.out
    have hk := HR.out.keeps
    have hpl : d'.toList.Perm zs := by have := perm_whole hp; simpa using this
    have hle : zs.length = d'.toList.length := ((Array.length_toList (xs := d')).trans hl).symm
    refine ⟨some ⟨g, 0, none⟩, cap, d'.toList, (show Ending.returned (.slice (some ⟨g, 0, none⟩) zs.length cap) = _ from congrArg (fun k => Ending.returned (.slice (some ⟨g, 0, none⟩) k cap)) hle), hpl.trans H1.out, sorted_pairwise (by rw [hl]; simpa using hs), fun j hj => ⟨g, 0, rfl, ?_⟩, ?_, ?_⟩
    · have hj' : j < d'.size := by simpa using hj
      have := (HR.out.row j hj').1
      rw [this, getElem!_pos d' j hj']
      simp
    · rintro g' o' e
      cases e
      have := hk.size
      omega
    · exact ⟨hk.os.trans H3.out.os, hk.tape.trans H3.out.tape, hk.output.trans H3.out.output, Nat.le_trans H3.out.size hk.size, fun i hi => (hk.block i (Nat.lt_of_lt_of_le hi H3.out.size) (fun e => by have e : i = g := e; omega)).trans (H3.out.block i hi)⟩
end Go.Proofs.Ytiinjjfggmmkmaa
