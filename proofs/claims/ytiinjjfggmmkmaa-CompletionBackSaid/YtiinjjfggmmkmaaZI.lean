/- sort: slices.AppendSeq, slices.Collect of a map's keys; slices.Sorted. -/
import Derived.Test.YtiinjjfggmmkmaaZH
import Derived.Test.YtiinjjfggmmkmaaZG
import Derived.Deep.AppendLies
namespace Go.Proofs.Ytiinjjfggmmkmaa
set_option linter.unusedVariables false
set_option linter.unusedSimpArgs false
open Go.RowKit Go.Shelf
attribute [local go_sem] Oper.semAt_some

theorem elem_info : (Try.prog.info? 26).map (fun i => (i.zero, i.size, i.bytes)) = some (some (.int .u16 0), 1, 2) := by kernel_rfl
theorem Quiet.ownsRow {N : Nat} {A B : World} (h : Quiet N A B) {base : Nat} {e : TypeId} {size n : Nat} {v : Value} {xs : List Value} (hr : A.ownsRow base e size v n xs) : B.ownsRow base e size v n xs := by
  refine ⟨hr.1, ?_⟩
  rcases hr.2 with hn | ⟨g, cap, cur, h1, h2, h3, h4⟩
  · exact .inl hn
  · exact .inr ⟨g, cap, cur, h1, h2, h.cells _ _ _ _ h3, h4⟩
theorem own_cells {w : World} {base e size n : Nat} {v : Value} {xs : List Value} (h : w.ownsRow base e size v n xs) : ∀ (j : Nat) (o : Obj), v.ownBlock = some j → w.heap[j]? = some o → o.isCells = true := by
  intro j o hj ho
  rcases h.2 with ⟨rfl, _⟩ | ⟨g, cap, cur, rfl, _, hgb, _⟩
  · simp [Value.ownBlock] at hj
  · have : g = j := by simpa [Value.ownBlock] using hj
    subst this; rw [hgb] at ho; cases ho; rfl

theorem heap_setCell_box {W : World} {B : Nat} {v : Value} {t : TypeId} (v' : Value) (h : W.heap[B]? = some (.cells #[v] t (0, 0))) : (W.setCell ⟨B, 0, none⟩ v').heap[B]? = some (.cells #[v'] t (0, 0)) := by
  simp [World.setCell, Array.getElem?_modify, h]
theorem own_defer {W : World} {base e size n D : Nat} {v : Value} {xs : List Value} (h : W.ownsRow base e size v n xs) (hD : W.heap[D]? = some (.deferred (some []))) (o' : Obj) : (W.putObj D o').ownsRow base e size v n xs :=
  h.kept (grownBy_putObj' W D o') (.inr fun e => by have := own_cells h D _ e hD; cases this)
/-- What the box of AppendSeq holds when the numbers of pre have come. -/
def ApI (w : World) (pre : List Int) (W : World) : Prop :=
  ∃ v, W.heap[w.heap.size]? = some (.cells #[v] 68 (0, 0)) ∧ W.ownsRow (w.heap.size + 1) 26 1 v pre.length (pre.map (.int .u16)) ∧ Below w.heap.size w W
/-- What a slice of the call's own holds: zs. -/
def SeqOwn (w : World) (S : List Int → Prop) (e : Ending) (w' : World) : Prop :=
  ∃ (v : Value) (zs : List Int), e = .returned v ∧ S zs ∧ w'.ownsRow (w.heap.size + 1) 26 1 v zs.length (zs.map (.int .u16)) ∧ Below w.heap.size w w'

set_option maxRecDepth 100000 in
set_option maxHeartbeats 2000000 in
theorem appendSeq_any (c b clock : Nat) (es : Array MapEntry) (w : World) (hE : EsOk es clock) (hk : ∀ e ∈ es.toList, e.key = .int .u16 (zKey e)) (hc : w.cell? ⟨c, 0, none⟩ = some (.map (some b))) (hb : w.heap[b]? = some (.map es clock)) (hsz : es.size < 16777216) :
    Calls Try.prog 58 #[.slice none 0 0, .func (.func 45) #[] #[.pointer (some ⟨c, 0, none⟩)]] w (SeqOwn w (fun zs => zs.Perm (es.toList.map zKey))) := by
  obtain ⟨i0, hi, hz0, hz1, hz2⟩ := info_parts elem_info
  have HI := Lib.hid (And.intro hi (And.intro hz0 (And.intro hz1 hz2)))
  obtain ⟨W0, hW0⟩ : ∃ W0, W0 = w.alloc (.cells #[.slice none 0 0] 68) := ⟨_, rfl⟩
  have hs0 : W0.heap.size = w.heap.size + 1 := by rw [hW0]; simp
  have hb0 : Below w.heap.size w W0 := by rw [hW0]; exact (Below.refl _ _).alloc (Nat.le_refl _) _
  have hst := Lib.hid (keys1_stops 8 (by omega) c b clock es W0 hE hk ((hb0.cell (World.block_lt_of_cell? _ _ hc)).trans hc) ((hb0.block b (lt_of_block hb)).trans hb))
  have h00 : ApI w [] W0 := ⟨.slice none 0 0, by rw [hW0]; exact heap_alloc_new w _, World.ownsRow_nil _ _ _ _, hb0⟩
  have H00 := Lib.hid h00
  have HB0 := Lib.hid hb0
  clear hi hz0 hz1 hz2 hE hk hc hb hb0 h00
  refine calls_marks Try.func58 rfl ?_
  simp only [Try.ntmps58, List.size_toArray, List.length_cons, List.length_nil, Nat.reduceAdd, Nat.reduceSub, Array.replicate_succ, Array.replicate_zero, List.push_toArray, List.append_toArray, List.nil_append, List.cons_append]
  go_wp2_with fail
  rw [← hW0]
  clear hW0
  refine wp_range (gf := 45) (lb := #[.pointer (some ⟨c, 0, none⟩)]) rfl (enters_of Try.func45 (by kernel_rfl) rfl) hst.out
    (fun h k => h.trans k) (fun W l o o' _ h1 _ h3 => KeepsWalks.putObj _ h1 h3) (fun _ => rfl)
    (ApI w) (fun _ _ _ => False)
    (own_of fun s A B hs hq => by
      obtain ⟨v, h1, h2, h3⟩ := hs
      exact ⟨v, hq.cells _ _ _ _ h1, hq.ownsRow h2, hq.below h3 (by omega)⟩)
    (fun cd => own_of fun s A B hs hq => hs) H00.out
    (fun z a' W => a' = { tmps := #[.slice none 0 0, .func (.func 45) #[] #[.pointer (some ⟨c, 0, none⟩)], .pointer (some ⟨w.heap.size, 0, none⟩), undef, .slice none 0 0, .int .u16 z, .func (.func 45) #[] #[.pointer (some ⟨c, 0, none⟩)], .int .u16 z, undef, undef, undef, undef, undef], defers := [] })
    (fun x a' => own_of fun s A B hs hq => hs) ?assign ?body ?done (fun D cd pre W _ _ hx _ => hx.elim)
  case assign =>
    intro l pre x W K hI hK
    have HII := Lib.hid hI
    have HK := Lib.hid hK
    clear hI hK
    gi_wp2
    exact HK.out _ _ (KeepsFrom.refl _ _) (KeepsWalks.refl _) HII.out rfl
  case body =>
    rintro l pre x a' W hl hrec ⟨v, hbox, hrow, hbel⟩ rfl hlen
    have HR := Lib.hid hrow
    have HX := Lib.hid hbox
    have HBL := Lib.hid hbel
    have hbox1 : W.cell? ⟨w.heap.size, 0, none⟩ = some v := by simp [World.cell?, hbox]
    have hgs := HBL.out.size
    have hWs : w.heap.size < W.heap.size := lt_of_block hbox
    have hbn : v.ownBlock ≠ some w.heap.size := fun e => by have := (HR.out.lt _ e).1; omega
    have HBN := Lib.hid hbn
    obtain ⟨m, hm⟩ : ∃ m, m = pre.length := ⟨_, rfl⟩
    rw [← hm] at hlen
    have HM := Lib.hid hm
    clear hrec hbox hrow hbel hbn hm
    gi_wp2_with (first
      | (gi_at_builtin; refine wpListIn_append_own _ rfl _ _ 68 rfl (w.heap.size + 1) 26 i0 (.int .u16 0) 1 2 Try.underlying68 HI.out.1 HI.out.2.1 HI.out.2.2.1 HI.out.2.2.2 rfl (by decide) v pre.length (pre.map (.int .u16)) rfl (HR.out.alloc _) ⟨W.heap.size, 0, none⟩ 1 1 [.int .u16 x] rfl rfl (cell_one_new _ _ _) (by simp [Value.oneCell']) (by have := HM.out; unfold maxLen; omega) (by have := HM.out; omega) (by simp; omega) ?_; intro v' w3 hown' hg3 hnil3; have HO := Lib.hid hown'; have HG := Lib.hid hg3; clear hown' hg3 hnil3
         have hb3 : w3.heap[w.heap.size]? = some (.cells #[v] 68 (0, 0)) := (HG.out.block _ (by simp; omega) (fun e => HBN.out e.symm)).trans ((Below.heap_alloc _ _ _ hWs).trans HX.out)
         have hc3 : w3.cell? ⟨w.heap.size, 0, none⟩ = some v := by simp [World.cell?, hb3]
         have hf3 : w3.frozen? ⟨w.heap.size, 0, none⟩ = false := by simp [World.frozen?, hb3]
         obtain ⟨ao, cap, rfl⟩ : ∃ ao cap, v' = .slice ao (pre.length + 1) cap := by
           rcases HO.out.2 with ⟨_, h0⟩ | ⟨g, cap, cur, h1, _⟩
           · omega
           · exact ⟨_, _, h1⟩
         have HB3 := Lib.hid hb3
         clear hb3)
      | gi_in)
    have hne : ∀ k, (Value.slice ao (pre.length + 1) cap).ownBlock = some k → k ≠ w.heap.size := fun k e h => by have := (HO.out.lt k e).1; omega
    obtain ⟨w4, hw4⟩ : ∃ w4, w4 = w3.setCell ⟨w.heap.size, 0, none⟩ (.slice ao (pre.length + 1) cap) := ⟨_, rfl⟩
    rw [← hw4]
    have hk1 : KeepsOthers W (W.alloc (.cells #[.int .u16 x] 26)) := KeepsOthers.alloc _ _
    have hk2 := hk1.trans (KeepsOthers.of_grownBy HG.out (own_cells (HR.out.alloc _)))
    have hk3 : KeepsOthers W w4 := hk2.trans (by rw [hw4]; exact KeepsOthers.setCell _ _ _)
    have hg4 : w3.grownBy w4 (some w.heap.size) := by
      rw [hw4]
      exact ⟨rfl, rfl, rfl, by simp, fun j hj hn => Below.heap_setCell _ _ _ _ (fun e => hn (congrArg some e))⟩
    have hbel3 : Below w.heap.size w w3 := (HBL.out.alloc HBL.out.size _).grown HG.out (by simp; omega) (fun k e => by have := (HR.out.lt k e).1; omega)
    refine ⟨hk3.from _, hk3.walks, .slice ao (pre.length + 1) cap, ?_, ?_, hbel3.grown hg4 hbel3.size (fun k e => by cases e; exact Nat.le_refl _)⟩
    · rw [hw4]; exact heap_setCell_box _ HB3.out
    · rw [List.length_append, List.map_append]
      exact HO.out.kept hg4 (.inr (fun e => hne _ e rfl))
  case done =>
    rintro D xs W hD hS ⟨v, hbox, hrow, hbel⟩ hK
    have HS := Lib.hid hS
    have HR := Lib.hid hrow
    have HBL := Lib.hid hbel
    have hbox1 : W.cell? ⟨w.heap.size, 0, none⟩ = some v := by simp [World.cell?, hbox]
    have HKK := Lib.hid hK
    clear hS hrow hbel hK hbox
    go_wp2_with fail
    refine ⟨by simp, .inl ⟨_, _, rfl, run_takeDeferred HKK.out, ?_⟩⟩
    refine ⟨v, by simp [results, Try.f58, go_sem], v, xs, rfl, HS.out, own_defer HR.out HKK.out _, HBL.out.grown (grownBy_putObj' W D _) HBL.out.size (fun k e => by cases e; omega)⟩

set_option maxHeartbeats 1000000 in
theorem collect_any (c b clock : Nat) (es : Array MapEntry) (w : World) (hE : EsOk es clock) (hk : ∀ e ∈ es.toList, e.key = .int .u16 (zKey e)) (hc : w.cell? ⟨c, 0, none⟩ = some (.map (some b))) (hb : w.heap[b]? = some (.map es clock)) (hsz : es.size < 16777216) :
    Calls Try.prog 43 #[.func (.func 45) #[] #[.pointer (some ⟨c, 0, none⟩)]] w (SeqOwn w (fun zs => zs.Perm (es.toList.map zKey))) := by
  have H := Lib.hid (appendSeq_any c b clock es w hE hk hc hb hsz)
  clear hE hk hc hb
  go_enter Try.func43, Try.ntmps43
  go_wp2_with (go_at_call 58; refine H.out.mono ?_; rintro e w' ⟨v, zs, rfl, h1, h2, h3⟩; have H1 := Lib.hid h1; have H2 := Lib.hid h2; have H3 := Lib.hid h3; clear h1 h2 h3)
  go_ret
  exact ⟨_, zs, rfl, H1.out, H2.out, H3.out⟩

/-- Of a slice of numbers: each lies where it should. -/
def SlAt (w : World) (ao : Option Addr) (zs : List Int) : Prop := ∀ j (h : j < zs.length), ∃ g o, ao = some ⟨g, o, none⟩ ∧ w.cell? ⟨g, o + j, none⟩ = some (.int .u16 zs[j])
/-- What slices.Sorted leaves: a new slice: the numbers in order. -/
def SortedPost (w : World) (ks : List Int) (e : Ending) (w' : World) : Prop :=
  ∃ (ao : Option Addr) (cap : Nat) (zs : List Int), e = .returned (.slice ao zs.length cap) ∧ zs.Perm ks ∧ zs.Pairwise (· ≤ ·) ∧ SlAt w' ao zs ∧ (∀ g o, ao = some ⟨g, o, none⟩ → w.heap.size ≤ g ∧ g < w'.heap.size) ∧ Below w.heap.size w w'

theorem sorted_pairwise {d : Array Int} (h : Sort.SortedIn Sort.ltInt 0 d.size d) : d.toList.Pairwise (· ≤ ·) := by
  rw [List.pairwise_iff_getElem]
  intro i j hi hj hij
  have := h i j (Nat.zero_le _) hij (by simpa using hj)
  simp only [Array.length_toList] at hi hj
  rw [getElem!_pos d j hj, getElem!_pos d i hi] at this
  simpa [Sort.ltInt] using this
theorem perm_whole {d d' : Array Int} (h : Sort.PermIn 0 d.size d d') : d'.toList.Perm d.toList := by
  have := h.2.2
  rw [Array.extract_size] at this
  rw [← h.1, Array.extract_size] at this
  exact this
theorem map_zKey {es : Array MapEntry} : (es.toList.map zKey).length = es.size := by simp
end Go.Proofs.Ytiinjjfggmmkmaa
