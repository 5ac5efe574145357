/- prp: encoded: the eight bytes of an address. -/
import Derived.Test.YtfploifafpifnaaVA
import Derived.Laws.CopyOwn
namespace Go.Proofs.Ytfploifafpifnaa
set_option linter.unusedVariables false
set_option linter.unusedSimpArgs false
open Go.RowKit

def z8 : Array Value := #[.int .u8 0, .int .u8 0, .int .u8 0, .int .u8 0, .int .u8 0, .int .u8 0, .int .u8 0, .int .u8 0]
theorem zero8 (w : World) : (zeroValue 78).run Try.prog w = .ok (.agg z8) w := by kernel_rfl
theorem size8 : (Try.prog.info? 78).map (·.size) = some 8 := by kernel_rfl
theorem sizeU8 : (Try.prog.info? 5).map (·.size) = some 1 := by kernel_rfl
theorem ArrAt.of_block {W : World} {b : Nat} {A : Array Value} {T : TypeId} (h0 : 0 < A.size) (h : W.heap[b]? = some (.cells A T (0, 0))) : ArrAt W b A := by
  have h : W.rowIs b T A.size (fun j => A.getD j undef) := ⟨A, h, rfl, fun j hj => by
    simp only [Array.getD_eq_getD_getElem?]
    rw [Array.getElem?_eq_getElem hj]; rfl⟩
  refine ⟨fun j v hv => ?_, fun j hj => ?_, h0⟩
  · have hj : j < A.size := by simpa using (List.getElem?_eq_some_iff.1 hv).1
    rw [Nat.zero_add, World.rowIs.cell h hj]
    simp only [Array.getElem?_toList] at hv
    simp only [Array.getD_eq_getD_getElem?, hv]; rfl
  · rw [Nat.zero_add]
    exact ⟨by rw [World.rowIs.cell h hj]; rfl, World.rowIs.frozen h j⟩
def eA (v : Int) : Array Value := (bytesL v 8).toArray
theorem eA_size (v : Int) : (eA v).size = 8 := by simp [eA, bytesL]
set_option maxRecDepth 100000 in
set_option maxHeartbeats 2000000 in
theorem encoded_any (v : Int) (w : World) (h0 : 0 ≤ v) (h1 : v ≤ 18446744073709551615) :
    Calls Try.prog 31 #[.int .u64 v] w fun e w' => e = .returned (.agg (eA v)) ∧ Below w.heap.size w w' := by
  have hsz1 := sizeU8
  go_enter Try.func31, Try.ntmps31
  go_upto_region 1 with ((with_reducible show wpList _ _ _ (⟨some 2, _, _, _, _, _⟩ :: _) _ _); refine wpList_alloc rfl 78 rfl zero8 ?_; rw [show (Value.agg z8).cells = z8 from rfl])
  obtain ⟨W1, hW1⟩ : ∃ z, z = w.alloc (.cells z8 78) := ⟨_, rfl⟩
  rw [← hW1]
  have B1 := Lib.hid (show Below w.heap.size w W1 by rw [hW1]; exact (Below.refl _ _).alloc (Nat.le_refl _) _)
  have H1 := Lib.hid (show W1.heap[w.heap.size]? = some (.cells z8 78 (0, 0)) by rw [hW1]; exact heap_alloc_new w _)
  have hz : w.heap.size < W1.heap.size := by rw [hW1]; simp
  clear hW1
  go_upto_region 2 with (go_at_call 53; refine (wput_ok v 8 _ (by omega) (by omega) h0 h1 (.inl rfl)).mono ?_; rintro e w2 ⟨g, rfl, hg, hb, hr⟩; have H2 := Lib.hid ((hb.block w.heap.size hz).trans H1.out); have B2 := Lib.hid (B1.out.trans (hb.mono B1.out.size)); have HR := Lib.hid hr; clear hb hr)
  have hlen : (bytesL v 8).length = 8 := bytesL_length v 8
  have HSRC := Lib.hid (show ∀ j u, (bytesL v 8)[j]? = some u → w2.cell? ((⟨g, 0, none⟩ : Addr).add j) = some u from fun j u hj => by
    have hj8 : j < 8 := by have := (List.getElem?_eq_some_iff.1 hj).1; rw [hlen] at this; exact this
    rw [bytesL_get v 8 j hj8] at hj
    cases hj
    rw [Addr.add_mid, Nat.zero_add]
    exact HR.out.cell hj8)
  have HLEN := Lib.hid hlen
  clear hlen
  go_upto_region 3 with ((with_reducible show wpList _ _ _ (⟨some 12, _, _, _, _, _⟩ :: _) _ _); go_loud (refine wpList_copy_splice rfl (.tmp 10) (.tmp 11) 24 24 rfl 5 Try.underlying24 hsz1 _ _ _ _ _ _ rfl rfl w.heap.size 0 z8.toList 78 H2.out (bytesL v 8) (by rw [HLEN.out]; rfl) (fun _ => ⟨rfl, _, rfl, HSRC.out⟩) (by rw [HLEN.out]; decide) (bytesL_one v 8) w.heap.size w B2.out (Nat.le_refl _) ?_; intro w3 HG3 hb3))
  have A3 := Lib.hid (ArrAt.of_block (A := eA v) (by rw [eA_size]; omega) (show w3.heap[w.heap.size]? = some (.cells (eA v) 78 (0, 0)) by
    rw [HG3.out]
    have : splice z8.toList 0 (bytesL v 8) = bytesL v 8 := by
      unfold splice
      rw [List.take_zero, List.nil_append, HLEN.out]
      rfl
    rw [this]; rfl))
  have B3 := Lib.hid hb3
  have S8 := Lib.hid (show (Try.prog.info? 78).map (·.size) = some (eA v).size by rw [eA_size]; exact size8)
  have O8 := Lib.hid (show (eA v).all (·.oneCell') = true by unfold eA; simpa [List.all_eq_true] using bytesL_one v 8)
  obtain ⟨E, hE⟩ : ∃ z, z = eA v := ⟨_, rfl⟩
  rw [← hE] at A3 S8 O8
  have HE := Lib.hid hE
  have S8s := Lib.hid (show E.size = 8 by rw [hE]; exact eA_size v)
  clear hE HG3 hb3
  go_wp2_with (first
    | ((with_reducible show wpList _ _ _ (⟨some 13, _, _, _, _, _⟩ :: _) _ _); refine wpList_loadA rfl A3.out 78 (.tmp 2) rfl (by first | rfl | simp [Act.eval, Act.put]) Try.underlying78 rfl S8.out ?_)
    | ((with_reducible show wpList _ _ _ (⟨none, .store _ (.tmp 2) _, _, _, _, _⟩ :: _) _ _); refine wpList_storeA rfl (b := w.heap.size) (A := E) (A' := E) A3.out 78 (.tmp 2) (.tmp 13) rfl (by simp [Act.eval, Act.put]) (by simp [Act.eval, Act.put]) S8.out rfl O8.out ?_))
  exact bodyPost_ret (results_c rfl _ _ _ (A3.out.store E rfl) rfl Try.underlying78 rfl S8.out) rfl ⟨by rw [HE.out], bstore B3.out _ (Nat.le_refl _) _ _⟩
end Go.Proofs.Ytfploifafpifnaa
