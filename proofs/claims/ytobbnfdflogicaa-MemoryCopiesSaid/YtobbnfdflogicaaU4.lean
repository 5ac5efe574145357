/- memory: act, whatever the call is. -/
import Derived.Test.YtobbnfdflogicaaU2
import Derived.Test.YtobbnfdflogicaaU3
namespace Go.Proofs.Ytobbnfdflogicaa
open Go.RowKit

theorem act_any (S : Nat → Prop) (b B : Nat) (v : Value) (n : Nat) (f : Nat → Int) (L : List (Nat × Nat)) (what k addr : Int) (xo : Option Addr) (xl xc : Nat) (val : Int) (w : World) (hM : MemAt w b B n f L) (hR : RefAt S w v n f L) (hSb : S b) (hSB : S B) (hS : ∀ j, S j → j < w.heap.size)
    (ha : 0 ≤ addr) (ha' : addr ≤ 18446744073709551615) (hk : -9223372036854775808 ≤ k) (hk' : k ≤ 9223372036854775807) (hL : L.length ≤ 999) (s : Nat → Int) (hs : Src S w xo xl s) (hxl : xl ≤ 5000) (hx : xo = none → xl = 0 ∧ xc = 0) :
   Calls Try.prog 21 #[.pointer (some ⟨b, 0, none⟩), v, .agg (actCells what k addr xo xl xc val).toArray] w (ActPost S b B n L w) := by
  by_cases h0 : what = 0
  · subst h0
    cases xo with
    | none => exact act_write0_none S b B v n f L k addr none xl xc val w hM hR hSb hSB hS ha ha' hL s hs hxl ⟨rfl, hx rfl⟩
    | some a => exact act_write0_some S b B v n f L k addr (some a) xl xc val w hM hR hSb hSB hS ha ha' hL s hs hxl ⟨a, rfl⟩
  by_cases h1 : what = 1
  · subst h1
    cases xo with
    | none => exact act_write1_none S b B v n f L k addr none xl xc val w hM hR hSb hSB hS ha ha' hL s hs hxl ⟨rfl, hx rfl⟩
    | some a => exact act_write1_some S b B v n f L k addr (some a) xl xc val w hM hR hSb hSB hS ha ha' hL s hs hxl ⟨a, rfl⟩
  by_cases h2 : what = 2
  · subst h2
    exact act_fill S b B v n f L k addr xo xl xc val w hM hR hSb hSB hS ha ha' hk hk' hL
  by_cases h3 : what = 3
  · subst h3
    by_cases hc : chk n addr k = 0
    · exact act_read3_ok S b B v n f L k addr xo xl xc val w hM hR hSb hSB hS ha ha' hk hk' hL hc
    · exact act_read3_err S b B v n f L k addr xo xl xc val w hM hR hSb hSB hS ha ha' hk hk' hL (by simpa using hc)
  by_cases h4 : what = 4
  · subst h4
    by_cases hc : chk n addr k = 0
    · exact act_read4_ok S b B v n f L k addr xo xl xc val w hM hR hSb hSB hS ha ha' hk hk' hL hc
    · exact act_read4_err S b B v n f L k addr xo xl xc val w hM hR hSb hSB hS ha ha' hk hk' hL (by simpa using hc)
  by_cases h5 : what = 5
  · subst h5
    exact act_clear S b B v n f L k addr xo xl xc val w hM hR hSb hSB hS
  by_cases h6 : what = 6
  · subst h6
    exact act_check S b B v n f L k addr xo xl xc val w hM hR hSb hSB hS ha ha' hk hk' hL
  exact act_copy S b B v n f L k addr xo xl xc val w hM hR hSb hSB hS what (by simpa using h0) (by simpa using h1) (by simpa using h2) (by simpa using h3) (by simpa using h4) (by simpa using h5) (by simpa using h6)
end Go.Proofs.Ytobbnfdflogicaa
