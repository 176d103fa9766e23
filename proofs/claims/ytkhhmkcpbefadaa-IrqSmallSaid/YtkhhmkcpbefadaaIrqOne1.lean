/- A deed on both boards, any. Conditions: both are known, and agree; the levels' cells are known. -/
import Derived.Test.YtkhhmkcpbefadaaIrqOne1L
import Derived.Test.YtkhhmkcpbefadaaIrqOne1Z
import Derived.Test.YtkhhmkcpbefadaaIrqOne1A
import Derived.Test.YtkhhmkcpbefadaaIrqOne1B
import Derived.Test.YtkhhmkcpbefadaaIrqOne1C
import Derived.Test.YtkhhmkcpbefadaaIrqOne1D
import Derived.Test.YtkhhmkcpbefadaaIrqOne1E
import Derived.Test.YtkhhmkcpbefadaaIrqOne1F
namespace Go.Proofs.Ytkhhmkcpbefadaa
open Go.RowKit
theorem one1_is {w W : World} {pc b r c q : Nat} {p : List WR × WS} {f : Nat → Bool} (hh nn kk : Int) (LA : Option Addr) (ln lc : Nat) (LV : Nat → Bool) (hn : p.1.length ≤ 1000) (hln : ln ≤ 400) (hLV : BoolsAt w LA ln LV) (h : DS w W pc b r c q p f) :
    Calls Try.prog 26 #[.pointer (some ⟨pc, 0, none⟩), .pointer (some ⟨c, 0, none⟩), .agg #[.int .i64 hh, .int .i64 nn, .int .i64 kk, .slice LA ln lc]] W fun e w' => e = .returned (.bool true) ∧ ∃ b' r' p' f', p'.1.length = p.1.length ∧ DS w w' pc b' r' c q p' f' := by
  have hr : hh % 7 = 0 ∨ hh % 7 = 1 ∨ hh % 7 = 2 ∨ hh % 7 = 3 ∨ hh % 7 = 4 ∨ hh % 7 = 5 ∨ hh % 7 = 6 := by omega
  obtain ⟨m, hm, hm8⟩ := byte_of nn
  rcases hr with h6 | h6 | h6 | h6 | h6 | h6 | h6
  · exact one1_look hh nn kk LA ln lc LV hln hLV h6 h
  · exact one1_own hh nn kk LA ln lc h6 h
  · exact one1_drop hh nn kk LA ln lc h6 h
  · exact one1_route hh nn kk LA ln lc h6 h
  · by_cases hk : badW kk
    · exact one1_maskbad hh nn kk LA ln lc hk hm h6 h
    · obtain ⟨k, rfl, hk8⟩ := good_nat hk
      exact one1_mask hh nn LA ln lc hk8 hm hm8 h6 h
  · by_cases hk : badW kk
    · exact one1_callbad hh nn kk LA ln lc hk h6 h
    · obtain ⟨k, rfl, hk8⟩ := good_nat hk
      exact one1_call hh nn LA ln lc hk8 h6 h
  · exact one1_copy hh nn kk LA ln lc hn h6 h
end Go.Proofs.Ytkhhmkcpbefadaa
