/- IrqApart's deed, as a block of the function. No condition. -/
import Derived.Test.YtkhhmkcpbefadaaIrqPair
import Derived.Deep.RegionWith
namespace Go.Proofs.Ytkhhmkcpbefadaa
open Go.RowKit
/-- The block of a number. -/
def findBlk (n : Nat) : Code → Option Code
  | .seq a b => (findBlk n a).or (findBlk n b)
  | .cond _ a b => (findBlk n a).or (findBlk n b)
  | .loop a => findBlk n a
  | .block m a => if m = n then some (.block m a) else findBlk n a
  | _ => none
noncomputable def blk4 : Code := ((Try.f5.body.bind (findBlk 4)).getD .skip)
theorem wp_of_eq {c c' : Code} {P : Program} {Q : Exit → Act → World → Prop} {a : Act} {w : World} (h : c = c') (h2 : c'.wp P Q a w) : c.wp P Q a w := h ▸ h2
def BoolsAt (w : World) (A : Option Addr) (n : Nat) (V : Nat → Bool) : Prop := 0 < n → ∃ b o, A = some ⟨b, o, none⟩ ∧ ∀ i, i < n → w.cell? ⟨b, o + i, none⟩ = some (.bool (V i))
theorem ownR_or (l : List WR) (n v : Int) : (ownR l n v = 0 ∧ 0 ≤ n ∧ n < l.length) ∨ ownR l n v = 6 := by
  unfold ownR
  by_cases h : badW v
  · exact .inr (if_pos h)
  · rw [if_neg h]
    by_cases h2 : n < 0 ∨ (l.length : Int) ≤ n
    · exact .inr (if_pos h2)
    · exact .inl ⟨if_neg h2, by omega, by omega⟩
/-- What holds between two rounds. -/
structure AR (w W : World) (b r c q g n k : Nat) (p s : List WR × WS) : Prop where
  Q : AQ w W b r c q g p s (ows p.1)
  R : Rel p s k
  L : p.1.length = n
end Go.Proofs.Ytkhhmkcpbefadaa
