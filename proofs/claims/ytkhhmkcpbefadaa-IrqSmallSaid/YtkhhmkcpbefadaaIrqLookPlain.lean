/- A look at the levels, plain: what it leaves of wires and worlds. No condition. -/
import Derived.Test.YtkhhmkcpbefadaaIrqBoard
namespace Go.Proofs.Ytkhhmkcpbefadaa
open Go.RowKit
def lstep (p : List WR × WS) (t : Nat) (h : Bool) : List WR × WS :=
  match p.1[t]? with
  | none => p
  | some x => if 0 ≤ x.ow ∧ 0 ≤ x.ln then (p.1.set t { x with hi := h }, if h && !x.hi then p.2.setW x.ow.toNat (p.2.wt x.ow.toNat ||| 2 ^ x.ln.toNat) else p.2) else p
def lookR (LV : Nat → Bool) (p : List WR × WS) : Nat → List WR × WS
  | 0 => p
  | t + 1 => lstep (lookR LV p t) t (LV t)
theorem lstep_length (p : List WR × WS) (t : Nat) (h : Bool) : (lstep p t h).1.length = p.1.length := by
  unfold lstep; split
  · rfl
  · split
    · exact List.length_set
    · rfl
theorem lookR_length (LV : Nat → Bool) (p : List WR × WS) : ∀ t, (lookR LV p t).1.length = p.1.length
  | 0 => rfl
  | t + 1 => (lstep_length _ _ _).trans (lookR_length LV p t)
theorem Fit.put {ws : List WR} {s : WS} {i : Nat} {y : WR} (h : Fit ws s) (hy : -1 ≤ y.ow ∧ y.ow < 8 ∧ -1 ≤ y.ln ∧ y.ln < 8) : Fit (ws.set i y) s := by
  refine ⟨fun j z hz => ?_, h.wt, h.le⟩
  rw [List.getElem?_set] at hz
  split at hz
  · split at hz
    · cases hz; exact hy
    · cases hz
  · exact h.wire j z hz
theorem or_lt8 {a k : Nat} (ha : a < 256) (hk : k < 8) : a ||| 2 ^ k < 256 := Nat.or_lt_two_pow (n := 8) ha (by have : 2 ^ k < 2 ^ 8 := Nat.pow_lt_pow_right (by decide) hk; omega)
theorem lstep_fit {p : List WR × WS} (t : Nat) (h : Bool) (hf : Fit p.1 p.2) : Fit (lstep p t h).1 (lstep p t h).2 := by
  unfold lstep; split
  · exact hf
  · rename_i x hx
    split
    · rename_i hc
      have hw := hf.wire t x hx
      refine Fit.put ?_ hw
      split
      · exact Fit.setW hf (or_lt8 (hf.wt _) (by omega))
      · exact hf
    · exact hf
theorem lookR_fit (LV : Nat → Bool) {p : List WR × WS} (hf : Fit p.1 p.2) : ∀ t, Fit (lookR LV p t).1 (lookR LV p t).2
  | 0 => hf
  | t + 1 => lstep_fit _ _ (lookR_fit LV hf t)
end Go.Proofs.Ytkhhmkcpbefadaa
