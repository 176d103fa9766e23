/- Bytes' bits, as numbers. Conditions: the numbers are bytes. -/
import Derived.Test.YtkhhmkcpbefadaaIrqFns
import Derived.Laws.Bits64b
namespace Go.Proofs.Ytkhhmkcpbefadaa
open Go.RowKit
theorem byte_vec (a : Nat) (ha : a < 256) : (BitVec.ofInt 8 (a : Int)).toNat = a := by
  rw [BitVec.ofInt_natCast, BitVec.toNat_ofNat]; exact Nat.mod_eq_of_lt (by omega)
theorem wrap_byte (x : Nat) (h : x < 256) : IntKind.u8.wrap (x : Int) = x := by
  rw [IntKind.wrap_u8]
  omega
theorem bits_and_byte (a b : Nat) (ha : a < 256) (hb : b < 256) : bits .and .u8 (a : Int) (b : Int) = ((a &&& b : Nat) : Int) := by
  have hx : a &&& b < 2 ^ 8 := Nat.and_lt_two_pow _ (by omega)
  show IntKind.u8.wrap ((BitVec.ofInt 8 (a : Int) &&& BitVec.ofInt 8 (b : Int)).toNat : Int) = _
  rw [BitVec.toNat_and, byte_vec a ha, byte_vec b hb]
  exact wrap_byte _ (by omega)
theorem bits_or_byte (a b : Nat) (ha : a < 256) (hb : b < 256) : bits .or .u8 (a : Int) (b : Int) = ((a ||| b : Nat) : Int) := by
  have hx : a ||| b < 2 ^ 8 := Nat.or_lt_two_pow (by omega) (by omega)
  show IntKind.u8.wrap ((BitVec.ofInt 8 (a : Int) ||| BitVec.ofInt 8 (b : Int)).toNat : Int) = _
  rw [BitVec.toNat_or, byte_vec a ha, byte_vec b hb]
  exact wrap_byte _ (by omega)
/-- A byte less one of its bits; its least bit. -/
def clr (a k : Nat) : Nat := if a.testBit k then a - 2 ^ k else a
def low (a : Nat) : Nat := ((List.range 8).find? (fun k => a.testBit k)).getD 8
theorem bits_clr_fin : ∀ (a : Fin 256) (k : Fin 8), bits .andNot .u8 ((a : Nat) : Int) ((2 ^ (k : Nat) : Nat) : Int) = ((clr a k : Nat) : Int) := by decide +kernel
theorem bits_clr (a k : Nat) (ha : a < 256) (hk : k < 8) : bits .andNot .u8 (a : Int) ((2 ^ k : Nat) : Int) = ((clr a k : Nat) : Int) := bits_clr_fin ⟨a, ha⟩ ⟨k, hk⟩
theorem shl_byte (k : Nat) (hk : k < 8) : IntKind.u8.wrap ((2 : Int) ^ k) = ((2 ^ k : Nat) : Int) := by
  rcases lt8 hk with rfl | rfl | rfl | rfl | rfl | rfl | rfl | rfl
  all_goals decide
theorem low_lt_fin : ∀ a : Fin 256, (a : Nat) ≠ 0 → low a < 8 ∧ (a : Nat).testBit (low a) = true := by decide +kernel
theorem low_lt (a : Nat) (ha : a < 256) (h0 : a ≠ 0) : low a < 8 ∧ a.testBit (low a) = true := low_lt_fin ⟨a, ha⟩ h0
end Go.Proofs.Ytkhhmkcpbefadaa
