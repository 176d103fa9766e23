/- TrailingZeros8. Conditions: a byte. -/
import Derived.Test.YtkhhmkcpbefadaaIrqBits
namespace Go.Proofs.Ytkhhmkcpbefadaa
open Go.RowKit
/-- A byte out of a string that is written out. -/
theorem wpList_strAt {P : Program} {ops : Array Oper} {rest : List Oper} {o : Oper} {a : Act} {w : World} {Q : Exit → Act → World → Prop} (hgd : o.guard = none) (t : TypeId) (x y : Operand) (ho : o.op = .index t x y) (s : ByteArray) (k : IntKind) (i : Nat)
    (hx : a.eval x = .string s) (hy : a.eval y = .int k i) (ht : P.underlying t = some .string) (hi : i < s.size) (v : Nat) (hv : (s[i]'hi).toNat = v) (h : wpList P ops Q rest (a.put o.dst (.int .u8 v)) w) : wpList P ops Q (o :: rest) a w := by
  refine wpList_plain hgd fun K hK => ?_
  have h2 : (0 : Int) ≤ i ∧ (i : Int) < s.size := by omega
  unfold Oper.wp execOp
  simp only [ho, hx, hy, Sem.run_bind, Sem.run_pure, run_index_string w t s k i ht, dif_pos h2, Result.andThen_ok, Int.toNat_natCast, hv]
  exact hK _ _ h
def tzTable : ByteArray := ⟨((List.range 256).map fun x => (low x).toUInt8).toArray⟩
theorem tz_size : tzTable.size = 256 := by decide +kernel
theorem tz_at : ∀ x : Fin 256, (tzTable[(x : Nat)]'(by rw [tz_size]; exact x.2)).toNat = low x := by decide +kernel
set_option maxRecDepth 100000 in
theorem tz_spec (x : Nat) (hx : x < 256) (w : World) : Calls Try.prog 32 #[.int .u8 (x : Int)] w fun e w' => e = .returned (.int .i64 (low x)) ∧ w = w' := by
  have h1 : low x < 9 := by
    have : ∀ y : Fin 256, low y < 9 := by decide +kernel
    exact this ⟨x, hx⟩
  have h2 : IntKind.i64.wrap ((low x : Nat) : Int) = (low x : Int) := IntWalk.i64_in _ (by omega)
  obtain ⟨L, hL⟩ : ∃ L, L = low x := ⟨_, rfl⟩
  rw [← hL] at h1 h2 ⊢
  have HL := Lib.hid hL
  clear hL
  go_enter Try.func32, Try.ntmps32
  go_wp2_with (refine wpList_strAt rfl 9 _ _ rfl tzTable .u8 x (by kernel_rfl) rfl (by rfl) (by rw [tz_size]; exact hx) L (by rw [HL.out]; exact tz_at ⟨x, hx⟩) ?_)
  go_ret
  exact ⟨rfl, rfl⟩
end Go.Proofs.Ytkhhmkcpbefadaa
