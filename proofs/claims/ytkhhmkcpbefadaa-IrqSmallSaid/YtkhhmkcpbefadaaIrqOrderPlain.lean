/- IrqOrder, plain: which bits are pending, which is the least. No condition. -/
import Derived.Test.YtkhhmkcpbefadaaIrqOnceLaw
import Derived.Test.YtkhhmkcpbefadaaGRow
namespace Go.Proofs.Ytkhhmkcpbefadaa
open Go.RowKit
theorem clr_fin : ∀ (a : Fin 256) (k j : Fin 8), (clr a k).testBit j = ((a : Nat).testBit j && !decide (j = k)) := by decide +kernel
theorem low_fin : ∀ (a : Fin 256) (k : Fin 8), (a : Nat).testBit k = true → (∀ j : Fin 8, j < k → (a : Nat).testBit j = false) → low a = k := by decide +kernel
theorem high_bit {a j : Nat} (h : a < 256) (hj : 8 ≤ j) : a.testBit j = false := Nat.testBit_lt_two_pow (Nat.lt_of_lt_of_le h (show 2 ^ 8 ≤ 2 ^ j from Nat.pow_le_pow_right (by decide) hj))
theorem byte_eq {a b : Nat} (ha : a < 256) (hb : b < 256) (h : ∀ j, j < 8 → a.testBit j = b.testBit j) : a = b := by
  refine Nat.eq_of_testBit_eq fun j => ?_
  by_cases hj : j < 8
  · exact h j hj
  · rw [high_bit ha (by omega), high_bit hb (by omega)]
/-- What is pending behind k rounds. -/
def left (B m : Nat) : Nat → Nat
  | 0 => B
  | k + 1 => if (B &&& m).testBit k then clr (left B m k) k else left B m k
theorem left_lt {B m : Nat} (hB : B < 256) : ∀ k, left B m k < 256
  | 0 => hB
  | k + 1 => by
    rw [left]
    split
    · exact clr_lt (left_lt hB k)
    · exact left_lt hB k
theorem left_bit {B m : Nat} (hB : B < 256) : ∀ k, k ≤ 8 → ∀ j, j < 8 → (left B m k).testBit j = (B.testBit j && !(decide (j < k) && m.testBit j))
  | 0, _, j, _ => by simp [left]
  | k + 1, hk, j, hj => by
    have ih := left_bit hB (m := m) k (by omega) j hj
    rw [left]
    split
    · rename_i h
      rw [Nat.testBit_and, Bool.and_eq_true] at h
      have hc := clr_fin ⟨_, left_lt hB (m := m) k⟩ ⟨k, by omega⟩ ⟨j, hj⟩
      simp only [Fin.mk.injEq] at hc
      rw [hc, ih]
      by_cases e : j = k
      · subst e; simp [h.1, h.2]
      · have e2 : decide (j < k + 1) = decide (j < k) := by rw [decide_eq_decide]; omega
        simp [e, e2]
    · rename_i h
      rw [ih]
      by_cases e : j = k
      · subst e
        rw [Nat.testBit_and, Bool.and_eq_true] at h
        cases hB2 : B.testBit j
        · simp
        · have hm : m.testBit j = false := by
            cases hm : m.testBit j
            · rfl
            · exact absurd ⟨hB2, hm⟩ h
          simp [hm]
      · have e2 : decide (j < k + 1) = decide (j < k) := by rw [decide_eq_decide]; omega
        rw [e2]
theorem left_low {B m k : Nat} (hB : B < 256) (hk : k < 8) (h : (B &&& m).testBit k = true) : left B m k &&& m ≠ 0 ∧ low (left B m k &&& m) = k := by
  rw [Nat.testBit_and, Bool.and_eq_true] at h
  have hlt : left B m k &&& m < 256 := Nat.lt_of_le_of_lt Nat.and_le_left (left_lt hB k)
  have hb : (left B m k &&& m).testBit k = true := by
    rw [Nat.testBit_and, left_bit hB k (by omega) k hk, h.1, h.2]
    simp
  refine ⟨fun h0 => by rw [h0] at hb; simp at hb, ?_⟩
  refine low_fin ⟨_, hlt⟩ ⟨k, hk⟩ hb fun j hj => ?_
  have hj' : (j : Nat) < k := hj
  show (left B m k &&& m).testBit j = false
  rw [Nat.testBit_and, left_bit hB k (by omega) j j.2]
  cases m.testBit j <;> simp [hj']
theorem left_end {B m : Nat} (hB : B < 256) : left B m 8 &&& m = 0 := by
  refine byte_eq (Nat.lt_of_le_of_lt Nat.and_le_left (left_lt hB 8)) (by decide) fun j hj => ?_
  rw [Nat.testBit_and, left_bit hB 8 (by omega) j hj]
  cases m.testBit j <;> simp [hj]
theorem bits_andnot_byte {B m : Nat} (hB : B < 256) (hm : m < 256) : bits .andNot .u8 (B : Int) (m : Int) = ((left B m 8 : Nat) : Int) := by
  show IntKind.u8.wrap ((BitVec.ofInt 8 (B : Int) &&& ~~~ BitVec.ofInt 8 (m : Int)).toNat : Int) = _
  have e : (BitVec.ofInt 8 (B : Int) &&& ~~~ BitVec.ofInt 8 (m : Int)).toNat = left B m 8 := by
    refine byte_eq (BitVec.isLt _) (left_lt hB 8) fun j hj => ?_
    rw [left_bit hB 8 (by omega) j hj, BitVec.testBit_toNat, BitVec.getLsbD_and, BitVec.getLsbD_not, ← BitVec.testBit_toNat, ← BitVec.testBit_toNat, byte_vec B hB, byte_vec m hm]
    simp [hj]
  rw [e]
  exact wrap_byte _ (left_lt hB 8)
/-- The lines' bits. -/
def orB (V : Nat → Int) : Nat → Nat
  | 0 => 0
  | t + 1 => orB V t ||| 2 ^ (V t).toNat
theorem orB_lt {V : Nat → Int} : ∀ t, (∀ i, i < t → 0 ≤ V i ∧ V i ≤ 7) → orB V t < 256
  | 0, _ => show 0 < 256 by decide
  | t + 1, h => or_lt8 (orB_lt t fun i hi => h i (by omega)) (by have := h t (by omega); omega)
theorem look_all {V : Nat → Int} {n : Nat} (hV : ∀ i, i < n → 0 ≤ V i ∧ V i ≤ 7) : ∀ t, t ≤ n → (∀ i, t ≤ i → (lookR (fun _ => true) (wiresOf (fun _ => 0) V n, WS.fresh) t).1[i]? = (wiresOf (fun _ => 0) V n)[i]?) ∧ (lookR (fun _ => true) (wiresOf (fun _ => 0) V n, WS.fresh) t).2.wt 0 = orB V t ∧ (lookR (fun _ => true) (wiresOf (fun _ => 0) V n, WS.fresh) t).2.le = WS.fresh.le
  | 0, _ => ⟨fun _ _ => rfl, rfl, rfl⟩
  | t + 1, h => by
    obtain ⟨h1, h2, h3⟩ := look_all hV t (by omega)
    have hx := (h1 t (Nat.le_refl _)).trans (wiresOf_at (fun _ => 0) V n t (by omega))
    have e := lstep_in hx (show (0 : Int) ≤ 0 by decide) (hV t (by omega)).1 true
    rw [lookR, e]
    refine ⟨fun i hi => ?_, ?_, ?_⟩
    · rw [← h1 i (by omega)]
      exact List.getElem?_set_ne (by omega)
    · rw [orB, ← h2]
      show (WS.setW _ 0 _).wt 0 = _
      simp [WS.setW]
    · exact h3
/-- The devices' cells. -/
def denc (V : Nat → Int) : Nat → List Value
  | 0 => []
  | t + 1 => denc V t ++ [.int .i64 0, .int .u32 0, .int .i64 0, .int .i64 0, .int .i64 (V t)]
theorem denc_length (V : Nat → Int) : ∀ t, (denc V t).length = t * 5
  | 0 => rfl
  | t + 1 => by rw [denc, List.length_append, denc_length V t]; show _ + 5 = _; omega
theorem denc_at (V : Nat → Int) : ∀ t i, i < t → ∀ k, k < 5 → (denc V t)[i * 5 + k]? = [Value.int .i64 0, .int .u32 0, .int .i64 0, .int .i64 0, .int .i64 (V i)][k]?
  | t + 1, i, h, k, hk => by
    rw [denc]
    by_cases hi : i < t
    · rw [List.getElem?_append_left (by rw [denc_length]; omega)]; exact denc_at V t i hi k hk
    · obtain rfl : i = t := by omega
      rw [List.getElem?_append_right (by rw [denc_length]; omega), denc_length, show i * 5 + k - i * 5 = k by omega]
end Go.Proofs.Ytkhhmkcpbefadaa
