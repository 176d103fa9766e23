/- Contracts of the document's functions for points (septumref13). Conditions: as at each lemma. -/
import Derived.Test.YtnmbkhofikbcjaaRotorFns
namespace Go.Proofs.Ytnmbkhofikbcjaa
open Go.RowKit Flt

/-- The word of a point's parts. -/
def wordOf (a b : Int) : Int := a % 65536 + 65536 * (b % 65536)
theorem wordOf_range (a b : Int) : 0 ≤ wordOf a b ∧ wordOf a b ≤ 4294967295 := by unfold wordOf; omega
def hiOf (v : Int) : Int := v / 65536

theorem wr64 {x : Int} (h1 : -9223372036854775808 ≤ x) (h2 : x ≤ 9223372036854775807) : wrap64 x = x := by unfold wrap64; omega
theorem tmod_is (n : Int) : n.tmod 65536 = if 0 ≤ n then n % 65536 else - ((-n) % 65536) := by
  split
  · exact Int.tmod_eq_emod_of_nonneg ‹_›
  · have := Int.tmod_eq_emod_of_nonneg (a := -n) (b := 65536) (by omega)
    rw [Int.neg_tmod] at this; omega
theorem tmod_low (n : Int) : wrap64 (n.tmod 65536 + 65536) = n.tmod 65536 + 65536 ∧ 0 < n.tmod 65536 + 65536 ∧ n.tmod 65536 < 65536 ∧ (n.tmod 65536 + 65536) % 65536 = n % 65536 := by
  have e := tmod_is n
  have b : -65536 < n.tmod 65536 ∧ n.tmod 65536 < 65536 ∧ (n.tmod 65536 + 65536) % 65536 = n % 65536 := by rw [e]; split <;> omega
  exact ⟨wr64 (by omega) (by omega), by omega, b.2.1, b.2.2⟩
theorem short_num (n : Int) : wrap64 ((wrap64 (wrap64 (n.tmod 65536 + 65536) + 32768)).tmod 65536 - 32768) = w16 n := by
  rw [w16_eq]
  obtain ⟨e1, e2, e3, e4⟩ := tmod_low n
  rw [e1, wr64 (x := n.tmod 65536 + 65536 + 32768) (by omega) (by omega), Int.tmod_eq_emod_of_nonneg (by omega), wr64 (by omega) (by omega)]
  omega
theorem low_num (n : Int) : (wrap64 (n.tmod 65536 + 65536)).tmod 65536 = n % 65536 := by
  obtain ⟨e1, e2, e3, e4⟩ := tmod_low n
  rw [e1, Int.tmod_eq_emod_of_nonneg (by omega), e4]

theorem refShort_spec (n : Int) (w : World) :
    Calls Try.prog 64 #[.int .i64 n] w fun e w' => e = .returned (.int .i64 (w16 n)) ∧ w = w' := by
  rw [← short_num n]
  go_enter Try.func64, Try.ntmps64
  go_wp2
  go_ret
  exact ⟨rfl, rfl⟩

set_option maxHeartbeats 4000000 in
theorem refPoint_spec (v : Int) (h0 : 0 ≤ v) (h1 : v ≤ 4294967295) (w : World) :
    Calls Try.prog 61 #[.int .u32 v] w fun e w' => e = .returned (.tuple #[.int .i64 (w16 v), .int .i64 (w16 (hiOf v))]) ∧ w = w' := by
  have e1 : w16 (v % 65536) = w16 v := by rw [w16_eq, w16_eq]; omega
  have e2 : v.tmod 65536 = v % 65536 := Int.tmod_eq_emod_of_nonneg h0
  have e3 : v.tdiv 65536 = hiOf v := Int.tdiv_eq_ediv_of_nonneg h0
  rw [← e1]
  have r1 : IntKind.i64.wrap (v % 65536) = v % 65536 := by rw [IntKind.wrap_i64]; omega
  have r2 : IntKind.i64.wrap (hiOf v) = hiOf v := by rw [IntKind.wrap_i64]; unfold hiOf; omega
  have r3 : hiOf v % 4294967296 = hiOf v := by unfold hiOf; omega
  clear e1
  go_enter Try.func61, Try.ntmps61
  go_wp2_with fail
  refine (refShort_spec (v % 65536) _).mono ?_
  rintro e w1 ⟨rfl, rfl⟩
  go_wp2_with fail
  refine (refShort_spec (hiOf v) _).mono ?_
  rintro e w1 ⟨rfl, rfl⟩
  go_wp2_with fail
  go_ret2
  exact ⟨rfl, rfl⟩

theorem refWord_spec (a b : Int) (w : World) :
    Calls Try.prog 24 #[.int .i64 a, .int .i64 b] w fun e w' => e = .returned (.int .u32 (wordOf a b)) ∧ w = w' := by
  have e1 := low_num a
  have e2 := low_num b
  go_enter Try.func24, Try.ntmps24
  go_wp2_with fail
  go_ret
  exact ⟨rfl, rfl⟩
/-- The document's sum, product, turn of words. -/
def plusW (v w : Int) : Int := wordOf (w16 v + w16 w) (w16 (hiOf v) + w16 (hiOf w))
def timesW (v w : Int) : Int := wordOf (w16 v * w16 w - w16 (hiOf v) * w16 (hiOf w)) (w16 v * w16 (hiOf w) + w16 (hiOf v) * w16 w)
def turnW : Nat → Int → Int
  | 0, v => v
  | n + 1, v => timesW (turnW n v) 65536
theorem prod_small {a b : Int} (ha : -32768 ≤ a ∧ a ≤ 32767) (hb : -32768 ≤ b ∧ b ≤ 32767) : -1073741824 ≤ a * b ∧ a * b ≤ 1073741824 := by
  have h : (a * b).natAbs ≤ 32768 * 32768 := by rw [Int.natAbs_mul]; exact Nat.mul_le_mul (by omega) (by omega)
  omega

set_option maxHeartbeats 4000000 in
theorem refPlus_spec (v u : Int) (h0 : 0 ≤ v) (h1 : v ≤ 4294967295) (g0 : 0 ≤ u) (g1 : u ≤ 4294967295) (w : World) :
    Calls Try.prog 50 #[.int .u32 v, .int .u32 u] w fun e w' => e = .returned (.int .u32 (plusW v u)) ∧ w = w' := by
  have a1 := w16_range v
  have a2 := w16_range u
  have a3 := w16_range (hiOf v)
  have a4 := w16_range (hiOf u)
  unfold plusW
  have s1 : wrap64 (w16 v + w16 u) = w16 v + w16 u := wr64 (by omega) (by omega)
  have s2 : wrap64 (w16 (hiOf v) + w16 (hiOf u)) = w16 (hiOf v) + w16 (hiOf u) := wr64 (by omega) (by omega)
  clear a1 a2 a3 a4
  generalize hA : w16 v = A at *
  generalize hB : w16 (hiOf v) = B at *
  generalize hC : w16 u = C at *
  generalize hD : w16 (hiOf u) = D at *
  have HA := Lib.hid hA
  have HB := Lib.hid hB
  have HC := Lib.hid hC
  have HD := Lib.hid hD
  clear hA hB hC hD
  go_enter Try.func50, Try.ntmps50
  go_wp2_with fail
  refine (refPoint_spec v h0 h1 _).mono ?_
  rintro e w1 ⟨rfl, rfl⟩
  rw [HA.out, HB.out]
  go_wp2_with fail
  refine (refPoint_spec u g0 g1 _).mono ?_
  rintro e w1 ⟨rfl, rfl⟩
  rw [HC.out, HD.out]
  go_wp2_with fail
  refine (refWord_spec _ _ _).mono ?_
  rintro e w1 ⟨rfl, rfl⟩
  go_wp2_with fail
  go_ret
  exact ⟨rfl, rfl⟩
set_option maxHeartbeats 4000000 in
theorem refTimes_spec (v u : Int) (h0 : 0 ≤ v) (h1 : v ≤ 4294967295) (g0 : 0 ≤ u) (g1 : u ≤ 4294967295) (w : World) :
    Calls Try.prog 51 #[.int .u32 v, .int .u32 u] w fun e w' => e = .returned (.int .u32 (timesW v u)) ∧ w = w' := by
  have a1 := w16_range v
  have a2 := w16_range u
  have a3 := w16_range (hiOf v)
  have a4 := w16_range (hiOf u)
  unfold timesW
  have b1 := prod_small a1 a2
  have b2 := prod_small a3 a4
  have b3 := prod_small a1 a4
  have b4 := prod_small a3 a2
  have s1 : wrap64 (w16 v * w16 u) = w16 v * w16 u := wr64 (by omega) (by omega)
  have s2 : wrap64 (w16 (hiOf v) * w16 (hiOf u)) = w16 (hiOf v) * w16 (hiOf u) := wr64 (by omega) (by omega)
  have s3 : wrap64 (w16 v * w16 (hiOf u)) = w16 v * w16 (hiOf u) := wr64 (by omega) (by omega)
  have s4 : wrap64 (w16 (hiOf v) * w16 u) = w16 (hiOf v) * w16 u := wr64 (by omega) (by omega)
  have s5 : wrap64 (w16 v * w16 u - w16 (hiOf v) * w16 (hiOf u)) = w16 v * w16 u - w16 (hiOf v) * w16 (hiOf u) := wr64 (by omega) (by omega)
  have s6 : wrap64 (w16 v * w16 (hiOf u) + w16 (hiOf v) * w16 u) = w16 v * w16 (hiOf u) + w16 (hiOf v) * w16 u := wr64 (by omega) (by omega)
  clear b1 b2 b3 b4
  clear a1 a2 a3 a4
  generalize hA : w16 v = A at *
  generalize hB : w16 (hiOf v) = B at *
  generalize hC : w16 u = C at *
  generalize hD : w16 (hiOf u) = D at *
  have HA := Lib.hid hA
  have HB := Lib.hid hB
  have HC := Lib.hid hC
  have HD := Lib.hid hD
  clear hA hB hC hD
  go_enter Try.func51, Try.ntmps51
  go_wp2_with fail
  refine (refPoint_spec v h0 h1 _).mono ?_
  rintro e w1 ⟨rfl, rfl⟩
  rw [HA.out, HB.out]
  go_wp2_with fail
  refine (refPoint_spec u g0 g1 _).mono ?_
  rintro e w1 ⟨rfl, rfl⟩
  rw [HC.out, HD.out]
  go_wp2_with fail
  refine (refWord_spec _ _ _).mono ?_
  rintro e w1 ⟨rfl, rfl⟩
  go_wp2_with fail
  go_ret
  exact ⟨rfl, rfl⟩
set_option maxHeartbeats 4000000 in
theorem refTurn_spec (v k : Int) (h0 : 0 ≤ v) (h1 : v ≤ 4294967295) (g0 : 0 ≤ k) (_g1 : k ≤ 4294967295) (w : World) :
    Calls Try.prog 52 #[.int .u32 v, .int .u32 k] w fun e w' => e = .returned (.int .u32 (turnW (k % 4).toNat v)) ∧ w = w' := by
  have e1 : k.tmod 4 = ((k % 4).toNat : Int) := by rw [Int.tmod_eq_emod_of_nonneg g0]; omega
  have hn : (k % 4).toNat < 4 := by omega
  generalize hN : (k % 4).toNat = n at *
  have HN := Lib.hid hN
  have H0 := Lib.hid h0
  have H1 := Lib.hid h1
  clear hN h0 h1
  go_enter Try.func52, Try.ntmps52
  go_wp2
  go_loop [0, 5] (fun x i => ∃ j : Nat, j ≤ n ∧ x = .int .u32 (turnW j v) ∧ i = .int .u32 j) (fun _ i => n - (intOf i).toNat)
  case atStart => exact ⟨0, by omega, rfl, rfl⟩
  case round =>
    obtain ⟨j, hj, rfl, rfl⟩ := hrel
    by_cases hlt : j < n
    · go_wp2_with fail
      have hr : 0 ≤ turnW j v ∧ turnW j v ≤ 4294967295 := by
        cases j
        · exact ⟨H0.out, H1.out⟩
        · exact wordOf_range _ _
      refine (refTimes_spec _ _ hr.1 hr.2 (by decide) (by decide) _).mono ?_
      clear hr
      rintro e w1 ⟨rfl, rfl⟩
      go_wp2_with fail
      go_round
      case rel => exact ⟨j + 1, by omega, rfl, by go_num⟩
      case measure => simp [intOf]; omega
    · have : j = n := by omega
      subst this
      go_wp2
      go_ret
      exact ⟨rfl, rfl⟩
end Go.Proofs.Ytnmbkhofikbcjaa
