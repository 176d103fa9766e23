/- The words of points are a ring: sums, products, turns. No condition but ranges. -/
import Derived.Test.YtnmbkhofikbcjaaRotorRef
namespace Go.Proofs.Ytnmbkhofikbcjaa

/-- Alike but for whole turns of a short. -/
def Cg (a b : Int) : Prop := a % 65536 = b % 65536
theorem Cg.refl (a : Int) : Cg a a := rfl
theorem Cg.add {a b c d : Int} (h : Cg a b) (k : Cg c d) : Cg (a + c) (b + d) := by unfold Cg at *; omega
theorem Cg.sub {a b c d : Int} (h : Cg a b) (k : Cg c d) : Cg (a - c) (b - d) := by unfold Cg at *; omega
theorem Cg.mul {a b c d : Int} (h : Cg a b) (k : Cg c d) : Cg (a * c) (b * d) := by
  unfold Cg at *; rw [Int.mul_emod, h, k, ← Int.mul_emod]
theorem Cg.w16 (a : Int) : Cg (w16 a) a := by unfold Cg; rw [w16_eq]; omega
theorem Cg.trans {a b c : Int} (h : Cg a b) (k : Cg b c) : Cg a c := Eq.trans h k
theorem Cg.symm {a b : Int} (h : Cg a b) : Cg b a := Eq.symm h
theorem word_cg {a b c d : Int} (h : Cg a c) (k : Cg b d) : wordOf a b = wordOf c d := by
  unfold wordOf; unfold Cg at h k; rw [h, k]
theorem lo_w (a b : Int) : w16 (wordOf a b) = w16 a := by rw [w16_eq, w16_eq]; unfold wordOf; omega
theorem hi_w (a b : Int) : w16 (hiOf (wordOf a b)) = w16 b := by rw [w16_eq, w16_eq]; unfold hiOf wordOf; omega
theorem word_id (v : Int) (h : 0 ≤ v ∧ v ≤ 4294967295) : wordOf (w16 v) (w16 (hiOf v)) = v := by rw [w16_eq, w16_eq]; unfold hiOf wordOf; omega

theorem plusW_comm (v u : Int) : plusW v u = plusW u v := by unfold plusW; rw [Int.add_comm (w16 v), Int.add_comm (w16 (hiOf v))]
theorem timesW_comm (v u : Int) : timesW v u = timesW u v := by
  unfold timesW
  rw [Int.mul_comm (w16 v) (w16 u), Int.mul_comm (w16 (hiOf v)) (w16 (hiOf u)), Int.mul_comm (w16 v) (w16 (hiOf u)), Int.mul_comm (w16 (hiOf v)) (w16 u), Int.add_comm]
theorem plusW_assoc (a b c : Int) : plusW (plusW a b) c = plusW a (plusW b c) := by
  unfold plusW
  rw [lo_w, lo_w, hi_w, hi_w]
  refine word_cg ?_ ?_
  · refine ((Cg.w16 _).add (Cg.refl _)).trans (Cg.symm (((Cg.refl _).add (Cg.w16 _)).trans ?_))
    unfold Cg; omega
  · refine ((Cg.w16 _).add (Cg.refl _)).trans (Cg.symm (((Cg.refl _).add (Cg.w16 _)).trans ?_))
    unfold Cg; omega
theorem timesW_assoc (a b c : Int) : timesW (timesW a b) c = timesW a (timesW b c) := by
  unfold timesW
  rw [lo_w, lo_w, hi_w, hi_w]
  generalize w16 a = x
  generalize w16 (hiOf a) = y
  generalize w16 b = p
  generalize w16 (hiOf b) = q
  generalize w16 c = r
  generalize w16 (hiOf c) = s
  refine word_cg ?_ ?_
  · refine (((Cg.w16 _).mul (Cg.refl _)).sub ((Cg.w16 _).mul (Cg.refl _))).trans (Cg.symm ((((Cg.refl _).mul (Cg.w16 _)).sub ((Cg.refl _).mul (Cg.w16 _))).trans ?_))
    unfold Cg; congr 1; grind
  · refine (((Cg.w16 _).mul (Cg.refl _)).add ((Cg.w16 _).mul (Cg.refl _))).trans (Cg.symm ((((Cg.refl _).mul (Cg.w16 _)).add ((Cg.refl _).mul (Cg.w16 _))).trans ?_))
    unfold Cg; congr 1; grind
theorem times_plusW (a b c : Int) : timesW a (plusW b c) = plusW (timesW a b) (timesW a c) := by
  unfold timesW plusW
  rw [lo_w, hi_w, lo_w, hi_w, lo_w, hi_w]
  generalize w16 a = x
  generalize w16 (hiOf a) = y
  generalize w16 b = p
  generalize w16 (hiOf b) = q
  generalize w16 c = r
  generalize w16 (hiOf c) = s
  refine word_cg ?_ ?_
  · refine (((Cg.refl _).mul (Cg.w16 _)).sub ((Cg.refl _).mul (Cg.w16 _))).trans (Cg.symm (((Cg.w16 _).add (Cg.w16 _)).trans ?_))
    unfold Cg; congr 1; grind
  · refine (((Cg.refl _).mul (Cg.w16 _)).add ((Cg.refl _).mul (Cg.w16 _))).trans (Cg.symm (((Cg.w16 _).add (Cg.w16 _)).trans ?_))
    unfold Cg; congr 1; grind
theorem plusW_zero (v : Int) (h : 0 ≤ v ∧ v ≤ 4294967295) : plusW v 0 = v := by
  unfold plusW
  rw [show w16 0 = 0 from by decide, show w16 (hiOf 0) = 0 from by decide, Int.add_zero, Int.add_zero, word_id v h]
theorem timesW_one (v : Int) (h : 0 ≤ v ∧ v ≤ 4294967295) : timesW v 1 = v := by
  unfold timesW
  rw [show w16 1 = 1 from by decide, show w16 (hiOf 1) = 0 from by decide, Int.mul_zero, Int.mul_zero, Int.mul_one, Int.mul_one, Int.sub_zero, Int.zero_add, word_id v h]
theorem times_i (v : Int) : timesW v 65536 = wordOf (0 - w16 (hiOf v)) (w16 v) := by
  unfold timesW
  rw [show w16 65536 = 0 from by decide, show w16 (hiOf 65536) = 1 from by decide, Int.mul_zero, Int.mul_zero, Int.mul_one, Int.mul_one, Int.add_zero]
theorem turn_two (v : Int) : turnW 2 v = wordOf (0 - w16 v) (0 - w16 (hiOf v)) := by
  show timesW (timesW v 65536) 65536 = _
  rw [times_i, times_i, lo_w, hi_w]
  exact word_cg ((Cg.refl 0).sub (Cg.w16 _)) (Cg.w16 _)
theorem turn_four (v : Int) (h : 0 ≤ v ∧ v ≤ 4294967295) : turnW 4 v = v := by
  show timesW (timesW (turnW 2 v) 65536) 65536 = _
  rw [turn_two, times_i, times_i, lo_w, hi_w, lo_w, hi_w]
  refine Eq.trans (word_cg (c := w16 v) (d := w16 (hiOf v)) ?_ ?_) (word_id v h)
  · refine ((Cg.refl 0).sub ((Cg.w16 _).trans (Cg.w16 _))).trans ?_
    unfold Cg; omega
  · refine ((Cg.w16 _).trans ((Cg.refl 0).sub (Cg.w16 _))).trans ?_
    unfold Cg; omega
theorem turn_add (m n : Nat) (v : Int) : turnW m (turnW n v) = turnW (n + m) v := by
  induction m with
  | zero => rfl
  | succ m ih => show timesW (turnW m (turnW n v)) 65536 = timesW (turnW (n + m) v) 65536; rw [ih]
theorem turn_low (v : Int) (h : 0 ≤ v ∧ v ≤ 4294967295) (n : Nat) (hn : n < 8) : turnW n v = turnW (n % 4) v := by
  by_cases h4 : n < 4
  · rw [Nat.mod_eq_of_lt h4]
  · have e : n = 4 + n % 4 := by omega
    rw [e, ← turn_add, turn_four v h]
    congr 1; omega
theorem plus_two (v : Int) : plusW v (turnW 2 v) = 0 := by
  rw [turn_two]
  unfold plusW
  rw [lo_w, hi_w]
  have h := word_cg (a := w16 v + w16 (0 - w16 v)) (b := w16 (hiOf v) + w16 (0 - w16 (hiOf v))) (c := 0) (d := 0)
    (((Cg.refl _).add (Cg.w16 _)).trans (by unfold Cg; omega)) (((Cg.refl _).add (Cg.w16 _)).trans (by unfold Cg; omega))
  rw [h]; rfl
end Go.Proofs.Ytnmbkhofikbcjaa
