/- The law's test of points (septumlaw13: told, points, awake), RotorPoints. Conditions: as at each lemma. -/
import Derived.Test.YtnmbkhofikbcjaaRotorOps
namespace Go.Proofs.Ytnmbkhofikbcjaa
open Go.RowKit Flt

theorem same_order {x : Nat} {n : Int} (h : Rep x n) : (FloatKind.f64.format.order x x == some Ordering.eq) = true := by
  have h1 := order_eq h h
  rw [decide_eq_true rfl] at h1
  exact h1

theorem told_spec (v : Int) (h0 : 0 ≤ v) (h1 : v ≤ 4294967295) (w : World) :
    Calls Try.prog 49 #[.complex .f64 (X v) (Y v), .bool true, .int .u32 v] w fun e w' => e = .returned (.bool true) ∧ Upd Non w w' := by
  have q1 := fun w => rReal (X v) (Y v) w
  have q2 := fun w => rImag (X v) (Y v) w
  have q3 : ∀ w, (convert 3 40 (.int .i64 (w16 v))).run Try.prog w = .ok (.float .f64 (X v)) w := fun w => cvNF (w16 v) w
  have q4 : ∀ w, (convert 3 40 (.int .i64 (w16 (hiOf v)))).run Try.prog w = .ok (.float .f64 (Y v)) w := fun w => cvNF (w16 (hiOf v)) w
  have o1 := same_order (repX v)
  have o2 := same_order (repY v)
  go_enter Try.func49, Try.ntmps49
  go_wp2_with fail
  refine (refPoint_spec v h0 h1 _).mono ?_
  rintro e w1 ⟨rfl, rfl⟩
  go_wp2_with fail
  refine (word_spec v h0 h1 _).mono ?_
  rintro e w1 ⟨rfl, U1⟩
  go_wp2_with fail
  go_ret
  exact ⟨rfl, U1⟩

theorem point_spec' (v : Int) (h0 : 0 ≤ v) (h1 : v ≤ 4294967295) (w : World) :
    Calls Try.prog 25 #[.int .u32 v] w fun e w' => e = .returned (.complex .f64 (X v) (Y v)) ∧ w = w' := point_spec v h0 h1 w
theorem plusW_range (v u : Int) : 0 ≤ plusW v u ∧ plusW v u ≤ 4294967295 := wordOf_range _ _
theorem timesW_range (v u : Int) : 0 ≤ timesW v u ∧ timesW v u ≤ 4294967295 := wordOf_range _ _
theorem turnW_range (n : Nat) (v : Int) (h : 0 ≤ v ∧ v ≤ 4294967295) : 0 ≤ turnW n v ∧ turnW n v ≤ 4294967295 := by
  cases n
  · exact h
  · exact wordOf_range _ _

set_option maxHeartbeats 1000000 in
theorem points_spec (v u k : Int) (hv : 0 ≤ v ∧ v ≤ 4294967295) (hu : 0 ≤ u ∧ u ≤ 4294967295) (hk : 0 ≤ k ∧ k ≤ 4294967295) (w : World) :
    Calls Try.prog 19 #[.int .u32 v, .int .u32 u, .int .u32 k] w fun e w' => e = .returned (.bool true) ∧ Upd Non w w' := by
  have HV := Lib.hid hv
  have HU := Lib.hid hu
  have HK := Lib.hid hk
  have HT := Lib.hid (turnW_range (k % 4).toNat v hv)
  clear hv hu hk
  go_enter Try.func19, Try.ntmps19
  go_wp2_with fail
  refine (point_spec' v HV.out.1 HV.out.2 _).mono ?_
  rintro e w1 ⟨rfl, rfl⟩
  go_wp2_with fail
  refine (point_spec' u HU.out.1 HU.out.2 _).mono ?_
  rintro e w1 ⟨rfl, rfl⟩
  go_wp2_with fail
  refine (plus_spec v u _).mono ?_
  rintro e w1 ⟨rfl, U1⟩
  go_wp2_with fail
  refine (times_spec v u _).mono ?_
  rintro e w2 ⟨rfl, U2⟩
  go_wp2_with fail
  refine (turn_spec v k HK.out.1 HK.out.2 _).mono ?_
  rintro e w3 ⟨rfl, U3⟩
  go_wp2_with fail
  refine (told_spec v HV.out.1 HV.out.2 _).mono ?_
  rintro e w4 ⟨rfl, U4⟩
  go_wp2_with fail
  refine (refPlus_spec v u HV.out.1 HV.out.2 HU.out.1 HU.out.2 _).mono ?_
  rintro e w5 ⟨rfl, rfl⟩
  go_wp2_with fail
  refine (told_spec (plusW v u) (plusW_range v u).1 (plusW_range v u).2 _).mono ?_
  rintro e w5 ⟨rfl, U5⟩
  go_wp2_with fail
  refine (refTimes_spec v u HV.out.1 HV.out.2 HU.out.1 HU.out.2 _).mono ?_
  rintro e w6 ⟨rfl, rfl⟩
  go_wp2_with fail
  refine (told_spec (timesW v u) (timesW_range v u).1 (timesW_range v u).2 _).mono ?_
  rintro e w6 ⟨rfl, U6⟩
  go_wp2_with fail
  refine (refTurn_spec v k HV.out.1 HV.out.2 HK.out.1 HK.out.2 _).mono ?_
  rintro e w7 ⟨rfl, rfl⟩
  go_wp2_with fail
  refine (told_spec _ HT.out.1 HT.out.2 _).mono ?_
  rintro e w7 ⟨rfl, U7⟩
  go_wp2_with fail
  go_ret
  exact ⟨rfl, by ((with_reducible repeat' first | exact Upd.refl _ _ | apply Upd.drew | apply Upd.drewN | apply Upd.alloc | refine Upd.setCell ?_ ?_ | refine Upd.call U7 ?_ ?_ | refine Upd.call U6 ?_ ?_ | refine Upd.call U5 ?_ ?_ | refine Upd.call U4 ?_ ?_ | refine Upd.call U3 ?_ ?_ | refine Upd.call U2 ?_ ?_ | refine Upd.call U1 ?_ ?_) <;> first | (intro _ _ h; exact h) | (intro _ _ h; exact h.elim) | (intro i h1 h2; exfalso; (try simp only at h2); omega) | (left; rfl) | (right; dsimp only; omega) | (right; omega))⟩

theorem rep2 : Rep 13835058055282163712 (-2) := by
  have := rep_fl (-2) (by decide)
  rwa [show fl (-2) = 13835058055282163712 from by decide] at this
theorem repL : Rep 13898108450065350656 (-32768) := by
  have := repLo
  rwa [lo_const] at this
theorem lit_eq (x y : Nat) (a b : Int) (hx : Rep x a) (hy : Rep y b) (w : World) : (binOp .eql 41 (.complex .f64 x y) (.complex .f64 x y)).run Try.prog w = .ok (.bool true) w := by
  rw [ceq 41 hx hy hx hy]; simp

set_option maxHeartbeats 1000000 in
theorem awake_spec (w : World) : Calls Try.prog 20 #[] w fun e w' => e = .returned (.bool true) ∧ Upd Non w w' := by
  have c1 := fun w => point_spec' 131075 (by decide) (by decide) w
  have c2 := fun w => turn_spec 131075 1 (by decide) (by decide) w
  have c3 := fun w => word_spec 262142 (by decide) (by decide) w
  have c4 := fun w => plus_spec 32767 1 w
  have c5 := fun w => times_spec 300 300 w
  rw [show X 131075 = 4613937818241073152 from by decide, show Y 131075 = 4611686018427387904 from by decide] at c1
  rw [show X 131075 = 4613937818241073152 from by decide, show Y 131075 = 4611686018427387904 from by decide, show turnW ((1 : Int) % 4).toNat 131075 = 262142 from by decide, show X 262142 = 13835058055282163712 from by decide, show Y 262142 = 4613937818241073152 from by decide] at c2
  rw [show X 262142 = 13835058055282163712 from by decide, show Y 262142 = 4613937818241073152 from by decide] at c3
  rw [show X 32767 = 4674736138332667904 from by decide, show Y 32767 = 0 from by decide, show X 1 = 4607182418800017408 from by decide, show Y 1 = 0 from by decide, show X (plusW 32767 1) = 13898108450065350656 from by decide, show Y (plusW 32767 1) = 0 from by decide] at c4
  rw [show X 300 = 4643985272004935680 from by decide, show Y 300 = 0 from by decide, show X (timesW 300 300) = 4672453827071311872 from by decide, show Y (timesW 300 300) = 0 from by decide] at c5
  have q1 := fun w => lit_eq 4613937818241073152 4611686018427387904 3 2 (rep_fl 3 (by decide)) (rep_fl 2 (by decide)) w
  have q2 := fun w => lit_eq 13835058055282163712 4613937818241073152 (-2) 3 rep2 (rep_fl 3 (by decide)) w
  have q3 := fun w => lit_eq 13898108450065350656 0 (-32768) 0 repL (rep_fl 0 (by decide)) w
  have q4 := fun w => lit_eq 4672453827071311872 0 24464 0 (rep_fl 24464 (by decide)) (rep_fl 0 (by decide)) w
  go_enter Try.func20, Try.ntmps20
  go_wp2_with fail
  refine (c1 _).mono ?_
  rintro e w1 ⟨rfl, rfl⟩
  go_wp2_with fail
  refine (c2 _).mono ?_
  rintro e w1 ⟨rfl, U1⟩
  go_wp2_with fail
  refine (c3 _).mono ?_
  rintro e w2 ⟨rfl, U2⟩
  go_wp2_with fail
  refine (c4 _).mono ?_
  rintro e w3 ⟨rfl, U3⟩
  go_wp2_with fail
  refine (c5 _).mono ?_
  rintro e w4 ⟨rfl, U4⟩
  go_wp2_with fail
  go_ret
  exact ⟨rfl, by ((with_reducible repeat' first | exact Upd.refl _ _ | apply Upd.drew | apply Upd.drewN | apply Upd.alloc | refine Upd.setCell ?_ ?_ | refine Upd.call U4 ?_ ?_ | refine Upd.call U3 ?_ ?_ | refine Upd.call U2 ?_ ?_ | refine Upd.call U1 ?_ ?_) <;> first | (intro _ _ h; exact h) | (intro _ _ h; exact h.elim) | (intro i h1 h2; exfalso; (try simp only at h2); omega) | (left; rfl) | (right; dsimp only; omega) | (right; omega))⟩

theorem points_law (v u k : Int) (hv : 0 ≤ v ∧ v ≤ 4294967295) (hu : 0 ≤ u ∧ u ≤ 4294967295) (hk : 0 ≤ k ∧ k ≤ 4294967295) (w : World) :
    Calls Try.prog 4 #[.int .u32 v, .int .u32 u, .int .u32 k] w fun e w' => e = .returned (.bool true) ∧ Upd Non w w' := by
  have HV := Lib.hid hv
  have HU := Lib.hid hu
  have HK := Lib.hid hk
  clear hv hu hk
  go_enter Try.func4, Try.ntmps4
  go_wp2_with fail
  refine (points_spec v u k HV.out HU.out HK.out _).mono ?_
  rintro e w1 ⟨rfl, U1⟩
  go_wp2_with fail
  refine (points_spec u v v HU.out HV.out HV.out _).mono ?_
  rintro e w2 ⟨rfl, U2⟩
  go_wp2_with fail
  refine (awake_spec _).mono ?_
  rintro e w3 ⟨rfl, U3⟩
  go_wp2_with fail
  go_ret
  exact ⟨rfl, by ((with_reducible repeat' first | exact Upd.refl _ _ | apply Upd.drew | apply Upd.drewN | apply Upd.alloc | refine Upd.setCell ?_ ?_ | refine Upd.call U3 ?_ ?_ | refine Upd.call U2 ?_ ?_ | refine Upd.call U1 ?_ ?_) <;> first | (intro _ _ h; exact h) | (intro _ _ h; exact h.elim) | (intro i h1 h2; exfalso; (try simp only at h2); omega) | (left; rfl) | (right; dsimp only; omega) | (right; omega))⟩
end Go.Proofs.Ytnmbkhofikbcjaa
